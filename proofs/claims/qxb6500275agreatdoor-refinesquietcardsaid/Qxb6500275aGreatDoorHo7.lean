import Derived.Test.Qxb6500275aGreatDoorHo6
set_option maxRecDepth 100000
set_option linter.unusedVariables false
set_option linter.unusedSimpArgs false
namespace Go.Proofs.Qxb6500275aGreatDoor
open Go Go.RowKit
/- the names -/
def kindN (s : ByteArray) : Option Nat := if s == tapeB then some 1 else if s == zeroB then some 2 else if s == sizeB then some 3 else if s == trapB then some 4 else none
theorem find_reg (s : ByteArray) : Instr.findNow .string (.string s) regM.toList 0 = some (match kindN s with | some k => some (k - 1, fnV (211 + k)) | none => none) := by
  unfold kindN
  cases h1 : s == tapeB
  · cases h2 : s == zeroB
    · cases h3 : s == sizeB
      · cases h4 : s == trapB
        · simp [regM, Instr.findNow, Instr.sameNow, h1, h2, h3, h4]
        · simp [regM, Instr.findNow, Instr.sameNow, h1, h2, h3, h4]
      · simp [regM, Instr.findNow, Instr.sameNow, h1, h2, h3]
    · simp [regM, Instr.findNow, Instr.sameNow, h1, h2]
  · simp [regM, Instr.findNow, Instr.sameNow, h1]
theorem kindN_le {s : ByteArray} {k : Nat} (h : kindN s = some k) : 1 ≤ k ∧ k ≤ 4 := by
  unfold kindN at h
  repeat' split at h
  all_goals (simp at h; try omega)
def bindS (H : Hm) (s : ByteArray) : Nat × Hm := if 8 < s.size then (1, H) else if 4 ≤ H.bd.length then (7, H) else match kindN s with
  | none => (30, H)
  | some k => (0, { H with bd := H.bd ++ [k] })
theorem bindS_ok {H : Hm} (h : HmOk H) (s : ByteArray) : HmOk (bindS H s).2 := by
  unfold bindS
  split
  · exact h
  split
  · exact h
  split
  · exact h
  · rename_i h4 k hk
    refine ⟨⟨by simp; omega, fun j hj => ?_⟩, h.tp, h.tr, h.rows⟩
    simp at hj
    rcases hj with hj | rfl
    · exact h.bd.2 j hj
    · exact kindN_le hk
theorem mkFn (fn : Go.Fn) (first cap : Array Value) (w : World) : (Instr.makeFunc fn first cap).run Tryz.prog w = .ok (.func fn first cap) w := rfl
theorem mkTape_calls (hb : Nat) (w : World) : Calls Tryz.prog 212 #[.pointer (some ⟨hb, 0, none⟩)] w (fun en w' => en = .returned (.iface 189 (.pointer (some ⟨w.heap.size, 0, none⟩))) ∧ w' = w.alloc (.cells #[takeV hb] 188)) := by
  have hmf := mkFn
  go_enter Tryz.func212, Tryz.ntmps212
  go_wp2
  refine bodyPost_ret (v := .iface 189 (.pointer (some ⟨w.heap.size, 0, none⟩))) (by simp [results, Tryz.results212, go_sem]) rfl ?_
  exact ⟨rfl, rfl⟩
theorem mkZero_calls (hb : Nat) (w : World) : Calls Tryz.prog 213 #[.pointer (some ⟨hb, 0, none⟩)] w (Qm w (.iface 248 (.agg #[]))) := by
  go_enter Tryz.func213, Tryz.ntmps213
  go_wp2
  refine bodyPost_ret (v := .iface 248 (.agg #[])) (by simp [results, Tryz.results213, go_sem]) rfl ?_
  exact ⟨rfl, rfl⟩
theorem mkSize_calls (hb : Nat) (w : World) : Calls Tryz.prog 214 #[.pointer (some ⟨hb, 0, none⟩)] w (Qm w (.iface 250 (.func (.func 266) #[] #[]))) := by
  go_enter Tryz.func214, Tryz.ntmps214
  go_wp2
  refine bodyPost_ret (v := .iface 250 (.func (.func 266) #[] #[])) (by simp [results, Tryz.results214, go_sem]) rfl ?_
  exact ⟨rfl, rfl⟩
theorem mkTrap_calls (hb : Nat) (w : World) : Calls Tryz.prog 215 #[.pointer (some ⟨hb, 0, none⟩)] w (Qm w (.iface 251 (.int .i64 49))) := by
  go_enter Tryz.func215, Tryz.ntmps215
  go_wp2
  refine bodyPost_ret (v := .iface 251 (.int .i64 49)) (by simp [results, Tryz.results215, go_sem]) rfl ?_
  exact ⟨rfl, rfl⟩
/- what a maker comes to -/
def Mk (hb : Nat) (k : Nat) (w : World) (en : Ending) (w' : World) : Prop := ∃ v, en = .returned v ∧ v.oneCell' = true ∧ Kp (fun _ => False) w w' ∧ Fc w' hb (fun b => w.heap.size ≤ b ∧ b < w'.heap.size) k v
theorem mk_calls (hb : Nat) {k : Nat} (h1 : 1 ≤ k) (h4 : k ≤ 4) (w : World) : Calls Tryz.prog (211 + k) #[.pointer (some ⟨hb, 0, none⟩)] w (Mk hb k w) := by
  have hk : k = 1 ∨ k = 2 ∨ k = 3 ∨ k = 4 := by omega
  rcases hk with rfl | rfl | rfl | rfl
  · refine (mkTape_calls hb w).mono ?_
    rintro en w' ⟨rfl, rfl⟩
    refine ⟨_, rfl, rfl, (Kp.refl _ _).alloc _, .inl ⟨rfl, w.heap.size, rfl, ⟨Nat.le_refl _, by simp⟩, fun i hi => ?_⟩⟩
    have hi0 : i = 0 := by omega
    subst hi0
    exact ⟨by rw [World.cell?_alloc_at _ _ _ _ rfl]; rfl, by unfold World.frozen?; rw [heap_alloc_new]; rfl⟩
  · refine (mkZero_calls hb w).mono ?_
    rintro en w' ⟨rfl, rfl⟩
    exact ⟨_, rfl, rfl, Kp.refl _ _, .inr (.inl ⟨rfl, rfl⟩)⟩
  · refine (mkSize_calls hb w).mono ?_
    rintro en w' ⟨rfl, rfl⟩
    exact ⟨_, rfl, rfl, Kp.refl _ _, .inr (.inr (.inl ⟨rfl, rfl⟩))⟩
  · refine (mkTrap_calls hb w).mono ?_
    rintro en w' ⟨rfl, rfl⟩
    exact ⟨_, rfl, rfl, Kp.refl _ _, .inr (.inr (.inr ⟨rfl, rfl⟩))⟩
theorem u166 : Tryz.prog.underlying 166 = some (.slice 184) := by kernel_rfl
theorem i184 : ∃ i : TypeInfo, Tryz.prog.info? 184 = some i ∧ i.zero = some .nilIface ∧ i.size = 1 ∧ i.bytes = 16 := by
  have h0 : (Tryz.prog.info? 184).map (fun i => (i.zero, i.size, i.bytes)) = some (some .nilIface, 1, 16) := by kernel_rfl
  cases h : Tryz.prog.info? 184 with
  | none => rw [h] at h0; simp at h0
  | some i =>
    rw [h] at h0
    simp at h0
    exact ⟨i, rfl, h0.1, h0.2.1, h0.2.2⟩
end Go.Proofs.Qxb6500275aGreatDoor
