import Derived.Test.Qxb6500275aGreatDoorHo1
import Derived.Test.Qxb6500275aGreatDoorMe7
import Derived.Stop.Asserts
set_option maxRecDepth 100000
set_option linter.unusedVariables false
set_option linter.unusedSimpArgs false
namespace Go.Proofs.Qxb6500275aGreatDoor
open Go Go.RowKit
/- an interface value looked into -/
theorem ta_189_189 (v : Value) (w : World) : (Instr.typeAssert (.iface 189 v) 184 189 true).run Tryz.prog w = .ok (.tuple #[v, .bool true]) w := by kernel_rfl
theorem ta_189_248 (v : Value) (w : World) : (Instr.typeAssert (.iface 189 v) 184 248 true).run Tryz.prog w = .ok (.tuple #[.agg #[], .bool false]) w := by kernel_rfl
theorem ta_189_250 (v : Value) (w : World) : (Instr.typeAssert (.iface 189 v) 184 250 true).run Tryz.prog w = .ok (.tuple #[.nilFunc, .bool false]) w := by kernel_rfl
theorem ta_189_251 (v : Value) (w : World) : (Instr.typeAssert (.iface 189 v) 184 251 true).run Tryz.prog w = .ok (.tuple #[.int .i64 0, .bool false]) w := by kernel_rfl
theorem ta_189_279 (v : Value) (w : World) : (Instr.typeAssert (.iface 189 v) 184 279 true).run Tryz.prog w = .ok (.tuple #[.iface 189 v, .bool true]) w := by kernel_rfl
theorem ta_248_189 (v : Value) (w : World) : (Instr.typeAssert (.iface 248 v) 184 189 true).run Tryz.prog w = .ok (.tuple #[.pointer none, .bool false]) w := by kernel_rfl
theorem ta_248_248 (v : Value) (w : World) : (Instr.typeAssert (.iface 248 v) 184 248 true).run Tryz.prog w = .ok (.tuple #[v, .bool true]) w := by kernel_rfl
theorem ta_248_250 (v : Value) (w : World) : (Instr.typeAssert (.iface 248 v) 184 250 true).run Tryz.prog w = .ok (.tuple #[.nilFunc, .bool false]) w := by kernel_rfl
theorem ta_248_251 (v : Value) (w : World) : (Instr.typeAssert (.iface 248 v) 184 251 true).run Tryz.prog w = .ok (.tuple #[.int .i64 0, .bool false]) w := by kernel_rfl
theorem ta_248_279 (v : Value) (w : World) : (Instr.typeAssert (.iface 248 v) 184 279 true).run Tryz.prog w = .ok (.tuple #[.nilIface, .bool false]) w := run_typeAssert_lacksB Tryz.underlying279 (by kernel_rfl) (by kernel_rfl) v 184 w
theorem ta_250_189 (v : Value) (w : World) : (Instr.typeAssert (.iface 250 v) 184 189 true).run Tryz.prog w = .ok (.tuple #[.pointer none, .bool false]) w := by kernel_rfl
theorem ta_250_248 (v : Value) (w : World) : (Instr.typeAssert (.iface 250 v) 184 248 true).run Tryz.prog w = .ok (.tuple #[.agg #[], .bool false]) w := by kernel_rfl
theorem ta_250_250 (v : Value) (w : World) : (Instr.typeAssert (.iface 250 v) 184 250 true).run Tryz.prog w = .ok (.tuple #[v, .bool true]) w := by kernel_rfl
theorem ta_250_251 (v : Value) (w : World) : (Instr.typeAssert (.iface 250 v) 184 251 true).run Tryz.prog w = .ok (.tuple #[.int .i64 0, .bool false]) w := by kernel_rfl
theorem ta_250_279 (v : Value) (w : World) : (Instr.typeAssert (.iface 250 v) 184 279 true).run Tryz.prog w = .ok (.tuple #[.nilIface, .bool false]) w := run_typeAssert_lacksB Tryz.underlying279 (by kernel_rfl) (by kernel_rfl) v 184 w
theorem ta_251_189 (v : Value) (w : World) : (Instr.typeAssert (.iface 251 v) 184 189 true).run Tryz.prog w = .ok (.tuple #[.pointer none, .bool false]) w := by kernel_rfl
theorem ta_251_248 (v : Value) (w : World) : (Instr.typeAssert (.iface 251 v) 184 248 true).run Tryz.prog w = .ok (.tuple #[.agg #[], .bool false]) w := by kernel_rfl
theorem ta_251_250 (v : Value) (w : World) : (Instr.typeAssert (.iface 251 v) 184 250 true).run Tryz.prog w = .ok (.tuple #[.nilFunc, .bool false]) w := by kernel_rfl
theorem ta_251_251 (v : Value) (w : World) : (Instr.typeAssert (.iface 251 v) 184 251 true).run Tryz.prog w = .ok (.tuple #[v, .bool true]) w := by kernel_rfl
theorem ta_251_279 (v : Value) (w : World) : (Instr.typeAssert (.iface 251 v) 184 279 true).run Tryz.prog w = .ok (.tuple #[.nilIface, .bool false]) w := run_typeAssert_lacksB Tryz.underlying279 (by kernel_rfl) (by kernel_rfl) v 184 w
theorem ta_0_189 (w : World) : (Instr.typeAssert (.nilIface) 184 189 true).run Tryz.prog w = .ok (.tuple #[.pointer none, .bool false]) w := by kernel_rfl
theorem ta_0_248 (w : World) : (Instr.typeAssert (.nilIface) 184 248 true).run Tryz.prog w = .ok (.tuple #[.agg #[], .bool false]) w := by kernel_rfl
theorem ta_0_250 (w : World) : (Instr.typeAssert (.nilIface) 184 250 true).run Tryz.prog w = .ok (.tuple #[.nilFunc, .bool false]) w := by kernel_rfl
theorem ta_0_251 (w : World) : (Instr.typeAssert (.nilIface) 184 251 true).run Tryz.prog w = .ok (.tuple #[.int .i64 0, .bool false]) w := by kernel_rfl
theorem ta_0_279 (w : World) : (Instr.typeAssert (.nilIface) 184 279 true).run Tryz.prog w = .ok (.tuple #[.nilIface, .bool false]) w := by kernel_rfl
theorem ta_189 (v : Value) (w : World) : (Instr.typeAssert (.iface 189 v) 184 189 false).run Tryz.prog w = .ok v w := by kernel_rfl
/- THE HOST, as plain data: the kinds bound, the tape's words to come, the trace's bytes, its rows -/
structure Hm where
  bd : List Nat
  tp : List Nat
  tr : List Nat
  rows : Nat
structure HmOk (H : Hm) : Prop where
  bd : H.bd.length ≤ 4 ∧ ∀ k, k ∈ H.bd → 1 ≤ k ∧ k ≤ 4
  tp : H.tp.length ≤ 6 ∧ ∀ v, v ∈ H.tp → v < 18446744073709551616
  tr : H.tr.length ≤ H.rows * 72 ∧ (∀ v, v ∈ H.tr → v < 256) ∧ H.tr.count 32 = H.rows
  rows : H.rows ≤ 12
def takeV (hb : Nat) : Value := .func (.func 265) #[.pointer (some ⟨hb, 0, none⟩)] #[]
/- a host function's value, live; T: the blocks of the tape functions -/
def Fc (w : World) (hb : Nat) (T : Nat → Prop) (k : Nat) (v : Value) : Prop :=
  (k = 1 ∧ ∃ fb, v = .iface 189 (.pointer (some ⟨fb, 0, none⟩)) ∧ T fb ∧ Blk w fb 1 (fun _ => takeV hb)) ∨ (k = 2 ∧ v = .iface 248 (.agg #[])) ∨ (k = 3 ∧ v = .iface 250 (.func (.func 266) #[] #[])) ∨ (k = 4 ∧ v = .iface 251 (.int .i64 49))
/- .. stale -/
def Fs (w : World) (T : Nat → Prop) (v : Value) : Prop :=
  v = .nilIface ∨ (∃ fb, v = .iface 189 (.pointer (some ⟨fb, 0, none⟩)) ∧ T fb ∧ Blk w fb 1 (fun _ => .nilFunc)) ∨ v = .iface 248 (.agg #[]) ∨ v = .iface 250 (.func (.func 266) #[] #[]) ∨ v = .iface 251 (.int .i64 49)
structure HL (w : World) (F G C : Nat → Value) (hb bb tb : Nat) (T : Nat → Prop) (H : Hm) (head : Nat) : Prop where
  f0 : F 0 = .slice (some ⟨bb, 0, none⟩) H.bd.length 4
  tp : ∀ (i v : Nat), H.tp[i]? = some v → F (1 + (head + i)) = .int .u64 v
  f7 : F 7 = .int .i64 head
  f8 : F 8 = .int .i64 H.tp.length
  f9 : F 9 = .slice (some ⟨tb, 0, none⟩) H.tr.length 864
  f10 : F 10 = .int .i64 H.rows
  hd : head + H.tp.length ≤ 6
  tr : ∀ (i v : Nat), H.tr[i]? = some v → C i = .int .u8 v
  bd : ∀ (i k : Nat), H.bd[i]? = some k → Fc w hb T k (G i)
  st : ∀ i, H.bd.length ≤ i → i < 4 → Fs w T (G i)
structure Hw (w : World) (hb bb tb : Nat) (T : Nat → Prop) (H : Hm) : Prop where
  is : ∃ F G C head, Blk w hb 11 F ∧ Blk w bb 4 G ∧ Blk w tb 864 C ∧ HL w F G C hb bb tb T H head
  d1 : hb ≠ bb
  d2 : hb ≠ tb
  d3 : bb ≠ tb
  t : ¬ T hb ∧ ¬ T bb ∧ ¬ T tb
section
variable {w w' : World} {hb bb tb : Nat} {T : Nat → Prop} {H : Hm}
theorem Fc.keep {S : Nat → Prop} {k : Nat} {v : Value} (h : Fc w hb T k v) (hk : Kp S w w') (hs : ∀ k, T k → ¬ S k) : Fc w' hb T k v := by
  rcases h with ⟨h1, fb, h2, h3, h4⟩ | h | h | h
  · exact .inl ⟨h1, fb, h2, h3, h4.keep hk (hs fb h3)⟩
  · exact .inr (.inl h)
  · exact .inr (.inr (.inl h))
  · exact .inr (.inr (.inr h))
theorem Fs.keep {S : Nat → Prop} {v : Value} (h : Fs w T v) (hk : Kp S w w') (hs : ∀ k, T k → ¬ S k) : Fs w' T v := by
  rcases h with h | ⟨fb, h2, h3, h4⟩ | h
  · exact .inl h
  · exact .inr (.inl ⟨fb, h2, h3, h4.keep hk (hs fb h3)⟩)
  · exact .inr (.inr h)
theorem HL.keep {F G C : Nat → Value} {head : Nat} {S : Nat → Prop} (h : HL w F G C hb bb tb T H head) (hk : Kp S w w') (hs : ∀ k, T k → ¬ S k) : HL w' F G C hb bb tb T H head :=
  ⟨h.f0, h.tp, h.f7, h.f8, h.f9, h.f10, h.hd, h.tr, fun i k hi => (h.bd i k hi).keep hk hs, fun i h1 h2 => (h.st i h1 h2).keep hk hs⟩
theorem Hw.keep {S : Nat → Prop} (h : Hw w hb bb tb T H) (hk : Kp S w w') (h1 : ¬ S hb) (h2 : ¬ S bb) (h3 : ¬ S tb) (hs : ∀ k, T k → ¬ S k) : Hw w' hb bb tb T H := by
  obtain ⟨⟨F, G, C, head, b1, b2, b3, hl⟩, d1, d2, d3, t⟩ := h
  exact ⟨⟨F, G, C, head, b1.keep hk h1, b2.keep hk h2, b3.keep hk h3, hl.keep hk hs⟩, d1, d2, d3, t⟩
/- which of the four -/
theorem kind_live {k : Nat} {v : Value} (h : Fc w hb T k v) : Calls Tryz.prog 95 #[v] w (Qm w (.int .i64 k)) := by
  rcases h with ⟨rfl, fb, rfl, _⟩ | ⟨rfl, rfl⟩ | ⟨rfl, rfl⟩ | ⟨rfl, rfl⟩
  · have a189 := ta_189_189
    go_enter Tryz.func95, Tryz.ntmps95
    go_wp2
    refine bodyPost_ret (v := .int .i64 1) (by simp [results, Tryz.results95, go_sem]) rfl ?_
    exact ⟨rfl, rfl⟩
  · have a189 := ta_248_189
    have a248 := ta_248_248
    go_enter Tryz.func95, Tryz.ntmps95
    go_wp2
    refine bodyPost_ret (v := .int .i64 2) (by simp [results, Tryz.results95, go_sem]) rfl ?_
    exact ⟨rfl, rfl⟩
  · have a189 := ta_250_189
    have a248 := ta_250_248
    have a250 := ta_250_250
    go_enter Tryz.func95, Tryz.ntmps95
    go_wp2
    refine bodyPost_ret (v := .int .i64 3) (by simp [results, Tryz.results95, go_sem]) rfl ?_
    exact ⟨rfl, rfl⟩
  · have a189 := ta_251_189
    have a248 := ta_251_248
    have a250 := ta_251_250
    have a251 := ta_251_251
    go_enter Tryz.func95, Tryz.ntmps95
    go_wp2
    refine bodyPost_ret (v := .int .i64 4) (by simp [results, Tryz.results95, go_sem]) rfl ?_
    exact ⟨rfl, rfl⟩
/- the trace is cut -/
theorem Hw.c (h : Hw w hb bb tb T H) : ∃ head : Nat, w.cell? ⟨hb, 0, none⟩ = some (.slice (some ⟨bb, 0, none⟩) H.bd.length 4) ∧ w.cell? ⟨hb, 7, none⟩ = some (.int .i64 head) ∧ w.cell? ⟨hb, 8, none⟩ = some (.int .i64 H.tp.length) ∧ w.cell? ⟨hb, 9, none⟩ = some (.slice (some ⟨tb, 0, none⟩) H.tr.length 864) ∧ w.cell? ⟨hb, 10, none⟩ = some (.int .i64 H.rows) ∧ (∀ i, i < 11 → w.frozen? ⟨hb, i, none⟩ = false) ∧ head + H.tp.length ≤ 6 := by
  obtain ⟨⟨F, G, C, head, b1, b2, b3, hl⟩, d1, d2, d3, t⟩ := h
  exact ⟨head, by rw [b1.cell (by decide), hl.f0], by rw [b1.cell (by decide), hl.f7], by rw [b1.cell (by decide), hl.f8], by rw [b1.cell (by decide), hl.f9], by rw [b1.cell (by decide), hl.f10], fun i hi => b1.fz hi, hl.hd⟩
/- a cell of the host's own is set -/
theorem Hw.set (h : Hw w hb bb tb T H) {i : Nat} (hi : i < 11) (v : Value) {H' : Hm} (hF : ∀ F G C head, HL w F G C hb bb tb T H head → ∃ head', HL w (upd F i v) G C hb bb tb T H' head') : Hw (w.setCell ⟨hb, i, none⟩ v) hb bb tb T H' := by
  obtain ⟨⟨F, G, C, head, b1, b2, b3, hl⟩, d1, d2, d3, t⟩ := h
  obtain ⟨head', h'⟩ := hF F G C head hl
  exact ⟨⟨_, G, C, head', b1.set hi v, b2.other (Ne.symm d1) v, b3.other (Ne.symm d2) v, h'.keep ((Kp.refl (fun k => k = hb) w).setCell (p := ⟨hb, i, none⟩) (.inl rfl) v) (fun k hk e => t.1 (e ▸ hk))⟩, d1, d2, d3, t⟩
theorem fresh_w (h : Hw w hb bb tb T H) : Hw ((w.setCell ⟨hb, 9, none⟩ (.slice (some ⟨tb, 0, none⟩) 0 864)).setCell ⟨hb, 10, none⟩ (.int .i64 0)) hb bb tb T { H with tr := [], rows := 0 } := by
  have h1 : Hw (w.setCell ⟨hb, 9, none⟩ (.slice (some ⟨tb, 0, none⟩) 0 864)) hb bb tb T { H with tr := [] } := h.set (by decide) _ (fun F G C head hl => ⟨head, by rw [upd_ne _ _ (by omega)]; exact hl.f0, fun i v hi => by
    have := (List.getElem?_eq_some_iff.1 hi).1
    have := hl.hd
    rw [upd_ne _ _ (by dsimp only at *; omega)]; exact hl.tp i v hi, by rw [upd_ne _ _ (by omega)]; exact hl.f7, by rw [upd_ne _ _ (by omega)]; exact hl.f8, upd_same _ _ _, by rw [upd_ne _ _ (by omega)]; exact hl.f10, hl.hd, fun i v hi => by simp at hi, hl.bd, hl.st⟩)
  exact h1.set (by decide) _ (fun F G C head hl => ⟨head, by rw [upd_ne _ _ (by omega)]; exact hl.f0, fun i v hi => by
    have := (List.getElem?_eq_some_iff.1 hi).1
    have := hl.hd
    rw [upd_ne _ _ (by dsimp only at *; omega)]; exact hl.tp i v hi, by rw [upd_ne _ _ (by omega)]; exact hl.f7, by rw [upd_ne _ _ (by omega)]; exact hl.f8, by rw [upd_ne _ _ (by omega)]; exact hl.f9, upd_same _ _ _, hl.hd, hl.tr, hl.bd, hl.st⟩)
theorem fresh_calls (h : Hw w hb bb tb T H) : Calls Tryz.prog 44 #[.pointer (some ⟨hb, 0, none⟩)] w (fun en w' => en = .returned (.tuple #[]) ∧ Kp (fun k => k = hb) w w' ∧ Hw w' hb bb tb T { H with tr := [], rows := 0 }) := by
  obtain ⟨head, c0, c7, c8, c9, c10, fz, _⟩ := h.c
  have g9 := fz 9 (by decide)
  have g10 := fz 10 (by decide)
  have HH : Hid _ := fresh_w h
  clear h fz
  go_enter Tryz.func44, Tryz.ntmps44
  go_wp2
  go_end0
  go_light
  exact ⟨rfl, ((Kp.refl (fun k => k = hb) w).setCell (p := ⟨hb, 9, none⟩) (.inl rfl) _).setCell (p := ⟨hb, 10, none⟩) (.inl rfl) _, HH.out⟩
end
end Go.Proofs.Qxb6500275aGreatDoor
