import Derived.Test.Qxb6500275aGreatDoorPp1
set_option maxRecDepth 100000
set_option linter.unusedVariables false
set_option linter.unusedSimpArgs false
namespace Go.Proofs.Qxb6500275aGreatDoor
open Go Go.RowKit
section
variable {w : World} {mb pb cb x : Nat} {M : Mod} {p : PS}
theorem split_empty : Calls Tryz.prog 86 #[.string ⟨#[]⟩] w (Pure w (.tuple #[.string ⟨#[]⟩, .string ⟨#[]⟩])) := by
  go_enter Tryz.func86, Tryz.ntmps86
  go_wp2
  go_loopw [4] (fun ii w1 => ii = .int .i64 0 ∧ w1 = w) (fun ii _ => 0)
  case atStart => exact ⟨rfl, rfl⟩
  case round =>
    obtain ⟨rfl, rfl⟩ := hrel
    go_wp2
    go_ret2
    exact ⟨rfl, Kp.refl _ _⟩
def EP (w : World) (o : Option (Nat × Nat)) (en : Ending) (w' : World) : Prop :=
  Kp (fun _ => False) w w' ∧ match o with
    | some (t, g) => en = .returned (.tuple #[.int .i64 t, .int .i64 g, .bool true])
    | none => ∃ a b, en = .returned (.tuple #[.int .i64 a, .int .i64 b, .bool false])
theorem typeOf_mem {f : Int} {t : Ty} (hM : ModOk M) (h : M.typeOf f = some t) : TyOk t := by
  unfold Mod.typeOf Mod.typeAt at h
  rcases iteC h with ⟨_, h1⟩ | ⟨_, h1⟩
  · simp at h1
  · exact hM.types t (List.mem_of_getElem? h1)
set_option maxHeartbeats 8000000 in
theorem effect_16 (hM : ModOk M) (h : Md w mb M) (i : Ins) (hi : InsOk i) (ho : i.op = 16) : Calls Tryz.prog 211 #[.pointer (some ⟨mb, 0, none⟩), i.val] w (EP w (effectP M i)) := by
  have hE : effectP M i = match M.typeOf i.x with | none => none | some t => some (t.p.size, t.q.size) := by
    unfold effectP
    rw [if_neg (by omega), if_neg (by omega), if_neg (by omega), if_neg (by omega), if_neg (by omega), if_pos ho]
    rfl
  rw [hE]
  have hx := hi.x
  unfold u32R at hx
  have HM : Hid _ := h
  have HO : Hid _ := hM
  obtain ⟨op, X, Y⟩ := i
  dsimp only at ho hx
  subst ho
  obtain ⟨X, rfl⟩ := Int.eq_ofNat_of_zero_le hx.1
  unfold Ins.val
  dsimp only
  have htc := fun (w' : World) (hm : Md w' mb M) => typeOf_calls hM hm (X : Int) (by omega)
  have htk := fun t (ht : M.typeOf (X : Int) = some t) => typeOf_mem hM ht
  generalize M.typeOf (X : Int) = o at *
  clear hE hi h hM
  cases o with
  | none =>
    go_enter Tryz.func211, Tryz.ntmps211
    go_wp2_with (first | (go_at_call 85; refine (htc _ (HM.out.keep ((Kp.refl (fun _ => False) _).alloc _) (fun k hk => hk.elim))).mono ?_; rintro en w2 ⟨rfl, hk2⟩; unfold encT) | (go_at_call 86; refine split_empty.mono ?_; rintro en w3 ⟨rfl, hk3⟩))
    go_ret3
    exact ⟨(((Kp.refl _ _).alloc _).trans hk2).trans hk3, _, _, rfl⟩
  | some t =>
    have htk := htk t rfl
    have hp := htk.np
    have hq := htk.nq
    have HT : Hid _ := htk
    clear htk
    go_enter Tryz.func211, Tryz.ntmps211
    go_wp2_with (first | (go_at_call 85; refine (htc _ (HM.out.keep ((Kp.refl (fun _ => False) _).alloc _) (fun k hk => hk.elim))).mono ?_; rintro en w2 ⟨rfl, hk2⟩; unfold encT) | (go_at_call 86; refine (split_calls t HT.out.p HT.out.np HT.out.nq).mono ?_; rintro en w3 ⟨rfl, hk3⟩))
    go_ret3
    exact ⟨(((Kp.refl _ _).alloc _).trans hk2).trans hk3, rfl⟩
set_option maxHeartbeats 8000000 in
theorem effect_17 (hM : ModOk M) (h : Md w mb M) (i : Ins) (hi : InsOk i) (ho : i.op = 17) : Calls Tryz.prog 211 #[.pointer (some ⟨mb, 0, none⟩), i.val] w (EP w (effectP M i)) := by
  have hE : effectP M i = match M.types[i.x.toNat]? with | none => none | some t => some (t.p.size + 1, t.q.size) := by
    unfold effectP
    rw [if_neg (by omega), if_neg (by omega), if_neg (by omega), if_neg (by omega), if_neg (by omega), if_neg (by omega), if_pos ho]
    rfl
  rw [hE]
  have hx := hi.x
  unfold u32R at hx
  obtain ⟨op, X, Y⟩ := i
  dsimp only at ho hx
  subst ho
  obtain ⟨X, rfl⟩ := Int.eq_ofNat_of_zero_le hx.1
  unfold Ins.val
  dsimp only
  rw [Int.toNat_natCast]
  obtain ⟨ta, ia, fa, m0, m1, m2, tat, _, _⟩ := h.lists
  have hml := h.lt
  have hnt : M.types.length ≤ 8 := hM.nt
  obtain ⟨nt, hn⟩ : ∃ nt, M.types.length = nt := ⟨_, rfl⟩
  rw [hn] at m0 hnt
  have HO : Hid _ := hM
  cases ht : M.types[X]? with
  | none =>
    have hge : (nt : Int) ≤ (X : Int) := by
      have := List.getElem?_eq_none_iff.1 ht
      omega
    clear hE hi h hM tat m1 m2 ht hn
    go_enter Tryz.func211, Tryz.ntmps211
    go_wp2_with fail
    go_quiet (fail)
    go_wp2
    go_ret3
    exact ⟨((Kp.refl _ _).alloc _).drewM _, _, _, rfl⟩
  | some t =>
    have hlt := (List.getElem?_eq_some_iff.1 ht).1
    have htk := hM.types t (List.mem_of_getElem? ht)
    obtain ⟨k, rfl, ct⟩ := tat X t ht
    have hge : decide ((nt : Int) ≤ (X : Int)) = false := decide_eq_false (by omega)
    have hge2 : (X : Int) < (nt : Int) := by omega
    have hkl : k < w.heap.size := lt_of_cell ct
    have hp := htk.np
    have hq := htk.nq
    have HT : Hid _ := htk
    clear hE hi h hM tat m1 m2 ht hn hlt htk
    go_enter Tryz.func211, Tryz.ntmps211
    go_wp2_with fail
    go_quiet (fail)
    go_wp2_with fail
    have HK : Hid (Kp (fun _ => False) w ((w.alloc (.cells #[.int .u8 17, .int .u32 (X : Int), .int .u64 Y] 129)).drewN nq)) := ((Kp.refl _ _).alloc _).drewM _
    have x1 : ((w.alloc (.cells #[.int .u8 17, .int .u32 (X : Int), .int .u64 Y] 129)).drewN nq).cell? ⟨w.heap.size, 1, none⟩ = some (.int .u32 (X : Int)) := by
      rw [World.cell?_drewN, World.cell?_alloc_at _ _ _ _ rfl]; rfl
    have m0' : ((w.alloc (.cells #[.int .u8 17, .int .u32 (X : Int), .int .u64 Y] 129)).drewN nq).cell? ⟨mb, 0, none⟩ = some (.slice (some ⟨k, 0, none⟩) nt nt) := by
      rw [HK.out.cell (p := ⟨mb, 0, none⟩) hml (fun h => h)]; exact m0
    have ct' : ((w.alloc (.cells #[.int .u8 17, .int .u32 (X : Int), .int .u64 Y] 129)).drewN nq).cell? ⟨k, X, none⟩ = some (.string t.text) := by
      rw [HK.out.cell (p := ⟨k, X, none⟩) hkl (fun h => h)]; exact ct
    generalize ((w.alloc (.cells #[.int .u8 17, .int .u32 (X : Int), .int .u64 Y] 129)).drewN nq) = w5 at HK x1 m0' ct' ⊢
    clear m0 ct
    go_quiet ((go_at_call 86; exact Calls.quiet_of (split_quiet t HT.out.p HT.out.np HT.out.nq)))
    go_wp2
    go_ret3
    exact ⟨HK.out.drewM _, rfl⟩
set_option maxHeartbeats 16000000 in
theorem effect_rest (i : Ins) (hi : InsOk i) (ho : ¬ (i.op = 16 ∨ i.op = 17)) : Calls Tryz.prog 211 #[.pointer (some ⟨mb, 0, none⟩), i.val] w (EP w (effectP M i)) := by
  have ho256 : i.op < 256 := by
    have := hi.op
    unfold opOk at this
    omega
  obtain ⟨op, X, Y⟩ := i
  obtain ⟨E, hE⟩ : ∃ E, effectP M ⟨op, X, Y⟩ = E := ⟨_, rfl⟩
  rw [hE]
  unfold effectP at hE
  have HE : Hid _ := hE
  unfold Ins.val
  dsimp only at ho ho256 HE ⊢
  have h16 : ((op : Int) == 16) = false := by rw [beq_eq_false_iff_ne]; omega
  have h17 : ((op : Int) == 17) = false := by rw [beq_eq_false_iff_ne]; omega
  have hns := fun (w' : World) => numSig_calls (w := w') op ho256
  clear hE hi
  go_enter Tryz.func211, Tryz.ntmps211
  go_wp2_with (go_at_call 208; refine (hns _).mono ?_; rintro en w3 ⟨rfl, hk3⟩; unfold enc3)
  all_goals
    go_ret3
    simp only [beq_eq_false_iff_ne, beq_iff_eq, ne_eq] at *
    have hE := HE.out
    clear HE
    first
    | (repeat (first | rw [if_pos (by omega)] at hE | rw [if_neg (by omega)] at hE)
       rw [← hE]
       exact ⟨(Kp.refl _ _).alloc _, rfl⟩)
    | (repeat (first | rw [if_pos (by omega)] at hE | rw [if_neg (by omega)] at hE)
       by_cases hz : (numSig op).1 = 0
       · rw [if_pos hz] at hE
         rw [← hE, hz]
         exact ⟨((Kp.refl _ _).alloc _).trans hk3, _, _, rfl⟩
       · rw [if_neg hz] at hE
         rw [← hE]
         have hzb : (((numSig op).1 : Int) != 0) = true := by rw [bne_iff_ne]; omega
         rw [hzb]
         exact ⟨((Kp.refl _ _).alloc _).trans hk3, rfl⟩)
theorem effect_calls (hM : ModOk M) (h : Md w mb M) (i : Ins) (hi : InsOk i) : Calls Tryz.prog 211 #[.pointer (some ⟨mb, 0, none⟩), i.val] w (EP w (effectP M i)) := by
  by_cases h16 : i.op = 16
  · exact effect_16 hM h i hi h16
  by_cases h17 : i.op = 17
  · exact effect_17 hM h i hi h17
  · exact effect_rest i hi (by omega)
end
end Go.Proofs.Qxb6500275aGreatDoor
