import Derived.Test.Qxb6500275aGreatDoorEna
set_option maxRecDepth 100000
set_option linter.unusedVariables false
set_option linter.unusedSimpArgs false
namespace Go.Proofs.Qxb6500275aGreatDoor
open Go Go.RowKit
theorem sLeb_10 (x : Int) : (sLeb x).length ≤ 10 := sLebN_le 10 x
theorem encC_len (op : Nat) (y : Int) : (encC op y).length ≤ 10 := by
  unfold encC
  split
  · exact sLeb_10 _
  split
  · exact sLeb_10 _
  split
  · rw [little_len]; omega
  · rw [little_len]; omega
/- an initialiser -/
set_option maxHeartbeats 4000000 in
theorem konst_calls {w : World} {wb : Nat} {v : Value} {l : List Nat} (h : Wr w wb v l) (i : Ins) (hi : ConOk i) (hsm : l.length ≤ 80000) :
    Calls Tryz.prog 126 #[.pointer (some ⟨wb, 0, none⟩), i.val] w (Wq w wb v (l ++ encCon i)) := by
  have hop := hi.op
  have hk0 : Kp (fun _ => False) w (w.alloc (.cells #[.int .u8 i.op, .int .u32 i.x, .int .u64 i.y] 129)) := (Kp.refl _ _).alloc _
  have hc := ins_calls (h.quiet hk0) i (.slice none 0 0) 0 [] (fun u v' _ => Ls.nil _ _ _ _) hi.ok (fun e => by omega) (by simp) (by simp) (by omega)
  have HE0 : Hid (encX [] i = i.op :: encC i.op i.y) := by
    show _ = _
    unfold encX encA
    rw [if_neg (by omega), if_neg (by omega), if_neg (by omega), if_neg (by omega), if_neg (by omega), if_pos hop]
  have hl10 := encC_len i.op i.y
  have HX : Hid (Bx (w.alloc (.cells #[.int .u8 i.op, .int .u32 i.x, .int .u64 i.y] 129)) w.heap.size ⟨i.op, i.x, i.y⟩ wb v) := Bx.new h i.op i.x i.y
  obtain ⟨x0, x1, x2, _, _⟩ := HX.out
  obtain ⟨op, x, y⟩ := i
  unfold Ins.val at hc ⊢
  dsimp only at hc x0 x1 x2 HE0 hk0 hl10 ⊢
  have HK0 : Hid _ := hk0
  clear h hk0 hi
  go_enter Tryz.func126, Tryz.ntmps126
  go_wp2_with fail
  refine hc.mono ?_
  rintro en u1 ⟨rfl, v1, r1, e1⟩
  rw [HE0.out] at r1
  have hb := r1.byte (by rw [List.length_append, List.length_cons]; omega) 11
  have HE1 : Hid (We w u1 wb v v1) := We.before HK0.out e1
  clear r1 e1 hc HX x0 x1 x2 HK0
  go_wp2_with fail
  refine hb.mono ?_
  rintro en u2 ⟨rfl, v2, r2, e2⟩
  have HR2 : Hid _ := r2
  have HE2 : Hid (We w u2 wb v v2) := HE1.out.trans e2
  clear r2 e2 hb
  go_wp2_with fail
  refine bodyPost_ret (v := .tuple #[]) (by simp [results, Tryz.results126, go_sem]) rfl ?_
  refine ⟨rfl, v2, ?_, HE2.out⟩
  unfold encCon
  simpa using HR2.out
end Go.Proofs.Qxb6500275aGreatDoor
