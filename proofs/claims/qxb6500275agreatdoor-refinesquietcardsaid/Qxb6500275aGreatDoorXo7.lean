import Derived.Test.Qxb6500275aGreatDoorXo6
set_option maxRecDepth 100000
set_option linter.unusedVariables false
set_option linter.unusedSimpArgs false
namespace Go.Proofs.Qxb6500275aGreatDoor
open Go Go.RowKit
section
variable {w0 w u : World} {N0 N : EN} {q : MQ} {g cap : Nat} {q0 q1 : List (MF × FT3)} {x b : MF × FT3}
set_option maxHeartbeats 16000000 in
theorem ltee_w (h : Ew w0 N0 w N q g cap q0 x) (hB : FB x.1) (hn : q0.length ≤ 10) {k : Nat} {Y : Int} {op : Nat} (ho : op = 34) {lv : MV} (hl : x.1.loc[k]? = some lv) {v : MV} {r' : MF} (hp : popM x.1 lv.t = some (v, r')) {bn : MF} (hpu : pushM { r' with loc := r'.loc.set k v } v = some bn) {q' : MQ} (hr : q.top bn = q') :
    Calls Tryz.prog 275 #[.pointer (some ⟨g, q0.length * 5, none⟩), .agg #[.int .u8 (op : Int), .int .u32 (k : Int), .int .u64 Y]] w (Ez w0 N0 0 q') := by
  obtain ⟨n, hnn⟩ : ∃ n, q0.length = n := ⟨_, rfl⟩
  have HNN : Hid (q0.length = n) := hnn
  rw [hnn]
  have hlv := hB.ok lv (.inl (List.mem_of_getElem? hl))
  obtain ⟨hBp, hvt, hvb⟩ := hB.pop hp
  have hkl := (List.getElem?_eq_some_iff.1 hl).1
  obtain ⟨nl, hnl⟩ : ∃ n, x.1.loc.length = n := ⟨_, rfl⟩
  have hnl10 : nl ≤ 10 := hnl ▸ hB.loc
  obtain ⟨gl, cl, hlsv, l1, l2, l3, l4, l5⟩ := h.frm.l.ptr (by omega)
  have hvat := valC_at hl
  have d0 := l4 _ _ hvat.1
  have d1 := l4 _ _ hvat.2
  rw [hnl] at hlsv hkl l2
  have HLV : Hid (x.2.l = .slice (some ⟨gl, 0, none⟩) nl cl) := hlsv
  have hki : (k : Int) < (nl : Int) := by omega
  have hki2 : ¬ (nl : Int) ≤ (k : Int) := by omega
  have hglne : gl ≠ g := fun e => h.fng (.inl (by rw [hlsv, e]; rfl))
  obtain ⟨x0, x1, x2, x3, x4, y3, y4, f0, f1, f2, f3, f4, fz, ap, fcp⟩ := h.cells HNN.out
  rw [hlsv] at f2
  obtain ⟨W, hW⟩ : ∃ W, (w.alloc (.cells #[.int .u8 (op : Int), .int .u32 (k : Int), .int .u64 Y] 129)).drew = W := ⟨_, rfl⟩
  have hKW : Kp (fun _ => False) w W := by rw [← hW]; exact ((Kp.refl _ _).alloc _).drew
  have HEW : Hid (Ew w0 N0 W N q g cap q0 x) := h.quiet hKW
  have e2 : W.cell? ⟨g, n * 5 + 2, none⟩ = some (.slice (some ⟨gl, 0, none⟩) nl cl) := (hKW.cell (p := ⟨g, n * 5 + 2, none⟩) (lt_of_cell f2) (fun h => h)).trans f2
  have e0 : W.cell? ⟨gl, k * 2, none⟩ = some (.int .u8 (lv.t : Int)) := (hKW.cell (p := ⟨gl, k * 2, none⟩) (lt_of_cell d0) (fun h => h)).trans d0
  have hCI : C3 W w.heap.size (.int .u8 (op : Int)) (.int .u32 (k : Int)) (.int .u64 Y) := by rw [← hW]; exact (C3.new w _ _ _ _).keep ((Kp.refl (fun _ => False) _).drew) (fun h => h)
  have HCI : Hid _ := hCI
  have eb := hCI.c1
  have ec := hCI.c0
  have HP : Hid (∀ u, Kp (fun _ => False) W u → Calls Tryz.prog 257 #[.pointer (some ⟨g, n * 5, none⟩), .int .u8 (lv.t : Int)] u (fun en u' => en = .returned (.tuple #[.agg #[.int .u8 (v.t : Int), .int .u64 (v.b : Int)], .bool true]) ∧ ∃ t', Fkm u u' N.vf q0 x r' t')) := fun u hu => by
    have := pop_w (HEW.out.quiet hu) hB hlv.1 hp
    rw [HNN.out] at this
    exact this
  have hwW : w.heap.size < W.heap.size := hCI.lt
  have n1 : gl < W.heap.size := lt_of_cell e0
  have n2 : g < W.heap.size := lt_of_cell e2
  have n3 : gl ≠ W.heap.size := by omega
  have n4 : g ≠ W.heap.size := by omega
  have n5 : w.heap.size ≠ W.heap.size := by omega
  have HFR : Hid (∀ k, FsB N.vf (q0 ++ [x]) k → k < W.heap.size) := fun k hk => HEW.out.fk.lt hk
  have HPOP : Hid _ := hp
  have HLK : Hid _ := hl
  have HNLE : Hid (x.1.loc.length = nl) := hnl
  have HRR : Hid _ := hr
  have HPU : Hid _ := hpu
  have HS := fun w => stuck_m true w
  have hob34 : ((op : Int) == 34) = true := by rw [beq_iff_eq]; omega
  have HWB : Hid (¬ N.all w.heap.size) := fun hk => Nat.lt_irrefl _ (h.all_lt hk)
  have hob : ((op : Int) == 32) = false := by rw [beq_eq_false_iff_ne]; omega
  clear hr hpu ho hKW hp hl hvat l4 l5 h hCI hnn hlsv x0 x1 x2 x3 x4 y3 y4 f0 f1 f3 f4 fz ap fcp hnl hB
  go_enter Tryz.func275, Tryz.ntmps275
  go_wp2_with fail
  go_region
  go_wp2_with fail
  clear hW f2 d0 d1
  refine Code.wp_mono (P := Tryz.prog) (Q := R275 w0 N0 N q g cap n q0 r' w.heap.size (.int .u8 (op : Int)) (.int .u32 (k : Int)) (.int .u64 Y) v) (fun e ac u hR => ?_) ?_
  · cases e with
    | normal =>
      obtain ⟨B, t', hd, hf, hB0, hBw, hV, hE, hI, hfo⟩ := hR.is
      obtain ⟨tmps, df⟩ := ac
      dsimp only at hd hf
      subst hd
      generalize (fun j => tmps.getD j undef) = u' at hf
      subst hf
      have HE : Hid _ := hE
      have HV : Hid _ := hV
      have HI : Hid _ := hI
      have hloc : r'.loc = x.1.loc := by obtain ⟨l0, _, _, _, rfl⟩ := popM_some HPOP.out; rfl
      have hl2 : r'.loc[k]? = some lv := by rw [hloc]; exact HLK.out
      have hnl2 : r'.loc.length = nl := by rw [hloc]; exact HNLE.out
      obtain ⟨gl2, cl2, hls2, q1, q2, q3, q4, q5⟩ := hE.frm.l.ptr (by dsimp only; omega)
      dsimp only at hls2 q4 q2
      have hva2 := valC_at hl2
      have d0 := q4 _ _ hva2.1
      have d1 := q4 _ _ hva2.2
      have s0 := q5 (k * 2)
      have s1 := q5 (k * 2 + 1)
      obtain ⟨x0, x1, x2, x3, x4, y3, y4, f0, f1, f2, f3, f4, fz, ap, fcp⟩ := hE.cells HNN.out
      dsimp only at f2
      rw [hls2, hnl2] at f2
      have HFL : Hid (Fkm u _ N.vf q0 (r', t') _ _) := (Fkm.setLoc (Fkm.start hE.fk) (i := k) (by dsimp only; omega) v hls2).quiet (Kp.refl _ _).drew
      dsimp only at HFL
      have b0 := hV.c0
      have b1 := hV.c1
      have i1 := hI.c1
      have i0 := hI.c0
      have hgl2 : gl2 < u.heap.size := q1
      have hall : ({ N with fs := q0 ++ [(r', t')] } : EN).all gl2 := ⟨4, .inr ⟨(r', t'), by simp, .inl (by dsimp only; rw [hls2]; rfl)⟩⟩
      have hg1 : gl2 ≠ w.heap.size := fun e => hfo (by rw [← e]; exact hall)
      have hg2 : gl2 ≠ B := fun e => hV.fo (by rw [← e]; exact hall)
      clear hall hfo
      clear hE hV hI q4 q5 hva2 hl2 hls2 x0 x1 x2 x3 x4 y3 y4 f0 f1 f3 f4 fz ap fcp hR e0 e2 eb ec n1 n2 n3 n4 n5 hglne hwW
      unfold fr275
      go_wp2_with fail
      go_region
      go_wp2_with fail
      have HE6 : Hid (Ew w0 N0 _ _ _ g cap q0 _) := HE.out.setTop HFL.out
      have HPP := push_w HE6.out HPU.out hvt hvb
      rw [HNN.out] at HPP
      refine HPP.mono ?_
      rintro en3 U8 ⟨rfl, t8, hF8⟩
      have HE8 : Hid _ := HE6.out.setTop hF8
      clear hF8
      go_wp2_with fail
      refine (HS _).mono ?_
      rintro en u9 ⟨rfl, rfl⟩
      go_wp2
      go_ret
      refine ⟨rfl, ?_⟩
      have hE := HE8.out.end_
      rw [← HRR.out]
      exact ⟨_, hE⟩
    | _ => exact (hR : False).elim
  go_region_with (go_at_call 257; first | (refine (HP.out _ ((Kp.refl _ _).alloc _).drew).mono ?_; rintro en u2 ⟨rfl, t', hF⟩; obtain ⟨z0, z1, z2, z3⟩ := keep2 hF.2.1 (fun hk => Nat.lt_irrefl _ (HFR.out _ hk))) | (refine (HP.out _ (Kp.refl _ _).drew).mono ?_; rintro en u2 ⟨rfl, t', hF⟩))
  all_goals first | exact lc_a HEW.out HCI.out HWB.out hF rfl (by kernel_rfl) | exact lc_b HEW.out HCI.out HWB.out hF rfl (by kernel_rfl)
end
end Go.Proofs.Qxb6500275aGreatDoor
