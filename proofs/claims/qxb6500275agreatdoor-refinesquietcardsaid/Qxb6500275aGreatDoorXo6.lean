import Derived.Test.Qxb6500275aGreatDoorXo5
set_option maxRecDepth 100000
set_option linter.unusedVariables false
set_option linter.unusedSimpArgs false
namespace Go.Proofs.Qxb6500275aGreatDoor
open Go Go.RowKit
section
variable {w0 w u : World} {N0 N : EN} {q : MQ} {g cap : Nat} {q0 q1 : List (MF × FT3)} {x b : MF × FT3}
def fr275 (k0 k3 k6 k7 : Value) (u : Nat → Value) : Array Value := #[k0, u 1, u 2, k3, u 4, u 5, k6, k7, u 8, u 9, u 10, u 11, u 12, u 13, u 14, u 15, u 16, u 17, u 18, u 19, u 20, u 21, u 22, u 23, u 24, u 25, u 26, u 27, u 28, u 29, u 30, u 31, u 32, u 33, u 34, u 35, u 36, u 37, u 38, u 39, u 40, u 41, u 42, u 43, u 44, u 45, u 46, u 47, u 48, u 49, u 50, u 51, u 52, u 53, u 54, u 55, u 56, u 57, u 58, u 59, u 60, u 61, u 62, u 63, u 64, u 65, u 66, u 67, u 68, u 69, u 70, u 71, u 72, u 73, u 74, u 75, u 76, u 77]
theorem keep2 {W u : World} {a b : Value} {e : TypeId} {P : Nat → Prop} (hk : Kp P ((W.alloc (.cells #[a, b] e)).drew) u) (hp : ¬ P W.heap.size) : u.cell? ⟨W.heap.size, 0, none⟩ = some a ∧ u.cell? ⟨W.heap.size, 1, none⟩ = some b ∧ u.frozen? ⟨W.heap.size, 0, none⟩ = false ∧ u.frozen? ⟨W.heap.size, 1, none⟩ = false := by
  have hb : Blk ((W.alloc (.cells #[a, b] e)).drew) W.heap.size 2 (fun i => #[a, b][i]!) := (blk_al W #[a, b] e).keep ((Kp.refl (fun _ => False) _).drew) (fun h => h)
  have hb2 := hb.keep hk hp
  exact ⟨hb2.cell (by decide), hb2.cell (by decide), hb2.fz (by decide), hb2.fz (by decide)⟩
/- where the pop of local.set comes to, whatever the order -/
structure Q275 (w0 : World) (N0 N : EN) (q : MQ) (g cap n : Nat) (q0 : List (MF × FT3)) (r' : MF) (wb : Nat) (a b c : Value) (v : MV) (ac : Act) (u : World) : Prop where
  is : ∃ B t', ac.defers = [] ∧ ac.tmps = fr275 (.pointer (some ⟨g, n * 5, none⟩)) (.pointer (some ⟨wb, 0, none⟩)) (.pointer (some ⟨B, 0, none⟩)) (.bool true) (fun j => ac.tmps.getD j undef) ∧ w0.heap.size ≤ B ∧ B ≠ wb ∧
    Vb u { N with fs := q0 ++ [(r', t')] } B (.int .u8 (v.t : Int)) (.int .u64 (v.b : Int)) ∧ Ew w0 N0 u { N with fs := q0 ++ [(r', t')] } (q.top r') g cap q0 (r', t') ∧ C3 u wb a b c ∧ ¬ ({ N with fs := q0 ++ [(r', t')] } : EN).all wb
def R275 (w0 : World) (N0 N : EN) (q : MQ) (g cap n : Nat) (q0 : List (MF × FT3)) (r' : MF) (wb : Nat) (a b c : Value) (v : MV) : Exit → Act → World → Prop
  | .normal, ac, u => Q275 w0 N0 N q g cap n q0 r' wb a b c v ac u
  | _, _, _ => False
theorem lc_a {W u2 : World} {n wb : Nat} {r' : MF} {t' : FT3} {a b c : Value} {v : MV} {ac : Act} (h : Ew w0 N0 W N q g cap q0 x) (hI : C3 W wb a b c) (hwb : ¬ N.all wb) (hF : Fkm W.drew u2 N.vf q0 x r' t') (hd : ac.defers = []) (hf : ac.tmps = fr275 (.pointer (some ⟨g, n * 5, none⟩)) (.pointer (some ⟨wb, 0, none⟩)) (.pointer (some ⟨u2.heap.size, 0, none⟩)) (.bool true) (fun j => ac.tmps.getD j undef)) :
    Q275 w0 N0 N q g cap n q0 r' wb a b c v ac (u2.alloc (.cells #[.int .u8 (v.t : Int), .int .u64 (v.b : Int)] 229)) := by
  have hK : Kp (fun _ => False) W W.drew := (Kp.refl _ _).drew
  have h1 := (h.quiet hK).setTop hF
  have hg := (h.quiet hK).topGw hF
  have hI2 := (hI.keep hK (fun h => h)).keep hg.kp hwb
  have hA : Kp (fun _ => False) u2 (u2.alloc (.cells #[.int .u8 (v.t : Int), .int .u64 (v.b : Int)] 229)) := (Kp.refl _ _).alloc _
  exact ⟨_, t', hd, hf, h1.gw.kp.size, by have := hI2.lt; omega, Vb.new h1 _ _ _, h1.quiet hA, hI2.keep hA (fun h => h), fun hk => by
    rcases hg.own _ hk with h5 | h5
    · exact hwb h5
    · have := (hI.keep hK (fun h => h)).lt; omega⟩
theorem lc_b {W u2 : World} {n wb : Nat} {r' : MF} {t' : FT3} {a b c : Value} {v : MV} {ac : Act} (h : Ew w0 N0 W N q g cap q0 x) (hI : C3 W wb a b c) (hwb : ¬ N.all wb) (hF : Fkm (W.alloc (.cells #[.int .u8 0, .int .u64 0] 229)).drew u2 N.vf q0 x r' t') (hd : ac.defers = []) (hf : ac.tmps = fr275 (.pointer (some ⟨g, n * 5, none⟩)) (.pointer (some ⟨wb, 0, none⟩)) (.pointer (some ⟨W.heap.size, 0, none⟩)) (.bool true) (fun j => ac.tmps.getD j undef)) :
    Q275 w0 N0 N q g cap n q0 r' wb a b c v ac ((u2.setCell ⟨W.heap.size, 0, none⟩ (.int .u8 (v.t : Int))).setCell ⟨W.heap.size, 1, none⟩ (.int .u64 (v.b : Int))) := by
  have hK : Kp (fun _ => False) W (W.alloc (.cells #[.int .u8 0, .int .u64 0] 229)).drew := ((Kp.refl _ _).alloc _).drew
  have h1 := (h.quiet hK).setTop hF
  have hg := (h.quiet hK).topGw hF
  have hI2 := (hI.keep hK (fun h => h)).keep hg.kp hwb
  have hV := ((Vb.new h (.int .u8 0) (.int .u64 0) 229).quiet ((Kp.refl _ _).drew)).gw hg
  have hS := kp_set2 u2 W.heap.size (.int .u8 (v.t : Int)) (.int .u64 (v.b : Int))
  have hlt := hI.lt
  exact ⟨_, t', hd, hf, h.gw.kp.size, by omega, hV.set _ _, h1.scratch h.gw.kp.size hV.fo hS, hI2.keep hS (by omega), fun hk => by
    rcases hg.own _ hk with h5 | h5
    · exact hwb h5
    · have := (hI.keep hK (fun h => h)).lt; omega⟩
set_option maxHeartbeats 16000000 in
theorem lset_w (h : Ew w0 N0 w N q g cap q0 x) (hB : FB x.1) (hn : q0.length ≤ 10) {k : Nat} {Y : Int} {op : Nat} (ho : op = 33) {lv : MV} (hl : x.1.loc[k]? = some lv) {v : MV} {r' : MF} (hp : popM x.1 lv.t = some (v, r')) {q' : MQ} (hr : q.top { r' with loc := r'.loc.set k v } = q') :
    Calls Tryz.prog 275 #[.pointer (some ⟨g, q0.length * 5, none⟩), .agg #[.int .u8 (op : Int), .int .u32 (k : Int), .int .u64 Y]] w (Ez w0 N0 0 q') := by
  obtain ⟨n, hnn⟩ : ∃ n, q0.length = n := ⟨_, rfl⟩
  have HNN : Hid (q0.length = n) := hnn
  rw [hnn]
  have hlv := hB.ok lv (.inl (List.mem_of_getElem? hl))
  obtain ⟨hBp, hvt, hvb⟩ := hB.pop hp
  have hkl := (List.getElem?_eq_some_iff.1 hl).1
  obtain ⟨nl, hnl⟩ : ∃ n, x.1.loc.length = n := ⟨_, rfl⟩
  have hnl10 : nl ≤ 10 := hnl ▸ hB.loc
  obtain ⟨gl, cl, hlsv, l1, l2, l3, l4, l5⟩ := h.frm.l.ptr (by omega)
  have hvat := valC_at hl
  have d0 := l4 _ _ hvat.1
  have d1 := l4 _ _ hvat.2
  rw [hnl] at hlsv hkl l2
  have HLV : Hid (x.2.l = .slice (some ⟨gl, 0, none⟩) nl cl) := hlsv
  have hki : (k : Int) < (nl : Int) := by omega
  have hki2 : ¬ (nl : Int) ≤ (k : Int) := by omega
  have hglne : gl ≠ g := fun e => h.fng (.inl (by rw [hlsv, e]; rfl))
  obtain ⟨x0, x1, x2, x3, x4, y3, y4, f0, f1, f2, f3, f4, fz, ap, fcp⟩ := h.cells HNN.out
  rw [hlsv] at f2
  obtain ⟨W, hW⟩ : ∃ W, (w.alloc (.cells #[.int .u8 (op : Int), .int .u32 (k : Int), .int .u64 Y] 129)).drew = W := ⟨_, rfl⟩
  have hKW : Kp (fun _ => False) w W := by rw [← hW]; exact ((Kp.refl _ _).alloc _).drew
  have HEW : Hid (Ew w0 N0 W N q g cap q0 x) := h.quiet hKW
  have e2 : W.cell? ⟨g, n * 5 + 2, none⟩ = some (.slice (some ⟨gl, 0, none⟩) nl cl) := (hKW.cell (p := ⟨g, n * 5 + 2, none⟩) (lt_of_cell f2) (fun h => h)).trans f2
  have e0 : W.cell? ⟨gl, k * 2, none⟩ = some (.int .u8 (lv.t : Int)) := (hKW.cell (p := ⟨gl, k * 2, none⟩) (lt_of_cell d0) (fun h => h)).trans d0
  have hCI : C3 W w.heap.size (.int .u8 (op : Int)) (.int .u32 (k : Int)) (.int .u64 Y) := by rw [← hW]; exact (C3.new w _ _ _ _).keep ((Kp.refl (fun _ => False) _).drew) (fun h => h)
  have HCI : Hid _ := hCI
  have eb := hCI.c1
  have ec := hCI.c0
  have HP : Hid (∀ u, Kp (fun _ => False) W u → Calls Tryz.prog 257 #[.pointer (some ⟨g, n * 5, none⟩), .int .u8 (lv.t : Int)] u (fun en u' => en = .returned (.tuple #[.agg #[.int .u8 (v.t : Int), .int .u64 (v.b : Int)], .bool true]) ∧ ∃ t', Fkm u u' N.vf q0 x r' t')) := fun u hu => by
    have := pop_w (HEW.out.quiet hu) hB hlv.1 hp
    rw [HNN.out] at this
    exact this
  have hwW : w.heap.size < W.heap.size := hCI.lt
  have n1 : gl < W.heap.size := lt_of_cell e0
  have n2 : g < W.heap.size := lt_of_cell e2
  have n3 : gl ≠ W.heap.size := by omega
  have n4 : g ≠ W.heap.size := by omega
  have n5 : w.heap.size ≠ W.heap.size := by omega
  have HFR : Hid (∀ k, FsB N.vf (q0 ++ [x]) k → k < W.heap.size) := fun k hk => HEW.out.fk.lt hk
  have HPOP : Hid _ := hp
  have HLK : Hid _ := hl
  have HNLE : Hid (x.1.loc.length = nl) := hnl
  have HRR : Hid _ := hr
  have HS := fun w => stuck_m true w
  have hob34 : ((op : Int) == 34) = false := by rw [beq_eq_false_iff_ne]; omega
  have HWB : Hid (¬ N.all w.heap.size) := fun hk => Nat.lt_irrefl _ (h.all_lt hk)
  have hob : ((op : Int) == 32) = false := by rw [beq_eq_false_iff_ne]; omega
  clear hr ho hKW hp hl hvat l4 l5 h hCI hnn hlsv x0 x1 x2 x3 x4 y3 y4 f0 f1 f3 f4 fz ap fcp hnl hB
  go_enter Tryz.func275, Tryz.ntmps275
  go_wp2_with fail
  go_region
  go_wp2_with fail
  clear hW f2 d0 d1
  refine Code.wp_mono (P := Tryz.prog) (Q := R275 w0 N0 N q g cap n q0 r' w.heap.size (.int .u8 (op : Int)) (.int .u32 (k : Int)) (.int .u64 Y) v) (fun e ac u hR => ?_) ?_
  · cases e with
    | normal =>
      obtain ⟨B, t', hd, hf, hB0, hBw, hV, hE, hI, hfo⟩ := hR.is
      obtain ⟨tmps, df⟩ := ac
      dsimp only at hd hf
      subst hd
      generalize (fun j => tmps.getD j undef) = u' at hf
      subst hf
      have HE : Hid _ := hE
      have HV : Hid _ := hV
      have HI : Hid _ := hI
      have hloc : r'.loc = x.1.loc := by obtain ⟨l0, _, _, _, rfl⟩ := popM_some HPOP.out; rfl
      have hl2 : r'.loc[k]? = some lv := by rw [hloc]; exact HLK.out
      have hnl2 : r'.loc.length = nl := by rw [hloc]; exact HNLE.out
      obtain ⟨gl2, cl2, hls2, q1, q2, q3, q4, q5⟩ := hE.frm.l.ptr (by dsimp only; omega)
      dsimp only at hls2 q4 q2
      have hva2 := valC_at hl2
      have d0 := q4 _ _ hva2.1
      have d1 := q4 _ _ hva2.2
      have s0 := q5 (k * 2)
      have s1 := q5 (k * 2 + 1)
      obtain ⟨x0, x1, x2, x3, x4, y3, y4, f0, f1, f2, f3, f4, fz, ap, fcp⟩ := hE.cells HNN.out
      dsimp only at f2
      rw [hls2, hnl2] at f2
      have HFL : Hid (Fkm u _ N.vf q0 (r', t') _ _) := (Fkm.setLoc (Fkm.start hE.fk) (i := k) (by dsimp only; omega) v hls2).quiet (Kp.refl _ _).drew
      dsimp only at HFL
      have b0 := hV.c0
      have b1 := hV.c1
      have i1 := hI.c1
      have i0 := hI.c0
      have hgl2 : gl2 < u.heap.size := q1
      have hall : ({ N with fs := q0 ++ [(r', t')] } : EN).all gl2 := ⟨4, .inr ⟨(r', t'), by simp, .inl (by dsimp only; rw [hls2]; rfl)⟩⟩
      have hg1 : gl2 ≠ w.heap.size := fun e => hfo (by rw [← e]; exact hall)
      have hg2 : gl2 ≠ B := fun e => hV.fo (by rw [← e]; exact hall)
      clear hall hfo
      clear hE hV hI q4 q5 hva2 hl2 hls2 x0 x1 x2 x3 x4 y3 y4 f0 f1 f3 f4 fz ap fcp hR e0 e2 eb ec n1 n2 n3 n4 n5 hglne hwW
      unfold fr275
      go_wp2_with fail
      go_region
      go_wp2_with fail
      refine (HS _).mono ?_
      rintro en u9 ⟨rfl, rfl⟩
      go_wp2
      go_ret
      refine ⟨rfl, ?_⟩
      have hE := (HE.out.setTop HFL.out).end_
      rw [← HRR.out]
      exact ⟨_, hE⟩
    | _ => exact (hR : False).elim
  go_region_with (go_at_call 257; first | (refine (HP.out _ ((Kp.refl _ _).alloc _).drew).mono ?_; rintro en u2 ⟨rfl, t', hF⟩; obtain ⟨z0, z1, z2, z3⟩ := keep2 hF.2.1 (fun hk => Nat.lt_irrefl _ (HFR.out _ hk))) | (refine (HP.out _ (Kp.refl _ _).drew).mono ?_; rintro en u2 ⟨rfl, t', hF⟩))
  all_goals first | exact lc_a HEW.out HCI.out HWB.out hF rfl (by kernel_rfl) | exact lc_b HEW.out HCI.out HWB.out hF rfl (by kernel_rfl)
end
end Go.Proofs.Qxb6500275aGreatDoor
