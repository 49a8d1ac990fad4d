import Derived.Test.Qxb6500275aGreatDoorVna
import Derived.Test.Qxb6500275aGreatDoorKq
import Derived.LoopN
set_option maxRecDepth 1000000
set_option linter.unusedVariables false
set_option linter.unusedSimpArgs false
namespace Go.Proofs.Qxb6500275aGreatDoor
open Go Go.RowKit
/- several elements behind a row -/
theorem OR.appM {w : World} {e : TypeId} {sz n : Nat} {v : Value} {xs : List Value} (h : OR w e sz v n xs) {t ty : TypeId} {i : TypeInfo} {z : Value} {bytes : Nat} (ht : Tryz.prog.underlying t = some (.slice e)) (hi : Tryz.prog.info? e = some i) (hz : i.zero = some z)
    (hsize : i.size = sz) (hby : i.bytes = bytes) (hzs : z.cells.size = sz) (hsz : 0 < sz) (hbb : bytes ≤ 1000) (hn : n ≤ 100000) (a : Addr) (m c : Nat) (hm : m ≤ 1000) (hm0 : 0 < m) (news : List Value) (hl : news.length = m * sz) (hnews : ∀ j u, news[j]? = some u → w.cell? (a.add j) = some u) (h1 : ∀ u ∈ news, u.oneCell' = true) :
    ∃ v' w', (Builtin.append_ #[t, t] ty #[v, .slice (some a) m c]).run Tryz.prog w = .ok v' w' ∧ OR w' e sz v' (n + m) (xs ++ news) ∧ Kp (fun k => v.ownBlock = some k) w w' ∧ OwnO w v v' := by
  have hb2 : (n + m) * bytes ≤ 140737488355328 := Nat.le_trans (Nat.mul_le_mul (show n + m ≤ 101000 by omega) hbb) (by decide)
  obtain ⟨v', w', r1, r2, r3, r4⟩ := run_append_own (P := Tryz.prog) w 0 t ty e i z sz bytes ht hi hz hsize hby hzs hsz v n xs h a m c news hl hnews h1 (by simp only [maxLen]; omega) hb2 (Nat.zero_le _)
  refine ⟨v', w', r1, r2, kp_grown r3 (fun k hk => hk), fun k hk => ?_⟩
  have h63 : n + m ≤ maxLen := by simp only [maxLen]; omega
  rcases h.2 with ⟨rfl, rfl⟩ | ⟨g, cap, cur, rfl, hbg, hg, hnc, hcm, hcs, htake⟩
  · have hxs : xs = [] := List.eq_nil_of_length_eq_zero (by simpa using h.1)
    subst hxs
    obtain ⟨v2, w2, q1, q2, _⟩ := run_append_own (P := Tryz.prog) w w.heap.size t ty e i z sz bytes ht hi hz hsize hby hzs hsz (.slice none 0 0) 0 [] (World.ownsRow_nil w _ e sz) a m c news hl hnews h1 h63 hb2 (Nat.le_refl _)
    rw [r1] at q1
    injection q1 with e1 e2
    subst e1
    exact .inr (World.ownsRow.lt q2 k hk).1
  · subst hsize
    by_cases hroom : n + m ≤ cap
    · have hfit : n * i.size + news.length ≤ cur.size := by
        rw [hl, hcs]
        have := Nat.mul_le_mul_right i.size hroom
        rw [Nat.add_mul] at this
        exact this
      have hr := run_append_room (P := Tryz.prog) w t ty e i ht hi g n cap cur hg a m c news hl hnews h1 hroom hfit
      rw [r1] at hr
      injection hr with e1 e2
      subst e1
      exact .inl hk
    · have holds : ∀ j u, xs[j]? = some u → w.cell? ((⟨g, 0, none⟩ : Addr).add j) = some u := World.ownsRow.cells h (g := g) rfl
      have hr := run_append_grow (P := Tryz.prog) w t ty e i z ht hi hz ⟨g, 0, none⟩ n cap xs h.1 holds a m c news hl hnews (by omega) (by simp only [maxLen] at h63; omega) (growslice_fits (by omega) (by rw [hby]; exact hb2))
      rw [r1] at hr
      injection hr with e1 e2
      subst e1
      simp [Value.ownBlock] at hk
      exact .inr (by omega)
theorem mk77l (W : World) (n : Nat) (hn : n ≤ 1000) : (Instr.makeSlice 77 (.int .i64 0) (.int .i64 ((n : Int) + 1))).run Tryz.prog W = .ok (.slice (some ⟨W.heap.size, 0, none⟩) 0 (n + 1)) (W.alloc (.cells (madeCells #[.string ⟨#[]⟩] (n + 1)) 9)) := by
  have := make_c2 (P := Tryz.prog) W 77 9 0 (n + 1) 1 16 #[.string ⟨#[]⟩] (by kernel_rfl) (by kernel_rfl) (by kernel_rfl) (by omega) (by omega) (by omega)
  rw [Nat.mul_one] at this
  rw [show ((n : Int) + 1) = ((n + 1 : Nat) : Int) by omega]
  exact this
/- the labels of a block within -/
theorem inner_make {w : World} {lv : Value} {labs : List ByteArray} (hL : Lb w lv labs) {nl : Nat} (hn : labs.length = nl) (h1 : 1 ≤ nl) (h8 : nl ≤ 8) (lab : ByteArray) :
    ∃ v1 u1 v2 u2, (Builtin.append_ #[77, 77] 77 #[.slice (some ⟨w.heap.size, 0, none⟩) 0 (nl + 1), lv]).run Tryz.prog (w.alloc (.cells (madeCells #[.string ⟨#[]⟩] (nl + 1)) 9)) = .ok v1 u1 ∧ (∃ a n c, v1 = .slice a n c) ∧
      (Builtin.append_ #[77, 77] 77 #[v1, .slice (some ⟨u1.heap.size, 0, none⟩) 1 1]).run Tryz.prog (u1.alloc (.cells #[.string lab] 9)) = .ok v2 u2 ∧ (∃ a n c, v2 = .slice a n c) ∧ Lb u2 v2 (labs ++ [lab]) ∧ Kp (fun _ => False) w u2 ∧ ∀ k, v2.ownBlock = some k → w.heap.size ≤ k := by
  obtain ⟨i, z, i1, i2, i3, i4, i5⟩ := infoOf (t := 9) iTest.1
  obtain ⟨U, hU⟩ : ∃ U, w.alloc (.cells (madeCells #[.string ⟨#[]⟩] (nl + 1)) 9) = U := ⟨_, rfl⟩
  have hkU : Kp (fun _ => False) w U := by rw [← hU]; exact (Kp.refl _ _).alloc _
  have hsz : (madeCells #[(.string ⟨#[]⟩ : Value)] (nl + 1)).size = (nl + 1) * 1 := by rw [size_madeCells, Nat.mul_one]
  have h0 := OR.made w 9 1 (nl + 1) (madeCells #[(.string ⟨#[]⟩ : Value)] (nl + 1)) (by simp only [maxLen]; omega) hsz
  rw [hU] at h0
  have h00 := h0.trunc (k := 0) (Nat.zero_le _) rfl
  rw [Nat.zero_mul, List.take_zero] at h00
  have hLU : Lb U lv labs := OR.keep hL hkU (fun _ _ h => h)
  obtain ⟨g, cap, hlv, g1, g2, g3, g4, g5⟩ := OR.ptr hLU (by omega)
  rw [hn] at hlv
  obtain ⟨v1, u1, r1, r2, r3, r4⟩ := h00.appM (t := 77) (ty := 77) u77s i1 i2 i4 i5 i3 (by decide) (by decide) (by omega) ⟨g, 0, none⟩ nl cap (by omega) (by omega) (labs.map (fun b => .string b)) (by simp [hn]) (fun j u hu => by rw [add_none, Nat.zero_add]; exact g4 j u hu) (fun u hu => by
    simp at hu
    obtain ⟨b, _, rfl⟩ := hu
    rfl)
  rw [List.nil_append, Nat.zero_add] at r2
  have hk1 : Kp (fun _ => False) u1 (u1.alloc (.cells #[.string lab] 9)) := (Kp.refl _ _).alloc _
  obtain ⟨v2, u2, s1, s2, s3, s4⟩ := (r2.keep hk1 (fun _ _ h => h)).app (t := 77) (ty := 77) u77s i1 i2 i4 i5 i3 (by decide) (by decide) (by omega) ⟨u1.heap.size, 0, none⟩ 1 [.string lab] rfl (fun j y hy => by
    rw [add_none, Nat.zero_add]
    cases j with
    | zero =>
      simp at hy
      subst hy
      exact (blk_al u1 #[.string lab] _).cell (i := 0) (by simp)
    | succ j => simp at hy) (fun y hy => by
    simp at hy
    subst hy
    rfl)
  have hfr1 : ∀ k, v1.ownBlock = some k → w.heap.size ≤ k := fun k hk => by
    rcases r4 k hk with h | h
    · simp [Value.ownBlock] at h; omega
    · exact Nat.le_trans hkU.size h
  have k1 : Kp (fun _ => False) w u1 := hkU.later r3 (fun j hj => .inr (by simp [Value.ownBlock] at hj; omega))
  refine ⟨v1, u1, v2, u2, ?_, ?_, s1, ?_, ?_, ?_, ?_⟩
  · rw [hU, hlv]; exact r1
  · obtain ⟨a, c, e⟩ := r2.slice
    exact ⟨a, _, c, e⟩
  · obtain ⟨a, c, e⟩ := s2.slice
    exact ⟨a, _, c, e⟩
  · unfold Lb
    rw [List.length_append, List.map_append, hn]
    exact s2
  · exact (k1.trans hk1).later s3 (fun j hj => .inr (hfr1 j hj))
  · intro k hk
    rcases s4 k hk with h | h
    · exact hfr1 k h
    · exact Nat.le_trans (k1.trans hk1).size h
/- what 'seq' answers, wherever it is called -/
def SeqOk (E : Env189) : Prop := ∀ (pc a : Nat), Ok189 E → E.sq E.w 0 a → pc ≤ E.fn.body.length → E.run pc ByteArray.empty false →
  Calls Tryz.prog 189 #[.pointer (some ⟨E.cb, 0, none⟩), .int .i64 (pc : Int), E.lv, .string E.res, .int .i64 (E.rest.length : Int), .int .i64 (E.lev : Int)] E.w (fun en w' => ∃ (pc' cl : Nat) (er : Int) (a' : Nat), en = .returned (.tuple #[.int .i64 (pc' : Int), .int .u8 (cl : Int)]) ∧ E.sq w' er a' ∧ Ans189 E pc pc' cl er a')
section
variable {w : World} {cb mb gf fo : Nat} {loc resF : ByteArray} {er : Int} {a : Nat} {fn : Fn} {vb vt lv : Value}
set_option maxHeartbeats 8000000 in
/- no level left -/
theorem seq_zero (h : Ck w cb mb ⟨gf, fo, none⟩ loc resF 0 a) (hF : Fnr w gf fo fn vb vt) (pc : Nat) (hpc : pc ≤ 1000) (hb : fn.body.length ≤ 96) (res : ByteArray) (base : Nat) :
    Calls Tryz.prog 189 #[.pointer (some ⟨cb, 0, none⟩), .int .i64 (pc : Int), lv, .string res, .int .i64 (base : Int), .int .i64 0] w (fun en w' => en = .returned (.tuple #[.int .i64 (pc : Int), .int .u8 0]) ∧ Ck w' cb mb ⟨gf, fo, none⟩ loc resF 11 pc ∧ Kp (· = cb) w w') := by
  have HV := vfail_m h 11 pc
  obtain ⟨ba, bc, hbv⟩ := hF.bo.slice
  have f2 := hF.c2
  rw [hbv] at f2
  have c1 := h.c1
  have c4 := h.c4
  obtain ⟨nb, hnb⟩ : ∃ n, fn.body.length = n := ⟨_, rfl⟩
  rw [hnb] at f2 hb
  clear h hF hbv hnb
  go_enter Tryz.func189, Tryz.ntmps189
  go_wp2
  refine wp_loop_rounds 1 ?_
  rw [rounds_succ]
  by_cases hp : nb ≤ pc
  · have hp2 : (nb : Int) ≤ (pc : Int) := by omega
    go_wp2_with fail
    refine HV.mono ?_
    rintro en w2 ⟨rfl, hC, hK⟩
    go_wp2
    go_ret2
    exact ⟨rfl, hC, hK⟩
  · have hp2 : ¬ (nb : Int) ≤ (pc : Int) := by omega
    go_wp2_with fail
    refine HV.mono ?_
    rintro en w2 ⟨rfl, hC, hK⟩
    go_wp2
    go_ret2
    exact ⟨rfl, hC, hK⟩
set_option maxHeartbeats 8000000 in
/- an error stands -/
theorem seq_err (h : Ck w cb mb ⟨gf, fo, none⟩ loc resF er a) (he : er ≠ 0) (pc lev base : Nat) (res : ByteArray) :
    Calls Tryz.prog 189 #[.pointer (some ⟨cb, 0, none⟩), .int .i64 (pc : Int), lv, .string res, .int .i64 (base : Int), .int .i64 (lev : Int)] w (fun en w' => en = .returned (.tuple #[.int .i64 (pc : Int), .int .u8 0]) ∧ w' = w) := by
  have c4 := h.c4
  have heb : (er == 0) = false := by rw [beq_eq_false_iff_ne]; exact he
  clear h he
  go_enter Tryz.func189, Tryz.ntmps189
  go_wp2
  refine wp_loop_rounds 1 ?_
  rw [rounds_succ]
  go_wp2
  go_ret2
  exact ⟨rfl, rfl⟩
end
end Go.Proofs.Qxb6500275aGreatDoor
