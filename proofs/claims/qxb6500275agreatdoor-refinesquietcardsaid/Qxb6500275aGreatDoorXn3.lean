import Derived.Test.Qxb6500275aGreatDoorXn2
import Derived.Deep.RegionWith
set_option maxRecDepth 100000
set_option linter.unusedVariables false
set_option linter.unusedSimpArgs false
namespace Go.Proofs.Qxb6500275aGreatDoor
open Go Go.RowKit
theorem wrap_i64_nat (n : Nat) (h : n ≤ 1000000) : IntKind.i64.wrap (n : Int) = (n : Int) := by simp [IntKind.wrap, IntKind.bits, IntKind.signed]; omega
def mvV (v : MV) : Value := .agg #[.int .u8 (v.t : Int), .int .u64 (v.b : Int)]
section
variable {w : World} {vf : Value} {q0 : List (MF × FT3)} {x : MF × FT3}
theorem popM_some {r r' : MF} {want : Nat} {v : MV} (h : popM r want = some (v, r')) : ∃ l0, r.ops = l0 ++ [v] ∧ r.floor ≤ l0.length ∧ (want = 0 ∨ v.t = want) ∧ r' = { r with ops := l0 } := by
  unfold popM at h
  rcases iteC h with ⟨_, h⟩ | ⟨h1, h⟩
  · simp at h
  rcases List.eq_nil_or_concat r.ops with e | ⟨l0, v0, e⟩
  · rw [e] at h; simp at h
  · rw [List.concat_eq_append] at e
    rw [e] at h h1
    simp at h
    obtain ⟨h2, h3, h4⟩ := h
    subst h3
    exact ⟨l0, e, by simp at h1; omega, h2, h4.symm⟩
set_option maxHeartbeats 8000000 in
theorem pop_m (h : Fstk w vf (q0 ++ [x])) {g cap : Nat} (hvf : vf = .slice (some ⟨g, 0, none⟩) (q0.length + 1) cap) {v : MV} {r' : MF} {want : Nat} (hw : want < 256) (hp : popM x.1 want = some (v, r')) (ht : v.t < 256) (hb : v.b < 18446744073709551616) (hlb : x.1.labs.length ≤ 100) (hlp : x.1.ops.length ≤ 100) (hlh : ∀ l, l ∈ x.1.labs → l.2 ≤ 100) :
    Calls Tryz.prog 257 #[.pointer (some ⟨g, q0.length * 5, none⟩), .int .u8 (want : Int)] w (Fz3 w vf q0 x r' (.tuple #[mvV v, .bool true])) := by
  have hg : vf.ownBlock = some g := by rw [hvf]; rfl
  obtain ⟨l0, hops, hfl, hwant, hr'⟩ := popM_some hp
  obtain ⟨g', cap', hv', h1, h2, h3, h4, c0, c1, c2, c3, c4, hM, hng⟩ := h.top
  have hgg : g' = g := by rw [hv'] at hg; simpa [Value.ownBlock] using hg
  subst hgg
  obtain ⟨n, hn⟩ : ∃ n, l0.length = n := ⟨_, rfl⟩
  have hn1 : x.1.ops.length = n + 1 := by rw [hops]; simp [hn]
  obtain ⟨go, co, hov, o1, o2, o3, o4, o5⟩ := hM.o.ptr (by omega)
  have hvat := valC_at (l := x.1.ops) (i := n) (v := v) (by rw [hops, ← hn]; simp)
  have d0 := o4 _ _ hvat.1
  have d1 := o4 _ _ hvat.2
  have hgo : go ≠ g' := fun e => hng (.inr (.inl (by rw [hov, e]; rfl)))
  obtain ⟨m, hm⟩ : ∃ m, n + 1 = m := ⟨_, rfl⟩
  have hmi : (m : Int) - 1 = (n : Int) := by omega
  have hnm : n < m := by omega
  have hnmi : (n : Int) < (m : Int) := by omega
  have hmr : (m : Int) ≤ 1000 := by omega
  have hn0 : (0 : Int) ≤ (n : Int) := by omega
  rw [hn1, hm] at hov
  rw [hov] at c3
  have HC := (Fkm.start h).cutO (a := some ⟨go, 0, none⟩) (n := n) (cap := co) (l0 := l0) (l1 := [v]) (by rw [hov]; simp [hn]; omega) hops hg
  rw [hn] at HC
  obtain ⟨o, ho⟩ : ∃ o, q0.length * 5 = o := ⟨_, rfl⟩
  rw [ho] at c3 c4 HC ⊢
  have hfz := h4 (o + 3)
  have HCC : Hid (Fkm w (w.setCell ⟨g', o + 3, none⟩ (.slice (some ⟨go, 0, none⟩) n co)) vf q0 x { x.1 with ops := l0 } { x.2 with o := .slice (some ⟨go, 0, none⟩) n co }) := HC
  clear HC
  have HR : Hid _ := hr'
  rw [hn1] at hlp o2
  -- the floor
  obtain ⟨nb, hnb⟩ : ∃ nb, x.1.labs.length = nb := ⟨_, rfl⟩
  obtain ⟨ba, bc, hbv⟩ := hM.b.slice
  rw [hnb] at hbv hlb
  by_cases hb0 : nb = 0
  · subst hb0
    rw [hbv] at c4
    have hfl0 : ¬ ((m : Int) ≤ 0) := by omega
    rw [hm] at hlp o2
    clear hm hr' hp hn hn1 hnb hov hops hM h hvf hv' h4 c0 c1 c2 hbv hg hlh hfl o4 o5 hvat
    go_enter Tryz.func257, Tryz.ntmps257
    go_wp2_with fail
    go_region
    go_wp2_with fail
    go_region
    go_wp2_with fail
    by_cases hw0 : want = 0
    · subst hw0
      go_region
      go_wp2_with fail
      refine bodyPost_ret (v := .tuple #[mvV v, .bool true]) (by simp [results, Tryz.results257, go_sem, mvV]) rfl ?_
      rw [HR.out]
      exact ⟨rfl, _, HCC.out.quiet ((((((Kp.refl _ _).alloc _).alloc _).drew).drew).drew)⟩
    · have hvw : v.t = want := by rcases hwant with e | e; exact absurd e hw0; exact e
      subst hvw
      have hwb : ((v.t : Int) == 0) = false := by rw [beq_eq_false_iff_ne]; omega
      go_region
      go_wp2_with fail
      refine bodyPost_ret (v := .tuple #[mvV v, .bool true]) (by simp [results, Tryz.results257, go_sem, mvV]) rfl ?_
      rw [HR.out]
      exact ⟨rfl, _, HCC.out.quiet ((((((Kp.refl _ _).alloc _).alloc _).drew).drew).drew)⟩
  · obtain ⟨ls, lab, hls⟩ : ∃ ls lab, x.1.labs = ls ++ [lab] := by
      rcases List.eq_nil_or_concat x.1.labs with e | ⟨ls, lab, e⟩
      · rw [e] at hnb; simp at hnb; omega
      · exact ⟨ls, lab, by rw [e, List.concat_eq_append]⟩
    obtain ⟨nl, hnl⟩ : ∃ nl, ls.length = nl := ⟨_, rfl⟩
    have hnb1 : nb = nl + 1 := by rw [← hnb, hls]; simp [hnl]
    obtain ⟨gb, cb, hbv2, b1, b2, b3, b4, b5⟩ := hM.b.ptr (by omega)
    have hlat := (labC_at (l := x.1.labs) (i := nl) (v := lab) (by rw [hls, ← hnl]; simp)).2
    have e1 := b4 _ _ hlat
    have hfle : x.1.floor = lab.2 := by unfold MF.floor; rw [hls]; simp
    rw [hfle, hn] at hfl
    rw [hnb] at hbv2
    rw [hbv2] at c4
    have hgbne : gb ≠ g' := fun e => hng (.inr (.inr (by rw [hbv2, e]; rfl)))
    have hh100 := hlh lab (by rw [hls]; simp)
    have hnbi : (nb : Int) - 1 = (nl : Int) := by omega
    have hnbl : nl < nb := by omega
    have hnbli : (nl : Int) < (nb : Int) := by omega
    have hnb0 : (0 : Int) < (nb : Int) := by omega
    have hnbr : (nb : Int) ≤ 100 := by omega
    have hfl0 : ¬ ((m : Int) ≤ (lab.2 : Int)) := by omega
    rw [hm] at hlp o2
    clear hm hr' hp hn hn1 hnb hov hops hM h hvf hv' h4 c0 c1 c2 hbv hbv2 hg hlh hfl o4 o5 hvat b4 b5 hlat hfle hls hnl hnb1
    go_enter Tryz.func257, Tryz.ntmps257
    go_wp2_with fail
    go_region
    go_wp2_with fail
    go_region
    go_wp2_with fail
    go_region
    go_wp2_with fail
    by_cases hw0 : want = 0
    · subst hw0
      go_region
      go_wp2_with fail
      refine bodyPost_ret (v := .tuple #[mvV v, .bool true]) (by simp [results, Tryz.results257, go_sem, mvV]) rfl ?_
      rw [HR.out]
      exact ⟨rfl, _, HCC.out.quiet (((((((Kp.refl _ _).alloc _).alloc _).drew).drew).drew).drew)⟩
    · have hvw : v.t = want := by rcases hwant with e | e; exact absurd e hw0; exact e
      subst hvw
      have hwb : ((v.t : Int) == 0) = false := by rw [beq_eq_false_iff_ne]; omega
      go_region
      go_wp2_with fail
      refine bodyPost_ret (v := .tuple #[mvV v, .bool true]) (by simp [results, Tryz.results257, go_sem, mvV]) rfl ?_
      rw [HR.out]
      exact ⟨rfl, _, HCC.out.quiet (((((((Kp.refl _ _).alloc _).alloc _).drew).drew).drew).drew)⟩
end
end Go.Proofs.Qxb6500275aGreatDoor
