import Derived.Test.Qxb6500275aGreatDoorLw5
set_option linter.unusedVariables false
set_option linter.unusedSimpArgs false
set_option maxRecDepth 100000
namespace Go.Proofs.Qxb6500275aGreatDoor
open Go Go.RowKit
section
variable {M : Mod} {fn : Fn} {t : Ty} {cells : List Ins}
theorem Tw.pctl (h : Tw M fn t cells) {j : Nat} (hj : j < fn.body.length) : ∃ g r, (psAt M fn t j).ctl = g :: r := by
  obtain ⟨hs, hJ⟩ := (h.at_ j hj).js
  cases hc : (psAt M fn t j).ctl with
  | nil => exact absurd hc hJ.pnn
  | cons g r => exact ⟨g, r, rfl⟩
theorem Tw.ppi (h : Tw M fn t cells) {j : Nat} (hj : j < fn.body.length) : PI (psAt M fn t j) := by
  obtain ⟨hs, hJ⟩ := (h.at_ j hj).js
  exact hJ.pi
theorem Tw.pju (h : Tw M fn t cells) {j : Nat} (hj : j < fn.body.length) : ∀ g, g ∈ (psAt M fn t j).ctl → g.cond ≠ 0 → g.jump = 0 := by
  obtain ⟨hs, hJ⟩ := (h.at_ j hj).js
  exact fun g hg => (hJ.j.fr g hg).2
theorem Tw.plen (h : Tw M fn t cells) {j : Nat} (hj : j < fn.body.length) : (osAt fn j).length = (psAt M fn t j).ctl.length + ((psAt M fn t j).dead - 1) := by
  obtain ⟨hs, hJ⟩ := (h.at_ j hj).js
  rw [(h.op1 j hj).1]
  rcases hJ.rel with hR | hR
  · rw [hR.f2.len, hR.dead]; rfl
  · obtain ⟨n, ex, f, r, h1, h2, h3, h4, h5, h6⟩ := hR.is
    rw [h2, h1, ← h6.len, List.length_append, h3]
    omega
/- a cell that waits for nothing -/
theorem Tw.free (h : Tw M fn t cells) {K i : Nat} {c : Ins} (hK : K ≤ 2) (hi : 1 ≤ i) (hop : opK K c.op) : ∀ (k j : Nat), fn.body.length - j ≤ k → j ≤ fn.body.length → Free K i (psAt M fn t j) → (psAt M fn t j).cells[i]? = some c → cells[i]? = some c
  | 0, j, hk, hj, hf, hc => by
    have e : j = fn.body.length := by omega
    subst e
    rw [← h.fin]; exact hc
  | k + 1, j, hk, hj, hf, hc => by
    by_cases e : j = fn.body.length
    · subst e
      rw [← h.fin]; exact hc
    obtain ⟨g, r, hctl⟩ := h.pctl (j := j) (by omega)
    obtain ⟨h1, h2⟩ := (prom_step (m := 0) (h.ppi (by omega)) (h.pju (by omega)) hctl (h.at_ j (by omega)).p hi hc hop hK).1 hf
    exact h.free hK hi hop k (j + 1) (by omega) (by omega) h1 h2
/- a plain cell -/
theorem Tw.plainc (h : Tw M fn t cells) {i : Nat} {c : Ins} (hop : ¬ (c.op = 4 ∨ c.op = 224 ∨ isBr c.op)) : ∀ (k j : Nat), fn.body.length - j ≤ k → j ≤ fn.body.length → (psAt M fn t j).cells[i]? = some c → cells[i]? = some c
  | 0, j, hk, hj, hc => by
    have e : j = fn.body.length := by omega
    subst e
    rw [← h.fin]; exact hc
  | k + 1, j, hk, hj, hc => by
    by_cases e : j = fn.body.length
    · subst e
      rw [← h.fin]; exact hc
    obtain ⟨g, r, hctl⟩ := h.pctl (j := j) (by omega)
    exact h.plainc hop k (j + 1) (by omega) (by omega) (plain_stays (h.ppi (by omega)) hctl (h.at_ j (by omega)).p hc hop)
/- where place pc lies among the cells -/
def posF (M : Mod) (fn : Fn) (t : Ty) (pc : Nat) : Nat := (psAt M fn t pc).cells.length - 1
/- where a jump out of a block goes; where its if goes -/
def tgtF (M : Mod) (fn : Fn) (t : Ty) (s : Nat) : Nat := posF M fn t (endF fn s)
def altF (M : Mod) (fn : Fn) (t : Ty) (s : Nat) : Nat := if elsF fn s = -1 then tgtF M fn t s else posF M fn t ((elsF fn s).toNat + 1)
def tgtK (M : Mod) (fn : Fn) (t : Ty) (K s : Nat) : Nat := if K = 1 then altF M fn t s else tgtF M fn t s
/- A CELL THAT WAITS goes to its block's end -/
theorem Tw.prom (h : Tw M fn t cells) {K i s : Nat} {r : List Nat} {c : Ins} (hK : K ≤ 2) (hs : osAt fn s = s :: r) (hsn : s < fn.body.length) (hi : 1 ≤ i) (hop : opK K c.op) : ∀ (k j : Nat), fn.body.length - j ≤ k → j ≤ fn.body.length → Pend K i r.length (psAt M fn t j) → (psAt M fn t j).cells[i]? = some c →
    (j < fn.body.length → bot (r.length + 1) (osAt fn j) = s :: r) → cells[i]? = some { c with x := (tgtK M fn t K s : Int) }
  | 0, j, hk, hj, hp, hc, hb => by
    have e : j = fn.body.length := by omega
    subst e
    obtain ⟨⟨g, e1, _⟩, _⟩ := hp
    rw [h.nil] at e1
    simp at e1
  | k + 1, j, hk, hj, hp, hc, hb => by
    by_cases e : j = fn.body.length
    · subst e
      obtain ⟨⟨g, e1, _⟩, _⟩ := hp
      rw [h.nil] at e1
      simp at e1
    have hjn : j < fn.body.length := by omega
    obtain ⟨g, rr, hctl⟩ := h.pctl hjn
    have hos : bot (r.length + 1) (osAt fn j) = s :: r := hb hjn
    have hlj : r.length + 1 ≤ (osAt fn j).length := by
      have := congrArg List.length hos
      unfold bot at this
      rw [List.length_drop] at this
      simp at this
      omega
    have hpl := h.plen hjn
    rcases (prom_step (m := r.length) (h.ppi hjn) (h.pju hjn) hctl (h.at_ j hjn).p hi hc hop hK).2 hp with ⟨h1, h2⟩ | ⟨h1, h2, h3, h4, h5⟩
    · refine h.prom hK hs hsn hi hop k (j + 1) (by omega) (by omega) h1 h2 (fun hj1 => ?_)
      have hpl1 := h.plen hj1
      obtain ⟨⟨g1, e1, _⟩, _⟩ := h1
      have hm := (List.getElem?_eq_some_iff.1 e1).1
      simp at hm
      rw [← hos]
      exact h.os_low hlj (j + 1) (by omega) (fun i h1 h2 => by
        rcases (by omega : i = j ∨ i = j + 1) with e | e <;> subst e <;> omega)
    · have hlen : (osAt fn j).length = r.length + 1 := by omega
      have hosj : osAt fn j = s :: r := by
        rw [← hos, ← hlen]
        exact (bot_self _).symm
      rcases h5 with ⟨o11, hq⟩ | ⟨o5, k1, hq⟩
      · have hje := h.end_only hs hsn hosj o11
        have hx : tgtK M fn t K s = (psAt M fn t j).cells.length - 1 := by
          unfold tgtK
          by_cases k1 : K = 1
          · rw [if_pos k1]
            unfold altF
            have hels : elsF fn s = -1 := by
              obtain ⟨hs', hJ⟩ := (h.at_ j hjn).js
              obtain ⟨f, r2, g2, s2, hT⟩ := hJ.rel.top hJ.nn h3
              have hgg : g2 = g := by
                have := hT.pc
                rw [hctl] at this
                simp at this
                exact this.1.symm
              subst hgg
              have hcd : g2.cond ≠ 0 := by
                unfold hasK at h4
                rw [if_neg (by omega), if_pos k1] at h4
                omega
              have hf4 := hT.fm.co.2 hcd
              obtain ⟨g', f', r', d1, d2, d3, d4, d5, d6, d7, d8⟩ := h.fr_ends hs hsn
              rw [← hje, hT.vc] at d2
              simp at d2
              obtain ⟨rfl, _⟩ := d2
              rcases d8 with ⟨_, d8⟩ | ⟨_, _, _, _, _, _, _, d8⟩
              · exact d8
              · omega
            rw [if_pos hels]
            unfold tgtF posF
            rw [hje]
          · rw [if_neg k1]
            unfold tgtF posF
            rw [hje]
        have hres := h.free (c := { c with x := ((((psAt M fn t j).cells.length - 1 : Nat)) : Int) }) hK hi hop k (j + 1) (by omega) (by omega) h1 hq
        rw [hx]
        exact hres
      · obtain ⟨e1, e2, e3⟩ := h.else_only hs hsn hosj o5
        have hx : tgtK M fn t K s = (psAt M fn t (j + 1)).cells.length - 1 := by
          unfold tgtK altF posF
          rw [if_pos k1, if_neg (by omega), e1]
          rfl
        have hres := h.free (c := { c with x := ((((psAt M fn t (j + 1)).cells.length - 1 : Nat)) : Int) }) hK hi hop k (j + 1) (by omega) (by omega) h1 hq
        rw [hx]
        exact hres
/- where a block's code begins -/
theorem osAt_rev {j m : Nat} (h1 : m < (osAt fn j).length) (h2 : m < (osAt fn (j + 1)).length) : (osAt fn (j + 1)).reverse[m]? = (osAt fn j).reverse[m]? := by
  rw [osAt] at h2 ⊢
  split
  · exact rev_old h1
  · rename_i ho
    rw [if_neg ho] at h2
    split
    · rename_i h11
      rw [if_pos h11] at h2
      cases hq : osAt fn j with
      | nil => rfl
      | cons a l =>
        rw [hq] at h2
        simp only [List.tail_cons] at h2 ⊢
        exact (rev_old h2).symm
    · rfl
theorem Tw.pst (h : Tw M fn t cells) : ∀ (j : Nat), j < fn.body.length → ∀ (m : Nat) (g : PF), (psAt M fn t j).ctl.reverse[m]? = some g → ∃ s : Nat, (osAt fn j).reverse[m]? = some s ∧ (s ≠ 0 → g.start = (psAt M fn t s).cells.length)
  | 0, hj, m, g, hg => by
    have hm := (List.getElem?_eq_some_iff.1 hg).1
    simp [psAt] at hm
    subst hm
    exact ⟨0, rfl, fun h => absurd rfl h⟩
  | j + 1, hj, m, g, hg => by
    have hjn : j < fn.body.length := by omega
    obtain ⟨g0, r0, hctl⟩ := h.pctl hjn
    have hpl := h.plen hjn
    have hpl1 := h.plen hj
    have hm := (List.getElem?_eq_some_iff.1 hg).1
    simp at hm
    have old : ∀ g1 : PF, (psAt M fn t j).ctl.reverse[m]? = some g1 → g.start = g1.start → ∃ s : Nat, (osAt fn (j + 1)).reverse[m]? = some s ∧ (s ≠ 0 → g.start = (psAt M fn t s).cells.length) := fun g1 h1 h2 => by
      obtain ⟨s, h3, h4⟩ := h.pst j hjn m g1 h1
      have := (List.getElem?_eq_some_iff.1 h1).1
      simp at this
      exact ⟨s, by rw [osAt_rev (by omega) (by omega)]; exact h3, fun h0 => h2.trans (h4 h0)⟩
    rcases stepP_kind hctl (h.at_ j hjn).p with hB | hC | hD | hF
    · obtain ⟨g1, e1, _, _, _, e5⟩ := hB.sim.2 m g hg
      exact old g1 e1 e5
    · obtain ⟨gn, h1, h2, h3, h4, h5⟩ := hC.ctl
      rw [h1] at hg
      rcases rev_cons hg with ⟨_, e⟩ | ⟨e0, e⟩
      · exact old g e rfl
      · subst e
        refine ⟨j + 1, ?_, fun _ => h5⟩
        have hl : (osAt fn j).length = m := by have := hC.dead; omega
        rw [osAt, if_pos hC.op, ← hl]
        exact rev_top _ _
    · obtain ⟨jj, h1, h2⟩ := hD.ctl
      rw [h1] at hg
      rcases rev_cons hg with ⟨e0, e⟩ | ⟨e0, e⟩
      · exact old g (by rw [hctl, rev_old e0]; exact e) rfl
      · subst e
        exact old g0 (by rw [hctl, e0]; exact rev_top _ _) rfl
    · have h1 := hF.ctl
      rw [h1] at hg
      have hm2 := (List.getElem?_eq_some_iff.1 hg).1
      simp at hm2
      exact old g (by rw [hctl, rev_old hm2]; exact hg) rfl
end
end Go.Proofs.Qxb6500275aGreatDoor
