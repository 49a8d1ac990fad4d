import Derived.Test.Qxb6500275aGreatDoorLw4
set_option linter.unusedVariables false
set_option linter.unusedSimpArgs false
set_option maxRecDepth 100000
namespace Go.Proofs.Qxb6500275aGreatDoor
open Go Go.RowKit
/- THE COMPILER'S STEP, finely: which cells wait for which block -/
def SimP (n : Nat) (a b : List PF) : Prop := b.length = a.length ∧ ∀ (m : Nat) (g' : PF), b.reverse[m]? = some g' → ∃ g, a.reverse[m]? = some g ∧ g'.cond = g.cond ∧ g'.jump = g.jump ∧ (∀ i, i < n → (i ∈ g'.chain ↔ i ∈ g.chain)) ∧ g'.start = g.start
theorem SimP.refl (n : Nat) (a : List PF) : SimP n a a := ⟨rfl, fun m g' h => ⟨g', h, rfl, rfl, fun _ _ => Iff.rfl, rfl⟩⟩
theorem SimP.trans {n k : Nat} {a b c : List PF} (h : SimP n a b) (h' : SimP k b c) (hk : n ≤ k) : SimP n a c := by
  refine ⟨h'.1.trans h.1, fun m g' hg => ?_⟩
  obtain ⟨g1, e1, e2, e3, e4, e5⟩ := h'.2 m g' hg
  obtain ⟨g0, d1, d2, d3, d4, d5⟩ := h.2 m g1 e1
  exact ⟨g0, d1, e2.trans d2, e3.trans d3, fun i hi => (e4 i (by omega)).trans (d4 i hi), e5.trans d5⟩
theorem SimP.modify (a : List PF) (l n : Nat) : SimP n a (a.modify l (fun f => { f with chain := n :: f.chain })) := by
  refine ⟨by simp, fun m g' hg => ?_⟩
  have hm := (List.getElem?_eq_some_iff.1 hg).1
  simp at hm
  rw [List.getElem?_reverse (by simpa using hm), List.length_modify, List.getElem?_modify] at hg
  rw [List.getElem?_reverse hm]
  cases hq : a[a.length - 1 - m]? with
  | none => rw [hq] at hg; simp at hg
  | some g =>
    rw [hq] at hg
    by_cases e : l = a.length - 1 - m
    · simp [e] at hg
      subst hg
      refine ⟨g, rfl, rfl, rfl, fun i hi => ?_, rfl⟩
      show i ∈ n :: g.chain ↔ _
      rw [List.mem_cons]
      exact ⟨fun h => by rcases h with h | h; omega; exact h, .inr⟩
    · simp [e] at hg
      subst hg
      exact ⟨g, rfl, rfl, rfl, fun _ _ => Iff.rfl, rfl⟩
theorem branch_sim (p : PS) (op l : Nat) : ∃ c : Ins, (branchP p op l).cells = p.cells ++ [c] ∧ SimP p.cells.length p.ctl (branchP p op l).ctl := by
  unfold branchP
  dsimp only
  split
  · exact ⟨_, rfl, SimP.refl _ _⟩
  · exact ⟨_, rfl, SimP.modify _ _ _⟩
theorem rows_sim : ∀ (ls : List Int) {p q : PS}, rowsP p ls = some q → ∃ new : List Ins, q.cells = p.cells ++ new ∧ SimP p.cells.length p.ctl q.ctl
  | [], p, q, hs => by simp [rowsP] at hs; subst hs; exact ⟨[], by simp, SimP.refl _ _⟩
  | l :: ls, p, q, hs => by
    rw [rowsP] at hs
    rcases iteC hs with ⟨_, hs⟩ | ⟨hl, hs⟩
    · simp at hs
    · obtain ⟨c, h1, h2⟩ := branch_sim p 225 l.toNat
      obtain ⟨new, h3, h4⟩ := rows_sim ls hs
      exact ⟨c :: new, by rw [h3, h1]; simp, h2.trans h4 (by rw [h1]; simp)⟩
/- how a step may go -/
structure StB (p q : PS) : Prop where
  cells : ∃ new : List Ins, q.cells = p.cells ++ new
  sim : SimP p.cells.length p.ctl q.ctl
structure StC (p q : PS) (x : Ins) : Prop where
  op : x.op = 2 ∨ x.op = 3 ∨ x.op = 4
  dead : p.dead = 0
  cells : ∃ new : List Ins, q.cells = p.cells ++ new
  ctl : ∃ g : PF, q.ctl = g :: p.ctl ∧ g.chain = [] ∧ (g.cond = 0 ∨ g.cond = p.cells.length) ∧ g.jump = 0 ∧ g.start = q.cells.length
structure StD (p q : PS) (x : Ins) (g : PF) (r : List PF) : Prop where
  op : x.op = 5
  dead : p.dead ≤ 1
  cond : g.cond ≠ 0
  len : p.cells.length ≤ q.cells.length
  cells : ∃ new : List Ins, q.cells = setX (p.cells ++ new) g.cond (q.cells.length - 1)
  ctl : ∃ j, q.ctl = { g with cond := 0, jump := j } :: r ∧ (j = g.jump ∨ j = p.cells.length)
structure StF (p q : PS) (x : Ins) (g : PF) (r : List PF) : Prop where
  op : x.op = 11
  dead : p.dead ≤ 1
  cells : ∃ new : List Ins, q.cells = shutC p.cells g ++ new
  ctl : q.ctl = r
theorem stepP_kind {M : Mod} {fn : Fn} {last : Bool} {p q : PS} {x : Ins} {g : PF} {r : List PF} (hc : p.ctl = g :: r) (hs : stepP M fn last p x = some q) : StB p q ∨ StC p q x ∨ StD p q x g r ∨ StF p q x g r := by
  have htop : p.top = g := by unfold PS.top; rw [hc]; rfl
  unfold stepP at hs
  cases hk : skipP p x.op with
  | some q' =>
    rw [hk] at hs
    simp at hs
    subst hs
    left
    unfold skipP at hk
    rcases iteC hk with ⟨_, hk⟩ | ⟨_, hk⟩
    · simp at hk
    rcases iteC hk with ⟨_, hk⟩ | ⟨_, hk⟩
    · simp at hk; subst hk; exact ⟨⟨[], by simp⟩, SimP.refl _ _⟩
    rcases iteC hk with ⟨_, hk⟩ | ⟨_, hk⟩
    · rcases iteC hk with ⟨_, hk⟩ | ⟨_, hk⟩
      · simp at hk; subst hk; exact ⟨⟨[], by simp⟩, SimP.refl _ _⟩
      · simp at hk
    rcases iteC hk with ⟨_, hk⟩ | ⟨_, hk⟩
    · rcases iteC hk with ⟨_, hk⟩ | ⟨_, hk⟩
      · simp at hk
      · simp at hk; subst hk; exact ⟨⟨[], by simp⟩, SimP.refl _ _⟩
    · simp at hk; subst hk; exact ⟨⟨[], by simp⟩, SimP.refl _ _⟩
  | none =>
    rw [hk] at hs
    dsimp only at hs
    have hsk := skip_none hk
    rcases iteC hs with ⟨ho, hs⟩ | ⟨n2, hs⟩
    · right; left
      unfold openP at hs
      rcases iteC hs with ⟨_, hs⟩ | ⟨_, hs⟩
      · simp at hs
      rcases iteC hs with ⟨_, hs⟩ | ⟨_, hs⟩
      · rcases iteC hs with ⟨_, hs⟩ | ⟨_, hs⟩
        · simp at hs
        · simp at hs; subst hs
          exact ⟨ho, by omega, ⟨_, rfl⟩, _, rfl, rfl, .inr rfl, rfl, by simp⟩
      · simp at hs; subst hs
        exact ⟨ho, by omega, ⟨[], by simp⟩, _, rfl, rfl, .inl rfl, rfl, rfl⟩
    rcases iteC hs with ⟨h5, hs⟩ | ⟨n5, hs⟩
    · right; right; left
      have hd : p.dead ≤ 1 := by omega
      unfold turnP at hs
      rw [htop] at hs
      rcases iteC hs with ⟨_, hs⟩ | ⟨_, hs⟩
      · simp at hs
      rcases iteC hs with ⟨_, hs⟩ | ⟨hcd, hs⟩
      · simp at hs
      rcases iteC hs with ⟨_, hs⟩ | ⟨_, hs⟩
      · simp at hs; subst hs
        refine ⟨h5, hd, hcd, by simp [setX_len], ⟨[⟨224, 0, 0⟩], ?_⟩, p.cells.length, by dsimp only; rw [hc]; rfl, .inr rfl⟩
        simp [setX_len]
      · simp at hs; subst hs
        refine ⟨h5, hd, hcd, by simp [setX_len], ⟨[], ?_⟩, g.jump, by dsimp only; rw [hc]; rfl, .inl rfl⟩
        simp [setX_len]
    rcases iteC hs with ⟨h11, hs⟩ | ⟨n11, hs⟩
    · right; right; right
      have hd : p.dead ≤ 1 := by omega
      cases hq : shutP p with
      | none => rw [hq] at hs; simp at hs
      | some q' =>
        rw [hq] at hs
        dsimp only at hs
        rcases iteC hs with ⟨_, hs⟩ | ⟨_, hs⟩
        · simp at hs
        simp at hs
        subst hs
        unfold shutP at hq
        rw [htop] at hq
        rcases iteC hq with ⟨_, hq⟩ | ⟨_, hq⟩
        · simp at hq
        rcases iteC hq with ⟨_, hq⟩ | ⟨_, hq⟩
        · simp at hq
        simp at hq
        subst hq
        refine ⟨h11, hd, ?_, by dsimp only; rw [hc]; rfl⟩
        dsimp only
        split
        · exact ⟨[⟨11, 0, 0⟩], rfl⟩
        · exact ⟨[], by rw [List.append_nil]; rfl⟩
    left
    rcases iteC hs with ⟨_, hs⟩ | ⟨_, hs⟩
    · unfold brP at hs
      rcases iteC hs with ⟨_, hs⟩ | ⟨_, hs⟩
      · rcases iteC hs with ⟨_, hs⟩ | ⟨_, hs⟩
        · simp at hs
        · simp at hs; subst hs
          obtain ⟨c, h1, h2⟩ := branch_sim { p with h := p.h - 1 } 13 x.x.toNat
          exact ⟨⟨[c], h1⟩, h2⟩
      · rcases iteC hs with ⟨_, hs⟩ | ⟨_, hs⟩
        · simp at hs
        · simp at hs; subst hs
          obtain ⟨c, h1, h2⟩ := branch_sim p 12 x.x.toNat
          exact ⟨⟨[c], h1⟩, h2⟩
    rcases iteC hs with ⟨_, hs⟩ | ⟨_, hs⟩
    · unfold tableP at hs
      rcases iteC hs with ⟨_, hs⟩ | ⟨_, hs⟩
      · simp at hs
      split at hs
      · simp at hs
      · rename_i q' hr
        simp at hs
        subst hs
        obtain ⟨new, h1, h2⟩ := rows_sim _ hr
        refine ⟨⟨⟨14, x.y, 0⟩ :: new, by rw [h1]; simp⟩, ?_⟩
        exact (SimP.refl _ _).trans h2 (by simp)
    rcases iteC hs with ⟨_, hs⟩ | ⟨_, hs⟩
    · simp at hs; subst hs
      exact ⟨⟨_, rfl⟩, SimP.refl _ _⟩
    · unfold plainP at hs
      split at hs
      · simp at hs
      · rcases iteC hs with ⟨_, hs⟩ | ⟨_, hs⟩
        · simp at hs
        · simp at hs; subst hs
          exact ⟨⟨_, rfl⟩, SimP.refl _ _⟩
/- K = 0: the chain; 1: the if's own cell; 2: the jump over an else -/
def hasK (K : Nat) (g : PF) (i : Nat) : Prop := if K = 0 then i ∈ g.chain else if K = 1 then g.cond = i else g.jump = i
def opK (K op : Nat) : Prop := if K = 0 then isBr op else if K = 1 then op = 4 else op = 224
theorem hasK_op {K i : Nat} {g : PF} {l : List Ins} (hG : GI l g) (h : hasK K g i) (hi : 1 ≤ i) : ∃ c, l[i]? = some c ∧ opK K c.op := by
  unfold hasK at h
  unfold opK
  split at h
  · rename_i e
    obtain ⟨_, c, h1, h2⟩ := hG.ch.mem i h
    exact ⟨c, h1, by rw [if_pos e]; exact h2⟩
  · rename_i e
    split at h
    · rename_i e1
      obtain ⟨c, h1, h2⟩ := hG.co (by omega)
      rw [h] at h1
      exact ⟨c, h1, by rw [if_neg e, if_pos e1]; exact h2⟩
    · rename_i e1
      obtain ⟨c, h1, h2⟩ := hG.ju (by omega)
      rw [h] at h1
      exact ⟨c, h1, by rw [if_neg e, if_neg e1]; exact h2⟩
theorem opK_inj {K K' op : Nat} (h : opK K op) (h' : opK K' op) (hK : K ≤ 2) (hK' : K' ≤ 2) : K = K' := by
  unfold opK isBr at h h'
  split at h <;> split at h'
  all_goals try (split at h)
  all_goals try (split at h')
  all_goals omega
def Pend (K i m : Nat) (p : PS) : Prop := (∃ g, p.ctl.reverse[m]? = some g ∧ hasK K g i) ∧ ∀ (m' : Nat) (g' : PF), p.ctl.reverse[m']? = some g' → hasK K g' i → m' = m
def Free (K i : Nat) (p : PS) : Prop := ∀ (m' : Nat) (g' : PF), p.ctl.reverse[m']? = some g' → ¬ hasK K g' i
theorem rev_mem {α : Type} {l : List α} {m : Nat} {x : α} (h : l.reverse[m]? = some x) : x ∈ l := by
  have := List.mem_of_getElem? h
  simpa using this
section
variable {p q : PS} {K i m : Nat} {c : Ins}
theorem sim_has {n : Nat} {g g' : PF} (h1 : g'.cond = g.cond) (h2 : g'.jump = g.jump) (h3 : ∀ i, i < n → (i ∈ g'.chain ↔ i ∈ g.chain)) (hi : i < n) : hasK K g' i ↔ hasK K g i := by
  unfold hasK
  split
  · exact h3 i hi
  · split
    · rw [h1]
    · rw [h2]
theorem SimP.back {n : Nat} {a b : List PF} (h : SimP n a b) {m : Nat} {g : PF} (hg : a.reverse[m]? = some g) : ∃ g', b.reverse[m]? = some g' := by
  have hm := (List.getElem?_eq_some_iff.1 hg).1
  refine ⟨_, List.getElem?_eq_getElem ?_⟩
  have := h.1
  simp at hm ⊢
  omega
/- WHAT A STEP DOES TO A CELL -/
theorem prom_step {M : Mod} {fn : Fn} {last : Bool} {x : Ins} (hp : PI p) (hJ : ∀ g, g ∈ p.ctl → g.cond ≠ 0 → g.jump = 0) {g : PF} {r : List PF} (hc : p.ctl = g :: r) (hs : stepP M fn last p x = some q) (hi : 1 ≤ i) (hcell : p.cells[i]? = some c) (hop : opK K c.op) (hK : K ≤ 2) :
    (Free K i p → Free K i q ∧ q.cells[i]? = some c) ∧
    (Pend K i m p → (Pend K i m q ∧ q.cells[i]? = some c) ∨ (Free K i q ∧ p.ctl.length = m + 1 ∧ p.dead ≤ 1 ∧ hasK K g i ∧ ((x.op = 11 ∧ q.cells[i]? = some { c with x := ((p.cells.length - 1 : Nat) : Int) }) ∨ (x.op = 5 ∧ K = 1 ∧ q.cells[i]? = some { c with x := ((q.cells.length - 1 : Nat) : Int) })))) := by
  have hil := (List.getElem?_eq_some_iff.1 hcell).1
  have keepc : ∀ new : List Ins, q.cells = p.cells ++ new → q.cells[i]? = some c := fun new e => by rw [e, List.getElem?_append_left hil]; exact hcell
  have hgG := hp.g g (by rw [hc]; simp)
  rcases stepP_kind hc hs with hB | hC | hD | hF
  · obtain ⟨new, hn⟩ := hB.cells
    refine ⟨fun hf => ⟨fun m' g' hg' hh => ?_, keepc new hn⟩, fun hpd => .inl ⟨⟨?_, fun m' g' hg' hh => ?_⟩, keepc new hn⟩⟩
    · obtain ⟨g0, e1, e2, e3, e4, _⟩ := hB.sim.2 m' g' hg'
      exact hf m' g0 e1 ((sim_has e2 e3 e4 hil).1 hh)
    · obtain ⟨⟨g0, e1, e2⟩, _⟩ := hpd
      obtain ⟨g', hg'⟩ := hB.sim.back e1
      obtain ⟨g1, d1, d2, d3, d4, _⟩ := hB.sim.2 m g' hg'
      rw [e1] at d1
      simp at d1
      subst d1
      exact ⟨g', hg', (sim_has d2 d3 d4 hil).2 e2⟩
    · obtain ⟨g0, e1, e2, e3, e4, _⟩ := hB.sim.2 m' g' hg'
      exact hpd.2 m' g0 e1 ((sim_has e2 e3 e4 hil).1 hh)
  · obtain ⟨new, hn⟩ := hC.cells
    obtain ⟨gn, h1, h2, h3, h4, _⟩ := hC.ctl
    have hnew : ¬ hasK K gn i := by
      unfold hasK
      split
      · rw [h2]; simp
      · split
        · rcases h3 with h3 | h3 <;> omega
        · omega
    refine ⟨fun hf => ⟨fun m' g' hg' hh => ?_, keepc new hn⟩, fun hpd => .inl ⟨⟨?_, fun m' g' hg' hh => ?_⟩, keepc new hn⟩⟩
    · rw [h1] at hg'
      rcases rev_cons hg' with ⟨_, e⟩ | ⟨_, e⟩
      · exact hf m' g' e hh
      · subst e; exact hnew hh
    · obtain ⟨⟨g0, e1, e2⟩, _⟩ := hpd
      have hm := (List.getElem?_eq_some_iff.1 e1).1
      exact ⟨g0, by rw [h1, rev_old (by simpa using hm)]; exact e1, e2⟩
    · rw [h1] at hg'
      rcases rev_cons hg' with ⟨_, e⟩ | ⟨_, e⟩
      · exact hpd.2 m' g' e hh
      · subst e; exact absurd hh hnew
  · obtain ⟨new, hn⟩ := hD.cells
    obtain ⟨j, h1, h2⟩ := hD.ctl
    have hc0 := hD.cond
    have hj0 := hJ g (by rw [hc]; simp) hc0
    have happ : (p.cells ++ new)[i]? = some c := by rw [List.getElem?_append_left hil]; exact hcell
    obtain ⟨x4, hx4, ho4⟩ := hgG.co hc0
    have hnew : hasK K { g with cond := 0, jump := j } i → hasK K g i ∧ K = 0 := by
      unfold hasK
      intro h
      split at h
      · rename_i e; exact ⟨by rw [if_pos e]; exact h, e⟩
      · split at h
        · dsimp only at h; omega
        · dsimp only at h
          rcases h2 with h2 | h2 <;> omega
    have hsame : ¬ (K = 1 ∧ g.cond = i) → q.cells[i]? = some c := fun hne => by
      have hne2 : i ≠ g.cond := fun e => by
        rw [← e, hcell] at hx4
        simp at hx4
        subst hx4
        have : K = 1 := opK_inj hop (by unfold opK; simp; exact ho4) hK (by omega)
        exact hne ⟨this, e.symm⟩
      rw [hn, setX_ne hne2]
      exact happ
    have hlev : ∀ (m' : Nat) (g' : PF), q.ctl.reverse[m']? = some g' → (m' < r.length ∧ p.ctl.reverse[m']? = some g') ∨ (m' = r.length ∧ g' = { g with cond := 0, jump := j }) := fun m' g' hg' => by
      rw [h1] at hg'
      rcases rev_cons hg' with ⟨e0, e⟩ | ⟨e0, e⟩
      · exact .inl ⟨e0, by rw [hc, rev_old e0]; exact e⟩
      · exact .inr ⟨e0, e⟩
    have htopg : p.ctl.reverse[r.length]? = some g := by rw [hc]; exact rev_top _ _
    refine ⟨fun hf => ⟨fun m' g' hg' hh => ?_, hsame (fun e => hf _ _ htopg (by unfold hasK; rw [if_neg (by omega), if_pos e.1]; exact e.2))⟩, fun hpd => ?_⟩
    · rcases hlev m' g' hg' with ⟨e0, e⟩ | ⟨e0, e⟩
      · exact hf m' g' e hh
      · subst e
        exact hf _ _ htopg (hnew hh).1
    · obtain ⟨⟨g0, e1, e2⟩, e3⟩ := hpd
      by_cases hK1 : K = 1 ∧ g.cond = i
      · right
        have hg1 : hasK K g i := by unfold hasK; rw [if_neg (by omega), if_pos hK1.1]; exact hK1.2
        have hm : r.length = m := e3 _ _ htopg hg1
        refine ⟨fun m' g' hg' hh => ?_, by rw [hc, List.length_cons, hm], hD.dead, hg1, .inr ⟨hD.op, hK1.1, ?_⟩⟩
        · rcases hlev m' g' hg' with ⟨e0, e⟩ | ⟨e0, e⟩
          · have := e3 m' g' e hh
            omega
          · subst e
            have := (hnew hh).2
            omega
        · have h9 := setX_at (c := p.cells ++ new) (i := i) (here := q.cells.length - 1) happ
          have h10 : q.cells[i]? = (setX (p.cells ++ new) i (q.cells.length - 1))[i]? := by
            have := congrArg (fun l : List Ins => l[i]?) hn
            rw [hK1.2] at this
            exact this
          rw [h10]
          exact h9
      · left
        refine ⟨⟨?_, fun m' g' hg' hh => ?_⟩, hsame hK1⟩
        · by_cases hm : m = r.length
          · subst hm
            rw [htopg] at e1
            simp at e1
            subst e1
            refine ⟨_, by rw [h1]; exact rev_top _ _, ?_⟩
            unfold hasK at e2 ⊢
            by_cases k0 : K = 0
            · rw [if_pos k0] at e2 ⊢; exact e2
            · rw [if_neg k0] at e2
              by_cases k1 : K = 1
              · rw [if_pos k1] at e2; exact absurd ⟨k1, e2⟩ hK1
              · rw [if_neg k1] at e2; omega
          · have hml := (List.getElem?_eq_some_iff.1 e1).1
            rw [hc] at hml
            simp at hml
            rw [hc, rev_old (by omega)] at e1
            exact ⟨g0, by rw [h1, rev_old (by omega)]; exact e1, e2⟩
        · rcases hlev m' g' hg' with ⟨e0, e⟩ | ⟨e0, e⟩
          · exact e3 m' g' e hh
          · subst e
            rw [e0]
            exact e3 _ _ htopg (hnew hh).1
  · obtain ⟨new, hn⟩ := hF.cells
    have h1 := hF.ctl
    have htopg : p.ctl.reverse[r.length]? = some g := by rw [hc]; exact rev_top _ _
    obtain ⟨d, hd, pc⟩ := shut_pc (g := g) hcell
    have hdl := (List.getElem?_eq_some_iff.1 hd).1
    have hqd : q.cells[i]? = some d := by rw [hn, List.getElem?_append_left hdl]; exact hd
    have hpat : (i ∈ g.chain ∨ (g.cond ≠ 0 ∧ i = g.cond) ∨ (g.jump ≠ 0 ∧ i = g.jump)) ↔ hasK K g i := by
      constructor
      · intro h
        have : ∃ K', K' ≤ 2 ∧ hasK K' g i := by
          rcases h with h | ⟨_, h⟩ | ⟨_, h⟩
          · exact ⟨0, by omega, by unfold hasK; simp; exact h⟩
          · exact ⟨1, by omega, by unfold hasK; simp; exact h.symm⟩
          · exact ⟨2, by omega, by unfold hasK; simp; exact h.symm⟩
        obtain ⟨K', hK', h'⟩ := this
        obtain ⟨c', e1, e2⟩ := hasK_op hgG h' hi
        rw [hcell] at e1
        simp at e1
        subst e1
        rw [opK_inj hop e2 hK hK']
        exact h'
      · intro h
        unfold hasK at h
        split at h
        · exact .inl h
        · split at h
          · exact .inr (.inl ⟨by omega, h.symm⟩)
          · exact .inr (.inr ⟨by omega, h.symm⟩)
    have hsame : ¬ hasK K g i → q.cells[i]? = some c := fun hne => by
      have hx := pc.n1 (fun h => hne (hpat.1 h))
      have ho := pc.op
      have hy := pc.y
      rw [hqd]
      congr 1
      obtain ⟨a, b, e1⟩ := c
      obtain ⟨a', b', e'⟩ := d
      simp at ho hx hy
      rw [ho, hx, hy]
    have hlev : ∀ (m' : Nat) (g' : PF), q.ctl.reverse[m']? = some g' → m' < r.length ∧ p.ctl.reverse[m']? = some g' := fun m' g' hg' => by
      rw [h1] at hg'
      have := (List.getElem?_eq_some_iff.1 hg').1
      simp at this
      exact ⟨this, by rw [hc, rev_old this]; exact hg'⟩
    refine ⟨fun hf => ⟨fun m' g' hg' hh => hf m' g' (hlev m' g' hg').2 hh, hsame (hf _ _ htopg)⟩, fun hpd => ?_⟩
    obtain ⟨⟨g0, e1, e2⟩, e3⟩ := hpd
    by_cases hg : hasK K g i
    · right
      have hm : r.length = m := e3 _ _ htopg hg
      refine ⟨fun m' g' hg' hh => ?_, by rw [hc, List.length_cons, hm], hF.dead, hg, .inl ⟨hF.op, ?_⟩⟩
      · obtain ⟨e4, e5⟩ := hlev m' g' hg'
        have := e3 m' g' e5 hh
        omega
      · have hx := pc.y1 (hpat.2 hg)
        have ho := pc.op
        have hy := pc.y
        rw [hqd]
        congr 1
        obtain ⟨a, b, e1⟩ := c
        obtain ⟨a', b', e'⟩ := d
        simp at ho hx hy
        rw [ho, hx, hy]
    · left
      refine ⟨⟨?_, fun m' g' hg' hh => e3 m' g' (hlev m' g' hg').2 hh⟩, hsame hg⟩
      have hml := (List.getElem?_eq_some_iff.1 e1).1
      rw [hc] at hml
      simp at hml
      have hne : m ≠ r.length := fun e => by
        subst e
        rw [htopg] at e1
        simp at e1
        subst e1
        exact hg e2
      rw [hc, rev_old (by omega)] at e1
      exact ⟨g0, by rw [h1]; exact e1, e2⟩
/- a plain cell stays -/
theorem plain_stays {M : Mod} {fn : Fn} {last : Bool} {x : Ins} (hp : PI p) {g : PF} {r : List PF} (hc : p.ctl = g :: r) (hs : stepP M fn last p x = some q) (hcell : p.cells[i]? = some c) (hop : ¬ (c.op = 4 ∨ c.op = 224 ∨ isBr c.op)) : q.cells[i]? = some c := by
  have hil := (List.getElem?_eq_some_iff.1 hcell).1
  have hgG := hp.g g (by rw [hc]; simp)
  have keepc : ∀ new : List Ins, q.cells = p.cells ++ new → q.cells[i]? = some c := fun new e => by rw [e, List.getElem?_append_left hil]; exact hcell
  rcases stepP_kind hc hs with hB | hC | hD | hF
  · obtain ⟨new, hn⟩ := hB.cells
    exact keepc new hn
  · obtain ⟨new, hn⟩ := hC.cells
    exact keepc new hn
  · obtain ⟨new, hn⟩ := hD.cells
    obtain ⟨x4, hx4, ho4⟩ := hgG.co hD.cond
    have hne2 : i ≠ g.cond := fun e => by
      rw [← e, hcell] at hx4
      simp at hx4
      subst hx4
      exact hop (.inl ho4)
    rw [hn, setX_ne hne2, List.getElem?_append_left hil]
    exact hcell
  · obtain ⟨new, hn⟩ := hF.cells
    obtain ⟨d, hd, pc⟩ := shut_pc (g := g) hcell
    have hdl := (List.getElem?_eq_some_iff.1 hd).1
    have hqd : q.cells[i]? = some d := by rw [hn, List.getElem?_append_left hdl]; exact hd
    have hx := pc.n1 (fun h => by
      rcases h with h | ⟨h0, h⟩ | ⟨h0, h⟩
      · obtain ⟨_, c', e1, e2⟩ := hgG.ch.mem i h
        rw [hcell] at e1
        simp at e1
        subst e1
        exact hop (.inr (.inr e2))
      · obtain ⟨c', e1, e2⟩ := hgG.co h0
        rw [← h, hcell] at e1
        simp at e1
        subst e1
        exact hop (.inl e2)
      · obtain ⟨c', e1, e2⟩ := hgG.ju h0
        rw [← h, hcell] at e1
        simp at e1
        subst e1
        exact hop (.inr (.inl e2)))
    have ho := pc.op
    have hy := pc.y
    rw [hqd]
    congr 1
    obtain ⟨a, b, e1⟩ := c
    obtain ⟨a', b', e'⟩ := d
    simp at ho hx hy
    rw [ho, hx, hy]
end
end Go.Proofs.Qxb6500275aGreatDoor
