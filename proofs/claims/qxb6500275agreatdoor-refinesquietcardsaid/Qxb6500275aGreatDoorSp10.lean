import Derived.Test.Qxb6500275aGreatDoorSp9
set_option linter.unusedVariables false
set_option linter.unusedSimpArgs false
set_option maxRecDepth 100000
namespace Go.Proofs.Qxb6500275aGreatDoor
open Go Go.RowKit
def Ins.zero : Ins := ⟨0, 0, 0⟩
theorem iteC {α : Type} {c : Prop} [Decidable c] {a b r : α} (h : (if c then a else b) = r) : (c ∧ a = r) ∨ (¬ c ∧ b = r) := by
  by_cases hc : c
  · rw [if_pos hc] at h; exact .inl ⟨hc, h⟩
  · rw [if_neg hc] at h; exact .inr ⟨hc, h⟩
def isBr (op : Nat) : Prop := op = 12 ∨ op = 13 ∨ op = 225
/- a chain through the cells' own X -/
def Chain (c : List Ins) : List Nat → Prop
  | [] => True
  | a :: r => (0 < a ∧ ∃ x, c[a]? = some x ∧ isBr x.op ∧ x.x = ((r.headD 0 : Nat) : Int)) ∧ (∀ b, b ∈ r → b < a) ∧ Chain c r
theorem setX_len (c : List Ins) (i here : Nat) : (setX c i here).length = c.length := by simp [setX]
theorem setX_ne {c : List Ins} {i here j : Nat} (h : j ≠ i) : (setX c i here)[j]? = c[j]? := by
  have : ¬ i = j := fun e => h e.symm
  simp [setX, List.getElem?_modify, this]
theorem setX_at {c : List Ins} {i here : Nat} {x : Ins} (h : c[i]? = some x) : (setX c i here)[i]? = some { x with x := here } := by
  simp [setX, List.getElem?_modify, h]
theorem setX_op {c : List Ins} {i here j : Nat} {y : Ins} (h : (setX c i here)[j]? = some y) : ∃ x, c[j]? = some x ∧ x.op = y.op ∧ x.y = y.y := by
  by_cases e : j = i
  · subst e
    cases hx : c[j]? with
    | none =>
      unfold setX at h
      rw [List.getElem?_modify, hx] at h
      simp at h
    | some x =>
      rw [setX_at hx] at h
      simp at h
      subst h
      exact ⟨x, rfl, rfl, rfl⟩
  · rw [setX_ne e] at h
    exact ⟨y, h, rfl, rfl⟩
theorem Chain.keep {c c' : List Ins} : ∀ {l : List Nat}, Chain c l → (∀ a, a ∈ l → c'[a]? = c[a]?) → Chain c' l
  | [], _, _ => trivial
  | a :: r, h, hk => by
    obtain ⟨⟨h1, x, h2, h3, h4⟩, h5, h6⟩ := h
    exact ⟨⟨h1, x, by rw [hk a (by simp)]; exact h2, h3, h4⟩, h5, h6.keep (fun b hb => hk b (by simp [hb]))⟩
theorem Chain.mem {c : List Ins} : ∀ {l : List Nat}, Chain c l → ∀ a, a ∈ l → 0 < a ∧ ∃ x, c[a]? = some x ∧ isBr x.op
  | [], _, a, ha => by simp at ha
  | b :: r, h, a, ha => by
    obtain ⟨⟨h1, x, h2, h3, h4⟩, h5, h6⟩ := h
    rcases List.mem_cons.1 ha with rfl | ha
    · exact ⟨h1, x, h2, h3⟩
    · exact h6.mem a ha
theorem Chain.app {c : List Ins} {l : List Nat} (h : Chain c l) (d : List Ins) : Chain (c ++ d) l := by
  refine h.keep (fun a ha => ?_)
  obtain ⟨_, x, hx, _⟩ := h.mem a ha
  rw [List.getElem?_append_left (List.getElem?_eq_some_iff.1 hx).1]
theorem Chain.setX {c : List Ins} {l : List Nat} (h : Chain c l) {i here : Nat} (hi : i ∉ l) : Chain (setX c i here) l :=
  h.keep (fun a ha => setX_ne (fun e => hi (e ▸ ha)))
theorem patchP_len (here : Nat) : ∀ (l : List Nat) (c : List Ins), (patchP c here l).length = c.length
  | [], c => rfl
  | a :: r, c => by rw [patchP, patchP_len here r, setX_len]
theorem patchP_ne (here : Nat) : ∀ (l : List Nat) (c : List Ins) (j : Nat), j ∉ l → (patchP c here l)[j]? = c[j]?
  | [], c, j, h => rfl
  | a :: r, c, j, h => by
    rw [patchP, patchP_ne here r _ j (fun hj => h (by simp [hj])), setX_ne (fun e => h (by simp [e]))]
theorem patchP_at (here : Nat) : ∀ (l : List Nat) (c : List Ins) (j : Nat) (x : Ins), j ∈ l → c[j]? = some x → (patchP c here l)[j]? = some { x with x := here }
  | [], c, j, x, h, hx => by simp at h
  | a :: r, c, j, x, h, hx => by
    rw [patchP]
    by_cases e : j = a
    · subst e
      by_cases hr : j ∈ r
      · rw [patchP_at here r _ j _ hr (setX_at hx)]
      · rw [patchP_ne here r _ j hr, setX_at hx]
    · have hr : j ∈ r := by
        rcases List.mem_cons.1 h with h | h
        · exact absurd h e
        · exact h
      exact patchP_at here r _ j x hr (by rw [setX_ne e]; exact hx)
theorem patchP_op (here : Nat) : ∀ (l : List Nat) (c : List Ins) (j : Nat) (y : Ins), (patchP c here l)[j]? = some y → ∃ x, c[j]? = some x ∧ x.op = y.op ∧ x.y = y.y
  | [], c, j, y, h => ⟨y, h, rfl, rfl⟩
  | a :: r, c, j, y, h => by
    rw [patchP] at h
    obtain ⟨x, h1, h2, h3⟩ := patchP_op here r _ j y h
    obtain ⟨z, h4, h5, h6⟩ := setX_op h1
    exact ⟨z, h4, h5.trans h2, h6.trans h3⟩
/- one block, as it stands -/
structure GI (c : List Ins) (g : PF) : Prop where
  ch : Chain c g.chain
  fl : g.floor ≤ 10
  ar : g.arity ≤ 1
  st : g.start ≤ c.length
  lp : g.op = 3 → 1 ≤ g.start ∧ g.chain = []
  op : g.op < 256
  co : g.cond ≠ 0 → ∃ x, c[g.cond]? = some x ∧ x.op = 4
  ju : g.jump ≠ 0 → ∃ x, c[g.jump]? = some x ∧ x.op = 224
theorem GI.keep {c c' : List Ins} {g : PF} (h : GI c g) (hl : c.length ≤ c'.length) (h1 : ∀ a, a ∈ g.chain → c'[a]? = c[a]?) (h2 : ∀ (j : Nat) (x : Ins), c[j]? = some x → ∃ y, c'[j]? = some y ∧ y.op = x.op) : GI c' g := by
  refine ⟨h.ch.keep h1, h.fl, h.ar, Nat.le_trans h.st hl, h.lp, h.op, fun hc => ?_, fun hj => ?_⟩
  · obtain ⟨x, hx, ho⟩ := h.co hc
    obtain ⟨y, hy, he⟩ := h2 _ x hx
    exact ⟨y, hy, he.trans ho⟩
  · obtain ⟨x, hx, ho⟩ := h.ju hj
    obtain ⟨y, hy, he⟩ := h2 _ x hx
    exact ⟨y, hy, he.trans ho⟩
theorem GI.app {c : List Ins} {g : PF} (h : GI c g) (d : List Ins) : GI (c ++ d) g :=
  h.keep (by simp) (fun a ha => by
    obtain ⟨_, x, hx, _⟩ := h.ch.mem a ha
    rw [List.getElem?_append_left (List.getElem?_eq_some_iff.1 hx).1]) (fun j x hx => ⟨x, by rw [List.getElem?_append_left (List.getElem?_eq_some_iff.1 hx).1]; exact hx, rfl⟩)
theorem setX_some {c : List Ins} {i here : Nat} (j : Nat) (x : Ins) (hx : c[j]? = some x) : ∃ y, (setX c i here)[j]? = some y ∧ y.op = x.op := by
  by_cases e : j = i
  · subst e; exact ⟨_, setX_at hx, rfl⟩
  · exact ⟨x, by rw [setX_ne e]; exact hx, rfl⟩
theorem GI.setX {c : List Ins} {g : PF} (h : GI c g) {i here : Nat} (hi : i ∉ g.chain) : GI (setX c i here) g :=
  h.keep (by rw [setX_len]; exact Nat.le_refl _) (fun a ha => setX_ne (fun e => hi (e ▸ ha))) (fun j x hx => setX_some j x hx)
theorem setX0_len (c : List Ins) (i here : Nat) : (setX0 c i here).length = c.length := by
  unfold setX0
  split
  · rfl
  · exact setX_len _ _ _
theorem GI.setX0 {c : List Ins} {g : PF} (h : GI c g) {i here : Nat} (hi : i ≠ 0 → i ∉ g.chain) : GI (setX0 c i here) g := by
  unfold Go.Proofs.Qxb6500275aGreatDoor.setX0
  split
  · exact h
  · rename_i h0
    exact h.setX (hi h0)
theorem GI.patch {c : List Ins} {g : PF} (h : GI c g) {here : Nat} {l : List Nat} (hi : ∀ a, a ∈ g.chain → a ∉ l) : GI (patchP c here l) g :=
  h.keep (by rw [patchP_len]; exact Nat.le_refl _) (fun a ha => patchP_ne here l c a (hi a ha)) (fun j x hx => by
    by_cases e : j ∈ l
    · exact ⟨_, patchP_at here l c j x e hx, rfl⟩
    · exact ⟨x, by rw [patchP_ne here l c j e]; exact hx, rfl⟩)
/- what holds at the head of every round -/
structure PI (p : PS) : Prop where
  g : ∀ g, g ∈ p.ctl → GI p.cells g
  dj : p.ctl.Pairwise (fun a b => ∀ i, i ∈ a.chain → i ∉ b.chain)
  z : p.cells[0]? = some Ins.zero
  h : p.h ≤ 10
  lC : p.ctl.length ≤ 7
theorem PI.pos {p : PS} (h : PI p) : 0 < p.cells.length := (List.getElem?_eq_some_iff.1 h.z).1
theorem PI.top {p : PS} (h : PI p) (hc : p.ctl ≠ []) : GI p.cells p.top := by
  obtain ⟨c, l, hh, d⟩ := p
  cases l with
  | nil => exact absurd rfl hc
  | cons g r => exact h.g g (by simp)
theorem PI.lay {p : PS} (h : PI p) (d : List Ins) (hh dd : Nat) (h10 : hh ≤ 10) : PI ⟨p.cells ++ d, p.ctl, hh, dd⟩ :=
  ⟨fun g hg => (h.g g hg).app d, h.dj, by have := h.z; rw [List.getElem?_append_left h.pos]; exact this, h10, h.lC⟩
theorem PI.plain {M : Mod} {p q : PS} (h : PI p) {x : Ins} (hs : plainP M p x = some q) : PI q := by
  unfold plainP at hs
  split at hs
  · simp at hs
  · split at hs
    · simp at hs
    · simp at hs
      subst hs
      exact h.lay _ _ _ (by omega)
theorem PI.open {p q : PS} (h : PI p) (hc : p.ctl ≠ []) {x : Ins} (ho : x.op = 2 ∨ x.op = 3 ∨ x.op = 4) (hs : openP p x = some q) : PI q := by
  have hp := h.pos
  have hh := h.h
  unfold openP at hs
  split at hs
  · simp at hs
  · rename_i hl
    have hlC := h.lC
    split at hs
    · split at hs
      · simp at hs
      · simp at hs
        subst hs
        refine ⟨fun g hg => ?_, ?_, ?_, by dsimp only; omega, by simp; omega⟩
        · rcases List.mem_cons.1 hg with rfl | hg
          · refine ⟨trivial, by dsimp only; omega, by dsimp only; split <;> omega, by simp, fun e => by dsimp only at e; omega, by dsimp only; omega, fun _ => ⟨⟨4, 0, 0⟩, by simp, rfl⟩, fun e => absurd rfl e⟩
          · exact (h.g g hg).app _
        · refine List.Pairwise.cons (fun b hb i hi => by simp at hi) h.dj
        · have := h.z; rw [List.getElem?_append_left hp]; exact this
    · rename_i h4
      simp at hs
      subst hs
      refine ⟨fun g hg => ?_, ?_, h.z, hh, by simp; omega⟩
      · rcases List.mem_cons.1 hg with rfl | hg
        · refine ⟨trivial, hh, by dsimp only; split <;> omega, Nat.le_refl _, fun e => ⟨hp, rfl⟩, by dsimp only; omega, fun e => absurd rfl e, fun e => absurd rfl e⟩
        · exact h.g g hg
      · refine List.Pairwise.cons (fun b hb i hi => by simp at hi) h.dj
theorem GI.notIn {c : List Ins} {g g' : PF} (h : GI c g) {i : Nat} {x : Ins} (hx : c[i]? = some x) (ho : ¬ isBr x.op) : i ∉ g.chain := fun hi => by
  obtain ⟨_, y, hy, hb⟩ := h.ch.mem i hi
  rw [hx] at hy
  simp at hy
  subst hy
  exact ho hb
theorem br4 : ¬ isBr 4 := by unfold isBr; omega
theorem br224 : ¬ isBr 224 := by unfold isBr; omega
theorem PI.turn {p q : PS} (h : PI p) (hc : p.ctl ≠ []) (hs : turnP p = some q) : PI q := by
  have hp := h.pos
  obtain ⟨cells, ctl, hh, dd⟩ := p
  cases ctl with
  | nil => exact absurd rfl hc
  | cons f r =>
  have hf := h.g f (by simp)
  have hfl := hf.fl
  unfold turnP at hs
  simp only [PS.top, List.headD_cons, List.tail_cons] at hs
  rcases iteC hs with ⟨_, hs⟩ | ⟨_, hs⟩
  · simp at hs
  · rcases iteC hs with ⟨_, hs⟩ | ⟨hcd, hs⟩
    · simp at hs
    · replace hcd : ¬ f.cond = 0 := hcd
      obtain ⟨x4, hx4, ho4⟩ := hf.co hcd
      have hno : ∀ g, g ∈ f :: r → f.cond ∉ g.chain := fun g hg => (h.g g hg).notIn (g' := g) hx4 (by rw [ho4]; exact br4)
      have hcl := (List.getElem?_eq_some_iff.1 hx4).1
      dsimp only at hcl
      have hdj := h.dj
      simp only [List.pairwise_cons] at hdj
      have c0 : f.cond ≠ 0 := hcd
      rcases iteC hs with ⟨_, hs⟩ | ⟨_, hs⟩
      · simp at hs
        subst hs
        refine ⟨fun g hg => ?_, ?_, ?_, hfl, h.lC⟩
        · rcases List.mem_cons.1 hg with rfl | hg
          · have hA := (hf.app [⟨224, 0, 0⟩]).setX (i := f.cond) (here := cells.length) (hno f (by simp))
            refine ⟨hA.ch, hA.fl, hA.ar, hA.st, hA.lp, hA.op, fun e => absurd rfl e, fun _ => ?_⟩
            obtain ⟨y, hy, he⟩ := setX_some (c := cells ++ [⟨224, 0, 0⟩]) (i := f.cond) (here := cells.length) cells.length ⟨224, 0, 0⟩ (by simp)
            exact ⟨y, hy, he⟩
          · exact ((h.g g (by simp [hg])).app _).setX (hno g (by simp [hg]))
        · exact List.Pairwise.cons hdj.1 hdj.2
        · rw [setX_ne (Ne.symm c0), List.getElem?_append_left hp]; exact h.z
      · simp at hs
        subst hs
        refine ⟨fun g hg => ?_, ?_, ?_, hfl, h.lC⟩
        · rcases List.mem_cons.1 hg with rfl | hg
          · have hA := hf.setX (i := f.cond) (here := cells.length - 1) (hno f (by simp))
            exact ⟨hA.ch, hA.fl, hA.ar, hA.st, hA.lp, hA.op, fun e => absurd rfl e, hA.ju⟩
          · exact (h.g g (by simp [hg])).setX (hno g (by simp [hg]))
        · exact List.Pairwise.cons hdj.1 hdj.2
        · rw [setX_ne (Ne.symm c0)]; exact h.z
theorem PI.shut {p q : PS} (h : PI p) (hc : p.ctl ≠ []) (hs : shutP p = some q) : PI q := by
  have hp := h.pos
  obtain ⟨cells, ctl, hh, dd⟩ := p
  cases ctl with
  | nil => exact absurd rfl hc
  | cons f r =>
  have hf := h.g f (by simp)
  have hdj := h.dj
  have hlC := h.lC
  simp only [List.pairwise_cons] at hdj
  unfold shutP at hs
  simp only [PS.top, List.headD_cons, List.tail_cons] at hs
  rcases iteC hs with ⟨_, hs⟩ | ⟨_, hs⟩
  · simp at hs
  · rcases iteC hs with ⟨_, hs⟩ | ⟨h10, hs⟩
    · simp at hs
    · replace h10 : ¬ 10 < f.floor + f.arity := h10
      simp at hs
      subst hs
      have hG : ∀ g, g ∈ r → GI (setX0 (setX0 (patchP cells (cells.length - 1) f.chain) f.cond (cells.length - 1)) f.jump (cells.length - 1)) g := fun g hg => by
        have hg' := h.g g (by simp [hg])
        refine ((hg'.patch (fun a ha hb => hdj.1 g hg a hb ha)).setX0 (fun hi => ?_)).setX0 (fun hi => ?_)
        · obtain ⟨x, hx, ho⟩ := hf.co hi
          exact hg'.notIn (g' := g) hx (by rw [ho]; exact br4)
        · obtain ⟨x, hx, ho⟩ := hf.ju hi
          exact hg'.notIn (g' := g) hx (by rw [ho]; exact br224)
      have hz : (setX0 (setX0 (patchP cells (cells.length - 1) f.chain) f.cond (cells.length - 1)) f.jump (cells.length - 1))[0]? = some Ins.zero := by
        have h0 : (patchP cells (cells.length - 1) f.chain)[0]? = some Ins.zero := by
          rw [patchP_ne _ _ _ _ (fun h0 => by have := (hf.ch.mem 0 h0).1; omega)]; exact h.z
        have h1 : (setX0 (patchP cells (cells.length - 1) f.chain) f.cond (cells.length - 1))[0]? = some Ins.zero := by
          unfold setX0
          split
          · exact h0
          · rw [setX_ne (by omega)]; exact h0
        unfold setX0
        split
        · exact h1
        · rw [setX_ne (by omega)]; exact h1
      refine ⟨fun g hg => ?_, hdj.2, ?_, by dsimp only; omega, by simp at hlC; show r.length ≤ 7; omega⟩
      · dsimp only
        split
        · exact (hG g hg).app _
        · exact hG g hg
      · dsimp only
        split
        · rw [List.getElem?_append_left (List.getElem?_eq_some_iff.1 hz).1]; exact hz
        · exact hz
theorem PI.branch {p : PS} (h : PI p) {op l : Nat} (ho : isBr op) (hl : l < p.ctl.length) : PI (branchP p op l) ∧ (branchP p op l).ctl.length = p.ctl.length ∧ (branchP p op l).cells.length = p.cells.length + 1 ∧ (branchP p op l).h = p.h ∧ (branchP p op l).dead = p.dead := by
  have hp := h.pos
  unfold branchP
  dsimp only
  split
  · exact ⟨h.lay _ _ _ h.h, rfl, by simp, rfl, rfl⟩
  · rename_i h3
    obtain ⟨f, hf⟩ : ∃ f, p.ctl[l]? = some f := ⟨_, List.getElem?_eq_getElem hl⟩
    have hfd : p.ctl.getD l PF.zero = f := by rw [List.getD_eq_getElem?_getD, hf]; rfl
    rw [hfd] at h3 ⊢
    refine ⟨⟨fun g hg => ?_, ?_, ?_, h.h, by simpa using h.lC⟩, by simp, by simp, rfl, rfl⟩
    · obtain ⟨j, hj, hjg⟩ := List.getElem_of_mem hg
      have hj2 : (p.ctl.modify l (fun f => { f with chain := p.cells.length :: f.chain }))[j]? = some g := by rw [List.getElem?_eq_getElem hj, hjg]
      rw [List.getElem?_modify] at hj2
      cases hq : p.ctl[j]? with
      | none => rw [hq] at hj2; simp at hj2
      | some y =>
        rw [hq] at hj2
        have hy := h.g y (List.mem_of_getElem? hq)
        by_cases e : l = j
        · subst e
          simp at hj2
          subst hj2
          rw [hf] at hq
          simp at hq
          subst hq
          have hA := hy.app [⟨op, ((f.chain.headD 0 : Nat) : Int), packP f.arity f.floor⟩]
          refine ⟨⟨⟨hp, ⟨⟨op, ((f.chain.headD 0 : Nat) : Int), packP f.arity f.floor⟩, List.getElem?_concat_length, ho, rfl⟩⟩, fun b hb => ?_, hA.ch⟩, hA.fl, hA.ar, hA.st, fun e3 => absurd e3 h3, hA.op, hA.co, hA.ju⟩
          obtain ⟨_, x, hx, _⟩ := hy.ch.mem b hb
          exact (List.getElem?_eq_some_iff.1 hx).1
        · simp [e] at hj2
          subst hj2
          exact hy.app _
    · have hnl : ∀ (g : PF), g ∈ p.ctl → p.cells.length ∉ g.chain := fun g hg hi => by
        obtain ⟨_, x, hx, _⟩ := (h.g g hg).ch.mem _ hi
        have := (List.getElem?_eq_some_iff.1 hx).1
        omega
      rw [List.pairwise_iff_getElem]
      intro i j hi hj hij a ha hb
      have hdj := List.pairwise_iff_getElem.1 h.dj i j (by simpa using hi) (by simpa using hj) hij
      simp only [List.getElem_modify] at ha hb
      by_cases ei : l = i
      · by_cases ej : l = j
        · omega
        · rw [if_pos ei] at ha
          rw [if_neg ej] at hb
          rcases List.mem_cons.1 ha with rfl | ha
          · exact hnl _ (List.getElem_mem _) hb
          · exact hdj a ha hb
      · rw [if_neg ei] at ha
        by_cases ej : l = j
        · rw [if_pos ej] at hb
          rcases List.mem_cons.1 hb with rfl | hb
          · exact hnl _ (List.getElem_mem _) ha
          · exact hdj a ha hb
        · rw [if_neg ej] at hb
          exact hdj a ha hb
    · rw [List.getElem?_append_left hp]; exact h.z
end Go.Proofs.Qxb6500275aGreatDoor
