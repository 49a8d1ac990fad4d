import Derived.Test.Qxb6500275aGreatDoorSp12
set_option linter.unusedVariables false
set_option linter.unusedSimpArgs false
set_option maxRecDepth 100000
namespace Go.Proofs.Qxb6500275aGreatDoor
open Go Go.RowKit
/- the two stacks of blocks, side by side -/
structure FM (f : VF) (g : PF) : Prop where
  fl : f.floor = g.floor
  ar : g.arity = if f.res = 64 then 0 else 1
  lp : f.op = 3 ↔ g.op = 3
  co : f.op = 4 ↔ g.cond ≠ 0
def F2 : List VF → List PF → Prop
  | [], [] => True
  | f :: r, g :: s => FM f g ∧ F2 r s
  | _, _ => False
theorem F2.len : ∀ {a : List VF} {b : List PF}, F2 a b → a.length = b.length
  | [], [], _ => rfl
  | f :: r, g :: s, h => by simp [h.2.len]
  | [], _ :: _, h => h.elim
  | _ :: _, [], h => h.elim
theorem F2.at_ : ∀ {a : List VF} {b : List PF} {l : Nat} {f : VF} {g : PF}, F2 a b → a[l]? = some f → b[l]? = some g → FM f g
  | [], [], _, _, _, _, h, _ => by simp at h
  | f :: r, g :: s, 0, _, _, h, h1, h2 => by simp at h1 h2; subst h1 h2; exact h.1
  | f :: r, g :: s, l + 1, _, _, h, h1, h2 => F2.at_ h.2 (by simpa using h1) (by simpa using h2)
  | [], _ :: _, _, _, _, h, _, _ => h.elim
  | _ :: _, [], _, _, _, h, _, _ => h.elim
theorem F2.modify : ∀ {a : List VF} {b : List PF} (l n : Nat), F2 a b → F2 a (b.modify l (fun g => { g with chain := n :: g.chain }))
  | [], [], _, _, _ => by simp [F2]
  | f :: r, g :: s, 0, n, h => by
    simp only [List.modify_zero_cons]
    exact ⟨⟨h.1.fl, h.1.ar, h.1.lp, h.1.co⟩, h.2⟩
  | f :: r, g :: s, l + 1, n, h => by
    simp only [List.modify_succ_cons]
    exact ⟨h.1, F2.modify l n h.2⟩
  | [], _ :: _, _, _, h => h.elim
  | _ :: _, [], _, _, h => h.elim
/- live: they agree; dead: the validator has n blocks more, opened since -/
structure RL (v : VS) (p : PS) : Prop where
  dead : p.dead = 0
  h : v.ops.length = p.h
  f2 : F2 v.ctl p.ctl
  nd : ∀ f, f ∈ v.ctl → f.dead = false
structure RD (v : VS) (p : PS) : Prop where
  is : ∃ (n : Nat) (ex : List VF) (f : VF) (r : List VF), p.dead = n + 1 ∧ v.ctl = ex ++ f :: r ∧ ex.length = n ∧ f.dead = true ∧ (∀ g, g ∈ r → g.dead = false) ∧ F2 (f :: r) p.ctl
def RR (v : VS) (p : PS) : Prop := RL v p ∨ RD v p
/- cell t stands, its height is h -/
def Ato (cells : List Ins) (hs : List Nat) (t h : Nat) : Prop := ∃ c, cells[t]? = some c ∧ c.op ≠ 225 ∧ hs[t]? = some h
/- .. or it is the next one -/
def Att (p : PS) (hs : List Nat) (t h : Nat) : Prop := Ato p.cells hs t h ∨ (t = p.cells.length ∧ p.dead = 0 ∧ p.h = h)
def Tg (A : Nat → Nat → Prop) (x : Int) (h : Nat) : Prop := ∃ j : Nat, x = j ∧ A (j + 1) h
/- .. a jump goes forth -/
def Tj (A : Nat → Nat → Prop) (i : Nat) (x : Int) (h : Nat) : Prop := ∃ j : Nat, x = j ∧ i ≤ j ∧ A (j + 1) h
structure BrJ (A : Nat → Nat → Prop) (ctl : List PF) (i : Nat) (c : Ins) (h : Nat) : Prop where
  is : ∃ keep fl : Nat, c.y = packP keep fl ∧ keep ≤ 1 ∧ fl ≤ 10 ∧ fl + keep ≤ h ∧ (Tg A c.x (fl + keep) ∨ ∃ g, g ∈ ctl ∧ i ∈ g.chain)
/- what a cell promises; nl: the locals, rs: the results -/
structure CJ (M : Mod) (nl rs : Nat) (A : Nat → Nat → Prop) (E : Nat → Nat → Prop) (ctl : List PF) (i : Nat) (c : Ins) (h : Nat) : Prop where
  top : h ≤ 10
  if_ : c.op = 4 → 1 ≤ h ∧ A (i + 1) (h - 1) ∧ (Tg A c.x (h - 1) ∨ ∃ g, g ∈ ctl ∧ g.cond = i)
  jump : c.op = 224 → Tj A i c.x h ∨ ∃ g, g ∈ ctl ∧ g.jump = i
  br : c.op = 12 → BrJ A ctl i c h
  brif : c.op = 13 → 1 ≤ h ∧ BrJ A ctl i c (h - 1) ∧ A (i + 1) (h - 1)
  entry : c.op = 225 → BrJ A ctl i c h
  table : c.op = 14 → 1 ≤ h ∧ ∃ n : Nat, c.x = n ∧ 1 ≤ n ∧ ∀ k, k < n → E (i + 1 + k) (h - 1)
  ret : c.op = 15 ∨ c.op = 11 → rs ≤ h
  plain : ¬ (c.op = 4 ∨ c.op = 224 ∨ c.op = 12 ∨ c.op = 13 ∨ c.op = 225 ∨ c.op = 14 ∨ c.op = 15 ∨ c.op = 11) → InsOk c ∧ ∃ take give, effectP M c = some (take, give) ∧ take ≤ h ∧ (c.op ≠ 0 → A (i + 1) (h - take + give)) ∧ (32 ≤ c.op ∧ c.op ≤ 34 → c.x < nl)
/- an entry of a table -/
def Ent (cells : List Ins) (hs : List Nat) (t h : Nat) : Prop := ∃ c, cells[t]? = some c ∧ c.op = 225 ∧ hs[t]? = some h
/- what a block promises -/
structure FJ (cells : List Ins) (hs : List Nat) (A : Nat → Nat → Prop) (g : PF) : Prop where
  co : g.cond ≠ 0 → hs[g.cond]? = some (g.floor + 1)
  ju : g.jump ≠ 0 → hs[g.jump]? = some (g.floor + g.arity)
  ch : ∀ i, i ∈ g.chain → ∃ c, cells[i]? = some c ∧ c.y = packP g.arity g.floor
  lp : g.op = 3 → A g.start g.floor
structure JJ (M : Mod) (nl rs : Nat) (v : VS) (p : PS) (hs : List Nat) : Prop where
  len : hs.length = p.cells.length
  cell : ∀ (i : Nat) (c : Ins), 1 ≤ i → p.cells[i]? = some c → ∃ h, hs[i]? = some h ∧ CJ M nl rs (Att p hs) (Ent p.cells hs) p.ctl i c h
  fr : ∀ g, g ∈ p.ctl → FJ p.cells hs (Att p hs) g
  rel : RR v p
  bot : ∀ f, v.ctl.getLast? = some f → (f.res = 64 ∧ rs = 0) ∨ (f.res ≠ 64 ∧ rs = 1)
/- from one state to the next -/
structure Ext (p : PS) (hs : List Nat) (q : PS) (ks : List Nat) : Prop where
  old : ∀ (t : Nat) (c : Ins), p.cells[t]? = some c → ∃ d : Ins, q.cells[t]? = some d ∧ d.op = c.op ∧ ks[t]? = hs[t]?
  fin : p.dead = 0 → (q.cells.length = p.cells.length ∧ q.dead = 0 ∧ q.h = p.h) ∨ (∃ c, q.cells[p.cells.length]? = some c ∧ c.op ≠ 225 ∧ ks[p.cells.length]? = some p.h)
theorem Ext.att {p q : PS} {hs ks : List Nat} (h : Ext p hs q ks) {t n : Nat} (ha : Att p hs t n) : Att q ks t n := by
  rcases ha with ⟨c, h1, h2, h3⟩ | ⟨h1, h2, h3⟩
  · obtain ⟨d, h4, h5, h6⟩ := h.old t c h1
    exact .inl ⟨d, h4, by rw [h5]; exact h2, by rw [h6]; exact h3⟩
  · rcases h.fin h2 with ⟨h4, h5, h6⟩ | ⟨c, h4, h5, h6⟩
    · exact .inr ⟨by omega, h5, by omega⟩
    · exact .inl ⟨c, by rw [h1]; exact h4, h5, by rw [h1, h6, h3]⟩
theorem Ext.ent {p q : PS} {hs ks : List Nat} (h : Ext p hs q ks) {t n : Nat} (ha : Ent p.cells hs t n) : Ent q.cells ks t n := by
  obtain ⟨c, h1, h2, h3⟩ := ha
  obtain ⟨d, h4, h5, h6⟩ := h.old t c h1
  exact ⟨d, h4, by rw [h5]; exact h2, by rw [h6]; exact h3⟩
theorem Tg.map {A B : Nat → Nat → Prop} {x : Int} {h : Nat} (hm : ∀ t n, A t n → B t n) (ht : Tg A x h) : Tg B x h := by
  obtain ⟨j, h1, h2⟩ := ht
  exact ⟨j, h1, hm _ _ h2⟩
theorem Tj.map {A B : Nat → Nat → Prop} {i : Nat} {x : Int} {h : Nat} (hm : ∀ t n, A t n → B t n) (ht : Tj A i x h) : Tj B i x h := by
  obtain ⟨j, h1, h0, h2⟩ := ht
  exact ⟨j, h1, h0, hm _ _ h2⟩
/- a cell's promise is carried over: its op and Y stay; its X stays, or is set to where it must go -/
structure Mv (A B : Nat → Nat → Prop) (ctl ctl' : List PF) (i : Nat) (c d : Ins) (h : Nat) : Prop where
  op : d.op = c.op
  y : d.y = c.y
  pl : ¬ (c.op = 4 ∨ c.op = 224 ∨ isBr c.op) → d.x = c.x
  if_ : c.op = 4 → (Tg A c.x (h - 1) ∨ ∃ g, g ∈ ctl ∧ g.cond = i) → (Tg B d.x (h - 1) ∨ ∃ g, g ∈ ctl' ∧ g.cond = i)
  jump : c.op = 224 → (Tj A i c.x h ∨ ∃ g, g ∈ ctl ∧ g.jump = i) → (Tj B i d.x h ∨ ∃ g, g ∈ ctl' ∧ g.jump = i)
  br : isBr c.op → ∀ keep fl : Nat, c.y = packP keep fl → keep ≤ 1 → fl ≤ 10 → (Tg A c.x (fl + keep) ∨ ∃ g, g ∈ ctl ∧ i ∈ g.chain) → (Tg B d.x (fl + keep) ∨ ∃ g, g ∈ ctl' ∧ i ∈ g.chain)
theorem CJ.mv {M : Mod} {nl rs : Nat} {A B E E' : Nat → Nat → Prop} {ctl ctl' : List PF} {i : Nat} {c d : Ins} {h : Nat} (hc : CJ M nl rs A E ctl i c h) (hm : ∀ t n, A t n → B t n) (he : ∀ t n, E t n → E' t n) (hv : Mv A B ctl ctl' i c d h) : CJ M nl rs B E' ctl' i d h := by
  have ho := hv.op
  have hb : isBr c.op → ∀ n, BrJ A ctl i c n → BrJ B ctl' i d n := fun hbr n hj => by
    obtain ⟨keep, fl, h1, h2, h3, h4, h5⟩ := hj.is
    exact ⟨keep, fl, by rw [hv.y]; exact h1, h2, h3, h4, hv.br hbr keep fl h1 h2 h3 h5⟩
  refine ⟨hc.top, fun e => ?_, fun e => ?_, fun e => ?_, fun e => ?_, fun e => ?_, fun e => ?_, fun e => ?_, fun e => ?_⟩
  · rw [ho] at e
    obtain ⟨h1, h2, h3⟩ := hc.if_ e
    exact ⟨h1, hm _ _ h2, hv.if_ e h3⟩
  · rw [ho] at e
    exact hv.jump e (hc.jump e)
  · rw [ho] at e
    exact hb (.inl e) _ (hc.br e)
  · rw [ho] at e
    obtain ⟨h1, h2, h3⟩ := hc.brif e
    exact ⟨h1, hb (.inr (.inl e)) _ h2, hm _ _ h3⟩
  · rw [ho] at e
    exact hb (.inr (.inr e)) _ (hc.entry e)
  · rw [ho] at e
    obtain ⟨h1, n, h2, h3, h4⟩ := hc.table e
    exact ⟨h1, n, by rw [hv.pl (by unfold isBr; omega)]; exact h2, h3, fun k hk => he _ _ (h4 k hk)⟩
  · rw [ho] at e
    exact hc.ret e
  · rw [ho] at e
    have hd : d = c := by
      have h1 := hv.pl (by unfold isBr; omega)
      have h2 := hv.y
      obtain ⟨a, b, e1⟩ := c
      obtain ⟨a', b', e'⟩ := d
      simp at ho h1 h2
      rw [ho, h1, h2]
    obtain ⟨h1, take, give, h2, h3, h4, h5⟩ := hc.plain e
    rw [hd]
    exact ⟨h1, take, give, h2, h3, fun h0 => hm _ _ (h4 h0), h5⟩
/- cells that stay as they are -/
theorem Mv.same {A B : Nat → Nat → Prop} {ctl ctl' : List PF} {i : Nat} {c : Ins} {h : Nat} (hm : ∀ t n, A t n → B t n) (hg : ∀ g, g ∈ ctl → ∃ g', g' ∈ ctl' ∧ g'.cond = g.cond ∧ (g.jump ≠ 0 → g'.jump = g.jump) ∧ ∀ k, k ∈ g.chain → k ∈ g'.chain) (hi : i ≠ 0) : Mv A B ctl ctl' i c c h :=
  ⟨rfl, rfl, fun _ => rfl, fun _ h => by
    rcases h with h | ⟨g, h1, h2⟩
    · exact .inl (h.map hm)
    · obtain ⟨g', h3, h4, _, _⟩ := hg g h1
      exact .inr ⟨g', h3, h4.trans h2⟩, fun _ h => by
    rcases h with h | ⟨g, h1, h2⟩
    · exact .inl (h.map hm)
    · obtain ⟨g', h3, _, h5, _⟩ := hg g h1
      exact .inr ⟨g', h3, (h5 (by omega)).trans h2⟩, fun _ keep fl _ _ _ h => by
    rcases h with h | ⟨g, h1, h2⟩
    · exact .inl (h.map hm)
    · obtain ⟨g', h3, _, _, h6⟩ := hg g h1
      exact .inr ⟨g', h3, h6 _ h2⟩⟩
end Go.Proofs.Qxb6500275aGreatDoor
