import Derived.Test.Qxb6500274aGreatWSxDraw3
import Derived.Scope
set_option linter.unusedSimpArgs false
namespace Go.Sx
open Go Go.RowKit

/- the static conditions of a body -/
def slotsOK (nt : Nat) : Code → Bool
  | .region _ ops _ => ops.toList.all (fun o => match o.dst with | some t => Nat.blt t nt | none => true)
  | .seq a b => slotsOK nt a && slotsOK nt b
  | .cond _ a b => slotsOK nt a && slotsOK nt b
  | .block _ a => slotsOK nt a
  | .loop a => slotsOK nt a
  | .scope a => slotsOK nt a
  | _ => true

def drawsOK (E : Env) (g : Nat) : Code → Bool
  | .region id ops draw => !draw || E.bad g id || okDraw E ops.toList
  | .seq a b => drawsOK E g a && drawsOK E g b
  | .cond _ a b => drawsOK E g a && drawsOK E g b
  | .block _ a => drawsOK E g a
  | .loop a => drawsOK E g a
  | .scope a => drawsOK E g a
  | _ => true

def LeafPost (n0 : Base) (w0 : World) (nt : Nat) (K : Kx) (L : List Leaf) (e : Exit) (a : Act) (w : World) : Prop :=
  ∃ x K', x ∈ L ∧ x.1 = e ∧ K.le K' ∧ RegRel K' nt x.2.1 a ∧ Rep n0 w0 K' x.2.2 w

theorem LeafPost.up {n0 : Base} {w0 : World} {nt : Nat} {K K' : Kx} {L L' : List Leaf} {e : Exit} {a : Act} {w : World} (h : LeafPost n0 w0 nt K' L' e a w) (hle : K.le K') (hL : ∀ x, x ∈ L' → x ∈ L) : LeafPost n0 w0 nt K L e a w := by
  obtain ⟨x, K'', h1, h2, h3, h4, h5⟩ := h
  exact ⟨x, K'', hL x h1, h2, Kx.le_trans hle h3, h4, h5⟩

theorem bindL_mem {f : Rg → St → Option (List Leaf)} : ∀ {l L : List Leaf}, bindL f l = some L → ∀ x, x ∈ l →
    (x.1 = .normal → ∃ l', f x.2.1 x.2.2 = some l' ∧ ∀ y, y ∈ l' → y ∈ L) ∧ (x.1 ≠ .normal → x ∈ L)
  | [], _, _, x, hx => by simp at hx
  | z :: zs, L, h, x, hx => by
    simp only [bindL] at h
    split at h
    · rename_i hz
      split at h
      · simp at h
      · rename_i l1 h1
        split at h
        · simp at h
          subst h
          simp at hx
          subst hx
          exact ⟨fun _ => ⟨l1, h1, fun y hy => hy⟩, fun hn => absurd hz hn⟩
        · split at h
          · simp at h
          · rename_i l2 h2
            simp at h
            subst h
            rcases List.mem_cons.1 hx with hx | hx
            · subst hx; exact ⟨fun _ => ⟨l1, h1, fun y hy => by simp [hy]⟩, fun hn => absurd hz hn⟩
            · obtain ⟨g1, g2⟩ := bindL_mem h2 x hx
              refine ⟨fun hn => ?_, fun hn => by simp [g2 hn]⟩
              obtain ⟨l', h3, h4⟩ := g1 hn
              exact ⟨l', h3, fun y hy => by simp [h4 y hy]⟩
    · rename_i hz
      split at h
      · simp at h
      · rename_i l2 h2
        simp at h
        subst h
        rcases List.mem_cons.1 hx with hx | hx
        · subst hx; exact ⟨fun hn => absurd hn hz, fun _ => by simp⟩
        · obtain ⟨g1, g2⟩ := bindL_mem h2 x hx
          refine ⟨fun hn => ?_, fun hn => by simp [g2 hn]⟩
          obtain ⟨l', h3, h4⟩ := g1 hn
          exact ⟨l', h3, fun y hy => by simp [h4 y hy]⟩

theorem bindG_mem {c : Code} {f : Nat → Rg → St → Option (List Leaf)} : ∀ {l L : List Leaf}, bindG c f l = some L → ∀ x, x ∈ l →
    (∀ m, x.1 = .goto m → hasLabel c m = true → ∃ l', f m x.2.1 x.2.2 = some l' ∧ ∀ y, y ∈ l' → y ∈ L) ∧ ((∀ m, x.1 = .goto m → hasLabel c m = false) → x ∈ L)
  | [], _, _, x, hx => by simp at hx
  | z :: zs, L, h, x, hx => by
    simp only [bindG] at h
    split at h
    · rename_i m hz
      split at h
      · rename_i hm
        split at h
        · rename_i l1 l2 h1 h2
          simp at h
          subst h
          rcases List.mem_cons.1 hx with hx | hx
          · subst hx
            refine ⟨fun m' hm' _ => ?_, fun hn => ?_⟩
            · rw [hz] at hm'; simp at hm'; subst hm'; exact ⟨l1, h1, fun y hy => by simp [hy]⟩
            · have := hn m hz; rw [hm] at this; simp at this
          · obtain ⟨g1, g2⟩ := bindG_mem h2 x hx
            refine ⟨fun m' hm' hl' => ?_, fun hn => by simp [g2 hn]⟩
            obtain ⟨l', h3, h4⟩ := g1 m' hm' hl'
            exact ⟨l', h3, fun y hy => by simp [h4 y hy]⟩
        · simp at h
      · rename_i hm
        split at h
        · simp at h
        · rename_i l2 h2
          simp at h
          subst h
          rcases List.mem_cons.1 hx with hx | hx
          · subst hx
            refine ⟨fun m' hm' hl' => ?_, fun _ => by simp⟩
            rw [hz] at hm'; simp at hm'; subst hm'; rw [hm] at hl'; simp at hl'
          · obtain ⟨g1, g2⟩ := bindG_mem h2 x hx
            refine ⟨fun m' hm' hl' => ?_, fun hn => by simp [g2 hn]⟩
            obtain ⟨l', h3, h4⟩ := g1 m' hm' hl'
            exact ⟨l', h3, fun y hy => by simp [h4 y hy]⟩
    · rename_i hz
      split at h
      · simp at h
      · rename_i l2 h2
        simp at h
        subst h
        rcases List.mem_cons.1 hx with hx | hx
        · subst hx
          exact ⟨fun m' hm' _ => absurd hm' (hz m'), fun _ => by simp⟩
        · obtain ⟨g1, g2⟩ := bindG_mem h2 x hx
          refine ⟨fun m' hm' hl' => ?_, fun hn => by simp [g2 hn]⟩
          obtain ⟨l', h3, h4⟩ := g1 m' hm' hl'
          exact ⟨l', h3, fun y hy => by simp [h4 y hy]⟩

theorem outOf_mem {id : Nat} : ∀ {l : List Leaf} {x : Leaf}, x ∈ l → (x.1 = .exit id → (Exit.normal, x.2) ∈ outOf id l) ∧ (x.1 ≠ .exit id → x ∈ outOf id l)
  | [], x, hx => by simp at hx
  | z :: zs, x, hx => by
    simp only [outOf]
    rcases List.mem_cons.1 hx with hx | hx
    · subst hx
      constructor
      · intro he
        simp [he]
      · intro hne
        split
        · rename_i i hi
          split
          · rename_i hb
            have : i = id := Nat.eq_of_beq_eq_true hb
            subst this
            exact absurd hi hne
          · simp
        · simp
    · obtain ⟨g1, g2⟩ := outOf_mem (id := id) hx
      exact ⟨fun he => by simp [g1 he], fun hne => by simp [g2 hne]⟩

theorem toLeaf_mem : ∀ {l : List (Rg × St)} {x : Rg × St}, x ∈ l → (Exit.normal, x.1, x.2) ∈ toLeaf l
  | [], x, hx => by simp at hx
  | z :: zs, x, hx => by
    simp only [toLeaf]
    rcases List.mem_cons.1 hx with hx | hx
    · subst hx; simp
    · simp [toLeaf_mem hx]

theorem hasLabel_find : ∀ (c : Code) (l : Nat), hasLabel c l = (findLabel c l).isSome
  | .seq a b, l => by
    simp only [hasLabel, findLabel, hasLabel_find a l, hasLabel_find b l]
    cases findLabel a l <;> simp
  | .label m, l => by
    simp only [hasLabel, findLabel]
    by_cases h : m = l
    · subst h; simp
    · simp [beq_ne h, h]
  | .skip, _ => rfl
  | .region _ _ _, _ => rfl
  | .cond _ _ _, _ => rfl
  | .block _ _, _ => rfl
  | .loop _, _ => rfl
  | .rangeFunc _ _ _ _, _ => rfl
  | .exit _, _ => rfl
  | .scope _, _ => rfl
  | .goto _, _ => rfl
  | .ret, _ => rfl
  | .refuse _, _ => rfl

section
variable {P : Program} {Q : Exit → Act → World → Prop} {a : Act} {w : World}

/- a loop, a round laid open -/
def LoopW (P : Program) (c : Code) (Q : Exit → Act → World → Prop) (a : Act) (w : World) : Prop :=
  ∀ (b : Frame) (k : List Item) (cs : List Frame), ∃ e a' w', Q e a' w' ∧ Arrives P (lone (b.at a (.code c :: .inLoop c :: k)) cs w) b k cs e a' w'

theorem LoopW.loop {c : Code} (h : LoopW P c Q a w) : (Code.loop c).wp P Q a w :=
  fun b k cs => let ⟨e, a', w', q, r⟩ := h b k cs; ⟨e, a', w', q, .of_steps (.one step_loop) r⟩

theorem LoopW.round {c : Code} (h : c.wp P (Exit.then (LoopW P c Q) Q) a w) : LoopW P c Q a w := by
  intro b k cs
  obtain ⟨e, a₁, w₁, hq, harr⟩ := h b (.inLoop c :: k) cs
  cases e with
  | normal =>
    obtain ⟨e₂, a₂, w₂, hq₂, harr₂⟩ := hq b k cs
    exact ⟨e₂, a₂, w₂, hq₂, .of_steps (Steps.trans harr (.one step_inLoop)) harr₂⟩
  | exit id => exact ⟨_, a₁, w₁, hq, .pass (x := .inLoop c) rfl (fun _ _ => .inl (by simp)) harr⟩
  | goto l => exact ⟨_, a₁, w₁, hq, .pass (x := .inLoop c) rfl (fun _ _ => .inl (by simp)) harr⟩
  | ret => exact ⟨_, a₁, w₁, hq, .pass (x := .inLoop c) rfl (fun _ _ => .inl (by simp)) harr⟩
  | panic ch => exact ⟨_, a₁, w₁, hq, .pass (x := .inLoop c) rfl (fun _ _ => .inl (by simp)) harr⟩
  | outgrown => exact ⟨_, a₁, w₁, hq, .pass (x := .inLoop c) rfl (fun _ _ => .inl (by simp)) harr⟩

/- a scope, from one of its places -/
def ScopeW (P : Program) (c rest : Code) (Q : Exit → Act → World → Prop) (a : Act) (w : World) : Prop :=
  ∀ (b : Frame) (k : List Item) (cs : List Frame), ∃ e a' w', Q e a' w' ∧ Arrives P (lone (b.at a (.code rest :: .inScope c :: k)) cs w) b k cs e a' w'

theorem ScopeW.scope {c : Code} (h : ScopeW P c c Q a w) : (Code.scope c).wp P Q a w :=
  fun b k cs => let ⟨e, a', w', q, r⟩ := h b k cs; ⟨e, a', w', q, .of_steps (.one step_scope) r⟩

def Exit.hop (P : Program) (c : Code) (Q : Exit → Act → World → Prop) : Exit → Act → World → Prop
  | .goto l, a, w => match findLabel c l with
    | some rest => ScopeW P c rest Q a w
    | none => Q (.goto l) a w
  | e, a, w => Q e a w

theorem ScopeW.place {c rest : Code} (h : rest.wp P (Exit.hop P c Q) a w) : ScopeW P c rest Q a w := by
  intro b k cs
  obtain ⟨e, a₁, w₁, hq, harr⟩ := h b (.inScope c :: k) cs
  cases e with
  | normal => exact ⟨.normal, a₁, w₁, hq, Steps.trans harr (.one step_inScope)⟩
  | exit id => exact ⟨.exit id, a₁, w₁, hq, fun k' hk => harr k' (by simp [exitTo, hk])⟩
  | goto l =>
    simp only [Exit.hop] at hq
    split at hq
    · rename_i rest' hf
      obtain ⟨e₂, a₂, w₂, hq₂, harr₂⟩ := hq b k cs
      exact ⟨e₂, a₂, w₂, hq₂, .of_steps (harr _ (by simp [gotoIn, hf])) harr₂⟩
    · rename_i hf
      exact ⟨.goto l, a₁, w₁, hq, fun k' hk => harr k' (by simp [gotoIn, hf, hk])⟩
  | ret => exact ⟨_, a₁, w₁, hq, harr⟩
  | panic ch => exact ⟨_, a₁, w₁, hq, harr⟩
  | outgrown => exact ⟨_, a₁, w₁, hq, harr⟩
end
end Go.Sx
