import Derived.Test.Qxb6500274aGreatWSxRun
set_option linter.unusedSimpArgs false
namespace Go.Sx
open Go Go.RowKit

section
variable {P : Program} {E : Env} {cf : CallF} {n0 : Base} {w0 : World} {nt g n : Nat}

theorem slots_region {id : Nat} {ops : Array Oper} {draw : Bool} (h : slotsOK nt (.region id ops draw) = true) : ∀ o, o ∈ ops.toList → ∀ t, o.dst = some t → t < nt := by
  intro o ho t ht
  simp only [slotsOK] at h
  have := List.all_eq_true.1 h o ho
  rw [ht] at this
  have h2 : Nat.ble (t + 1) nt = true := this
  exact Nat.le_of_ble_eq_true h2

theorem LeafPost.one {K K' : Kx} {e : Exit} {r : Rg} {s : St} {a : Act} {w : World} (hle : K.le K') (hr : RegRel K' nt r a) (hR : Rep n0 w0 K' s w) : LeafPost n0 w0 nt K [(e, r, s)] e a w :=
  ⟨(e, r, s), K', by simp, rfl, hle, hr, hR⟩

theorem iter_sound {c : Code} {f : Rg → St → Option (List Leaf)}
    (hf : ∀ r s L K a w, f r s = some L → Rep n0 w0 K s w → RegRel K nt r a → c.wp P (LeafPost n0 w0 nt K L) a w) :
    ∀ (m : Nat) (r : Rg) (s : St) (L : List Leaf) (K : Kx) (a : Act) (w : World), iter f m r s = some L → Rep n0 w0 K s w → RegRel K nt r a → LoopW P c (LeafPost n0 w0 nt K L) a w
  | 0, r, s, L, K, a, w, h, _, _ => by simp [iter] at h
  | m + 1, r, s, L, K, a, w, h, hR, hr => by
    simp only [iter] at h
    split at h
    · simp at h
    · rename_i l hl
      refine LoopW.round (wp_mono (hf r s l K a w hl hR hr) ?_)
      rintro e a' w' ⟨x, K', h1, h2, h3, h4, h5⟩
      obtain ⟨g1, g2⟩ := bindL_mem h x h1
      cases e with
      | normal =>
        obtain ⟨l', q1, q2⟩ := g1 h2
        have := iter_sound hf m x.2.1 x.2.2 l' K' a' w' q1 h5 h4
        intro b k cs
        obtain ⟨e, a', w', hq, harr⟩ := this b k cs
        exact ⟨e, a', w', hq.up h3 q2, harr⟩
      | _ => exact ⟨x, K', g2 (by rw [h2]; simp), h2, h3, h4, h5⟩

theorem jumps_sound {c : Code} {f : Option Nat → Rg → St → Option (List Leaf)}
    (hf : ∀ r s L K a w, f none r s = some L → Rep n0 w0 K s w → RegRel K nt r a → c.wp P (LeafPost n0 w0 nt K L) a w)
    (hg : ∀ l rest r s L K a w, findLabel c l = some rest → f (some l) r s = some L → Rep n0 w0 K s w → RegRel K nt r a → rest.wp P (LeafPost n0 w0 nt K L) a w) :
    ∀ (m : Nat) (o : Option Nat) (rest : Code) (r : Rg) (s : St) (L : List Leaf) (K : Kx) (a : Act) (w : World), ((o = none ∧ rest = c) ∨ ∃ l, o = some l ∧ findLabel c l = some rest) →
      jumps c f m o r s = some L → Rep n0 w0 K s w → RegRel K nt r a → ScopeW P c rest (LeafPost n0 w0 nt K L) a w
  | 0, o, rest, r, s, L, K, a, w, _, h, _, _ => by simp [jumps] at h
  | m + 1, o, rest, r, s, L, K, a, w, ho, h, hR, hr => by
    simp only [jumps] at h
    split at h
    · simp at h
    · rename_i l hl
      have hwp : rest.wp P (LeafPost n0 w0 nt K l) a w := by
        rcases ho with ⟨rfl, rfl⟩ | ⟨q, rfl, hq⟩
        · exact hf r s l K a w hl hR hr
        · exact hg q rest r s l K a w hq hl hR hr
      refine ScopeW.place (wp_mono hwp ?_)
      rintro e a' w' ⟨x, K', h1, h2, h3, h4, h5⟩
      obtain ⟨g1, g2⟩ := bindG_mem h x h1
      have hother : (∀ m, e ≠ .goto m) → LeafPost n0 w0 nt K L e a' w' := fun hne =>
        ⟨x, K', g2 (fun q hq => absurd (h2.symm.trans hq) (hne q)), h2, h3, h4, h5⟩
      cases e with
      | goto q =>
        simp only [Exit.hop]
        split
        · rename_i rest' hq
          have hhl : hasLabel c q = true := by rw [hasLabel_find, hq]; rfl
          obtain ⟨l', q1, q2⟩ := g1 q h2 hhl
          have := jumps_sound hf hg m (some q) rest' x.2.1 x.2.2 l' K' a' w' (.inr ⟨q, rfl, hq⟩) q1 h5 h4
          intro b k cs
          obtain ⟨e, a', w', hq, harr⟩ := this b k cs
          exact ⟨e, a', w', hq.up h3 q2, harr⟩
        · rename_i hq
          refine ⟨x, K', g2 (fun q' hq' => ?_), h2, h3, h4, h5⟩
          have : q' = q := by have := h2.symm.trans hq'; simp at this; exact this.symm
          rw [this, hasLabel_find, hq]
          rfl
      | normal => exact hother (fun m => by simp)
      | exit id => exact hother (fun m => by simp)
      | ret => exact hother (fun m => by simp)
      | panic ch => exact hother (fun m => by simp)
      | outgrown => exact hother (fun m => by simp)

theorem seq_sound {x y : Code} {l L : List Leaf} {K : Kx} {a : Act} {w : World} (hx : x.wp P (LeafPost n0 w0 nt K l) a w)
    (hy : ∀ r s L K a w, evalCode E cf g n y none r s = some L → Rep n0 w0 K s w → RegRel K nt r a → y.wp P (LeafPost n0 w0 nt K L) a w)
    (h : bindL (evalCode E cf g n y none) l = some L) : (Code.seq x y).wp P (LeafPost n0 w0 nt K L) a w := by
  refine wp_seq (wp_mono hx ?_)
  rintro e a' w' ⟨z, K', h1, h2, h3, h4, h5⟩
  obtain ⟨g1, g2⟩ := bindL_mem h z h1
  cases e with
  | normal =>
    obtain ⟨l', q1, q2⟩ := g1 h2
    exact wp_mono (hy z.2.1 z.2.2 l' K' a' w' q1 h5 h4) (fun e a w hq => hq.up h3 q2)
  | _ => exact ⟨z, K', g2 (by rw [h2]; simp), h2, h3, h4, h5⟩

theorem evalCode_sound (hE : EnvOK P E) (hm : P.follows .mixedOrders = true) (hcf : CallSound P n0 w0 cf) (hq : QuietSound P E cf) : ∀ (c : Code), slotsOK nt c = true → drawsOK E g c = true →
    (∀ r s L K a w, evalCode E cf g n c none r s = some L → Rep n0 w0 K s w → RegRel K nt r a → c.wp P (LeafPost n0 w0 nt K L) a w) ∧
    (∀ l rest r s L K a w, findLabel c l = some rest → evalCode E cf g n c (some l) r s = some L → Rep n0 w0 K s w → RegRel K nt r a → rest.wp P (LeafPost n0 w0 nt K L) a w) := by
  intro c
  induction c with
  | skip =>
    intro _ _
    refine ⟨fun r s L K a w h hR hr => ?_, fun l rest r s L K a w hf h => by simp [findLabel] at hf⟩
    simp [evalCode] at h
    subst h
    exact wp_skip (LeafPost.one (Kx.le_refl _) hr hR)
  | region id ops draw =>
    intro hs hd
    refine ⟨fun r s L K a w h hR hr => ?_, fun l rest r s L K a w hf h => by simp [findLabel] at hf⟩
    simp only [evalCode, evRegion] at h
    have hops : ops = ops.toList.toArray := rfl
    split at h
    · split at h
      · simp at h
      · rename_i hb
        split at h
        · rename_i p hp
          simp at h
          subst h
          have hok : okDraw E ops.toList = true := by
            simp only [drawsOK, hb, Bool.not_true, Bool.false_or] at hd
            exact hd
          refine evalOps1_sound hE hm hcf hq hok (slots_region hs) hp hR hr.trim id (fun K' a' w' hle h1 h2 => LeafPost.one hle h1 h2)
        · simp at h
    · split at h
      · rename_i l hl
        simp at h
        subst h
        exact wp_region_list (evalOps_sound hE hcf ops.toList ops.toList _ s l K a w (slots_region hs) hl hR hr.trim (fun x hx K' a' w' hle h1 h2 => ⟨(Exit.normal, x.1, x.2), K', toLeaf_mem hx, rfl, hle, h1, h2⟩))
      · simp at h
  | seq x y ihx ihy =>
    intro hs hd
    simp only [slotsOK, Bool.and_eq_true] at hs
    simp only [drawsOK, Bool.and_eq_true] at hd
    obtain ⟨x1, x2⟩ := ihx hs.1 hd.1
    obtain ⟨y1, y2⟩ := ihy hs.2 hd.2
    refine ⟨fun r s L K a w h hR hr => ?_, fun l rest r s L K a w hf h hR hr => ?_⟩
    · simp only [evalCode] at h
      split at h
      · rename_i l hl
        exact seq_sound (x1 r s l K a w hl hR hr) y1 h
      · simp at h
    · simp only [evalCode] at h
      simp only [findLabel] at hf
      split at h
      · rename_i hlx
        rw [hasLabel_find] at hlx
        cases hfx : findLabel x l with
        | none => rw [hfx] at hlx; simp at hlx
        | some rx =>
          rw [hfx] at hf
          simp at hf
          subst hf
          split at h
          · rename_i l' hl
            exact seq_sound (x2 l rx r s l' K a w hfx hl hR hr) y1 h
          · simp at h
      · rename_i hlx
        rw [hasLabel_find] at hlx
        cases hfx : findLabel x l with
        | some rx => rw [hfx] at hlx; simp at hlx
        | none =>
          rw [hfx] at hf
          exact y2 l rest r s L K a w hf h hR hr
  | cond o x y ihx ihy =>
    intro hs hd
    simp only [slotsOK, Bool.and_eq_true] at hs
    simp only [drawsOK, Bool.and_eq_true] at hd
    refine ⟨fun r s L K a w h hR hr => ?_, fun l rest r s L K a w hf h => by simp [findLabel] at hf⟩
    have hev := hr.eval o
    simp only [evalCode, evCond] at h
    split at h
    · rename_i hc
      rw [hc, RV_bool] at hev
      exact wp_cond_true hev ((ihx hs.1 hd.1).1 r s L K a w h hR hr)
    · rename_i hc
      rw [hc, RV_bool] at hev
      exact wp_cond_false hev ((ihy hs.2 hd.2).1 r s L K a w h hR hr)
    · split at h
      · simp at h
      · rename_i t ht
        obtain ⟨b, hb, hd0⟩ := boolS_RV ht hev
        rw [hb] at hd0
        split at h
        · rename_i hdec
          have := dec_sound hR.kok hdec hd0
          subst this
          exact wp_cond_true hb ((ihx hs.1 hd.1).1 r s L K a w h hR hr)
        · rename_i hdec
          have := dec_sound hR.kok hdec hd0
          subst this
          exact wp_cond_false hb ((ihy hs.2 hd.2).1 r s L K a w h hR hr)
        · split at h
          · rename_i la lb h1 h2
            simp at h
            subst h
            have hR2 : Rep n0 w0 K ⟨s.heap, s.next, (t, b) :: s.facts, s.vals⟩ w :=
              ⟨hR.below, hR.hn, hR.nx, hR.live, hR.inj, fun u c hu => by
                rcases List.mem_cons.1 hu with hu | hu
                · simp at hu
                  obtain ⟨rfl, rfl⟩ := hu
                  exact hd0
                · exact hR.facts u c hu, hR.vals, hR.syr, hR.pfq⟩
            cases b with
            | true => exact wp_cond_true hb (wp_mono ((ihx hs.1 hd.1).1 r _ la K a w h1 hR2 hr) (fun e a' w' hp => hp.up (Kx.le_refl _) (fun x hx => List.mem_append_left _ hx)))
            | false => exact wp_cond_false hb (wp_mono ((ihy hs.2 hd.2).1 r _ lb K a w h2 hR2 hr) (fun e a' w' hp => hp.up (Kx.le_refl _) (fun x hx => List.mem_append_right _ hx)))
          · simp at h
  | block id x ih =>
    intro hs hd
    refine ⟨fun r s L K a w h hR hr => ?_, fun l rest r s L K a w hf h => by simp [findLabel] at hf⟩
    simp only [evalCode] at h
    split at h
    · rename_i l hl
      simp at h
      subst h
      refine wp_block (wp_mono ((ih hs hd).1 r s l K a w hl hR hr) ?_)
      rintro e a' w' ⟨z, K', h1, h2, h3, h4, h5⟩
      obtain ⟨g1, g2⟩ := outOf_mem (id := id) h1
      cases e with
      | exit i =>
        simp only [Exit.inBlock]
        split
        · rename_i hi
          subst hi
          exact ⟨(Exit.normal, z.2), K', g1 h2, rfl, h3, h4, h5⟩
        · rename_i hi
          exact ⟨z, K', g2 (by rw [h2]; simp; exact hi), h2, h3, h4, h5⟩
      | _ => exact ⟨z, K', g2 (by rw [h2]; simp), h2, h3, h4, h5⟩
    · simp at h
  | loop x ih =>
    intro hs hd
    refine ⟨fun r s L K a w h hR hr => ?_, fun l rest r s L K a w hf h => by simp [findLabel] at hf⟩
    simp only [evalCode] at h
    exact (iter_sound (ih hs hd).1 n r s L K a w h hR hr).loop
  | rangeFunc f ps x y _ _ =>
    intro _ _
    exact ⟨fun r s L K a w h => by simp [evalCode] at h, fun l rest r s L K a w hf h => by simp [findLabel] at hf⟩
  | exit id =>
    intro _ _
    refine ⟨fun r s L K a w h hR hr => ?_, fun l rest r s L K a w hf h => by simp [findLabel] at hf⟩
    simp [evalCode] at h
    subst h
    exact wp_exit (LeafPost.one (Kx.le_refl _) hr hR)
  | scope x ih =>
    intro hs hd
    refine ⟨fun r s L K a w h hR hr => ?_, fun l rest r s L K a w hf h => by simp [findLabel] at hf⟩
    simp only [evalCode] at h
    exact (jumps_sound (ih hs hd).1 (ih hs hd).2 n none x r s L K a w (.inl ⟨rfl, rfl⟩) h hR hr).scope
  | label m =>
    intro _ _
    refine ⟨fun r s L K a w h hR hr => ?_, fun l rest r s L K a w hf h hR hr => ?_⟩
    · simp [evalCode] at h
      subst h
      exact wp_label (LeafPost.one (Kx.le_refl _) hr hR)
    · simp only [evalCode] at h
      split at h
      · rename_i hb
        have : m = l := Nat.eq_of_beq_eq_true hb
        subst this
        simp [findLabel] at hf
        subst hf
        simp at h
        subst h
        exact wp_skip (LeafPost.one (Kx.le_refl _) hr hR)
      · simp at h
  | goto l =>
    intro _ _
    refine ⟨fun r s L K a w h hR hr => ?_, fun l rest r s L K a w hf h => by simp [findLabel] at hf⟩
    simp [evalCode] at h
    subst h
    exact wp_goto (LeafPost.one (Kx.le_refl _) hr hR)
  | ret =>
    intro _ _
    refine ⟨fun r s L K a w h hR hr => ?_, fun l rest r s L K a w hf h => by simp [findLabel] at hf⟩
    simp [evalCode] at h
    subst h
    exact wp_ret (LeafPost.one (Kx.le_refl _) hr hR)
  | refuse why =>
    intro _ _
    exact ⟨fun r s L K a w h => by simp [evalCode] at h, fun l rest r s L K a w hf h => by simp [findLabel] at hf⟩
end
end Go.Sx
