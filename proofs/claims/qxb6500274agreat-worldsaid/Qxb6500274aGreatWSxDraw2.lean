import Derived.Test.Qxb6500274aGreatWSxDraw
set_option linter.unusedSimpArgs false
namespace Go.Sx
open Go Go.RowKit

def QuietSound (P : Program) (E : Env) (cf : CallF) : Prop :=
  ∀ g args s L, E.quiet g = true → cf g args s = some L → ∃ v, L = [(v, s)] ∧ (∀ a w, (callFunc g a).run P w = .ok (.enter g a) w) ∧
    ∀ K w cargs, All2 (RV K) args cargs → Calls P g cargs.toArray w (fun e w' => ∃ c, e = .returned c ∧ RV K v c ∧ w' = w)

def Fresh (s : St) : Prop := ∀ b x, find b s.heap = some x → b < s.next

/- the text's own order, step by step -/
def Step1 (E : Env) (cf : CallF) (all : List Oper) (R : Nat → Rg) (S : Nat → St) (k : Nat) (o : Oper) : Prop :=
  (wants all (S k).facts (R k) o = some false ∧ R (k + 1) = (R k).putO o.dst (.tuple #[]) ∧ S (k + 1) = S k) ∨
  (wants all (S k).facts (R k) o = some true ∧ ∃ v s', aop E cf o.op (R k).eval (S k) = some [(v, s')] ∧ S (k + 1) = keep (S k) s' ∧ R (k + 1) = (R k).putO o.dst v)

theorem Step1.facts {E : Env} {cf : CallF} {all : List Oper} {R : Nat → Rg} {S : Nat → St} {k : Nat} {o : Oper} (h : Step1 E cf all R S k o) : (S (k + 1)).facts = (S k).facts ∧ (S (k + 1)).vals = (S k).vals := by
  rcases h with ⟨_, _, e⟩ | ⟨_, v, s', _, e, _⟩ <;> rw [e] <;> exact ⟨rfl, rfl⟩

theorem S_facts {E : Env} {cf : CallF} {all : List Oper} {R : Nat → Rg} {S : Nat → St} (htr : ∀ k o, all[k]? = some o → Step1 E cf all R S k o) : ∀ i, i ≤ all.length → (S i).facts = (S 0).facts ∧ (S i).vals = (S 0).vals
  | 0, _ => ⟨rfl, rfl⟩
  | i + 1, hi => by
    obtain ⟨o, ho⟩ : ∃ o, all[i]? = some o := ⟨_, List.getElem?_eq_getElem (by omega)⟩
    have h1 := (htr i o ho).facts
    have h2 := S_facts htr i (by omega)
    exact ⟨h1.1.trans h2.1, h1.2.trans h2.2⟩

theorem KOK.of {K : Kx} {s s' : St} (h : KOK K s) (h1 : s'.facts = s.facts) (h2 : s'.vals = s.vals) : KOK K s' :=
  ⟨fun t b ht => h.facts t b (h1 ▸ ht), fun t v ht => h.vals t v (h2 ▸ ht), h.syr⟩

theorem KOK.mono {K K' : Kx} {s : St} (hle : K.le K') (h : KOK K s) : KOK K' s :=
  ⟨fun t b ht => (h.facts t b ht).mono hle.sy hle.pf, fun t v ht => ⟨(h.vals t v ht).1.mono hle.sy hle.pf, (h.vals t v ht).2⟩, fun i k n hi => h.syr i k n (hle.sy ▸ hi)⟩

theorem Rep.keep {n0 : Base} {w0 w : World} {K : Kx} {s s' : St} (h : Rep n0 w0 K s' w) (hk : KOK K s) : Rep n0 w0 K (keep s s') w :=
  ⟨h.below, h.hn, h.nx, h.live, h.inj, hk.facts, hk.vals, hk.syr, h.pfq⟩

theorem trace_exists {E : Env} {cf : CallF} {all : List Oper} : ∀ (l : List Oper) (r : Rg) (s : St) (rn : Rg) (sn : St), evalOps1 E cf all l r s = some (rn, sn) →
    ∃ (R : Nat → Rg) (S : Nat → St), R 0 = r ∧ S 0 = s ∧ R l.length = rn ∧ S l.length = sn ∧ ∀ k o, l[k]? = some o → Step1 E cf all R S k o
  | [], r, s, rn, sn, h => by
    simp [evalOps1] at h
    exact ⟨fun _ => r, fun _ => s, rfl, rfl, h.1, h.2, fun k o hk => by simp at hk⟩
  | o :: l, r, s, rn, sn, h => by
    have key : ∀ (r' : Rg) (s' : St), evalOps1 E cf all l r' s' = some (rn, sn) →
        ((wants all s.facts r o = some false ∧ r' = r.putO o.dst (.tuple #[]) ∧ s' = s) ∨ (wants all s.facts r o = some true ∧ ∃ v s'', aop E cf o.op r.eval s = some [(v, s'')] ∧ s' = keep s s'' ∧ r' = r.putO o.dst v)) →
        ∃ (R : Nat → Rg) (S : Nat → St), R 0 = r ∧ S 0 = s ∧ R (l.length + 1) = rn ∧ S (l.length + 1) = sn ∧ ∀ k p, (o :: l)[k]? = some p → Step1 E cf all R S k p := by
      intro r' s' h1 h2
      obtain ⟨R, S, e1, e2, e3, e4, e5⟩ := trace_exists l r' s' rn sn h1
      refine ⟨fun k => match k with | 0 => r | k + 1 => R k, fun k => match k with | 0 => s | k + 1 => S k, rfl, rfl, e3, e4, ?_⟩
      intro k p hk
      cases k with
      | zero =>
        simp at hk
        subst hk
        simp only [Step1, e1, e2]
        exact h2
      | succ k => exact e5 k p (by simpa using hk)
    simp only [evalOps1] at h
    split at h
    · simp at h
    · rename_i hw
      exact key _ _ h (.inl ⟨hw, rfl, rfl⟩)
    · rename_i hw
      split at h
      · rename_i v s' hop
        exact key _ _ h (.inr ⟨hw, v, s', hop, rfl, rfl⟩)
      · simp at h

theorem putO_other {r : Rg} {d : Option Nat} {t : Nat} {v : Value} (h : d ≠ some t) : (r.putO d v).get t = r.get t := by
  cases d with
  | none => rfl
  | some d =>
    have hne : ¬ t = d := fun e => h (by rw [e])
    rcases get_put r d t v with h1 | ⟨h1, _⟩
    · simpa [Rg.putO, hne] using h1
    · exact absurd h1 hne

theorem putO_same {r : Rg} {t : Nat} {v : Value} : (r.putO (some t) v).get t = v ∨ (r.putO (some t) v).get t = any := by
  rcases get_put r t t v with h1 | ⟨_, h1⟩
  · left; simpa [Rg.putO] using h1
  · right; simpa [Rg.putO] using h1

theorem putO_defers (r : Rg) (d : Option Nat) (v : Value) : (r.putO d v).defers = r.defers := by
  cases d with
  | none => rfl
  | some t =>
    simp only [Rg.putO, Rg.put]
    split
    · split <;> rfl
    · rfl

theorem eval_of {K : Kx} {r : Rg} {a : Act} {x : Operand} (h : ∀ t, x = .tmp t → RV K (r.get t) (a.tmps.getD t undef)) : RV K (r.eval x) (a.eval x) := by
  cases x with
  | tmp t => exact h t rfl
  | const v =>
    simp only [Rg.eval, Act.eval]
    split
    · rename_i hp; exact RV_plainR hp
    · exact RV_any
  | global g => exact RV_any
  | func g =>
    simp only [Rg.eval, Act.eval]
    rw [RV_func]
    exact ⟨_, _, rfl, trivial, trivial⟩

theorem wants_of {K : Kx} {r : Rg} {a : Act} {all : List Oper} {o : Oper} {b : Bool} {s : St} (hk : KOK K s) (h : ∀ j want p d, o.guard = some (j, want) → all[j]? = some p → p.dst = some d → RV K (r.get d) (a.tmps.getD d undef))
    (hw : wants all s.facts r o = some b) : Region.wanted o (yielded all.toArray a.tmps) = b := by
  unfold wants at hw
  unfold Region.wanted
  split at hw
  · rename_i hg
    simp at hw
    subst hw
    simp [hg]
  · rename_i j want hg
    simp only [hg]
    split at hw
    · rename_i p hp
      split at hw
      · rename_i d hd
        have hs := h j want p d hg hp hd
        split at hw
        · rename_i c hc
          rw [hc, RV_bool] at hs
          have : a.tmps[d]? = some (.bool c) := by
            rw [Array.getD_eq_getD_getElem?] at hs
            cases hq : a.tmps[d]? with
            | none => rw [hq] at hs; simp [undef] at hs
            | some q => rw [hq] at hs; simpa using hs
          have hy : yielded all.toArray a.tmps j = some c := by simp [yielded, hp, hd, this]
          rw [hy]
          simp at hw
          subst hw
          simp
        · rename_i l hc
          rw [hc, RV_tuple] at hs
          obtain ⟨l', hs, _⟩ := hs
          have hy : yielded all.toArray a.tmps j = none := by
            rw [Array.getD_eq_getD_getElem?] at hs
            cases hq : a.tmps[d]? with
            | none => simp [yielded, hp, hd, hq]
            | some q => rw [hq] at hs; simp at hs; subst hs; simp [yielded, hp, hd, hq]
          rw [hy]
          simp at hw
          subst hw
          rfl
        · split at hw
          · rename_i c hc
            have hs := truth_sound hk hc hs
            have : a.tmps[d]? = some (.bool c) := by
              rw [Array.getD_eq_getD_getElem?] at hs
              cases hq : a.tmps[d]? with
              | none => rw [hq] at hs; simp [undef] at hs
              | some q => rw [hq] at hs; simpa using hs
            have hy : yielded all.toArray a.tmps j = some c := by simp [yielded, hp, hd, this]
            rw [hy]
            simp at hw
            subst hw
            simp
          · simp at hw
      · rename_i hd
        simp at hw
        subst hw
        simp [yielded, hp, hd]
    · rename_i hp
      simp at hw
      subst hw
      simp [yielded, hp]

structure Jv (E : Env) (all : List Oper) (R : Nat → Rg) (S : Nat → St) (n0 : Base) (w0 : World) (nt : Nat) (listed : Array Bool) (K : Kx) (k : Nat) (a : Act) (w : World) : Prop where
  size : listed.size = all.length
  closed : ∀ i o, listed.getD i false = true → all[i]? = some o → ∀ e, e ∈ o.after.toList → Region.binds .any e = true → listed.getD e.on false = true
  rep : Rep n0 w0 K (S k) w
  kle : k ≤ all.length
  mem : ∀ i o, all[i]? = some o → isEA E o = true → (listed.getD i false = true ↔ i < k)
  fr : ∀ i o, all[i]? = some o → isBuild o.op = true → listed.getD i false = true → Fresh (S i)
  asz : a.tmps.size = nt
  defers : All2 DefRel (R 0).defers a.defers
  slot : ∀ t i, i ≤ all.length → (∀ j o, all[j]? = some o → o.dst = some t → (listed.getD j false = true ↔ j < i)) → RV K ((R i).get t) (a.tmps.getD t undef)

section
variable {P : Program} {E : Env} {cf : CallF} {all : List Oper} {R : Nat → Rg} {S : Nat → St} {n0 : Base} {w0 : World} {nt : Nat} {listed : Array Bool} {K K' : Kx} {k : Nat} {a : Act} {w w' : World}

/- what runs ahead of a ready operation has run -/
theorem Jv.ahead (j : Jv E all R S n0 w0 nt listed K k a w) {x y : Nat} {oy : Oper} (hb : Fb all x y) (hy : all[y]? = some oy) (hp : ∀ e, e ∈ oy.after.toList → Region.binds .any e = true → listed.getD e.on false = true) :
    listed.getD x false = true :=
  hb (fun i => listed.getD i false = true) (fun i o hi ho e he hbe => j.closed i o hi ho e he hbe) (fun o ho e he hbe => by
    rw [hy] at ho
    simp at ho
    subst ho
    exact hp e he hbe)

theorem Jv.ahead' (j : Jv E all R S n0 w0 nt listed K k a w) {x y : Nat} {oy : Oper} (hb : Fb all x y) (hy : all[y]? = some oy) (hl : listed.getD y false = true) : listed.getD x false = true :=
  j.ahead hb hy (fun e he hbe => j.closed y oy hl hy e he hbe)

/- the slots that a ready operation looks at -/
theorem Jv.looks (hd : DrawOK E all) (j : Jv E all R S n0 w0 nt listed K k a w) {i : Nat} {o : Oper} (ho : all[i]? = some o) (hun : listed.getD i false = false)
    (hp : ∀ e, e ∈ o.after.toList → Region.binds .any e = true → listed.getD e.on false = true) {t : Nat} (ht : t ∈ o.looksAt all.toArray) : RV K ((R i).get t) (a.tmps.getD t undef) := by
  have hlt : i < all.length := (List.getElem?_eq_some_iff.1 ho).1
  refine j.slot t i (Nat.le_of_lt hlt) (fun x ox hx hdst => ?_)
  rcases Nat.lt_trichotomy x i with h | h | h
  · have hc : conflict E all ox o = true := by
      have : touches all ox o = true := by simp [touches, hdst]; exact ht
      simp [conflict, this]
    have := j.ahead (hd.order i x ox o h hx ho hc) ho hp
    simp [this, h]
  · subst h; simp [hun]
  · have hc : conflict E all o ox = true := by
      have : touches all ox o = true := by simp [touches, hdst]; exact ht
      simp [conflict, this]
    constructor
    · intro hl
      have := j.ahead' (hd.order x i o ox h ho hx hc) hx hl
      rw [hun] at this
      simp at this
    · intro hh; omega

theorem Jv.operands (hd : DrawOK E all) (j : Jv E all R S n0 w0 nt listed K k a w) {i : Nat} {o : Oper} (ho : all[i]? = some o) (hun : listed.getD i false = false)
    (hp : ∀ e, e ∈ o.after.toList → Region.binds .any e = true → listed.getD e.on false = true) : ∀ x, x ∈ o.op.operands → RV K ((R i).eval x) (a.eval x) := by
  intro x hx
  refine eval_of (fun t ht => j.looks hd ho hun hp ?_)
  subst ht
  exact List.mem_append_left _ (List.mem_filterMap.2 ⟨.tmp t, by simpa using hx, rfl⟩)

theorem Jv.wanted (hd : DrawOK E all) (j : Jv E all R S n0 w0 nt listed K k a w) {i : Nat} {o : Oper} (ho : all[i]? = some o) (hun : listed.getD i false = false)
    (hp : ∀ e, e ∈ o.after.toList → Region.binds .any e = true → listed.getD e.on false = true) {b : Bool} (hki : KOK K (S i)) (hw : wants all (S i).facts (R i) o = some b) : Region.wanted o (yielded all.toArray a.tmps) = b := by
  refine wants_of (K := K) hki (fun q want p d hg hpq hdst => j.looks hd ho hun hp ?_) hw
  refine List.mem_append_right _ ?_
  simp [hg, hpq, hdst]

/- behind one more operation -/
theorem Jv.next (hd : DrawOK E all) (j : Jv E all R S n0 w0 nt listed K k a w) {i : Nat} {o : Oper} (ho : all[i]? = some o) (hun : listed.getD i false = false)
    (hp : ∀ e, e ∈ o.after.toList → Region.binds .any e = true → listed.getD e.on false = true) (hnt : ∀ t, o.dst = some t → t < nt)
    (htr : ∀ k o, all[k]? = some o → Step1 E cf all R S k o) {v c : Value} (hRi : R (i + 1) = (R i).putO o.dst v) (hle : K.le K') (hv : RV K' v c)
    {k' : Nat} (hrep : Rep n0 w0 K' (S k') w') (hkle : k' ≤ all.length)
    (hmem : ∀ x ox, all[x]? = some ox → isEA E ox = true → ((listed.setIfInBounds i true).getD x false = true ↔ x < k'))
    (hfr : isBuild o.op = true → Fresh (S i)) :
    Jv E all R S n0 w0 nt (listed.setIfInBounds i true) K' k' (a.put o.dst c) w' := by
  have hlt : i < all.length := (List.getElem?_eq_some_iff.1 ho).1
  have hset : ∀ x, (listed.setIfInBounds i true).getD x false = true ↔ (x = i ∨ listed.getD x false = true) := by
    intro x
    by_cases e : x = i
    · subst e
      have : x < listed.size := by rw [j.size]; exact hlt
      simp [Array.getD_eq_getD_getElem?, Array.getElem?_setIfInBounds, this]
    · rw [getD_set_ne false (fun h => e h.symm)]
      simp [e]
  refine ⟨by simp [j.size], ?_, hrep, hkle, hmem, ?_, ?_, ?_, ?_⟩
  · intro x ox hl hx e he hbe
    rcases (hset x).1 hl with h | h
    · subst h
      rw [ho] at hx
      simp at hx
      subst hx
      exact (hset _).2 (.inr (hp e he hbe))
    · exact (hset _).2 (.inr (j.closed x ox h hx e he hbe))
  · intro x ox hx hb hl
    rcases (hset x).1 hl with h | h
    · subst h
      rw [ho] at hx
      simp at hx
      subst hx
      exact hfr hb
    · exact j.fr x ox hx hb h
  · cases o.dst <;> simp [Act.put, j.asz]
  · cases o.dst <;> exact j.defers
  · intro t i' hi' hcut
    by_cases hdt : o.dst = some t
    · have hii : i < i' := (hcut i o ho hdt).1 ((hset i).2 (.inl rfl))
      have hsame : ∀ m, i + 1 + m ≤ i' → (R (i + 1 + m)).get t = (R (i + 1)).get t := by
        intro m
        induction m with
        | zero => intro _; rfl
        | succ m ih =>
          intro hm
          have hxl : i + 1 + m < all.length := by omega
          obtain ⟨ox, hox⟩ : ∃ ox, all[i + 1 + m]? = some ox := ⟨_, List.getElem?_eq_getElem hxl⟩
          have hndst : ox.dst ≠ some t := by
            intro e
            have hl := (hcut _ ox hox e).2 (by omega)
            rcases (hset _).1 hl with h | h
            · omega
            · have hc : conflict E all o ox = true := by
                have : sameDst o ox = true := by simp [sameDst, hdt, e]
                simp [conflict, this]
              have := j.ahead' (hd.order _ i o ox (by omega) ho hox hc) hox h
              rw [hun] at this
              simp at this
          have hstep : (R (i + 1 + m + 1)).get t = (R (i + 1 + m)).get t := by
            rcases htr _ ox hox with ⟨_, e, _⟩ | ⟨_, u, _, _, _, e⟩ <;> rw [e] <;> exact putO_other hndst
          rw [show i + 1 + (m + 1) = i + 1 + m + 1 by omega, hstep]
          exact ih (by omega)
      have h1 := hsame (i' - (i + 1)) (by omega)
      rw [show i + 1 + (i' - (i + 1)) = i' by omega] at h1
      rw [h1, hRi, hdt]
      have hc : (a.put (some t) c).tmps.getD t undef = c := by
        have htl : t < a.tmps.size := by rw [j.asz]; exact hnt t hdt
        simp [Act.put, Array.getD_eq_getD_getElem?, Array.getElem?_setIfInBounds, htl]
      rw [hc]
      rcases putO_same (r := R i) (t := t) (v := v) with h2 | h2
      · rw [h2]; exact hv
      · rw [h2]; exact RV_any
    · have hc : (a.put o.dst c).tmps.getD t undef = a.tmps.getD t undef := by
        cases hdd : o.dst with
        | none => rfl
        | some d =>
          have hne : d ≠ t := fun e => hdt (by rw [hdd, e])
          simp [Act.put, Array.getD_eq_getD_getElem?, Array.getElem?_setIfInBounds_ne hne]
      rw [hc]
      refine RV.mono hle (j.slot t i' hi' (fun x ox hx hdx => ?_))
      rw [← hcut x ox hx hdx, hset]
      constructor
      · exact .inr
      · rintro (h | h)
        · subst h
          rw [ho] at hx
          simp at hx
          subst hx
          exact absurd hdx hdt
        · exact h
end
end Go.Sx
