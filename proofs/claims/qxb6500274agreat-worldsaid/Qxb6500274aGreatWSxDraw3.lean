import Derived.Test.Qxb6500274aGreatWSxDraw2
set_option linter.unusedSimpArgs false
namespace Go.Sx
open Go Go.RowKit

section
variable {P : Program} {E : Env} {cf : CallF} {all : List Oper} {R : Nat → Rg} {S : Nat → St} {n0 : Base} {w0 : World} {nt : Nat} {listed : Array Bool} {K : Kx} {k : Nat} {a : Act} {w : World}
  {Q : Exit → Act → World → Prop}

theorem still_of (hE : EnvOK P E) (hq : QuietSound P E cf) {r : Rg} {s s' : St} {v : Value} {o : Oper} (hne : isEA E o = false) (h : aop E cf o.op r.eval s = some [(v, s')]) : s' = s := by
  simp only [isEA, Bool.not_eq_false', Bool.or_eq_true] at hne
  rcases hne with (hp | hl) | hqu
  · obtain ⟨u, h1, _⟩ := aop_pure (P := P) hE hp h
    simp at h1
    exact h1.2
  · cases hop : o.op <;> rw [hop] at hl h <;> simp [isLoad] at hl
    rw [aop_load] at h
    simp only [aop_T, aopT] at h
    split at h
    · split at h
      · split at h
        · have := one_eq h; simp at this; exact this.2
        · simp at h
      · split at h
        · have := one_eq h; simp at this; exact this.2
        · simp at h
    · simp at h
  · cases hop : o.op <;> rw [hop] at hqu h <;> simp [isQuiet] at hqu
    rename_i c
    split at hqu
    · rename_i g hg
      rw [aop_call (fun b => by simp [hg])] at h
      simp only [aop_T, aopT, acall, hg, Rg.eval] at h
      obtain ⟨u, h1, _⟩ := hq g _ _ _ hqu h
      simp at h1
      exact h1.2
    · simp at hqu

theorem S_const (hE : EnvOK P E) (hq : QuietSound P E cf) (htr : ∀ k o, all[k]? = some o → Step1 E cf all R S k o) (p : Nat) :
    ∀ m, p + m ≤ all.length → (∀ x o, p ≤ x → x < p + m → all[x]? = some o → isEA E o = false) → S (p + m) = S p
  | 0, _, _ => rfl
  | m + 1, hm, hx => by
    have ih := S_const hE hq htr p m (by omega) (fun x o h1 h2 => hx x o h1 (by omega))
    obtain ⟨o, ho⟩ : ∃ o, all[p + m]? = some o := ⟨_, List.getElem?_eq_getElem (by omega)⟩
    have hne := hx (p + m) o (by omega) (by omega) ho
    have : S (p + m + 1) = S (p + m) := by
      rcases htr _ o ho with ⟨_, _, e⟩ | ⟨_, v, s', hop, e, _⟩
      · exact e
      · rw [e, still_of hE hq hne hop]; rfl
    rw [show p + (m + 1) = p + m + 1 by omega, this, ih]

def Sub (s s' : St) : Prop := ∀ b x, find b s.heap = some x → find b s'.heap = some x

theorem loadN_sub {s s' : St} (h : Sub s s') {a : Addr} {n : Nat} {vs : List Value} (hl : loadN s a n = some vs) : loadN s' a n = some vs := by
  unfold loadN St.blk at hl ⊢
  split at hl
  · rename_i x hx
    rw [h _ _ hx]
    exact hl
  · simp at hl

theorem load_sub {f : Operand → Value} {s s' : St} {v : Value} {o : Oper} (hl : isLoad o.op = true) (hs : Sub s s') (h : aop E cf o.op f s = some [(v, s)]) : aop E cf o.op f s' = some [(v, s')] := by
  cases hop : o.op <;> rw [hop] at hl h <;> simp [isLoad] at hl
  rw [aop_load] at h ⊢
  simp only [aop_T, aopT] at h ⊢
  split at h
  · rename_i i p hi ha
    cases hag : i.agg with
    | true =>
      simp only [hag] at h ⊢
      cases hc : loadN s p i.size with
      | none => simp [hc] at h
      | some c =>
        rw [hc] at h
        have := one_eq h
        simp at this
        simp only [loadN_sub hs hc, this]
        rfl
    | false =>
      simp only [hag] at h ⊢
      split at h
      · rename_i u hu
        have := one_eq h
        simp at this
        simp only [loadN_sub hs hu, this]
        rfl
      · simp at h
  · simp at h

theorem build_new {f : Operand → Value} {s s' : St} {v : Value} {o : Oper} (hb : isBuild o.op = true) (h : aop E cf o.op f s = some [(v, s')]) : ∃ x, s' = s.new x := by
  cases hop : o.op <;> rw [hop] at hb h <;> simp [isBuild] at hb
  rw [aop_build] at h
  simp only [aop_T, aopT] at h
  split at h
  · split at h
    · split at h
      · split at h
        · split at h
          · have := one_eq h
            simp [newBlk] at this
            exact ⟨_, this.2⟩
          · simp at h
        · simp at h
      · simp at h
    · simp at h
  · simp at h

theorem new_sub {s : St} (hf : Fresh s) (x : Blk) : Sub s (s.new x) := by
  intro b y hy
  have := hf b y hy
  rw [find_new, if_neg (by omega)]
  exact hy

theorem Rep.fresh {s : St} (h : Rep n0 w0 K s w) : Fresh s := fun b x hx => by
  have := (h.live b x hx).1
  rw [h.nx] at this
  exact this

/- the state that a ready operation meets -/
theorem Jv.stateEA (hE : EnvOK P E) (hq : QuietSound P E cf) (hd : DrawOK E all) (htr : ∀ k o, all[k]? = some o → Step1 E cf all R S k o) (j : Jv E all R S n0 w0 nt listed K k a w) {i : Nat} {o : Oper} (ho : all[i]? = some o)
    (hun : listed.getD i false = false) (hp : ∀ e, e ∈ o.after.toList → Region.binds .any e = true → listed.getD e.on false = true) (hea : isEA E o = true) :
    S k = S i ∧ ∀ x ox, all[x]? = some ox → isEA E ox = true → (listed.getD x false = true ↔ x < i) := by
  have hlt : i < all.length := (List.getElem?_eq_some_iff.1 ho).1
  have hiff : ∀ x ox, all[x]? = some ox → isEA E ox = true → (listed.getD x false = true ↔ x < i) := by
    intro x ox hx hxe
    rcases Nat.lt_trichotomy x i with h | h | h
    · have hc : conflict E all ox o = true := by simp [conflict, hxe, hea]
      simp [j.ahead (hd.order i x ox o h hx ho hc) ho hp, h]
    · subst h; simp [hun]
    · have hc : conflict E all o ox = true := by simp [conflict, hxe, hea]
      constructor
      · intro hl
        have := j.ahead' (hd.order x i o ox h ho hx hc) hx hl
        rw [hun] at this
        simp at this
      · intro hh; omega
  refine ⟨?_, hiff⟩
  have hnone : ∀ x ox, all[x]? = some ox → isEA E ox = true → (x < k ↔ x < i) := fun x ox hx hxe => by rw [← j.mem x ox hx hxe, hiff x ox hx hxe]
  rcases Nat.le_total k i with h | h
  · have := S_const hE hq htr k (i - k) (by omega) (fun x ox h1 h2 hx => by
      cases he : isEA E ox with
      | false => rfl
      | true => have := hnone x ox hx he; omega)
    rw [show k + (i - k) = i by omega] at this
    exact this.symm
  · have := S_const hE hq htr i (k - i) (by have := j.kle; omega) (fun x ox h1 h2 hx => by
      cases he : isEA E ox with
      | false => rfl
      | true => have := hnone x ox hx he; omega)
    rw [show i + (k - i) = k by omega] at this
    exact this

theorem Jv.stateLoad (hE : EnvOK P E) (hq : QuietSound P E cf) (hd : DrawOK E all) (htr : ∀ k o, all[k]? = some o → Step1 E cf all R S k o) (j : Jv E all R S n0 w0 nt listed K k a w) {i : Nat} {o : Oper} (ho : all[i]? = some o)
    (hun : listed.getD i false = false) (hp : ∀ e, e ∈ o.after.toList → Region.binds .any e = true → listed.getD e.on false = true) (hl : isLoad o.op = true) : Sub (S i) (S k) := by
  have hlt : i < all.length := (List.getElem?_eq_some_iff.1 ho).1
  rcases Nat.le_total k i with h | h
  · have := S_const hE hq htr k (i - k) (by omega) (fun x ox h1 h2 hx => by
      cases he : isEA E ox with
      | false => rfl
      | true =>
        have hc : conflict E all ox o = true := by simp [conflict, he, hl]
        have h3 := j.ahead (hd.order i x ox o (by omega) hx ho hc) ho hp
        have := (j.mem x ox hx he).1 h3
        omega)
    rw [show k + (i - k) = i by omega] at this
    rw [this]
    exact fun b x hx => hx
  · have key : ∀ m, i + m ≤ k → Sub (S i) (S (i + m)) := by
      intro m
      induction m with
      | zero => intro _ b x hx; exact hx
      | succ m ih =>
        intro hm
        have ih := ih (by omega)
        obtain ⟨ox, hox⟩ : ∃ ox, all[i + m]? = some ox := ⟨_, List.getElem?_eq_getElem (by have := j.kle; omega)⟩
        have hstep : Sub (S (i + m)) (S (i + m + 1)) := by
          rcases htr _ ox hox with ⟨_, _, e⟩ | ⟨_, v, s', hop, e, _⟩
          · rw [e]; exact fun b x hx => hx
          · rw [e]
            cases he : isEA E ox with
            | false => rw [still_of hE hq he hop]; exact fun b x hx => hx
            | true =>
              have hlx := (j.mem _ ox hox he).2 (by omega)
              have hne : i ≠ i + m := fun e => by rw [← e, hun] at hlx; simp at hlx
              cases hb : isBuild ox.op with
              | false =>
                have hc : conflict E all o ox = true := by simp [conflict, he, hl, hb]
                have := j.ahead' (hd.order (i + m) i o ox (by omega) ho hox hc) hox hlx
                rw [hun] at this
                simp at this
              | true =>
                obtain ⟨x, hx⟩ := build_new hb hop
                rw [hx]
                exact fun b y hy => new_sub (j.fr _ ox hox hb hlx) x b y hy
        exact fun b x hx => hstep b x (ih b x hx)
    have := key (k - i) (by omega)
    rwa [show i + (k - i) = k by omega] at this

/- one step of whatever order -/
theorem Jv.step (hE : EnvOK P E) (hcf : CallSound P n0 w0 cf) (hq : QuietSound P E cf) (hd : DrawOK E all) (htr : ∀ k o, all[k]? = some o → Step1 E cf all R S k o) (hnt : ∀ o, o ∈ all → ∀ t, o.dst = some t → t < nt)
    (j : Jv E all R S n0 w0 nt listed K k a w) {i : Nat} (hi : i ∈ Region.ready .any all.toArray listed) :
    wpOp P all.toArray Q i (fun a' w' => ∃ K' k', K.le K' ∧ Jv E all R S n0 w0 nt (listed.setIfInBounds i true) K' k' a' w') a w := by
  obtain ⟨hun0, o, ho', hall⟩ := mem_ready.1 hi
  have ho : all[i]? = some o := by simpa using ho'
  have hlt : i < all.length := (List.getElem?_eq_some_iff.1 ho).1
  have hun : listed.getD i false = false := by
    have : i < listed.size := by rw [j.size]; exact hlt
    simp [this] at hun0 ⊢
    exact hun0
  have hp : ∀ e, e ∈ o.after.toList → Region.binds .any e = true → listed.getD e.on false = true := fun e he hb => hall e (by simpa using he) hb
  have hdst := hnt o (List.mem_of_getElem? ho)
  have hset : ∀ x, x ≠ i → ((listed.setIfInBounds i true).getD x false = true ↔ listed.getD x false = true) := fun x hx => by
    rw [getD_set_ne false (fun h => hx h.symm)]
  have hseti : (listed.setIfInBounds i true).getD i false = true := by
    have : i < listed.size := by rw [j.size]; exact hlt
    simp [this]
  -- what an operation that is no effect keeps
  have hmemN : isEA E o = false → ∀ x ox, all[x]? = some ox → isEA E ox = true → ((listed.setIfInBounds i true).getD x false = true ↔ x < k) := by
    intro hne x ox hx hxe
    have hxi : x ≠ i := fun e => by subst e; rw [ho] at hx; simp at hx; subst hx; rw [hne] at hxe; simp at hxe
    rw [hset x hxi]
    exact j.mem x ox hx hxe
  have hmemE : isEA E o = true → ∀ x ox, all[x]? = some ox → isEA E ox = true → ((listed.setIfInBounds i true).getD x false = true ↔ x < i + 1) := by
    intro hea x ox hx hxe
    have hiff := (j.stateEA hE hq hd htr ho hun hp hea).2 x ox hx hxe
    by_cases hxi : x = i
    · subst hxi; simp [hseti]
    · rw [hset x hxi, hiff]; omega
  have hfrE : isBuild o.op = true → Fresh (S i) := by
    intro hb
    have hea : isEA E o = true := by
      cases hop : o.op <;> rw [hop] at hb <;> simp [isBuild] at hb
      simp [isEA, hop, isPure, isLoad, isQuiet]
    rw [← (j.stateEA hE hq hd htr ho hun hp hea).1]
    exact j.rep.fresh
  unfold wpOp
  simp only [ho']
  have hki : KOK K (S i) := by
    have h1 := S_facts htr i (Nat.le_of_lt hlt)
    have h2 := S_facts htr k j.kle
    exact j.rep.kok.of (h1.1.trans h2.1.symm) (h1.2.trans h2.2.symm)
  rcases htr i o ho with ⟨hw, hR, hS⟩ | ⟨hw, v, s1, hop, hS1, hR⟩
  · simp only [j.wanted hd ho hun hp hki hw, Bool.false_eq_true, if_false]
    cases hea : isEA E o with
    | false => exact ⟨K, k, Kx.le_refl _, j.next hd ho hun hp hdst htr hR (Kx.le_refl _) undef_RV j.rep j.kle (hmemN hea) hfrE⟩
    | true =>
      have hst := (j.stateEA hE hq hd htr ho hun hp hea).1
      refine ⟨K, i + 1, Kx.le_refl _, j.next hd ho hun hp hdst htr hR (Kx.le_refl _) undef_RV ?_ (by omega) (hmemE hea) hfrE⟩
      rw [hS, ← hst]
      exact j.rep
  · simp only [j.wanted hd ho hun hp hki hw, if_true]
    refine .inl ?_
    have hopr := j.operands hd ho hun hp
    unfold Oper.wp
    cases hea : isEA E o with
    | true =>
      have hst := (j.stateEA hE hq hd htr ho hun hp hea).1
      have hrep : Rep n0 w0 K (S i) w := by rw [← hst]; exact j.rep
      have hsound := aop_sound hE hcf (ρ := a.eval) hrep hopr hop
      have hnext : ∀ c w', LPost n0 w0 K [(v, s1)] c w' → ∃ K' k', K.le K' ∧ Jv E all R S n0 w0 nt (listed.setIfInBounds i true) K' k' (a.put o.dst c) w' := by
        intro c w' ⟨v', s', K', hm, hle, hv, hR'⟩
        simp at hm
        obtain ⟨rfl, rfl⟩ := hm
        exact ⟨K', i + 1, hle, j.next hd ho hun hp hdst htr hR hle hv (by rw [hS1]; exact hR'.keep (hki.mono hle)) (by omega) (hmemE hea) hfrE⟩
      generalize (execOp a.eval o).run P w = res at hsound
      cases res with
      | ok nx w' =>
        cases nx <;> simp only [OpPost] at hsound <;> simp only [Oper.upon]
        case value c => exact hnext c w' hsound
        case skip => exact hnext _ w' hsound
        case enter g args =>
          refine hsound.mono ?_
          rintro e w'' ⟨c, rfl, hc⟩
          exact hnext c w'' hc
      | halt x w' => simp [OpPost] at hsound
    | false =>
      have hea' := hea
      simp only [isEA, Bool.not_eq_false', Bool.or_eq_true] at hea'
      rcases hea' with (hpu | hlo) | hqu
      · obtain ⟨u, h1, h2⟩ := aop_pure (P := P) hE hpu hop
        simp at h1
        obtain ⟨rfl, _⟩ := h1
        obtain ⟨c, h3, h4⟩ := h2 K a.eval hki hopr
        rw [h4 w]
        simp only [Oper.upon]
        exact ⟨K, k, Kx.le_refl _, j.next hd ho hun hp hdst htr hR (Kx.le_refl _) h3 j.rep j.kle (hmemN hea) hfrE⟩
      · have hsi : s1 = S i := still_of hE hq hea hop
        rw [hsi] at hop
        have hop' := load_sub hlo (j.stateLoad hE hq hd htr ho hun hp hlo) hop
        obtain ⟨dst, op, type, pos, after, guard⟩ := o
        cases op <;> simp [isLoad] at hlo
        obtain ⟨u, c, h1, h2, h3⟩ := eff_load (dst := dst) (type := type) (pos := pos) (after := after) (guard := guard) hE j.rep hopr (by rw [aop_load] at hop'; exact hop')
        simp at h1
        obtain rfl := h1
        rw [h3]
        simp only [Oper.upon]
        exact ⟨K, k, Kx.le_refl _, j.next hd ho hun hp hdst htr hR (Kx.le_refl _) h2 j.rep j.kle (hmemN hea) hfrE⟩
      · obtain ⟨dst, op, type, pos, after, guard⟩ := o
        cases op <;> simp [isQuiet] at hqu
        rename_i c
        split at hqu
        · rename_i g hg
          rw [aop_call (fun b => by simp [hg])] at hop
          simp only [aop_T, aopT, acall, hg, Rg.eval] at hop
          obtain ⟨u, h1, h2, h3⟩ := hq g _ _ _ hqu hop
          simp at h1
          obtain ⟨rfl, _⟩ := h1
          have hrel : All2 (RV K) (c.args.toList.map (R i).eval) (c.args.map a.eval).toList := by
            rw [Array.toList_map]
            refine All2.map _ _ _ (fun x hx => hopr x ?_)
            have : x ∈ c.args := by simpa using hx
            simp [Op.operands, Call.operands, this]
          have hrun : (execOp a.eval ⟨dst, .call c, type, pos, after, guard⟩).run P w = .ok (.enter g (c.args.map a.eval)) w := by
            simp only [execOp, resolve, hg, Act.eval, Deferred.ofValue, invoke, Sem.run_bind, Sem.run_pure, Result.andThen_ok, h2]
            simp
          rw [hrun]
          simp only [Oper.upon]
          have hcall := h3 K w (c.args.map a.eval).toList (by simpa using hrel)
          have he : (c.args.map a.eval).toList.toArray = c.args.map a.eval := rfl
          rw [he] at hcall
          refine hcall.mono ?_
          rintro e w'' ⟨cc, rfl, hcv, rfl⟩
          exact ⟨K, k, Kx.le_refl _, j.next hd ho hun hp hdst htr hR (Kx.le_refl _) hcv j.rep j.kle (hmemN hea) hfrE⟩
        · simp at hqu

/- how many have not run -/
def unrun (listed : Array Bool) : Nat := listed.toList.countP (fun b => !b)

theorem unrun_set {listed : Array Bool} {i : Nat} (h : i < listed.size) (hun : listed.getD i false = false) : unrun (listed.setIfInBounds i true) + 1 = unrun listed := by
  have hget : listed.toList[i]? = some false := by
    rw [Array.getElem?_toList, Array.getElem?_eq_getElem h]
    simp [h] at hun
    simp [hun]
  have key : ∀ (l : List Bool) (i : Nat), l[i]? = some false → (l.set i true).countP (fun b => !b) + 1 = l.countP (fun b => !b) := by
    intro l
    induction l with
    | nil => intro i hi; simp at hi
    | cons b l ih =>
      intro i hi
      cases i with
      | zero => simp at hi; subst hi; simp
      | succ i =>
        simp at hi
        have := ih i hi
        simp only [List.set_cons_succ, List.countP_cons]
        omega
  unfold unrun
  rw [Array.toList_setIfInBounds]
  exact key _ _ hget

theorem unrun_zero {listed : Array Bool} (h : unrun listed = 0) (i : Nat) (hi : i < listed.size) : listed.getD i false = true := by
  unfold unrun at h
  rw [List.countP_eq_zero] at h
  have := h listed[i] (by simp)
  simpa [hi] using this

theorem Jv.allRun (hE : EnvOK P E) (hq : QuietSound P E cf) (htr : ∀ k o, all[k]? = some o → Step1 E cf all R S k o) (j : Jv E all R S n0 w0 nt listed K k a w) (h : ∀ i, i < all.length → listed.getD i false = true) :
    RegRel K nt (R all.length) a ∧ Rep n0 w0 K (S all.length) w := by
  refine ⟨⟨j.asz, fun t => j.slot t all.length (Nat.le_refl _) (fun x ox hx _ => ?_), ?_⟩, ?_⟩
  · have := (List.getElem?_eq_some_iff.1 hx).1
    simp [h x this, this]
  · have hdf : ∀ m, m ≤ all.length → (R m).defers = (R 0).defers := by
      intro m
      induction m with
      | zero => intro _; rfl
      | succ m ih =>
        intro hm
        obtain ⟨o, ho⟩ : ∃ o, all[m]? = some o := ⟨_, List.getElem?_eq_getElem (by omega)⟩
        rcases htr m o ho with ⟨_, e, _⟩ | ⟨_, v, _, _, _, e⟩ <;> rw [e, putO_defers] <;> exact ih (by omega)
    rw [hdf _ (Nat.le_refl _)]
    exact j.defers
  · have := S_const hE hq htr k (all.length - k) (by have := j.kle; omega) (fun x ox h1 h2 hx => by
      cases he : isEA E ox with
      | false => rfl
      | true =>
        have := (j.mem x ox hx he).1 (h x (by have := j.kle; omega))
        omega)
    rw [show k + (all.length - k) = all.length by have := j.kle; omega] at this
    rw [this]
    exact j.rep

theorem wpAny_J (hE : EnvOK P E) (hcf : CallSound P n0 w0 cf) (hq : QuietSound P E cf) (hd : DrawOK E all) (htr : ∀ k o, all[k]? = some o → Step1 E cf all R S k o) (hnt : ∀ o, o ∈ all → ∀ t, o.dst = some t → t < nt)
    (K0 : Kx) (hQ : ∀ K a w, K0.le K → RegRel K nt (R all.length) a → Rep n0 w0 K (S all.length) w → Q .normal a w) :
    ∀ (fuel : Nat) (listed : Array Bool) (K : Kx) (k : Nat) (a : Act) (w : World), unrun listed = fuel → K0.le K → Jv E all R S n0 w0 nt listed K k a w → wpAny P .any all.toArray Q fuel listed a w
  | 0, listed, K, k, a, w, hu, hle, j => by
    have hall := fun i hi => unrun_zero hu i (by rw [j.size]; exact hi)
    obtain ⟨h1, h2⟩ := j.allRun hE hq htr hall
    refine ⟨?_, hQ K a w hle h1 h2⟩
    cases hr : Region.ready .any all.toArray listed with
    | nil => rfl
    | cons i l =>
      have hi : i ∈ Region.ready .any all.toArray listed := by rw [hr]; simp
      obtain ⟨hun0, o, ho', _⟩ := mem_ready.1 hi
      have ho : all[i]? = some o := by simpa using ho'
      have hlt : i < all.length := (List.getElem?_eq_some_iff.1 ho).1
      have h3 := hall i hlt
      have h4 : i < listed.size := by rw [j.size]; exact hlt
      simp [h4] at hun0 h3
      rw [h3] at hun0
      simp at hun0
  | fuel + 1, listed, K, k, a, w, hu, hle, j => by
    refine ⟨fun hnil => ?_, fun i hi => ?_⟩
    · -- the first that has not run would be ready
      exfalso
      have hex : ∃ i, i < all.length ∧ listed.getD i false = false := by
        apply Classical.byContradiction
        intro hno
        have hall : ∀ b, b ∈ listed.toList → (fun b => !b) b = true → False := by
          intro b hb hbn
          obtain ⟨m, hm⟩ := List.getElem?_of_mem hb
          have hml : m < listed.size := by simpa using (List.getElem?_eq_some_iff.1 hm).1
          have hmb : listed[m] = b := by
            have := (List.getElem?_eq_some_iff.1 hm).2
            simpa using this
          apply hno
          refine ⟨m, by rw [← j.size]; exact hml, ?_⟩
          simp [hml, hmb]
          simpa using hbn
        have : unrun listed = 0 := by
          unfold unrun
          rw [List.countP_eq_zero]
          intro b hb hbn
          exact hall b hb hbn
        omega
      have hmin : ∀ m i, i ≤ m → i < all.length → listed.getD i false = false → False := by
        intro m
        induction m with
        | zero =>
          intro i hi hlt hun
          have : i = 0 := by omega
          subst this
          obtain ⟨o, ho⟩ : ∃ o, all[0]? = some o := ⟨_, List.getElem?_eq_getElem hlt⟩
          have hr : 0 ∈ Region.ready .any all.toArray listed := by
            refine mem_ready.2 ⟨?_, o, by simpa using ho, fun e he hb => ?_⟩
            · have : 0 < listed.size := by rw [j.size]; exact hlt
              simp [this] at hun ⊢
              exact hun
            · have := hd.down 0 o ho e (by simpa using he) hb
              omega
          rw [hnil] at hr
          simp at hr
        | succ m ih =>
          intro i hi hlt hun
          obtain ⟨o, ho⟩ : ∃ o, all[i]? = some o := ⟨_, List.getElem?_eq_getElem hlt⟩
          have hr : i ∈ Region.ready .any all.toArray listed := by
            refine mem_ready.2 ⟨?_, o, by simpa using ho, fun e he hb => ?_⟩
            · have : i < listed.size := by rw [j.size]; exact hlt
              simp [this] at hun ⊢
              exact hun
            · have hlt' := hd.down i o ho e (by simpa using he) hb
              cases hle' : listed.getD e.on false with
              | true => rfl
              | false => exact (ih e.on (by omega) (by omega) hle').elim
          rw [hnil] at hr
          simp at hr
      obtain ⟨i, h1, h2⟩ := hex
      exact hmin i i (Nat.le_refl _) h1 h2
    · have hstep := j.step (Q := Q) hE hcf hq hd htr hnt hi
      obtain ⟨hun0, o, ho', _⟩ := mem_ready.1 hi
      have ho : all[i]? = some o := by simpa using ho'
      have hlt : i < listed.size := by rw [j.size]; exact (List.getElem?_eq_some_iff.1 ho).1
      have hun : listed.getD i false = false := by simp [hlt] at hun0 ⊢; exact hun0
      refine wpOp_mono ?_ hstep
      rintro a' w' ⟨K', k', hle', j'⟩
      exact wpAny_J hE hcf hq hd htr hnt K0 hQ fuel _ K' k' a' w' (by have := unrun_set hlt hun; omega) (Kx.le_trans hle hle') j'

theorem evalOps1_sound (hE : EnvOK P E) (hm : P.follows .mixedOrders = true) (hcf : CallSound P n0 w0 cf) (hq : QuietSound P E cf) (hd : okDraw E all = true) (hnt : ∀ o, o ∈ all → ∀ t, o.dst = some t → t < nt)
    {r rn : Rg} {s sn : St} (h : evalOps1 E cf all all r s = some (rn, sn)) (hR : Rep n0 w0 K s w) (hr : RegRel K nt r a) (id : Nat)
    (hQ : ∀ K' a' w', K.le K' → RegRel K' nt rn a' → Rep n0 w0 K' sn w' → Q .normal a' w') : (Code.region id all.toArray true).wp P Q a w := by
  obtain ⟨R, S, e1, e2, e3, e4, htr⟩ := trace_exists all r s rn sn h
  refine wp_region_any hm ?_
  have hsz : all.toArray.size = all.length := by simp
  rw [hsz]
  refine wpAny_J hE hcf hq (okDraw_spec hd) htr hnt K (fun K' a' w' hle h1 h2 => hQ K' a' w' hle (by rw [← e3]; exact h1) (by rw [← e4]; exact h2)) _ _ K 0 a _ ?_ (Kx.le_refl _) ?_
  · simp [unrun, Array.toList_replicate, List.countP_replicate]
  · refine ⟨by simp, fun i o hi => ?_, ?_, Nat.zero_le _, fun i o hi _ => ?_, fun i o hi _ hl => ?_, hr.size, by rw [e1]; exact hr.defers, fun t i hi hcut => ?_⟩
    · exfalso
      rcases Nat.lt_or_ge i all.length with h' | h' <;> simp [h'] at hi
    · rw [e2]; exact hR.drew
    · rcases Nat.lt_or_ge i all.length with h' | h' <;> simp [h']
    · exfalso
      rcases Nat.lt_or_ge i all.length with h' | h' <;> simp [h'] at hl
    · have hsame : ∀ m, m ≤ i → (R m).get t = (R 0).get t := by
        intro m
        induction m with
        | zero => intro _; rfl
        | succ m ih =>
          intro hm'
          obtain ⟨ox, hox⟩ : ∃ ox, all[m]? = some ox := ⟨_, List.getElem?_eq_getElem (by omega)⟩
          have hnd : ox.dst ≠ some t := by
            intro e
            have := (hcut m ox hox e).2 (by omega)
            rcases Nat.lt_or_ge m all.length with h' | h' <;> simp [h'] at this
          rcases htr m ox hox with ⟨_, e, _⟩ | ⟨_, v, _, _, _, e⟩ <;> rw [e, putO_other hnd] <;> exact ih (by omega)
      rw [hsame i (Nat.le_refl _), e1]
      exact hr.slot t
end
end Go.Sx
