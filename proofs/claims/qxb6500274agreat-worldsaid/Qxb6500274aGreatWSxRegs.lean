import Derived.Test.Qxb6500274aGreatWSxStr
import Derived.Tactics
set_option linter.unusedSimpArgs false
namespace Go.Sx
open Go Go.RowKit

/- SLOTS -/
def DefRel (v : Value) (d : Deferred) : Prop :=
  match v with
  | .func (.func g) _ _ => ∃ cap, d.target = .fn (.func g) cap
  | _ => True

structure RegRel (K : Kx) (nt : Nat) (r : Rg) (a : Act) : Prop where
  size : a.tmps.size = nt
  slot : ∀ t, RV K (r.get t) (a.tmps.getD t undef)
  defers : All2 DefRel r.defers a.defers

theorem RV_any {K : Kx} {c : Value} : RV K any c := by simp [any, RV, R0]

theorem lookTmp_turn {t : Nat} {v : Value} : ∀ {l l' : List (Nat × Value)}, turn t v l = some l' → ∀ t', lookTmp t' l' = if t' = t then some v else lookTmp t' l
  | [], l', h => by simp [turn] at h
  | (k, x) :: l, l', h => by
    intro t'
    simp only [turn] at h
    split at h
    · rename_i hk
      have hk : k = t := Nat.eq_of_beq_eq_true hk
      subst hk
      simp at h
      subst h
      by_cases e : t' = k
      · subst e; simp [lookTmp]
      · have : Nat.beq k t' = false := beq_ne (fun h => e h.symm)
        simp [lookTmp, this, e]
    · rename_i hk
      split at h
      · rename_i q hq
        simp at h
        subst h
        have ih := lookTmp_turn hq t'
        have hkt : k ≠ t := fun e => by rw [e, Nat.beq_refl] at hk; simp at hk
        by_cases e : k = t'
        · subst e; simp [lookTmp, hkt]
        · have : Nat.beq k t' = false := beq_ne e
          simp only [lookTmp, this, ih]
      · simp at h

theorem lookTmp_none {t : Nat} {v : Value} : ∀ {l : List (Nat × Value)}, turn t v l = none → lookTmp t l = none
  | [], _ => rfl
  | (k, x) :: l, h => by
    simp only [turn] at h
    split at h
    · simp at h
    · rename_i hk
      split at h
      · simp at h
      · rename_i hq
        simp only [lookTmp, hk]
        exact lookTmp_none hq

theorem get_put (r : Rg) (t t' : Nat) (v : Value) : ((r.put t v).get t' = if t' = t then v else r.get t') ∨ (t' = t ∧ (r.put t v).get t' = any) := by
  unfold Rg.put
  split
  · rename_i hn
    split
    · rename_i l hl
      refine .inl ?_
      simp only [Rg.get]
      rw [lookTmp_turn hl t']
      by_cases e : t' = t
      · subst e; simp [hn]
      · simp [e]
    · rename_i hl
      refine .inl ?_
      simp only [Rg.get]
      by_cases e : t' = t
      · subst e; simp [hn, lookTmp_none hl, lookTmp]
      · have : Nat.beq t t' = false := beq_ne (fun h => e h.symm)
        simp [e, lookTmp, this]
  · rename_i hn
    simp only [Rg.get, setAt_eq, getAt_eq]
    by_cases e : t' = t
    · subst e
      simp only [hn, if_true]
      by_cases hl : t' < r.vars.length
      · left; simp [hl]
      · right
        rw [List.getElem?_eq_none (by simp; omega)]
        simp
    · left
      rw [if_neg e]
      split
      · rfl
      · rw [List.getElem?_set_ne (fun h => e h.symm)]

section
variable {K K' : Kx} {nt : Nat} {r : Rg} {a : Act}

theorem RegRel.mono (hle : K.le K') (h : RegRel K nt r a) : RegRel K' nt r a :=
  ⟨h.size, fun t => RV.mono hle (h.slot t), h.defers⟩

theorem RegRel.put (h : RegRel K nt r a) {d : Option Nat} (hd : ∀ t, d = some t → t < nt) {v c : Value} (hv : RV K v c) : RegRel K nt (r.putO d v) (a.put d c) := by
  cases d with
  | none => exact h
  | some t =>
    have ht := hd t rfl
    refine ⟨by simp [Act.put, h.size], fun t' => ?_, ?_⟩
    · simp only [Rg.putO]
      rcases get_put r t t' v with h1 | ⟨_, h1⟩
      · rw [h1]
        by_cases e : t' = t
        · subst e
          have : (a.put (some t') c).tmps.getD t' undef = c := by
            have hlt : t' < a.tmps.size := by rw [h.size]; exact ht
            simp [Act.put, Array.getD_eq_getD_getElem?, Array.getElem?_setIfInBounds, hlt]
          rw [this]
          simpa using hv
        · have : (a.put (some t) c).tmps.getD t' undef = a.tmps.getD t' undef := by
            simp [Act.put, Array.getD_eq_getD_getElem?, Array.getElem?_setIfInBounds_ne (fun h : t = t' => e h.symm)]
          rw [this, if_neg e]
          exact h.slot t'
      · rw [h1]; exact RV_any
    · have : (r.putO (some t) v).defers = r.defers := by
        simp only [Rg.putO, Rg.put]
        split
        · split <;> rfl
        · rfl
      rw [this]
      exact h.defers

theorem RegRel.eval (h : RegRel K nt r a) (x : Operand) : RV K (r.eval x) (a.eval x) := by
  cases x with
  | tmp t => exact h.slot t
  | const v =>
    simp only [Rg.eval, Act.eval]
    split
    · rename_i hp; exact RV_plainR hp
    · exact RV_any
  | global g => exact RV_any
  | func g =>
    simp only [Rg.eval, Act.eval]
    rw [RV_func]
    exact ⟨_, _, rfl, trivial, trivial⟩

theorem RegRel.trim (h : RegRel K nt r a) : RegRel K nt (trim r) a := by
  refine ⟨h.size, fun t => ?_, h.defers⟩
  have := h.slot t
  simp only [Go.Sx.trim, Rg.get] at this ⊢
  split
  · rename_i hn
    simp only [hn] at this
    split
    · rename_i v hv
      simpa [hv] using this
    · simp only [lookTmp]; exact RV_any
  · rename_i hn
    simpa [hn] using this

theorem undef_RV : RV K (.tuple #[]) undef := by rw [RV_tuple]; exact ⟨#[], rfl, trivial⟩

theorem wants_some {all : List Oper} {o : Oper} {b : Bool} {s : St} (hk : KOK K s) (h : RegRel K nt r a) (hw : wants all s.facts r o = some b) : Region.wanted o (yielded all.toArray a.tmps) = b := by
  unfold wants at hw
  unfold Region.wanted
  split at hw
  · rename_i hg
    simp at hw
    subst hw
    simp [hg]
  · rename_i j want hg
    simp only [hg]
    split at hw
    · rename_i p hp
      split at hw
      · rename_i d hd
        have hs := h.slot d
        split at hw
        · rename_i c hc
          rw [hc, RV_bool] at hs
          have : a.tmps[d]? = some (.bool c) := by
            rw [Array.getD_eq_getD_getElem?] at hs
            cases hq : a.tmps[d]? with
            | none => rw [hq] at hs; simp [undef] at hs
            | some q => rw [hq] at hs; simpa using hs
          have hy : yielded all.toArray a.tmps j = some c := by simp [yielded, hp, hd, this]
          rw [hy]
          simp at hw
          subst hw
          simp
        · rename_i l hc
          rw [hc, RV_tuple] at hs
          obtain ⟨l', hs, _⟩ := hs
          have hy : yielded all.toArray a.tmps j = none := by
            rw [Array.getD_eq_getD_getElem?] at hs
            cases hq : a.tmps[d]? with
            | none => simp [yielded, hp, hd, hq]
            | some q => rw [hq] at hs; simp at hs; subst hs; simp [yielded, hp, hd, hq]
          rw [hy]
          simp at hw
          subst hw
          rfl
        · split at hw
          · rename_i c hc
            have hs := truth_sound hk hc hs
            have : a.tmps[d]? = some (.bool c) := by
              rw [Array.getD_eq_getD_getElem?] at hs
              cases hq : a.tmps[d]? with
              | none => rw [hq] at hs; simp [undef] at hs
              | some q => rw [hq] at hs; simpa using hs
            have hy : yielded all.toArray a.tmps j = some c := by simp [yielded, hp, hd, this]
            rw [hy]
            simp at hw
            subst hw
            simp
          · simp at hw
      · rename_i hd
        simp at hw
        subst hw
        simp [yielded, hp, hd]
    · rename_i hp
      simp at hw
      subst hw
      simp [yielded, hp]
end

theorem eachRS_mem {f : Rg → St → Option (List (Rg × St))} : ∀ {xs L : List (Rg × St)}, eachRS f xs = some L → ∀ x, x ∈ xs → ∃ l, f x.1 x.2 = some l ∧ ∀ y, y ∈ l → y ∈ L
  | [], _, _, x, hx => by simp at hx
  | z :: zs, L, h, x, hx => by
    simp only [eachRS] at h
    split at h
    · simp at h
    · rename_i l1 h1
      split at h
      · simp at h
        subst h
        simp at hx
        subst hx
        exact ⟨l1, h1, fun y hy => hy⟩
      · rename_i zs hne
        split at h
        · simp at h
        · rename_i l2 h2
          simp at h
          subst h
          rcases List.mem_cons.1 hx with hx | hx
          · subst hx; exact ⟨l1, h1, fun y hy => by simp [hy]⟩
          · obtain ⟨l, h3, h4⟩ := eachRS_mem h2 x hx
            exact ⟨l, h3, fun y hy => by simp [h4 y hy]⟩

theorem putAll_mem {d : Option Nat} {r : Rg} {v : Value} {s : St} : ∀ {l : List (Value × St)}, (v, s) ∈ l → (r.putO d v, s) ∈ putAll d r l
  | [], h => by simp at h
  | x :: l, h => by
    simp only [putAll]
    rcases List.mem_cons.1 h with h | h
    · subst h; simp
    · exact List.mem_cons.2 (.inr (putAll_mem h))

section
variable {P : Program} {E : Env} {cf : CallF} {n0 : Base} {w0 : World} {nt : Nat} {Q : Exit → Act → World → Prop}

theorem evalOps_sound (hE : EnvOK P E) (hcf : CallSound P n0 w0 cf) (all : List Oper) : ∀ (l : List Oper) (r : Rg) (s : St) (L : List (Rg × St)) (K : Kx) (a : Act) (w : World),
    (∀ o, o ∈ l → ∀ t, o.dst = some t → t < nt) → evalOps E cf all l r s = some L → Rep n0 w0 K s w → RegRel K nt r a →
    (∀ x, x ∈ L → ∀ K' a' w', K.le K' → RegRel K' nt x.1 a' → Rep n0 w0 K' x.2 w' → Q .normal a' w') → wpList P all.toArray Q l a w
  | [], r, s, L, K, a, w, _, h, hR, hr, hQ => by
    simp [evalOps] at h
    subst h
    exact hQ (r, s) (by simp) K a w (Kx.le_refl _) hr hR
  | o :: l, r, s, L, K, a, w, hd, h, hR, hr, hQ => by
    have hd0 := hd o (by simp)
    have hdl : ∀ o, o ∈ l → ∀ t, o.dst = some t → t < nt := fun o ho => hd o (by simp [ho])
    simp only [evalOps] at h
    split at h
    · simp at h
    · rename_i hw
      simp only [wpList, wants_some hR.kok hr hw, Bool.false_eq_true, if_false]
      exact evalOps_sound hE hcf all l _ s L K _ w hdl h hR (hr.put hd0 undef_RV) hQ
    · rename_i hw
      simp only [wpList, wants_some hR.kok hr hw, if_true]
      refine .inl ?_
      split at h
      · rename_i hnone
        unfold evDefer at h
        split at h
        · rename_i c hop
          split at h
          · rename_i f hcal hargs
            split at h
            · rename_i g x y hev
              have hrv := hr.eval f
              rw [hev, RV_func] at hrv
              obtain ⟨x', y', h1, _, _⟩ := hrv
              have hargs' : c.args = #[] := by apply Array.ext'; simpa using hargs
              have hrun : (execOp a.eval o).run P w = .ok (.defer { target := .fn (.func g) y', args := x' ++ #[] }) w := by
                simp [execOp, hop, resolve, hcal, hargs', h1, Deferred.ofValue]
              unfold Oper.wp
              rw [hrun]
              simp only [Oper.upon]
              refine evalOps_sound hE hcf all l _ s L K _ w hdl h hR ?_ hQ
              have hr2 : RegRel K nt ⟨r.nv, r.vars, r.long, r.tmps, .func (.func g) x y :: r.defers⟩ { tmps := a.tmps, defers := { target := .fn (.func g) y', args := x' ++ #[] } :: a.defers } :=
                ⟨hr.size, hr.slot, ⟨⟨y', rfl⟩, hr.defers⟩⟩
              exact hr2.put hd0 undef_RV
            · simp at h
          · simp at h
        · simp at h
      · rename_i vs hop
        have hsound := aop_sound hE hcf (ρ := a.eval) hR (fun y _ => hr.eval y) hop
        replace h : eachRS (evalOps E cf all l) (putAll o.dst r vs) = some L := by
          unfold evMany at h
          split at h
          · simp only [putAll, eachRS]
            rw [h]
          · exact h
        have hnext : ∀ c w', LPost n0 w0 K vs c w' → wpList P all.toArray Q l (a.put o.dst c) w' := by
          intro c w' ⟨v, s', K', hm, hle, hv, hR'⟩
          obtain ⟨l', h1, h2⟩ := eachRS_mem h (r.putO o.dst v, s') (putAll_mem hm)
          exact evalOps_sound hE hcf all l _ s' l' K' _ w' hdl h1 hR' ((hr.mono hle).put hd0 hv) (fun x hx K'' a'' w'' hle' hr' hR'' => hQ x (h2 x hx) K'' a'' w'' (Kx.le_trans hle hle') hr' hR'')
        unfold Oper.wp
        generalize (execOp a.eval o).run P w = res at hsound
        cases res with
        | ok nx w' =>
          cases nx <;> simp only [OpPost] at hsound <;> simp only [Oper.upon]
          case value c => exact hnext c w' hsound
          case skip => exact hnext _ w' hsound
          case enter g args =>
            refine hsound.mono ?_
            rintro e w'' ⟨c, rfl, hc⟩
            exact hnext c w'' hc
        | halt x w' => simp [OpPost] at hsound
end
end Go.Sx
