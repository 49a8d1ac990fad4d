import Derived.Test.Qxb6500275aGreatDoorSp20
import Derived.Test.Qxb6500275aGreatDoorLw1
set_option linter.unusedVariables false
set_option linter.unusedSimpArgs false
set_option maxRecDepth 100000
namespace Go.Proofs.Qxb6500275aGreatDoor
open Go Go.RowKit
/- A BODY, validated and laid: the two states at every place -/
def opAt (fn : Fn) (pc : Nat) : Ins := fn.body.getD pc Ins.zero
def vsAt (M : Mod) (fn : Fn) (t : Ty) : Nat → VS
  | 0 => ⟨[], [⟨2, firstV t.q, 0, false⟩]⟩
  | k + 1 => (stepV M fn t.p k (vsAt M fn t k) (opAt fn k)).1
def psAt (M : Mod) (fn : Fn) (t : Ty) : Nat → PS
  | 0 => ⟨[⟨0, 0, 0⟩], [⟨11, 0, t.q.size, 0, [], 0, 0⟩], 0, 0⟩
  | k + 1 => (stepP M fn (decide (k + 1 = fn.body.length)) (psAt M fn t k) (opAt fn k)).getD (psAt M fn t k)
/- where the blocks' bodies begin that stand open at pc, the innermost first; the function's own: 0 -/
def osAt (fn : Fn) : Nat → List Nat
  | 0 => [0]
  | k + 1 => if (opAt fn k).op = 2 ∨ (opAt fn k).op = 3 ∨ (opAt fn k).op = 4 then (k + 1) :: osAt fn k else if (opAt fn k).op = 11 then (osAt fn k).tail else osAt fn k
structure TwAt (M : Mod) (fn : Fn) (t : Ty) (pc : Nat) : Prop where
  v : pc + 1 < fn.body.length → stepV M fn t.p pc (vsAt M fn t pc) (opAt fn pc) = (vsAt M fn t (pc + 1), none)
  vl : pc + 1 = fn.body.length → ∃ v' a, stepV M fn t.p pc (vsAt M fn t pc) (opAt fn pc) = (v', some (a, 0))
  p : stepP M fn (decide (pc + 1 = fn.body.length)) (psAt M fn t pc) (opAt fn pc) = some (psAt M fn t (pc + 1))
  js : ∃ hs, JS M (t.p.size + fn.locals.size) t.q.size (vsAt M fn t pc) (psAt M fn t pc) hs
  ok : InsOk (opAt fn pc)
theorem tw_go {M : Mod} {fn : Fn} {t : Ty} {q : PS} (hM : ModOk M) (hF : FnOk fn) (hT : TyOk t) : ∀ (l : List Ins) (pc : Nat), fn.body.drop pc = l → (∃ hs, JS M (t.p.size + fn.locals.size) t.q.size (vsAt M fn t pc) (psAt M fn t pc) hs) →
    (bodyVL M fn t.p l pc (vsAt M fn t pc)).2.2 = 0 → flatL M fn l pc (psAt M fn t pc) = .ok q → (∀ j, pc ≤ j → j < fn.body.length → TwAt M fn t j) ∧ psAt M fn t fn.body.length = q ∧ q.ctl = []
  | [], pc, hl, hj, hv, hp => by simp [bodyVL] at hv
  | x :: xs, pc, hl, ⟨hs, hj⟩, hv, hp => by
    have hlen : pc < fn.body.length := by
      rcases Nat.lt_or_ge pc fn.body.length with h | h
      · exact h
      · rw [List.drop_eq_nil_of_le h] at hl; simp at hl
    have hget : fn.body[pc]? = some x := by
      have : (fn.body.drop pc)[0]? = some x := by rw [hl]; rfl
      rw [List.getElem?_drop] at this
      simpa using this
    have hx : opAt fn pc = x := by unfold opAt; rw [List.getD_eq_getElem?_getD, hget]; rfl
    have hxs : fn.body.drop (pc + 1) = xs := by
      rw [← List.drop_drop, hl]; rfl
    have hn : xs.length = fn.body.length - (pc + 1) := by rw [← hxs, List.length_drop]
    have hok : InsOk x := hF.body x (List.mem_of_getElem? hget)
    rw [bodyVL] at hv
    rw [flatL] at hp
    have hd : decide (xs.length = 0) = decide (pc + 1 = fn.body.length) := decide_eq_decide.2 ⟨fun h => by omega, fun h => by omega⟩
    rw [hd] at hp
    cases hsp : stepP M fn (decide (pc + 1 = fn.body.length)) (psAt M fn t pc) x with
    | none => rw [hsp] at hp; simp at hp
    | some p' =>
      rw [hsp] at hp
      dsimp only at hp
      have hps : psAt M fn t (pc + 1) = p' := by rw [psAt, hx, hsp]; rfl
      rcases hsv : stepV M fn t.p pc (vsAt M fn t pc) x with ⟨v', o⟩
      have hvs : vsAt M fn t (pc + 1) = v' := by rw [vsAt, hx, hsv]
      rw [hsv] at hv
      cases o with
      | none =>
        dsimp only at hv
        have hj2 := hj.step hM hF hT.p rfl hok hsv hsp
        rw [← hvs, ← hps] at hj2
        rw [← hvs] at hv
        rw [← hps] at hp
        obtain ⟨h1, h2⟩ := tw_go hM hF hT xs (pc + 1) hxs hj2 hv hp
        refine ⟨fun j hj1 hj2 => ?_, h2⟩
        by_cases e : j = pc
        · subst e
          refine ⟨fun _ => by rw [hx, hsv, hvs], fun e => ?_, by rw [hx, hsp, hps], ⟨hs, hj⟩, by rw [hx]; exact hok⟩
          have : xs = [] := List.length_eq_zero_iff.1 (by omega)
          subst this
          simp [bodyVL] at hv
        · exact h1 j (by omega) hj2
      | some a =>
        obtain ⟨a, c⟩ := a
        dsimp only at hv
        subst hv
        obtain ⟨h1, h2, h3, h4, h5⟩ := stepV_yes hsv
        have hnil : xs = [] := List.length_eq_zero_iff.1 (by omega)
        subst hnil
        rw [flatL] at hp
        rcases iteC hp with ⟨hc, hp⟩ | ⟨_, hp⟩
        · simp at hp
          subst hp
          refine ⟨fun j hj1 hj2 => ?_, by rw [← h5]; exact hps, List.length_eq_zero_iff.1 hc⟩
          have e : j = pc := by omega
          subst e
          exact ⟨fun e => absurd e (by omega), fun _ => ⟨v', a, by rw [hx, hsv]⟩, by rw [hx, hsp, hps], ⟨hs, hj⟩, by rw [hx]; exact hok⟩
        · simp at hp
structure Tw (M : Mod) (fn : Fn) (t : Ty) (cells : List Ins) : Prop where
  hM : ModOk M
  hF : FnOk fn
  hT : TyOk t
  at_ : ∀ j, j < fn.body.length → TwAt M fn t j
  fin : (psAt M fn t fn.body.length).cells = cells
  nil : (psAt M fn t fn.body.length).ctl = []
theorem tw_of {M : Mod} {fn : Fn} {t : Ty} {q : PS} (hM : ModOk M) (hF : FnOk fn) (hT : TyOk t) (ht : M.typeAt fn.ty = some t) (hv : (bodyV M fn).2.2 = 0) (hp : flatP M fn t.q.size = .ok q) : Tw M fn t q.cells := by
  unfold bodyV at hv
  rw [ht] at hv
  dsimp only at hv
  unfold flatP at hp
  have hq1 := hT.nq
  have hfl := firstV_len hT
  have hres : resOk (firstV t.q) := by
    unfold firstV
    by_cases e : t.q.size = 0
    · rw [if_pos e]; exact .inl rfl
    · rw [if_neg e]; exact .inr (hT.q 0 (by omega))
  have hj : JS M (t.p.size + fn.locals.size) t.q.size (vsAt M fn t 0) (psAt M fn t 0) [0] := by
    refine ⟨⟨rfl, fun i c hi _ hc => ?_, fun g hg => ?_, .inr ⟨rfl, rfl, rfl⟩⟩, PI.first _ hq1, VI.start hres, .inl ⟨rfl, rfl, ⟨⟨rfl, hfl.symm, ⟨fun e => by simp at e, fun e => by simp at e⟩, ⟨fun e => by simp at e, fun e => absurd rfl e⟩⟩, trivial⟩, fun f hf => ?_⟩, fun f hf => ?_, by simp [vsAt]⟩
    · have := (List.getElem?_eq_some_iff.1 hc).1
      simp [psAt] at this
      omega
    · simp [psAt] at hg
      subst hg
      exact ⟨⟨fun e => absurd rfl e, fun e => absurd rfl e, fun i hi => by simp at hi, fun e => by simp at e⟩, fun _ => rfl⟩
    · simp [vsAt] at hf
      subst hf
      rfl
    · simp [vsAt] at hf
      subst hf
      exact hfl
  obtain ⟨h1, h2, h3⟩ := tw_go hM hF hT fn.body 0 rfl ⟨_, hj⟩ hv hp
  exact ⟨hM, hF, hT, fun j hj => h1 j (by omega) hj, by rw [h2], by rw [h2]; exact h3⟩
section
variable {M : Mod} {fn : Fn} {t : Ty} {cells : List Ins}
/- a place's state, opened -/
theorem Tw.parts (h : Tw M fn t cells) {pc : Nat} (hp : pc < fn.body.length) : ∃ f r, (vsAt M fn t pc).ctl = f :: r ∧ f.floor ≤ (vsAt M fn t pc).ops.length ∧ Fl f.floor r := by
  obtain ⟨hs, hj⟩ := (h.at_ pc hp).js
  cases hc : (vsAt M fn t pc).ctl with
  | nil => exact absurd hc hj.nn
  | cons f r =>
    have := hj.vi.fl
    rw [hc] at this
    exact ⟨f, r, rfl, this.1, this.2⟩
theorem Tw.fine (h : Tw M fn t cells) {pc : Nat} (hp : pc + 1 < fn.body.length) {f : VF} {r : List VF} (hc : (vsAt M fn t pc).ctl = f :: r) (hf : f.floor ≤ (vsAt M fn t pc).ops.length) : StE (opAt fn pc) (vsAt M fn t pc) (vsAt M fn t (pc + 1)) f r := stepV_fine hc hf ((h.at_ pc (by omega)).v hp)
theorem Tw.low (h : Tw M fn t cells) {pc : Nat} (hp : pc + 1 < fn.body.length) {f : VF} {r : List VF} (hc : (vsAt M fn t pc).ctl = f :: r) (hf : f.floor ≤ (vsAt M fn t pc).ops.length) {n : Nat} (hn : n ≤ f.floor) : n ≤ (vsAt M fn t (pc + 1)).ops.length ∧ bot n (vsAt M fn t (pc + 1)).ops = bot n (vsAt M fn t pc).ops := by
  have hS := h.fine hp hc hf
  by_cases e : (opAt fn pc).op = 11
  · obtain ⟨_, _, _, h4⟩ := hS.en e
    have hl := bot_len hf
    have hb := bot_bot hn hf
    rw [h4]
    by_cases e64 : f.res = 64
    · rw [if_pos e64, List.nil_append, hl]
      exact ⟨hn, hb⟩
    · rw [if_neg e64, List.singleton_append]
      exact ⟨by rw [List.length_cons, hl]; omega, (bot_cons (by rw [hl]; exact hn)).trans hb⟩
  · have h1 := hS.le e
    refine ⟨by omega, ?_⟩
    rw [← bot_bot hn h1, hS.b e, bot_bot hn hf]
/- WHAT STANDS OPEN -/
structure Op1 (M : Mod) (fn : Fn) (t : Ty) (pc l s : Nat) : Prop where
  le : s ≤ pc
  os : (osAt fn pc).drop l = osAt fn s
  fr : ∃ g f r, (vsAt M fn t s).ctl = g :: r ∧ (vsAt M fn t pc).ctl.drop l = f :: r ∧ f.floor = g.floor ∧ f.res = g.res ∧ (f.op = g.op ∨ g.op = 4 ∧ f.op = 5) ∧ g.floor = (vsAt M fn t s).ops.length ∧ g.floor ≤ (vsAt M fn t pc).ops.length ∧ (vsAt M fn t s).ops = bot g.floor (vsAt M fn t pc).ops
theorem Tw.op1 (h : Tw M fn t cells) : ∀ (pc : Nat), pc < fn.body.length → (osAt fn pc).length = (vsAt M fn t pc).ctl.length ∧ ∀ l s, (osAt fn pc)[l]? = some s → Op1 M fn t pc l s
  | 0, hp => by
    refine ⟨rfl, fun l s hs => ?_⟩
    cases l with
    | zero =>
      simp [osAt] at hs
      subst hs
      exact ⟨Nat.le_refl _, rfl, _, _, _, rfl, rfl, rfl, rfl, .inl rfl, rfl, Nat.le_refl _, rfl⟩
    | succ l => simp [osAt] at hs
  | pc + 1, hp => by
    obtain ⟨f0, r0, hc, hf, hfl⟩ := h.parts (pc := pc) (by omega)
    obtain ⟨hlen, ih⟩ := h.op1 pc (by omega)
    have hS := h.fine hp hc hf
    -- an older one, at k, now at l
    have old : ∀ k l s, (osAt fn pc)[k]? = some s → (osAt fn (pc + 1)).drop l = (osAt fn pc).drop k → (∀ f r, (vsAt M fn t pc).ctl.drop k = f :: r → ∃ f', (vsAt M fn t (pc + 1)).ctl.drop l = f' :: r ∧ f'.floor = f.floor ∧ f'.res = f.res ∧ (f'.op = f.op ∨ f.op = 4 ∧ f'.op = 5)) → Op1 M fn t (pc + 1) l s := by
      intro k l s hs hos hfr
      obtain ⟨h1, h2, g, f, r, g1, g2, g3, g4, g5, g6, g7, g8⟩ := ih k s hs
      obtain ⟨f', k1, k2, k3, k4⟩ := hfr f r g2
      have hle : g.floor ≤ f0.floor := by
        have : (vsAt M fn t pc).ctl[k]? = some f := by
          have : ((vsAt M fn t pc).ctl.drop k)[0]? = some f := by rw [g2]; rfl
          rw [List.getElem?_drop] at this
          simpa using this
        rw [hc] at this
        cases k with
        | zero => simp at this; subst this; omega
        | succ k =>
          have := hfl.at_ (l := k) (by simpa using this)
          omega
      obtain ⟨l1, l2⟩ := h.low hp hc hf hle
      refine ⟨by omega, by rw [hos, h2], g, f', r, g1, k1, by rw [k2, g3], by rw [k3, g4], ?_, g6, l1, by rw [l2, g8]⟩
      rcases k4 with k4 | ⟨k4, k5⟩
      · rw [k4]; exact g5
      · rcases g5 with g5 | ⟨_, g5⟩
        · exact .inr ⟨by omega, k5⟩
        · omega
    by_cases ho : (opAt fn pc).op = 2 ∨ (opAt fn pc).op = 3 ∨ (opAt fn pc).op = 4
    · have h1 := hS.opn ho
      have hos : osAt fn (pc + 1) = (pc + 1) :: osAt fn pc := by rw [osAt, if_pos ho]
      refine ⟨by rw [hos, h1, List.length_cons, hlen, hc]; rfl, fun l s hs => ?_⟩
      rw [hos] at hs
      cases l with
      | zero =>
        simp at hs
        subst hs
        exact ⟨Nat.le_refl _, rfl, _, _, _, h1, h1, rfl, rfl, .inl rfl, rfl, Nat.le_refl _, (bot_self _).symm⟩
      | succ l =>
        refine old l (l + 1) s (by simpa using hs) (by rw [hos]; rfl) (fun f r hfr => ⟨f, ?_, rfl, rfl, .inl rfl⟩)
        rw [h1]
        rw [hc] at hfr
        exact hfr
    by_cases h5 : (opAt fn pc).op = 5
    · obtain ⟨k1, k2, k3, k4⟩ := hS.tu h5
      have hos : osAt fn (pc + 1) = osAt fn pc := by rw [osAt, if_neg ho, if_neg (by omega)]
      refine ⟨by rw [hos, k3, hlen, hc]; rfl, fun l s hs => ?_⟩
      rw [hos] at hs
      refine old l l s hs (by rw [hos]) (fun f r hfr => ?_)
      rw [k3]
      rw [hc] at hfr
      cases l with
      | zero =>
        simp at hfr
        obtain ⟨rfl, rfl⟩ := hfr
        exact ⟨_, rfl, rfl, rfl, .inr ⟨k1, rfl⟩⟩
      | succ l => exact ⟨f, hfr, rfl, rfl, .inl rfl⟩
    by_cases h11 : (opAt fn pc).op = 11
    · obtain ⟨k1, k2, k3, k4⟩ := hS.en h11
      have hos : osAt fn (pc + 1) = (osAt fn pc).tail := by rw [osAt, if_neg ho, if_pos h11]
      refine ⟨by rw [hos, k2, List.length_tail, hlen, hc]; rfl, fun l s hs => ?_⟩
      rw [hos] at hs
      refine old (l + 1) l s (by rw [List.getElem?_tail] at hs; exact hs) (by rw [hos, List.drop_tail]) (fun f r hfr => ⟨f, ?_, rfl, rfl, .inl rfl⟩)
      rw [k2]
      rw [hc] at hfr
      exact hfr
    · have hos : osAt fn (pc + 1) = osAt fn pc := by rw [osAt, if_neg ho, if_neg h11]
      have hno := hS.no (by omega)
      refine ⟨by rcases hno with e | e <;> rw [hos, e, hlen, hc] <;> rfl, fun l s hs => ?_⟩
      rw [hos] at hs
      refine old l l s hs (by rw [hos]) (fun f r hfr => ?_)
      rw [hc] at hfr
      rcases hno with e | e
      · exact ⟨f, by rw [e]; exact hfr, rfl, rfl, .inl rfl⟩
      · rw [e]
        cases l with
        | zero =>
          simp at hfr
          obtain ⟨rfl, rfl⟩ := hfr
          exact ⟨_, rfl, rfl, rfl, .inl rfl⟩
        | succ l => exact ⟨f, hfr, rfl, rfl, .inl rfl⟩
end
end Go.Proofs.Qxb6500275aGreatDoor
