import Derived.Test.Qxb6500275aGreatDoorSp19
import Derived.Test.Qxb6500275aGreatDoorSp11
set_option linter.unusedVariables false
set_option linter.unusedSimpArgs false
set_option maxRecDepth 100000
namespace Go.Proofs.Qxb6500275aGreatDoor
open Go Go.RowKit
structure JS (M : Mod) (nl rs : Nat) (v : VS) (p : PS) (hs : List Nat) : Prop where
  j : JQ M nl rs p hs 0
  pi : PI p
  vi : VI v
  rel : RR v p
  bot : BotR rs v.ctl
  nn : v.ctl ≠ []
section
variable {M : Mod} {nl rs : Nat} {p q : PS} {hs : List Nat} {v v' : VS} {fn : Fn} {params : ByteArray} {pc : Nat} {x : Ins} {last : Bool}
theorem JS.pnn (h : JS M nl rs v p hs) : p.ctl ≠ [] := by
  rcases h.rel with hR | hR
  · obtain ⟨f, r, g, s, h1, h2, h3, h4⟩ := hR.f2.parts h.nn
    rw [h2]; simp
  · obtain ⟨n, ex, f, r, h1, h2, h3, h4, h5, h6⟩ := hR.is
    obtain ⟨f', r', g, s, e1, e2, e3, e4⟩ := h6.parts (by simp)
    rw [e2]; simp
theorem RR.live (h : RR v p) (hd : p.dead = 0) : RL v p := by
  rcases h with h | h
  · exact h
  · obtain ⟨n, ex, f, r, h1, _⟩ := h.is
    omega
theorem RR.dead (h : RR v p) (hd : p.dead ≠ 0) : RD v p := by
  rcases h with h | h
  · exact absurd h.dead hd
  · exact h
theorem skip_none {op : Nat} (h : skipP p op = none) : p.dead = 0 ∨ (p.dead = 1 ∧ (op = 5 ∨ op = 11)) := by
  unfold skipP at h
  rcases iteC h with ⟨e, h⟩ | ⟨e0, h⟩
  · exact .inl e
  rcases iteC h with ⟨_, h⟩ | ⟨_, h⟩
  · simp at h
  rcases iteC h with ⟨e, h⟩ | ⟨_, h⟩
  · rcases iteC h with ⟨_, h⟩ | ⟨h1, h⟩
    · simp at h
    · exact .inr ⟨by omega, .inl e⟩
  rcases iteC h with ⟨e, h⟩ | ⟨_, h⟩
  · rcases iteC h with ⟨h1, h⟩ | ⟨_, h⟩
    · exact .inr ⟨h1, .inr e⟩
    · simp at h
  · simp at h
theorem JQ.dead (hq : JQ M nl rs p hs 0) (h0 : p.dead ≠ 0) (h1 : q.cells = p.cells) (h2 : q.ctl = p.ctl) : JQ M nl rs q hs 0 := by
  have hA : ∀ t n, Att p hs t n → Att q hs t n := fun t n h => by
    rcases h with h | ⟨_, h, _⟩
    · exact .inl (by rw [h1]; exact h)
    · exact absurd h h0
  refine ⟨by rw [h1]; exact hq.len, fun i c hi he hc => ?_, fun g hg => ?_, hA _ _ hq.first⟩
  · rw [h1] at hc
    obtain ⟨n, h3, h4⟩ := hq.cell i c hi he hc
    rw [h1, h2]
    exact ⟨n, h3, h4.mv hA (fun t n h => h) (Mv.same hA (fun g hg => ⟨g, hg, rfl, fun _ => rfl, fun _ h => h⟩) (by omega))⟩
  · rw [h2] at hg
    obtain ⟨h3, h4⟩ := hq.fr g hg
    rw [h1]
    exact ⟨⟨h3.co, h3.ju, h3.ch, fun e => hA _ _ (h3.lp e)⟩, h4⟩
theorem JS.nx (hM : ModOk M) (hF : FnOk fn) (hpa : Vals params) (hnl : nl = params.size + fn.locals.size) (h : JS M nl rs v p hs) (hx : InsOk x) (hv : stepV M fn params pc v x = (v', none)) (hs' : stepP M fn last p x = some q) : Nx M nl rs v' q := by
  have hE := stepV_ctl hM hF hpa h.vi h.nn hx hv
  unfold stepP at hs'
  cases hk : skipP p x.op with
  | some q' =>
    rw [hk] at hs'
    simp at hs'
    subst hs'
    have hd : p.dead ≠ 0 := fun e => by unfold skipP at hk; rw [if_pos e] at hk; simp at hk
    obtain ⟨h1, h2, h3, h4⟩ := (h.rel.dead hd).skip hk hE
    exact ⟨hs, h.j.dead hd h2 h3, .inr h1⟩
  | none =>
    rw [hk] at hs'
    dsimp only at hs'
    have hsk := skip_none hk
    unfold stepV at hv
    rcases iteC hv with ⟨e, hv⟩ | ⟨n1, hv⟩
    · have hR := h.rel.live (by omega)
      simp at hv
      subst hv
      rw [if_neg (by omega), if_neg (by omega), if_neg (by omega), if_neg (by omega), if_neg (by omega), if_neg (by omega)] at hs'
      exact live_nop h.j h.pi hR hx e hs'
    rcases iteC hv with ⟨e, hv⟩ | ⟨n0, hv⟩
    · have hR := h.rel.live (by omega)
      simp at hv
      subst hv
      rw [if_neg (by omega), if_neg (by omega), if_neg (by omega), if_neg (by omega), if_neg (by omega), if_neg (by omega)] at hs'
      exact live_unr h.j h.pi h.nn hR hx e hs'
    rcases iteC hv with ⟨e, hv⟩ | ⟨n2, hv⟩
    · have hR := h.rel.live (by omega)
      rw [if_pos (by omega)] at hs'
      rcases iteC hv with ⟨_, hv⟩ | ⟨_, hv⟩
      · simp at hv
      simp at hv
      subst hv
      exact live_open h.j h.pi hR hx e hs'
    rcases iteC hv with ⟨e, hv⟩ | ⟨n4, hv⟩
    · have hR := h.rel.live (by omega)
      rw [if_pos (by omega)] at hs'
      rcases iteC hv with ⟨hcy, hv⟩ | ⟨_, hv⟩
      · rcases iteC hv with ⟨_, hv⟩ | ⟨_, hv⟩
        · simp at hv
        simp at hv
        subst hv
        exact live_if h.j h.pi h.vi h.nn hR hx e hcy hs'
      · simp at hv
    rw [if_neg (by omega)] at hs'
    rcases iteC hv with ⟨e, hv⟩ | ⟨n5, hv⟩
    · rw [if_pos e] at hs'
      rcases iteC hv with ⟨hst, hv⟩ | ⟨_, hv⟩
      · rcases iteC hv with ⟨_, hv⟩ | ⟨_, hv⟩
        · simp at hv
        rcases iteC hv with ⟨h4, hv⟩ | ⟨_, hv⟩
        · simp at hv
          subst hv
          exact any_else h.j h.pi h.nn h.rel (by omega) hst h4 hs'
        · simp at hv
      · simp at hv
    rw [if_neg n5] at hs'
    rcases iteC hv with ⟨e, hv⟩ | ⟨n11, hv⟩
    · rw [if_pos e] at hs'
      rcases iteC hv with ⟨hst, hv⟩ | ⟨_, hv⟩
      · rcases iteC hv with ⟨_, hv⟩ | ⟨h4, hv⟩
        · simp at hv
        rcases iteC hv with ⟨_, hv⟩ | ⟨h1, hv⟩
        · rcases iteC hv with ⟨_, hv⟩ | ⟨_, hv⟩
          · simp at hv
          · simp at hv
        · cases hsh : shutP p with
          | none => rw [hsh] at hs'; simp at hs'
          | some q' =>
            rw [hsh] at hs'
            dsimp only at hs'
            rcases iteC hs' with ⟨_, hs'⟩ | ⟨_, hs'⟩
            · simp at hs'
            simp at hs'
            subst hs'
            exact any_end h.j h.pi h.nn h.rel (by omega) hst h4 h1 hv hsh
      · simp at hv
    rw [if_neg n11] at hs'
    have hR := h.rel.live (by omega)
    rcases iteC hv with ⟨e, hv⟩ | ⟨n12, hv⟩
    · rw [if_pos (by omega)] at hs'
      rcases iteC hv with ⟨_, hv⟩ | ⟨_, hv⟩
      · simp at hv
      rcases iteC hv with ⟨hcy, hv⟩ | ⟨_, hv⟩
      · simp at hv
        subst hv
        exact live_br h.j h.pi h.vi h.nn hR hx e hcy hs'
      · simp at hv
    rcases iteC hv with ⟨e, hv⟩ | ⟨n13, hv⟩
    · rw [if_pos (by omega)] at hs'
      rcases iteC hv with ⟨hcy, hv⟩ | ⟨_, hv⟩
      · rcases iteC hv with ⟨_, hv⟩ | ⟨_, hv⟩
        · simp at hv
        rcases iteC hv with ⟨hcy2, hv⟩ | ⟨_, hv⟩
        · exact live_brif h.j h.pi h.vi h.nn hR hx e hcy hcy2 hv hs'
        · simp at hv
      · simp at hv
    rw [if_neg (by omega)] at hs'
    rcases iteC hv with ⟨e, hv⟩ | ⟨n14, hv⟩
    · rw [if_pos e] at hs'
      rcases iteC hv with ⟨hcy, hv⟩ | ⟨_, hv⟩
      · rcases iteC hv with ⟨_, hv⟩ | ⟨_, hv⟩
        · simp at hv
        rcases iteC hv with ⟨_, hv⟩ | ⟨_, hv⟩
        · simp at hv
        · exact live_table hF h.j h.pi h.vi h.nn hR hx e hcy hv hs'
      · simp at hv
    rw [if_neg n14] at hs'
    rcases iteC hv with ⟨e, hv⟩ | ⟨n15, hv⟩
    · rw [if_pos e] at hs'
      simp at hs'
      subst hs'
      rcases iteC hv with ⟨hcy, hv⟩ | ⟨_, hv⟩
      · simp only [Prod.mk.injEq, and_true] at hv
        subst hv
        exact live_ret h.j h.pi h.vi h.nn h.bot hR hcy
      · simp at hv
    · rw [if_neg n15] at hs'
      exact live_plain hM hF hpa hnl h.j h.pi h.vi h.nn hR hx (by omega) hv hs'
theorem JS.step (hM : ModOk M) (hF : FnOk fn) (hpa : Vals params) (hnl : nl = params.size + fn.locals.size) (h : JS M nl rs v p hs) (hx : InsOk x) (hv : stepV M fn params pc v x = (v', none)) (hs' : stepP M fn last p x = some q) : ∃ ks, JS M nl rs v' q ks := by
  obtain ⟨ks, h1, h2⟩ := h.nx hM hF hpa hnl hx hv hs'
  have hVK := VI.step hM hF hpa h.vi h.nn pc x hx
  rw [hv] at hVK
  exact ⟨ks, h1, (h.pi.step h.pnn hx hF hs').pi, hVK.vi, h2, h.bot.step h.nn (stepV_ctl hM hF hpa h.vi h.nn hx hv), hVK.nn rfl⟩
/- where the validator says yes -/
theorem tableV_some {v : VS} {pc : Nat} {tabs : List Int} {b : Bool} : ∀ (n i : Nat) {v' : VS} {a : Nat} {c : Int}, tableV v pc tabs b n i = (v', some (a, c)) → c ≠ 0
  | 0, i, v', a, c, h => by rw [tableV] at h; simp at h
  | n + 1, i, v', a, c, h => by
    rw [tableV] at h
    rcases iteC h with ⟨_, h⟩ | ⟨_, h⟩
    · simp at h; omega
    rcases iteC h with ⟨_, h⟩ | ⟨_, h⟩
    · simp at h; omega
    rcases iteC h with ⟨h1, h⟩ | ⟨_, h⟩
    · exact tableV_some n (i + 1) h
    · simp at h; omega
theorem giveV_some {pc : Nat} {r : VR} {a : Nat} {c : Int} (h : giveV pc r = (v', some (a, c))) : c ≠ 0 := by
  unfold giveV at h
  rcases iteC h with ⟨h1, h⟩ | ⟨_, h⟩
  · simp at h; omega
  rcases iteC h with ⟨_, h⟩ | ⟨_, h⟩
  · simp at h
  rcases iteC h with ⟨h1, h⟩ | ⟨_, h⟩
  · simp at h
  · simp at h; omega
theorem stepV_yes {a : Nat} (hv : stepV M fn params pc v x = (v', some (a, 0))) : x.op = 11 ∧ (settledV v).2 = true ∧ ¬ ((settledV v).1.top.op = 4 ∧ (settledV v).1.top.res ≠ 64) ∧ (settledV v).1.ctl.length = 1 ∧ pc + 1 = fn.body.length := by
  unfold stepV at hv
  rcases iteC hv with ⟨e, hv⟩ | ⟨n1, hv⟩
  · simp at hv
  rcases iteC hv with ⟨e, hv⟩ | ⟨n0, hv⟩
  · simp at hv
  rcases iteC hv with ⟨e, hv⟩ | ⟨n2, hv⟩
  · rcases iteC hv with ⟨_, hv⟩ | ⟨_, hv⟩
    · simp at hv
    · simp at hv
  rcases iteC hv with ⟨e, hv⟩ | ⟨n4, hv⟩
  · rcases iteC hv with ⟨hcy, hv⟩ | ⟨_, hv⟩
    · rcases iteC hv with ⟨_, hv⟩ | ⟨_, hv⟩
      · simp at hv
      · simp at hv
    · simp at hv
  rcases iteC hv with ⟨e, hv⟩ | ⟨n5, hv⟩
  · rcases iteC hv with ⟨hst, hv⟩ | ⟨_, hv⟩
    · rcases iteC hv with ⟨_, hv⟩ | ⟨_, hv⟩
      · simp at hv
      rcases iteC hv with ⟨h4, hv⟩ | ⟨_, hv⟩
      · simp at hv
      · simp at hv
    · simp at hv
  rcases iteC hv with ⟨e, hv⟩ | ⟨n11, hv⟩
  · rcases iteC hv with ⟨hst, hv⟩ | ⟨_, hv⟩
    · rcases iteC hv with ⟨_, hv⟩ | ⟨h4, hv⟩
      · simp at hv
      rcases iteC hv with ⟨h1, hv⟩ | ⟨h1, hv⟩
      · rcases iteC hv with ⟨h2, hv⟩ | ⟨_, hv⟩
        · exact ⟨e, hst, h4, h1, h2⟩
        · simp at hv
      · exact absurd rfl (giveV_some hv)
    · simp at hv
  rcases iteC hv with ⟨e, hv⟩ | ⟨n12, hv⟩
  · rcases iteC hv with ⟨_, hv⟩ | ⟨_, hv⟩
    · simp at hv
    rcases iteC hv with ⟨hcy, hv⟩ | ⟨_, hv⟩
    · simp at hv
    · simp at hv
  rcases iteC hv with ⟨e, hv⟩ | ⟨n13, hv⟩
  · rcases iteC hv with ⟨hcy, hv⟩ | ⟨_, hv⟩
    · rcases iteC hv with ⟨_, hv⟩ | ⟨_, hv⟩
      · simp at hv
      rcases iteC hv with ⟨hcy2, hv⟩ | ⟨_, hv⟩
      · exact absurd rfl (giveV_some hv)
      · simp at hv
    · simp at hv
  rcases iteC hv with ⟨e, hv⟩ | ⟨n14, hv⟩
  · rcases iteC hv with ⟨hcy, hv⟩ | ⟨_, hv⟩
    · rcases iteC hv with ⟨_, hv⟩ | ⟨_, hv⟩
      · simp at hv
      rcases iteC hv with ⟨_, hv⟩ | ⟨_, hv⟩
      · simp at hv
      · exact absurd rfl (tableV_some _ _ hv)
    · simp at hv
  rcases iteC hv with ⟨e, hv⟩ | ⟨n15, hv⟩
  · rcases iteC hv with ⟨hcy, hv⟩ | ⟨_, hv⟩
    · simp at hv
    · simp at hv
  · exact absurd rfl (giveV_some hv)
/- THE HEIGHTS OF A FUNCTION'S CELLS -/
structure Hts (M : Mod) (nl rs : Nat) (cells : List Ins) (ks : List Nat) : Prop where
  len : ks.length = cells.length
  cj : CellsJ M nl rs (Ato cells ks) cells ks [] 0
  first : Ato cells ks 1 0
  z : cells[0]? = some Ins.zero
theorem body_heights (hM : ModOk M) (hF : FnOk fn) (hpa : Vals params) (hnl : nl = params.size + fn.locals.size) : ∀ (l : List Ins) (pc i : Nat) {v : VS} {p q : PS} {hs : List Nat}, JS M nl rs v p hs → (∀ x, x ∈ l → InsOk x) → pc + l.length = fn.body.length → (bodyVL M fn params l pc v).2.2 = 0 → flatL M fn l i p = .ok q → ∃ ks, Hts M nl rs q.cells ks
  | [], pc, i, v, p, q, hs, h, hl, hn, hv, hp => by simp [bodyVL] at hv
  | x :: xs, pc, i, v, p, q, hs, h, hl, hn, hv, hp => by
    rw [bodyVL] at hv
    rw [flatL] at hp
    have hx := hl x (by simp)
    simp at hn
    cases hsp : stepP M fn (decide (xs.length = 0)) p x with
    | none => rw [hsp] at hp; simp at hp
    | some p' =>
      rw [hsp] at hp
      dsimp only at hp
      rcases hsv : stepV M fn params pc v x with ⟨v', o⟩
      rw [hsv] at hv
      cases o with
      | none =>
        dsimp only at hv
        obtain ⟨ks, h1⟩ := h.step hM hF hpa hnl hx hsv hsp
        exact body_heights hM hF hpa hnl xs (pc + 1) (i + 1) h1 (fun y hy => hl y (by simp [hy])) (by omega) hv hp
      | some a =>
        obtain ⟨a, c⟩ := a
        dsimp only at hv
        subst hv
        obtain ⟨h1, h2, h3, h4, h5⟩ := stepV_yes hsv
        have hxs : xs = [] := List.length_eq_zero_iff.1 (by omega)
        subst hxs
        unfold stepP at hsp
        cases hk : skipP p x.op with
        | some q' =>
          exfalso
          have hd : 2 ≤ p.dead := by
            unfold skipP at hk
            rcases iteC hk with ⟨_, hk⟩ | ⟨_, hk⟩
            · simp at hk
            rw [if_neg (by omega), if_neg (by omega), if_pos h1] at hk
            rcases iteC hk with ⟨_, hk⟩ | ⟨_, hk⟩
            · simp at hk
            omega
          obtain ⟨n, ex, f, r, e1, e2, e3, _⟩ := (h.rel.dead (by omega)).is
          rw [settledV_ctl, e2] at h4
          simp at h4
          omega
        | none =>
          rw [hk] at hsp
          dsimp only at hsp
          have hsk := skip_none hk
          rw [if_neg (by omega), if_neg (by omega), if_pos h1] at hsp
          cases hsh : shutP p with
          | none => rw [hsh] at hsp; simp at hsp
          | some q' =>
            rw [hsh] at hsp
            dsimp only at hsp
            rcases iteC hsp with ⟨_, hsp⟩ | ⟨_, hsp⟩
            · simp at hsp
            simp at hsp
            subst hsp
            obtain ⟨ks, k1, k2, k3, k4⟩ := last_end h.j h.pi h.nn h.bot h.rel (by omega) h2 h3 h4 hsh
            rw [flatL, k4] at hp
            simp at hp
            subst hp
            exact ⟨ks, k1, k2, k3, (h.pi.shut h.pnn hsh).z⟩
theorem heights (hM : ModOk M) (hF : FnOk fn) {t : Ty} (hT : TyOk t) (ht : M.typeAt fn.ty = some t) (hv : (bodyV M fn).2.2 = 0) (hp : flatP M fn t.q.size = .ok q) : ∃ ks, Hts M (t.p.size + fn.locals.size) t.q.size q.cells ks := by
  unfold bodyV at hv
  rw [ht] at hv
  dsimp only at hv
  unfold flatP at hp
  have hq1 := hT.nq
  have hfl := firstV_len hT
  have hres : resOk (firstV t.q) := by
    unfold firstV
    by_cases e : t.q.size = 0
    · rw [if_pos e]; exact .inl rfl
    · rw [if_neg e]; exact .inr (hT.q 0 (by omega))
  refine body_heights (v := ⟨[], [⟨2, firstV t.q, 0, false⟩]⟩) (hs := [0]) hM hF hT.p rfl fn.body 0 0 ⟨⟨rfl, fun i c hi _ hc => ?_, fun g hg => ?_, .inr ⟨rfl, rfl, rfl⟩⟩, PI.first _ hq1, VI.start hres, .inl ⟨rfl, rfl, ⟨⟨rfl, hfl.symm, ⟨fun e => by simp at e, fun e => by simp at e⟩, ⟨fun e => by simp at e, fun e => absurd rfl e⟩⟩, trivial⟩, fun f hf => ?_⟩, fun f hf => ?_, by simp⟩ hF.body (by omega) hv hp
  · have := (List.getElem?_eq_some_iff.1 hc).1
    simp at this
    omega
  · simp at hg
    subst hg
    exact ⟨⟨fun e => absurd rfl e, fun e => absurd rfl e, fun i hi => by simp at hi, fun e => by simp at e⟩, fun _ => rfl⟩
  · simp at hf
    subst hf
    rfl
  · simp at hf
    subst hf
    exact hfl
end
end Go.Proofs.Qxb6500275aGreatDoor
