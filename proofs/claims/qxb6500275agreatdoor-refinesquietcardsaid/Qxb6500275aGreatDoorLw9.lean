import Derived.Test.Qxb6500275aGreatDoorLw2
set_option linter.unusedVariables false
set_option linter.unusedSimpArgs false
set_option maxRecDepth 100000
namespace Go.Proofs.Qxb6500275aGreatDoor
open Go Go.RowKit
/- WHAT IS VALID IS COMPILED -/
theorem settled_h {v : VS} {f : VF} {r : List VF} (hc : v.ctl = f :: r) (hf : f.floor ≤ v.ops.length) (hd : f.dead = false) (hst : (settledV v).2 = true) : v.ops.length = f.floor + gLen f.res := by
  have hlen := settled_len hst
  rw [VS.top_of hc] at hlen
  unfold settledV at hst hlen
  rw [VS.top_of hc] at hst hlen
  by_cases hcy : (carryV v f.res).2 = true
  · rw [if_pos hcy] at hlen
    dsimp only at hlen
    rcases carry_live hc hf hd hcy with ⟨e, e2⟩ | ⟨e, e1, e2⟩
    · rw [e2] at hlen; rw [e, gLen_64]; omega
    · rw [e2] at hlen
      simp at hlen
      rw [gLen_ne e]
      omega
  · rw [if_neg hcy] at hst
    simp at hst
theorem tableV_rng {v : VS} {pc : Nat} {tabs : List Int} {b : Bool} : ∀ (n i : Nat) {v' : VS}, tableV v pc tabs b n i = (v', none) → ∀ k, k < n → tabs.getD (i + k) 0 < (v.ctl.length : Int)
  | 0, i, v', h, k, hk => by omega
  | n + 1, i, v', h, k, hk => by
    rw [tableV] at h
    rcases iteC h with ⟨_, h⟩ | ⟨h1, h⟩
    · simp at h
    rcases iteC h with ⟨_, h⟩ | ⟨_, h⟩
    · simp at h
    rcases iteC h with ⟨_, h⟩ | ⟨_, h⟩
    · cases k with
      | zero => rw [Nat.add_zero]; omega
      | succ k =>
        have := tableV_rng n (i + 1) h k (by omega)
        rw [show i + (k + 1) = i + 1 + k by omega]
        exact this
    · simp at h
theorem rowsP_some : ∀ (ls : List Int) {p : PS}, (∀ l, l ∈ ls → 0 ≤ l ∧ l < (p.ctl.length : Int)) → ∃ q, rowsP p ls = some q
  | [], p, h => ⟨p, rfl⟩
  | l :: ls, p, h => by
    obtain ⟨h1, h2⟩ := h l (by simp)
    rw [rowsP, if_neg (by omega)]
    refine rowsP_some ls (fun l' hl' => ?_)
    have hlen : (branchP p 225 l.toNat).ctl.length = p.ctl.length := by
      unfold branchP
      dsimp only
      split <;> simp
    rw [hlen]
    exact h l' (by simp [hl'])
section
variable {M : Mod} {fn : Fn} {nl rs : Nat} {v v' : VS} {p : PS} {hs : List Nat} {params : ByteArray} {pc : Nat} {x : Ins} {o : Option (Nat × Int)} {last : Bool}
theorem effect_some {h : giveV pc (plainV M params fn.locals v x) = (v', none)} (hx : InsOk x) (ho : ¬ (x.op ≤ 5 ∨ 11 ≤ x.op ∧ x.op ≤ 15)) : ∃ a b, effectP M x = some (a, b) := by
  obtain ⟨h0, _, _⟩ := give_live h
  have hop := hx.op
  unfold opOk at hop
  unfold plainV at h0
  unfold effectP
  by_cases c16 : x.op = 16
  · rw [if_pos (.inl c16)] at h0
    rw [if_neg (by omega), if_neg (by omega), if_neg (by omega), if_neg (by omega), if_neg (by omega), if_pos c16]
    unfold callV at h0
    rw [if_pos c16] at h0
    cases ht : M.typeOf x.x with
    | none => rw [ht] at h0; simp at h0
    | some t => exact ⟨_, _, rfl⟩
  by_cases c17 : x.op = 17
  · rw [if_pos (.inr c17)] at h0
    rw [if_neg (by omega), if_neg (by omega), if_neg (by omega), if_neg (by omega), if_neg (by omega), if_neg (by omega), if_pos c17]
    unfold callV at h0
    rw [if_neg c16] at h0
    by_cases htm : M.tabMin < 0
    · rw [if_pos htm] at h0; simp at h0
    rw [if_neg htm] at h0
    cases ht : M.types[x.x.toNat]? with
    | none => rw [ht] at h0; simp at h0
    | some t => exact ⟨_, _, rfl⟩
  by_cases cz : (numSig x.op).1 = 0
  · by_cases c69 : 69 ≤ x.op
    · exfalso
      rw [if_neg (by omega), if_neg (by omega), if_neg (by omega), if_neg (by omega), if_neg (by omega), if_neg (by omega), if_neg (by omega), if_pos cz] at h0
      simp at h0
    · repeat' split
      all_goals first | exact ⟨_, _, rfl⟩ | omega
  · repeat' split
    all_goals first | exact ⟨_, _, rfl⟩ | omega
set_option maxHeartbeats 2000000 in
theorem stepP_some (hM : ModOk M) (hF : FnOk fn) (hp : Vals params) (hJ : JS M nl rs v p hs) (hx : InsOk x) (hlast : last = decide (pc + 1 = fn.body.length)) (ho : o = none ∨ ∃ a, o = some (a, 0)) (h : stepV M fn params pc v x = (v', o)) : ∃ q, stepP M fn last p x = some q := by
  have hxr := hx.x
  unfold u32R at hxr
  unfold stepP
  cases hk : skipP p x.op with
  | some q => exact ⟨q, rfl⟩
  | none =>
  dsimp only
  have hsk := skip_none hk
  have no : ∀ {a : Nat} {e : Int} {w : VS}, e ≠ 0 → (w, some (a, e)) = (v', o) → False := fun he heq => by
    have : o = some (_, _) := (congrArg Prod.snd heq).symm
    rcases ho with ho | ⟨a, ho⟩
    · rw [ho] at this; simp at this
    · rw [ho] at this
      simp at this
      exact he this.2.symm
  have hlive : p.dead = 0 → RL v p := fun hd => hJ.rel.live hd
  unfold stepV at h
  by_cases o1 : x.op = 1
  · rw [if_neg (by omega), if_neg (by omega), if_neg (by omega), if_neg (by omega), if_neg (by omega), if_neg (by omega)]
    have hR := hlive (by omega)
    obtain ⟨f, r, g, s, hP, hdd, _⟩ := hR.parts hJ.vi hJ.nn
    have htop : p.top = g := by unfold PS.top; rw [hP.pc]; rfl
    unfold plainP effectP
    rw [if_pos (.inr o1)]
    dsimp only
    have h1 := hR.h
    have h2 := hP.fl
    have h3 := hP.fm.fl
    have h4 := hJ.pi.h
    rw [if_neg (by rw [htop]; omega)]
    exact ⟨_, rfl⟩
  rw [if_neg o1] at h
  by_cases o0 : x.op = 0
  · rw [if_neg (by omega), if_neg (by omega), if_neg (by omega), if_neg (by omega), if_neg (by omega), if_neg (by omega)]
    have hR := hlive (by omega)
    obtain ⟨f, r, g, s, hP, hdd, _⟩ := hR.parts hJ.vi hJ.nn
    have htop : p.top = g := by unfold PS.top; rw [hP.pc]; rfl
    unfold plainP effectP
    rw [if_pos (.inl o0)]
    dsimp only
    have h1 := hR.h
    have h2 := hP.fl
    have h3 := hP.fm.fl
    have h4 := hJ.pi.h
    rw [if_neg (by rw [htop]; omega)]
    exact ⟨_, rfl⟩
  rw [if_neg o0] at h
  by_cases o2 : x.op = 2 ∨ x.op = 3
  · rw [if_pos o2] at h
    rw [if_pos (by omega)]
    have hR := hlive (by omega)
    rcases iteC h with ⟨_, h⟩ | ⟨hl, h⟩
    · exact (no (by decide) h).elim
    have := hR.f2.len
    unfold openP
    rw [if_neg (by omega), if_neg (by omega)]
    exact ⟨_, rfl⟩
  rw [if_neg o2] at h
  by_cases o4 : x.op = 4
  · rw [if_pos o4] at h
    rw [if_pos (by omega)]
    have hR := hlive (by omega)
    obtain ⟨f, r, g, s, hP, hdd, _⟩ := hR.parts hJ.vi hJ.nn
    have htop : p.top = g := by unfold PS.top; rw [hP.pc]; rfl
    rcases iteC h with ⟨hcy, h⟩ | ⟨_, h⟩
    · rcases iteC h with ⟨_, h⟩ | ⟨hl, h⟩
      · exact (no (by decide) h).elim
      rw [carryV_ctl] at hl
      have h5 := hR.f2.len
      rcases carry_live hP.vc hP.fl hdd hcy with ⟨e, _⟩ | ⟨_, h6, _⟩
      · omega
      have h1 := hR.h
      have h3 := hP.fm.fl
      unfold openP
      rw [if_neg (by omega), if_pos o4, if_neg (by rw [htop]; omega)]
      exact ⟨_, rfl⟩
    · exact (no (by decide) h).elim
  rw [if_neg o4] at h
  by_cases o5 : x.op = 5
  · rw [if_pos o5] at h
    rw [if_neg (by omega), if_pos o5]
    obtain ⟨f, r, g, s, hT⟩ := hJ.rel.top hJ.nn (by omega)
    have htop : p.top = g := by unfold PS.top; rw [hT.pc]; rfl
    rcases iteC h with ⟨hst, h⟩ | ⟨_, h⟩
    · rcases iteC h with ⟨_, h⟩ | ⟨hl, h⟩
      · exact (no (by decide) h).elim
      rcases iteC h with ⟨h4, h⟩ | ⟨_, h⟩
      · have hv4 : f.op = 4 := by
          have : (settledV v).1.top = f := VS.top_of ((settledV_ctl v).trans hT.vc)
          rw [← this]; exact h4
        unfold turnP
        rw [htop, if_neg (fun hd => ?_), if_neg (hT.fm.co.1 hv4)]
        · split
          · exact ⟨_, rfl⟩
          · exact ⟨_, rfl⟩
        · have hR := hlive hd.1
          have hlen := settled_len hst
          have hfl := hJ.vi.fl
          rw [hT.vc] at hfl
          have hdd := hR.nd f (by rw [hT.vc]; simp)
          have hh := settled_h hT.vc hfl.1 hdd hst
          have h1 := hR.h
          have h2 := hT.fm.fl
          have h3 := hT.fm.ar2
          exact hd.2 (by omega)
      · exact (no (by decide) h).elim
    · exact (no (by decide) h).elim
  rw [if_neg o5] at h
  by_cases o11 : x.op = 11
  · rw [if_pos o11] at h
    rw [if_neg (by omega), if_neg (by omega), if_pos o11]
    obtain ⟨f, r, g, s, hT⟩ := hJ.rel.top hJ.nn (by omega)
    have htop : p.top = g := by unfold PS.top; rw [hT.pc]; rfl
    have hgI := hJ.pi.g g (by rw [hT.pc]; simp)
    have har := hT.fm.ar2
    have hflo := hT.fm.fl
    rcases iteC h with ⟨hst, h⟩ | ⟨_, h⟩
    · have hstop : (settledV v).1.top = f := VS.top_of ((settledV_ctl v).trans hT.vc)
      have hlen := settled_len hst
      rw [VS.top_of hT.vc] at hlen
      rw [hstop] at h
      rcases iteC h with ⟨_, h⟩ | ⟨h4, h⟩
      · exact (no (by decide) h).elim
      have hfl := hJ.vi.fl
      rw [hT.vc] at hfl
      have h10 : g.floor + g.arity ≤ 10 ∧ (s = [] → last = true) := by
        rcases iteC h with ⟨h1, h⟩ | ⟨h1, h⟩
        · have hr : r = [] := by
            rw [settledV_ctl, hT.vc] at h1
            simpa using h1
          have hb := (hJ.vi.bot f (by rw [hT.vc, hr]; rfl)).1
          have hg1 := hgI.ar
          refine ⟨by omega, fun _ => ?_⟩
          rcases iteC h with ⟨h2, h⟩ | ⟨_, h⟩
          · rw [hlast]; simp [h2]
          · exact (no (by decide) h).elim
        · have hr : r ≠ [] := fun e => by
            rw [settledV_ctl, hT.vc, e] at h1
            exact h1 rfl
          refine ⟨?_, fun e => ?_⟩
          · by_cases e64 : f.res = 64
            · have : gLen f.res = 0 := by rw [e64]; rfl
              have := hgI.fl
              omega
            · have hgl : gLen f.res = 1 := gLen_ne e64
              have ho2 : o = none := by
                rcases ho with ho | ⟨a, ho⟩
                · exact ho
                · rw [ho] at h
                  exact absurd rfl (giveV_some h)
              rw [ho2] at h
              unfold giveV at h
              rw [if_neg (by simp), if_neg e64] at h
              rcases iteC h with ⟨hpu, h⟩ | ⟨_, h⟩
              · unfold pushV at hpu
                dsimp only at hpu
                by_cases h9 : 10 ≤ (settledV v).1.ops.length
                · rw [if_pos h9] at hpu; simp at hpu
                · omega
              · simp at h
          · exfalso
            have := hT.f2.len
            rw [e] at this
            exact hr (List.length_eq_zero_iff.1 this)
      have hsh : ∃ q, shutP p = some q ∧ q.ctl = s := by
        unfold shutP
        rw [htop, if_neg (fun hd => ?_), if_neg (by omega)]
        · exact ⟨_, rfl, by dsimp only; rw [hT.pc]; rfl⟩
        · have hR := hlive hd.1
          have hdd := hR.nd f (by rw [hT.vc]; simp)
          have hh := settled_h hT.vc hfl.1 hdd hst
          have h1 := hR.h
          exact hd.2 (by omega)
      obtain ⟨q, h1, h2⟩ := hsh
      rw [h1]
      dsimp only
      rw [if_neg]
      · exact ⟨_, rfl⟩
      · rintro ⟨e1, e2⟩
        rw [h2] at e1
        rw [h10.2 (List.length_eq_zero_iff.1 e1)] at e2
        simp at e2
    · exact (no (by decide) h).elim
  rw [if_neg o11] at h
  have hR := hlive (by omega)
  obtain ⟨f, r, g, s, hP, hdd, _⟩ := hR.parts hJ.vi hJ.nn
  have htop : p.top = g := by unfold PS.top; rw [hP.pc]; rfl
  have hh1 := hR.h
  have hh2 := hP.fl
  have hh3 := hP.fm.fl
  have hcl := hR.f2.len
  by_cases o12 : x.op = 12
  · rw [if_pos o12] at h
    rw [if_neg (by omega), if_neg (by omega), if_neg (by omega), if_pos (by omega)]
    rcases iteC h with ⟨_, h⟩ | ⟨hl, h⟩
    · exact (no (by decide) h).elim
    unfold brP
    rw [if_neg (by omega), if_neg (by rw [htop]; omega)]
    exact ⟨_, rfl⟩
  rw [if_neg o12] at h
  by_cases o13 : x.op = 13
  · rw [if_pos o13] at h
    rw [if_neg (by omega), if_neg (by omega), if_neg (by omega), if_pos (by omega)]
    rcases iteC h with ⟨hcy, h⟩ | ⟨_, h⟩
    · rcases carry_live hP.vc hP.fl hdd hcy with ⟨e, _⟩ | ⟨_, h6, _⟩
      · omega
      rcases iteC h with ⟨_, h⟩ | ⟨hl, h⟩
      · exact (no (by decide) h).elim
      rw [carryV_ctl] at hl
      unfold brP
      rw [if_pos o13, if_neg (by rw [htop]; omega)]
      exact ⟨_, rfl⟩
    · exact (no (by decide) h).elim
  rw [if_neg o13] at h
  by_cases o14 : x.op = 14
  · rw [if_pos o14] at h
    rw [if_neg (by omega), if_neg (by omega), if_neg (by omega), if_neg (by omega), if_pos o14]
    rcases iteC h with ⟨hcy, h⟩ | ⟨_, h⟩
    · rcases carry_live hP.vc hP.fl hdd hcy with ⟨e, _⟩ | ⟨_, h6, _⟩
      · omega
      rcases iteC h with ⟨_, h⟩ | ⟨hno, h⟩
      · exact (no (by decide) h).elim
      rcases iteC h with ⟨_, h⟩ | ⟨_, h⟩
      · exact (no (by decide) h).elim
      have ho2 : o = none := by
        rcases ho with ho | ⟨a, ho⟩
        · exact ho
        · rw [ho] at h
          exact absurd rfl (tableV_some _ _ h)
      rw [ho2] at h
      have hrng := tableV_rng _ _ h
      rw [carryV_ctl] at hrng
      unfold tableP
      rw [if_neg (by rw [htop]; omega)]
      have hyr := hx.y
      unfold u64R at hyr
      obtain ⟨q, hq⟩ := rowsP_some ((fn.tabs.drop x.x.toNat).take x.y.toNat) (p := ⟨p.cells ++ [⟨14, x.y, 0⟩], p.ctl, p.h - 1, p.dead⟩) (fun l hl => by
        obtain ⟨i, hi, rfl⟩ := List.getElem_of_mem hl
        rw [List.length_take, List.length_drop] at hi
        have h9 := hrng i (by omega)
        have hix : fn.tabs.getD (x.x.toNat + i) 0 = ((fn.tabs.drop x.x.toNat).take x.y.toNat)[i] := by
          rw [List.getElem_take, List.getElem_drop, List.getD_eq_getElem?_getD, List.getElem?_eq_getElem (by omega)]
          rfl
        rw [hix] at h9
        have hmem : ((fn.tabs.drop x.x.toNat).take x.y.toNat)[i] ∈ fn.tabs := List.mem_of_mem_drop (List.mem_of_mem_take (List.getElem_mem _))
        have h8 := (hF.tabs _ hmem).1
        dsimp only
        exact ⟨h8, by omega⟩)
      rw [hq]
      exact ⟨_, rfl⟩
    · exact (no (by decide) h).elim
  rw [if_neg o14] at h
  by_cases o15 : x.op = 15
  · rw [if_neg (by omega), if_neg (by omega), if_neg (by omega), if_neg (by omega), if_neg (by omega), if_pos o15]
    exact ⟨_, rfl⟩
  rw [if_neg o15] at h
  rw [if_neg (by omega), if_neg (by omega), if_neg (by omega), if_neg (by omega), if_neg (by omega), if_neg (by omega)]
  have ho2 : o = none := by
    rcases ho with ho | ⟨a, ho⟩
    · exact ho
    · rw [ho] at h
      exact absurd rfl (giveV_some h)
  rw [ho2] at h
  obtain ⟨a, b, he⟩ := effect_some (h := h) hx (by omega)
  obtain ⟨k1, k2, k3, k4⟩ := plain_live hM hp hF.locals hJ.vi hP.vc hdd hx (by omega) h he
  have hstep : stepV M fn params pc v x = (v', none) := by
    unfold stepV
    rw [if_neg o1, if_neg o0, if_neg o2, if_neg o4, if_neg o5, if_neg o11, if_neg o12, if_neg o13, if_neg o14, if_neg o15]
    exact h
  have hvk := hJ.vi.step hM hF hp hJ.nn pc x hx
  rw [hstep] at hvk
  have hvi := hvk.vi.lO
  unfold plainP
  rw [he]
  dsimp only
  dsimp only at hvi
  rw [if_neg (by rw [htop]; omega)]
  exact ⟨_, rfl⟩
end
end Go.Proofs.Qxb6500275aGreatDoor
