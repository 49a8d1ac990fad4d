import Derived.Test.Qxb6500275aGreatDoorSp10
set_option linter.unusedVariables false
set_option linter.unusedSimpArgs false
set_option maxRecDepth 100000
namespace Go.Proofs.Qxb6500275aGreatDoor
open Go Go.RowKit
/- THE VALIDATOR'S HEIGHTS: what an instruction does to a live stack -/
section
variable {v : VS} {f : VF} {r : List VF}
theorem pop_live (hc : v.ctl = f :: r) (hf : f.floor ≤ v.ops.length) (hd : f.dead = false) {t : Nat} (h : (popV v t).2.2 = true) : f.floor + 1 ≤ v.ops.length ∧ (popV v t).1 = ⟨v.ops.tail, v.ctl⟩ := by
  have ht : v.top = f := by unfold VS.top; rw [hc]; rfl
  unfold popV at h ⊢
  rw [ht] at h ⊢
  by_cases e : v.ops.length = f.floor
  · rw [if_pos e] at h
    dsimp only at h
    rw [hd] at h
    simp at h
  · rw [if_neg e]
    exact ⟨by omega, rfl⟩
theorem carry_live (hc : v.ctl = f :: r) (hf : f.floor ≤ v.ops.length) (hd : f.dead = false) {t : Nat} (h : (carryV v t).2 = true) : (t = 64 ∧ (carryV v t).1 = v) ∨ (t ≠ 64 ∧ f.floor + 1 ≤ v.ops.length ∧ (carryV v t).1 = ⟨v.ops.tail, v.ctl⟩) := by
  unfold carryV at h ⊢
  by_cases e : t = 64
  · rw [if_pos e]; exact .inl ⟨e, rfl⟩
  · rw [if_neg e] at h ⊢
    obtain ⟨h1, h2⟩ := pop_live hc hf hd h
    exact .inr ⟨e, h1, h2⟩
theorem pops_live : ∀ (ts : List Nat) {v : VS}, v.ctl = f :: r → f.floor ≤ v.ops.length → f.dead = false → (popsV v ts).2 = true → f.floor + ts.length ≤ v.ops.length ∧ (popsV v ts).1 = ⟨v.ops.drop ts.length, v.ctl⟩
  | [], v, hc, hf, hd, h => ⟨by simpa using hf, by simp [popsV]⟩
  | t :: ts, v, hc, hf, hd, h => by
    rw [popsV] at h ⊢
    by_cases e : (popV v t).2.2 = true
    · rw [if_pos e] at h ⊢
      obtain ⟨h1, h2⟩ := pop_live hc hf hd e
      rw [h2] at h ⊢
      obtain ⟨h3, h4⟩ := pops_live ts (v := ⟨v.ops.tail, v.ctl⟩) hc (by simp; omega) hd h
      simp at h3
      refine ⟨by simp; omega, ?_⟩
      rw [h4]
      simp
    · rw [if_neg e] at h
      simp at h
/- a give that is laid -/
def gLen (t : Nat) : Nat := if t = 64 then 0 else 1
theorem gLen_64 : gLen 64 = 0 := rfl
theorem gLen_127 : gLen 127 = 1 := rfl
theorem gLen_ne {t : Nat} (h : t ≠ 64) : gLen t = 1 := if_neg h
theorem give_live {x : VR} {pc : Nat} {v' : VS} (h : giveV pc x = (v', none)) : x.2.2 = 0 ∧ v'.ctl = x.1.ctl ∧ v'.ops.length = x.1.ops.length + gLen x.2.1 := by
  unfold giveV at h
  rcases iteC h with ⟨_, h⟩ | ⟨h0, h⟩
  · simp at h
  rcases iteC h with ⟨h1, h⟩ | ⟨h1, h⟩
  · simp at h
    subst h
    rw [h1, gLen_64]
    exact ⟨by omega, rfl, rfl⟩
  rcases iteC h with ⟨h2, h⟩ | ⟨h2, h⟩
  · simp at h
    subst h
    rw [gLen_ne h1]
    unfold pushV at h2 ⊢
    by_cases e : 10 ≤ x.1.ops.length
    · rw [if_pos e] at h2; simp [gLen_64, gLen_127] at h2
    · rw [if_neg e]
      exact ⟨by omega, rfl, by simp⟩
  · simp at h
end
set_option maxHeartbeats 4000000 in
theorem numSig_arg : ∀ op : Nat, op < 192 → 69 ≤ op → ((numSig op).2.1 ≠ 64 ∧ (numSig op).1 ≤ 2) := by decide +kernel
theorem typedV0 {b : Bool} (h : typedV b = 0) : b = true := by
  unfold typedV at h
  cases b <;> simp at h ⊢
theorem isVal_ne {t : Nat} (h : isVal t) : t ≠ 64 := by unfold isVal at h; omega
theorem give0 {t : Nat} (h : t = 0 ∨ isVal t) : t ≠ 64 := by
  rcases h with h | h
  · omega
  · exact isVal_ne h
theorem firstV_len {t : Ty} (h : TyOk t) : gLen (firstV t.q) = t.q.size := by
  have hq := h.nq
  unfold firstV
  by_cases e : t.q.size = 0
  · rw [if_pos e, gLen_64, e]
  · rw [if_neg e, gLen_ne (isVal_ne (h.q 0 (by omega)))]
    omega
theorem argsV_len (p : ByteArray) : (argsV p).length = p.size := by unfold argsV; rw [List.length_map, List.length_reverse]; rfl
/- an instruction that turns no control, live: what it takes and gives is what the compiler counts -/
set_option maxHeartbeats 4000000 in
theorem plain_live {M : Mod} (hM : ModOk M) {params decl : ByteArray} (hp : Vals params) (hd : Vals decl) {v v' : VS} {f : VF} {r : List VF} (hI : VI v) (hc : v.ctl = f :: r) (hdd : f.dead = false) {pc : Nat} {x : Ins} (hx : InsOk x) (ho : ¬ (x.op ≤ 5 ∨ 11 ≤ x.op ∧ x.op ≤ 15)) (h : giveV pc (plainV M params decl v x) = (v', none)) {take give : Nat} (he : effectP M x = some (take, give)) :
    v'.ctl = v.ctl ∧ f.floor + take ≤ v.ops.length ∧ v'.ops.length = v.ops.length - take + give ∧ (32 ≤ x.op ∧ x.op ≤ 34 → x.x < params.size + decl.size) := by
  have hcn : v.ctl ≠ [] := by rw [hc]; simp
  have hf : f.floor ≤ v.ops.length := by
    have := hI.fl
    rw [hc] at this
    exact this.1
  obtain ⟨h0, h1, h2⟩ := give_live h
  have hop := hx.op
  have hx0 := hx.x.1
  unfold opOk at hop
  unfold plainV at h0 h1 h2
  unfold effectP at he
  by_cases c16 : x.op = 16
  · rw [if_pos (.inl c16)] at h0 h1 h2
    rw [if_neg (by omega), if_neg (by omega), if_neg (by omega), if_neg (by omega), if_neg (by omega), if_pos c16] at he
    unfold callV at h0 h1 h2
    rw [if_pos c16] at h0 h1 h2
    cases ht : M.typeOf x.x with
    | none => rw [ht] at he; simp at he
    | some t =>
      rw [ht] at he h0 h1 h2
      dsimp only at he h0 h1 h2
      simp at he
      have hk : TyOk t := by
        unfold Mod.typeOf Mod.typeAt at ht
        rcases iteC ht with ⟨_, h3⟩ | ⟨_, h3⟩
        · simp at h3
        · exact hM.types t (List.mem_of_getElem? h3)
      obtain ⟨h3, h4⟩ := pops_live (argsV t.p) hc hf hdd (typedV0 h0)
      rw [h4] at h1 h2
      rw [argsV_len] at h3 h2
      rw [firstV_len hk] at h2
      simp [gLen_64, gLen_127] at h2
      exact ⟨h1, by omega, by omega, fun h => by omega⟩
  by_cases c17 : x.op = 17
  · rw [if_pos (.inr c17)] at h0 h1 h2
    rw [if_neg (by omega), if_neg (by omega), if_neg (by omega), if_neg (by omega), if_neg (by omega), if_neg (by omega), if_pos c17] at he
    unfold callV at h0 h1 h2
    rw [if_neg c16] at h0 h1 h2
    by_cases htm : M.tabMin < 0
    · rw [if_pos htm] at h0; simp at h0
    rw [if_neg htm] at h0 h1 h2
    cases ht : M.types[x.x.toNat]? with
    | none => rw [ht] at he; simp at he
    | some t =>
      rw [ht] at he h0 h1 h2
      dsimp only at he h0 h1 h2
      simp at he
      have hk : TyOk t := hM.types t (List.mem_of_getElem? ht)
      by_cases hcy : (carryV v 127).2 = true
      · rw [if_pos hcy] at h0 h1 h2
        rcases carry_live hc hf hdd hcy with ⟨e, _⟩ | ⟨_, h5, h6⟩
        · omega
        · rw [h6] at h0 h1 h2
          obtain ⟨h3, h4⟩ := pops_live (argsV t.p) (v := ⟨v.ops.tail, v.ctl⟩) hc (by simp; omega) hdd (typedV0 h0)
          rw [h4] at h1 h2
          rw [argsV_len] at h3 h2
          rw [firstV_len hk] at h2
          simp [gLen_64, gLen_127] at h2 h3
          exact ⟨h1, by omega, by omega, fun h => by omega⟩
      · rw [if_neg hcy] at h0; simp at h0
  rw [if_neg (by omega)] at h0 h1 h2
  by_cases c26 : x.op = 26
  · rw [if_pos c26] at h0 h1 h2
    rw [if_neg (by omega), if_pos (by omega)] at he
    simp at he
    obtain ⟨h3, h4⟩ := pop_live hc hf hdd (typedV0 h0)
    rw [h4] at h1 h2
    simp [gLen_64, gLen_127] at h2
    exact ⟨h1, by omega, by omega, fun h => by omega⟩
  rw [if_neg c26] at h0 h1 h2
  by_cases c27 : x.op = 27
  · rw [if_pos c27] at h0 h1 h2
    rw [if_neg (by omega), if_neg (by omega), if_neg (by omega), if_neg (by omega), if_pos (by omega)] at he
    simp at he
    have hg := (hI.sel hcn).2.2
    unfold selV at h0 h1 h2 hg
    by_cases hcy : (carryV v 127).2 = true
    · rw [if_pos hcy] at h0 h1 h2 hg
      rcases carry_live hc hf hdd hcy with ⟨e, _⟩ | ⟨_, h5, h6⟩
      · omega
      · have hI1 := (hI.carry hcn 127).1
        rw [h6] at h0 h1 h2 hg hI1
        by_cases hp2 : (popV ⟨v.ops.tail, v.ctl⟩ 0).2.2 = true
        · rw [if_pos hp2] at h0 h1 h2 hg
          obtain ⟨h7, h8⟩ := pop_live (v := ⟨v.ops.tail, v.ctl⟩) hc (by simp; omega) hdd hp2
          have hI2 := (hI1.pop hcn 0).1
          have hty := popV_give hI1 (t := 0) (.inl rfl)
          rw [h8] at h0 h1 h2 hg hI2
          dsimp only at h0 h1 h2 hg h7
          simp at h7
          obtain ⟨h9, h10⟩ := pop_live (v := ⟨v.ops.tail.tail, v.ctl⟩) hc (by simp; omega) hdd (typedV0 h0)
          have hty2 := popV_give hI2 hty
          rw [h10] at h1 h2
          rw [gLen_ne (give0 hty2)] at h2
          simp at h9 h2
          exact ⟨h1, by omega, by omega, fun h => by omega⟩
        · rw [if_neg hp2] at h0; simp at h0
    · rw [if_neg hcy] at h0; simp at h0
  rw [if_neg c27] at h0 h1 h2
  by_cases c32 : 32 ≤ x.op ∧ x.op ≤ 34
  · rw [if_pos c32] at h0 h1 h2
    cases hl : localV params decl x.x with
    | none => rw [hl] at h0; simp at h0
    | some t =>
      rw [hl] at h0 h1 h2
      dsimp only at h0 h1 h2
      have hv := localV_val hp hd hx0 hl
      have hlx : x.x < params.size + decl.size := by
        unfold localV at hl
        rcases iteC hl with ⟨h3, _⟩ | ⟨_, hl⟩
        · omega
        · rcases iteC hl with ⟨h3, _⟩ | ⟨_, hl⟩
          · omega
          · simp at hl
      by_cases c : x.op = 32
      · rw [if_pos c] at h0 h1 h2
        rw [if_neg (by omega), if_neg (by omega), if_neg (by omega), if_pos (by omega)] at he
        simp at he
        rw [gLen_ne (isVal_ne hv)] at h2
        dsimp only at h2
        exact ⟨h1, by omega, by omega, fun _ => hlx⟩
      · rw [if_neg c] at h0 h1 h2
        dsimp only at h0 h1 h2
        rcases carry_live hc hf hdd (typedV0 h0) with ⟨e, _⟩ | ⟨_, h5, h6⟩
        · exact absurd e (isVal_ne hv)
        · rw [h6] at h1 h2
          by_cases c33 : x.op = 33
          · rw [if_neg (by omega), if_pos (by omega)] at he
            simp at he
            rw [if_pos c33] at h2
            simp [gLen_64, gLen_127] at h2
            exact ⟨h1, by omega, by omega, fun _ => hlx⟩
          · rw [if_neg (by omega), if_neg (by omega), if_pos (by omega)] at he
            simp at he
            rw [if_neg c33, gLen_ne (isVal_ne hv)] at h2
            simp [gLen_64, gLen_127] at h2
            exact ⟨h1, by omega, by omega, fun _ => hlx⟩
  rw [if_neg c32] at h0 h1 h2
  by_cases c35 : x.op = 35 ∨ x.op = 36
  · rw [if_pos c35] at h0 h1 h2
    cases hg : M.globals[x.x.toNat]? with
    | none => rw [hg] at h0; simp at h0
    | some g =>
      rw [hg] at h0 h1 h2
      dsimp only at h0 h1 h2
      have hv := (hM.globals g (List.mem_of_getElem? hg)).ty
      by_cases c : x.op = 35
      · rw [if_pos c] at h0 h1 h2
        rw [if_neg (by omega), if_neg (by omega), if_neg (by omega), if_pos (by omega)] at he
        simp at he
        rw [gLen_ne (isVal_ne hv)] at h2
        dsimp only at h2
        exact ⟨h1, by omega, by omega, fun h => by omega⟩
      · rw [if_neg c] at h0 h1 h2
        rw [if_neg (by omega), if_pos (by omega)] at he
        simp at he
        by_cases hmu : g.mu = true
        · rw [if_pos hmu] at h0 h1 h2
          rcases carry_live hc hf hdd (typedV0 h0) with ⟨e, _⟩ | ⟨_, h5, h6⟩
          · exact absurd e (isVal_ne hv)
          · rw [h6] at h1 h2
            simp [gLen_64, gLen_127] at h2
            exact ⟨h1, by omega, by omega, fun h => by omega⟩
        · rw [if_neg hmu] at h0; simp at h0
  rw [if_neg c35] at h0 h1 h2
  by_cases c40 : 40 ≤ x.op ∧ x.op ≤ 64
  · rw [if_pos c40] at h0 h1 h2
    unfold memoryV at h0 h1 h2
    by_cases hmm : M.memMin < 0
    · rw [if_pos hmm] at h0; simp at h0
    rw [if_neg hmm] at h0 h1 h2
    by_cases c63 : x.op = 63
    · rw [if_pos c63] at h0 h1 h2
      rw [if_neg (by omega), if_neg (by omega), if_neg (by omega), if_pos (by omega)] at he
      simp at he
      simp [gLen_64, gLen_127] at h2
      exact ⟨h1, by omega, by omega, fun h => by omega⟩
    rw [if_neg c63] at h0 h1 h2
    by_cases c62 : x.op ≤ 62
    · rw [if_pos c62] at h0 h1 h2
      by_cases hal : 3 < x.x ∨ (memSig x.op).1 / 2 ^ x.x.toNat = 0
      · rw [if_pos hal] at h0; simp at h0
      rw [if_neg hal] at h0 h1 h2
      have hms := memSig_val x.op (by omega) c40.1
      by_cases c54 : 54 ≤ x.op
      · rw [if_pos c54] at h0 h1 h2
        rw [if_neg (by omega), if_neg (by omega), if_neg (by omega), if_neg (by omega), if_neg (by omega), if_neg (by omega), if_neg (by omega), if_neg (by omega), if_pos (by omega)] at he
        simp at he
        by_cases hcy : (carryV v (memSig x.op).2.1).2 = true
        · rw [if_pos hcy] at h0 h1 h2
          rcases carry_live hc hf hdd hcy with ⟨e, _⟩ | ⟨_, h5, h6⟩
          · omega
          · rw [h6] at h0 h1 h2
            rcases carry_live (v := ⟨v.ops.tail, v.ctl⟩) hc (by simp; omega) hdd (typedV0 h0) with ⟨e, _⟩ | ⟨_, h7, h8⟩
            · omega
            · rw [h8] at h1 h2
              simp [gLen_64, gLen_127] at h2 h7
              exact ⟨h1, by omega, by omega, fun h => by omega⟩
        · rw [if_neg hcy] at h0; simp at h0
      · rw [if_neg c54] at h0 h1 h2
        rw [if_neg (by omega), if_neg (by omega), if_neg (by omega), if_neg (by omega), if_neg (by omega), if_neg (by omega), if_neg (by omega), if_pos (by omega)] at he
        simp at he
        rcases carry_live hc hf hdd (typedV0 h0) with ⟨e, _⟩ | ⟨_, h5, h6⟩
        · omega
        · rw [h6] at h1 h2
          rw [gLen_ne (by dsimp only; omega)] at h2
          simp [gLen_64, gLen_127] at h2
          exact ⟨h1, by omega, by omega, fun h => by omega⟩
    · rw [if_neg c62] at h0 h1 h2
      rw [if_neg (by omega), if_neg (by omega), if_pos (by omega)] at he
      simp at he
      rcases carry_live hc hf hdd (typedV0 h0) with ⟨e, _⟩ | ⟨_, h5, h6⟩
      · omega
      · rw [h6] at h1 h2
        simp [gLen_64, gLen_127] at h2
        exact ⟨h1, by omega, by omega, fun h => by omega⟩
  rw [if_neg c40] at h0 h1 h2
  by_cases c65 : 65 ≤ x.op ∧ x.op ≤ 68
  · rw [if_pos c65] at h0 h1 h2
    rw [if_neg (by omega), if_neg (by omega), if_neg (by omega), if_pos (by omega)] at he
    simp at he
    have : constOfV x.op ≠ 64 := by unfold constOfV; rw [if_neg (by omega)]; omega
    dsimp only at h2
    rw [gLen_ne this] at h2
    exact ⟨h1, by omega, by omega, fun h => by omega⟩
  rw [if_neg c65] at h0 h1 h2
  rw [if_neg (by omega), if_neg (by omega), if_neg (by omega), if_neg (by omega), if_neg (by omega), if_neg (by omega), if_neg (by omega), if_neg (by omega), if_neg (by omega)] at he
  by_cases cz : (numSig x.op).1 = 0
  · rw [if_pos cz] at he; simp at he
  rw [if_neg cz] at he h0 h1 h2
  simp at he
  have hns := numSig_val x.op (by omega) (by omega)
  have hna := numSig_arg x.op (by omega) (by omega)
  by_cases hcy : (carryV v (numSig x.op).2.1).2 = true ∧ (numSig x.op).1 = 2
  · rw [if_pos hcy] at h0 h1 h2
    rcases carry_live hc hf hdd hcy.1 with ⟨e, _⟩ | ⟨_, h5, h6⟩
    · omega
    · rw [h6] at h0 h1 h2
      rcases carry_live (v := ⟨v.ops.tail, v.ctl⟩) hc (by simp; omega) hdd (typedV0 h0) with ⟨e, _⟩ | ⟨_, h7, h8⟩
      · omega
      · rw [h8] at h1 h2
        rw [gLen_ne (by dsimp only; omega)] at h2
        simp [gLen_64, gLen_127] at h2 h7
        exact ⟨h1, by omega, by omega, fun h => by omega⟩
  · rw [if_neg hcy] at h0 h1 h2
    have hct := typedV0 h0
    rcases carry_live hc hf hdd hct with ⟨e, _⟩ | ⟨_, h5, h6⟩
    · omega
    · have hn1 : (numSig x.op).1 = 1 := by
        have h3 : ¬ (numSig x.op).1 = 2 := fun e => hcy ⟨hct, e⟩
        omega
      rw [h6] at h1 h2
      rw [gLen_ne (by dsimp only; omega)] at h2
      simp [gLen_64, gLen_127] at h2
      exact ⟨h1, by omega, by omega, fun h => by omega⟩
end Go.Proofs.Qxb6500275aGreatDoor
