import Derived.Test.Qxb6500275aGreatDoorVm8
import Derived.Test.Qxb6500275aGreatDoorBns
set_option maxRecDepth 1000000
set_option linter.unusedVariables false
set_option linter.unusedSimpArgs false
namespace Go.Proofs.Qxb6500275aGreatDoor
open Go Go.RowKit
section
variable {E : Env189} {pc : Nat} {st s1 s2 s3 : ByteArray} {p : Bool} {x : Ins} {g1 g2 g3 t1 t2 : Nat} {ok1 ok2 ok3 : Bool}
theorem firstV_one {t : Nat} (h : t < 256) : firstV (oneB t) = t := by
  unfold firstV
  rw [if_neg (by rw [oneB_size]; omega), oneB_at h]
/- a round that ends with what it gives -/
theorem tail3 {b : ByteArray} {ok : Bool} (hrun : E.run pc st p) (hx : E.fn.body[pc]? = some x) (hS : stepV E.m.mod E.fn E.params pc (E.v st p) x = giveV pc (E.v s1 p, firstV b, typedV ok)) (hb : b.size ≤ 1) (hb64 : b.size = 1 → bAt b 0 ≠ 64) (hl : E.rest.length + s1.size ≤ 10) :
    (ok = false → E.X.2 = (pc, 27)) ∧ (ok = true → 10 < E.rest.length + (s1.size + b.size) → E.X.2 = (pc, 28)) ∧ (ok = true → ¬ 10 < E.rest.length + (s1.size + b.size) → E.run (pc + 1) (s1 ++ b) p) := by
  refine ⟨fun h => ?_, fun h hd => ?_, fun h hd => ?_⟩
  · subst h
    exact Env189.stop hrun hx (hS.trans (give_err (by decide)))
  · subst h
    refine Env189.stop hrun hx (hS.trans ((give_text hb hb64 hl).trans (by rw [if_pos (by rw [ByteArray.size_append]; exact hd)])))
  · subst h
    refine Env189.next hrun hx (hS.trans ((give_text hb hb64 hl).trans (by rw [if_neg (by rw [ByteArray.size_append]; exact hd)]; rfl)))
theorem popE (h : popS st p t1 = (s1, g1, ok1)) : popV (E.v st p) t1 = (E.v s1 p, g1, ok1) := by
  unfold Env189.v
  rw [popV_mk, h]
theorem carryE (ht : t1 ≠ 64) (h : popS st p t1 = (s1, g1, ok1)) : carryV (E.v st p) t1 = (E.v s1 p, ok1) := by
  unfold Env189.v
  rw [carryV_mk ht, h]
theorem popsE {ts : List Nat} (h : popsS p ts st = (s1, ok1)) : popsV (E.v st p) ts = (E.v s1 p, ok1) := by
  unfold Env189.v
  rw [popsV_mk, h]
theorem ctlE : (E.v st p).ctl.length = E.r.length + 1 := rfl
theorem carryT {b : ByteArray} (hb : OneT b) (h : popsS p (argsV b) st = (s1, ok1)) : carryV (E.v st p) (firstV b) = (E.v s1 p, ok1) := by
  unfold Env189.v
  rw [carry_text hb, h]
theorem popS_le (h : popS st p t1 = (s1, g1, ok1)) : s1.size ≤ st.size := by have := popS_size st p t1; rw [h] at this; exact this
theorem popsS_le {ts : List Nat} (h : popsS p ts st = (s1, ok1)) : s1.size ≤ st.size := by have := popsS_size p ts st; rw [h] at this; exact this
theorem labE {l : Nat} {b : ByteArray} (hL : LabR E.labs ((⟨E.o, firstV E.res, E.rest.length, false⟩ : VF) :: E.r)) (hl : l < E.r.length + 1) (hb : E.labs[E.labs.length - 1 - l]? = some b) : labelV (E.v st p) l = firstV b := by
  rw [labelV_F]
  have := hL.at_ l b hb hl
  rw [← this]
  cases l with
  | zero => rfl
  | succ l => rfl
/- numbers -/
theorem numSig_all2 : ∀ op : Nat, op < 192 → 69 ≤ op → ((numSig op).1 = 1 ∨ (numSig op).1 = 2) ∧ (65 ≤ (numSig op).2.1 ∧ (numSig op).2.1 < 256) ∧ (65 ≤ (numSig op).2.2 ∧ (numSig op).2.2 < 256) := by decide +kernel
theorem plain_num2 (ho : 69 ≤ x.op ∧ x.op ≤ 191) {a r : Nat} (hsg : numSig x.op = (2, a, r)) (ha : a ≠ 64) (h1 : popS st p a = (s1, g1, ok1)) (h2 : popS s1 p a = (s2, g2, ok2)) : plainV E.m.mod E.params E.fn.locals (E.v st p) x = (E.v (cond ok1 s2 s1) p, r, typedV (cond ok1 ok2 false)) := by
  unfold plainV
  rw [if_neg (by omega), if_neg (by omega), if_neg (by omega), if_neg (by omega), if_neg (by omega), if_neg (by omega), if_neg (by omega), hsg, carryE ha h1, if_neg (by simp)]
  dsimp only
  rw [carryE ha h2]
  cases ok1 <;> simp
theorem plain_num1 (ho : 69 ≤ x.op ∧ x.op ≤ 191) {a r : Nat} (hsg : numSig x.op = (1, a, r)) (ha : a ≠ 64) (h1 : popS st p a = (s1, g1, ok1)) : plainV E.m.mod E.params E.fn.locals (E.v st p) x = (E.v s1 p, r, typedV ok1) := by
  unfold plainV
  rw [if_neg (by omega), if_neg (by omega), if_neg (by omega), if_neg (by omega), if_neg (by omega), if_neg (by omega), if_neg (by omega), hsg, carryE ha h1, if_neg (by simp)]
  simp
/- select -/
theorem plain_sel_m (ho : x.op = 27) (h1 : popS st p 127 = (s1, g1, ok1)) (h2 : popS s1 p 0 = (s2, g2, ok2)) (h3 : popS s2 p g2 = (s3, g3, ok3)) : plainV E.m.mod E.params E.fn.locals (E.v st p) x = cond ok1 (cond ok2 (E.v s3 p, g3, typedV ok3) (E.v s2 p, 64, 27)) (E.v s1 p, 64, 27) := by
  unfold plainV
  rw [if_neg (by omega), if_neg (by omega), if_pos ho]
  unfold selV
  rw [carryE (by decide) h1]
  dsimp only
  rw [popE h2]
  dsimp only
  rw [popE h3]
  cases ok1 <;> cases ok2 <;> simp
/- local -/
theorem loc_get {a b : ByteArray} {x : Nat} (h : x < (a ++ b).size) : localV a b (x : Int) = some (bAt (a ++ b) x) := by
  unfold localV
  have hs : (a ++ b).size = a.size + b.size := ByteArray.size_append
  have hd : (a ++ b).data.toList = a.data.toList ++ b.data.toList := by rw [ByteArray.data_append]; simp
  have hb : ∀ (s : ByteArray) (i : Nat), bAt s i = (s.data.toList.getD i 0).toNat := fun s i => by unfold bAt; simp
  have ha : a.data.toList.length = a.size := ba_size a
  by_cases hl : (x : Int) < a.size
  · rw [if_pos hl, Int.toNat_natCast, hb, hb, hd]
    congr 2
    simp only [List.getD_eq_getElem?_getD]
    rw [List.getElem?_append_left (by rw [ha]; omega)]
  · have e : ((x : Int) - (a.size : Int)).toNat = x - a.size := by omega
    rw [if_neg hl, if_pos (by omega), e, hb, hb, hd]
    congr 2
    simp only [List.getD_eq_getElem?_getD]
    rw [List.getElem?_append_right (by rw [ha]; omega), ha]
theorem loc_none {a b : ByteArray} {x : Nat} (h : ¬ x < (a ++ b).size) : localV a b (x : Int) = none := by
  have hs : (a ++ b).size = a.size + b.size := ByteArray.size_append
  unfold localV
  rw [if_neg (by omega), if_neg (by omega)]
theorem plain_loc {t : Nat} (ho : 32 ≤ x.op ∧ x.op ≤ 34) (hl : localV E.params E.fn.locals x.x = some t) (ht : t ≠ 64) (h1 : popS st p t = (s1, g1, ok1)) : plainV E.m.mod E.params E.fn.locals (E.v st p) x = if x.op = 32 then (E.v st p, t, 0) else (E.v s1 p, if x.op = 33 then 64 else t, typedV ok1) := by
  unfold plainV
  rw [if_neg (by omega), if_neg (by omega), if_neg (by omega), if_pos ho, hl]
  dsimp only
  rw [carryE ht h1]
theorem plain_loc0 (ho : 32 ≤ x.op ∧ x.op ≤ 34) (hl : localV E.params E.fn.locals x.x = none) : plainV E.m.mod E.params E.fn.locals (E.v st p) x = (E.v st p, 64, 22) := by
  unfold plainV
  rw [if_neg (by omega), if_neg (by omega), if_neg (by omega), if_pos ho, hl]
/- global -/
theorem plain_glob {g : Glob} (ho : x.op = 35 ∨ x.op = 36) (hl : E.m.mod.globals[x.x.toNat]? = some g) (ht : g.ty ≠ 64) (h1 : popS st p g.ty = (s1, g1, ok1)) : plainV E.m.mod E.params E.fn.locals (E.v st p) x = if x.op = 35 then (E.v st p, g.ty, 0) else cond g.mu (E.v s1 p, 64, typedV ok1) (E.v st p, 64, 24) := by
  unfold plainV
  rw [if_neg (by omega), if_neg (by omega), if_neg (by omega), if_neg (by omega), if_pos ho, hl]
  dsimp only
  rw [carryE ht h1]
  cases g.mu <;> simp
theorem plain_glob0 (ho : x.op = 35 ∨ x.op = 36) (hl : E.m.mod.globals[x.x.toNat]? = none) : plainV E.m.mod E.params E.fn.locals (E.v st p) x = (E.v st p, 64, 23) := by
  unfold plainV
  rw [if_neg (by omega), if_neg (by omega), if_neg (by omega), if_neg (by omega), if_pos ho, hl]
/- memory -/
theorem plain_memo (ho : 40 ≤ x.op ∧ x.op ≤ 64) : plainV E.m.mod E.params E.fn.locals (E.v st p) x = memoryV E.m.mod (E.v st p) x := by
  unfold plainV
  rw [if_neg (by omega), if_neg (by omega), if_neg (by omega), if_neg (by omega), if_neg (by omega), if_pos ho]
theorem memSig_all2 : ∀ op : Nat, op < 63 → 40 ≤ op → ((memSig op).1 = 1 ∨ (memSig op).1 = 2 ∨ (memSig op).1 = 4 ∨ (memSig op).1 = 8) ∧ ((memSig op).2.1 = 127 ∨ (memSig op).2.1 = 126 ∨ (memSig op).2.1 = 125 ∨ (memSig op).2.1 = 124) := by decide +kernel
theorem mem_no (hm : E.m.mod.memMin < 0) : memoryV E.m.mod (E.v st p) x = (E.v st p, 64, 20) := by unfold memoryV; rw [if_pos hm]
theorem mem_63 (hm : ¬ E.m.mod.memMin < 0) (ho : x.op = 63) : memoryV E.m.mod (E.v st p) x = (E.v st p, 127, 0) := by unfold memoryV; rw [if_neg hm, if_pos ho]
theorem mem_64 (hm : ¬ E.m.mod.memMin < 0) (ho : x.op = 64) (h1 : popS st p 127 = (s1, g1, ok1)) : memoryV E.m.mod (E.v st p) x = (E.v s1 p, 127, typedV ok1) := by unfold memoryV; rw [if_neg hm, if_neg (by omega), if_neg (by omega), carryE (by decide) h1]
theorem mem_al (hm : ¬ E.m.mod.memMin < 0) (ho : x.op ≤ 62) (ha : 3 < x.x ∨ (memSig x.op).1 / 2 ^ x.x.toNat = 0) : memoryV E.m.mod (E.v st p) x = (E.v st p, 64, 26) := by unfold memoryV; rw [if_neg hm, if_neg (by omega), if_pos ho, if_pos ha]
theorem mem_ld (hm : ¬ E.m.mod.memMin < 0) (ho : x.op ≤ 53) (ha : ¬ (3 < x.x ∨ (memSig x.op).1 / 2 ^ x.x.toNat = 0)) (h1 : popS st p 127 = (s1, g1, ok1)) : memoryV E.m.mod (E.v st p) x = (E.v s1 p, (memSig x.op).2.1, typedV ok1) := by
  unfold memoryV; rw [if_neg hm, if_neg (by omega), if_pos (by omega), if_neg ha, if_neg (by omega), carryE (by decide) h1]
theorem mem_st (hm : ¬ E.m.mod.memMin < 0) (ho : 54 ≤ x.op ∧ x.op ≤ 62) (ha : ¬ (3 < x.x ∨ (memSig x.op).1 / 2 ^ x.x.toNat = 0)) (ht : (memSig x.op).2.1 ≠ 64) (h1 : popS st p (memSig x.op).2.1 = (s1, g1, ok1)) (h2 : popS s1 p 127 = (s2, g2, ok2)) : memoryV E.m.mod (E.v st p) x = (E.v (cond ok1 s2 s1) p, 64, typedV (cond ok1 ok2 false)) := by
  unfold memoryV; rw [if_neg hm, if_neg (by omega), if_pos (by omega), if_neg ha, if_pos (by omega), carryE ht h1]
  dsimp only
  rw [carryE (by decide) h2]
  cases ok1 <;> simp [typedV]
/- calls -/
theorem plain_call16 {t : Ty} (ho : x.op = 16) (ht : E.m.mod.typeOf x.x = some t) (h1 : popsS p (argsV t.p) st = (s1, ok1)) : plainV E.m.mod E.params E.fn.locals (E.v st p) x = (E.v s1 p, firstV t.q, typedV ok1) := by
  unfold plainV
  rw [if_pos (.inl ho)]
  unfold callV
  rw [if_pos ho, ht]
  dsimp only
  rw [popsE h1]
theorem plain_call16n (ho : x.op = 16) (ht : E.m.mod.typeOf x.x = none) : plainV E.m.mod E.params E.fn.locals (E.v st p) x = (E.v st p, 64, 15) := by
  unfold plainV
  rw [if_pos (.inl ho)]
  unfold callV
  rw [if_pos ho, ht]
theorem plain_call17 {t : Ty} (ho : x.op = 17) (hm : ¬ E.m.mod.tabMin < 0) (ht : E.m.mod.types[x.x.toNat]? = some t) (h1 : popS st p 127 = (s1, g1, ok1)) (h2 : popsS p (argsV t.p) s1 = (s2, ok2)) : plainV E.m.mod E.params E.fn.locals (E.v st p) x = cond ok1 (E.v s2 p, firstV t.q, typedV ok2) (E.v s1 p, 64, 27) := by
  unfold plainV
  rw [if_pos (.inr ho)]
  unfold callV
  rw [if_neg (by omega), if_neg hm, ht]
  dsimp only
  rw [carryE (by decide) h1]
  dsimp only
  rw [popsE h2]
  cases ok1 <;> simp
theorem plain_call17n (ho : x.op = 17) (hm : ¬ E.m.mod.tabMin < 0) (ht : E.m.mod.types[x.x.toNat]? = none) : plainV E.m.mod E.params E.fn.locals (E.v st p) x = (E.v st p, 64, 14) := by
  unfold plainV
  rw [if_pos (.inr ho)]
  unfold callV
  rw [if_neg (by omega), if_neg hm, ht]
theorem plain_call17t (ho : x.op = 17) (hm : E.m.mod.tabMin < 0) : plainV E.m.mod E.params E.fn.locals (E.v st p) x = (E.v st p, 64, 21) := by
  unfold plainV
  rw [if_pos (.inr ho)]
  unfold callV
  rw [if_neg (by omega), if_pos hm]
/- branches -/
theorem step_br (ho : x.op = 12) {b : ByteArray} (hl : ¬ ((E.r.length : Int) + 1 ≤ x.x)) (hb : labelV (E.v st p) x.x.toNat = firstV b) (h1b : OneT b) (h1 : popsS p (argsV b) st = (s1, ok1)) : stepV E.m.mod E.fn E.params pc (E.v st p) x = cond ok1 (E.v ByteArray.empty true, none) (E.v s1 p, some (pc, 27)) := by
  unfold stepV
  rw [if_neg (by omega), if_neg (by omega), if_neg (by omega), if_neg (by omega), if_neg (by omega), if_neg (by omega), if_pos ho, if_neg (by rw [ctlE]; omega), hb, carryT h1b h1]
  dsimp only
  rw [show cutV (E.v s1 p) = E.v ByteArray.empty true from cut_mk]
  cases ok1 <;> simp
theorem step_brn (ho : x.op = 12) (hl : (E.r.length : Int) + 1 ≤ x.x) : stepV E.m.mod E.fn E.params pc (E.v st p) x = (E.v st p, some (pc, 25)) := by
  unfold stepV
  rw [if_neg (by omega), if_neg (by omega), if_neg (by omega), if_neg (by omega), if_neg (by omega), if_neg (by omega), if_pos ho, if_pos (by rw [ctlE]; omega)]
theorem step_bif (ho : x.op = 13) {b : ByteArray} (h1 : popS st p 127 = (s1, g1, ok1)) (hl : ¬ ((E.r.length : Int) + 1 ≤ x.x)) (hb : labelV (E.v s1 p) x.x.toNat = firstV b) (h1b : OneT b) (h2 : popsS p (argsV b) s1 = (s2, ok2)) : stepV E.m.mod E.fn E.params pc (E.v st p) x = cond ok1 (giveV pc (E.v s2 p, firstV b, typedV ok2)) (E.v s1 p, some (pc, 27)) := by
  unfold stepV
  rw [if_neg (by omega), if_neg (by omega), if_neg (by omega), if_neg (by omega), if_neg (by omega), if_neg (by omega), if_neg (by omega), if_pos ho, carryE (by decide) h1]
  dsimp only
  rw [if_neg (c := ((E.v s1 p).ctl.length : Int) ≤ x.x) (by rw [ctlE]; omega), hb, carryT h1b h2]
  cases ok1
  · simp
  · cases ok2
    · simp [giveV, typedV]
    · simp [typedV]
theorem step_bifn (ho : x.op = 13) (h1 : popS st p 127 = (s1, g1, ok1)) (hl : (E.r.length : Int) + 1 ≤ x.x) : stepV E.m.mod E.fn E.params pc (E.v st p) x = cond ok1 (E.v s1 p, some (pc, 25)) (E.v s1 p, some (pc, 27)) := by
  unfold stepV
  rw [if_neg (by omega), if_neg (by omega), if_neg (by omega), if_neg (by omega), if_neg (by omega), if_neg (by omega), if_neg (by omega), if_pos ho, carryE (by decide) h1]
  dsimp only
  rw [if_pos (c := ((E.v s1 p).ctl.length : Int) ≤ x.x) (by rw [ctlE]; omega)]
  cases ok1 <;> simp
theorem step_biff (ho : x.op = 13) (h1 : popS st p 127 = (s1, g1, false)) : stepV E.m.mod E.fn E.params pc (E.v st p) x = (E.v s1 p, some (pc, 27)) := by
  unfold stepV
  rw [if_neg (by omega), if_neg (by omega), if_neg (by omega), if_neg (by omega), if_neg (by omega), if_neg (by omega), if_neg (by omega), if_pos ho, carryE (by decide) h1]
  simp
theorem shl_lt {m X : Nat} (h3 : X ≤ 3) (h : m / 2 ^ X = 0) : (m : Int) < 2 ^ X := by
  have : m < 2 ^ X := (Nat.div_eq_zero_iff.1 h).resolve_left (Nat.ne_of_gt (Nat.pow_pos (by decide)))
  exact_mod_cast this
theorem shl_ge {m X : Nat} (h3 : X ≤ 3) (h : ¬ m / 2 ^ X = 0) : ¬ (m : Int) < 2 ^ X := by
  intro h1
  exact h (Nat.div_eq_of_lt (by exact_mod_cast h1))
/- a type that was got -/
theorem got_ok {s : ByteArray} {want g : Nat} {ok : Bool} (h : ∀ i, i < st.size → bAt st i ≠ 64) (hw : want ≠ 64) (hp : popS st p want = (s, g, ok)) : g ≠ 64 ∧ ∀ i, i < s.size → bAt s i ≠ 64 := by
  unfold popS at hp
  by_cases h0 : st.size = 0
  · rw [if_pos h0] at hp
    simp at hp
    obtain ⟨rfl, rfl, _⟩ := hp
    exact ⟨hw, h⟩
  · rw [if_neg h0] at hp
    simp only [Prod.mk.injEq] at hp
    obtain ⟨h1, h2, _⟩ := hp
    subst h1
    refine ⟨?_, fun i hi => ?_⟩
    · rw [← h2]
      split
      · exact hw
      · exact h _ (by omega)
    · have hs : i < st.size - 1 := by rw [ByteArray.size_extract] at hi; omega
      have e : bAt (st.extract 0 (st.size - 1)) i = bAt st i := by
        have hb : ∀ (s : ByteArray) (i : Nat), bAt s i = (s.data.toList.getD i 0).toNat := fun s i => by unfold bAt; simp
        have hd : (st.extract 0 (st.size - 1)).data.toList = st.data.toList.take (st.size - 1) := by
          rw [ByteArray.data_extract]
          simp [List.dropLast_eq_take, ba_size]
        rw [hb, hb, hd]
        simp only [List.getD_eq_getElem?_getD]
        rw [List.getElem?_take_of_lt hs]
      rw [e]
      exact h i (by omega)
/- the locals -/
theorem bAt_app {a b : ByteArray} (i : Nat) : bAt (a ++ b) i = if i < a.size then bAt a i else bAt b (i - a.size) := by
  have hd : (a ++ b).data.toList = a.data.toList ++ b.data.toList := by rw [ByteArray.data_append]; simp
  have hb : ∀ (s : ByteArray) (i : Nat), bAt s i = (s.data.toList.getD i 0).toNat := fun s i => by unfold bAt; simp
  have ha : a.data.toList.length = a.size := ba_size a
  rw [hb, hb, hb, hd]
  simp only [List.getD_eq_getElem?_getD]
  split
  · rw [List.getElem?_append_left (by omega)]
  · rw [List.getElem?_append_right (by omega), ha]
theorem loc_sz (hO : Ok189 E) : E.loc.size ≤ 10 := by
  have := hO.par.1
  have := hO.fnk.nl
  rw [hO.loc, ByteArray.size_append]
  omega
theorem loc_ok (hO : Ok189 E) {X : Nat} (h : X < E.loc.size) : isVal (bAt E.loc X) ∧ localV E.params E.fn.locals (X : Int) = some (bAt E.loc X) := by
  rw [hO.loc] at h ⊢
  refine ⟨?_, loc_get h⟩
  rw [ByteArray.size_append] at h
  rw [bAt_app]
  split
  · rename_i h1; exact hO.par.2 _ h1
  · exact hO.fnk.locals _ (by omega)
theorem loc_no (hO : Ok189 E) {X : Nat} (h : ¬ X < E.loc.size) : localV E.params E.fn.locals (X : Int) = none := by
  rw [hO.loc] at h
  exact loc_none h
end
end Go.Proofs.Qxb6500275aGreatDoor
