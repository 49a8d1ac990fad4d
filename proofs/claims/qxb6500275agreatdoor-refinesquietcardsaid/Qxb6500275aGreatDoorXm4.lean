import Derived.Test.Qxb6500275aGreatDoorXm3
set_option linter.unusedVariables false
set_option linter.unusedSimpArgs false
set_option maxRecDepth 100000
namespace Go.Proofs.Qxb6500275aGreatDoor
open Go Go.RowKit
/- what is asked of the numeric operators and the loads -/
structure NumX (num : NumF0) : Prop where
  ok : NumOk num
  n69 : ∀ a : Nat, a < 4294967296 → num 69 (a : Int) 0 = ((if a = 0 then 1 else 0 : Int), 0)
  n106 : ∀ a b : Nat, a < 4294967296 → b < 4294967296 → num 106 (a : Int) (b : Int) = ((((a + b) % 4294967296 : Nat) : Int), 0)
  r32 : ∀ (o a b : Nat), 69 ≤ o → o ≤ 191 → a < 18446744073709551616 → b < 18446744073709551616 → (numSig o).2.2 = 127 → (num o (a : Int) (b : Int)).1 < 4294967296
def LdOk : Prop := ∀ (S : Sm) (op a o : Nat) (v : Int), SmOk S → 40 ≤ op → op ≤ 53 → (memSig op).2.1 = 127 → loadS S op a o = some v → v < 4294967296
section
variable {C : XC} {t0 : Ty} {q : MQ} {p : Nat × Xs} {r : MF} {rest : List MF} {k : Nat} {fn : Fn} {t : Ty} {cells : List Ins} {below : List Nat} {aw : List Nat}
/- the top operand -/
theorem RelX.top1 (h : RelX C t0 q p r rest k fn t cells below) {a : Nat} {rs : List Nat} (e : (vsAt C.M fn t r.pc).ops = a :: rs) : ∃ l0 v, r.ops = l0 ++ [v] ∧ v.t = a ∧ rs = (l0.map MV.t).reverse ∧ rs.length = l0.length ∧ VOk v ∧ (∀ u, u ∈ r.loc ∨ u ∈ l0 → VOk u) ∧ p.2.ws = (below ++ bitsM r.loc ++ bitsM l0) ++ [v.b] := by
  obtain ⟨f, rr, hc, hf, hdd, hfl, hz, hops⟩ := h.vst
  rw [hops] at e
  obtain ⟨l0, v, hl, hv, hr⟩ := snoc_of e
  refine ⟨l0, v, hl, hv, hr, by rw [hr]; simp, h.at_.ok v (.inr (by rw [hl]; simp)), fun u hu => h.at_.ok u ?_, by rw [h.ws, hl, bitsM_app]; simp [bitsM]⟩
  rcases hu with hu | hu
  · exact .inl hu
  · exact .inr (by rw [hl]; exact List.mem_append_left _ hu)
theorem RelX.top2 (h : RelX C t0 q p r rest k fn t cells below) {a b : Nat} {rs : List Nat} (e : (vsAt C.M fn t r.pc).ops = a :: b :: rs) : ∃ l0 u v, r.ops = l0 ++ [u] ++ [v] ∧ v.t = a ∧ u.t = b ∧ rs = (l0.map MV.t).reverse ∧ rs.length = l0.length ∧ VOk v ∧ VOk u ∧ (∀ u, u ∈ r.loc ∨ u ∈ l0 → VOk u) ∧ p.2.ws = (below ++ bitsM r.loc ++ bitsM l0) ++ [u.b, v.b] := by
  obtain ⟨l1, v, hl, hv, hr, hrl, hok, hal, hw⟩ := h.top1 e
  obtain ⟨l0, u, hl2, hu, hr2⟩ := snoc_of hr.symm
  subst hl2
  refine ⟨l0, u, v, hl, hv, hu, hr2, by rw [hr2]; simp, hok, hal u (.inr (by simp)), fun x hx => hal x ?_, by rw [hw, bitsM_app]; simp [bitsM]⟩
  rcases hx with hx | hx
  · exact .inl hx
  · exact .inr (List.mem_append_left _ hx)
theorem tysB_get {b : ByteArray} {i : Nat} (h : i < b.size) : (tysB b)[i]? = some (bAt b i) := by
  unfold tysB bAt
  rw [List.getElem?_map, List.getD_eq_getElem?_getD]
  have : i < b.data.toList.length := by simpa using h
  rw [List.getElem?_eq_getElem this]
  rfl
theorem tysB_len (b : ByteArray) : (tysB b).length = b.size := by unfold tysB; rw [List.length_map]; rfl
theorem localV_at {a b : ByteArray} {x : Int} {ty : Nat} (hx : 0 ≤ x) (h : localV a b x = some ty) : (tysB a ++ tysB b)[x.toNat]? = some ty := by
  unfold localV at h
  rcases iteC h with ⟨h1, h⟩ | ⟨h1, h⟩
  · simp at h
    rw [List.getElem?_append_left (by rw [tysB_len]; omega), tysB_get (by omega), h]
  rcases iteC h with ⟨h2, h⟩ | ⟨h2, h⟩
  · rw [List.getElem?_append_right (by rw [tysB_len]; omega), tysB_len, tysB_get (by omega), show x.toNat - a.size = (x - a.size).toNat by omega]
    exact h
  · simp at h
theorem loc_at {r : MF} {l : List Nat} {i ty : Nat} (hl : r.loc.map MV.t = l) (h : l[i]? = some ty) : ∃ v, r.loc[i]? = some v ∧ v.t = ty := by
  rw [← hl, List.getElem?_map] at h
  cases hv : r.loc[i]? with
  | none => rw [hv] at h; simp at h
  | some v => rw [hv] at h; simp at h; exact ⟨v, rfl, h⟩
theorem ws_loc {A : List Nat} {loc ops : List MV} {i : Nat} {v : MV} (h : loc[i]? = some v) : (A ++ bitsM loc ++ bitsM ops).getD (A.length + i) 0 = v.b := by
  have hi := (List.getElem?_eq_some_iff.1 h).1
  rw [List.getD_eq_getElem?_getD, List.append_assoc, List.getElem?_append_right (by omega), Nat.add_sub_cancel_left, List.getElem?_append_left (by rw [bitsM_len]; exact hi)]
  unfold bitsM
  rw [List.getElem?_map, h]
  rfl
theorem ws_set {A : List Nat} {loc : List MV} {B : List Nat} {i : Nat} (v : MV) (hi : i < loc.length) : (A ++ bitsM loc ++ B).set (A.length + i) v.b = A ++ bitsM (loc.set i v) ++ B := by
  rw [List.append_assoc, List.set_append_right _ _ (by omega), Nat.add_sub_cancel_left, List.set_append_left _ _ (by rw [bitsM_len]; exact hi), ← List.append_assoc]
  unfold bitsM
  rw [List.map_set]
theorem set_types {loc : List MV} {i : Nat} {v u : MV} (h : loc[i]? = some u) (ht : v.t = u.t) : (loc.set i v).map MV.t = loc.map MV.t := by
  rw [List.map_set, ht]
  apply List.ext_getElem?
  intro j
  rw [List.getElem?_set]
  split
  · rename_i e
    subst e
    split
    · rw [List.getElem?_map, h]; rfl
    · rename_i hl
      have := (List.getElem?_eq_some_iff.1 h).1
      simp at hl
      omega
  · rfl
theorem mem_set_of {loc : List MV} {i : Nat} {v u : MV} (h : u ∈ loc.set i v) : u ∈ loc ∨ u = v := List.mem_or_eq_of_mem_set h
set_option maxHeartbeats 1000000 in
theorem RelX.const (h : RelX C t0 q p r rest k fn t cells below) (ho : 65 ≤ (opAt fn r.pc).op ∧ (opAt fn r.pc).op ≤ 68) : Sim1 C t0 q p := by
  obtain ⟨f, rr, hc, hf, hdd, hfl, hz, hops⟩ := h.vst
  have hst := h.stepv (by omega)
  have hpl : plainV C.M t.p fn.locals (vsAt C.M fn t r.pc) (opAt fn r.pc) = ((vsAt C.M fn t r.pc), constOfV (opAt fn r.pc).op, 0) := by unfold plainV; rw [if_neg (show ¬ ((opAt fn r.pc).op = 16 ∨ (opAt fn r.pc).op = 17) by omega), if_neg (show ¬ ((opAt fn r.pc).op = 26) by omega), if_neg (show ¬ ((opAt fn r.pc).op = 27) by omega), if_neg (show ¬ (32 ≤ (opAt fn r.pc).op ∧ (opAt fn r.pc).op ≤ 34) by omega), if_neg (show ¬ ((opAt fn r.pc).op = 35 ∨ (opAt fn r.pc).op = 36) by omega), if_neg (show ¬ (40 ≤ (opAt fn r.pc).op ∧ (opAt fn r.pc).op ≤ 64) by omega), if_pos (show 65 ≤ (opAt fn r.pc).op ∧ (opAt fn r.pc).op ≤ 68 by omega)]
  rw [hpl] at hst
  obtain ⟨g0, g1, g2, g3⟩ := give_ty hst
  dsimp only at g0 g1 g2 g3
  have hcv : constOfV (opAt fn r.pc).op = 127 - ((opAt fn r.pc).op - 65) := by unfold constOfV; rw [if_neg (by omega)]
  rw [hcv] at g2 g3
  have hlen : r.ops.length < 10 := by
    have := g3 (by omega)
    rw [hops] at this
    simpa using this
  have hy := h.opR.y
  unfold u64R at hy
  have hmem : opAt fn r.pc ∈ fn.body := by
    unfold opAt
    rw [List.getD_eq_getElem?_getD, List.getElem?_eq_getElem h.at_.lt]
    exact List.getElem_mem _
  have hvok : VOk ⟨127 - ((opAt fn r.pc).op - 65), (opAt fn r.pc).y.toNat⟩ := ⟨by unfold isVal; dsimp only; omega, by dsimp only; omega, fun e => by
    dsimp only at e ⊢
    have := h.fz.y65 _ hmem (by omega)
    omega⟩
  refine h.plain (by omega) (fun n hn => ⟨(0, ⟨{ r with pc := r.pc + 1, ops := r.ops ++ [⟨127 - ((opAt fn r.pc).op - 65), (opAt fn r.pc).y.toNat⟩] } :: rest, n, p.2.S, p.2.H⟩), by unfold deedM; dsimp only; rw [if_neg (show ¬ ((opAt fn r.pc).op = 0) by omega), if_neg (show ¬ ((opAt fn r.pc).op = 1) by omega), if_neg (show ¬ ((opAt fn r.pc).op = 4) by omega), if_neg (show ¬ ((opAt fn r.pc).op = 12) by omega), if_neg (show ¬ ((opAt fn r.pc).op = 13) by omega), if_neg (show ¬ ((opAt fn r.pc).op = 14) by omega), if_neg (show ¬ ((opAt fn r.pc).op = 15) by omega), if_neg (show ¬ ((opAt fn r.pc).op = 16) by omega), if_neg (show ¬ ((opAt fn r.pc).op = 17) by omega), if_neg (show ¬ ((opAt fn r.pc).op = 26) by omega), if_neg (show ¬ ((opAt fn r.pc).op = 27) by omega), if_neg (show ¬ (32 ≤ (opAt fn r.pc).op ∧ (opAt fn r.pc).op ≤ 34) by omega), if_neg (show ¬ ((opAt fn r.pc).op = 35 ∨ (opAt fn r.pc).op = 36) by omega), if_neg (show ¬ (40 ≤ (opAt fn r.pc).op ∧ (opAt fn r.pc).op ≤ 64) by omega), if_pos (show 65 ≤ (opAt fn r.pc).op ∧ (opAt fn r.pc).op ≤ 68 by omega)]; rw [pushM_ok (by exact hlen)]; rfl, ?_⟩)
  refine h.goes (loc' := r.loc) (ops' := r.ops ++ [⟨127 - ((opAt fn r.pc).op - 65), (opAt fn r.pc).y.toNat⟩]) (by omega) rfl ?_ g1 (by rw [ty_rev_app, g2, if_neg (by omega), hops]; rfl) rfl (fun v hv => ?_) h.gl2
  · unfold coreX; rw [if_neg (show ¬ ((opAt fn r.pc).op = 0) by omega), if_neg (show ¬ ((opAt fn r.pc).op = 1) by omega), if_neg (show ¬ ((opAt fn r.pc).op = 4) by omega), if_neg (show ¬ ((opAt fn r.pc).op = 224) by omega), if_neg (show ¬ ((opAt fn r.pc).op = 13) by omega), if_neg (show ¬ ((opAt fn r.pc).op = 12) by omega), if_neg (show ¬ ((opAt fn r.pc).op = 14) by omega), if_neg (show ¬ ((opAt fn r.pc).op = 15 ∨ (opAt fn r.pc).op = 11) by omega), if_neg (show ¬ ((opAt fn r.pc).op = 16) by omega), if_neg (show ¬ ((opAt fn r.pc).op = 17) by omega), if_neg (show ¬ ((opAt fn r.pc).op = 33) by omega), if_neg (show ¬ ((opAt fn r.pc).op = 26) by omega), if_neg (show ¬ ((opAt fn r.pc).op = 34) by omega), if_neg (show ¬ ((opAt fn r.pc).op = 32) by omega), if_neg (show ¬ ((opAt fn r.pc).op = 27) by omega), if_neg (show ¬ ((opAt fn r.pc).op = 35) by omega), if_neg (show ¬ ((opAt fn r.pc).op = 36) by omega), if_neg (show ¬ ((opAt fn r.pc).op = 63) by omega), if_neg (show ¬ ((opAt fn r.pc).op = 64) by omega), if_pos (show 65 ≤ (opAt fn r.pc).op ∧ (opAt fn r.pc).op ≤ 68 by omega)]
    rw [bitsM_app, ← List.append_assoc, ← h.ws]
    rfl
  · rcases hv with hv | hv
    · exact h.at_.ok v (.inl hv)
    · rcases List.mem_append.1 hv with hv | hv
      · exact h.at_.ok v (.inr hv)
      · simp at hv; subst hv; exact hvok
set_option maxHeartbeats 1000000 in
theorem RelX.lget (h : RelX C t0 q p r rest k fn t cells below) (ho : (opAt fn r.pc).op = 32) : Sim1 C t0 q p := by
  obtain ⟨f, rr, hc, hf, hdd, hfl, hz, hops⟩ := h.vst
  have hx := h.opR.x
  unfold u32R at hx
  have hst := h.stepv (by omega)
  have hpl : plainV C.M t.p fn.locals (vsAt C.M fn t r.pc) (opAt fn r.pc) = (match localV t.p fn.locals (opAt fn r.pc).x with | none => ((vsAt C.M fn t r.pc), 64, 22) | some ty => ((vsAt C.M fn t r.pc), ty, 0)) := by
    unfold plainV
    rw [if_neg (by omega), if_neg (by omega), if_neg (by omega), if_pos (by omega)]
    cases localV t.p fn.locals (opAt fn r.pc).x with
    | none => rfl
    | some ty => dsimp only; rw [if_pos ho]
  rw [hpl] at hst
  cases hlv : localV t.p fn.locals (opAt fn r.pc).x with
  | none => rw [hlv] at hst; have := (give_ty hst).1; simp at this
  | some ty =>
    rw [hlv] at hst
    obtain ⟨g0, g1, g2, g3⟩ := give_ty hst
    dsimp only at g0 g1 g2 g3
    obtain ⟨v, hv, hvt⟩ := loc_at h.at_.loc (localV_at hx.1 hlv)
    have hvok := h.at_.ok v (.inl (List.mem_of_getElem? hv))
    have hty64 : ty ≠ 64 := by rw [← hvt]; exact isVal_ne hvok.ty
    have hlen : r.ops.length < 10 := by
      have := g3 hty64
      rw [hops] at this
      simpa using this
    have hal := h.at_.ok
    refine h.plain (by omega) (fun n hn => ⟨(0, ⟨{ r with pc := r.pc + 1, ops := r.ops ++ [v] } :: rest, n, p.2.S, p.2.H⟩), by unfold deedM; dsimp only; rw [if_neg (show ¬ ((opAt fn r.pc).op = 0) by omega), if_neg (show ¬ ((opAt fn r.pc).op = 1) by omega), if_neg (show ¬ ((opAt fn r.pc).op = 4) by omega), if_neg (show ¬ ((opAt fn r.pc).op = 12) by omega), if_neg (show ¬ ((opAt fn r.pc).op = 13) by omega), if_neg (show ¬ ((opAt fn r.pc).op = 14) by omega), if_neg (show ¬ ((opAt fn r.pc).op = 15) by omega), if_neg (show ¬ ((opAt fn r.pc).op = 16) by omega), if_neg (show ¬ ((opAt fn r.pc).op = 17) by omega), if_neg (show ¬ ((opAt fn r.pc).op = 26) by omega), if_neg (show ¬ ((opAt fn r.pc).op = 27) by omega), if_pos (show 32 ≤ (opAt fn r.pc).op ∧ (opAt fn r.pc).op ≤ 34 by omega)]; unfold localM; dsimp only; rw [hv]; dsimp only; rw [if_pos ho, pushM_ok (by exact hlen)]; rfl, ?_⟩)
    refine h.goes (loc' := r.loc) (ops' := r.ops ++ [v]) (by omega) rfl ?_ g1 (by rw [ty_rev_app, g2, if_neg hty64, hops, hvt]; rfl) rfl (fun v hv => ?_) h.gl2
    · unfold coreX; rw [if_neg (show ¬ ((opAt fn r.pc).op = 0) by omega), if_neg (show ¬ ((opAt fn r.pc).op = 1) by omega), if_neg (show ¬ ((opAt fn r.pc).op = 4) by omega), if_neg (show ¬ ((opAt fn r.pc).op = 224) by omega), if_neg (show ¬ ((opAt fn r.pc).op = 13) by omega), if_neg (show ¬ ((opAt fn r.pc).op = 12) by omega), if_neg (show ¬ ((opAt fn r.pc).op = 14) by omega), if_neg (show ¬ ((opAt fn r.pc).op = 15 ∨ (opAt fn r.pc).op = 11) by omega), if_neg (show ¬ ((opAt fn r.pc).op = 16) by omega), if_neg (show ¬ ((opAt fn r.pc).op = 17) by omega), if_neg (show ¬ ((opAt fn r.pc).op = 33) by omega), if_neg (show ¬ ((opAt fn r.pc).op = 26) by omega), if_neg (show ¬ ((opAt fn r.pc).op = 34) by omega), if_pos (show (opAt fn r.pc).op = 32 by omega)]
      dsimp only
      rw [h.base, h.ws, ws_loc hv, bitsM_app, ← List.append_assoc]
      rfl
    · rcases hv with hv | hv
      · exact hal v (.inl hv)
      · rcases List.mem_append.1 hv with hv | hv
        · exact hal v (.inr hv)
        · simp at hv; subst hv; exact hvok
set_option maxHeartbeats 1000000 in
theorem RelX.lset (h : RelX C t0 q p r rest k fn t cells below) (ho : (opAt fn r.pc).op = 33) : Sim1 C t0 q p := by
  obtain ⟨f, rr, hc, hf, hdd, hfl, hz, hops⟩ := h.vst
  have hx := h.opR.x
  unfold u32R at hx
  have hst := h.stepv (by omega)
  have hpl : plainV C.M t.p fn.locals (vsAt C.M fn t r.pc) (opAt fn r.pc) = (match localV t.p fn.locals (opAt fn r.pc).x with | none => ((vsAt C.M fn t r.pc), 64, 22) | some ty => ((carryV (vsAt C.M fn t r.pc) ty).1, 64, typedV (carryV (vsAt C.M fn t r.pc) ty).2)) := by
    unfold plainV
    rw [if_neg (by omega), if_neg (by omega), if_neg (by omega), if_pos (by omega)]
    cases localV t.p fn.locals (opAt fn r.pc).x with
    | none => rfl
    | some ty => dsimp only; rw [if_neg (by omega), if_pos ho]
  rw [hpl] at hst
  cases hlv : localV t.p fn.locals (opAt fn r.pc).x with
  | none => rw [hlv] at hst; have := (give_ty hst).1; simp at this
  | some ty =>
    rw [hlv] at hst
    obtain ⟨g0, g1, g2, g3⟩ := give_ty hst
    dsimp only at g0 g1 g2 g3
    obtain ⟨lv, hlvv, hvt⟩ := loc_at h.at_.loc (localV_at hx.1 hlv)
    have hlok := h.at_.ok lv (.inl (List.mem_of_getElem? hlvv))
    have hty : isVal ty := by rw [← hvt]; exact hlok.ty
    have hty64 := isVal_ne hty
    obtain ⟨rs, e1, e2, e4⟩ := carry_ty hc hf hdd hty (typedV0 g0) hz
    rw [e2] at g1 g2 g3
    dsimp only at g1 g2 g3
    obtain ⟨l0, v, hl, hv, hr, hrl, hvok, hal, hw⟩ := h.top1 e1
    have hpop : popM { r with pc := r.pc + 1 } lv.t = some (v, { r with pc := r.pc + 1, ops := l0 }) := popM_snoc hl (by show r.floor ≤ _; rw [hfl, ← hrl]; exact e4) (.inr (by rw [hv, hvt]))
    have hil := (List.getElem?_eq_some_iff.1 hlvv).1
    refine h.plain (by omega) (fun n hn => ⟨(0, ⟨{ r with pc := r.pc + 1, loc := r.loc.set (opAt fn r.pc).x.toNat v, ops := l0 } :: rest, n, p.2.S, p.2.H⟩), by unfold deedM; dsimp only; rw [if_neg (show ¬ ((opAt fn r.pc).op = 0) by omega), if_neg (show ¬ ((opAt fn r.pc).op = 1) by omega), if_neg (show ¬ ((opAt fn r.pc).op = 4) by omega), if_neg (show ¬ ((opAt fn r.pc).op = 12) by omega), if_neg (show ¬ ((opAt fn r.pc).op = 13) by omega), if_neg (show ¬ ((opAt fn r.pc).op = 14) by omega), if_neg (show ¬ ((opAt fn r.pc).op = 15) by omega), if_neg (show ¬ ((opAt fn r.pc).op = 16) by omega), if_neg (show ¬ ((opAt fn r.pc).op = 17) by omega), if_neg (show ¬ ((opAt fn r.pc).op = 26) by omega), if_neg (show ¬ ((opAt fn r.pc).op = 27) by omega), if_pos (show 32 ≤ (opAt fn r.pc).op ∧ (opAt fn r.pc).op ≤ 34 by omega)]; unfold localM; dsimp only; rw [hlvv]; dsimp only; rw [if_neg (show ¬ (opAt fn r.pc).op = 32 by omega), hpop]; dsimp only; rw [if_neg (show ¬ (opAt fn r.pc).op = 34 by omega)]; rfl, ?_⟩)
    refine h.goes (loc' := r.loc.set (opAt fn r.pc).x.toNat v) (ops' := l0) (by omega) rfl ?_ g1 (by rw [g2, if_pos rfl, hr]; rfl) (set_types hlvv (by rw [hv, hvt])) (fun u hu => ?_) h.gl2
    · have hw1 := ws1 (s := { p.2 with pc := p.2.pc + 1 }) (by exact hw)
      unfold coreX; rw [if_neg (show ¬ ((opAt fn r.pc).op = 0) by omega), if_neg (show ¬ ((opAt fn r.pc).op = 1) by omega), if_neg (show ¬ ((opAt fn r.pc).op = 4) by omega), if_neg (show ¬ ((opAt fn r.pc).op = 224) by omega), if_neg (show ¬ ((opAt fn r.pc).op = 13) by omega), if_neg (show ¬ ((opAt fn r.pc).op = 12) by omega), if_neg (show ¬ ((opAt fn r.pc).op = 14) by omega), if_neg (show ¬ ((opAt fn r.pc).op = 15 ∨ (opAt fn r.pc).op = 11) by omega), if_neg (show ¬ ((opAt fn r.pc).op = 16) by omega), if_neg (show ¬ ((opAt fn r.pc).op = 17) by omega), if_pos (show (opAt fn r.pc).op = 33 by omega)]
      rw [hw1.1]
      dsimp only
      have hlen1 : (below ++ bitsM r.loc ++ bitsM l0 ++ [v.b]).length - 1 = (below ++ bitsM (r.loc.set (opAt fn r.pc).x.toNat v) ++ bitsM l0).length := by simp [bitsM_len]; omega
      rw [h.base, hw, hlen1, List.append_assoc (below ++ bitsM r.loc), ws_set v hil, ← List.append_assoc, List.take_left]
    · rcases hu with hu | hu
      · rcases mem_set_of hu with hu | hu
        · exact hal u (.inl hu)
        · subst hu; exact hvok
      · exact hal u (.inr hu)
set_option maxHeartbeats 1000000 in
theorem RelX.ltee (h : RelX C t0 q p r rest k fn t cells below) (ho : (opAt fn r.pc).op = 34) : Sim1 C t0 q p := by
  obtain ⟨f, rr, hc, hf, hdd, hfl, hz, hops⟩ := h.vst
  have hx := h.opR.x
  unfold u32R at hx
  have hst := h.stepv (by omega)
  have hpl : plainV C.M t.p fn.locals (vsAt C.M fn t r.pc) (opAt fn r.pc) = (match localV t.p fn.locals (opAt fn r.pc).x with | none => ((vsAt C.M fn t r.pc), 64, 22) | some ty => ((carryV (vsAt C.M fn t r.pc) ty).1, ty, typedV (carryV (vsAt C.M fn t r.pc) ty).2)) := by
    unfold plainV
    rw [if_neg (by omega), if_neg (by omega), if_neg (by omega), if_pos (by omega)]
    cases localV t.p fn.locals (opAt fn r.pc).x with
    | none => rfl
    | some ty => dsimp only; rw [if_neg (by omega), if_neg (by omega)]
  rw [hpl] at hst
  cases hlv : localV t.p fn.locals (opAt fn r.pc).x with
  | none => rw [hlv] at hst; have := (give_ty hst).1; simp at this
  | some ty =>
    rw [hlv] at hst
    obtain ⟨g0, g1, g2, g3⟩ := give_ty hst
    dsimp only at g0 g1 g2 g3
    obtain ⟨lv, hlvv, hvt⟩ := loc_at h.at_.loc (localV_at hx.1 hlv)
    have hlok := h.at_.ok lv (.inl (List.mem_of_getElem? hlvv))
    have hty : isVal ty := by rw [← hvt]; exact hlok.ty
    have hty64 := isVal_ne hty
    obtain ⟨rs, e1, e2, e4⟩ := carry_ty hc hf hdd hty (typedV0 g0) hz
    rw [e2] at g1 g2 g3
    dsimp only at g1 g2 g3
    obtain ⟨l0, v, hl, hv, hr, hrl, hvok, hal, hw⟩ := h.top1 e1
    have hpop : popM { r with pc := r.pc + 1 } lv.t = some (v, { r with pc := r.pc + 1, ops := l0 }) := popM_snoc hl (by show r.floor ≤ _; rw [hfl, ← hrl]; exact e4) (.inr (by rw [hv, hvt]))
    have hil := (List.getElem?_eq_some_iff.1 hlvv).1
    have hlen : l0.length < 10 := by have := g3 hty64; omega
    refine h.plain (by omega) (fun n hn => ⟨(0, ⟨{ r with pc := r.pc + 1, loc := r.loc.set (opAt fn r.pc).x.toNat v, ops := l0 ++ [v] } :: rest, n, p.2.S, p.2.H⟩), by unfold deedM; dsimp only; rw [if_neg (show ¬ ((opAt fn r.pc).op = 0) by omega), if_neg (show ¬ ((opAt fn r.pc).op = 1) by omega), if_neg (show ¬ ((opAt fn r.pc).op = 4) by omega), if_neg (show ¬ ((opAt fn r.pc).op = 12) by omega), if_neg (show ¬ ((opAt fn r.pc).op = 13) by omega), if_neg (show ¬ ((opAt fn r.pc).op = 14) by omega), if_neg (show ¬ ((opAt fn r.pc).op = 15) by omega), if_neg (show ¬ ((opAt fn r.pc).op = 16) by omega), if_neg (show ¬ ((opAt fn r.pc).op = 17) by omega), if_neg (show ¬ ((opAt fn r.pc).op = 26) by omega), if_neg (show ¬ ((opAt fn r.pc).op = 27) by omega), if_pos (show 32 ≤ (opAt fn r.pc).op ∧ (opAt fn r.pc).op ≤ 34 by omega)]; unfold localM; dsimp only; rw [hlvv]; dsimp only; rw [if_neg (show ¬ (opAt fn r.pc).op = 32 by omega), hpop]; dsimp only; rw [if_pos (show (opAt fn r.pc).op = 34 by omega), pushM_ok (by exact hlen)]; rfl, ?_⟩)
    refine h.goes (loc' := r.loc.set (opAt fn r.pc).x.toNat v) (ops' := l0 ++ [v]) (by omega) rfl ?_ g1 (by rw [ty_rev_app, g2, if_neg hty64, hr, hv]; rfl) (set_types hlvv (by rw [hv, hvt])) (fun u hu => ?_) h.gl2
    · have hw1 := ws1 (s := { p.2 with pc := p.2.pc + 1 }) (by exact hw)
      unfold coreX; rw [if_neg (show ¬ ((opAt fn r.pc).op = 0) by omega), if_neg (show ¬ ((opAt fn r.pc).op = 1) by omega), if_neg (show ¬ ((opAt fn r.pc).op = 4) by omega), if_neg (show ¬ ((opAt fn r.pc).op = 224) by omega), if_neg (show ¬ ((opAt fn r.pc).op = 13) by omega), if_neg (show ¬ ((opAt fn r.pc).op = 12) by omega), if_neg (show ¬ ((opAt fn r.pc).op = 14) by omega), if_neg (show ¬ ((opAt fn r.pc).op = 15 ∨ (opAt fn r.pc).op = 11) by omega), if_neg (show ¬ ((opAt fn r.pc).op = 16) by omega), if_neg (show ¬ ((opAt fn r.pc).op = 17) by omega), if_neg (show ¬ ((opAt fn r.pc).op = 33) by omega), if_neg (show ¬ ((opAt fn r.pc).op = 26) by omega), if_pos (show (opAt fn r.pc).op = 34 by omega)]
      rw [hw1.1]
      dsimp only
      rw [h.base, hw, List.append_assoc, ws_set v hil, bitsM_app, ← List.append_assoc]
      simp [bitsM]
    · rcases hu with hu | hu
      · rcases mem_set_of hu with hu | hu
        · exact hal u (.inl hu)
        · subst hu; exact hvok
      · rcases List.mem_append.1 hu with hu | hu
        · exact hal u (.inr hu)
        · simp at hu; subst hu; exact hvok
end
end Go.Proofs.Qxb6500275aGreatDoor
