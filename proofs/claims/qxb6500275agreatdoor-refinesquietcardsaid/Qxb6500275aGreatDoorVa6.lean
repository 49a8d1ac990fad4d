import Derived.Test.Qxb6500275aGreatDoorVa5
set_option maxRecDepth 100000
set_option linter.unusedVariables false
set_option linter.unusedSimpArgs false
namespace Go.Proofs.Qxb6500275aGreatDoor
open Go Go.RowKit
/- a state that may be popped: f is the innermost block -/
structure VW (v : VS) (f : VF) (r : List VF) : Prop where
  is : ∃ o, v = ⟨o, f :: r⟩ ∧ f.floor ≤ o.length ∧ ∀ t ∈ o, t < 256
section
variable {w : World} {vb mb : Nat} {v : VS} {f : VF} {r : List VF} {M : Mod}
theorem VW.pop (h : VW v f r) (t : Nat) : VW (popV v t).1 f r := by
  obtain ⟨o, rfl, h1, h2⟩ := h.is
  obtain ⟨o2, h3, h4, h5⟩ := popV_ops (f := f) (r := r) (want := t) h1
  exact ⟨o2, h3, h4, fun t ht => h2 t (h5 t ht)⟩
theorem VW.carry (h : VW v f r) (t : Nat) : VW (carryV v t).1 f r := by
  obtain ⟨o, rfl, h1, h2⟩ := h.is
  obtain ⟨o2, h3, h4, h5⟩ := carryV_ops (f := f) (r := r) (t := t) h1
  exact ⟨o2, h3, h4, fun t ht => h2 t (h5 t ht)⟩
theorem VW.pops (h : VW v f r) (ts : List Nat) : VW (popsV v ts).1 f r := by
  obtain ⟨o, rfl, h1, h2⟩ := h.is
  obtain ⟨o2, h3, h4, h5⟩ := popsV_ops (f := f) (r := r) ts o h1
  exact ⟨o2, h3, h4, fun t ht => h2 t (h5 t ht)⟩
theorem VW.ty (h : VW v f r) {t : Nat} (ht : t < 256) : (popV v t).2.1 < 256 := by
  obtain ⟨o, rfl, h1, h2⟩ := h.is
  exact popV_ty h1 h2 ht
theorem popW (h : Vd w vb v) (hw : VW v f r) (t : Nat) (ht : t < 256) : Calls Tryz.prog 202 #[.pointer (some ⟨vb, 0, none⟩), .int .u8 t] w (VC vb w (.tuple #[.int .u8 (popV v t).2.1, .bool (popV v t).2.2]) (popV v t).1) := by
  obtain ⟨o, rfl, h1, h2⟩ := hw.is
  exact pop_calls h h1 h2 t ht
theorem carryW (h : Vd w vb v) (hw : VW v f r) (t : Nat) (ht : t < 256) : Calls Tryz.prog 149 #[.pointer (some ⟨vb, 0, none⟩), .int .u8 t] w (VC vb w (.bool (carryV v t).2) (carryV v t).1) := by
  obtain ⟨o, rfl, h1, h2⟩ := hw.is
  exact carry_calls h h1 h2 t ht
theorem popsW (h : Vd w vb v) (hw : VW v f r) (p : ByteArray) (hp : p.size ≤ 4) : Calls Tryz.prog 263 #[.pointer (some ⟨vb, 0, none⟩), .string p] w (VC vb w (.bool (popsV v (argsV p)).2) (popsV v (argsV p)).1) := by
  obtain ⟨o, rfl, h1, h2⟩ := hw.is
  exact pops_calls h h1 h2 p hp
def encR (x : VR) : Value := .tuple #[.int .u8 x.2.1, .int .i64 x.2.2]
theorem Kp.none {S : Nat → Prop} {a b : World} (h : Kp (fun _ => False) a b) : Kp S a b := h.mono fun k hk => hk.elim
set_option maxHeartbeats 2000000 in
theorem sel_calls (h : Vd w vb v) (hw : VW v f r) : Calls Tryz.prog 205 #[.pointer (some ⟨vb, 0, none⟩)] w (VC vb w (encR (selV v)) (selV v).1) := by
  have HV : Hid _ := h
  have hw1 := hw.carry 127
  have hc1 := carryW h hw 127 (by decide)
  obtain ⟨X, hX⟩ : ∃ X, selV v = X := ⟨_, rfl⟩
  have HS : Hid (X = selV v) := hX.symm
  rw [hX]
  unfold selV at HS
  clear hX
  generalize carryV v 127 = c at *
  obtain ⟨v1, b1⟩ := c
  dsimp only at hw1 hc1 HS
  clear h hw
  go_enter Tryz.func205, Tryz.ntmps205
  go_wp2_with fail
  refine hc1.mono ?_
  rintro en w2 ⟨rfl, hv2, hk2⟩
  clear hc1
  cases b1 with
  | false =>
    rw [if_neg (by decide)] at HS
    go_wp2
    go_ret2
    go_light
    rw [HS.out]
    exact ⟨rfl, hv2, hk2⟩
  | true =>
    rw [if_pos rfl] at HS
    have hw2 := hw1.pop 0
    have hc2 := popW hv2 hw1 0 (by decide)
    have ht2 := hw1.ty (t := 0) (by decide)
    generalize popV v1 0 = c at *
    obtain ⟨v2, t2, b2⟩ := c
    dsimp only at hw2 hc2 ht2 HS
    have HK2 : Hid _ := hk2
    clear hv2 hk2 HV
    go_wp2_with fail
    refine hc2.mono ?_
    rintro en w3 ⟨rfl, hv3, hk3⟩
    clear hc2
    cases b2 with
    | false =>
      rw [if_neg (by decide)] at HS
      go_wp2
      go_ret2
      go_light
      rw [HS.out]
      exact ⟨rfl, hv3, HK2.out.trans hk3⟩
    | true =>
      rw [if_pos rfl] at HS
      have hc3 := popW hv3 hw2 t2 ht2
      have ht3 := hw2.ty (t := t2) ht2
      generalize popV v2 t2 = c at *
      obtain ⟨v3, t3, b3⟩ := c
      dsimp only at hc3 ht3 HS
      have HK3 : Hid _ := HK2.out.trans hk3
      clear hv3 hk3 HK2
      go_wp2_with fail
      refine hc3.mono ?_
      rintro en w4 ⟨rfl, hv4, hk4⟩
      clear hc3
      have HV4 : Hid _ := hv4
      have HK4 : Hid _ := HK3.out.trans hk4
      clear hv4 hk4 HK3
      go_wp2_with (go_at_call 204; refine (typed_calls b3).mono ?_; rintro en w5 ⟨rfl, hk5⟩)
      go_ret2
      go_light
      rw [HS.out]
      exact ⟨rfl, HV4.out.keep hk5 (fun h => h), HK4.out.trans hk5.none⟩
theorem typeOf_ok (hM : ModOk M) {x : Int} {t : Ty} (h : M.typeOf x = some t) : TyOk t := by
  unfold Mod.typeOf Mod.typeAt at h
  split at h
  · simp at h
  · exact hM.types t (List.mem_of_getElem? h)
/- what stands about the module while a body is walked -/
structure SV (w : World) (vb mb : Nat) (M : Mod) (v : VS) : Prop where
  vd : Vd w vb v
  md : Md w mb M
  ok : ModOk M
  lt : vb < mb
theorem SV.step {w' : World} {v' : VS} (h : SV w vb mb M v) (hk : Kp (· = vb) w w') (hv : Vd w' vb v') : SV w' vb mb M v' := ⟨hv, h.md.keep hk (fun k hk => by rw [hk]; exact h.lt), h.ok, h.lt⟩
theorem SV.new {w' : World} (h : SV w vb mb M v) (hk : Kp (fun _ => False) w w') : SV w' vb mb M v := ⟨h.vd.keep hk (fun h => h), h.md.keep hk (fun k hk => hk.elim), h.ok, h.lt⟩
/- the end of 'call': the type t is found -/
set_option maxHeartbeats 4000000 in
theorem call16_calls (h : SV w vb mb M v) (hw : VW v f r) (x : Ins) (hx : InsOk x) (ho : x.op = 16) : Calls Tryz.prog 203 #[.pointer (some ⟨vb, 0, none⟩), .pointer (some ⟨mb, 0, none⟩), x.val] w (VC vb w (encR (callV M v x)) (callV M v x).1) := by
  have hxr := hx.x
  unfold u32R at hxr
  have hA := h.new (w' := w.alloc (.cells #[.int .u8 16, .int .u32 x.x, .int .u64 x.y] 129)) ((Kp.refl _ _).alloc _)
  have hc1 := typeOf_calls hA.ok hA.md x.x (by omega)
  have hok : ∀ t, M.typeOf x.x = some t → TyOk t := fun t => typeOf_ok h.ok
  obtain ⟨R, hR⟩ : ∃ R, callV M v x = R := ⟨_, rfl⟩
  have HS : Hid (R = callV M v x) := hR.symm
  rw [hR]
  unfold callV at HS
  rw [if_pos ho] at HS
  obtain ⟨op, X, Y⟩ := x
  dsimp only at ho hxr hc1 hok hA HS
  subst ho
  generalize M.typeOf X = o at *
  have HA : Hid _ := hA
  clear h hx hA hR
  unfold Ins.val
  dsimp only
  cases o with
  | none =>
    unfold encT at hc1
    dsimp only at hc1 HS
    go_enter Tryz.func203, Tryz.ntmps203
    go_wp2_with fail
    refine hc1.mono ?_
    rintro en w2 ⟨rfl, hk2⟩
    clear hc1
    go_wp2
    go_ret2
    go_light
    rw [HS.out]
    exact ⟨rfl, (HA.out.new hk2).vd, ((Kp.refl _ _).alloc _).trans hk2.none⟩
  | some t =>
    unfold encT at hc1
    dsimp only at hc1 HS
    have ht := hok t rfl
    have HT : Hid _ := ht
    clear hok ht
    go_enter Tryz.func203, Tryz.ntmps203
    go_wp2_with fail
    refine hc1.mono ?_
    rintro en w2 ⟨rfl, hk2⟩
    have HA2 : Hid _ := HA.out.new hk2
    have HK2 : Hid (Kp (fun k => k = vb) w w2) := ((Kp.refl _ _).alloc _).trans hk2.none
    clear hc1 hk2 HA
    go_wp2_with (first | (go_at_call 86; refine (split_calls t HT.out.p HT.out.np HT.out.nq).mono ?_; rintro en w3 ⟨rfl, hk3⟩) | (go_at_call 263; refine (popsW (HA2.out.new hk3).vd hw t.p HT.out.np).mono ?_; rintro en w4 ⟨rfl, hv4, hk4⟩) | (go_at_call 147; refine (first_calls t.q HT.out.nq).mono ?_; rintro en w5 ⟨rfl, hk5⟩) | (go_at_call 204; refine (typed_calls _).mono ?_; rintro en w6 ⟨rfl, hk6⟩))
    go_ret2
    go_light
    rw [HS.out]
    exact ⟨rfl, (hv4.keep hk5 (fun h => h)).keep hk6 (fun h => h), (((HK2.out.trans hk3.none).trans hk4).trans hk5.none).trans hk6.none⟩
set_option maxHeartbeats 4000000 in
theorem call17_calls (h : SV w vb mb M v) (hw : VW v f r) (x : Ins) (hx : InsOk x) (ho : x.op = 17) : Calls Tryz.prog 203 #[.pointer (some ⟨vb, 0, none⟩), .pointer (some ⟨mb, 0, none⟩), x.val] w (VC vb w (encR (callV M v x)) (callV M v x).1) := by
  have hxr := hx.x
  unfold u32R at hxr
  have hA := h.new (w' := w.alloc (.cells #[.int .u8 17, .int .u32 x.x, .int .u64 x.y] 129)) ((Kp.refl _ _).alloc _)
  obtain ⟨R, hR⟩ : ∃ R, callV M v x = R := ⟨_, rfl⟩
  have HS : Hid (R = callV M v x) := hR.symm
  rw [hR]
  unfold callV at HS
  rw [if_neg (by omega)] at HS
  obtain ⟨op, X, Y⟩ := x
  dsimp only at ho hxr hA HS
  subst ho
  obtain ⟨X, rfl⟩ := Int.eq_ofNat_of_zero_le hxr.1
  rw [Int.toNat_natCast] at HS
  obtain ⟨ta, ia, fa, c0, _, _, tat, _, _⟩ := h.md.lists
  have c3 : w.cell? ⟨mb, 3, none⟩ = some (.int .i64 M.tabMin) := by
    obtain ⟨F, hB, hF⟩ := h.md.is
    rw [hB.cell (by decide), hF.tm]
  have htm := h.ok.tabMin
  have hnt := h.ok.nt
  have hml := h.md.lt
  have HM : Hid _ := h.ok
  unfold limR at htm
  have HA : Hid _ := hA
  clear h hx hA hR
  unfold Ins.val
  dsimp only
  by_cases h0 : M.tabMin < 0
  · rw [if_pos h0] at HS
    go_enter Tryz.func203, Tryz.ntmps203
    go_wp2
    go_ret2
    go_light
    rw [HS.out]
    exact ⟨rfl, HA.out.vd, (Kp.refl _ _).alloc _⟩
  · rw [if_neg h0] at HS
    by_cases hT : X < M.types.length
    · obtain ⟨t, ht⟩ : ∃ t, M.types[X]? = some t := ⟨_, List.getElem?_eq_getElem hT⟩
      rw [ht] at HS
      dsimp only at HS
      obtain ⟨tk, rfl, ct⟩ := tat X t ht
      have HT : Hid (TyOk t) := HM.out.types t (List.mem_of_getElem? ht)
      have htk : tk < w.heap.size := lt_of_cell ct
      generalize M.types.length = nt at *
      have g1 : decide ((nt : Int) ≤ (X : Int)) = false := decide_eq_false (by omega)
      have g2 : (X : Int) < (nt : Int) := by omega
      clear tat ht HM
      have hw1 := hw.carry 127
      have hcc := fun (w' : World) (hv : Vd w' vb v) => carryW hv hw 127 (by decide)
      generalize carryV v 127 = c at *
      obtain ⟨v1, b1⟩ := c
      dsimp only at hw1 hcc HS
      go_enter Tryz.func203, Tryz.ntmps203
      go_wp2_with fail
      go_quiet (fail)
      go_wp2_with fail
      go_quiet (fail)
      go_wp2_with fail
      refine (hcc _ (HA.out.new ((Kp.refl _ _).drewM _)).vd).mono ?_
      rintro en w2 ⟨rfl, hv2, hk2⟩
      have HV2 : Hid _ := hv2
      have HK2 : Hid (Kp (fun k => k = vb) w w2) := (((Kp.refl _ _).alloc _).drewM _).trans hk2
      clear hcc hv2 hk2 HA
      cases b1 with
      | false =>
        rw [if_neg (by decide)] at HS
        go_wp2
        go_ret2
        go_light
        rw [HS.out]
        exact ⟨rfl, HV2.out, HK2.out⟩
      | true =>
        rw [if_pos rfl] at HS
        go_wp2_with (first | (go_at_call 86; refine (split_calls t HT.out.p HT.out.np HT.out.nq).mono ?_; rintro en w3 ⟨rfl, hk3⟩) | (go_at_call 263; refine (popsW (HV2.out.keep hk3 (fun h => h)) hw1 t.p HT.out.np).mono ?_; rintro en w4 ⟨rfl, hv4, hk4⟩) | (go_at_call 147; refine (first_calls t.q HT.out.nq).mono ?_; rintro en w5 ⟨rfl, hk5⟩) | (go_at_call 204; refine (typed_calls _).mono ?_; rintro en w6 ⟨rfl, hk6⟩))
        go_ret2
        go_light
        rw [HS.out]
        exact ⟨rfl, (hv4.keep hk5 (fun h => h)).keep hk6 (fun h => h), (((HK2.out.trans hk3.none).trans hk4).trans hk5.none).trans hk6.none⟩
    · have hn : M.types[X]? = none := List.getElem?_eq_none (by omega)
      rw [hn] at HS
      dsimp only at HS
      generalize M.types.length = nt at *
      have g1 : (nt : Int) ≤ (X : Int) := by omega
      clear tat HM
      go_enter Tryz.func203, Tryz.ntmps203
      go_wp2_with fail
      go_quiet (fail)
      go_wp2
      go_ret2
      go_light
      rw [HS.out]
      exact ⟨rfl, (HA.out.new ((Kp.refl _ _).drewM _)).vd, ((Kp.refl _ _).alloc _).drewM _⟩
end
end Go.Proofs.Qxb6500275aGreatDoor
