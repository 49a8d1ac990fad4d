import Derived.Test.Qxb6500275aGreatDoorVa2
set_option maxRecDepth 100000
set_option linter.unusedVariables false
set_option linter.unusedSimpArgs false
namespace Go.Proofs.Qxb6500275aGreatDoor
open Go Go.RowKit
theorem text_p (t : Ty) : t.text.extract 0 t.p.size = t.p := by
  apply ByteArray.ext
  simp [Ty.text, colon, ByteArray.data_extract, ByteArray.data_append]
theorem colon_size : ({ data := #[58] } : ByteArray).size = 1 := rfl
theorem text_size (t : Ty) : t.text.size = t.p.size + 1 + t.q.size := by
  simp [Ty.text, colon, colon_size]
theorem text_list (t : Ty) : t.text.data.toList = t.p.data.toList ++ 58 :: t.q.data.toList := by
  simp [Ty.text, colon]
theorem text_q (t : Ty) : t.text.extract (t.p.size + 1) t.text.size = t.q := by
  apply ByteArray.ext
  apply Array.ext'
  have h1 : t.p.size = t.p.data.toList.length := rfl
  have h2 : t.q.data.toList.length = t.q.size := rfl
  rw [ByteArray.data_extract, Array.toList_extract, text_list, text_size, List.extract_eq_take_drop, h1]
  rw [List.drop_append, List.drop_eq_nil_of_le (by omega)]
  simp only [List.nil_append]
  rw [show t.p.data.toList.length + 1 - t.p.data.toList.length = 1 by omega, List.drop_one, List.tail_cons, List.take_of_length_le (by omega)]
theorem text_at (t : Ty) (i : Nat) (hi : i < t.p.size) : bAt t.text i = bAt t.p i := by
  unfold bAt
  congr 1
  have h1 : i < t.p.data.toList.length := hi
  simp only [Ty.text, colon, ByteArray.data_append, Array.toList_append, List.append_assoc]
  rw [List.getD_eq_getElem?_getD, List.getElem?_append_left h1, ← List.getD_eq_getElem?_getD]
theorem text_colon (t : Ty) : bAt t.text t.p.size = 58 := by
  unfold bAt
  simp [Ty.text, colon]
section
variable {w : World} {vb : Nat} {ops : List Nat} {f : VF} {r : List VF}
/- a function that leaves memory as it is -/
def Pure (w : World) (ret : Value) (en : Ending) (w' : World) : Prop := en = .returned ret ∧ Kp (fun _ => False) w w'
set_option maxHeartbeats 2000000 in
theorem split_calls (t : Ty) (hp : Vals t.p) (hs : t.p.size ≤ 4) (hq : t.q.size ≤ 1) : Calls Tryz.prog 86 #[.string t.text] w (Pure w (.tuple #[.string t.p, .string t.q])) := by
  obtain ⟨s, hs0⟩ : ∃ s, t.text = s := ⟨_, rfl⟩
  have h1 := text_p t
  have h2 := text_q t
  have h3 := text_size t
  have h4 : ∀ i, i < t.p.size → ¬ bAt s i = 58 := fun i hi => by
    rw [← hs0, text_at t i hi]
    have := hp i hi
    unfold isVal at this
    omega
  have h5 := text_colon t
  rw [hs0] at h1 h2 h3 h5
  rw [hs0]
  obtain ⟨n, hn⟩ : ∃ n, t.p.size = n := ⟨_, rfl⟩
  rw [hn] at h1 h2 h3 h4 h5 hs
  have H1 : Hid _ := h1
  have H2 : Hid _ := h2
  have H4 : Hid _ := h4
  have H5 : Hid _ := h5
  have hlt : n < s.size := by omega
  have hs6 : s.size ≤ 6 := by omega
  clear h1 h2 h4 h5 h3 hn hs0 hp hq
  go_enter Tryz.func86, Tryz.ntmps86
  go_wp2
  go_loopw [4] (fun ii w1 => ∃ i : Nat, i ≤ n ∧ ii = .int .i64 i ∧ Kp (fun _ => False) w w1) (fun ii _ => n + 1 - (intOf ii).toNat)
  case atStart => exact ⟨0, by omega, rfl, Kp.refl _ _⟩
  case round =>
    obtain ⟨i, hi, rfl, hK⟩ := hrel
    have HK : Hid _ := hK
    have hil : i < s.size := by omega
    have hb := bAt_lt s i
    have hget : s[i].toNat = bAt s i := bAt_get s i hil
    clear hK
    by_cases hin : i = n
    · subst hin
      have h58 : s[i].toNat = 58 := by rw [hget]; exact H5.out
      have hib : (i : Int) < (s.size : Int) := by omega
      clear hget
      go_wp2_with fail
      go_quiet (fail)
      go_wp2
      go_ret2
      go_light
      refine ⟨?_, HK.out.drewM _⟩
      rw [← H1.out, ← H2.out]
      rfl
    · have hne : ((s[i].toNat : Int) == 58) = false := by
        rw [beq_eq_false_iff_ne, hget]
        have := H4.out i (by omega)
        omega
      go_wp2
      go_light
      exact ⟨⟨i + 1, by omega, by go_num, HK.out⟩, by simp [intOf]; omega⟩
/- the operands to take: the first k of p, the last first -/
def restP (p : ByteArray) (k : Nat) : List Nat := (p.data.toList.take k).reverse.map (·.toNat)
theorem restP_succ (p : ByteArray) (k : Nat) (hk : k < p.size) : restP p (k + 1) = bAt p k :: restP p k := by
  unfold restP
  have hk' : k < p.data.toList.length := hk
  rw [List.take_add_one, List.getElem?_eq_getElem hk']
  simp [bAt, List.getD_eq_getElem?_getD, hk]
theorem restP_all (p : ByteArray) : restP p p.size = p.data.toList.reverse.map (·.toNat) := by
  unfold restP
  rw [List.take_of_length_le (by exact Nat.le_refl _)]
theorem popsV_ops : ∀ (ts : List Nat) (ops : List Nat), f.floor ≤ ops.length → ∃ o, (popsV ⟨ops, f :: r⟩ ts).1 = ⟨o, f :: r⟩ ∧ f.floor ≤ o.length ∧ (∀ t ∈ o, t ∈ ops)
  | [], ops, hf => ⟨ops, rfl, hf, fun t h => h⟩
  | t :: ts, ops, hf => by
    obtain ⟨o, h1, h2, h3⟩ := popV_ops (f := f) (r := r) (want := t) hf
    rw [popsV]
    split
    · rw [h1]
      obtain ⟨o2, h4, h5, h6⟩ := popsV_ops ts o h2
      exact ⟨o2, h4, h5, fun t ht => h3 t (h6 t ht)⟩
    · exact ⟨o, h1, h2, h3⟩
set_option maxHeartbeats 2000000 in
theorem pops_calls (h : Vd w vb ⟨ops, f :: r⟩) (hf : f.floor ≤ ops.length) (hb : ∀ t ∈ ops, t < 256) (p : ByteArray) (hp : p.size ≤ 4) :
    Calls Tryz.prog 263 #[.pointer (some ⟨vb, 0, none⟩), .string p] w (VC vb w (.bool (popsV ⟨ops, f :: r⟩ (p.data.toList.reverse.map (·.toNat))).2) (popsV ⟨ops, f :: r⟩ (p.data.toList.reverse.map (·.toNat))).1) := by
  rw [← restP_all]
  obtain ⟨R, hR⟩ : ∃ R, popsV ⟨ops, f :: r⟩ (restP p p.size) = R := ⟨_, rfl⟩
  rw [hR]
  have HV : Hid _ := h
  have HB : Hid _ := hb
  have HR : Hid _ := hR
  obtain ⟨n, hn⟩ : ∃ n, p.size = n := ⟨_, rfl⟩
  have HN : Hid _ := hn
  rw [hn] at hp
  clear h hb hR
  go_enter Tryz.func263, Tryz.ntmps263
  go_wp2
  clear hn
  go_loopw [5] (fun ii w1 => ∃ (k : Nat) (o : List Nat), k ≤ n ∧ ii = .int .i64 ((k : Int) - 1) ∧ Vd w1 vb ⟨o, f :: r⟩ ∧ f.floor ≤ o.length ∧ (∀ t ∈ o, t < 256) ∧ Kp (· = vb) w w1 ∧ Hid (popsV ⟨o, f :: r⟩ (restP p k) = R)) (fun ii _ => (intOf ii + 1).toNat)
  case atStart => exact ⟨n, ops, by omega, rfl, HV.out, hf, HB.out, Kp.refl _ _, by rw [← HN.out]; exact HR⟩
  case round =>
    obtain ⟨k, o, hk, rfl, hv, hfo, hbo, hK, HP⟩ := hrel
    have HVo : Hid _ := hv
    have HBo : Hid _ := hbo
    have HK : Hid _ := hK
    clear hv hbo hK
    cases k with
    | zero =>
      go_wp2
      go_ret
      go_light
      have := HP.out
      rw [show restP p 0 = [] from rfl, popsV] at this
      subst this
      exact ⟨rfl, HVo.out, HK.out⟩
    | succ k =>
      have hkp : k < p.size := by rw [HN.out]; omega
      have hbk := bAt_lt p k
      have hget : p[k].toNat = bAt p k := bAt_get p k hkp
      have hki : ((k : Int) + 1 - 1) = (k : Int) := by omega
      rw [restP_succ p k hkp, popsV] at HP
      have hkc : (((k + 1 : Nat) : Int) - 1) = (k : Int) := by omega
      rw [hkc]
      by_cases hok : (popV ⟨o, f :: r⟩ (bAt p k)).2.2 = true
      · rw [if_pos hok] at HP
        obtain ⟨o2, h1, h2, h3⟩ := popV_ops (f := f) (r := r) (want := bAt p k) hfo
        rw [h1] at HP
        have H1 : Hid _ := h1
        have HOK : Hid _ := hok
        clear hok h1
        go_wp2_with (go_at_call 202; refine (pop_calls HVo.out hfo HBo.out (bAt p k) hbk).mono ?_; rintro en w2 ⟨rfl, hv2, hk2⟩; rw [HOK.out]; rw [H1.out] at hv2; have HV2 : Hid _ := hv2; have HK2 : Hid _ := hk2; clear hv2 hk2)
        go_light
        exact ⟨⟨k, o2, by omega, by go_num, HV2.out, h2, fun t ht => HBo.out t (h3 t ht), HK.out.trans HK2.out, HP⟩, by simp [intOf]⟩
      · rw [if_neg hok] at HP
        have hok' : (popV ⟨o, f :: r⟩ (bAt p k)).2.2 = false := by simpa using hok
        have HOK : Hid _ := hok'
        clear hok hok'
        go_wp2_with (go_at_call 202; refine (pop_calls HVo.out hfo HBo.out (bAt p k) hbk).mono ?_; rintro en w2 ⟨rfl, hv2, hk2⟩; rw [HOK.out]; have HV2 : Hid _ := hv2; have HK2 : Hid _ := hk2; clear hv2 hk2)
        go_ret
        go_light
        rw [← HP.out]
        exact ⟨rfl, HV2.out, HK.out.trans HK2.out⟩
end
end Go.Proofs.Qxb6500275aGreatDoor
