import Derived.Test.Qxb6500275aGreatDoorHod0
set_option maxRecDepth 100000
set_option linter.unusedVariables false
set_option linter.unusedSimpArgs false
namespace Go.Proofs.Qxb6500275aGreatDoor
open Go Go.RowKit
section
variable {w w' : World} {hb bb tb : Nat} {T : Nat → Prop} {H : Hm}
/- the methods -/
theorem me_189 (v : Value) (w : World) : (method 487 189 v "Call").run Tryz.prog w = .ok (338, v) w := by kernel_rfl
theorem me_189w (v : Value) (w : World) : (method 487 189 v "Wants").run Tryz.prog w = .ok (339, v) w := by kernel_rfl
theorem me_248 (v : Value) (w : World) : (method 487 248 v "Call").run Tryz.prog w = .ok (342, v) w := by kernel_rfl
theorem me_250 (v : Value) (w : World) : (method 487 250 v "Call").run Tryz.prog w = .ok (343, v) w := by kernel_rfl
theorem me_251 (v : Value) (w : World) : (method 487 251 v "Call").run Tryz.prog w = .ok (344, v) w := by kernel_rfl
/- what Call comes to -/
def Co (w : World) (hb bb tb : Nat) (T : Nat → Prop) (r : Nat × Nat × Hm) (en : Ending) (w' : World) : Prop := en = .returned (.tuple #[.int .u64 (r.1 : Int), .int .i64 (r.2.1 : Int)]) ∧ Kp (fun k => k = hb ∨ k = tb) w w' ∧ Hw w' hb bb tb T r.2.2
theorem tr_room (hO : HmOk H) (hr : H.rows < 12) : H.tr.length + 72 ≤ 864 := by
  have := hO.tr.1
  omega
set_option maxHeartbeats 8000000 in
theorem call_calls (h : Hw w hb bb tb T H) (hO : HmOk H) (k : Nat) (hk : k < H.bd.length) (vs : List Nat) (hv4 : vs.length ≤ 4) (hvr : ∀ v, v ∈ vs → v < 18446744073709551616) {ao : Option Addr} {cc : Nat} (cs : 0 < vs.length → ∃ sk o, ao = some ⟨sk, o, none⟩ ∧ sk ≠ tb ∧ sk ≠ hb ∧ ∀ (i v : Nat), vs[i]? = some v → w.cell? ⟨sk, o + i, none⟩ = some (.int .u64 (v : Int)))
    (want : Nat) (hw : want < 256) (pages : Nat) (hp : pages ≤ 6) : Calls Tryz.prog 107 #[.pointer (some ⟨hb, 0, none⟩), .int .i64 k, .slice ao vs.length cc, .int .u8 want, .int .i64 pages] w (Co w hb bb tb T (callH H k vs want pages)) := by
  obtain ⟨X, hX⟩ : ∃ X, callH H k vs want pages = X := ⟨_, rfl⟩
  rw [hX]
  unfold callH at hX
  obtain ⟨head, c0, _, _, c9, c10, fz, _⟩ := h.c
  have HH : Hid _ := h
  obtain ⟨n, hn⟩ : ∃ n, vs.length = n := ⟨_, rfl⟩
  obtain ⟨nb, hnb⟩ : ∃ nb, H.bd.length = nb := ⟨_, rfl⟩
  obtain ⟨r, hr⟩ : ∃ r, H.rows = r := ⟨_, rfl⟩
  have HN : Hid _ := hn
  have HNB : Hid _ := hnb
  have HR : Hid _ := hr
  have HC : Hid _ := cs
  have HVR : Hid _ := hvr
  have HO : Hid _ := hO
  rw [hn] at hv4 ⊢
  rw [hnb] at hk c0
  rw [hr] at c10 hX
  have g9 := fz 9 (by decide)
  have g10 := fz 10 (by decide)
  have hr12 : H.rows ≤ 12 := hO.rows
  rw [hr] at hr12
  have hb4 := hO.bd.1
  rw [hnb] at hb4
  clear h cs hvr hO fz hn hnb hr
  have hk1 : ¬ (k : Int) < 0 := by omega
  have hk2 : ¬ (nb : Int) ≤ (k : Int) := by omega
  have hn4 : ¬ (4 : Int) < (n : Int) := by omega
  by_cases h12 : 12 ≤ r
  · rw [if_pos h12] at hX
    have HX : Hid _ := hX
    clear hX
    have h12' : (12 : Int) ≤ (r : Int) := by omega
    have hbl := HH.out.lt.1
    go_enter Tryz.func107, Tryz.ntmps107
    go_wp2
    refine bodyPost_ret (v := .tuple #[.int .u64 0, .int .i64 48]) (by simp [results, Tryz.results107, go_sem]) rfl ?_
    rw [← HX.out]
    have hk : Kp (fun _ => False) w (w.alloc (.cells #[.slice ao n cc] 67)) := (Kp.refl _ _).alloc _
    exact ⟨rfl, hk.mono (fun _ h => h.elim), HH.out.keep hk (fun h => h) (fun h => h) (fun h => h) (fun _ _ h => h)⟩
  · rw [if_neg h12] at hX
    have HX : Hid _ := hX
    clear hX
    have h12' : ¬ (12 : Int) ≤ (r : Int) := by omega
    have hmf := mkFn
    obtain ⟨hbl, _, htl⟩ := HH.out.lt
    obtain ⟨len, hlen⟩ : ∃ len, H.tr.length = len := ⟨_, rfl⟩
    have HLN : Hid _ := hlen
    rw [hlen] at c9
    have hroom := tr_room HO.out (by rw [HR.out]; omega)
    rw [hlen] at hroom
    obtain ⟨⟨F, G, C, head, b1, b2, b3, hl⟩, d1, d2, d3, t⟩ := HH.out
    obtain ⟨w2, hr2, hA⟩ := caA b1 b3 d2 (.slice ao n cc) r k len hroom
    have hB := caB (vs := vs) (ao := ao) (cc := cc) (a := .nilFunc) (by rw [HN.out]; exact hA) hbl htl d2 hroom (by rw [HN.out]; exact hv4) HVR.out HC.out
    have HD : Hid _ := And.intro d1 (And.intro d2 (And.intro d3 t))
    have HB1 : Hid _ := b1
    have HB2 : Hid _ := b2
    have HB3 : Hid _ := b3
    have HL1 : Hid _ := hl
    have hw2l := hA.sz
    clear b1 b2 b3 hl d1 d2 d3 t hA hlen
    unfold w1C at hr2
    unfold w4C at hB
    go_enter Tryz.func107, Tryz.ntmps107
    go_wp2_with (at_builtin; refine wpList_app rfl _ _ 104 rfl hr2 ?_)
    refine hB.mono ?_
    rintro en w5 ⟨rfl, h5⟩
    obtain ⟨kd, hkd⟩ : ∃ kd, H.bd[k]? = some kd := ⟨_, List.getElem?_eq_getElem (by rw [HNB.out]; exact hk)⟩
    obtain ⟨w7, hr7, ⟨v9, c97⟩, g97, k8, hH8, cb7, c07, vf, ck7, hfc⟩ := caC (len := len) (n := n) (by rw [HLN.out, HR.out]; exact h5) HB1.out HB2.out HB3.out HL1.out HD.out.1 HD.out.2.1 HD.out.2.2.1 HD.out.2.2.2 (by rw [HLN.out]; exact hroom) (by rw [HN.out]; exact hv4) (by omega) hkd HLN.out HN.out
    have cx := h5.cx
    rw [HN.out] at cx
    have HK8 : Hid _ := k8
    have HH8 : Hid _ := hH8
    have hgd : H.bd.getD k 0 = kd := by rw [List.getD_eq_getElem?_getD, hkd]; rfl
    rw [hgd] at HX
    rw [HNB.out] at c07
    rw [HN.out] at cb7
    have hne := HD.out.1
    have hbbl := HH.out.lt.2.1
    clear hB hr2 k8 hH8 HB1 HB2 HB3 HL1 h5 hkd hgd c0 c9 c10 g9 g10
    have hk4 : (k : Int) < (nb : Int) := by omega
    unfold fnH at HX
    rcases hfc with ⟨rfl, fb, rfl, hTf, hBf⟩ | ⟨rfl, rfl⟩ | ⟨rfl, rfl⟩ | ⟨rfl, rfl⟩
    · have a279 := ta_189_279
      have me := me_189
      have mew := me_189w
      rw [if_pos rfl] at HX
      have hwa := fun v => fWants_calls (w7.setCell ⟨hb, 9, none⟩ (.slice (some ⟨tb, 0, none⟩) (len + 3 + 17 * n + 1) 864)) v
      have hfb := hBf.cell (i := 0) (by decide)
      by_cases hw0 : want = 0
      · subst hw0
        rw [if_pos rfl] at HX
        have hO : Co w hb bb tb T (0, 0, tracedH H k vs) (.returned (.tuple #[.int .u64 0, .int .i64 0])) (w7.setCell ⟨hb, 9, none⟩ (.slice (some ⟨tb, 0, none⟩) (len + 3 + 17 * n + 1) 864)) := ⟨rfl, HK8.out, HH8.out⟩
        rw [HX.out] at hO
        have HCO : Hid _ := hO
        clear hO
        go_wp2_with (at_builtin; refine wpList_app rfl _ _ 104 rfl hr7 ?_)
        refine (hwa _).mono ?_
        rintro en w9 ⟨rfl, rfl⟩
        go_wp2_with fail
        exact bodyPost_ret (v := .tuple #[.int .u64 0, .int .i64 0]) (by simp [results, Tryz.results107, go_sem]) rfl HCO.out
      · have hw0' : ((want : Int) == 0) = false := by simp; omega
        rw [if_neg hw0] at HX
        have hfn := fun a => fTape_calls HH8.out hfb a (pages : Int)
        have hvr2 : ∀ v H', takeH (tracedH H k vs) = some (v, H') → v < 18446744073709551616 := fun v H' e => by
          have h1 := HO.out.tp.2
          unfold takeH tracedH at e
          dsimp only at e
          cases ht : H.tp with
          | nil => rw [ht] at e; simp at e
          | cons a r =>
            rw [ht] at e
            simp at e
            rw [← e.1]
            exact h1 a (by rw [ht]; simp)
        cases hts : takeH (tracedH H k vs) with
        | none =>
          rw [hts] at HX hfn
          dsimp only at HX hfn
          unfold hmK at hfn
          go_wp2_with (at_builtin; refine wpList_app rfl _ _ 104 rfl hr7 ?_)
          refine (hfn _).mono ?_
          rintro en w9 ⟨rfl, k9, h9⟩
          have hO : Co w hb bb tb T (0, 47, tracedH H k vs) (.returned (.tuple #[.int .u64 0, .int .i64 47])) w9 := ⟨rfl, HK8.out.trans (k9.mono (fun _ h => .inl h)), h9⟩
          rw [HX.out] at hO
          have HCO : Hid _ := hO
          clear hO k9 h9 hfn
          go_wp2_with fail
          exact bodyPost_ret (v := .tuple #[.int .u64 0, .int .i64 47]) (by simp [results, Tryz.results107, go_sem]) rfl HCO.out
        | some p =>
          obtain ⟨v, H'⟩ := p
          have hvr3 := hvr2 v H' hts
          rw [hts] at HX hfn
          dsimp only at HX hfn
          unfold hmK at hfn
          have hcu := fun W => cut_calls2 W want hw (v : Int) (by omega)
          have hcr := (cutB_r (t := want) (v := (v : Int)) (by omega)).1
          go_wp2_with (at_builtin; refine wpList_app rfl _ _ 104 rfl hr7 ?_)
          refine (hfn _).mono ?_
          rintro en w9 ⟨rfl, k9, h9⟩
          have hO : Co w hb bb tb T ((cutB want (v : Int)).toNat, 0, H') (.returned (.tuple #[.int .u64 (cutB want (v : Int)), .int .i64 0])) w9 := ⟨by dsimp only; rw [Int.toNat_of_nonneg hcr]; rfl, HK8.out.trans (k9.mono (fun _ h => .inl h)), h9⟩
          rw [HX.out] at hO
          have HCO : Hid _ := hO
          clear hO k9 h9 hfn
          go_wp2_with fail
          refine (hcu _).mono ?_
          rintro en w10 ⟨rfl, rfl⟩
          go_wp2_with fail
          exact bodyPost_ret (v := .tuple #[.int .u64 (cutB want (v : Int)), .int .i64 0]) (by simp [results, Tryz.results107, go_sem]) rfl HCO.out
    · have a279 := ta_248_279
      have me := me_248
      rw [if_neg (by omega), if_pos rfl] at HX
      have hfn := fun a b => fZero_calls (w7.setCell ⟨hb, 9, none⟩ (.slice (some ⟨tb, 0, none⟩) (len + 3 + 17 * n + 1) 864)) a b
      have hcu := fun W => cut_calls2 W want hw 0 (by omega)
      go_wp2_with (at_builtin; refine wpList_app rfl _ _ 104 rfl hr7 ?_)
      refine (hfn _ _).mono ?_
      rintro en w9 ⟨rfl, k9⟩
      have HK9 : Hid _ := k9
      clear k9 hfn
      have hO : Co w hb bb tb T (0, 0, tracedH H k vs) (.returned (.tuple #[.int .u64 0, .int .i64 0])) w9 := ⟨rfl, HK8.out.trans (HK9.out.mono (fun _ h => h.elim)), HH8.out.keep HK9.out (fun h => h) (fun h => h) (fun h => h) (fun _ _ h => h)⟩
      rw [HX.out] at hO
      have HCO : Hid _ := hO
      clear hO
      by_cases hw0 : want = 0
      · subst hw0
        go_wp2_with fail
        exact bodyPost_ret (v := .tuple #[.int .u64 0, .int .i64 0]) (by simp [results, Tryz.results107, go_sem]) rfl HCO.out
      · have hw0' : ((want : Int) == 0) = false := by simp; omega
        have hc0 : cutB want 0 = 0 := by unfold cutB; split <;> rfl
        rw [hc0] at hcu
        go_wp2_with fail
        refine (hcu _).mono ?_
        rintro en w10 ⟨rfl, rfl⟩
        go_wp2_with fail
        exact bodyPost_ret (v := .tuple #[.int .u64 0, .int .i64 0]) (by simp [results, Tryz.results107, go_sem]) rfl HCO.out
    · have a279 := ta_250_279
      have me := me_250
      rw [if_neg (by omega), if_neg (by omega), if_pos rfl] at HX
      have hfn := fun a => fSize_calls (w7.setCell ⟨hb, 9, none⟩ (.slice (some ⟨tb, 0, none⟩) (len + 3 + 17 * n + 1) 864)) a pages hp
      have hcu := fun W => cut_calls2 W want hw (pages : Int) (by omega)
      go_wp2_with (at_builtin; refine wpList_app rfl _ _ 104 rfl hr7 ?_)
      refine (hfn _).mono ?_
      rintro en w9 ⟨rfl, rfl⟩
      clear hfn
      by_cases hw0 : want = 0
      · subst hw0
        rw [if_pos rfl] at HX
        have hO : Co w hb bb tb T (0, 0, tracedH H k vs) (.returned (.tuple #[.int .u64 0, .int .i64 0])) (w7.setCell ⟨hb, 9, none⟩ (.slice (some ⟨tb, 0, none⟩) (len + 3 + 17 * n + 1) 864)) := ⟨rfl, HK8.out, HH8.out⟩
        rw [HX.out] at hO
        have HCO : Hid _ := hO
        clear hO
        go_wp2_with fail
        exact bodyPost_ret (v := .tuple #[.int .u64 0, .int .i64 0]) (by simp [results, Tryz.results107, go_sem]) rfl HCO.out
      · have hw0' : ((want : Int) == 0) = false := by simp; omega
        rw [if_neg hw0] at HX
        have hcr := (cutB_r (t := want) (v := (pages : Int)) (by omega)).1
        have hO : Co w hb bb tb T ((cutB want (pages : Int)).toNat, 0, tracedH H k vs) (.returned (.tuple #[.int .u64 (cutB want (pages : Int)), .int .i64 0])) (w7.setCell ⟨hb, 9, none⟩ (.slice (some ⟨tb, 0, none⟩) (len + 3 + 17 * n + 1) 864)) := ⟨by dsimp only; rw [Int.toNat_of_nonneg hcr]; rfl, HK8.out, HH8.out⟩
        rw [HX.out] at hO
        have HCO : Hid _ := hO
        clear hO
        go_wp2_with fail
        refine (hcu _).mono ?_
        rintro en w10 ⟨rfl, rfl⟩
        go_wp2_with fail
        exact bodyPost_ret (v := .tuple #[.int .u64 (cutB want (pages : Int)), .int .i64 0]) (by simp [results, Tryz.results107, go_sem]) rfl HCO.out
    · have a279 := ta_251_279
      have me := me_251
      rw [if_neg (by omega), if_neg (by omega), if_neg (by omega)] at HX
      have hfn := fun a b => fTrap_calls (w7.setCell ⟨hb, 9, none⟩ (.slice (some ⟨tb, 0, none⟩) (len + 3 + 17 * n + 1) 864)) a b
      have hO : Co w hb bb tb T (0, 49, tracedH H k vs) (.returned (.tuple #[.int .u64 0, .int .i64 49])) (w7.setCell ⟨hb, 9, none⟩ (.slice (some ⟨tb, 0, none⟩) (len + 3 + 17 * n + 1) 864)) := ⟨rfl, HK8.out, HH8.out⟩
      rw [HX.out] at hO
      have HCO : Hid _ := hO
      clear hO
      go_wp2_with (at_builtin; refine wpList_app rfl _ _ 104 rfl hr7 ?_)
      refine (hfn _ _).mono ?_
      rintro en w9 ⟨rfl, rfl⟩
      clear hfn
      go_wp2_with fail
      exact bodyPost_ret (v := .tuple #[.int .u64 0, .int .i64 49]) (by simp [results, Tryz.results107, go_sem]) rfl HCO.out
end
end Go.Proofs.Qxb6500275aGreatDoor
