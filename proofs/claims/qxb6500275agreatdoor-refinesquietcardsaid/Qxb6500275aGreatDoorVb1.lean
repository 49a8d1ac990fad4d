import Derived.Test.Qxb6500275aGreatDoorVa9
import Derived.Test.Qxb6500275aGreatDoorSp5
import Derived.WalkMore
import Derived.Deep.LoopGhost
set_option maxRecDepth 100000
set_option linter.unusedVariables false
set_option linter.unusedSimpArgs false
namespace Go.Proofs.Qxb6500275aGreatDoor
open Go Go.RowKit
/- a function's row -/
structure FnC (w : World) (n0 fk fo : Nat) (fn : Fn) : Prop where
  le : n0 ≤ fk
  is : ∃ g : Nat → Value, (∀ c, c < 4 → w.cell? ⟨fk, fo + c, none⟩ = some (g c)) ∧ fnR n0 w fn g
theorem FnC.keep {w w' : World} {n0 fk fo : Nat} {fn : Fn} {S : Nat → Prop} (h : FnC w n0 fk fo fn) (hk : Kp S w w') (hs : ∀ k, S k → k < n0) : FnC w' n0 fk fo fn := by
  obtain ⟨g, h1, h2⟩ := h.is
  have hle := h.le
  refine ⟨hle, g, fun c hc => ?_, fnR_ok.keep _ _ _ _ _ _ h2 hk hs⟩
  rw [hk.cell (p := ⟨fk, fo + c, none⟩) (lt_of_cell (h1 c hc)) (fun h => by have := hs fk h; omega)]
  exact h1 c hc
theorem Md.fn {w : World} {mb : Nat} {M : Mod} (h : Md w mb M) : ∃ fa, w.cell? ⟨mb, 2, none⟩ = some (.slice fa M.funcs.length M.funcs.length) ∧ ∀ k fn, M.funcs[k]? = some fn → ∃ fk, fa = some ⟨fk, 0, none⟩ ∧ FnC w (mb + 1) fk (k * 4) fn := by
  obtain ⟨F, hB, hF⟩ := h.is
  obtain ⟨fa, f1, f2⟩ := hF.f.at_
  refine ⟨fa, by rw [hB.cell (by decide), f1], fun k fn hk => ?_⟩
  obtain ⟨fk, g, ha, hn, hc, hR⟩ := f2 k fn hk
  exact ⟨fk, ha, hn, g, hc, hR⟩
/- the row's cells -/
structure FnD (w : World) (fk fo : Nat) (fn : Fn) (ba ta : Option Addr) : Prop where
  c0 : w.cell? ⟨fk, fo, none⟩ = some (.int .i64 fn.ty)
  c1 : w.cell? ⟨fk, fo + 1, none⟩ = some (.string fn.locals)
  c2 : w.cell? ⟨fk, fo + 2, none⟩ = some (.slice ba fn.body.length fn.body.length)
  c3 : w.cell? ⟨fk, fo + 3, none⟩ = some (.slice ta fn.tabs.length fn.tabs.length)
  bat : ∀ i (x : Ins), fn.body[i]? = some x → ∃ k, ba = some ⟨k, 0, none⟩ ∧ w.cell? ⟨k, i * 3, none⟩ = some (.int .u8 x.op) ∧ w.cell? ⟨k, i * 3 + 1, none⟩ = some (.int .u32 x.x) ∧ w.cell? ⟨k, i * 3 + 2, none⟩ = some (.int .u64 x.y)
  tat : ∀ i t, fn.tabs[i]? = some t → ∃ k, ta = some ⟨k, 0, none⟩ ∧ w.cell? ⟨k, i, none⟩ = some (.int .u32 t)
theorem FnC.cells {w : World} {n0 fk fo : Nat} {fn : Fn} (h : FnC w n0 fk fo fn) : ∃ ba ta, FnD w fk fo fn ba ta := by
  obtain ⟨g, h1, ⟨h2, h3⟩, hI, hT⟩ := h.is
  obtain ⟨ba, b1, b2⟩ := hI.at_
  obtain ⟨ta, t1, t2⟩ := hT.at_
  have e0 := h1 0 (by decide)
  rw [Nat.add_zero] at e0
  refine ⟨ba, ta, by rw [e0, h2], by rw [h1 1 (by decide), h3], by rw [h1 2 (by decide), b1], by rw [h1 3 (by decide), t1], fun i x hx => ?_, fun i t ht => ?_⟩
  · obtain ⟨k, f, ha, _, hc, hR⟩ := b2 i x hx
    have e0 := hc 0 (by decide)
    rw [Nat.add_zero] at e0
    exact ⟨k, ha, by rw [e0, hR.1], by rw [hc 1 (by decide), hR.2.1], by rw [hc 2 (by decide), hR.2.2]⟩
  · obtain ⟨k, f, ha, _, hc, hR⟩ := t2 i t ht
    have e0 := hc 0 (by decide)
    rw [Nat.add_zero, Nat.mul_one] at e0
    exact ⟨k, ha, by rw [e0, hR]⟩
/- amid a body -/
structure SB (w w1 : World) (vb mb fk fo : Nat) (M : Mod) (fn : Fn) (v : VS) : Prop where
  sv : SV w1 vb mb M v
  fn : FnC w1 (mb + 1) fk fo fn
  kp : Kp (· = vb) w w1
section
variable {w w1 w2 : World} {vb mb fk fo : Nat} {M : Mod} {fn : Fn} {v v' : VS} {f : VF} {r : List VF}
theorem SB.step (h : SB w w1 vb mb fk fo M fn v) (hk : Kp (· = vb) w1 w2) (hv : Vd w2 vb v') : SB w w2 vb mb fk fo M fn v' := by
  have hlt := h.sv.lt
  exact ⟨h.sv.step hk hv, h.fn.keep hk (fun k hk => by omega), h.kp.trans hk⟩
theorem SB.new (h : SB w w1 vb mb fk fo M fn v) (hk : Kp (fun _ => False) w1 w2) : SB w w2 vb mb fk fo M fn v := ⟨h.sv.new hk, h.fn.keep hk (fun k hk => hk.elim), h.kp.trans hk.none⟩
/- a body begins -/
theorem Vd.begin (h : Vd w vb v) (res : Nat) : Vd ((((((w.setCell ⟨vb, 11, none⟩ (.int .i64 0)).setCell ⟨vb, 12, none⟩ (.int .u8 2)).setCell ⟨vb, 13, none⟩ (.int .u8 res)).setCell ⟨vb, 14, none⟩ (.int .i64 0)).setCell ⟨vb, 15, none⟩ (.bool false)).setCell ⟨vb, 40, none⟩ (.int .i64 1)) vb ⟨[], [⟨2, res, 0, false⟩]⟩ := by
  obtain ⟨F, h1, cO, nH, cC, nD, ⟨x, hx1, hx2, hx3⟩, lO, lC⟩ := h.is
  refine ⟨_, (((((h1.set (i := 11) (by decide) _).set (i := 12) (by decide) _).set (i := 13) (by decide) _).set (i := 14) (by decide) _).set (i := 15) (by decide) _).set (i := 40) (by decide) _, ?_, rfl, ?_, rfl, ⟨x, ?_, by simp, hx3⟩, by simp, by simp⟩
  · intro i t hi
    simp at hi
  · intro j g hg
    have hj := (List.getElem?_eq_some_iff.1 hg).1
    simp at hj
    subst hj
    simp at hg
    subst hg
    exact ⟨rfl, rfl, rfl, rfl⟩
  · exact hx1
set_option maxHeartbeats 2000000 in
theorem split_quiet (t : Ty) (hp : Vals t.p) (hs : t.p.size ≤ 4) (hq : t.q.size ≤ 1) : Calls Tryz.prog 86 #[.string t.text] w (fun e w' => e = .returned (.tuple #[.string t.p, .string t.q]) ∧ ∃ m, w' = w.drewN m) := by
  obtain ⟨s, hs0⟩ : ∃ s, t.text = s := ⟨_, rfl⟩
  have h1 := text_p t
  have h2 := text_q t
  have h3 := text_size t
  have h4 : ∀ i, i < t.p.size → ¬ bAt s i = 58 := fun i hi => by
    rw [← hs0, text_at t i hi]
    have := hp i hi
    unfold isVal at this
    omega
  have h5 := text_colon t
  rw [hs0] at h1 h2 h3 h5
  rw [hs0]
  obtain ⟨n, hn⟩ : ∃ n, t.p.size = n := ⟨_, rfl⟩
  rw [hn] at h1 h2 h3 h4 h5 hs
  have H1 : Hid _ := h1
  have H2 : Hid _ := h2
  have H4 : Hid _ := h4
  have H5 : Hid _ := h5
  have hlt : n < s.size := by omega
  have hs6 : s.size ≤ 6 := by omega
  clear h1 h2 h4 h5 h3 hn hs0 hp hq
  go_enter Tryz.func86, Tryz.ntmps86
  go_wp2
  go_loopw [4] (fun ii w1 => ∃ i : Nat, i ≤ n ∧ ii = .int .i64 i ∧ w1 = w) (fun ii _ => n + 1 - (intOf ii).toNat)
  case atStart => exact ⟨0, by omega, rfl, rfl⟩
  case round =>
    obtain ⟨i, hi, rfl, hK⟩ := hrel
    subst hK
    have hil : i < s.size := by omega
    have hb := bAt_lt s i
    have hget : s[i].toNat = bAt s i := bAt_get s i hil
    by_cases hin : i = n
    · subst hin
      have h58 : s[i].toNat = 58 := by rw [hget]; exact H5.out
      have hib : (i : Int) < (s.size : Int) := by omega
      clear hget
      go_wp2_with fail
      go_quiet (fail)
      go_wp2
      go_ret2
      go_light
      refine ⟨?_, _, rfl⟩
      rw [← H1.out, ← H2.out]
      rfl
    · have hne : ((s[i].toNat : Int) == 58) = false := by
        rw [beq_eq_false_iff_ne, hget]
        have := H4.out i (by omega)
        omega
      go_wp2
      go_light
      exact ⟨⟨i + 1, by omega, by go_num, by trivial⟩, by simp [intOf]; omega⟩
set_option maxHeartbeats 2000000 in
theorem first_quiet (q : ByteArray) (hq : q.size ≤ 1) : Calls Tryz.prog 147 #[.string q] w (fun e w' => e = .returned (.int .u8 (firstV q)) ∧ w' = w) := by
  by_cases h0 : q.size = 0
  · have hF : firstV q = 64 := if_pos h0
    rw [hF]
    clear hF
    go_enter Tryz.func147, Tryz.ntmps147
    go_wp2
    go_ret
    exact ⟨rfl, rfl⟩
  · have hF : firstV q = bAt q 0 := if_neg h0
    have h1 : 0 < q.size := by omega
    rw [hF, ← bAt_get q 0 h1]
    have hb : ((q.size : Int) == 0) = false := by rw [beq_eq_false_iff_ne]; omega
    clear hF hq
    go_enter Tryz.func147, Tryz.ntmps147
    go_wp2
    go_ret
    exact ⟨rfl, rfl⟩
theorem VI.vw (h : VI v) (hc : v.ctl ≠ []) : ∃ f r, v.ctl = f :: r ∧ VW v f r := by
  obtain ⟨ops, ctl⟩ := v
  cases ctl with
  | nil => exact absurd rfl hc
  | cons f r =>
    refine ⟨f, r, rfl, ops, rfl, h.fl.1, fun t ht => ?_⟩
    have := h.ops t ht
    unfold isVal at this
    omega
end
end Go.Proofs.Qxb6500275aGreatDoor
