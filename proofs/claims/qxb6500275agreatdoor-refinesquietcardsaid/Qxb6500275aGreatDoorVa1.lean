import Derived.Test.Qxb6500275aGreatDoorSp4
import Derived.Test.Qxb6500275aGreatDoorBlk
import Derived.Test.Qxb6500275aGreatDoorProg
import Derived.WalkKit
import Derived.WalkLawsBesides
import Derived.Deep.Light
import Derived.Deep.QuietTactic
import Derived.BigQuiet
set_option maxRecDepth 100000
set_option linter.unusedVariables false
set_option linter.unusedSimpArgs false
namespace Go.Proofs.Qxb6500275aGreatDoor
open Go Go.RowKit
theorem Kp.drewM {S : Nat → Prop} {a w : World} (h : Kp S a w) (n : Nat) : Kp S a (w.drewN n) := ⟨h.os, h.tape, h.output, h.size, h.block⟩
theorem kself (b : Nat) (w : World) : Kp (fun x => x = b) w w := Kp.refl _ _
theorem Kp.put {b o : Nat} {a w : World} (h : Kp (fun x => x = b) a w) (v : Value) : Kp (fun x => x = b) a (w.setCell ⟨b, o, none⟩ v) := h.setCell (p := ⟨b, o, none⟩) (.inl rfl) v
theorem Blk.drewM {w : World} {b n : Nat} {F : Nat → Value} (h : Blk w b n F) (m : Nat) : Blk (w.drewN m) b n F := h
/- the validator in memory -/
structure VL (F : Nat → Value) (v : VS) : Prop where
  cO : ∀ i (t : Nat), v.ops.reverse[i]? = some t → F i = .int .u8 t
  nH : F 11 = .int .i64 v.ops.length
  cC : ∀ j f, v.ctl.reverse[j]? = some f → F (12 + j * 4) = .int .u8 f.op ∧ F (12 + j * 4 + 1) = .int .u8 f.res ∧ F (12 + j * 4 + 2) = .int .i64 f.floor ∧ F (12 + j * 4 + 3) = .bool f.dead
  nD : F 40 = .int .i64 v.ctl.length
  hi : ∃ h : Nat, F 41 = .int .i64 h ∧ v.ops.length ≤ h ∧ h ≤ 10
  lO : v.ops.length ≤ 10
  lC : v.ctl.length ≤ 7
structure Vd (w : World) (vb : Nat) (v : VS) : Prop where
  is : ∃ F, Blk w vb 42 F ∧ VL F v
theorem Vd.keep {w w' : World} {vb : Nat} {v : VS} {S : Nat → Prop} (h : Vd w vb v) (hk : Kp S w w') (hs : ¬ S vb) : Vd w' vb v := by
  obtain ⟨F, h1, h2⟩ := h.is
  exact ⟨F, h1.keep hk hs, h2⟩
theorem Vd.drewM {w : World} {vb : Nat} {v : VS} (h : Vd w vb v) (m : Nat) : Vd (w.drewN m) vb v := ⟨h.is⟩
theorem Vd.lt {w : World} {vb : Nat} {v : VS} (h : Vd w vb v) : vb < w.heap.size := by
  obtain ⟨F, h1, h2⟩ := h.is
  exact h1.lt (by decide)
/- the innermost block's cells -/
structure VT (w : World) (vb : Nat) (ops : List Nat) (f : VF) (d : Nat) : Prop where
  c11 : w.cell? ⟨vb, 11, none⟩ = some (.int .i64 ops.length)
  g11 : w.frozen? ⟨vb, 11, none⟩ = false
  c40 : w.cell? ⟨vb, 40, none⟩ = some (.int .i64 ((d : Int) + 1))
  g40 : w.frozen? ⟨vb, 40, none⟩ = false
  e0 : w.cell? ⟨vb, 12 + d * 4, none⟩ = some (.int .u8 f.op)
  e1 : w.cell? ⟨vb, 12 + d * 4 + 1, none⟩ = some (.int .u8 f.res)
  e2 : w.cell? ⟨vb, 12 + d * 4 + 2, none⟩ = some (.int .i64 f.floor)
  e3 : w.cell? ⟨vb, 12 + d * 4 + 3, none⟩ = some (.bool f.dead)
  z0 : w.frozen? ⟨vb, 12 + d * 4, none⟩ = false
  z3 : w.frozen? ⟨vb, 12 + d * 4 + 3, none⟩ = false
  lO : ops.length ≤ 10
  lC : d < 7
theorem Vd.tops {w : World} {vb : Nat} {ops : List Nat} {f : VF} {r : List VF} (h : Vd w vb ⟨ops, f :: r⟩) : VT w vb ops f r.length := by
  obtain ⟨F, h1, hl⟩ := h.is
  have hc := hl.lC
  simp at hc
  obtain ⟨a0, a1, a2, a3⟩ := hl.cC r.length f (by simp)
  exact ⟨by rw [h1.cell (by decide), hl.nH], h1.fz (by decide), by rw [h1.cell (by decide), hl.nD]; simp, h1.fz (by decide), by rw [h1.cell (by omega), a0], by rw [h1.cell (by omega), a1], by rw [h1.cell (by omega), a2], by rw [h1.cell (by omega), a3], h1.fz (by omega), h1.fz (by omega), hl.lO, by omega⟩
theorem Vd.opAt {w : World} {vb : Nat} {t : Nat} {ops : List Nat} {c : List VF} (h : Vd w vb ⟨t :: ops, c⟩) : w.cell? ⟨vb, ops.length, none⟩ = some (.int .u8 t) ∧ w.frozen? ⟨vb, ops.length, none⟩ = false := by
  obtain ⟨F, h1, hl⟩ := h.is
  have := hl.lO
  simp at this
  exact ⟨by rw [h1.cell (by omega), hl.cO ops.length t (by simp)], h1.fz (by omega)⟩
theorem Vd.opCell {w : World} {vb i : Nat} {v : VS} (h : Vd w vb v) (hi : i < 11) : (∃ x, w.cell? ⟨vb, i, none⟩ = some x) ∧ w.frozen? ⟨vb, i, none⟩ = false := by
  obtain ⟨F, h1, hl⟩ := h.is
  exact ⟨⟨_, h1.cell (by omega)⟩, h1.fz (by omega)⟩
theorem Vd.high {w : World} {vb : Nat} {v : VS} (h : Vd w vb v) : ∃ x : Nat, w.cell? ⟨vb, 41, none⟩ = some (.int .i64 x) ∧ w.frozen? ⟨vb, 41, none⟩ = false ∧ v.ops.length ≤ x ∧ x ≤ 10 := by
  obtain ⟨F, h1, hl⟩ := h.is
  obtain ⟨x, h2, h3, h4⟩ := hl.hi
  exact ⟨x, by rw [h1.cell (by decide), h2], h1.fz (by decide), h3, h4⟩
/- one operand less -/
theorem Vd.drop1 {w : World} {vb : Nat} {t : Nat} {ops : List Nat} {c : List VF} (h : Vd w vb ⟨t :: ops, c⟩) : Vd (w.setCell ⟨vb, 11, none⟩ (.int .i64 ops.length)) vb ⟨ops, c⟩ := by
  obtain ⟨F, h1, cO, nH, cC, nD, hi, lO, lC⟩ := h.is
  simp at lO lC
  refine ⟨_, h1.set (i := 11) (by decide) _, ?_, ?_, ?_, ?_, ?_, by simp; omega, lC⟩
  · intro i u hu
    have hi := (List.getElem?_eq_some_iff.1 hu).1
    simp at hi
    rw [upd_ne _ _ (by omega)]
    refine cO i u ?_
    simp only [List.reverse_cons]
    rw [List.getElem?_append_left (by simpa using hi)]
    exact hu
  · rw [upd_same]
  · intro j f hf
    rw [upd_ne _ _ (by omega), upd_ne _ _ (by omega), upd_ne _ _ (by omega), upd_ne _ _ (by omega)]
    exact cC j f hf
  · rw [upd_ne _ _ (by decide)]; exact nD
  · obtain ⟨x, h2, h3, h4⟩ := hi
    simp at h3
    exact ⟨x, by rw [upd_ne _ _ (by decide)]; exact h2, by simp; omega, h4⟩
/- one more -/
theorem Vd.push1 {w : World} {vb x : Nat} {t : Nat} {ops : List Nat} {c : List VF} (h : Vd w vb ⟨ops, c⟩) (hl : ops.length < 10) (hx1 : ops.length + 1 ≤ x) (hx2 : x ≤ 10) : Vd (((w.setCell ⟨vb, ops.length, none⟩ (.int .u8 t)).setCell ⟨vb, 11, none⟩ (.int .i64 ((ops.length : Int) + 1))).setCell ⟨vb, 41, none⟩ (.int .i64 x)) vb ⟨t :: ops, c⟩ := by
  obtain ⟨F, h1, cO, nH, cC, nD, hi, lO, lC⟩ := h.is
  simp at lO lC
  refine ⟨_, ((h1.set (i := ops.length) (by omega) _).set (i := 11) (by decide) _).set (i := 41) (by decide) _, ?_, ?_, ?_, ?_, ?_, by simp; omega, lC⟩
  · intro i u hu
    simp only [List.reverse_cons] at hu
    have hi := (List.getElem?_eq_some_iff.1 hu).1
    simp at hi
    rw [upd_ne _ _ (by omega), upd_ne _ _ (by omega)]
    by_cases e : i = ops.length
    · subst e
      rw [upd_same]
      rw [List.getElem?_append_right (by simp)] at hu
      simp at hu
      rw [hu]
    · rw [upd_ne _ _ e]
      rw [List.getElem?_append_left (by simp; omega)] at hu
      exact cO i u hu
  · rw [upd_ne _ _ (by decide), upd_same]; simp
  · intro j f hf
    have hj := (List.getElem?_eq_some_iff.1 hf).1
    simp at hj
    obtain ⟨a0, a1, a2, a3⟩ := cC j f hf
    rw [upd_ne _ _ (by omega), upd_ne _ _ (by omega), upd_ne _ _ (by omega), upd_ne _ _ (by omega), upd_ne _ _ (by omega), upd_ne _ _ (by omega), upd_ne _ _ (by omega), upd_ne _ _ (by omega), upd_ne _ _ (by omega), upd_ne _ _ (by omega), upd_ne _ _ (by omega), upd_ne _ _ (by omega)]
    exact ⟨a0, a1, a2, a3⟩
  · rw [upd_ne _ _ (by decide), upd_ne _ _ (by decide), upd_ne _ _ (by omega)]; exact nD
  · exact ⟨x, upd_same _ _ _, by simpa using hx1, hx2⟩
/- the stack is cut to the floor, the block is dead -/
theorem Vd.cut1 {w : World} {vb : Nat} {ops : List Nat} {f : VF} {r : List VF} (h : Vd w vb ⟨ops, f :: r⟩) (hf : f.floor ≤ ops.length) : Vd ((w.setCell ⟨vb, 11, none⟩ (.int .i64 f.floor)).setCell ⟨vb, 12 + r.length * 4 + 3, none⟩ (.bool true)) vb (cutV ⟨ops, f :: r⟩) := by
  obtain ⟨F, h1, cO, nH, cC, nD, hi, lO, lC⟩ := h.is
  simp at lO lC
  have hlen : (ops.drop (ops.length - f.floor)).length = f.floor := by rw [List.length_drop]; omega
  refine ⟨_, (h1.set (i := 11) (by decide) _).set (i := 12 + r.length * 4 + 3) (by omega) _, ?_, ?_, ?_, ?_, ?_, ?_, ?_⟩
  · intro i u hu
    have hi := (List.getElem?_eq_some_iff.1 hu).1
    simp [cutV] at hi
    rw [upd_ne _ _ (by omega), upd_ne _ _ (by omega)]
    refine cO i u ?_
    have e : (cutV ⟨ops, f :: r⟩).ops.reverse = ops.reverse.take f.floor := by
      show (ops.drop (ops.length - f.floor)).reverse = _
      rw [List.reverse_drop]
      congr 1
      omega
    rw [e, List.getElem?_take] at hu
    split at hu
    · exact hu
    · simp at hu
  · rw [upd_ne _ _ (by omega), upd_same]
    show _ = Value.int .i64 ((ops.drop (ops.length - f.floor)).length : Nat)
    rw [hlen]
  · intro j g hg
    have hj := (List.getElem?_eq_some_iff.1 hg).1
    have hg' : (r.reverse ++ [({ f with dead := true } : VF)])[j]? = some g := by simpa [cutV] using hg
    simp [cutV] at hj
    by_cases e : j = r.length
    · subst e
      rw [List.getElem?_append_right (by simp)] at hg'
      simp at hg'
      subst hg'
      obtain ⟨a0, a1, a2, a3⟩ := cC r.length f (by simp)
      rw [upd_ne _ _ (by omega), upd_ne _ _ (by omega), upd_ne _ _ (by omega), upd_ne _ _ (by omega), upd_ne _ _ (by omega), upd_ne _ _ (by omega), upd_same]
      exact ⟨a0, a1, a2, rfl⟩
    · rw [List.getElem?_append_left (by simp; omega)] at hg'
      obtain ⟨a0, a1, a2, a3⟩ := cC j g (by simp only [List.reverse_cons]; rw [List.getElem?_append_left (by simp; omega)]; exact hg')
      rw [upd_ne _ _ (by omega), upd_ne _ _ (by omega), upd_ne _ _ (by omega), upd_ne _ _ (by omega), upd_ne _ _ (by omega), upd_ne _ _ (by omega), upd_ne _ _ (by omega), upd_ne _ _ (by omega)]
      exact ⟨a0, a1, a2, a3⟩
  · rw [upd_ne _ _ (by omega), upd_ne _ _ (by decide)]; rw [nD]; simp [cutV]
  · obtain ⟨x, h2, h3, h4⟩ := hi
    simp at h3
    refine ⟨x, by rw [upd_ne _ _ (by omega), upd_ne _ _ (by decide)]; exact h2, ?_, h4⟩
    show (ops.drop (ops.length - f.floor)).length ≤ x
    rw [hlen]; omega
  · show (ops.drop (ops.length - f.floor)).length ≤ 10
    rw [hlen]; omega
  · simp [cutV]; omega
/- what a method of the validator comes to -/
def VC (vb : Nat) (w : World) (ret : Value) (v : VS) (en : Ending) (w' : World) : Prop := en = .returned ret ∧ Vd w' vb v ∧ Kp (· = vb) w w'
section
variable {w : World} {vb : Nat} {ops : List Nat} {f : VF} {r : List VF}
theorem popV_floor {want : Nat} (h0 : ops.length = f.floor) : popV ⟨ops, f :: r⟩ want = (⟨ops, f :: r⟩, want, f.dead) := if_pos h0
theorem popV_cons {t want : Nat} (h0 : ¬ (t :: ops).length = f.floor) : popV ⟨t :: ops, f :: r⟩ want = (⟨ops, f :: r⟩, if t = 0 then want else t, decide (t = 0 ∨ want = 0 ∨ t = want)) := if_neg h0
theorem popV_zero {want : Nat} (h0 : ¬ (0 :: ops).length = f.floor) : popV ⟨0 :: ops, f :: r⟩ want = (⟨ops, f :: r⟩, want, true) := by rw [popV_cons h0]; simp
theorem popV_yes {t want : Nat} (h0 : ¬ (t :: ops).length = f.floor) (ht : ¬ t = 0) (hw : want = 0 ∨ t = want) : popV ⟨t :: ops, f :: r⟩ want = (⟨ops, f :: r⟩, t, true) := by rw [popV_cons h0, if_neg ht, decide_eq_true (.inr hw)]
theorem popV_no {t want : Nat} (h0 : ¬ (t :: ops).length = f.floor) (ht : ¬ t = 0) (hw : ¬ want = 0) (hw2 : ¬ t = want) : popV ⟨t :: ops, f :: r⟩ want = (⟨ops, f :: r⟩, t, false) := by rw [popV_cons h0, if_neg ht, decide_eq_false (by omega)]
set_option maxHeartbeats 2000000 in
theorem pop_calls (h : Vd w vb ⟨ops, f :: r⟩) (hf : f.floor ≤ ops.length) (hb : ∀ t ∈ ops, t < 256) (want : Nat) (hw : want < 256) :
    Calls Tryz.prog 202 #[.pointer (some ⟨vb, 0, none⟩), .int .u8 want] w (VC vb w (.tuple #[.int .u8 (popV ⟨ops, f :: r⟩ want).2.1, .bool (popV ⟨ops, f :: r⟩ want).2.2]) (popV ⟨ops, f :: r⟩ want).1) := by
  have HV : Hid _ := h
  obtain ⟨c11, g11, c40, g40, e0, e1, e2, e3, z0, z3, lO, lC⟩ := h.tops
  obtain ⟨d, hd⟩ : ∃ d, r.length = d := ⟨_, rfl⟩
  rw [hd] at c40 e0 e1 e2 e3 z0 z3 lC
  clear hd
  by_cases h0 : ops.length = f.floor
  · rw [popV_floor h0]
    obtain ⟨n, hn⟩ : ∃ n, ops.length = n := ⟨_, rfl⟩
    have hfl : f.floor = n := by omega
    rw [hn] at c11
    rw [hfl] at e2
    clear h0 hn hfl hf h
    go_enter Tryz.func202, Tryz.ntmps202
    go_wp2_with fail
    go_quiet (fail)
    go_wp2_with fail
    go_quiet (fail)
    go_wp2_with fail
    go_quiet (fail)
    go_wp2
    go_ret2
    go_light
    exact ⟨rfl, ((HV.out.drewM _).drewM _).drewM _, (((Kp.refl _ _).drewM _).drewM _).drewM _⟩
  · cases ops with
    | nil => simp at h0 hf; omega
    | cons t ops =>
      obtain ⟨ot, gt⟩ := h.opAt
      have ht : t < 256 := hb t (by simp)
      obtain ⟨n, hn⟩ : ∃ n, ops.length = n := ⟨_, rfl⟩
      have HD : Hid (∀ m, Vd ((w.drewN m).setCell ⟨vb, 11, none⟩ (.int .i64 (n : Int))) vb ⟨ops, f :: r⟩) := fun m => by rw [← hn]; exact (h.drewM m).drop1
      rw [hn] at ot gt
      have hfb : (((n : Int) + 1) == (f.floor : Int)) = false := by
        rw [beq_eq_false_iff_ne]
        simp at h0
        omega
      rw [List.length_cons, hn] at c11 lO
      have c11' : w.cell? ⟨vb, 11, none⟩ = some (.int .i64 ((n : Int) + 1)) := by rw [c11]; simp
      have hn10 : (n : Int) < 11 := by omega
      clear hn hf h c11 hb
      by_cases ht0 : t = 0
      · subst ht0
        rw [popV_zero h0]
        clear h0
        go_enter Tryz.func202, Tryz.ntmps202
        go_wp2_with fail
        go_quiet (fail)
        go_wp2_with fail
        go_quiet (fail)
        go_wp2_with fail
        go_quiet (fail)
        go_wp2
        go_ret2
        go_light
        exact ⟨rfl, (HD.out _).drewM _, (((kself vb _).drewM _).put _).drewM _⟩
      · have tb0 : ((t : Int) == 0) = false := by rw [beq_eq_false_iff_ne]; omega
        by_cases hw0 : want = 0
        · subst hw0
          rw [popV_yes h0 ht0 (.inl rfl)]
          clear h0 ht0
          go_enter Tryz.func202, Tryz.ntmps202
          go_wp2_with fail
          go_quiet (fail)
          go_wp2_with fail
          go_quiet (fail)
          go_wp2_with fail
          go_quiet (fail)
          go_wp2
          go_ret2
          go_light
          exact ⟨rfl, (HD.out _).drewM _, (((kself vb _).drewM _).put _).drewM _⟩
        · have wb0 : ((want : Int) == 0) = false := by rw [beq_eq_false_iff_ne]; omega
          by_cases htw : t = want
          · subst htw
            rw [popV_yes h0 ht0 (.inr rfl)]
            clear h0 ht0 hw0
            go_enter Tryz.func202, Tryz.ntmps202
            go_wp2_with fail
            go_quiet (fail)
            go_wp2_with fail
            go_quiet (fail)
            go_wp2_with fail
            go_quiet (fail)
            go_wp2
            go_ret2
            go_light
            exact ⟨rfl, (HD.out _).drewM _, (((kself vb _).drewM _).put _).drewM _⟩
          · have twb : ((t : Int) == (want : Int)) = false := by rw [beq_eq_false_iff_ne]; omega
            rw [popV_no h0 ht0 hw0 htw]
            clear h0 ht0 hw0 htw
            go_enter Tryz.func202, Tryz.ntmps202
            go_wp2_with fail
            go_quiet (fail)
            go_wp2_with fail
            go_quiet (fail)
            go_wp2_with fail
            go_quiet (fail)
            go_wp2
            go_ret2
            go_light
            exact ⟨rfl, (HD.out _).drewM _, (((kself vb _).drewM _).put _).drewM _⟩
theorem popV_ctl (v : VS) (want : Nat) : (popV v want).1.ctl = v.ctl := by
  unfold popV
  split <;> rfl
theorem popV_ops {want : Nat} (hf : f.floor ≤ ops.length) : ∃ o, (popV ⟨ops, f :: r⟩ want).1 = ⟨o, f :: r⟩ ∧ f.floor ≤ o.length ∧ (∀ t ∈ o, t ∈ ops) := by
  by_cases h0 : ops.length = f.floor
  · rw [popV_floor h0]; exact ⟨ops, rfl, hf, fun t h => h⟩
  · cases ops with
    | nil => simp at h0 hf; omega
    | cons t o =>
      rw [popV_cons h0]
      exact ⟨o, rfl, by simp at h0 hf; omega, fun t h => by simp [h]⟩
theorem popV_ty {want : Nat} (hf : f.floor ≤ ops.length) (hb : ∀ t ∈ ops, t < 256) (hw : want < 256) : (popV ⟨ops, f :: r⟩ want).2.1 < 256 := by
  by_cases h0 : ops.length = f.floor
  · rw [popV_floor h0]; exact hw
  · cases ops with
    | nil => simp at h0 hf; omega
    | cons t o =>
      rw [popV_cons h0]
      have := hb t (by simp)
      dsimp only
      split
      · exact hw
      · exact this
set_option maxHeartbeats 2000000 in
theorem carry_calls (h : Vd w vb ⟨ops, f :: r⟩) (hf : f.floor ≤ ops.length) (hb : ∀ t ∈ ops, t < 256) (t : Nat) (hw : t < 256) :
    Calls Tryz.prog 149 #[.pointer (some ⟨vb, 0, none⟩), .int .u8 t] w (VC vb w (.bool (carryV ⟨ops, f :: r⟩ t).2) (carryV ⟨ops, f :: r⟩ t).1) := by
  have HV : Hid _ := h
  by_cases h64 : t = 64
  · subst h64
    unfold carryV
    rw [if_pos rfl]
    clear h
    go_enter Tryz.func149, Tryz.ntmps149
    go_wp2
    go_ret
    exact ⟨rfl, HV.out, Kp.refl _ _⟩
  · unfold carryV
    rw [if_neg h64]
    have hb64 : ((t : Int) == 64) = false := by rw [beq_eq_false_iff_ne]; omega
    have HB : Hid _ := hb
    clear h hb
    go_enter Tryz.func149, Tryz.ntmps149
    go_wp2_with (go_at_call 202; refine (pop_calls HV.out hf HB.out t hw).mono ?_; rintro en w2 ⟨rfl, hv2, hk2⟩)
    go_ret
    exact ⟨rfl, hv2, hk2⟩
set_option maxHeartbeats 2000000 in
theorem cut_calls (h : Vd w vb ⟨ops, f :: r⟩) (hf : f.floor ≤ ops.length) :
    Calls Tryz.prog 148 #[.pointer (some ⟨vb, 0, none⟩)] w (VC vb w (.tuple #[]) (cutV ⟨ops, f :: r⟩)) := by
  have HC : Hid (∀ m, Vd (((w.drewN m).setCell ⟨vb, 11, none⟩ (.int .i64 f.floor)).setCell ⟨vb, 12 + r.length * 4 + 3, none⟩ (.bool true)) vb (cutV ⟨ops, f :: r⟩)) := fun m => (h.drewM m).cut1 hf
  obtain ⟨c11, g11, c40, g40, e0, e1, e2, e3, z0, z3, lO, lC⟩ := h.tops
  obtain ⟨d, hd⟩ : ∃ d, r.length = d := ⟨_, rfl⟩
  rw [hd] at c40 e0 e1 e2 e3 z0 z3 lC HC
  obtain ⟨n, hn⟩ : ∃ n, ops.length = n := ⟨_, rfl⟩
  rw [hn] at c11
  have hne : ¬ 12 + d * 4 + 3 = 11 := by omega
  clear hd hn hf lO h
  go_enter Tryz.func148, Tryz.ntmps148
  go_wp2_with fail
  go_quiet (fail)
  go_wp2
  go_end0
  go_light
  exact ⟨rfl, HC.out _, (((kself vb _).drewM _).put _).put _⟩
end
end Go.Proofs.Qxb6500275aGreatDoor
