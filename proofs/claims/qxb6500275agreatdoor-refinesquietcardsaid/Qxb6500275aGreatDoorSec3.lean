import Derived.Test.Qxb6500275aGreatDoorSec0
import Derived.Deep.Light
set_option maxRecDepth 100000
set_option linter.unusedVariables false
set_option linter.unusedSimpArgs false
set_option linter.unusedSectionVars false
namespace Go.Proofs.Qxb6500275aGreatDoor
open Go Go.RowKit
variable [Inhabited TV]
/- the types' numbers so far -/
structure Tl3 (w : World) (bb : Nat) (l : List Int) : Prop where
  is : ∃ F, Blk w bb 20 F ∧ ∀ i t, l[i]? = some t → F i = .int .i64 t
theorem Tl3.keep {w w' : World} {bb : Nat} {l : List Int} {S : Nat → Prop} (h : Tl3 w bb l) (hk : Kp S w w') (hs : ¬ S bb) : Tl3 w' bb l := by
  obtain ⟨F, h1, h2⟩ := h.is
  exact ⟨F, h1.keep hk hs, h2⟩
theorem Tl3.push {w : World} {bb : Nat} {l : List Int} (h : Tl3 w bb l) (hl : l.length < 8) (v : Int) : Tl3 (w.setCell ⟨bb, l.length, none⟩ (.int .i64 v)) bb (l ++ [v]) := by
  obtain ⟨F, h1, h2⟩ := h.is
  refine ⟨_, h1.set (by omega) _, fun i t hi => ?_⟩
  rcases get_snoc hi with ⟨h3, h4⟩ | ⟨rfl, rfl⟩
  · rw [upd_ne _ _ (by omega)]; exact h2 i t h4
  · rw [upd_same]
theorem Bn.setTy {w : World} {bb ib tb : Nat} {op : List Nat} {ins : List Ins} {t : List Int} {i : Nat} {v : Value} (h : Bn w bb ib tb [] op ins t) (hi : i < 8) : Bn (w.setCell ⟨bb, i, none⟩ v) bb ib tb [] op ins t := by
  obtain ⟨⟨F, G, H, b1, b2, b3, cT, nT, cO, nO, sI, nI, sT, nL, cI, cL, lT, lO, lI, lL⟩, d1, d2, d3, d4⟩ := h
  have f1 : ib ≠ bb := fun h => d1 h.symm
  have f2 : tb ≠ bb := fun h => d2 h.symm
  refine ⟨⟨_, G, H, b1.set (i := i) (by omega) v, b2.other f1 _, b3.other f2 _, ?_⟩, d1, d2, d3, d4.set (i := i) (by omega) v⟩
  refine ⟨fun j t hj => by simp at hj, ?_, ?_, ?_, ?_, ?_, ?_, ?_, cI, cL, lT, lO, lI, lL⟩
  · rw [upd_ne _ _ (by omega)]; exact nT
  · intro j t hj
    rw [upd_ne _ _ (by omega)]; exact cO j t hj
  · rw [upd_ne _ _ (by omega)]; exact nO
  · rw [upd_ne _ _ (by omega)]; exact sI
  · rw [upd_ne _ _ (by omega)]; exact nI
  · rw [upd_ne _ _ (by omega)]; exact sT
  · rw [upd_ne _ _ (by omega)]; exact nL
theorem Bn.newTy {w : World} {bb ib tb : Nat} {op : List Nat} {ins : List Ins} {t : List Int} {ty l : List Int} (h : Bn w bb ib tb ty op ins t) (hl : Tl3 w bb l) (h8 : l.length ≤ 8) : Bn (w.setCell ⟨bb, 8, none⟩ (.int .i64 l.length)) bb ib tb l op ins t := by
  obtain ⟨⟨F, G, H, b1, b2, b3, cT, nT, cO, nO, sI, nI, sT, nL, cI, cL, lT, lO, lI, lL⟩, d1, d2, d3, d4⟩ := h
  obtain ⟨F', h1, h2⟩ := hl.is
  have f1 : ib ≠ bb := fun h => d1 h.symm
  have f2 : tb ≠ bb := fun h => d2 h.symm
  refine ⟨⟨_, G, H, b1.set (i := 8) (by omega) (.int .i64 l.length), b2.other f1 _, b3.other f2 _, ?_⟩, d1, d2, d3, d4.set (i := 8) (by omega) (.int .i64 l.length)⟩
  refine ⟨?_, ?_, ?_, ?_, ?_, ?_, ?_, ?_, cI, cL, h8, lO, lI, lL⟩
  · intro j u hj
    have hjl := (List.getElem?_eq_some_iff.1 hj).1
    rw [upd_ne _ _ (by omega)]
    have e1 := b1.cell (i := j) (by omega)
    rw [h1.cell (i := j) (by omega)] at e1
    rw [← Option.some.inj e1]
    exact h2 j u hj
  · rw [upd_same]
  · intro j t hj
    rw [upd_ne _ _ (by omega)]; exact cO j t hj
  · rw [upd_ne _ _ (by omega)]; exact nO
  · rw [upd_ne _ _ (by omega)]; exact sI
  · rw [upd_ne _ _ (by omega)]; exact nI
  · rw [upd_ne _ _ (by omega)]; exact sT
  · rw [upd_ne _ _ (by omega)]; exact nL
theorem Bn.bbCell {w : World} {bb ib tb : Nat} {op : List Nat} {ins : List Ins} {t : List Int} {ty : List Int} (h : Bn w bb ib tb ty op ins t) {i : Nat} (hi : i < 20) : (∃ v, w.cell? ⟨bb, i, none⟩ = some v) ∧ w.frozen? ⟨bb, i, none⟩ = false := by
  obtain ⟨⟨F, G, H, b1, _⟩, _⟩ := h
  exact ⟨⟨_, b1.cell hi⟩, b1.fz hi⟩
theorem Bt.bbCell {w : World} {bb ib tb : Nat} {ty : List Int} (h : Bt w bb ib tb ty) {i : Nat} (hi : i < 20) : (∃ v, w.cell? ⟨bb, i, none⟩ = some v) ∧ w.frozen? ⟨bb, i, none⟩ = false := by
  obtain ⟨_, _, _, h⟩ := h
  exact h.bbCell hi
theorem Bt.tl {w : World} {bb ib tb : Nat} {ty : List Int} (h : Bt w bb ib tb ty) : Tl3 w bb [] := by
  obtain ⟨_, _, _, ⟨F, G, H, b1, _⟩, _⟩ := h
  exact ⟨F, b1, fun i t h => by simp at h⟩
/- amid the numbers -/
structure L3 (w w1 : World) (b : Nat) (s : ByteArray) (q e bb ib tb : Nat) (l : List Int) : Prop where
  rd : Rd w1 b s q e bb
  bt : Bt w1 bb ib tb []
  tl : Tl3 w1 bb l
  kp : Kp (S4 b bb ib tb) w w1
  ne : b ≠ bb ∧ b ≠ ib ∧ b ≠ tb
section
variable {w w1 w2 : World} {b : Nat} {s : ByteArray} {p q q2 e bb ib tb mb : Nat} {ty : List Int} {M : Mod} {l : List Int}
theorem L3.read (h : L3 w w1 b s q e bb ib tb l) (hk : Kp (· = b) w1 w2) (hr : Rd w2 b s q2 e bb) : L3 w w2 b s q2 e bb ib tb l :=
  ⟨hr, h.bt.keep hk (fun e => h.ne.1 e.symm) (fun e => h.ne.2.1 e.symm) (fun e => h.ne.2.2 e.symm), h.tl.keep hk (fun e => h.ne.1 e.symm), h.kp.trans (hk.mono fun j hj => .inl hj), h.ne⟩
theorem L3.push (h : L3 w w1 b s q e bb ib tb l) (hl : l.length < 8) (v : Int) : L3 w (w1.setCell ⟨bb, l.length, none⟩ (.int .i64 v)) b s q e bb ib tb (l ++ [v]) := by
  have hk : Kp (fun j => j = bb) w1 (w1.setCell ⟨bb, l.length, none⟩ (.int .i64 v)) := (Kp.refl (fun j => j = bb) w1).setCell (p := ⟨bb, l.length, none⟩) (.inl rfl) _
  obtain ⟨op, ins, t, hB⟩ := h.bt
  exact ⟨h.rd.keep hk h.ne.1, ⟨op, ins, t, hB.setTy hl⟩, h.tl.push hl v, h.kp.setCell (.inl (.inr (.inl rfl))) _, h.ne⟩
theorem L3.err {X : RM} (h : L3 w w1 b s q e bb ib tb l) {c : Int} {a : Nat} (hk : Kp (· = b) w1 w2) (hX : X = .error (c, a)) : SecP X b s e bb ib tb mb w (fault c a) w2 := by
  have hne := h.ne
  exact SecP.mkErr hX (h.kp.trans (hk.mono fun j hj => .inl hj)).s4 rfl (h.bt.keep hk (fun e => hne.1 e.symm) (fun e => hne.2.1 e.symm) (fun e => hne.2.2 e.symm))
theorem L3.fin {X : RM} (hD : Dc w b s p e bb ib tb mb ty M) (h : L3 w w1 b s q e bb ib tb l) (hl : l.length ≤ 8) (hX : X = .ok (M, l, q)) : SecP X b s e bb ib tb mb w (.returned (.tuple #[])) (w1.setCell ⟨bb, 8, none⟩ (.int .i64 l.length)) := by
  have hk : Kp (fun j => j = bb) w1 (w1.setCell ⟨bb, 8, none⟩ (.int .i64 l.length)) := (Kp.refl (fun j => j = bb) w1).setCell (p := ⟨bb, 8, none⟩) (.inl rfl) _
  obtain ⟨op, ins, t, hB⟩ := h.bt
  have hk2 : Kp (S4 b bb ib tb) w (w1.setCell ⟨bb, 8, none⟩ (.int .i64 l.length)) := h.kp.setCell (.inl (.inr (.inl rfl))) _
  exact SecP.mkOk hX hk2.s4 rfl (h.rd.keep hk h.ne.1) ⟨op, ins, t, hB.newTy h.tl hl⟩ (hD.mdOf hk2 fun j hj => hj)
set_option maxHeartbeats 4000000 in
theorem funcs_calls (h : Dc w b s p e bb ib tb mb [] M) : Calls Tryz.prog 54 #[.pointer (some ⟨b, 0, none⟩), .pointer (some ⟨mb, 0, none⟩)] w (SecP (sec3 s p e M []) b s e bb ib tb mb w) := by
  have HD : Hid _ := h
  have hne : ¬ b = bb := h.ne.1
  obtain ⟨X, hX⟩ : ∃ X, sec3 s p e M [] = X := ⟨_, rfl⟩
  have HS : Hid (X = bindR (countS s p e 8) fun x => bindR (rowsL (tiRow s e) x.1.toNat x.2 []) fun x => .ok (M, x.1, x.2)) := by
    show _ = _
    rw [← hX]
    exact bindR_assoc _ _ _
  rw [hX]
  clear h hX
  go_enter Tryz.func54, Tryz.ntmps54
  go_wp2_with fail
  refine RP.step HS (count_calls HD.out.rd 8 (by omega)) (fun c a w4 hX hK => ⟨rfl, HD.out.err hK hX⟩) ?_
  clear HS
  intro n q w2 hn HS hK2 hR2
  have hn6 := (countS_ok hn.out).1
  obtain ⟨n, rfl⟩ := Int.eq_ofNat_of_zero_le hn6.1
  unfold encI
  dsimp only [Int.toNat_natCast] at HS
  clear hn
  have hL0 : L3 w w2 b s q e bb ib tb [] := ⟨hR2, HD.out.btOf hK2, (HD.out.btOf hK2).tl, hK2.mono fun j hj => .inl hj, HD.out.ne⟩
  clear hK2 hR2
  go_wp2
  go_loopw [5] (fun ii w1 => ∃ (i q' : Nat) (l : List Int), i ≤ n ∧ ii = .int .i64 i ∧ l.length = i ∧ L3 w w1 b s q' e bb ib tb l ∧ Hid (X = bindR (rowsL (tiRow s e) (n - i) q' l) fun x => .ok (M, x.1, x.2))) (fun ii _ => n - (intOf ii).toNat)
  case atStart => exact ⟨0, q, [], by omega, rfl, rfl, hL0, HS⟩
  case round =>
    clear hL0 HS
    obtain ⟨i, q', l, hi, rfl, hl, hLi, HS⟩ := hrel
    have HL : Hid _ := hLi
    have HN : Hid _ := hl
    by_cases hlt : i < n
    · have hln : l.length < 8 := by omega
      clear hl hLi
      rw [show n - i = n - (i + 1) + 1 by omega] at HS
      dsimp only [rowsL, tiRow] at HS
      simp only [bindR_assoc] at HS
      go_wp2_with fail
      refine RP.step HS (u32_calls HL.out.rd) (fun c a w4 hX hK => ⟨rfl, HL.out.err hK hX⟩) ?_
      clear HS
      intro v q1 w4 hv HS hK4 hR4
      have hb := (u32S_ok hv.out).1
      unfold encU
      dsimp only at HS
      have hL4 := HL.out.read hK4 hR4
      have c3 := hL4.rd.c3
      obtain ⟨⟨v0, hc⟩, hf⟩ := hL4.bt.bbCell (i := i) (by omega)
      have hL5 := hL4.push hln v
      rw [HN.out] at hL5
      have HL5 : Hid _ := hL5
      clear HL hK4 hR4 hL4 hv hL5
      go_wp2
      go_light
      exact ⟨⟨i + 1, q1, l ++ [v], by omega, by go_num, by rw [List.length_append, HN.out]; rfl, HL5.out, HS⟩, by simp [intOf]; omega⟩
    · have hin : i = n := by omega
      subst hin
      rw [Nat.sub_self] at HS
      clear hLi hl
      have c3 := HL.out.rd.c3
      obtain ⟨⟨v0, hc⟩, hf⟩ := HL.out.bt.bbCell (i := 8) (by omega)
      go_wp2
      go_end0
      go_light
      have := HL.out.fin HD.out (by have := HN.out; omega) HS.out
      rw [HN.out] at this
      exact this
end
end Go.Proofs.Qxb6500275aGreatDoor
