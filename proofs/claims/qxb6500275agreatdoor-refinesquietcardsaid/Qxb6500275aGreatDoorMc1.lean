import Derived.Test.Qxb6500275aGreatDoorLd1
import Derived.Test.Qxb6500275aGreatDoorSt2
import Derived.Test.Qxb6500275aGreatDoorAd1
import Derived.Test.Qxb6500275aGreatDoorPpb
set_option maxRecDepth 100000
set_option linter.unusedVariables false
set_option linter.unusedSimpArgs false
namespace Go.Proofs.Qxb6500275aGreatDoor
open Go Go.RowKit
/- A LOADED MODULE IN MEMORY -/
structure Mp (w : World) (lo : Nat) (C : XC) (V : Vm) (mb kc : Nat) : Prop where
  v5 : V.v5 = .pointer (some ⟨mb, 0, none⟩)
  v6 : V.v6 = .pointer (some ⟨kc, 0, none⟩)
  lw : lo ≤ mb ∧ lo ≤ kc
  md : Md w mb C.M
  cd : Cd w kc C.fs
  sv : Ow w lo V.v7 C.M.types
  fv : ∃ fl, Ow w lo V.v8 fl ∧ fl.length = C.M.imports.length + C.M.funcs.length ∧ ∀ (i : Nat) t, C.M.typeOf (i : Int) = some t → fl[i]? = some t
section
variable {w w' : World} {lo : Nat} {C : XC} {V : Vm} {mb kc kk : Nat} {X : Mx} {T : Nat → Prop} {S S' : Sm} {H H' : Hm} {P : Nat → Prop} {num : NumF}
theorem Mp.keep (h : Mp w lo C V mb kc) (hk : Kp P w w') (hp : ∀ k, P k → k < lo) : Mp w' lo C V mb kc := by
  obtain ⟨h1, h2⟩ := h.lw
  obtain ⟨fl, f1, f2, f3⟩ := h.fv
  exact ⟨h.v5, h.v6, h.lw, h.md.keep hk (fun k e => by have := hp k e; omega), h.cd.keep hk (fun k e => by have := hp k e; omega), h.sv.keep hk (fun k h1 _ e => by have := hp k e; omega), ⟨fl, f1.keep hk (fun k h1 _ e => by have := hp k e; omega), f2, f3⟩⟩
def xN (X : Mx) (V : Vm) (mb kc kk lo : Nat) : Xn := ⟨X.xb, X.kb, X.sb, X.rb, X.hb, X.bb, X.tb, mb, kc, kk, 0, 0, 0, lo, V.v7, V.v8, fun i => if i = 0 then .pointer (some ⟨X.db, 0, none⟩) else if i = 1 then .pointer (some ⟨X.vb, 0, none⟩) else .pointer (some ⟨X.pb, 0, none⟩)⟩
theorem xN_dn (hA : Ax X) (hlo : X.hi ≤ lo) (n : Nat) : Dn (nX (xN X V mb kc kk lo) n) := by
  have hl := hA.lt
  obtain ⟨m, d, v, p, hh, xx⟩ := hA
  constructor <;> (simp only [nX, xN]; omega)
theorem cells_pos (hK : CodeOk C) {k : Nat} {ff : FF} (h : C.fs[k]? = some ff) : 0 < ff.cells.length := by
  obtain ⟨_, ks, hF⟩ := hK.f k ff h
  obtain ⟨c, h1, _⟩ := hF.ht.first
  have := (List.getElem?_eq_some_iff.1 h1).1
  simp at this
  omega
theorem Mp.kx (h : Mp w lo C V mb kc) (hK : CodeOk C) (X : Mx) (n : Nat) : ∃ kk, Kx w (nX (xN X V mb kc kk lo) n) C := by
  obtain ⟨v, c1, c2⟩ := h.cd.is
  obtain ⟨a, e, hat⟩ := c2.at_
  obtain ⟨l1, l2⟩ := h.lw
  obtain ⟨kk, hkk⟩ : ∃ kk, ∀ k, a = some ⟨k, 0, none⟩ → kk = k := by
    cases a with
    | none => exact ⟨0, fun k h => by simp at h⟩
    | some p => exact ⟨p.block, fun k h => by simp at h; rw [h]⟩
  obtain ⟨ia, i1, _⟩ := h.md.imps
  obtain ⟨fl, f1, f2, f3⟩ := h.fv
  refine ⟨kk, fun fn ff hf => ?_, l2, ⟨ia, _, i1⟩, l1, h.sv.sg rfl (fun i t hi ht => ht), f1.sg f2 (fun i t hi ht => ?_)⟩
  · obtain ⟨k, f, e1, e2, e3, ⟨e4, e5, e6⟩, e7⟩ := hat fn ff hf
    have := hkk k e1
    subst this
    refine ⟨by show w.cell? ⟨kc, 0, none⟩ = some (.slice (some ⟨kk, 0, none⟩) C.fs.length C.fs.length); rw [← e1, ← e]; exact c1, ?_⟩
    have hp := cells_pos hK hf
    obtain ⟨a2, g1, g2⟩ := Ls.at_ e7
    obtain ⟨ci, _, g3, g4, _⟩ := g2 0 ff.cells[0] (List.getElem?_eq_getElem hp)
    have z := e3 0 (by decide)
    rw [Nat.add_zero] at z
    refine ⟨ci, ⟨by simp only [nX, xN]; omega, by simp only [nX, xN]; omega⟩, by show w.cell? ⟨kk, fn * 4, none⟩ = _; rw [z, e4], by show w.cell? ⟨kk, fn * 4 + 1, none⟩ = _; rw [e3 1 (by decide), e5], by show w.cell? ⟨kk, fn * 4 + 2, none⟩ = _; rw [e3 2 (by decide), e6], by show w.cell? ⟨kk, fn * 4 + 3, none⟩ = _; rw [e3 3 (by decide), g1, g3], fun j c hc => ?_⟩
    obtain ⟨ci2, fi, q1, q2, q3, q4, q5, q6⟩ := g2 j c hc
    rw [g3] at q1
    simp at q1
    subst q1
    have z2 := q3 0 (by decide)
    rw [Nat.add_zero] at z2
    exact ⟨by rw [z2, q4], by rw [q3 1 (by decide), q5], by rw [q3 2 (by decide), q6]⟩
  · obtain ⟨y, h1, h2⟩ := ht
    exact ⟨y, f3 i y h1, h2⟩
/- the operators' numbers -/
def NumR (num : NumF) : Prop := ∀ (o : Nat) (x y : Int), 69 ≤ o → o ≤ 191 → (0 ≤ x ∧ x < 18446744073709551616) → (0 ≤ y ∧ y < 18446744073709551616) → ∀ w, Calls Tryz.prog 104 #[.int .i64 o, .int .u64 x, .int .u64 y] w fun e' w' => e' = .returned (.tuple #[.int .u64 (num o x y).1, .int .i64 (num o x y).2]) ∧ sameWorld w w'
theorem Mp.xq (h : Mp w lo C V mb kc) (hN : NumR num) (hG : GoodC num C) (hA : Ax X) (hlo : X.hi ≤ lo) (hw : lo ≤ w.heap.size) (hT : ∀ k, T k → X.hi ≤ k ∧ k < w.heap.size) : ∃ kk, Xq w (nX (xN X V mb kc kk lo) w.heap.size) C T := by
  obtain ⟨kk, hk⟩ := h.kx hG.ok X w.heap.size
  refine ⟨kk, xN_dn hA hlo _, hk, hG.ok, ?_, hw, fun k hk => ?_, ?_⟩
  · simp only [nX, xN]; omega
  · have hl := hA.lt
    obtain ⟨m, d, v, p, hh, xx⟩ := hA
    have := hT k hk
    refine ⟨this.2, ?_, ?_⟩
    · unfold Sx; simp only [nX, xN]; omega
    · simp only [nX, xN]; omega
  · rw [hG.num]; exact hN
theorem Xb.xz (h : Xb w X T V S H) (hp : V.v5 = .pointer (some ⟨mb, 0, none⟩)) (hp2 : V.v6 = .pointer (some ⟨kc, 0, none⟩)) {K : Nat → Value} (hK : Blk w X.kb 120 K) {ws : List Nat} (hs : ∀ (i v : Nat), ws[i]? = some v → K i = .int .u64 v) : Xz w (xN X V mb kc kk lo) T ws S H := by
  obtain ⟨F, x1, x2⟩ := h.x
  refine ⟨⟨F, x1, ⟨x2.f3, x2.f4, by rw [x2.f5, hp]; rfl, by rw [x2.f6, hp2]; rfl, x2.f7, x2.f8, x2.f9, fun i hi => ?_⟩⟩, ⟨K, hK, hs⟩, h.mm, h.hw⟩
  have : i = 0 ∨ i = 1 ∨ i = 2 := by omega
  rcases this with rfl | rfl | rfl
  · exact x2.f0
  · exact x2.f1
  · exact x2.f2
theorem xr_rest (hA : Ax X) (h : Xb w X T V S H) (hp : V.v5 = .pointer (some ⟨mb, 0, none⟩)) (hp2 : V.v6 = .pointer (some ⟨kc, 0, none⟩)) {n : Nat} {ws : List Nat} {fr : List Fr} {hd : Option (Nat × Nat)} (hr : Xr w w' (nX (xN X V mb kc kk lo) n) T ws fr hd S' H') : Xb w' X T V S' H' ∧ ∃ K, Blk w' X.kb 120 K ∧ ∀ (i v : Nat), ws[i]? = some v → K i = .int .u64 v := by
  have hl := hA.lt
  obtain ⟨m, d, v, p, hh, xx⟩ := hA
  obtain ⟨F, x1, x2, _, _⟩ := hr.x
  obtain ⟨K, k1, k2⟩ := hr.st
  obtain ⟨ty, b1⟩ := h.bt
  obtain ⟨v0, d1, d2⟩ := h.vd
  obtain ⟨n', p1⟩ := h.pr
  have hk := hr.kp
  have q : ∀ k, (k ≠ X.xb ∧ k ≠ X.kb ∧ k ≠ X.sb ∧ k ≠ X.rb ∧ k ≠ X.hb ∧ k ≠ X.tb) → ¬ Sx (nX (xN X V mb kc kk lo) n) k := fun k hk hP => by
    unfold Sx at hP
    simp only [nX, xN] at hP
    omega
  refine ⟨⟨⟨F, x1, ⟨x2.fz 0 (by decide), x2.fz 1 (by decide), x2.fz 2 (by decide), x2.f3, x2.f4, by rw [x2.f5, hp]; rfl, by rw [x2.f6, hp2]; rfl, x2.f7, x2.f8, x2.f9⟩⟩, ⟨K, k1⟩, hr.mm, hr.hw, ⟨ty, b1.keep hk (q _ (by omega)) (q _ (by omega)) (q _ (by omega))⟩, ⟨v0, d1.keep hk (q _ (by omega)), d2⟩, ⟨n', p1.keep hk (q _ (by omega)) (q _ (by omega))⟩⟩, K, k1, k2⟩
end
end Go.Proofs.Qxb6500275aGreatDoor
