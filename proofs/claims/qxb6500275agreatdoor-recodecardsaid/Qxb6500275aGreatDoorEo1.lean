import Derived.Test.Qxb6500275aGreatDoorEnc
import Derived.Test.Qxb6500275aGreatDoorVc1
import Derived.Test.Qxb6500275aGreatDoorRe9
set_option maxRecDepth 100000
set_option linter.unusedVariables false
set_option linter.unusedSimpArgs false
namespace Go.Proofs.Qxb6500275aGreatDoor
open Go Go.RowKit
/- a list of rows of w0, as it lies in every later world that keeps its blocks -/
theorem Ls.later {α : Type} {R : Rel α} {sz n0 : Nat} {w0 : World} {v : Value} {l : List α} {S : Nat → Prop} (hR : RowOk R) (h : Ls R sz n0 w0 v l) (hs : ∀ k, S k → k < n0) :
    ∃ a, v = .slice a l.length l.length ∧ ∀ i x, l[i]? = some x → ∃ (k : Nat) (f : Nat → Value), a = some ⟨k, 0, none⟩ ∧ ∀ u, Kp S w0 u → (∀ c, c < sz → u.cell? ⟨k, i * sz + c, none⟩ = some (f c)) ∧ R n0 u x f := by
  obtain ⟨G, ⟨a, h1, h2, h3⟩, h4⟩ := h
  refine ⟨a, h1, fun i x hx => ?_⟩
  have hi := (List.getElem?_eq_some_iff.1 hx).1
  obtain ⟨k, k1, k2, k3⟩ := h3 (by omega)
  refine ⟨k, fun c => G (i * sz + c), k2, fun u hk => ⟨fun c hc => ?_, hR.keep _ _ _ _ _ _ (h4 i x hx) hk hs⟩⟩
  refine (k3.keep hk (fun h => by have := hs k h; omega)).cell ?_
  have : (i + 1) * sz ≤ l.length * sz := Nat.mul_le_mul_right _ hi
  rw [Nat.add_mul] at this
  omega
/- A MODULE, as it lies in every later world that keeps the blocks from mb on -/
structure Ml (w0 : World) (B : Nat → Prop) (mb : Nat) (M : Mod) (ta ia fa ga xa ea da : Option Addr) : Prop where
  md : Md w0 mb M
  c0 : ∀ u, Kp B w0 u → u.cell? ⟨mb, 0, none⟩ = some (.slice ta M.types.length M.types.length)
  c1 : ∀ u, Kp B w0 u → u.cell? ⟨mb, 1, none⟩ = some (.slice ia M.imports.length M.imports.length)
  c2 : ∀ u, Kp B w0 u → u.cell? ⟨mb, 2, none⟩ = some (.slice fa M.funcs.length M.funcs.length)
  c3 : ∀ u, Kp B w0 u → u.cell? ⟨mb, 3, none⟩ = some (.int .i64 M.tabMin)
  c4 : ∀ u, Kp B w0 u → u.cell? ⟨mb, 4, none⟩ = some (.int .i64 M.tabMax)
  c5 : ∀ u, Kp B w0 u → u.cell? ⟨mb, 5, none⟩ = some (.int .i64 M.memMin)
  c6 : ∀ u, Kp B w0 u → u.cell? ⟨mb, 6, none⟩ = some (.int .i64 M.memMax)
  c7 : ∀ u, Kp B w0 u → u.cell? ⟨mb, 7, none⟩ = some (.slice ga M.globals.length M.globals.length)
  c8 : ∀ u, Kp B w0 u → u.cell? ⟨mb, 8, none⟩ = some (.slice xa M.exports.length M.exports.length)
  c9 : ∀ u, Kp B w0 u → u.cell? ⟨mb, 9, none⟩ = some (.int .i64 M.start)
  c10 : ∀ u, Kp B w0 u → u.cell? ⟨mb, 10, none⟩ = some (.slice ea M.elems.length M.elems.length)
  c11 : ∀ u, Kp B w0 u → u.cell? ⟨mb, 11, none⟩ = some (.slice da M.datas.length M.datas.length)
  tat : ∀ i x, M.types[i]? = some x → ∃ k, ta = some ⟨k, 0, none⟩ ∧ ∀ u, Kp B w0 u → u.cell? ⟨k, i, none⟩ = some (.string x.text)
  iat : ∀ i x, M.imports[i]? = some x → ∃ k, ia = some ⟨k, 0, none⟩ ∧ ∀ u, Kp B w0 u → u.cell? ⟨k, i * 3, none⟩ = some (.string x.mod) ∧ u.cell? ⟨k, i * 3 + 1, none⟩ = some (.string x.name) ∧ u.cell? ⟨k, i * 3 + 2, none⟩ = some (.int .i64 x.ty)
  fat : ∀ i x, M.funcs[i]? = some x → ∃ k vb vt, fa = some ⟨k, 0, none⟩ ∧ ∀ u, Kp B w0 u → (u.cell? ⟨k, i * 4, none⟩ = some (.int .i64 x.ty) ∧ u.cell? ⟨k, i * 4 + 1, none⟩ = some (.string x.locals) ∧ u.cell? ⟨k, i * 4 + 2, none⟩ = some vb ∧ u.cell? ⟨k, i * 4 + 3, none⟩ = some vt) ∧ InsAt u (mb + 1) vb x.body ∧ TabAt u (mb + 1) vt x.tabs
  gat : ∀ i g, M.globals[i]? = some g → ∃ k, ga = some ⟨k, 0, none⟩ ∧ ∀ u, Kp B w0 u → u.cell? ⟨k, i * 5, none⟩ = some (.int .u8 g.ty) ∧ u.cell? ⟨k, i * 5 + 1, none⟩ = some (.bool g.mu) ∧ u.cell? ⟨k, i * 5 + 2, none⟩ = some (.int .u8 g.init.op) ∧ u.cell? ⟨k, i * 5 + 3, none⟩ = some (.int .u32 g.init.x) ∧ u.cell? ⟨k, i * 5 + 4, none⟩ = some (.int .u64 g.init.y)
  xat : ∀ i x, M.exports[i]? = some x → ∃ k, xa = some ⟨k, 0, none⟩ ∧ ∀ u, Kp B w0 u → u.cell? ⟨k, i * 3, none⟩ = some (.string x.name) ∧ u.cell? ⟨k, i * 3 + 1, none⟩ = some (.int .u8 x.kind) ∧ u.cell? ⟨k, i * 3 + 2, none⟩ = some (.int .u32 x.idx)
  eat : ∀ i e, M.elems[i]? = some e → ∃ k vf, ea = some ⟨k, 0, none⟩ ∧ ∀ u, Kp B w0 u → (u.cell? ⟨k, i * 4, none⟩ = some (.int .u8 e.off.op) ∧ u.cell? ⟨k, i * 4 + 1, none⟩ = some (.int .u32 e.off.x) ∧ u.cell? ⟨k, i * 4 + 2, none⟩ = some (.int .u64 e.off.y) ∧ u.cell? ⟨k, i * 4 + 3, none⟩ = some vf) ∧ TabAt u (mb + 1) vf e.fns
  dat : ∀ i d, M.datas[i]? = some d → ∃ k, da = some ⟨k, 0, none⟩ ∧ ∀ u, Kp B w0 u → u.cell? ⟨k, i * 4, none⟩ = some (.int .u8 d.off.op) ∧ u.cell? ⟨k, i * 4 + 1, none⟩ = some (.int .u32 d.off.x) ∧ u.cell? ⟨k, i * 4 + 2, none⟩ = some (.int .u64 d.off.y) ∧ u.cell? ⟨k, i * 4 + 3, none⟩ = some (.string d.bytes)
theorem Md.later {w0 : World} {B : Nat → Prop} {mb : Nat} {M : Mod} (h : Md w0 mb M) (hb : ∀ k, B k → k < mb) : ∃ ta ia fa ga xa ea da, Ml w0 B mb M ta ia fa ga xa ea da := by
  obtain ⟨F, hB, hF⟩ := h.is
  have hs : ∀ k, B k → k < mb + 1 := fun k e => by have := hb k e; omega
  obtain ⟨ta, t1, t2⟩ := hF.t.later (S := B) (pureRel_ok _) hs
  obtain ⟨ia, i1, i2⟩ := hF.i.later (S := B) (pureRel_ok _) hs
  obtain ⟨fa, f1, f2⟩ := hF.f.later (S := B) fnR_ok hs
  obtain ⟨ga, g1, g2⟩ := hF.g.later (S := B) (pureRel_ok _) hs
  obtain ⟨xa, x1, x2⟩ := hF.x.later (S := B) (pureRel_ok _) hs
  obtain ⟨ea, e1, e2⟩ := hF.e.later (S := B) elmR_ok hs
  obtain ⟨da, d1, d2⟩ := hF.d.later (S := B) (pureRel_ok _) hs
  have hc : ∀ {u : World}, Kp B w0 u → ∀ {i : Nat}, i < 12 → u.cell? ⟨mb, i, none⟩ = some (F i) := fun hk i hi => (hB.keep hk (fun e => by have := hb mb e; omega)).cell hi
  refine ⟨ta, ia, fa, ga, xa, ea, da, h, fun u k => by rw [hc k (by decide), t1], fun u k => by rw [hc k (by decide), i1], fun u k => by rw [hc k (by decide), f1], fun u k => by rw [hc k (by decide), hF.tm], fun u k => by rw [hc k (by decide), hF.tx], fun u k => by rw [hc k (by decide), hF.mm], fun u k => by rw [hc k (by decide), hF.mx], fun u k => by rw [hc k (by decide), g1], fun u k => by rw [hc k (by decide), x1], fun u k => by rw [hc k (by decide), hF.st], fun u k => by rw [hc k (by decide), e1], fun u k => by rw [hc k (by decide), d1], ?_, ?_, ?_, ?_, ?_, ?_, ?_⟩
  · intro i x hx
    obtain ⟨k, f, ha, hu⟩ := t2 i x hx
    refine ⟨k, ha, fun u hk => ?_⟩
    obtain ⟨q, r⟩ := hu u hk
    have e0 := q 0 (by decide)
    rw [Nat.add_zero, Nat.mul_one] at e0
    rw [e0, r]
  · intro i x hx
    obtain ⟨k, f, ha, hu⟩ := i2 i x hx
    refine ⟨k, ha, fun u hk => ?_⟩
    obtain ⟨q, r0, r1, r2⟩ := hu u hk
    have e0 := q 0 (by decide)
    rw [Nat.add_zero] at e0
    exact ⟨by rw [e0, r0], by rw [q 1 (by decide), r1], by rw [q 2 (by decide), r2]⟩
  · intro i x hx
    obtain ⟨k, f, ha, hu⟩ := f2 i x hx
    refine ⟨k, f 2, f 3, ha, fun u hk => ?_⟩
    obtain ⟨q, ⟨r0, r1⟩, r2, r3⟩ := hu u hk
    have e0 := q 0 (by decide)
    rw [Nat.add_zero] at e0
    exact ⟨⟨by rw [e0, r0], by rw [q 1 (by decide), r1], q 2 (by decide), q 3 (by decide)⟩, r2, r3⟩
  · intro i x hx
    obtain ⟨k, f, ha, hu⟩ := g2 i x hx
    refine ⟨k, ha, fun u hk => ?_⟩
    obtain ⟨q, r0, r1, r2, r3, r4⟩ := hu u hk
    have e0 := q 0 (by decide)
    rw [Nat.add_zero] at e0
    exact ⟨by rw [e0, r0], by rw [q 1 (by decide), r1], by rw [q 2 (by decide), r2], by rw [q 3 (by decide), r3], by rw [q 4 (by decide), r4]⟩
  · intro i x hx
    obtain ⟨k, f, ha, hu⟩ := x2 i x hx
    refine ⟨k, ha, fun u hk => ?_⟩
    obtain ⟨q, r0, r1, r2⟩ := hu u hk
    have e0 := q 0 (by decide)
    rw [Nat.add_zero] at e0
    exact ⟨by rw [e0, r0], by rw [q 1 (by decide), r1], by rw [q 2 (by decide), r2]⟩
  · intro i x hx
    obtain ⟨k, f, ha, hu⟩ := e2 i x hx
    refine ⟨k, f 3, ha, fun u hk => ?_⟩
    obtain ⟨q, ⟨r0, r1, r2⟩, r3⟩ := hu u hk
    have e0 := q 0 (by decide)
    rw [Nat.add_zero] at e0
    exact ⟨⟨by rw [e0, r0], by rw [q 1 (by decide), r1], by rw [q 2 (by decide), r2], q 3 (by decide)⟩, r3⟩
  · intro i x hx
    obtain ⟨k, f, ha, hu⟩ := d2 i x hx
    refine ⟨k, ha, fun u hk => ?_⟩
    obtain ⟨q, r0, r1, r2, r3⟩ := hu u hk
    have e0 := q 0 (by decide)
    rw [Nat.add_zero] at e0
    exact ⟨by rw [e0, r0], by rw [q 1 (by decide), r1], by rw [q 2 (by decide), r2], by rw [q 3 (by decide), r3]⟩
/- THE ENCODER AT WORK: the text o, the rows s, a function's text f; w0: the world that holds the module at mb -/
structure E3 (w0 : World) (B : Nat → Prop) (u : World) (ob : Nat) (vo : Value) (lo : List Nat) (sb : Nat) (vs : Value) (ls : List Nat) (fb : Nat) (vf : Value) (lf : List Nat) : Prop where
  kp : Kp B w0 u
  o : Wr u ob vo lo
  s : Wr u sb vs ls
  f : Wr u fb vf lf
  os : Apt ob vo sb vs
  of : Apt ob vo fb vf
  sf : Apt sb vs fb vf
  no : ∀ k, k = ob ∨ vo.ownBlock = some k → B k ∨ w0.heap.size ≤ k
  ns : ∀ k, k = sb ∨ vs.ownBlock = some k → B k ∨ w0.heap.size ≤ k
  nf : ∀ k, k = fb ∨ vf.ownBlock = some k → B k ∨ w0.heap.size ≤ k
section
variable {w0 u u' : World} {B : Nat → Prop} {ob sb fb : Nat} {vo vs vf v' : Value} {lo ls lf l' : List Nat}
theorem Apt.symm {ob rb : Nat} {vo vr : Value} (h : Apt ob vo rb vr) : Apt rb vr ob vo := ⟨fun e => h.b e.symm, h.r, h.o, fun k hk e => h.d k e hk⟩
theorem kp_base {P : Nat → Prop} (h : Kp B w0 u) (k : Kp P u u') (hp : ∀ i, P i → B i ∨ w0.heap.size ≤ i) : Kp B w0 u' := by
  have s := h.size
  refine ⟨k.os.trans h.os, k.tape.trans h.tape, k.output.trans h.output, Nat.le_trans s k.size, fun i hi hb => ?_⟩
  rw [k.block i (by omega) (fun e => by
    rcases hp i e with e | e
    · exact hb e
    · omega), h.block i hi hb]
theorem own_ok (hs : w0.heap.size ≤ u.heap.size) {b : Nat} {v : Value} (h : ∀ k, k = b ∨ v.ownBlock = some k → B k ∨ w0.heap.size ≤ k) (he : Own2 u v v') : ∀ k, k = b ∨ v'.ownBlock = some k → B k ∨ w0.heap.size ≤ k := fun k e => by
  rcases e with e | e
  · exact h k (.inl e)
  · rcases he k e with e | e
    · exact h k (.inr e)
    · exact .inr (by omega)
theorem E3.quiet (h : E3 w0 B u ob vo lo sb vs ls fb vf lf) (hk : Kp (fun _ => False) u u') : E3 w0 B u' ob vo lo sb vs ls fb vf lf :=
  ⟨kp_base h.kp hk (fun _ e => e.elim), h.o.quiet hk, h.s.quiet hk, h.f.quiet hk, h.os, h.of, h.sf, h.no, h.ns, h.nf⟩
/- one of the three is written -/
theorem E3.stepO (h : E3 w0 B u ob vo lo sb vs ls fb vf lf) (hr : Wr u' ob v' l') (he : We u u' ob vo v') : E3 w0 B u' ob v' l' sb vs ls fb vf lf := by
  obtain ⟨a1, a2⟩ := h.s.apart h.os he
  obtain ⟨b1, b2⟩ := h.f.apart h.of he
  exact ⟨kp_base h.kp he.kp h.no, hr, a1, b1, a2, b2, h.sf, own_ok h.kp.size h.no he.ow, h.ns, h.nf⟩
theorem E3.stepS (h : E3 w0 B u ob vo lo sb vs ls fb vf lf) (hr : Wr u' sb v' l') (he : We u u' sb vs v') : E3 w0 B u' ob vo lo sb v' l' fb vf lf := by
  obtain ⟨a1, a2⟩ := h.o.apart h.os.symm he
  obtain ⟨b1, b2⟩ := h.f.apart h.sf he
  exact ⟨kp_base h.kp he.kp h.ns, a1, hr, b1, a2.symm, h.of, b2, h.no, own_ok h.kp.size h.ns he.ow, h.nf⟩
theorem E3.stepF (h : E3 w0 B u ob vo lo sb vs ls fb vf lf) (hr : Wr u' fb v' l') (he : We u u' fb vf v') : E3 w0 B u' ob vo lo sb vs ls fb v' l' := by
  obtain ⟨a1, a2⟩ := h.o.apart h.of.symm he
  obtain ⟨b1, b2⟩ := h.s.apart h.sf.symm he
  exact ⟨kp_base h.kp he.kp h.nf, a1, b1, hr, h.os, a2.symm, b2.symm, h.no, h.ns, own_ok h.kp.size h.nf he.ow⟩
/- a section is laid -/
theorem E3.sec {T : List Nat} {en : Ending} (h : E3 w0 B u ob vo lo sb vs ls fb vf lf) (hq : Sq u ob vo lo T sb vs en u') : en = .returned (.tuple #[]) ∧ ∃ vo' vs', E3 w0 B u' ob vo' (lo ++ T) sb vs' [] fb vf lf := by
  obtain ⟨rfl, vo', vs', r1, r2, e1, e2, e3⟩ := hq
  have hsz := h.kp.size
  have hf := h.f.lt
  have hs := h.s.lt
  refine ⟨rfl, vo', vs', kp_base h.kp e3 (fun i e => ?_), r1, r2, h.f.keep e3 (fun e => ?_) (fun k hk e => ?_), ⟨h.os.b, fun e => ?_, ?_, fun k hk e => ?_⟩, ⟨h.of.b, fun e => ?_, h.of.r, fun k hk e => ?_⟩, ⟨h.sf.b, ?_, h.sf.r, ?_⟩, own_ok hsz h.no e2, ?_, h.nf⟩
  · rcases e with e | e | e
    · exact h.no i (.inl e)
    · exact h.no i (.inr e)
    · exact h.ns i (.inl e)
  · rcases e with e | e | e
    · exact h.of.b e.symm
    · exact h.of.o e
    · exact h.sf.b e.symm
  · rcases e with e | e | e
    · exact h.of.r (e ▸ hk)
    · exact h.of.d k hk e
    · exact h.sf.r (e ▸ hk)
  · rcases e2 _ e with e | e
    · exact h.os.o e
    · omega
  · rw [e1]; exact h.os.r
  · rw [e1] at hk
    rcases e2 _ e with e | e
    · exact h.os.d k hk e
    · have := h.s.f.lt hk; omega
  · rcases e2 _ e with e | e
    · exact h.of.o e
    · omega
  · rcases e2 _ e with e | e
    · exact h.of.d k hk e
    · have := h.f.f.lt hk; omega
  · rw [e1]; exact h.sf.o
  · rw [e1]; exact h.sf.d
  · rw [e1]; exact h.ns
end
end Go.Proofs.Qxb6500275aGreatDoor
