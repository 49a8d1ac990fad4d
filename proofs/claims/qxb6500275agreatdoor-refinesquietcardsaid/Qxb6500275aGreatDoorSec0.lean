import Derived.Test.Qxb6500275aGreatDoorWr16
import Derived.Test.Qxb6500275aGreatDoorSp2
set_option maxRecDepth 100000
set_option linter.unusedVariables false
set_option linter.unusedSimpArgs false
set_option linter.unusedSectionVars false
namespace Go.Proofs.Qxb6500275aGreatDoor
open Go Go.RowKit
variable [Inhabited TV]
/- rows -/
def rowsL {α : Type} (row : Nat → R α) : Nat → Nat → List α → R (List α)
  | 0, q, l => .ok (l, q)
  | n + 1, q, l => bindR (row q) fun x => rowsL row n x.2 (l ++ [x.1])
def vecS {α : Type} (s : ByteArray) (p e : Nat) (mx : Int) (row : Nat → R α) : R (List α) := bindR (countS s p e mx) fun x => rowsL row x.1.toNat x.2 []
def conS (s : ByteArray) (p e : Nat) : R Ins :=
  if p < e then (if bAt s p < 65 ∨ 68 < bAt s p then .error (13, p) else bindR (cS s (p + 1) e (bAt s p)) fun y =>
    if y.2 < e then (if bAt s y.2 = 11 then .ok (⟨bAt s p, 0, y.1⟩, y.2 + 1) else .error (13, y.2)) else .error (3, e)) else .error (3, e)
theorem conS_ok {s : ByteArray} {p e : Nat} {i : Ins} {q : Nat} (h : conS s p e = .ok (i, q)) (tabs : List Int) : constantS s p e tabs = .ok (i, q, tabs) := by
  unfold conS at h
  unfold constantS
  split at h
  · rw [if_pos (by assumption)]
    split at h
    · simp at h
    · rename_i hn
      rw [if_neg hn]
      obtain ⟨⟨y, r⟩, h1, h2⟩ := bindR_get h
      rw [h1]
      dsimp only at h2 ⊢
      split at h2
      · rw [if_pos (by assumption)]
        split at h2
        · rw [if_pos (by assumption)]
          simp at h2
          obtain ⟨rfl, rfl⟩ := h2
          rfl
        · simp at h2
      · simp at h2
  · simp at h
theorem conS_err {s : ByteArray} {p e : Nat} {c : Int} {a : Nat} (h : conS s p e = .error (c, a)) (tabs : List Int) : constantS s p e tabs = .error (c, a) := by
  unfold conS at h
  unfold constantS
  split at h
  · rw [if_pos (by assumption)]
    split at h
    · rw [if_pos (by assumption)]; simpa using h
    · rename_i hn
      rw [if_neg hn]
      cases ho : cS s (p + 1) e (bAt s p) with
      | error f =>
        rw [bindR_err ho] at h
        simpa using h
      | ok y =>
        obtain ⟨y, r⟩ := y
        rw [bindR_ok ho] at h
        dsimp only at h ⊢
        split at h
        · rw [if_pos (by assumption)]
          split at h
          · simp at h
          · rw [if_neg (by assumption)]; simpa using h
        · rw [if_neg (by assumption)]; simpa using h
  · rw [if_neg (by assumption)]; simpa using h
theorem valtypesS_size {s : ByteArray} {p e q : Nat} {mx : Int} {t : ByteArray} (h : valtypesS s p e mx = .ok (t, q)) : (t.size : Int) ≤ mx := by
  unfold valtypesS at h
  split at h
  · simp at h
  · rename_i n r hc
    have hn := (countS_ok hc).1
    split at h
    · simp at h
    · rename_i r2 hl
      have := valtypesL_ok _ _ _ hl
      simp at h
      obtain ⟨rfl, rfl⟩ := h
      rw [ByteArray.size_extract]
      omega
def tyRow (s : ByteArray) (e q : Nat) : R Ty := bindR (fixedS s q e 96) fun a => bindR (valtypesS s a.2 e 4) fun b => bindR (valtypesS s b.2 e 1) fun c => .ok (⟨b.1, c.1⟩, c.2)
def impRow (s : ByteArray) (e q : Nat) : R Imp := bindR (nameS s q e) fun a => bindR (nameS s a.2 e) fun b => bindR (fixedS s b.2 e 0) fun c => bindR (u32S s c.2 e) fun d => .ok (⟨a.1, b.1, d.1⟩, d.2)
def tiRow (s : ByteArray) (e q : Nat) : R Int := u32S s q e
def globRow (s : ByteArray) (e q : Nat) : R Glob := bindR (valtypeS s q e) fun a => bindR (flagS s a.2 e 1) fun b => bindR (conS s b.2 e) fun c => .ok (⟨a.1, decide (b.1 = 1), c.1⟩, c.2)
def expRow (s : ByteArray) (e q : Nat) : R Exp := bindR (nameS s q e) fun a => bindR (flagS s a.2 e 3) fun b => bindR (u32S s b.2 e) fun c => .ok (⟨a.1, b.1, c.1⟩, c.2)
def elmRow (s : ByteArray) (e q : Nat) : R Elm := bindR (fixedS s q e 0) fun a => bindR (conS s a.2 e) fun b => bindR (vecS s b.2 e 6 (tiRow s e)) fun c => .ok (⟨b.1, c.1⟩, c.2)
def datRow (s : ByteArray) (e q : Nat) : R Dat := bindR (fixedS s q e 0) fun a => bindR (conS s a.2 e) fun b => bindR (countS s b.2 e 24) fun c => bindR (takeS s c.2 e c.1.toNat) fun d => .ok (⟨b.1, d.1⟩, d.2)
/- a body in a window of its own -/
def fnRow (s : ByteArray) (e : Nat) (ty : Int) (q : Nat) : R Fn := bindR (enterS s q e) fun a => bindR (localsS s a.1 a.2) fun b => bindR (bodyS s b.2 a.2) fun c => if c.2.2 = a.2 then .ok (⟨ty, b.1, c.1, c.2.1⟩, c.2.2) else .error (6, a.1)
def fnsL (s : ByteArray) (e : Nat) : List Int → Nat → List Fn → R (List Fn)
  | [], q, l => .ok (l, q)
  | t :: ts, q, l => bindR (fnRow s e t q) fun x => fnsL s e ts x.2 (l ++ [x.1])
/- a section of no rows leaves the list as it was -/
def pick {α : Type} (l old : List α) : List α := if l.length = 0 then old else l
/- the sections: what they make of a module and of the types' numbers -/
abbrev RM := Except (Int × Nat) (Mod × List Int × Nat)
def sec1 (s : ByteArray) (p e : Nat) (M : Mod) (ty : List Int) : RM := bindR (vecS s p e 8 (tyRow s e)) fun x => .ok ({ M with types := pick x.1 M.types }, ty, x.2)
def sec2 (s : ByteArray) (p e : Nat) (M : Mod) (ty : List Int) : RM := bindR (vecS s p e 4 (impRow s e)) fun x => .ok ({ M with imports := pick x.1 M.imports }, ty, x.2)
def sec3 (s : ByteArray) (p e : Nat) (M : Mod) (ty : List Int) : RM := bindR (vecS s p e 8 (tiRow s e)) fun x => .ok (M, x.1, x.2)
def sec4 (s : ByteArray) (p e : Nat) (M : Mod) (ty : List Int) : RM := bindR (countS s p e 1) fun n => if n.1 = 1 then bindR (fixedS s n.2 e 112) fun a => bindR (limitsS s a.2 e) fun x => .ok ({ M with tabMin := x.1.1, tabMax := x.1.2 }, ty, x.2) else .ok (M, ty, n.2)
def sec5 (s : ByteArray) (p e : Nat) (M : Mod) (ty : List Int) : RM := bindR (countS s p e 1) fun n => if n.1 = 1 then bindR (limitsS s n.2 e) fun x => .ok ({ M with memMin := x.1.1, memMax := x.1.2 }, ty, x.2) else .ok (M, ty, n.2)
def sec6 (s : ByteArray) (p e : Nat) (M : Mod) (ty : List Int) : RM := bindR (vecS s p e 4 (globRow s e)) fun x => .ok ({ M with globals := pick x.1 M.globals }, ty, x.2)
def sec7 (s : ByteArray) (p e : Nat) (M : Mod) (ty : List Int) : RM := bindR (vecS s p e 6 (expRow s e)) fun x => .ok ({ M with exports := pick x.1 M.exports }, ty, x.2)
def sec8 (s : ByteArray) (p e : Nat) (M : Mod) (ty : List Int) : RM := bindR (u32S s p e) fun x => .ok ({ M with start := x.1 }, ty, x.2)
def sec9 (s : ByteArray) (p e : Nat) (M : Mod) (ty : List Int) : RM := bindR (vecS s p e 3 (elmRow s e)) fun x => .ok ({ M with elems := pick x.1 M.elems }, ty, x.2)
def sec10 (s : ByteArray) (p e : Nat) (M : Mod) (ty : List Int) : RM := bindR (countS s p e 8) fun n => if n.1 = ty.length then bindR (fnsL s e ty n.2 []) fun x => .ok ({ M with funcs := pick x.1 M.funcs }, ty, x.2) else .error (12, p)
def sec11 (s : ByteArray) (p e : Nat) (M : Mod) (ty : List Int) : RM := bindR (vecS s p e 3 (datRow s e)) fun x => .ok ({ M with datas := pick x.1 M.datas }, ty, x.2)
/- a module in memory -/
def tyP (t : Ty) (f : Nat → Value) : Prop := f 0 = .string t.text
def impP (i : Imp) (f : Nat → Value) : Prop := f 0 = .string i.mod ∧ f 1 = .string i.name ∧ f 2 = .int .i64 i.ty
def globP (g : Glob) (f : Nat → Value) : Prop := f 0 = .int .u8 g.ty ∧ f 1 = .bool g.mu ∧ f 2 = .int .u8 g.init.op ∧ f 3 = .int .u32 g.init.x ∧ f 4 = .int .u64 g.init.y
def expP (x : Exp) (f : Nat → Value) : Prop := f 0 = .string x.name ∧ f 1 = .int .u8 x.kind ∧ f 2 = .int .u32 x.idx
def datP (d : Dat) (f : Nat → Value) : Prop := f 0 = .int .u8 d.off.op ∧ f 1 = .int .u32 d.off.x ∧ f 2 = .int .u64 d.off.y ∧ f 3 = .string d.bytes
def elmR : Rel Elm := fun n0 w x f => (f 0 = .int .u8 x.off.op ∧ f 1 = .int .u32 x.off.x ∧ f 2 = .int .u64 x.off.y) ∧ TabAt w n0 (f 3) x.fns
def fnR : Rel Fn := fun n0 w x f => (f 0 = .int .i64 x.ty ∧ f 1 = .string x.locals) ∧ InsAt w n0 (f 2) x.body ∧ TabAt w n0 (f 3) x.tabs
theorem elmR_ok : RowOk elmR := ⟨fun n0 w w' S x f h hk hs => ⟨h.1, h.2.keep hk hs⟩, fun n0 m0 w x f h hm => ⟨h.1, h.2.mono hm⟩⟩
theorem fnR_ok : RowOk fnR := ⟨fun n0 w w' S x f h hk hs => ⟨h.1, h.2.1.keep hk hs, h.2.2.keep hk hs⟩, fun n0 m0 w x f h hm => ⟨h.1, h.2.1.mono hm, h.2.2.mono hm⟩⟩
theorem ty_pure : RowPure (pureRel tyP) 1 := ⟨fun n0 w x f g h e => (e 0 (by decide)).trans h⟩
theorem u32_pure : RowPure (pureRel u32P) 1 := ⟨fun n0 w x f g h e => (e 0 (by decide)).trans h⟩
theorem imp_pure : RowPure (pureRel impP) 3 := ⟨fun n0 w x f g h e => ⟨(e 0 (by decide)).trans h.1, (e 1 (by decide)).trans h.2.1, (e 2 (by decide)).trans h.2.2⟩⟩
theorem ins_pure : RowPure (pureRel insP) 3 := ⟨fun n0 w x f g h e => ⟨(e 0 (by decide)).trans h.1, (e 1 (by decide)).trans h.2.1, (e 2 (by decide)).trans h.2.2⟩⟩
theorem exp_pure : RowPure (pureRel expP) 3 := ⟨fun n0 w x f g h e => ⟨(e 0 (by decide)).trans h.1, (e 1 (by decide)).trans h.2.1, (e 2 (by decide)).trans h.2.2⟩⟩
theorem glob_pure : RowPure (pureRel globP) 5 := ⟨fun n0 w x f g h e => ⟨(e 0 (by decide)).trans h.1, (e 1 (by decide)).trans h.2.1, (e 2 (by decide)).trans h.2.2.1, (e 3 (by decide)).trans h.2.2.2.1, (e 4 (by decide)).trans h.2.2.2.2⟩⟩
theorem dat_pure : RowPure (pureRel datP) 4 := ⟨fun n0 w x f g h e => ⟨(e 0 (by decide)).trans h.1, (e 1 (by decide)).trans h.2.1, (e 2 (by decide)).trans h.2.2.1, (e 3 (by decide)).trans h.2.2.2⟩⟩
theorem elm_pure : RowPure elmR 4 := ⟨fun n0 w x f g h e => ⟨⟨(e 0 (by decide)).trans h.1.1, (e 1 (by decide)).trans h.1.2.1, (e 2 (by decide)).trans h.1.2.2⟩, by rw [e 3 (by decide)]; exact h.2⟩⟩
theorem fn_pure : RowPure fnR 4 := ⟨fun n0 w x f g h e => ⟨⟨(e 0 (by decide)).trans h.1.1, (e 1 (by decide)).trans h.1.2⟩, by rw [e 2 (by decide)]; exact h.2.1, by rw [e 3 (by decide)]; exact h.2.2⟩⟩
structure MdF (w : World) (n0 : Nat) (F : Nat → Value) (M : Mod) : Prop where
  t : Ls (pureRel tyP) 1 n0 w (F 0) M.types
  i : Ls (pureRel impP) 3 n0 w (F 1) M.imports
  f : Ls fnR 4 n0 w (F 2) M.funcs
  tm : F 3 = .int .i64 M.tabMin
  tx : F 4 = .int .i64 M.tabMax
  mm : F 5 = .int .i64 M.memMin
  mx : F 6 = .int .i64 M.memMax
  g : Ls (pureRel globP) 5 n0 w (F 7) M.globals
  x : Ls (pureRel expP) 3 n0 w (F 8) M.exports
  st : F 9 = .int .i64 M.start
  e : Ls elmR 4 n0 w (F 10) M.elems
  d : Ls (pureRel datP) 4 n0 w (F 11) M.datas
theorem MdF.keep {w w' : World} {n0 : Nat} {F : Nat → Value} {M : Mod} {S : Nat → Prop} (h : MdF w n0 F M) (hk : Kp S w w') (hs : ∀ k, S k → k < n0) : MdF w' n0 F M :=
  ⟨h.t.keep (pureRel_ok _) hk hs, h.i.keep (pureRel_ok _) hk hs, h.f.keep fnR_ok hk hs, h.tm, h.tx, h.mm, h.mx, h.g.keep (pureRel_ok _) hk hs, h.x.keep (pureRel_ok _) hk hs, h.st, h.e.keep elmR_ok hk hs, h.d.keep (pureRel_ok _) hk hs⟩
structure Md (w : World) (mb : Nat) (M : Mod) : Prop where
  is : ∃ F, Blk w mb 12 F ∧ MdF w (mb + 1) F M
section
variable {w w' : World} {mb : Nat} {M : Mod} {S : Nat → Prop}
theorem Md.keep (h : Md w mb M) (hk : Kp S w w') (hs : ∀ k, S k → k < mb) : Md w' mb M := by
  obtain ⟨F, h1, h2⟩ := h.is
  exact ⟨F, h1.keep hk (fun h => by have := hs _ h; omega), h2.keep hk (fun k h => by have := hs _ h; omega)⟩
theorem Md.lt (h : Md w mb M) : mb < w.heap.size := by
  obtain ⟨F, h1, h2⟩ := h.is
  exact h1.lt (by decide)
theorem Md.cell (h : Md w mb M) {i : Nat} (hi : i < 12) : (∃ v, w.cell? ⟨mb, i, none⟩ = some v) ∧ w.frozen? ⟨mb, i, none⟩ = false := by
  obtain ⟨F, h1, h2⟩ := h.is
  exact ⟨⟨_, h1.cell hi⟩, h1.fz hi⟩
/- a field is set -/
theorem Md.set (h : Md w mb M) {i : Nat} (hi : i < 12) {v : Value} {M' : Mod} (hF : ∀ F, MdF (w.setCell ⟨mb, i, none⟩ v) (mb + 1) F M → MdF (w.setCell ⟨mb, i, none⟩ v) (mb + 1) (upd F i v) M') : Md (w.setCell ⟨mb, i, none⟩ v) mb M' := by
  obtain ⟨F, h1, h2⟩ := h.is
  have hk : Kp (fun j => j = mb) w (w.setCell ⟨mb, i, none⟩ v) := (Kp.refl (fun j => j = mb) w).setCell (p := ⟨mb, i, none⟩) (.inl rfl) v
  exact ⟨_, h1.set hi v, hF F (h2.keep hk (fun k h => by subst h; omega))⟩
theorem Ls.setOld {α : Type} {R : Rel α} {sz : Nat} {i : Nat} {v u : Value} {l : List α} (hR : RowOk R) (h : Ls R sz (mb + 1) w u l) : Ls R sz (mb + 1) (w.setCell ⟨mb, i, none⟩ v) u l :=
  h.keep hR ((Kp.refl (fun j => j = mb) w).setCell (p := ⟨mb, i, none⟩) (.inl rfl) v) (fun k h => by subst h; omega)
theorem Md.setTypes (h : Md w mb M) {v : Value} {l : List Ty} (hl : Ls (pureRel tyP) 1 (mb + 1) w v l) : Md (w.setCell ⟨mb, 0, none⟩ v) mb { M with types := l } :=
  h.set (by decide) fun F a => ⟨hl.setOld (pureRel_ok _), a.i, a.f, a.tm, a.tx, a.mm, a.mx, a.g, a.x, a.st, a.e, a.d⟩
theorem Md.setImports (h : Md w mb M) {v : Value} {l : List Imp} (hl : Ls (pureRel impP) 3 (mb + 1) w v l) : Md (w.setCell ⟨mb, 1, none⟩ v) mb { M with imports := l } :=
  h.set (by decide) fun F a => ⟨a.t, hl.setOld (pureRel_ok _), a.f, a.tm, a.tx, a.mm, a.mx, a.g, a.x, a.st, a.e, a.d⟩
theorem Md.setFuncs (h : Md w mb M) {v : Value} {l : List Fn} (hl : Ls fnR 4 (mb + 1) w v l) : Md (w.setCell ⟨mb, 2, none⟩ v) mb { M with funcs := l } :=
  h.set (by decide) fun F a => ⟨a.t, a.i, hl.setOld fnR_ok, a.tm, a.tx, a.mm, a.mx, a.g, a.x, a.st, a.e, a.d⟩
theorem Md.setTabMin (h : Md w mb M) (x : Int) : Md (w.setCell ⟨mb, 3, none⟩ (.int .i64 x)) mb { M with tabMin := x } :=
  h.set (by decide) fun F a => ⟨a.t, a.i, a.f, rfl, a.tx, a.mm, a.mx, a.g, a.x, a.st, a.e, a.d⟩
theorem Md.setTabMax (h : Md w mb M) (x : Int) : Md (w.setCell ⟨mb, 4, none⟩ (.int .i64 x)) mb { M with tabMax := x } :=
  h.set (by decide) fun F a => ⟨a.t, a.i, a.f, a.tm, rfl, a.mm, a.mx, a.g, a.x, a.st, a.e, a.d⟩
theorem Md.setMemMin (h : Md w mb M) (x : Int) : Md (w.setCell ⟨mb, 5, none⟩ (.int .i64 x)) mb { M with memMin := x } :=
  h.set (by decide) fun F a => ⟨a.t, a.i, a.f, a.tm, a.tx, rfl, a.mx, a.g, a.x, a.st, a.e, a.d⟩
theorem Md.setMemMax (h : Md w mb M) (x : Int) : Md (w.setCell ⟨mb, 6, none⟩ (.int .i64 x)) mb { M with memMax := x } :=
  h.set (by decide) fun F a => ⟨a.t, a.i, a.f, a.tm, a.tx, a.mm, rfl, a.g, a.x, a.st, a.e, a.d⟩
theorem Md.setGlobals (h : Md w mb M) {v : Value} {l : List Glob} (hl : Ls (pureRel globP) 5 (mb + 1) w v l) : Md (w.setCell ⟨mb, 7, none⟩ v) mb { M with globals := l } :=
  h.set (by decide) fun F a => ⟨a.t, a.i, a.f, a.tm, a.tx, a.mm, a.mx, hl.setOld (pureRel_ok _), a.x, a.st, a.e, a.d⟩
theorem Md.setExports (h : Md w mb M) {v : Value} {l : List Exp} (hl : Ls (pureRel expP) 3 (mb + 1) w v l) : Md (w.setCell ⟨mb, 8, none⟩ v) mb { M with exports := l } :=
  h.set (by decide) fun F a => ⟨a.t, a.i, a.f, a.tm, a.tx, a.mm, a.mx, a.g, hl.setOld (pureRel_ok _), a.st, a.e, a.d⟩
theorem Md.setStart (h : Md w mb M) (x : Int) : Md (w.setCell ⟨mb, 9, none⟩ (.int .i64 x)) mb { M with start := x } :=
  h.set (by decide) fun F a => ⟨a.t, a.i, a.f, a.tm, a.tx, a.mm, a.mx, a.g, a.x, rfl, a.e, a.d⟩
theorem Md.setElems (h : Md w mb M) {v : Value} {l : List Elm} (hl : Ls elmR 4 (mb + 1) w v l) : Md (w.setCell ⟨mb, 10, none⟩ v) mb { M with elems := l } :=
  h.set (by decide) fun F a => ⟨a.t, a.i, a.f, a.tm, a.tx, a.mm, a.mx, a.g, a.x, a.st, hl.setOld elmR_ok, a.d⟩
theorem Md.setDatas (h : Md w mb M) {v : Value} {l : List Dat} (hl : Ls (pureRel datP) 4 (mb + 1) w v l) : Md (w.setCell ⟨mb, 11, none⟩ v) mb { M with datas := l } :=
  h.set (by decide) fun F a => ⟨a.t, a.i, a.f, a.tm, a.tx, a.mm, a.mx, a.g, a.x, a.st, a.e, hl.setOld (pureRel_ok _)⟩
end
/- the decoder's scratch, whatever the last body left -/
def Bt (w : World) (bb ib tb : Nat) (ty : List Int) : Prop := ∃ op ins t, Bn w bb ib tb ty op ins t
theorem Bt.keep {w w' : World} {bb ib tb : Nat} {ty : List Int} {S : Nat → Prop} (h : Bt w bb ib tb ty) (hk : Kp S w w') (h1 : ¬ S bb) (h2 : ¬ S ib) (h3 : ¬ S tb) : Bt w' bb ib tb ty := by
  obtain ⟨a, c, d, h⟩ := h
  exact ⟨a, c, d, h.keep hk h1 h2 h3⟩
/- what a section's reader comes to -/
def Sd (b bb ib tb mb : Nat) (k : Nat) : Prop := k = b ∨ k = bb ∨ k = ib ∨ k = tb ∨ k = mb
def SecP (o : RM) (b : Nat) (s : ByteArray) (e bb ib tb mb : Nat) (w : World) (en : Ending) (w' : World) : Prop :=
  Kp (Sd b bb ib tb mb) w w' ∧ match o with
    | .ok (M, ty, q) => en = .returned (.tuple #[]) ∧ Rd w' b s q e bb ∧ Bt w' bb ib tb ty ∧ Md w' mb M
    | .error (c, a) => en = fault c a ∧ ∃ ty, Bt w' bb ib tb ty
theorem SecP.mkOk {o : RM} {b : Nat} {s : ByteArray} {e bb ib tb mb : Nat} {w w' : World} {en : Ending} {M : Mod} {ty : List Int} {q : Nat} (ho : o = .ok (M, ty, q)) (h1 : Kp (Sd b bb ib tb mb) w w') (h2 : en = .returned (.tuple #[])) (h3 : Rd w' b s q e bb) (h4 : Bt w' bb ib tb ty) (h5 : Md w' mb M) : SecP o b s e bb ib tb mb w en w' := by
  subst ho; exact ⟨h1, h2, h3, h4, h5⟩
theorem SecP.mkErr {o : RM} {b : Nat} {s : ByteArray} {e bb ib tb mb : Nat} {w w' : World} {en : Ending} {c : Int} {a : Nat} {ty : List Int} (ho : o = .error (c, a)) (h1 : Kp (Sd b bb ib tb mb) w w') (h2 : en = fault c a) (h4 : Bt w' bb ib tb ty) : SecP o b s e bb ib tb mb w en w' := by
  subst ho; exact ⟨h1, h2, ty, h4⟩
/- what stands at a section's head -/
structure Dc (w : World) (b : Nat) (s : ByteArray) (q e bb ib tb mb : Nat) (ty : List Int) (M : Mod) : Prop where
  rd : Rd w b s q e bb
  bt : Bt w bb ib tb ty
  md : Md w mb M
  ne : b ≠ bb ∧ b ≠ ib ∧ b ≠ tb
  lt : b < mb ∧ bb < mb ∧ ib < mb ∧ tb < mb
section
variable {w w' : World} {b : Nat} {s : ByteArray} {q q' e bb ib tb mb : Nat} {ty : List Int} {M : Mod}
theorem Dc.read (h : Dc w b s q e bb ib tb mb ty M) (hk : Kp (· = b) w w') (hr : Rd w' b s q' e bb) : Dc w' b s q' e bb ib tb mb ty M :=
  ⟨hr, h.bt.keep hk (fun e => h.ne.1 e.symm) (fun e => h.ne.2.1 e.symm) (fun e => h.ne.2.2 e.symm), h.md.keep hk (fun k e => by subst e; exact h.lt.1), h.ne, h.lt⟩
theorem Dc.btOf (h : Dc w b s q e bb ib tb mb ty M) (hk : Kp (· = b) w w') : Bt w' bb ib tb ty :=
  h.bt.keep hk (fun e => h.ne.1 e.symm) (fun e => h.ne.2.1 e.symm) (fun e => h.ne.2.2 e.symm)
theorem Dc.mdOf {S : Nat → Prop} (h : Dc w b s q e bb ib tb mb ty M) (hk : Kp S w w') (hs : ∀ k, S k → k = b ∨ k = bb ∨ k = ib ∨ k = tb) : Md w' mb M :=
  h.md.keep hk (fun k hk => by have := h.lt; rcases hs k hk with rfl | rfl | rfl | rfl <;> omega)
theorem Kp.sd (hk : Kp (· = b) w w') : Kp (Sd b bb ib tb mb) w w' := hk.mono fun k h => .inl h
theorem Dc.err (h : Dc w b s q e bb ib tb mb ty M) (hk : Kp (· = b) w w') {o : RM} {c : Int} {a : Nat} (ho : o = .error (c, a)) : SecP o b s e bb ib tb mb w (fault c a) w' :=
  SecP.mkErr ho hk.sd rfl (h.btOf hk)
end
/- amid a section's rows -/
def S4 (b bb ib tb j : Nat) : Prop := j = b ∨ j = bb ∨ j = ib ∨ j = tb
structure Lp {α : Type} (R : Rel α) (w w1 : World) (b : Nat) (s : ByteArray) (q e bb ib tb : Nat) (ty : List Int) (k n sz : Nat) (z : Nat → Value) (l : List α) (cur : Nat → Value) : Prop where
  rd : Rd w1 b s q e bb
  bt : Bt w1 bb ib tb ty
  rw : Rw R w1 (k + 1) k n sz z l cur
  kp : Kp (S4 b bb ib tb) w w1
  lt : b < k ∧ bb < k ∧ ib < k ∧ tb < k ∧ w.heap.size ≤ k
  ne : b ≠ bb ∧ b ≠ ib ∧ b ≠ tb
section
variable {α : Type} {R : Rel α} {w w1 w2 : World} {b : Nat} {s : ByteArray} {p q q2 e bb ib tb mb : Nat} {ty : List Int} {k n sz : Nat} {z cur : Nat → Value} {l : List α} {M : Mod}
theorem Lp.read (hR : RowOk R) (h : Lp R w w1 b s q e bb ib tb ty k n sz z l cur) (hk : Kp (· = b) w1 w2) (hr : Rd w2 b s q2 e bb) : Lp R w w2 b s q2 e bb ib tb ty k n sz z l cur := by
  have hlt := h.lt
  have hne := h.ne
  exact ⟨hr, h.bt.keep hk (fun e => hne.1 e.symm) (fun e => hne.2.1 e.symm) (fun e => hne.2.2 e.symm), h.rw.keep hR hk (by omega) (fun j hj => by omega), h.kp.trans (hk.mono fun j hj => .inl hj), hlt, hne⟩
theorem Lp.con (hR : RowOk R) (h : Lp R w w1 b s q e bb ib tb ty k n sz z l cur) {op : List Nat} {ins : List Ins} {t : List Int} (hk : Kp (fun j => j = b ∨ j = bb ∨ j = tb) w1 w2) (hr : Rd w2 b s q2 e bb) (hb : Bn w2 bb ib tb ty op ins t) : Lp R w w2 b s q2 e bb ib tb ty k n sz z l cur := by
  have hlt := h.lt
  exact ⟨hr, ⟨op, ins, t, hb⟩, h.rw.keep hR hk (by omega) (fun j hj => by omega), h.kp.trans (hk.mono fun j hj => by unfold S4; omega), hlt, h.ne⟩
theorem Lp.set (hR : RowOk R) (hP : RowPure R sz) (h : Lp R w w1 b s q e bb ib tb ty k n sz z l cur) (hl : l.length < n) {c : Nat} (hc : c < sz) (v : Value) : Lp R w (w1.setCell ⟨k, l.length * sz + c, none⟩ v) b s q e bb ib tb ty k n sz z l (upd cur c v) := by
  have hlt := h.lt
  have hk : Kp (fun j => j = k) w1 (w1.setCell ⟨k, l.length * sz + c, none⟩ v) := (Kp.refl (fun j => j = k) w1).setCell (p := ⟨k, l.length * sz + c, none⟩) (.inl rfl) v
  exact ⟨h.rd.keep hk (by omega), h.bt.keep hk (by omega) (by omega) (by omega), h.rw.set hR hP hl hc v (by omega), h.kp.setCell (.inr hlt.2.2.2.2) v, hlt, h.ne⟩
theorem Lp.push (hP : RowPure R sz) (h : Lp R w w1 b s q e bb ib tb ty k n sz z l cur) (hl : l.length < n) {x : α} (hx : R (k + 1) w1 x cur) : Lp R w w1 b s q e bb ib tb ty k n sz z (l ++ [x]) z :=
  ⟨h.rd, h.bt, h.rw.push hP hl hx, h.kp, h.lt, h.ne⟩
theorem Lp.first (hD : Dc w b s p e bb ib tb mb ty M) (hK : Kp (· = b) w w1) (hr : Rd w1 b s q e bb) (Z : Array Value) (hZ : Z.size = sz) (h0 : 0 < sz) (el : Nat) : Lp R w (w1.alloc (.cells (madeCells Z (n * sz)) el)) b s q e bb ib tb ty w1.heap.size n sz (fun c => Z[c]!) [] (fun c => Z[c]!) := by
  have hk : Kp (fun _ => False) w1 (w1.alloc (.cells (madeCells Z (n * sz)) el)) := (Kp.refl _ _).alloc _
  have hm := hD.md.lt
  have hs := hK.size
  have hlt := hD.lt
  exact ⟨hr.keep hk (fun h => h), (hD.btOf hK).keep hk (fun h => h) (fun h => h) (fun h => h), rw_made R w1 _ n sz el Z hZ h0, (hK.mono fun j hj => .inl hj).alloc _, ⟨by omega, by omega, by omega, by omega, by omega⟩, hD.ne⟩
theorem Kp.s4 (hk : Kp (S4 b bb ib tb) w w1) : Kp (Sd b bb ib tb mb) w w1 := hk.mono fun j hj => by unfold S4 at hj; unfold Sd; omega
theorem Lp.err {X : RM} (h : Lp R w w1 b s q e bb ib tb ty k n sz z l cur) {c : Int} {a : Nat} (hk : Kp (· = b) w1 w2) (hX : X = .error (c, a)) : SecP X b s e bb ib tb mb w (fault c a) w2 := by
  have hne := h.ne
  exact SecP.mkErr hX (h.kp.trans (hk.mono fun j hj => .inl hj)).s4 rfl (h.bt.keep hk (fun e => hne.1 e.symm) (fun e => hne.2.1 e.symm) (fun e => hne.2.2 e.symm))
theorem Lp.mdOf (h : Lp R w w1 b s q e bb ib tb ty k n sz z l cur) (hD : Dc w b s p e bb ib tb mb ty M) : Md w1 mb M := hD.mdOf h.kp (fun j hj => hj)
theorem Lp.fin {X : RM} {M' : Mod} {i : Nat} {v : Value} (hD : Dc w b s p e bb ib tb mb ty M) (h : Lp R w w1 b s q e bb ib tb ty k n sz z l cur) (hX : X = .ok (M', ty, q)) (hM : Md (w1.setCell ⟨mb, i, none⟩ v) mb M') : SecP X b s e bb ib tb mb w (.returned (.tuple #[])) (w1.setCell ⟨mb, i, none⟩ v) := by
  have hlt := hD.lt
  have hk : Kp (fun j => j = mb) w1 (w1.setCell ⟨mb, i, none⟩ v) := (Kp.refl (fun j => j = mb) w1).setCell (p := ⟨mb, i, none⟩) (.inl rfl) v
  exact SecP.mkOk hX (h.kp.s4.trans (hk.mono fun j hj => by subst hj; exact .inr (.inr (.inr (.inr rfl))))) rfl (h.rd.keep hk (by omega)) (h.bt.keep hk (by omega) (by omega) (by omega)) hM
end
section
variable {α β γ : Type} {RR : Rel γ} {w w1 : World} {b : Nat} {s : ByteArray} {p q e bb ib tb mb : Nat} {ty : List Int} {k n sz : Nat} {z cur : Nat → Value} {l : List γ} {M : Mod} {Post : Ending → World → Prop} {X : RM}
/- a reading amid the rows -/
theorem Lp.step {enc : α → Value} {o : R α} {kk : α × Nat → RM} {f : Nat} {args : Array Value} (hR : RowOk RR) (h : Lp RR w w1 b s q e bb ib tb ty k n sz z l cur) (HS : Hid (X = bindR o kk)) (hc : Calls Tryz.prog f args w1 (RP enc o b s e bb w1))
    (h1 : ∀ c a w4, SecP X b s e bb ib tb mb w (fault c a) w4 → Post (fault c a) w4) (h2 : ∀ v q2 w4, Hid (o = .ok (v, q2)) → Hid (X = kk (v, q2)) → Hid (Lp RR w w4 b s q2 e bb ib tb ty k n sz z l cur) → Post (.returned (enc v)) w4) : Calls Tryz.prog f args w1 Post :=
  RP.step HS hc (fun c a w4 hX hK => h1 c a w4 (h.err hK hX)) (fun v q2 w4 ho hS hK hr => h2 v q2 w4 ho hS (h.read hR hK hr))
theorem Lp.conStep {kk : Ins × Nat → RM} (hR : RowOk RR) (h : Lp RR w w1 b s q e bb ib tb ty k n sz z l cur) (HS : Hid (X = bindR (conS s q e) kk))
    (h1 : ∀ c a w4, SecP X b s e bb ib tb mb w (fault c a) w4 → Post (fault c a) w4) (h2 : ∀ v q2 w4, Hid (conS s q e = .ok (v, q2)) → Hid (X = kk (v, q2)) → Hid (Lp RR w w4 b s q2 e bb ib tb ty k n sz z l cur) → Post (.returned v.val) w4) : Calls Tryz.prog 117 #[.pointer (some ⟨b, 0, none⟩)] w1 Post := by
  obtain ⟨op, ins, t, hB⟩ := h.bt
  refine (constant_calls h.rd hB h.ne).mono ?_
  intro en w4 hP
  cases ho : conS s q e with
  | error f =>
    obtain ⟨c, a⟩ := f
    obtain ⟨hk, rfl, t', hb⟩ := hP.err (conS_err ho t)
    exact h1 c a w4 (SecP.mkErr (HS.out.trans (bindR_err ho kk)) (h.kp.trans (hk.mono fun j hj => by unfold S4; omega)).s4 rfl ⟨op, ins, t', hb⟩)
  | ok x =>
    obtain ⟨v, q2⟩ := x
    obtain ⟨hk, rfl, hr, hb⟩ := hP.ok (conS_ok ho t)
    exact h2 v q2 w4 ho (HS.out.trans (bindR_ok ho kk)) (h.con hR hk hr hb)
end
theorem pick_ne {α : Type} {l old : List α} {n : Nat} (h : l.length = n) (h0 : ¬ n = 0) : pick l old = l := if_neg (by omega)
end Go.Proofs.Qxb6500275aGreatDoor
