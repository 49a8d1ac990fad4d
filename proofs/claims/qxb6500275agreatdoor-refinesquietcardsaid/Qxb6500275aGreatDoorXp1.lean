import Derived.Test.Qxb6500275aGreatDoorSp20
import Derived.Test.Qxb6500275aGreatDoorMe9
import Derived.Test.Qxb6500275aGreatDoorHob
set_option linter.unusedVariables false
set_option linter.unusedSimpArgs false
set_option maxRecDepth 100000
namespace Go.Proofs.Qxb6500275aGreatDoor
open Go Go.RowKit
/- THE MACHINE, as plain functions -/
structure Fr where
  fn : Nat
  pc : Nat
  base : Nat
structure Xs where
  ws : List Nat
  fr : List Fr
  fn : Nat
  pc : Nat
  base : Nat
  S : Sm
  H : Hm
structure Xe where
  e : Nat
  out : List Nat
  S : Sm
  H : Hm
abbrev XR := Except Xe Xs
/- what never turns: the module, its code, the numeric operators -/
structure XC where
  M : Mod
  fs : List FF
  num : Nat → Int → Int → Int × Int
def resT (t : Ty) : Nat := if t.q.size = 0 then 0 else bAt t.q 0
def pAt (p : ByteArray) (i : Nat) : Nat := if i < p.size then bAt p i else 0
def packS (t : Ty) : List Nat := [t.p.size, pAt t.p 0, pAt t.p 1, pAt t.p 2, pAt t.p 3, resT t]
def Xs.topW (s : Xs) : Nat := s.ws.getD (s.ws.length - 1) 0
def Xs.pop (s : Xs) (n : Nat) : List Nat := s.ws.take (s.ws.length - n)
/- a function is called: cur: the frames, the caller's first -/
def enterX (C : XC) (ws : List Nat) (cur : List Fr) (f : Nat) (S : Sm) (H : Hm) : XR :=
  if f < C.M.imports.length then
    match C.M.typeOf f with
    | none => .error ⟨0, [], S, H⟩
    | some t =>
      let r := callH H f (ws.drop (ws.length - t.p.size)) (resT t) (S.bs.length / 64)
      if r.2.1 ≠ 0 then .error ⟨r.2.1, [], S, r.2.2⟩ else
      let ws' := ws.take (ws.length - t.p.size) ++ (if resT t = 0 then [] else [r.1])
      match cur with
      | [] => .error ⟨0, ws', S, r.2.2⟩
      | c :: cs => .ok ⟨ws', cs, c.fn, c.pc, c.base, S, r.2.2⟩
  else if 6 ≤ cur.length then .error ⟨45, [], S, H⟩ else
    match C.fs[f - C.M.imports.length]? with
    | none => .error ⟨0, [], S, H⟩
    | some ff => .ok ⟨ws ++ List.replicate (ff.locals - ff.params) 0, cur, f - C.M.imports.length, 0, ws.length - ff.params, S, H⟩
def Xs.cur (s : Xs) : Fr := ⟨s.fn, s.pc, s.base⟩
def ffX (C : XC) (s : Xs) : FF := C.fs.getD s.fn ⟨0, 0, 0, []⟩
def leaveX (C : XC) (s : Xs) : XR :=
  let ws' := s.ws.take s.base ++ (if (ffX C s).results = 1 then [s.topW] else [])
  match s.fr with
  | [] => .error ⟨0, ws', s.S, s.H⟩
  | c :: cs => .ok ⟨ws', cs, c.fn, c.pc, c.base, s.S, s.H⟩
/- a branch by cell c -/
def branchX (C : XC) (s : Xs) (c : Ins) : Xs :=
  { s with ws := s.ws.take (s.base + (ffX C s).locals + (c.y % 4294967296).toNat) ++ (if c.y / 4294967296 = 1 then [s.topW] else []), pc := c.x.toNat }
def lo32 (v : Nat) : Nat := v % 4294967296
def trapX (s : Xs) (e : Nat) : XR := .error ⟨e, [], s.S, s.H⟩
/- one cell, the place already beyond it -/
def coreX (C : XC) (s : Xs) (c : Ins) : XR :=
  if c.op = 0 then trapX s 38
  else if c.op = 1 then .ok s
  else if c.op = 4 then .ok { s with ws := s.pop 1, pc := if s.topW = 0 then c.x.toNat else s.pc }
  else if c.op = 224 then .ok { s with pc := c.x.toNat }
  else if c.op = 13 then .ok (if s.topW = 0 then { s with ws := s.pop 1 } else branchX C { s with ws := s.pop 1 } c)
  else if c.op = 12 then .ok (branchX C s c)
  else if c.op = 14 then .ok (branchX C { s with ws := s.pop 1 } ((ffX C s).cells.getD (s.pc + (if s.topW < c.x.toNat - 1 then s.topW else c.x.toNat - 1)) Ins.zero))
  else if c.op = 15 ∨ c.op = 11 then leaveX C s
  else if c.op = 16 then enterX C s.ws (s.cur :: s.fr) c.x.toNat s.S s.H
  else if c.op = 17 then
    (if (elemS s.S (lo32 s.topW)).2 ≠ 0 then trapX s (elemS s.S (lo32 s.topW)).2 else
      match C.M.typeOf (elemS s.S (lo32 s.topW)).1, C.M.types[c.x.toNat]? with
      | some t, some u => if packS t ≠ packS u then trapX s 44 else enterX C (s.pop 1) (s.cur :: s.fr) (elemS s.S (lo32 s.topW)).1.toNat s.S s.H
      | _, _ => trapX s 44)
  else if c.op = 33 then .ok { s with ws := (s.ws.set (s.base + c.x.toNat) s.topW).take (s.ws.length - 1) }
  else if c.op = 26 then .ok { s with ws := s.pop 1 }
  else if c.op = 34 then .ok { s with ws := s.ws.set (s.base + c.x.toNat) s.topW }
  else if c.op = 32 then .ok { s with ws := s.ws ++ [s.ws.getD (s.base + c.x.toNat) 0] }
  else if c.op = 27 then .ok { s with ws := (if s.topW = 0 then s.ws.set (s.ws.length - 3) (s.ws.getD (s.ws.length - 2) 0) else s.ws).take (s.ws.length - 2) }
  else if c.op = 35 then .ok { s with ws := s.ws ++ [(s.S.gl.getD c.x.toNat 0).toNat] }
  else if c.op = 36 then .ok { s with ws := s.pop 1, S := { s.S with gl := s.S.gl.set c.x.toNat s.topW } }
  else if c.op = 63 then .ok { s with ws := s.ws ++ [s.S.bs.length / 64] }
  else if c.op = 64 then .ok { s with ws := s.ws.set (s.ws.length - 1) (growS s.S (lo32 s.topW)).1, S := (growS s.S (lo32 s.topW)).2 }
  else if 65 ≤ c.op ∧ c.op ≤ 68 then .ok { s with ws := s.ws ++ [c.y.toNat] }
  else if c.op = 69 then .ok { s with ws := s.ws.set (s.ws.length - 1) (if s.topW = 0 then 1 else 0) }
  else if c.op = 106 then .ok { s with ws := (s.ws.set (s.ws.length - 2) ((s.ws.getD (s.ws.length - 2) 0 + s.topW) % 4294967296)).take (s.ws.length - 1) }
  else if c.op ≤ 53 then (match loadS s.S c.op (lo32 s.topW) (c.y % 4294967296).toNat with
    | none => trapX s 42
    | some v => .ok { s with ws := s.ws.set (s.ws.length - 1) v.toNat })
  else if c.op ≤ 62 then (match saveS s.S c.op (lo32 (s.ws.getD (s.ws.length - 2) 0)) (c.y % 4294967296).toNat s.topW with
    | none => trapX s 42
    | some S' => .ok { s with ws := s.pop 2, S := S' })
  else if twoS c.op = true then
    (if (C.num c.op (s.ws.getD (s.ws.length - 2) 0) s.topW).2 ≠ 0 then trapX s (C.num c.op (s.ws.getD (s.ws.length - 2) 0) s.topW).2.toNat
     else .ok { s with ws := (s.ws.set (s.ws.length - 2) (C.num c.op (s.ws.getD (s.ws.length - 2) 0) s.topW).1.toNat).take (s.ws.length - 1) })
  else
    (if (C.num c.op s.topW 0).2 ≠ 0 then trapX s (C.num c.op s.topW 0).2.toNat
     else .ok { s with ws := s.ws.set (s.ws.length - 1) (C.num c.op s.topW 0).1.toNat })
def cellX (C : XC) (s : Xs) : Ins := (ffX C s).cells.getD s.pc Ins.zero
def free (op : Nat) : Bool := decide (op = 224 ∨ op = 11)
/- one round: fuel and state -/
def stepX (C : XC) (p : Nat × Xs) : Except (Nat × Xe) (Nat × Xs) :=
  let c := cellX C p.2
  let s := { p.2 with pc := p.2.pc + 1 }
  if free c.op = true then (match coreX C s c with | .ok s' => .ok (p.1, s') | .error r => .error (p.1, r))
  else if p.1 = 0 then .error (0, ⟨46, [], p.2.S, p.2.H⟩)
  else (match coreX C s c with | .ok s' => .ok (p.1 - 1, s') | .error r => .error (p.1 - 1, r))
def iterX (C : XC) : Nat → Nat × Xs → Option (Nat × Xe)
  | 0, _ => none
  | n + 1, p => match stepX C p with
    | .error r => some r
    | .ok q => iterX C n q
/- it ends, and how -/
def Ends (C : XC) (p : Nat × Xs) (r : Nat × Xe) : Prop := ∃ n, iterX C n p = some r
theorem iterX_mono (C : XC) : ∀ (n : Nat) (p : Nat × Xs) (r : Nat × Xe), iterX C n p = some r → iterX C (n + 1) p = some r
  | 0, p, r, h => by simp [iterX] at h
  | n + 1, p, r, h => by
    rw [iterX] at h ⊢
    cases hs : stepX C p with
    | error e => rw [hs] at h; exact h
    | ok q => rw [hs] at h; exact iterX_mono C n q r h
theorem iterX_le (C : XC) {n m : Nat} {p : Nat × Xs} {r : Nat × Xe} (h : iterX C n p = some r) (hm : n ≤ m) : iterX C m p = some r := by
  obtain ⟨d, rfl⟩ := Nat.exists_eq_add_of_le hm
  clear hm
  induction d with
  | zero => exact h
  | succ d ih => exact iterX_mono C _ _ _ ih
theorem Ends.det {C : XC} {p : Nat × Xs} {r r' : Nat × Xe} (h : Ends C p r) (h' : Ends C p r') : r = r' := by
  obtain ⟨n, h⟩ := h
  obtain ⟨m, h'⟩ := h'
  have h1 := iterX_le C h (Nat.le_max_left n m)
  have h2 := iterX_le C h' (Nat.le_max_right n m)
  rw [h1] at h2
  simpa using h2
/- ONE FUEL MORE -/
theorem step_more {C : XC} {n m : Nat} {s s' : Xs} (h : stepX C (n, s) = .ok (m, s')) : stepX C (n + 1, s) = .ok (m + 1, s') ∧ m ≤ n := by
  unfold stepX at h ⊢
  dsimp only at h ⊢
  by_cases hf : free (cellX C s).op = true
  · rw [if_pos hf] at h ⊢
    cases hc : coreX C { s with pc := s.pc + 1 } (cellX C s) with
    | error r => rw [hc] at h; simp at h
    | ok q => rw [hc] at h; simp at h; obtain ⟨rfl, rfl⟩ := h; exact ⟨rfl, Nat.le_refl _⟩
  · rw [if_neg hf] at h ⊢
    rcases iteC h with ⟨_, h⟩ | ⟨h0, h⟩
    · simp at h
    · rw [if_neg (by omega)]
      cases hc : coreX C { s with pc := s.pc + 1 } (cellX C s) with
      | error r => rw [hc] at h; simp at h
      | ok q => rw [hc] at h; simp at h; obtain ⟨rfl, rfl⟩ := h; exact ⟨by simp; omega, by omega⟩
theorem step_more_e {C : XC} {n m : Nat} {s : Xs} {r : Xe} (h : stepX C (n, s) = .error (m, r)) (h46 : r.e ≠ 46) : stepX C (n + 1, s) = .error (m + 1, r) := by
  unfold stepX at h ⊢
  dsimp only at h ⊢
  by_cases hf : free (cellX C s).op = true
  · rw [if_pos hf] at h ⊢
    cases hc : coreX C { s with pc := s.pc + 1 } (cellX C s) with
    | error r => rw [hc] at h; simp at h; obtain ⟨rfl, rfl⟩ := h; rfl
    | ok q => rw [hc] at h; simp at h
  · rw [if_neg hf] at h ⊢
    rcases iteC h with ⟨_, h⟩ | ⟨h0, h⟩
    · simp at h
      rw [← h.2] at h46
      simp at h46
    · rw [if_neg (by omega)]
      cases hc : coreX C { s with pc := s.pc + 1 } (cellX C s) with
      | error r => rw [hc] at h; simp at h; obtain ⟨rfl, rfl⟩ := h; simp; omega
      | ok q => rw [hc] at h; simp at h
theorem step_le_e {C : XC} {n m : Nat} {s : Xs} {r : Xe} (h : stepX C (n, s) = .error (m, r)) : m ≤ n := by
  unfold stepX at h
  dsimp only at h
  by_cases hf : free (cellX C s).op = true
  · rw [if_pos hf] at h
    cases hc : coreX C { s with pc := s.pc + 1 } (cellX C s) with
    | error r => rw [hc] at h; simp at h; omega
    | ok q => rw [hc] at h; simp at h
  · rw [if_neg hf] at h
    rcases iteC h with ⟨_, h⟩ | ⟨h0, h⟩
    · simp at h; omega
    · cases hc : coreX C { s with pc := s.pc + 1 } (cellX C s) with
      | error r => rw [hc] at h; simp at h; omega
      | ok q => rw [hc] at h; simp at h
theorem Ends.more {C : XC} {n m : Nat} {s : Xs} {r : Xe} (h : Ends C (n, s) (m, r)) (h46 : r.e ≠ 46) : Ends C (n + 1, s) (m + 1, r) := by
  obtain ⟨k, h⟩ := h
  refine ⟨k, ?_⟩
  induction k generalizing n s with
  | zero => simp [iterX] at h
  | succ k ih =>
    rw [iterX] at h ⊢
    cases hs : stepX C (n, s) with
    | error e =>
      rw [hs] at h
      simp at h
      subst h
      rw [step_more_e hs h46]
    | ok q =>
      obtain ⟨m', s'⟩ := q
      rw [hs] at h
      rw [(step_more hs).1]
      exact ih h
theorem Ends.le {C : XC} {n m : Nat} {s : Xs} {r : Xe} (h : Ends C (n, s) (m, r)) : m ≤ n := by
  obtain ⟨k, h⟩ := h
  induction k generalizing n s with
  | zero => simp [iterX] at h
  | succ k ih =>
    rw [iterX] at h
    cases hs : stepX C (n, s) with
    | error e =>
      rw [hs] at h
      simp at h
      subst h
      exact step_le_e hs
    | ok q =>
      obtain ⟨m', s'⟩ := q
      rw [hs] at h
      exact Nat.le_trans (ih h) (step_more hs).2
/- the numeric operators, as they answer -/
structure NumOk (num : Nat → Int → Int → Int × Int) : Prop where
  r : ∀ o x y, (0 ≤ (num o x y).1 ∧ (num o x y).1 < 18446744073709551616) ∧ ((num o x y).2 = 0 ∨ 38 ≤ (num o x y).2 ∧ (num o x y).2 ≤ 45)
/- the errors -/
def trapE (e : Nat) : Prop := (e = 0 ∨ 38 ≤ e) ∧ e ≠ 46
theorem fnH_e (H : Hm) (kd want pages : Nat) : trapE (fnH H kd want pages).2.1 := by
  unfold fnH trapE
  split
  · split
    · simp
    · cases takeH H with
      | none => simp
      | some p => simp
  split
  · simp
  split
  · split <;> simp
  · simp
theorem callH_e (H : Hm) (k : Nat) (a : List Nat) (want pages : Nat) : trapE (callH H k a want pages).2.1 := by
  unfold callH
  split
  · unfold trapE; simp
  · exact fnH_e _ _ _ _
theorem enterX_e {C : XC} {ws : List Nat} {cur : List Fr} {f : Nat} {S : Sm} {H : Hm} {r : Xe} (h : enterX C ws cur f S H = .error r) : trapE r.e := by
  unfold enterX at h
  rcases iteC h with ⟨_, h⟩ | ⟨_, h⟩
  · cases ht : C.M.typeOf f with
    | none => rw [ht] at h; simp at h; subst h; unfold trapE; simp
    | some t =>
      rw [ht] at h
      dsimp only at h
      have he := callH_e H f (ws.drop (ws.length - t.p.size)) (resT t) (S.bs.length / 64)
      rcases iteC h with ⟨_, h⟩ | ⟨_, h⟩
      · simp at h; subst h; exact he
      · cases cur with
        | nil => simp at h; subst h; unfold trapE; simp
        | cons c cs => simp at h
  · rcases iteC h with ⟨_, h⟩ | ⟨_, h⟩
    · simp at h; subst h; unfold trapE; simp
    · cases hf : C.fs[f - C.M.imports.length]? with
      | none => rw [hf] at h; simp at h; subst h; unfold trapE; simp
      | some ff => rw [hf] at h; simp at h
theorem trapX_e {s : Xs} {e : Nat} {r : Xe} (h : trapX s e = .error r) (he : trapE e) : trapE r.e := by
  unfold trapX at h
  simp at h
  subst h
  exact he
theorem coreX_e {C : XC} (hN : NumOk C.num) {s : Xs} {c : Ins} {r : Xe} (h : coreX C s c = .error r) : trapE r.e := by
  unfold coreX at h
  rcases iteC h with ⟨_, h⟩ | ⟨_, h⟩
  · exact trapX_e h (by unfold trapE; simp)
  rcases iteC h with ⟨_, h⟩ | ⟨_, h⟩
  · simp at h
  rcases iteC h with ⟨_, h⟩ | ⟨_, h⟩
  · simp at h
  rcases iteC h with ⟨_, h⟩ | ⟨_, h⟩
  · simp at h
  rcases iteC h with ⟨_, h⟩ | ⟨_, h⟩
  · simp at h
  rcases iteC h with ⟨_, h⟩ | ⟨_, h⟩
  · simp at h
  rcases iteC h with ⟨_, h⟩ | ⟨_, h⟩
  · simp at h
  rcases iteC h with ⟨_, h⟩ | ⟨_, h⟩
  · unfold leaveX at h
    dsimp only at h
    cases hfr : s.fr with
    | nil => rw [hfr] at h; simp at h; subst h; unfold trapE; simp
    | cons a b => rw [hfr] at h; simp at h
  rcases iteC h with ⟨_, h⟩ | ⟨_, h⟩
  · exact enterX_e h
  rcases iteC h with ⟨_, h⟩ | ⟨_, h⟩
  · rcases iteC h with ⟨_, h⟩ | ⟨_, h⟩
    · refine trapX_e h ?_
      unfold elemS
      split
      · unfold trapE; simp
      · split <;> (unfold trapE; simp)
    · split at h
      · rcases iteC h with ⟨_, h⟩ | ⟨_, h⟩
        · exact trapX_e h (by unfold trapE; simp)
        · exact enterX_e h
      · exact trapX_e h (by unfold trapE; simp)
  iterate 12
    rcases iteC h with ⟨_, h⟩ | ⟨_, h⟩
    · simp at h
  rcases iteC h with ⟨_, h⟩ | ⟨_, h⟩
  · split at h
    · exact trapX_e h (by unfold trapE; simp)
    · simp at h
  rcases iteC h with ⟨_, h⟩ | ⟨_, h⟩
  · split at h
    · exact trapX_e h (by unfold trapE; simp)
    · simp at h
  rcases iteC h with ⟨_, h⟩ | ⟨_, h⟩
  · rcases iteC h with ⟨h0, h⟩ | ⟨_, h⟩
    · refine trapX_e h ?_
      have := (hN.r c.op (s.ws.getD (s.ws.length - 2) 0) s.topW).2
      unfold trapE
      omega
    · simp at h
  · rcases iteC h with ⟨h0, h⟩ | ⟨_, h⟩
    · refine trapX_e h ?_
      have := (hN.r c.op s.topW 0).2
      unfold trapE
      omega
    · simp at h
theorem stepX_e {C : XC} (hN : NumOk C.num) {n m : Nat} {s : Xs} {r : Xe} (h : stepX C (n, s) = .error (m, r)) : (r.e = 0 ∨ 38 ≤ r.e) ∧ (r.e = 46 → m = 0) := by
  unfold stepX at h
  dsimp only at h
  by_cases hf : free (cellX C s).op = true
  · rw [if_pos hf] at h
    cases hc : coreX C { s with pc := s.pc + 1 } (cellX C s) with
    | error r' =>
      have := coreX_e hN hc
      rw [hc] at h
      simp at h
      obtain ⟨rfl, rfl⟩ := h
      exact ⟨this.1, fun e => absurd e this.2⟩
    | ok q => rw [hc] at h; simp at h
  · rw [if_neg hf] at h
    rcases iteC h with ⟨_, h⟩ | ⟨h0, h⟩
    · simp at h
      obtain ⟨rfl, rfl⟩ := h
      exact ⟨.inr (by simp), fun _ => rfl⟩
    · cases hc : coreX C { s with pc := s.pc + 1 } (cellX C s) with
      | error r' =>
        have := coreX_e hN hc
        rw [hc] at h
        simp at h
        obtain ⟨rfl, rfl⟩ := h
        exact ⟨this.1, fun e => absurd e this.2⟩
      | ok q => rw [hc] at h; simp at h
theorem Ends.e {C : XC} (hN : NumOk C.num) {n m : Nat} {s : Xs} {r : Xe} (h : Ends C (n, s) (m, r)) : (r.e = 0 ∨ 38 ≤ r.e) ∧ (r.e = 46 → m = 0) := by
  obtain ⟨k, h⟩ := h
  induction k generalizing n s with
  | zero => simp [iterX] at h
  | succ k ih =>
    rw [iterX] at h
    cases hs : stepX C (n, s) with
    | error e =>
      rw [hs] at h
      simp at h
      subst h
      exact stepX_e hN hs
    | ok q =>
      obtain ⟨m', s'⟩ := q
      rw [hs] at h
      exact ih h
end Go.Proofs.Qxb6500275aGreatDoor
