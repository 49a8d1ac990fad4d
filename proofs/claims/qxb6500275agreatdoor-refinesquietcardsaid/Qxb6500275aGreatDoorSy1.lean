import Derived.Test.Qxb6500275aGreatDoorDec1
set_option maxRecDepth 100000
set_option linter.unusedVariables false
namespace Go.Proofs.Qxb6500275aGreatDoor
open Go Go.RowKit
/- the decoder's errors: 1 .. 13 -/
def Er {α : Type} (o : Except (Int × Nat) α) : Prop := ∀ c a, o = .error (c, a) → 1 ≤ c ∧ c ≤ 13
section
variable {α β : Type} {s : ByteArray}
theorem Er.ok (x : α) : Er (.ok x) := fun c a h => by simp at h
theorem Er.err {c : Int} {a : Nat} (hc : 1 ≤ c ∧ c ≤ 13) : Er (.error (c, a) : Except (Int × Nat) α) := fun c' a' h => by simp at h; obtain ⟨rfl, _⟩ := h; exact hc
theorem Er.of {o : Except (Int × Nat) α} {f : Int × Nat} (ho : Er o) (h : o = .error f) : Er (.error f : Except (Int × Nat) β) := fun c a h2 => by simp at h2; subst h2; exact ho c a h
theorem Er.bind {o : Except (Int × Nat) α} {k : α → Except (Int × Nat) β} (ho : Er o) (hk : ∀ x, Er (k x)) : Er (bindR o k) := by
  unfold bindR
  split
  · rename_i f; exact Er.of ho rfl
  · exact hk _
theorem Er.ite {p : Prop} [Decidable p] {a b : Except (Int × Nat) α} (h1 : Er a) (h2 : Er b) : Er (if p then a else b) := by split; exact h1; exact h2
theorem er_u32L (e start : Nat) : ∀ (n : Nat) (v : Int) (q : Nat), Er (u32L s e start n v q)
  | 0, v, q => by unfold u32L; exact Er.err (by decide)
  | n + 1, v, q => by
    unfold u32L
    exact Er.ite (Er.ite (Er.err (by decide)) (Er.ite (Er.ok _) (er_u32L e start n _ _))) (Er.err (by decide))
theorem er_u32S (p e : Nat) : Er (u32S s p e) := er_u32L _ _ _ _ _
theorem er_count (p e : Nat) (mx : Int) : Er (countS s p e mx) := by
  unfold countS
  repeat (first | exact Er.ok _ | exact Er.err (by decide) | exact er_u32S _ _ | (rename_i h; exact Er.of (er_u32S _ _) h) | (refine Er.bind ?_ (fun _ => ?_)) | refine Er.ite ?_ ?_ | split)
theorem er_take (p e n : Nat) : Er (takeS s p e n) := by
  unfold takeS
  repeat (first | exact Er.ok _ | exact Er.err (by decide) | (refine Er.bind ?_ (fun _ => ?_)) | refine Er.ite ?_ ?_ | split)
theorem er_name (p e : Nat) : Er (nameS s p e) := by
  unfold nameS
  repeat (first | exact Er.ok _ | exact Er.err (by decide) | exact er_count _ _ _ | exact er_take _ _ _ | (rename_i h; exact Er.of (er_count _ _ _) h) | (rename_i h; exact Er.of (er_take _ _ _) h) | (refine Er.bind ?_ (fun _ => ?_)) | refine Er.ite ?_ ?_ | split)
theorem er_fixed (p e want : Nat) : Er (fixedS s p e want) := by
  unfold fixedS
  repeat (first | exact Er.ok _ | exact Er.err (by decide) | (refine Er.bind ?_ (fun _ => ?_)) | refine Er.ite ?_ ?_ | split)
theorem er_flag (p e mx : Nat) : Er (flagS s p e mx) := by
  unfold flagS
  repeat (first | exact Er.ok _ | exact Er.err (by decide) | (refine Er.bind ?_ (fun _ => ?_)) | refine Er.ite ?_ ?_ | split)
theorem er_valtype (p e : Nat) : Er (valtypeS s p e) := by
  unfold valtypeS
  repeat (first | exact Er.ok _ | exact Er.err (by decide) | (refine Er.bind ?_ (fun _ => ?_)) | refine Er.ite ?_ ?_ | split)
theorem er_next (p e : Nat) : Er (nextS s p e) := by
  unfold nextS
  repeat (first | exact Er.ok _ | exact Er.err (by decide) | (refine Er.bind ?_ (fun _ => ?_)) | refine Er.ite ?_ ?_ | split)
theorem er_valtypesL (e : Nat) : ∀ (n q : Nat), Er (valtypesL s e n q)
  | 0, q => by unfold valtypesL; exact Er.ok _
  | n + 1, q => by
    unfold valtypesL
    split
    · rename_i h; exact Er.of (er_valtype _ _) h
    · exact er_valtypesL e n _
theorem er_tabsL (e : Nat) : ∀ (n q : Nat) (t : List Int), Er (tabsL s e n q t)
  | 0, q, t => by unfold tabsL; exact Er.ok _
  | n + 1, q, t => by
    unfold tabsL
    split
    · rename_i h; exact Er.of (er_u32S _ _) h
    · exact er_tabsL e n _ _
theorem er_slebL (e start bt : Nat) : ∀ (n k : Nat) (v : Int) (q : Nat), Er (slebL s e start bt n k v q)
  | 0, k, v, q => by unfold slebL; exact Er.err (by decide)
  | n + 1, k, v, q => by
    unfold slebL
    exact Er.ite (Er.err (by decide)) (Er.ite (Er.ite (Er.ok _) (er_slebL e start bt n _ _ _)) (Er.err (by decide)))
theorem er_valtypes (p e : Nat) (mx : Int) : Er (valtypesS s p e mx) := by
  unfold valtypesS
  repeat (first | exact Er.ok _ | exact Er.err (by decide) | exact er_count _ _ _ | exact er_valtypesL _ _ _ | (rename_i h; exact Er.of (er_count _ _ _) h) | (rename_i h; exact Er.of (er_valtypesL _ _ _) h) | (refine Er.bind ?_ (fun _ => ?_)) | refine Er.ite ?_ ?_ | split)
theorem er_limits (p e : Nat) : Er (limitsS s p e) := by
  unfold limitsS
  repeat (first | exact Er.ok _ | exact Er.err (by decide) | exact er_flag _ _ _ | exact er_u32S _ _ | (rename_i h; exact Er.of (er_flag _ _ _) h) | (rename_i h; exact Er.of (er_u32S _ _) h) | (refine Er.bind ?_ (fun _ => ?_)) | refine Er.ite ?_ ?_ | split)
theorem er_enter (p e : Nat) : Er (enterS s p e) := by
  unfold enterS
  repeat (first | exact Er.ok _ | exact Er.err (by decide) | exact er_u32S _ _ | (rename_i h; exact Er.of (er_u32S _ _) h) | (refine Er.bind ?_ (fun _ => ?_)) | refine Er.ite ?_ ?_ | split)
theorem er_slebEnd (bt start k cc : Nat) (v : Int) (q : Nat) : Er (slebEnd bt start k cc v q) := by
  unfold slebEnd
  repeat (first | exact Er.ok _ | exact Er.err (by decide) | (refine Er.bind ?_ (fun _ => ?_)) | refine Er.ite ?_ ?_ | split)
theorem er_sleb (p e bt : Nat) : Er (slebS s p e bt) := by
  unfold slebS
  repeat (first | exact Er.ok _ | exact Er.err (by decide) | exact er_slebL _ _ _ _ _ _ _ | exact er_slebEnd _ _ _ _ _ _ | (rename_i h; exact Er.of (er_slebL _ _ _ _ _ _ _) h) | (rename_i h; exact Er.of (er_slebEnd _ _ _ _ _ _) h) | (refine Er.bind ?_ (fun _ => ?_)) | refine Er.ite ?_ ?_ | split)
theorem er_wordS (p e n : Nat) : Er (wordS s p e n) := by
  unfold wordS
  repeat (first | exact Er.ok _ | exact Er.err (by decide) | exact er_take _ _ _ | (rename_i h; exact Er.of (er_take _ _ _) h) | (refine Er.bind ?_ (fun _ => ?_)) | refine Er.ite ?_ ?_ | split)
theorem er_cS (p e op : Nat) : Er (cS s p e op) := by
  unfold cS
  repeat (first | exact Er.ok _ | exact Er.err (by decide) | exact er_sleb _ _ _ | exact er_wordS _ _ _ | (rename_i h; exact Er.of (er_sleb _ _ _) h) | (rename_i h; exact Er.of (er_wordS _ _ _) h) | (refine Er.bind ?_ (fun _ => ?_)) | refine Er.ite ?_ ?_ | split)
theorem er_conS (p e : Nat) : Er (conS s p e) := by
  unfold conS
  repeat (first | exact Er.ok _ | exact Er.err (by decide) | exact er_cS _ _ _ | (rename_i h; exact Er.of (er_cS _ _ _) h) | (refine Er.bind ?_ (fun _ => ?_)) | refine Er.ite ?_ ?_ | split)
theorem er_blk (p e op : Nat) (tabs : List Int) : Er (blkS s p e op tabs) := by
  unfold blkS
  repeat (first | exact Er.ok _ | exact Er.err (by decide) | (refine Er.bind ?_ (fun _ => ?_)) | refine Er.ite ?_ ?_ | split)
theorem er_idx (p e op : Nat) (tabs : List Int) : Er (idxS s p e op tabs) := by
  unfold idxS
  repeat (first | exact Er.ok _ | exact Er.err (by decide) | exact er_u32S _ _ | (rename_i h; exact Er.of (er_u32S _ _) h) | (refine Er.bind ?_ (fun _ => ?_)) | refine Er.ite ?_ ?_ | split)
theorem er_ci (p e op : Nat) (tabs : List Int) : Er (ciS s p e op tabs) := by
  unfold ciS
  repeat (first | exact Er.ok _ | exact Er.err (by decide) | exact er_u32S _ _ | exact er_fixed _ _ _ | (rename_i h; exact Er.of (er_u32S _ _) h) | (rename_i h; exact Er.of (er_fixed _ _ _) h) | (refine Er.bind ?_ (fun _ => ?_)) | refine Er.ite ?_ ?_ | split)
theorem er_zero (p e op : Nat) (tabs : List Int) : Er (zeroS s p e op tabs) := by
  unfold zeroS
  repeat (first | exact Er.ok _ | exact Er.err (by decide) | exact er_fixed _ _ _ | (rename_i h; exact Er.of (er_fixed _ _ _) h) | (refine Er.bind ?_ (fun _ => ?_)) | refine Er.ite ?_ ?_ | split)
theorem er_ldst (p e op : Nat) (tabs : List Int) : Er (ldstS s p e op tabs) := by
  unfold ldstS
  repeat (first | exact Er.ok _ | exact Er.err (by decide) | exact er_u32S _ _ | (rename_i h; exact Er.of (er_u32S _ _) h) | (refine Er.bind ?_ (fun _ => ?_)) | refine Er.ite ?_ ?_ | split)
theorem er_table2 (p e op : Nat) (tabs : List Int) : Er (tableS2 s p e op tabs) := by
  unfold tableS2
  repeat (first | exact Er.ok _ | exact Er.err (by decide) | exact er_count _ _ _ | exact er_tabsL _ _ _ _ | (rename_i h; exact Er.of (er_count _ _ _) h) | (rename_i h; exact Er.of (er_tabsL _ _ _ _) h) | (refine Er.bind ?_ (fun _ => ?_)) | refine Er.ite ?_ ?_ | split)
theorem er_const {o : R Int} (ho : Er o) (op : Nat) (tabs : List Int) : Er (constS o op tabs) := by
  unfold constS
  split
  · exact Er.of ho rfl
  · exact Er.ok _
theorem er_localsL (e : Nat) : ∀ (g : Nat) (acc : List Nat) (q : Nat), Er (localsL s e g acc q)
  | 0, acc, q => by unfold localsL; exact Er.ok _
  | g + 1, acc, q => by
    unfold localsL
    split
    · rename_i h; exact Er.of (er_count _ _ _) h
    · split
      · rename_i h; exact Er.of (er_valtype _ _) h
      · exact er_localsL e g _ _
theorem er_locals (p e : Nat) : Er (localsS s p e) := by
  unfold localsS
  repeat (first | exact Er.ok _ | exact Er.err (by decide) | exact er_count _ _ _ | exact er_localsL _ _ _ _ | (rename_i h; exact Er.of (er_count _ _ _) h) | (rename_i h; exact Er.of (er_localsL _ _ _ _) h) | (refine Er.bind ?_ (fun _ => ?_)) | refine Er.ite ?_ ?_ | split)
theorem er_rest (p e op at_ : Nat) (tabs : List Int) : Er (restS s p e op at_ tabs) := by
  unfold restS
  repeat (first | exact Er.ok _ | exact Er.err (by decide) | exact er_blk _ _ _ _ | exact er_idx _ _ _ _ | exact er_table2 _ _ _ _ | exact er_ci _ _ _ _ | exact er_zero _ _ _ _ | exact er_const (er_cS _ _ _) _ _ | exact er_ldst _ _ _ _ | (rename_i h; exact Er.of (er_blk _ _ _ _) h) | (rename_i h; exact Er.of (er_idx _ _ _ _) h) | (rename_i h; exact Er.of (er_table2 _ _ _ _) h) | (rename_i h; exact Er.of (er_ci _ _ _ _) h) | (rename_i h; exact Er.of (er_zero _ _ _ _) h) | (rename_i h; exact Er.of (er_const (er_cS _ _ _) _ _) h) | (rename_i h; exact Er.of (er_ldst _ _ _ _) h) | (refine Er.bind ?_ (fun _ => ?_)) | refine Er.ite ?_ ?_ | split)
theorem er_bodyL (e : Nat) : ∀ (n q : Nat) (opn : List Nat) (ins : List Ins) (tabs : List Int), Er (bodyL s e n q opn ins tabs)
  | 0, q, opn, ins, tabs => by unfold bodyL; exact Er.err (by decide)
  | n + 1, q, opn, ins, tabs => by
    unfold bodyL
    refine Er.bind (er_next _ _) (fun a => Er.bind (er_rest _ _ _ _ _) (fun x => ?_))
    repeat (first | exact Er.ok _ | exact Er.err (by decide) | exact er_bodyL e n _ _ _ _ | refine Er.ite ?_ ?_)
theorem er_body (p e : Nat) : Er (bodyS s p e) := er_bodyL _ _ _ _ _ _
theorem er_rowsL {row : Nat → R α} (hr : ∀ q, Er (row q)) : ∀ (n q : Nat) (l : List α), Er (rowsL row n q l)
  | 0, q, l => by unfold rowsL; exact Er.ok _
  | n + 1, q, l => by unfold rowsL; exact Er.bind (hr _) (fun x => er_rowsL hr n _ _)
theorem er_vec {row : Nat → R α} (hr : ∀ q, Er (row q)) (p e : Nat) (mx : Int) : Er (vecS s p e mx row) := Er.bind (er_count _ _ _) (fun x => er_rowsL hr _ _ _)
theorem er_tyRow (e q : Nat) : Er (tyRow s e q) := by
  unfold tyRow
  repeat (first | exact Er.ok _ | exact Er.err (by decide) | exact er_fixed _ _ _ | exact er_valtypes _ _ _ | (rename_i h; exact Er.of (er_fixed _ _ _) h) | (rename_i h; exact Er.of (er_valtypes _ _ _) h) | (refine Er.bind ?_ (fun _ => ?_)) | refine Er.ite ?_ ?_ | split)
theorem er_tiRow (e q : Nat) : Er (tiRow s e q) := by
  unfold tiRow
  repeat (first | exact Er.ok _ | exact Er.err (by decide) | exact er_u32S _ _ | (rename_i h; exact Er.of (er_u32S _ _) h) | (refine Er.bind ?_ (fun _ => ?_)) | refine Er.ite ?_ ?_ | split)
theorem er_impRow (e q : Nat) : Er (impRow s e q) := by
  unfold impRow
  repeat (first | exact Er.ok _ | exact Er.err (by decide) | exact er_name _ _ | exact er_fixed _ _ _ | exact er_u32S _ _ | (rename_i h; exact Er.of (er_name _ _) h) | (rename_i h; exact Er.of (er_fixed _ _ _) h) | (rename_i h; exact Er.of (er_u32S _ _) h) | (refine Er.bind ?_ (fun _ => ?_)) | refine Er.ite ?_ ?_ | split)
theorem er_globRow (e q : Nat) : Er (globRow s e q) := by
  unfold globRow
  repeat (first | exact Er.ok _ | exact Er.err (by decide) | exact er_valtype _ _ | exact er_flag _ _ _ | exact er_conS _ _ | (rename_i h; exact Er.of (er_valtype _ _) h) | (rename_i h; exact Er.of (er_flag _ _ _) h) | (rename_i h; exact Er.of (er_conS _ _) h) | (refine Er.bind ?_ (fun _ => ?_)) | refine Er.ite ?_ ?_ | split)
theorem er_expRow (e q : Nat) : Er (expRow s e q) := by
  unfold expRow
  repeat (first | exact Er.ok _ | exact Er.err (by decide) | exact er_name _ _ | exact er_flag _ _ _ | exact er_u32S _ _ | (rename_i h; exact Er.of (er_name _ _) h) | (rename_i h; exact Er.of (er_flag _ _ _) h) | (rename_i h; exact Er.of (er_u32S _ _) h) | (refine Er.bind ?_ (fun _ => ?_)) | refine Er.ite ?_ ?_ | split)
theorem er_elmRow (e q : Nat) : Er (elmRow s e q) := by
  unfold elmRow
  repeat (first | exact Er.ok _ | exact Er.err (by decide) | exact er_fixed _ _ _ | exact er_conS _ _ | exact er_vec (fun q => er_tiRow _ q) _ _ _ | (rename_i h; exact Er.of (er_fixed _ _ _) h) | (rename_i h; exact Er.of (er_conS _ _) h) | (rename_i h; exact Er.of (er_vec (fun q => er_tiRow _ q) _ _ _) h) | (refine Er.bind ?_ (fun _ => ?_)) | refine Er.ite ?_ ?_ | split)
theorem er_datRow (e q : Nat) : Er (datRow s e q) := by
  unfold datRow
  repeat (first | exact Er.ok _ | exact Er.err (by decide) | exact er_fixed _ _ _ | exact er_conS _ _ | exact er_count _ _ _ | exact er_take _ _ _ | (rename_i h; exact Er.of (er_fixed _ _ _) h) | (rename_i h; exact Er.of (er_conS _ _) h) | (rename_i h; exact Er.of (er_count _ _ _) h) | (rename_i h; exact Er.of (er_take _ _ _) h) | (refine Er.bind ?_ (fun _ => ?_)) | refine Er.ite ?_ ?_ | split)
theorem er_fnRow (e : Nat) (ty : Int) (q : Nat) : Er (fnRow s e ty q) := by
  unfold fnRow
  repeat (first | exact Er.ok _ | exact Er.err (by decide) | exact er_enter _ _ | exact er_locals _ _ | exact er_body _ _ | (rename_i h; exact Er.of (er_enter _ _) h) | (rename_i h; exact Er.of (er_locals _ _) h) | (rename_i h; exact Er.of (er_body _ _) h) | (refine Er.bind ?_ (fun _ => ?_)) | refine Er.ite ?_ ?_ | split)
theorem er_fnsL (e : Nat) : ∀ (l : List Int) (q : Nat) (acc : List Fn), Er (fnsL s e l q acc)
  | [], q, acc => by unfold fnsL; exact Er.ok _
  | t :: ts, q, acc => by unfold fnsL; exact Er.bind (er_fnRow _ _ _) (fun x => er_fnsL e ts _ _)
theorem er_sec1 (p e : Nat) (M : Mod) (ty : List Int) : Er (sec1 s p e M ty) := by
  unfold sec1
  repeat (first | exact Er.ok _ | exact Er.err (by decide) | exact er_vec (fun q => er_tyRow _ q) _ _ _ | (rename_i h; exact Er.of (er_vec (fun q => er_tyRow _ q) _ _ _) h) | (refine Er.bind ?_ (fun _ => ?_)) | refine Er.ite ?_ ?_ | split)
theorem er_sec2 (p e : Nat) (M : Mod) (ty : List Int) : Er (sec2 s p e M ty) := by
  unfold sec2
  repeat (first | exact Er.ok _ | exact Er.err (by decide) | exact er_vec (fun q => er_impRow _ q) _ _ _ | (rename_i h; exact Er.of (er_vec (fun q => er_impRow _ q) _ _ _) h) | (refine Er.bind ?_ (fun _ => ?_)) | refine Er.ite ?_ ?_ | split)
theorem er_sec3 (p e : Nat) (M : Mod) (ty : List Int) : Er (sec3 s p e M ty) := by
  unfold sec3
  repeat (first | exact Er.ok _ | exact Er.err (by decide) | exact er_vec (fun q => er_tiRow _ q) _ _ _ | (rename_i h; exact Er.of (er_vec (fun q => er_tiRow _ q) _ _ _) h) | (refine Er.bind ?_ (fun _ => ?_)) | refine Er.ite ?_ ?_ | split)
theorem er_sec4 (p e : Nat) (M : Mod) (ty : List Int) : Er (sec4 s p e M ty) := by
  unfold sec4
  repeat (first | exact Er.ok _ | exact Er.err (by decide) | exact er_count _ _ _ | exact er_fixed _ _ _ | exact er_limits _ _ | (rename_i h; exact Er.of (er_count _ _ _) h) | (rename_i h; exact Er.of (er_fixed _ _ _) h) | (rename_i h; exact Er.of (er_limits _ _) h) | (refine Er.bind ?_ (fun _ => ?_)) | refine Er.ite ?_ ?_ | split)
theorem er_sec5 (p e : Nat) (M : Mod) (ty : List Int) : Er (sec5 s p e M ty) := by
  unfold sec5
  repeat (first | exact Er.ok _ | exact Er.err (by decide) | exact er_count _ _ _ | exact er_limits _ _ | (rename_i h; exact Er.of (er_count _ _ _) h) | (rename_i h; exact Er.of (er_limits _ _) h) | (refine Er.bind ?_ (fun _ => ?_)) | refine Er.ite ?_ ?_ | split)
theorem er_sec6 (p e : Nat) (M : Mod) (ty : List Int) : Er (sec6 s p e M ty) := by
  unfold sec6
  repeat (first | exact Er.ok _ | exact Er.err (by decide) | exact er_vec (fun q => er_globRow _ q) _ _ _ | (rename_i h; exact Er.of (er_vec (fun q => er_globRow _ q) _ _ _) h) | (refine Er.bind ?_ (fun _ => ?_)) | refine Er.ite ?_ ?_ | split)
theorem er_sec7 (p e : Nat) (M : Mod) (ty : List Int) : Er (sec7 s p e M ty) := by
  unfold sec7
  repeat (first | exact Er.ok _ | exact Er.err (by decide) | exact er_vec (fun q => er_expRow _ q) _ _ _ | (rename_i h; exact Er.of (er_vec (fun q => er_expRow _ q) _ _ _) h) | (refine Er.bind ?_ (fun _ => ?_)) | refine Er.ite ?_ ?_ | split)
theorem er_sec8 (p e : Nat) (M : Mod) (ty : List Int) : Er (sec8 s p e M ty) := by
  unfold sec8
  repeat (first | exact Er.ok _ | exact Er.err (by decide) | exact er_u32S _ _ | (rename_i h; exact Er.of (er_u32S _ _) h) | (refine Er.bind ?_ (fun _ => ?_)) | refine Er.ite ?_ ?_ | split)
theorem er_sec9 (p e : Nat) (M : Mod) (ty : List Int) : Er (sec9 s p e M ty) := by
  unfold sec9
  repeat (first | exact Er.ok _ | exact Er.err (by decide) | exact er_vec (fun q => er_elmRow _ q) _ _ _ | (rename_i h; exact Er.of (er_vec (fun q => er_elmRow _ q) _ _ _) h) | (refine Er.bind ?_ (fun _ => ?_)) | refine Er.ite ?_ ?_ | split)
theorem er_sec10 (p e : Nat) (M : Mod) (ty : List Int) : Er (sec10 s p e M ty) := by
  unfold sec10
  repeat (first | exact Er.ok _ | exact Er.err (by decide) | exact er_count _ _ _ | exact er_fnsL _ _ _ _ | (rename_i h; exact Er.of (er_count _ _ _) h) | (rename_i h; exact Er.of (er_fnsL _ _ _ _) h) | (refine Er.bind ?_ (fun _ => ?_)) | refine Er.ite ?_ ?_ | split)
theorem er_sec11 (p e : Nat) (M : Mod) (ty : List Int) : Er (sec11 s p e M ty) := by
  unfold sec11
  repeat (first | exact Er.ok _ | exact Er.err (by decide) | exact er_vec (fun q => er_datRow _ q) _ _ _ | (rename_i h; exact Er.of (er_vec (fun q => er_datRow _ q) _ _ _) h) | (refine Er.bind ?_ (fun _ => ?_)) | refine Er.ite ?_ ?_ | split)
theorem er_sec (id : Nat) (p e : Nat) (M : Mod) (ty : List Int) : Er (secS id s p e M ty) := by
  unfold secS
  repeat (first | exact Er.ok _ | exact Er.err (by decide) | exact er_sec1 _ _ _ _ | exact er_sec2 _ _ _ _ | exact er_sec3 _ _ _ _ | exact er_sec4 _ _ _ _ | exact er_sec5 _ _ _ _ | exact er_sec6 _ _ _ _ | exact er_sec7 _ _ _ _ | exact er_sec8 _ _ _ _ | exact er_sec9 _ _ _ _ | exact er_sec10 _ _ _ _ | exact er_sec11 _ _ _ _ | (rename_i h; exact Er.of (er_sec1 _ _ _ _) h) | (rename_i h; exact Er.of (er_sec2 _ _ _ _) h) | (rename_i h; exact Er.of (er_sec3 _ _ _ _) h) | (rename_i h; exact Er.of (er_sec4 _ _ _ _) h) | (rename_i h; exact Er.of (er_sec5 _ _ _ _) h) | (rename_i h; exact Er.of (er_sec6 _ _ _ _) h) | (rename_i h; exact Er.of (er_sec7 _ _ _ _) h) | (rename_i h; exact Er.of (er_sec8 _ _ _ _) h) | (rename_i h; exact Er.of (er_sec9 _ _ _ _) h) | (rename_i h; exact Er.of (er_sec10 _ _ _ _) h) | (rename_i h; exact Er.of (er_sec11 _ _ _ _) h) | (refine Er.bind ?_ (fun _ => ?_)) | refine Er.ite ?_ ?_ | split)
theorem er_secsL : ∀ (n last q : Nat) (M : Mod) (ty : List Int), s.size - q < n → Er (secsL s n last q M ty)
  | 0, last, q, M, ty, hn => by omega
  | n + 1, last, q, M, ty, hn => by
    unfold secsL
    split
    · rename_i hq
      unfold nextS
      rw [if_pos hq]
      unfold bindR
      dsimp only
      refine Er.ite (Er.err (by decide)) ?_
      cases he : enterS s (q + 1) s.size with
      | error f => exact Er.of (er_enter _ _) he
      | ok w =>
        dsimp only
        have hw : q + 1 < w.2 := by
          unfold enterS at he
          split at he
          · simp at he
          · rename_i n2 q2 hu
            have h1 := (u32S_ok hu).2
            split at he
            · simp at he
            · simp at he
              subst he
              dsimp only
              omega
        cases hs : secS (bAt s q) s w.1 w.2 M ty with
        | error f => exact Er.of (er_sec _ _ _ _ _) hs
        | ok x =>
          dsimp only
          split
          · rename_i hx
            exact er_secsL n _ _ _ _ (by rw [hx]; omega)
          · exact Er.err (by decide)
    · exact Er.ok _
theorem er_decode : Er (decodeS s) := by
  unfold decodeS
  refine Er.ite (Er.err (by decide)) (Er.ite (Er.err (by decide)) (Er.ite (Er.bind (er_secsL _ _ _ _ _ (by omega)) (fun x => Er.ite (Er.ok _) (Er.err (by decide)))) (Er.err (by decide))))
end
end Go.Proofs.Qxb6500275aGreatDoor
