import Derived.Test.Qxb6500274aGreatWEnvMe
import Derived.ChangeKeysEq
namespace Go.Proofs.Qxb6500274aGreat
open Go Go.Sx
set_option maxRecDepth 100000

theorem likeL_cons {z : Value} {l m : List Value} (h : likeL likeC (z :: l) m = true) : ∃ v m', m = v :: m' ∧ likeC z v = true ∧ likeL likeC l m' = true := by
  cases m with
  | nil => simp [likeL] at h
  | cons v m =>
    simp only [likeL] at h
    split at h
    · rename_i e
      exact ⟨v, m, rfl, e, h⟩
    · simp at h
theorem likeL_nil {m : List Value} (h : likeL likeC [] m = true) : m = [] := by
  cases m with
  | nil => rfl
  | cons _ _ => simp [likeL] at h
theorem likeC_int {k : IntKind} {n : Int} {v : Value} (h : likeC (.int k n) v = true) : ∃ m, v = .int k m := by
  cases v <;> simp [likeC] at h
  subst h
  exact ⟨_, rfl⟩
theorem likeC_str {s : ByteArray} {v : Value} (h : likeC (.string s) v = true) : ∃ m, v = .string m := by
  cases v <;> simp [likeC] at h
  exact ⟨_, rfl⟩
/- a field that is one cell -/
theorem step_int (d : Nat) (xs ys : Array Value) (f : Field) (fs : List Field) (k : IntKind) (a b : Int) (w : World) (hn : (f.name ≠ "_") = True) (hu : Tryz.prog.underlying f.type = some (.int k)) (hx : xs[f.offset]? = some (.int k a)) (hy : ys[f.offset]? = some (.int k b)) :
    (Op.eqFields (d + 1) xs ys (f :: fs)).run Tryz.prog w = if a = b then (Op.eqFields (d + 1) xs ys fs).run Tryz.prog w else .ok false w := by
  have hp : ∀ (zs : Array Value) (v : Value), zs[f.offset]? = some v → (part f.type zs f.offset).run Tryz.prog w = .ok v w := by
    intro zs v hz
    simp [part, isAgg, Sem.run_bind, run_underlying hu, hz]
  have hn : f.name ≠ "_" := by simpa using hn
  simp only [Op.eqFields, Sem.run_bind, Sem.run_ite, if_pos hn, hp xs _ hx, hp ys _ hy, Result.andThen_ok, run_equalIn_int w d f.type k k a b hu]
  by_cases e : a = b
  · simp [e]
  · simp [e]
theorem step_str (d : Nat) (xs ys : Array Value) (f : Field) (fs : List Field) (a b : ByteArray) (w : World) (hn : (f.name ≠ "_") = True) (hu : Tryz.prog.underlying f.type = some .string) (hx : xs[f.offset]? = some (.string a)) (hy : ys[f.offset]? = some (.string b)) :
    (Op.eqFields (d + 1) xs ys (f :: fs)).run Tryz.prog w = if a.data.toList = b.data.toList then (Op.eqFields (d + 1) xs ys fs).run Tryz.prog w else .ok false w := by
  have hp : ∀ (zs : Array Value) (v : Value), zs[f.offset]? = some v → (part f.type zs f.offset).run Tryz.prog w = .ok v w := by
    intro zs v hz
    simp [part, isAgg, Sem.run_bind, run_underlying hu, hz]
  have hn : f.name ≠ "_" := by simpa using hn
  have e0 : ∀ x : ByteArray, x.toList = x.data.toList := fun x => ByteArray.toList_eq x
  simp only [Op.eqFields, Sem.run_bind, Sem.run_ite, if_pos hn, hp xs _ hx, hp ys _ hy, Result.andThen_ok, run_equalIn_string w d f.type a b hu, e0]
  by_cases e : a.data.toList = b.data.toList
  · simp [e]
  · rw [if_neg e, beq_eq_false_iff_ne.2 e]
    simp

theorem flat115 : FlatOK Tryz.prog 115 [.int .u8 0, .int .u32 0, .int .u64 0] := by
  intro xs ys b hx hy h x y w
  obtain ⟨xs⟩ := xs
  obtain ⟨ys⟩ := ys
  obtain ⟨_, _, rfl, h1, hx⟩ := likeL_cons hx
  obtain ⟨_, _, rfl, h2, hx⟩ := likeL_cons hx
  obtain ⟨_, _, rfl, h3, hx⟩ := likeL_cons hx
  obtain rfl := likeL_nil hx
  obtain ⟨a1, rfl⟩ := likeC_int h1
  obtain ⟨a2, rfl⟩ := likeC_int h2
  obtain ⟨a3, rfl⟩ := likeC_int h3
  obtain ⟨_, _, rfl, h1, hy⟩ := likeL_cons hy
  obtain ⟨_, _, rfl, h2, hy⟩ := likeL_cons hy
  obtain ⟨_, _, rfl, h3, hy⟩ := likeL_cons hy
  obtain rfl := likeL_nil hy
  obtain ⟨b1, rfl⟩ := likeC_int h1
  obtain ⟨b2, rfl⟩ := likeC_int h2
  obtain ⟨b3, rfl⟩ := likeC_int h3
  refine ⟨by kernel_rfl, by kernel_rfl, ?_⟩
  have hu : Tryz.prog.underlying 115 = some (.struct (Tryz.prog.fieldsOf 115)) := by kernel_rfl
  have hp : Tryz.prog.stoodInHeld 115 = false := by kernel_rfl
  have hf : (Tryz.prog.fieldsOf 115).toList = [⟨"Op", 5, 0, false, "", "", 0⟩, ⟨"X", 113, 1, false, "", "", 4⟩, ⟨"Y", 47, 2, false, "", "", 8⟩] := by kernel_rfl
  unfold Op.equal
  rw [show Op.maxDepth = 9999 + 1 from rfl, run_equalIn_struct w 9999 115 _ _ hu hp, hf,
    step_int 9998 _ _ _ _ .u8 a1 b1 w (by simp) (by kernel_rfl) rfl rfl, step_int 9998 _ _ _ _ .u32 a2 b2 w (by simp) (by kernel_rfl) rfl rfl, step_int 9998 _ _ _ _ .u64 a3 b3 w (by simp) (by kernel_rfl) rfl rfl]
  simp only [eqCells, eqCell, if_true] at h
  by_cases e1 : a1 = b1
  · rw [if_pos e1]
    rw [beq_iff_eq.2 e1] at h
    by_cases e2 : a2 = b2
    · rw [if_pos e2]
      rw [beq_iff_eq.2 e2] at h
      by_cases e3 : a3 = b3
      · rw [if_pos e3]
        rw [beq_iff_eq.2 e3] at h
        injection h with h
        rw [← h]
        rfl
      · rw [if_neg e3]
        rw [beq_eq_false_iff_ne.2 e3] at h
        injection h with h
        rw [← h]
    · rw [if_neg e2]
      rw [beq_eq_false_iff_ne.2 e2] at h
      injection h with h
      rw [← h]
  · rw [if_neg e1]
    rw [beq_eq_false_iff_ne.2 e1] at h
    injection h with h
    rw [← h]

theorem flat54 : FlatOK Tryz.prog 54 [.int .i64 0, .int .i64 0, .int .i64 0, .string ⟨⟨[]⟩⟩] := by
  intro xs ys b hx hy h x y w
  obtain ⟨xs⟩ := xs
  obtain ⟨ys⟩ := ys
  obtain ⟨_, _, rfl, h1, hx⟩ := likeL_cons hx
  obtain ⟨_, _, rfl, h2, hx⟩ := likeL_cons hx
  obtain ⟨_, _, rfl, h3, hx⟩ := likeL_cons hx
  obtain ⟨_, _, rfl, h4, hx⟩ := likeL_cons hx
  obtain rfl := likeL_nil hx
  obtain ⟨a1, rfl⟩ := likeC_int h1
  obtain ⟨a2, rfl⟩ := likeC_int h2
  obtain ⟨a3, rfl⟩ := likeC_int h3
  obtain ⟨a4, rfl⟩ := likeC_str h4
  obtain ⟨_, _, rfl, h1, hy⟩ := likeL_cons hy
  obtain ⟨_, _, rfl, h2, hy⟩ := likeL_cons hy
  obtain ⟨_, _, rfl, h3, hy⟩ := likeL_cons hy
  obtain ⟨_, _, rfl, h4, hy⟩ := likeL_cons hy
  obtain rfl := likeL_nil hy
  obtain ⟨b1, rfl⟩ := likeC_int h1
  obtain ⟨b2, rfl⟩ := likeC_int h2
  obtain ⟨b3, rfl⟩ := likeC_int h3
  obtain ⟨b4, rfl⟩ := likeC_str h4
  refine ⟨by kernel_rfl, by kernel_rfl, ?_⟩
  have hu : Tryz.prog.underlying 54 = some (.struct (Tryz.prog.fieldsOf 54)) := by kernel_rfl
  have hp : Tryz.prog.stoodInHeld 54 = false := by kernel_rfl
  have hf : (Tryz.prog.fieldsOf 54).toList = [⟨"E", 33, 0, false, "", "", 0⟩, ⟨"N", 3, 1, false, "", "", 8⟩, ⟨"M", 3, 2, false, "", "", 16⟩, ⟨"S", 9, 3, false, "", "", 24⟩] := by kernel_rfl
  unfold Op.equal
  rw [show Op.maxDepth = 9999 + 1 from rfl, run_equalIn_struct w 9999 54 _ _ hu hp, hf, step_int 9998 _ _ _ _ .i64 a1 b1 w (by simp) (by kernel_rfl) rfl rfl, step_int 9998 _ _ _ _ .i64 a2 b2 w (by simp) (by kernel_rfl) rfl rfl, step_int 9998 _ _ _ _ .i64 a3 b3 w (by simp) (by kernel_rfl) rfl rfl, step_str 9998 _ _ _ _ a4 b4 w (by simp) (by kernel_rfl) rfl rfl]
  simp only [eqCells, eqCell, if_true] at h
  by_cases e1 : a1 = b1
  · rw [if_pos e1]
    rw [beq_iff_eq.2 e1] at h
    by_cases e2 : a2 = b2
    · rw [if_pos e2]
      rw [beq_iff_eq.2 e2] at h
      by_cases e3 : a3 = b3
      · rw [if_pos e3]
        rw [beq_iff_eq.2 e3] at h
        by_cases e4 : a4.data.toList = b4.data.toList
        · rw [if_pos e4]
          rw [beq_iff_eq.2 e4] at h
          injection h with h
          rw [← h]
          rfl
        · rw [if_neg e4]
          rw [beq_eq_false_iff_ne.2 e4] at h
          injection h with h
          rw [← h]
      · rw [if_neg e3]
        rw [beq_eq_false_iff_ne.2 e3] at h
        injection h with h
        rw [← h]
    · rw [if_neg e2]
      rw [beq_eq_false_iff_ne.2 e2] at h
      injection h with h
      rw [← h]
  · rw [if_neg e1]
    rw [beq_eq_false_iff_ne.2 e1] at h
    injection h with h
    rw [← h]

theorem step_item (d : Nat) (xs ys : Array Value) (j : Nat) (is : List Nat) (a b : Int) (w : World) (hx : xs[j]? = some (.int .u8 a)) (hy : ys[j]? = some (.int .u8 b)) :
    (Op.eqItems (d + 1) 5 1 xs ys (j :: is)).run Tryz.prog w = if a = b then (Op.eqItems (d + 1) 5 1 xs ys is).run Tryz.prog w else .ok false w := by
  have hu : Tryz.prog.underlying 5 = some (.int .u8) := by kernel_rfl
  have hp : ∀ (zs : Array Value) (v : Value), zs[j]? = some v → (part 5 zs (j * 1)).run Tryz.prog w = .ok v w := by
    intro zs v hz
    simp [part, isAgg, Sem.run_bind, run_underlying hu, hz]
  simp only [Op.eqItems, Sem.run_bind, Sem.run_ite, hp xs _ hx, hp ys _ hy, Result.andThen_ok, run_equalIn_int w d 5 .u8 .u8 a b hu]
  by_cases e : a = b
  · simp [e]
  · simp [e]

theorem flat164 : FlatOK Tryz.prog 164 [.int .u8 0, .int .u8 0, .int .u8 0, .int .u8 0, .int .u8 0, .int .u8 0] := by
  intro xs ys b hx hy h x y w
  obtain ⟨xs⟩ := xs
  obtain ⟨ys⟩ := ys
  obtain ⟨_, _, rfl, h1, hx⟩ := likeL_cons hx
  obtain ⟨_, _, rfl, h2, hx⟩ := likeL_cons hx
  obtain ⟨_, _, rfl, h3, hx⟩ := likeL_cons hx
  obtain ⟨_, _, rfl, h4, hx⟩ := likeL_cons hx
  obtain ⟨_, _, rfl, h5, hx⟩ := likeL_cons hx
  obtain ⟨_, _, rfl, h6, hx⟩ := likeL_cons hx
  obtain rfl := likeL_nil hx
  obtain ⟨a1, rfl⟩ := likeC_int h1
  obtain ⟨a2, rfl⟩ := likeC_int h2
  obtain ⟨a3, rfl⟩ := likeC_int h3
  obtain ⟨a4, rfl⟩ := likeC_int h4
  obtain ⟨a5, rfl⟩ := likeC_int h5
  obtain ⟨a6, rfl⟩ := likeC_int h6
  obtain ⟨_, _, rfl, h1, hy⟩ := likeL_cons hy
  obtain ⟨_, _, rfl, h2, hy⟩ := likeL_cons hy
  obtain ⟨_, _, rfl, h3, hy⟩ := likeL_cons hy
  obtain ⟨_, _, rfl, h4, hy⟩ := likeL_cons hy
  obtain ⟨_, _, rfl, h5, hy⟩ := likeL_cons hy
  obtain ⟨_, _, rfl, h6, hy⟩ := likeL_cons hy
  obtain rfl := likeL_nil hy
  obtain ⟨b1, rfl⟩ := likeC_int h1
  obtain ⟨b2, rfl⟩ := likeC_int h2
  obtain ⟨b3, rfl⟩ := likeC_int h3
  obtain ⟨b4, rfl⟩ := likeC_int h4
  obtain ⟨b5, rfl⟩ := likeC_int h5
  obtain ⟨b6, rfl⟩ := likeC_int h6
  refine ⟨by kernel_rfl, by kernel_rfl, ?_⟩
  have hu : Tryz.prog.underlying 164 = some (.array 6 5) := by kernel_rfl
  have hi : Tryz.prog.info? 5 = some Tryz.t5 := by kernel_rfl
  have hc : Tryz.prog.cellsOf 5 = 1 := by kernel_rfl
  have hr : List.range 6 = [0, 1, 2, 3, 4, 5] := rfl
  unfold Op.equal
  rw [show Op.maxDepth = 9999 + 1 from rfl, run_equalIn_array w 9999 _ _ hu hi, hc, hr, step_item 9998 _ _ 0 _ a1 b1 w rfl rfl, step_item 9998 _ _ 1 _ a2 b2 w rfl rfl, step_item 9998 _ _ 2 _ a3 b3 w rfl rfl, step_item 9998 _ _ 3 _ a4 b4 w rfl rfl, step_item 9998 _ _ 4 _ a5 b5 w rfl rfl, step_item 9998 _ _ 5 _ a6 b6 w rfl rfl]
  simp only [eqCells, eqCell, if_true] at h
  by_cases e1 : a1 = b1
  · rw [if_pos e1]
    rw [beq_iff_eq.2 e1] at h
    by_cases e2 : a2 = b2
    · rw [if_pos e2]
      rw [beq_iff_eq.2 e2] at h
      by_cases e3 : a3 = b3
      · rw [if_pos e3]
        rw [beq_iff_eq.2 e3] at h
        by_cases e4 : a4 = b4
        · rw [if_pos e4]
          rw [beq_iff_eq.2 e4] at h
          by_cases e5 : a5 = b5
          · rw [if_pos e5]
            rw [beq_iff_eq.2 e5] at h
            by_cases e6 : a6 = b6
            · rw [if_pos e6]
              rw [beq_iff_eq.2 e6] at h
              injection h with h
              rw [← h]
              rfl
            · rw [if_neg e6]
              rw [beq_eq_false_iff_ne.2 e6] at h
              injection h with h
              rw [← h]
          · rw [if_neg e5]
            rw [beq_eq_false_iff_ne.2 e5] at h
            injection h with h
            rw [← h]
        · rw [if_neg e4]
          rw [beq_eq_false_iff_ne.2 e4] at h
          injection h with h
          rw [← h]
      · rw [if_neg e3]
        rw [beq_eq_false_iff_ne.2 e3] at h
        injection h with h
        rw [← h]
    · rw [if_neg e2]
      rw [beq_eq_false_iff_ne.2 e2] at h
      injection h with h
      rw [← h]
  · rw [if_neg e1]
    rw [beq_eq_false_iff_ne.2 e1] at h
    injection h with h
    rw [← h]
theorem ti115 (E : Env) (h : IsEnv E) : E.ti 115 = some ⟨Tryz.t114.desc, 3, true, [.int .u8 0, .int .u32 0, .int .u64 0]⟩ := by unfold IsEnv at h; subst h; kernel_rfl
theorem ti54 (E : Env) (h : IsEnv E) : E.ti 54 = some ⟨Tryz.t53.desc, 4, true, [.int .i64 0, .int .i64 0, .int .i64 0, .string ⟨⟨[]⟩⟩]⟩ := by unfold IsEnv at h; subst h; kernel_rfl
theorem ti164 (E : Env) (h : IsEnv E) : E.ti 164 = some ⟨Tryz.t91.desc, 6, true, [.int .u8 0, .int .u8 0, .int .u8 0, .int .u8 0, .int .u8 0, .int .u8 0]⟩ := by unfold IsEnv at h; subst h; kernel_rfl
theorem envAll {E : Env} (h : IsEnv E) : EnvOK Tryz.prog E := by
  refine envOK h (fun t i hf hi => ?_)
  have e1 := ti115 E h
  have e2 := ti54 E h
  have e3 := ti164 E h
  have hf' : (Nat.beq t 115 || (Nat.beq t 54 || Nat.beq t 164)) = true := by
    unfold IsEnv at h
    rw [h] at hf
    exact hf
  simp only [Bool.or_eq_true] at hf'
  rcases hf' with e | e | e
  · have e := Nat.eq_of_beq_eq_true e
    rw [e] at hi ⊢
    rw [e1] at hi
    injection hi with hi
    rw [← hi]
    exact flat115
  · have e := Nat.eq_of_beq_eq_true e
    rw [e] at hi ⊢
    rw [e2] at hi
    injection hi with hi
    rw [← hi]
    exact flat54
  · have e := Nat.eq_of_beq_eq_true e
    rw [e] at hi ⊢
    rw [e3] at hi
    injection hi with hi
    rw [← hi]
    exact flat164
end Go.Proofs.Qxb6500274aGreat
