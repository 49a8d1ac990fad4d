import Derived.Test.Qxb6500274aGreatWKi
namespace Go.Proofs.Qxb6500274aGreat
open Go Go.Sx
/- the shapes -/
theorem ok3_mem {l h t : Nat} (hk : ok3 l h t = true) : l ≤ 6 ∧ (l, h, t) ∈ all3 l := by
  unfold ok3 at hk
  simp only [Bool.and_eq_true, Bool.or_eq_true] at hk
  have h1 := Nat.le_of_ble_eq_true hk.1
  refine ⟨by omega, ?_⟩
  unfold all3
  refine List.mem_flatMap.2 ⟨h, List.mem_range.2 (by omega), ?_⟩
  rcases hk.2 with h2 | h2 | h2 <;> rw [Nat.eq_of_beq_eq_true h2] <;> simp
theorem all_get {f : Nat → Nat → Nat → Bool} {q l h t : Nat} (ha : (all3 q).all (fun p => f p.1 p.2.1 p.2.2) = true) (hm : (l, h, t) ∈ all3 q) : f l h t = true := List.all_eq_true.1 ha _ hm
theorem of_seven {f : Nat → Nat → Nat → Bool} (h0 : (all3 0).all (fun p => f p.1 p.2.1 p.2.2) = true) (h1 : (all3 1).all (fun p => f p.1 p.2.1 p.2.2) = true) (h2 : (all3 2).all (fun p => f p.1 p.2.1 p.2.2) = true)
    (h3 : (all3 3).all (fun p => f p.1 p.2.1 p.2.2) = true) (h4 : (all3 4).all (fun p => f p.1 p.2.1 p.2.2) = true) (h5 : (all3 5).all (fun p => f p.1 p.2.1 p.2.2) = true) (h6 : (all3 6).all (fun p => f p.1 p.2.1 p.2.2) = true)
    {l h t : Nat} (hk : ok3 l h t = true) : f l h t = true := by
  obtain ⟨hl, hm⟩ := ok3_mem hk
  match l, hl, hm with
  | 0, _, hm => exact all_get h0 hm
  | 1, _, hm => exact all_get h1 hm
  | 2, _, hm => exact all_get h2 hm
  | 3, _, hm => exact all_get h3 hm
  | 4, _, hm => exact all_get h4 hm
  | 5, _, hm => exact all_get h5 hm
  | 6, _, hm => exact all_get h6 hm
theorem covOK {l h t : Nat} (hk : ok3 l h t = true) : cov3 l h t = true := of_seven (f := cov3) cov_0 cov_1 cov_2 cov_3 cov_4 cov_5 cov_6 hk
theorem testOK {E : Env} (hE : IsEnv E) {l h t : Nat} (hk : ok3 l h t = true) : test3 E (bodyAt Tryz.f8.body pTest) l h t = true :=
  of_seven (f := test3 E (bodyAt Tryz.f8.body pTest)) (test_0 E hE) (test_1 E hE) (test_2 E hE) (test_3 E hE) (test_4 E hE) (test_5 E hE) (test_6 E hE) hk
end Go.Proofs.Qxb6500274aGreat
