import Derived.Test.Qxb6500274aGreatRf
import Derived.Test.Qxb6500274aGreatKt
set_option linter.unusedVariables false
set_option linter.unusedSimpArgs false
set_option maxRecDepth 20000
namespace Go.Proofs.Qxb6500274aGreat
open Go Go.RowKit Go.Sx
section
variable {n0 : Base} {K : Kx} {S : ByteArray} {A B i kn : Int}
/- THE BAD WAYS OF sub -/
theorem den_sub (h : Syms n0 K S A B i kn) (b : Nat) (hb : b ≤ 5) : Den K ((pgA ++ ([.int .u64 (b : Int)] ++ [.slice none 1 0])) ++ ([.int .u64 4294967295] ++ [.slice none 5 0])) (.int .u64 ((wA S - b) % 4294967296)) := by
  have h1 := den_op (op := .sub) (u := [.int .u64 (b : Int)]) (denA h) Den_lint (by decide) (by decide) rfl
  have h2 := den_and h1 (u64_range (wrap_wrap .u64 _))
  have e : IntKind.u64.wrap (wA S - (b : Int)) % 4294967296 = (wA S - b) % 4294967296 := by rw [wrap_u64]; omega
  rw [e] at h2
  exact h2
theorem no_sub (h : Syms n0 K S A B i kn) (b : Nat) (hb : b ≤ 5) : ¬ Den K (([.string ⟨⟨[55, 102, 58]⟩⟩, .int .i64 16] ++ (pgDownA b ++ [.slice none 201 2, .slice none 0 0])) ++ (([.string ⟨⟨[55, 102, 58]⟩⟩, .int .i64 16] ++ (((pgA ++ ([.int .u64 (b : Int)] ++ [.slice none 1 0])) ++ ([.int .u64 4294967295] ++ [.slice none 5 0])) ++ [.slice none 201 2, .slice none 0 0])) ++ [.slice none 11 0, .slice none 102 0])) (.bool true) :=
  no_neq (den_hex h (den_downA h b)) (den_hex h (den_sub h b hb))
theorem bad_sub0 (h : Syms n0 K S A B i kn) (f) (hf : f ∈ bad0) : ¬ Den K f.1 (.bool f.2) := by
  have e : f = (_, true) := List.mem_singleton.1 hf
  subst e; exact no_sub h 0 (by decide)
theorem bad_sub1 (h : Syms n0 K S A B i kn) (f) (hf : f ∈ bad1) : ¬ Den K f.1 (.bool f.2) := by
  have e : f = (_, true) := List.mem_singleton.1 hf
  subst e; exact no_sub h 1 (by decide)
theorem bad_sub2 (h : Syms n0 K S A B i kn) (f) (hf : f ∈ bad2) : ¬ Den K f.1 (.bool f.2) := by
  have e : f = (_, true) := List.mem_singleton.1 hf
  subst e; exact no_sub h 2 (by decide)
theorem bad_sub3 (h : Syms n0 K S A B i kn) (f) (hf : f ∈ bad3) : ¬ Den K f.1 (.bool f.2) := by
  have e : f = (_, true) := List.mem_singleton.1 hf
  subst e; exact no_sub h 3 (by decide)
theorem bad_sub4 (h : Syms n0 K S A B i kn) (f) (hf : f ∈ bad4) : ¬ Den K f.1 (.bool f.2) := by
  have e : f = (_, true) := List.mem_singleton.1 hf
  subst e; exact no_sub h 4 (by decide)
theorem bad_sub5 (h : Syms n0 K S A B i kn) (f) (hf : f ∈ bad5) : ¬ Den K f.1 (.bool f.2) := by
  have e : f = (_, true) := List.mem_singleton.1 hf
  subst e; exact no_sub h 5 (by decide)

/- OF eqz AND add -/
theorem den_app (h : Syms n0 K S A B i kn) {t u : List Value} {x y : Int} (o : Int) (ht : Den K t (.int .u64 x)) (hu : Den K u (.int .u64 y)) (hx : 0 ≤ x ∧ x < 18446744073709551616) (hy : 0 ≤ y ∧ y < 18446744073709551616) :
    ∃ b e : Int, Den K (.int .i64 o :: (u ++ (t ++ [.slice none 202 3]))) (.int .u64 b) ∧ Den K (.int .i64 o :: (u ++ (t ++ [.slice none 203 3]))) (.int .i64 e) ∧
      (o = 69 → b = (if x % 4294967296 == 0 then 1 else 0) ∧ e = 0) ∧ (o = 106 → b = IntKind.u64.wrap (IntKind.u32.wrap (x % 4294967296 + y % 4294967296)) ∧ e = 0) := by
  obtain ⟨b, e, p2, p3, _, _, h1, h2, _⟩ := h.ok.app o x y hx hy
  exact ⟨b, e, Den_pf3 (by decide) ht hu (by rw [h.pf]; exact p2), Den_pf3 (by decide) ht hu (by rw [h.pf]; exact p3), h1, h2⟩
theorem val69z (h : Syms n0 K S A B i kn) : Den K pgE69z (.int .i64 0) := by
  obtain ⟨b, e, _, h2, h3, _⟩ := den_app h (t := [uI 0]) (u := [uI 0]) 69 Den_lint Den_lint (by decide) (by decide)
  rw [(h3 rfl).2] at h2
  exact h2
theorem val69 (h : Syms n0 K S A B i kn) : Den K pgE69 (.int .i64 0) := by
  have hr := wA_range S
  obtain ⟨b, e, _, h2, h3, _⟩ := den_app h (u := [uI 0]) 69 (denA h) Den_lint (by omega) (by decide)
  rw [(h3 rfl).2] at h2
  exact h2
theorem val106 (h : Syms n0 K S A B i kn) : Den K pgE106 (.int .i64 0) := by
  have hr := wA_range S
  have hq := wB_range S
  obtain ⟨b, e, _, h2, _, h3⟩ := den_app h 106 (denA h) (denB h) (by omega) (by omega)
  rw [(h3 rfl).2] at h2
  exact h2
theorem bad_69z (h : Syms n0 K S A B i kn) (f) (hf : f ∈ bad69z) : ¬ Den K f.1 (.bool f.2) := by
  have e : f = (_, true) := List.mem_singleton.1 hf
  subst e
  obtain ⟨b, e, h1, _, h3, _⟩ := den_app h (t := [uI 0]) (u := [uI 0]) 69 Den_lint Den_lint (by decide) (by decide)
  rw [(h3 rfl).1] at h1
  exact no_neq (a := ⟨⟨[55, 102, 58, 48, 48, 48, 48, 48, 48, 48, 48, 48, 48, 48, 48, 48, 48, 48, 49]⟩⟩) Den_lstr (den_hex h h1)
theorem bad_69n (h : Syms n0 K S A B i kn) (hne : wA S ≠ 0) (f) (hf : f ∈ bad69n) : ¬ Den K f.1 (.bool f.2) := by
  have e : f = (_, true) := List.mem_singleton.1 hf
  subst e
  have hr := wA_range S
  obtain ⟨b, e, h1, _, h3, _⟩ := den_app h (u := [uI 0]) 69 (denA h) Den_lint (by omega) (by decide)
  have e0 : (if wA S % 4294967296 == 0 then (1 : Int) else 0) = 0 := by
    rw [if_neg]
    simp
    omega
  rw [(h3 rfl).1, e0] at h1
  exact no_neq (a := ⟨⟨[55, 102, 58, 48, 48, 48, 48, 48, 48, 48, 48, 48, 48, 48, 48, 48, 48, 48, 48]⟩⟩) Den_lstr (den_hex h h1)
theorem bad_106 (h : Syms n0 K S A B i kn) (f) (hf : f ∈ bad106') : ¬ Den K f.1 (.bool f.2) := by
  have e : f = (_, true) := List.mem_singleton.1 hf
  subst e
  have hr := wA_range S
  have hq := wB_range S
  obtain ⟨b, e, h1, _, _, h3⟩ := den_app h 106 (denA h) (denB h) (by omega) (by omega)
  have h4 := den_op (op := .add) (denA h) (denB h) (by decide) (by decide) rfl
  have h5 := den_and h4 (u64_range (wrap_wrap .u64 _))
  have e0 : IntKind.u64.wrap (wA S + wB S) % 4294967296 = IntKind.u64.wrap (IntKind.u32.wrap (wA S % 4294967296 + wB S % 4294967296)) := by
    rw [wrap_u64, wrap_u64, wrap_u32]; omega
  rw [(h3 rfl).1, ← e0] at h1
  exact no_neq (den_hex h h5) (den_hex h h1)
end
end Go.Proofs.Qxb6500274aGreat
