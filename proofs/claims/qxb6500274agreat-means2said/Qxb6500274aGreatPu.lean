import Derived.Test.Qxb6500274aGreatPt
set_option linter.unusedVariables false
set_option linter.unusedSimpArgs false
set_option maxRecDepth 20000
namespace Go.Proofs.Qxb6500274aGreat
open Go Go.RowKit Go.Sx
section
variable {n0 : Base} {w0 : World}
theorem applyBin_sound {K : Kx} {s : St} {w : World} {op : BinOp} {a b : Value} {L : List (Value × St)} {x y r : Int} {args : Array Value} (h : primApply.applyBin op a b s = some L) (hR : Rep n0 w0 K s w) (hop : op = .sub ∨ op = .or ∨ op = .shl)
    (ha : RV K a (.int .u32 x)) (hb : RV K b (.int .u32 y)) (hka : kindI a = some .u32) (hkb : kindI b = some .u32) (hr : binV op (.int .u32 x) (.int .u32 y) = some (.int .u32 r))
    (hc : Calls Tryz.prog 79 args w fun e w' => e = .returned (.tuple #[.int .u64 (IntKind.u64.wrap r), .int .i64 0]) ∧ w' = w) :
    Calls Tryz.prog 79 args w (fun e w' => ∃ c, e = .returned c ∧ LPost n0 w0 K L c w') := by
  unfold primApply.applyBin at h
  split at h
  · rename_i v hv
    obtain ⟨h1, h2⟩ := bin2_sound hR.syr hop hv ha hb hr hka hkb
    have := one_eq h
    subst this
    refine hc.mono ?_
    rintro e w' ⟨rfl, rfl⟩
    refine ⟨_, rfl, _, _, K, List.mem_singleton.2 rfl, Kx.le_refl K, ?_, hR⟩
    rw [RV_tuple]
    refine ⟨_, rfl, ?_, ?_, trivial⟩
    · have := wide_RV h2 h1
      refine RV.r0 this ?_
      unfold wide
      split <;> rfl
    · exact ⟨rfl, rfl⟩
  · simp at h
theorem known_noTuple {vs : List (List Value × Value)} {v c : Value} {K : Kx} {k : IntKind} {n : Int} (h : RV K (known vs v) (.int k n)) (hv : noTuple v = true) : R0 K (known vs v) (.int k n) := by
  unfold RV at h
  split at h
  · obtain ⟨l', e, _⟩ := h; cases e
  · exact h
theorem is8_eq {y : Value} (h : is8 y = true) : y = .int .u64 8 := by
  unfold is8 at h
  split at h
  · rw [of_decide_eq_true h]
  · cases h
theorem apply_sound (hp : PfOK n0) : CallSound Tryz.prog n0 w0 (fun h args s => if h = 79 then primApply args s else none) := by
  refine prim_sound Tryz.func79 (of_decide_eq_true (by kernel_rfl)) (by kernel_rfl) ?_
  intro args s L h K w cargs hR ha
  unfold primApply at h
  split at h
  · rename_i s o x y
    split at h
    · rename_i hkx hky hin
      simp only [Bool.and_eq_true] at hin
      match cargs, ha with
      | [co, cx, cy], ⟨h1, h2, h3, _⟩ =>
        rw [RV_int] at h1
        subst h1
        obtain ⟨nx, rfl, dx, rx⟩ := kindI_RV hkx h2
        obtain ⟨ny, rfl, dy, ry⟩ := kindI_RV hky h3
        have rx := rx hin.1
        have ry := ry hin.2
        have lx := low_RV hkx h2
        have ly := low_RV hky h3
        have klx := kindI_low hkx
        have kly := kindI_low hky
        split at h
        · rename_i e
          have e := of_decide_eq_true e
          subst e
          refine applyBin_sound (r := IntKind.u32.wrap (IntKind.u32.wrap nx - IntKind.u32.wrap ny)) h hR (.inl rfl) lx ly klx kly rfl ?_
          have := ap_107 nx ny w
          rw [wrap_u32 nx, wrap_u32 ny]
          exact this
        · split at h
          · rename_i e
            have e := of_decide_eq_true e
            subst e
            refine applyBin_sound (r := bits .or .u32 (IntKind.u32.wrap nx) (IntKind.u32.wrap ny)) h hR (.inr (.inl rfl)) lx ly klx kly rfl ?_
            have := ap_114 nx ny w
            rw [wrap_u32 nx, wrap_u32 ny]
            exact this
          · split at h
            · rename_i e
              simp only [Bool.and_eq_true] at e
              obtain ⟨e, e8⟩ := e
              have e := of_decide_eq_true e
              subst e
              have e8 := is8_eq e8
              subst e8
              rw [RV_int] at h3
              cases h3
              refine applyBin_sound (r := IntKind.u32.wrap (IntKind.u32.wrap nx * 256)) h hR (.inr (.inr rfl)) lx (y := 8) (by rw [RV_int]) klx rfl rfl ?_
              have := ap_116 nx w
              rw [wrap_u32 nx]
              exact this
            · have := one_eq h
              subst this
              obtain ⟨b, e, p2, p3, hb, he, _, _, hc⟩ := hp.app o nx ny (u64_range rx) (u64_range ry)
              refine (hc w).mono ?_
              rintro e' w' ⟨rfl, hsw⟩
              refine ⟨_, rfl, _, _, K, List.mem_singleton.2 rfl, Kx.le_refl K, ?_, hR.same hsw⟩
              rw [RV_tuple]
              refine ⟨_, rfl, ?_, ?_, trivial⟩
              · refine known_noTuple (c := .bool true) (known_sound hR.kok (RV_symInt (u64_wrap hb) (Den_pf3 (by decide) dx dy ?_))) rfl
                rw [hR.pfq]
                exact p2
              · refine known_noTuple (c := .bool true) (known_sound hR.kok (RV_symInt (by rw [wrap_i64]; omega) (Den_pf3 (by decide) dx dy ?_))) rfl
                rw [hR.pfq]
                exact p3
    · simp at h
  · simp at h
end
end Go.Proofs.Qxb6500274aGreat
