import Derived.Test.Qxb6500274aGreatLq
set_option linter.unusedVariables false
set_option linter.unusedSimpArgs false
set_option maxRecDepth 100000
namespace Go.Sx
open Go Go.RowKit
section
variable {P : Program} {E : Env} {cf : CallF} {n0 : Base} {w0 : World} {nt g n : Nat} {Q : Exit → Act → World → Prop}
theorem evN_wp (hE : EnvOK P E) (hm : P.follows .mixedOrders = true) (hcf : CallSound P n0 w0 cf) (hq : QuietSound P E cf) {T : Code} : ∀ {l : List Code} {r r' : Rg} {s s' : St} {K : Kx} {a : Act} {w : World}, (∀ c, c ∈ l → slotsOK nt c = true ∧ drawsOK E g c = true) →
    evN E cf g n l r s = some (r', s') → Rep n0 w0 K s w → RegRel K nt r a → (∀ K' a' w', K.le K' → Rep n0 w0 K' s' w' → RegRel K' nt r' a' → T.wp P Q a' w') → (seqs l T).wp P Q a w
  | [], r, r', s, s', K, a, w, _, h, hR, hr, hT => by
    simp [evN] at h
    obtain ⟨rfl, rfl⟩ := h
    exact hT K a w (Kx.le_refl K) hR hr
  | c :: l, r, r', s, s', K, a, w, hl, h, hR, hr, hT => by
    simp only [evN] at h
    split at h
    · rename_i q1 q2 hev
      obtain ⟨h1, h2⟩ := hl c (by simp)
      refine wp_seq (wp_mono ((evalCode_sound hE hm hcf hq c h1 h2).1 r s _ K a w hev hR hr) ?_)
      rintro e a2 w2 ⟨y, K2, y1, y2, y3, y4, y5⟩
      have ey := List.mem_singleton.1 y1
      subst ey
      cases y2
      exact evN_wp hE hm hcf hq (fun c hc => hl c (by simp [hc])) h y5 y4 (fun K' a' w' hle hR' hr' => hT K' a' w' (Kx.le_trans y3 hle) hR' hr')
    · cases h
theorem evN_app : ∀ {l m : List Code} {r r' : Rg} {s s' : St}, evN E cf g n (l ++ m) r s = some (r', s') → ∃ r1 s1, evN E cf g n l r s = some (r1, s1) ∧ evN E cf g n m r1 s1 = some (r', s')
  | [], m, r, r', s, s', h => ⟨r, s, rfl, h⟩
  | c :: l, m, r, r', s, s', h => by
    simp only [List.cons_append, evN] at h ⊢
    split at h
    · rename_i q1 q2 hev
      exact evN_app h
    · cases h
end
end Go.Sx
namespace Go.Proofs.Qxb6500274aGreat
open Go Go.RowKit Go.Sx
theorem f7_shape : Tryz.f7.body = some (seqs [body7 Tryz.f7.body [0], body7 Tryz.f7.body [1, 0], body7 Tryz.f7.body [1, 1, 0], body7 Tryz.f7.body [1, 1, 1, 0], body7 Tryz.f7.body [1, 1, 1, 1, 0], body7 Tryz.f7.body [1, 1, 1, 1, 1, 0]]
    (.seq (.seq (body7 Tryz.f7.body [1, 1, 1, 1, 1, 1, 0, 0]) (body7 Tryz.f7.body [1, 1, 1, 1, 1, 1, 0, 1])) (body7 Tryz.f7.body [1, 1, 1, 1, 1, 1, 1]))) := by kernel_rfl
theorem pre_ok (E : Env) (h : IsEnv E) (c : Code) (hc : c ∈ [body7 Tryz.f7.body [0], body7 Tryz.f7.body [1, 0], body7 Tryz.f7.body [1, 1, 0], body7 Tryz.f7.body [1, 1, 1, 0], body7 Tryz.f7.body [1, 1, 1, 1, 0], body7 Tryz.f7.body [1, 1, 1, 1, 1, 0], body7 Tryz.f7.body [1, 1, 1, 1, 1, 1, 0, 0]]) :
    slotsOK 99 c = true ∧ drawsOK E 7 c = true := by
  have key : ([body7 Tryz.f7.body [0], body7 Tryz.f7.body [1, 0], body7 Tryz.f7.body [1, 1, 0], body7 Tryz.f7.body [1, 1, 1, 0], body7 Tryz.f7.body [1, 1, 1, 1, 0], body7 Tryz.f7.body [1, 1, 1, 1, 1, 0], body7 Tryz.f7.body [1, 1, 1, 1, 1, 1, 0, 0]].all (fun c => slotsOK 99 c && drawsOK E 7 c)) = true := by
    unfold IsEnv at h; subst h; kernel_rfl
  have := List.all_eq_true.1 key c hc
  simpa using this

theorem f7_calls (hS : ∀ E, IsEnv E → AllSteps E) (sa : Option Addr) (sl sc : Nat) (w : World) (hscr : ∀ n0 : Base, n0.n = w.heap.size → Script n0 w sa sl) :
    Calls Tryz.prog 7 #[.slice sa sl sc] w (fun e w' => e = .returned (.int .i64 (-1)) ∧ Below w.heap.size w w') := by
  obtain ⟨n0, hn, hp⟩ := pf_there w.heap.size
  obtain ⟨E, hE⟩ : ∃ E, IsEnv E := ⟨_, rfl⟩
  obtain ⟨txt, ht⟩ : ∃ t, IsTxt t := ⟨_, rfl⟩
  obtain ⟨sA, hA⟩ : ∃ s, IsNew s := ⟨_, rfl⟩
  obtain ⟨sB, hB⟩ : ∃ s, IsS9 s := ⟨_, rfl⟩
  have hscr := hscr n0 hn
  have hq17 : E.quiet 17 = false := by rw [quiet_row E hE]; rfl
  have hP2 := (progOK E hE (n0 := n0) (w0 := w) hp).withPrim hq17 (load_sound hE hp ht hA hB)
  obtain ⟨hcs, hqs⟩ := callF_sound hP2 3000 60
  have hrun := pre_run E hE txt sA sB ht hA hB
  unfold preOK at hrun
  split at hrun
  · rename_i r s hev
    simp only [Bool.and_eq_true] at hrun
    obtain ⟨k0, k3, k7, k8, k9, kd, kc⟩ := hrun
    obtain ⟨r6, s6, hev1, hev2⟩ := evN_app (l := [body7 Tryz.f7.body [0], body7 Tryz.f7.body [1, 0], body7 Tryz.f7.body [1, 1, 0], body7 Tryz.f7.body [1, 1, 1, 0], body7 Tryz.f7.body [1, 1, 1, 1, 0], body7 Tryz.f7.body [1, 1, 1, 1, 1, 0]]) (m := [body7 Tryz.f7.body [1, 1, 1, 1, 1, 1, 0, 0]]) hev
    have hcode : ∀ c, c ∈ [body7 Tryz.f7.body [0], body7 Tryz.f7.body [1, 0], body7 Tryz.f7.body [1, 1, 0], body7 Tryz.f7.body [1, 1, 1, 0], body7 Tryz.f7.body [1, 1, 1, 1, 0], body7 Tryz.f7.body [1, 1, 1, 1, 1, 0], body7 Tryz.f7.body [1, 1, 1, 1, 1, 1, 0, 0]] →
        slotsOK 99 c = true ∧ drawsOK (withPrim E 17 (primLoad txt sA sB)) 7 c = true := by
      intro c hc
      rw [draws_with]
      exact pre_ok E hE c hc
    let K0 : Kx := ⟨fun _ => 0, fun _ => 0, fun _ => 0, 0, fun j => if j = 40 then .slice sa sl sc else .bool false, n0.pf⟩
    have h40 : K0.sy 40 = .slice sa sl sc := rfl
    have hR0 : Rep n0 w K0 ⟨[], 0, [], []⟩ w := by
      refine ⟨Below.refl _ _, by rw [hn]; exact Nat.le_refl _, rfl, ?_, ?_, no_facts, no_vals, ?_, rfl⟩
      · intro b x hx; simp [find, nthL, findL] at hx
      · intro b b' x x' hx; simp [find, nthL, findL] at hx
      · intro i k n h
        have h : (if i = 40 then Value.slice sa sl sc else .bool false) = .int k n := h
        split at h <;> cases h
    have hntm : Tryz.f7.ntmps = 99 := by kernel_rfl
    have hr0 : RegRel K0 99 (enter (E.nv 7) (E.long 7) [symv .nilIface [.chan (some 40)]]) { tmps := #[.slice sa sl sc] ++ Array.replicate (Tryz.f7.ntmps - (#[.slice sa sl sc] : Array Value).size) undef, defers := [] } := by
      have := enter_rel (K := K0) (nv := E.nv 7) (long := E.long 7) (args := [symv .nilIface [.chan (some 40)]]) (cargs := [.slice sa sl sc]) (ntmps := Tryz.f7.ntmps) ⟨(C1_var_slice h40 hscr.1).rv, trivial⟩
      have e : (([Value.slice sa sl sc]).toArray ++ Array.replicate (Tryz.f7.ntmps - ([Value.slice sa sl sc]).toArray.size) undef).size = 99 := by
        simp [hntm]
      rw [e] at this
      exact this
    refine calls_of_wp Tryz.func7 f7_shape ?_
    refine evN_wp hP2.env hP2.mixed hcs hqs (fun c hc => hcode c (by
      simp only [List.mem_cons, List.not_mem_nil, or_false] at hc ⊢
      rcases hc with h | h | h | h | h | h <;> simp [h])) hev1 hR0 hr0 ?_
    intro K6 a6 w6 hle6 hR6 hr6
    refine wp_seq (evN_wp (l := [body7 Tryz.f7.body [1, 1, 1, 1, 1, 1, 0, 0]]) hP2.env hP2.mixed hcs hqs (fun c hc => hcode c (by
      simp only [List.mem_cons, List.not_mem_nil, or_false] at hc ⊢
      simp [hc])) hev2 hR6 hr6 ?_)
    intro K7 a7 w7 hle7 hR7 hr7
    have hsy : K7.sy = K0.sy := hle7.sy.trans hle6.sy
    -- the head
    have hHead : Head n0 w (.slice sa sl sc) 1 0 a7 w7 := by
      have hR8 := covers_sound hR7 kc (fun j => if j = 2 then .int .u64 7 else if j = 20 then .int .i64 0 else if j = 21 then .int .i64 1 else K7.sy j) (by
        intro i t c hrow hden
        rcases row_bd hrow with rfl | rfl | rfl
        · cases hrow; exact (Den_lint.uniq hden)
        · cases hrow; exact (Den_lint.uniq hden)
        · cases hrow; exact (Den_lint.uniq hden)) [] [] (fun t b h => by simp at h) (fun t v h => by simp at h) (by
        intro i k n h
        split at h
        · cases h; rfl
        · split at h
          · cases h; rfl
          · split at h
            · cases h; rfl
            · exact hR7.syr i k n h)
      refine ⟨.inl rfl, _, hR8, hr7.size, ?_, ?_, ?_, ?_, ?_, ?_⟩
      · have := hr7.defers
        have e : r.defers = [] := List.isEmpty_iff.1 kd
        rw [e] at this
        cases hd : a7.defers with
        | nil => rfl
        | cons d ds => rw [hd] at this; exact this.elim
      · rw [isVar_RV k0 (hr7.slot 0), hsy]; rfl
      · have hpt := isPtr0_RV k3 (hr7.slot 3)
        exact hpt
      · have hpt := isPtr0_RV k7 (hr7.slot 7)
        exact hpt
      · have hpt := isPtr0_RV k8 (hr7.slot 8)
        exact hpt
      · have e := (eqPlain_eq k9).1
        have := hr7.slot 9
        rw [e, RV_int] at this
        exact this
    refine loop_wp hE hp (hS E hE) hscr hHead ?_
    intro a8 w8 hF
    refine last_wp hF ⟨rfl, ?_⟩
    have := hF.2.2
    rw [hn] at this
    exact this
  · cases hrun
end Go.Proofs.Qxb6500274aGreat
