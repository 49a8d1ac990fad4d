import Derived.Test.Qxb6500274aGreatWRn
import Derived.Test.Qxb6500274aGreatWL1
import Derived.Test.Qxb6500274aGreatWL2
import Derived.Test.Qxb6500274aGreatWL3
import Derived.Test.Qxb6500274aGreatWL4
import Derived.Test.Qxb6500274aGreatWL5
import Derived.Test.Qxb6500274aGreatWL6
import Derived.Test.Qxb6500274aGreatWL7
set_option linter.unusedVariables false
set_option linter.unusedSimpArgs false
set_option maxRecDepth 100000
namespace Go.Sx
open Go Go.RowKit
section
variable {P : Program} {E : Env} {cf : CallF} {n0 : Base} {w0 : World} {nt g n : Nat} {Q : Exit → Act → World → Prop}
theorem evN_wp (hE : EnvOK P E) (hm : P.follows .mixedOrders = true) (hcf : CallSound P n0 w0 cf) (hq : QuietSound P E cf) {T : Code} : ∀ {l : List Code} {r r' : Rg} {s s' : St} {K : Kx} {a : Act} {w : World}, (∀ c, c ∈ l → slotsOK nt c = true ∧ drawsOK E g c = true) →
    evN E cf g n l r s = some (r', s') → Rep n0 w0 K s w → RegRel K nt r a → (∀ K' a' w', K.le K' → Rep n0 w0 K' s' w' → RegRel K' nt r' a' → T.wp P Q a' w') → (seqs l T).wp P Q a w
  | [], r, r', s, s', K, a, w, _, h, hR, hr, hT => by
    simp [evN] at h
    obtain ⟨rfl, rfl⟩ := h
    exact hT K a w (Kx.le_refl K) hR hr
  | c :: l, r, r', s, s', K, a, w, hl, h, hR, hr, hT => by
    simp only [evN] at h
    split at h
    · rename_i q1 q2 hev
      obtain ⟨h1, h2⟩ := hl c (by simp)
      refine wp_seq (wp_mono ((evalCode_sound hE hm hcf hq c h1 h2).1 r s _ K a w hev hR hr) ?_)
      rintro e a2 w2 ⟨y, K2, y1, y2, y3, y4, y5⟩
      have ey := List.mem_singleton.1 y1
      subst ey
      cases y2
      exact evN_wp hE hm hcf hq (fun c hc => hl c (by simp [hc])) h y5 y4 (fun K' a' w' hle hR' hr' => hT K' a' w' (Kx.le_trans y3 hle) hR' hr')
    · cases h
theorem evN_app : ∀ {l m : List Code} {r r' : Rg} {s s' : St}, evN E cf g n (l ++ m) r s = some (r', s') → ∃ r1 s1, evN E cf g n l r s = some (r1, s1) ∧ evN E cf g n m r1 s1 = some (r', s')
  | [], m, r, r', s, s', h => ⟨r, s, rfl, h⟩
  | c :: l, m, r, r', s, s', h => by
    simp only [List.cons_append, evN] at h ⊢
    split at h
    · rename_i q1 q2 hev
      exact evN_app h
    · cases h
end
end Go.Sx
namespace Go.Proofs.Qxb6500274aGreat
open Go Go.RowKit Go.Sx
def pc : List (List Nat) := [[0], [1, 0], [1, 1, 0], [1, 1, 1, 0], [1, 1, 1, 1, 0], [1, 1, 1, 1, 1, 0], [1, 1, 1, 1, 1, 1, 0], [1, 1, 1, 1, 1, 1, 1, 0], [1, 1, 1, 1, 1, 1, 1, 1, 0], [1, 1, 1, 1, 1, 1, 1, 1, 1, 0], [1, 1, 1, 1, 1, 1, 1, 1, 1, 1, 0, 0]]
theorem f8_shape : Tryz.f8.body = some (seqs [bodyAt Tryz.f8.body [0], bodyAt Tryz.f8.body [1, 0]] (seqs [bodyAt Tryz.f8.body [1, 1, 0]] (seqs [bodyAt Tryz.f8.body [1, 1, 1, 0]] (seqs [bodyAt Tryz.f8.body [1, 1, 1, 1, 0]] (seqs [bodyAt Tryz.f8.body [1, 1, 1, 1, 1, 0]]
    (seqs [bodyAt Tryz.f8.body [1, 1, 1, 1, 1, 1, 0], bodyAt Tryz.f8.body [1, 1, 1, 1, 1, 1, 1, 0]] (seqs [bodyAt Tryz.f8.body [1, 1, 1, 1, 1, 1, 1, 1, 0], bodyAt Tryz.f8.body [1, 1, 1, 1, 1, 1, 1, 1, 1, 0]]
      (.seq (.seq (bodyAt Tryz.f8.body [1, 1, 1, 1, 1, 1, 1, 1, 1, 1, 0, 0]) (bodyAt Tryz.f8.body pB0)) (bodyAt Tryz.f8.body pLast))))))))) := by kernel_rfl
theorem pc_ok (E : Env) (h : IsEnv E) {p : List Nat} (hp : p ∈ pc) : slotsOK 79 (bodyAt Tryz.f8.body p) = true ∧ drawsOK E 8 (bodyAt Tryz.f8.body p) = true := by
  have key : (pc.all (fun p => slotsOK 79 (bodyAt Tryz.f8.body p) && drawsOK E 8 (bodyAt Tryz.f8.body p))) = true := by
    unfold IsEnv at h; subst h; kernel_rfl
  have := List.all_eq_true.1 key p hp
  simpa using this

section
variable {n0 : Base} {w0 : World}
/- between two pieces -/
def Mid (n0 : Base) (w0 : World) (script : Value) (Z : St) (a : Act) (w : World) : Prop :=
  ∃ K, Rep n0 w0 K ⟨Z.heap, Z.next, [], []⟩ w ∧ K.sy 40 = script ∧ a.tmps.size = 79 ∧ a.defers = [] ∧ a.tmps.getD 0 undef = script ∧ a.tmps.getD 3 undef = .pointer (some ⟨K.bl 0, 0, none⟩)
theorem mid_of {K : Kx} {r : Rg} {s Z : St} {m : List Nat} {a : Act} {w : World} {script : Value} (hc : pieceOK Z m (some (r, s)) = true) (hR : Rep n0 w0 K s w) (hr : RegRel K 79 r a) (h40 : K.sy 40 = script) : Mid n0 w0 script Z a w := by
  simp only [pieceOK, Bool.and_eq_true] at hc
  obtain ⟨k0, k3, kd, kc⟩ := hc
  refine ⟨K.weak Z m w K.sy, covers_sound hR kc K.sy (fun i t h => by simp [row] at h) [] [] (fun t b h => by simp at h) (fun t v h => by simp at h) hR.syr, h40, hr.size, ?_, ?_, ?_⟩
  · have := hr.defers
    have e : r.defers = [] := List.isEmpty_iff.1 kd
    rw [e] at this
    cases hd : a.defers with
    | nil => rfl
    | cons d ds => rw [hd] at this; exact this.elim
  · rw [isVar_RV k0 (hr.slot 0), h40]
  · have hpt := isPtr0_RV k3 (hr.slot 3)
    exact hpt
theorem regs_mid {K : Kx} {nv : Nat} {long : List Nat} {sa : Option Addr} {sl sc : Nat} {a : Act} (hnx : 0 < K.nx) (hsl : sl ≤ 9223372036854775807) (h40 : K.sy 40 = .slice sa sl sc) (hsz : a.tmps.size = 79) (hd : a.defers = []) (t0 : a.tmps.getD 0 undef = .slice sa sl sc)
    (t3 : a.tmps.getD 3 undef = .pointer (some ⟨K.bl 0, 0, none⟩)) : RegRel K 79 (rX nv long) a := by
  unfold rX rP
  refine RegRel.know (RegRel.know (RegRel.none hsz hd) ?_) ?_
  · rw [t0]; exact (C1_var_slice h40 hsl).rv
  · rw [t3]
    unfold ptr0
    rw [RV_ptr]
    exact ⟨rfl, hnx, rfl⟩
theorem piece_wp {E : Env} (hE : IsEnv E) {sa : Option Addr} {sl sc : Nat} (hsl : sl ≤ 9223372036854775807) {Z Z' : St} {m : List Nat} {l : List Code} (hl : ∀ c, c ∈ l → slotsOK 79 c = true ∧ drawsOK E 8 c = true) (hz : 0 < Z.next)
    (hrun : pieceOK Z' m (evN E (callF E 3000 60) 8 3000 l (rX (E.nv 8) (E.long 8)) ⟨Z.heap, Z.next, [], []⟩) = true) {a : Act} {w : World} (hM : Mid n0 w0 (.slice sa sl sc) Z a w) {T : Code} {Q : Exit → Act → World → Prop}
    (hT : ∀ a' w', Mid n0 w0 (.slice sa sl sc) Z' a' w' → T.wp Tryz.prog Q a' w') : (seqs l T).wp Tryz.prog Q a w := by
  have hP := progOK E hE (n0 := n0) (w0 := w0)
  obtain ⟨hcs, hqs⟩ := callF_sound hP 3000 60
  obtain ⟨K, hR, h40, hsz, hd, t0, t3⟩ := hM
  cases hev : evN E (callF E 3000 60) 8 3000 l (rX (E.nv 8) (E.long 8)) ⟨Z.heap, Z.next, [], []⟩ with
  | none => rw [hev] at hrun; cases hrun
  | some p =>
    obtain ⟨r, s⟩ := p
    rw [hev] at hrun
    refine evN_wp hP.env hP.mixed hcs hqs hl hev hR (regs_mid (by rw [hR.nx]; exact hz) hsl h40 hsz hd t0 t3) ?_
    intro K' a' w' hle hR' hr'
    exact hT a' w' (mid_of hrun hR' hr' (by rw [hle.sy]; exact h40))
end

theorem first_regs {K : Kx} {nv : Nat} {long : List Nat} {sa : Option Addr} {sl sc n : Nat} (hn : n = 79) (hsl : sl ≤ 9223372036854775807) (h40 : K.sy 40 = .slice sa sl sc) : RegRel K 79 (rP nv long) { tmps := #[.slice sa sl sc] ++ Array.replicate (n - (#[Value.slice sa sl sc] : Array Value).size) undef, defers := [] } := by
  subst hn
  unfold rP
  refine RegRel.know (RegRel.none (by simp) rfl) ?_
  have e : (#[Value.slice sa sl sc] ++ Array.replicate (79 - (#[Value.slice sa sl sc] : Array Value).size) undef).getD 0 undef = .slice sa sl sc := by simp [Array.getD_eq_getD_getElem?]
  show RV K _ ((#[Value.slice sa sl sc] ++ Array.replicate (79 - (#[Value.slice sa sl sc] : Array Value).size) undef).getD 0 undef)
  rw [e]
  exact (C1_var_slice h40 hsl).rv
theorem f8_calls (hS : ∀ E, IsEnv E → AllW E) (sa : Option Addr) (sl sc : Nat) (w : World) (hscr : ∀ n0 : Base, n0.n = w.heap.size → Script n0 w sa sl) :
    Calls Tryz.prog 8 #[.slice sa sl sc] w (fun e w' => e = .returned (.int .i64 (-1)) ∧ Below w.heap.size w w') := by
  obtain ⟨n0, hn⟩ : ∃ n0 : Base, n0.n = w.heap.size := ⟨⟨w.heap.size, fun _ _ => none⟩, rfl⟩
  obtain ⟨E, hE⟩ : ∃ E, IsEnv E := ⟨_, rfl⟩
  have hscr := hscr n0 hn
  have hsl := hscr.1
  have hP := progOK E hE (n0 := n0) (w0 := w)
  obtain ⟨hcs, hqs⟩ := callF_sound hP 3000 60
  let K0 : Kx := ⟨fun _ => 0, fun _ => 0, fun _ => 0, 0, fun j => if j = 40 then .slice sa sl sc else .bool false, n0.pf⟩
  have h40 : K0.sy 40 = .slice sa sl sc := rfl
  have hR0 : Rep n0 w K0 ⟨[], 0, [], []⟩ w := by
    refine ⟨Below.refl _ _, by rw [hn]; exact Nat.le_refl _, rfl, ?_, ?_, no_facts, fun t v h => by simp at h, ?_, rfl⟩
    · intro b x hx; simp [find, nthL, findL] at hx
    · intro b b' x x' hx; simp [find, nthL, findL] at hx
    · intro i k n h
      have h : (if i = 40 then Value.slice sa sl sc else .bool false) = .int k n := h
      split at h <;> cases h
  have hntm : Tryz.f8.ntmps = 79 := by kernel_rfl
  have hr0 : RegRel K0 79 (rP (E.nv 8) (E.long 8)) { tmps := #[.slice sa sl sc] ++ Array.replicate (Tryz.f8.ntmps - (#[.slice sa sl sc] : Array Value).size) undef, defers := [] } := first_regs hntm hsl h40
  refine calls_of_wp Tryz.func8 f8_shape ?_
  have one : ∀ {p : List Nat}, p ∈ pc → ∀ c, c ∈ [bodyAt Tryz.f8.body p] → slotsOK 79 c = true ∧ drawsOK E 8 c = true := by
    intro p hp c hc
    rw [List.mem_singleton.1 hc]
    exact pc_ok E hE hp
  have two : ∀ {p q : List Nat}, p ∈ pc → q ∈ pc → ∀ c, c ∈ [bodyAt Tryz.f8.body p, bodyAt Tryz.f8.body q] → slotsOK 79 c = true ∧ drawsOK E 8 c = true := by
    intro p q hp hq c hc
    simp only [List.mem_cons, List.not_mem_nil, or_false] at hc
    rcases hc with rfl | rfl
    · exact pc_ok E hE hp
    · exact pc_ok E hE hq
  -- the first piece
  have h1 := pc_1 E hE
  cases hev : evN E (callF E 3000 60) 8 3000 [bodyAt Tryz.f8.body [0], bodyAt Tryz.f8.body [1, 0]] (rP (E.nv 8) (E.long 8)) ⟨[], 0, [], []⟩ with
  | none => rw [hev] at h1; cases h1
  | some p =>
    obtain ⟨r, s⟩ := p
    rw [hev] at h1
    refine evN_wp hP.env hP.mixed hcs hqs (two (by simp [pc]) (by simp [pc])) hev hR0 hr0 ?_
    intro K1 a1 w1 hle1 hR1 hr1
    have hM1 : Mid n0 w (.slice sa sl sc) pz1 a1 w1 := mid_of h1 hR1 hr1 (by rw [hle1.sy]; exact h40)
    refine piece_wp hE hsl (one (by simp [pc])) (by decide) (pc_2 E hE) hM1 ?_
    intro a2 w2 hM2
    refine piece_wp hE hsl (one (by simp [pc])) (by decide) (pc_3 E hE) hM2 ?_
    intro a3 w3 hM3
    refine piece_wp hE hsl (one (by simp [pc])) (by decide) (pc_4 E hE) hM3 ?_
    intro a4 w4 hM4
    refine piece_wp hE hsl (one (by simp [pc])) (by decide) (pc_5 E hE) hM4 ?_
    intro a5 w5 hM5
    refine piece_wp hE hsl (two (by simp [pc]) (by simp [pc])) (by decide) (pc_6 E hE) hM5 ?_
    intro a6 w6 ⟨K6, hR6, h406, hsz6, hd6, t06, t36⟩
    -- the last piece
    have h7 := pc_7 E hE
    cases hev7 : evN E (callF E 3000 60) 8 3000 [bodyAt Tryz.f8.body [1, 1, 1, 1, 1, 1, 1, 1, 0], bodyAt Tryz.f8.body [1, 1, 1, 1, 1, 1, 1, 1, 1, 0], bodyAt Tryz.f8.body [1, 1, 1, 1, 1, 1, 1, 1, 1, 1, 0, 0]] (rX (E.nv 8) (E.long 8)) ⟨pz6.heap, pz6.next, [], []⟩ with
    | none => rw [hev7] at h7; cases h7
    | some p =>
      obtain ⟨r7, s7⟩ := p
      rw [hev7] at h7
      simp only [lastOK, Bool.and_eq_true] at h7
      obtain ⟨k0, k3, k5, k6, kd, kc⟩ := h7
      obtain ⟨rm, sm, hev8, hev9⟩ := evN_app (l := [bodyAt Tryz.f8.body [1, 1, 1, 1, 1, 1, 1, 1, 0], bodyAt Tryz.f8.body [1, 1, 1, 1, 1, 1, 1, 1, 1, 0]]) (m := [bodyAt Tryz.f8.body [1, 1, 1, 1, 1, 1, 1, 1, 1, 1, 0, 0]]) hev7
      refine evN_wp hP.env hP.mixed hcs hqs (two (by simp [pc]) (by simp [pc])) hev8 hR6 (regs_mid (by rw [hR6.nx]; decide) hsl h406 hsz6 hd6 t06 t36) ?_
      intro K7 a7 w7 hle7 hR7 hr7
      refine wp_seq (evN_wp (l := [bodyAt Tryz.f8.body [1, 1, 1, 1, 1, 1, 1, 1, 1, 1, 0, 0]]) hP.env hP.mixed hcs hqs (one (by simp [pc])) hev9 hR7 hr7 ?_)
      intro K8 a8 w8 hle8 hR8 hr8
      have hsy : K8.sy 40 = .slice sa sl sc := by rw [hle8.sy, hle7.sy]; exact h406
      have hHead : Head n0 w (.slice sa sl sc) 0 0 0 (-1) a8 w8 := by
        refine ⟨rfl, K8.weak (zL 0 0 0) pm7 w8 K8.sy, covers_sound hR8 kc K8.sy (fun i t h => by simp [row] at h) [] [] (fun t b h => by simp at h) (fun t v h => by simp at h) hR8.syr, hr8.size, ?_, ?_, ?_, ?_, ?_⟩
        · have := hr8.defers
          have e : r7.defers = [] := List.isEmpty_iff.1 kd
          rw [e] at this
          cases hd : a8.defers with
          | nil => rfl
          | cons d ds => rw [hd] at this; exact this.elim
        · rw [isVar_RV k0 (hr8.slot 0), hsy]
        · have hpt := isPtr0_RV k3 (hr8.slot 3)
          exact hpt
        · have hpt := isPtr0_RV k5 (hr8.slot 5)
          exact hpt
        · have e := (eqPlain_eq k6).1
          have := hr8.slot 6
          rw [e, RV_int] at this
          exact this
      refine loop_wp hE (hS E hE) hscr hHead ?_
      intro a9 w9 hF
      refine last_wp hF ⟨rfl, ?_⟩
      have := hF.2.2
      rw [hn] at this
      exact this
end Go.Proofs.Qxb6500274aGreat
