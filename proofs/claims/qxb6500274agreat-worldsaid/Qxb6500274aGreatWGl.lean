import Derived.Test.Qxb6500274aGreatWPv
import Derived.Test.Qxb6500274aGreatWKs
set_option linter.unusedVariables false
set_option linter.unusedSimpArgs false
set_option maxRecDepth 20000
namespace Go.Sx
open Go Go.RowKit

section
variable {n0 : Base} {w0 w : World} {K : Kx} {s : St}
/- a cell as it lies -/
theorem Rep.cell (h : Rep n0 w0 K s w) {b i : Nat} {x : Blk} {v : Value} (hx : find b s.heap = some x) (hk : x.kind ≠ 2) (hv : getAt x.cells i = some v) : ∃ c, C1 K v c := by
  obtain ⟨_, _, _, h4⟩ := h.live b x hx
  unfold BlkRep at h4
  rw [if_neg hk] at h4
  obtain ⟨cs, T, fr, pre, tl, g1, g2, g3, g4, g5, g6⟩ := h4
  rw [getAt_eq] at hv
  obtain ⟨c, _, hc⟩ := g4.get i hv
  exact ⟨c, hc⟩

theorem isVar_RV {i : Nat} {v c : Value} (h : isVar i v = true) (hv : RV K v c) : c = K.sy i := by
  unfold isVar at h
  split at h
  · rename_i n t sh
    simp only [Bool.and_eq_true] at h
    have e := eqToks_eq h.2
    rw [RV_sym] at hv
    rw [e] at hv
    have hden : ∀ c, Den K [.chan (some i)] c → c = K.sy i := by
      intro c hd
      have := hd []
      simp [rpn, tok1] at this
      exact this.symm
    unfold SymRel at hv
    split at hv
    · obtain ⟨n, h1, _, h3⟩ := hv; exact hden _ h3
    · obtain ⟨n, h1, h3⟩ := hv; exact hden _ h3
    · obtain ⟨n, h1, _, h3⟩ := hv; exact hden _ h3
    · obtain ⟨p, l, k, l', h1, _⟩ := hv
      simp at h1
    · obtain ⟨j, a, l, k, h1, h2, _⟩ := hv
      simp at h1
      rw [h2, h1]
    · rename_i q hq
      rw [hq] at h
      simp [isStrSh] at h
    · exact hv.elim
  · cases h
theorem isPtr0_RV {n : Nat} {v c : Value} (h : isPtr0 n v = true) (hv : RV K v c) : c = .pointer (some ⟨K.bl n, 0, none⟩) := by
  unfold isPtr0 at h
  split at h
  · rename_i p
    simp only [Bool.and_eq_true] at h
    rw [RV_ptr] at hv
    obtain ⟨_, _, hv⟩ := hv
    rw [hv, Nat.eq_of_beq_eq_true h.1, Nat.eq_of_beq_eq_true h.2.1]
  · cases h

/- the variables of a state, as they answer in another -/
theorem bd_sy (hR : Rep n0 w0 K s w) : ∀ {sp : List (Nat × Nat × Nat)}, bdOK s sp = true →
    ∃ sy : Nat → Value, (∀ i t, row i (bdRows s sp) = some t → Den K t (sy i)) ∧ ∀ i k n, sy i = .int k n → k.wrap n = n
  | [], _ => ⟨K.sy, fun i t h => by simp [bdRows, row] at h, hR.syr⟩
  | p :: l, h => by
    simp only [bdOK, Bool.and_eq_true] at h
    obtain ⟨sy, h1, h2⟩ := bd_sy hR h.2
    have h0 := h.1
    cases hc : cellOf s p.2.1 p.2.2 with
    | none => rw [hc] at h0; simp at h0
    | some v =>
      rw [hc] at h0
      simp only [Bool.and_eq_true] at h0
      obtain ⟨k, hk⟩ := Option.isSome_iff_exists.1 h0.1
      have hcell : ∃ c, C1 K v c := by
        unfold cellOf at hc
        split at hc
        · rename_i x hx
          split at hc
          · cases hc
          · rename_i hne
            refine hR.cell hx ?_ hc
            intro e
            rw [e] at hne
            simp at hne
        · cases hc
      obtain ⟨c, hcc⟩ := hcell
      obtain ⟨n, rfl, hd, hr⟩ := kindI_RV hk hcc.rv
      refine ⟨fun i => if i = p.1 then .int k n else sy i, ?_, ?_⟩
      · intro i t hrow
        simp only [bdRows, row, hc] at hrow
        split at hrow
        · rename_i e
          have e := Nat.eq_of_beq_eq_true e
          simp at hrow
          subst hrow
          show Den K (toks v) (if i = p.1 then .int k n else sy i)
          rw [if_pos e.symm]
          exact hd
        · rename_i e
          show Den K t (if i = p.1 then .int k n else sy i)
          rw [if_neg (fun he => by rw [he] at e; simp at e)]
          exact h1 i t hrow
      · intro i k' n' hi
        replace hi : (if i = p.1 then Value.int k n else sy i) = .int k' n' := hi
        by_cases e : i = p.1
        · rw [if_pos e] at hi
          cases hi
          exact hr h0.2
        · rw [if_neg e] at hi
          exact h2 i k' n' hi

theorem rep_at {m : List Nat} {l h t : Nat} (hR : Rep n0 w0 K s w) (hb : backAt m l h t s = true) :
    ok3 l h t = true ∧ ∃ K', Rep n0 w0 K' ⟨(zL l h t).heap, (zL l h t).next, [], []⟩ w ∧ K'.bl 0 = K.bl 0 ∧ K'.bl 1 = K.bl 1 := by
  unfold backAt at hb
  simp only [Bool.and_eq_true] at hb
  obtain ⟨h1, h2, h3, h4, h5⟩ := hb
  refine ⟨h1, ?_⟩
  obtain ⟨sy, g1, g2⟩ := bd_sy hR h4
  have e2 := Nat.eq_of_beq_eq_true h2
  have e3 := Nat.eq_of_beq_eq_true h3
  refine ⟨K.weak (zL l h t) m w sy, covers_sound hR h5 sy g1 [] [] (fun t b h => by simp at h) (fun t v h => by simp at h) g2, ?_, ?_⟩
  · show K.bl (rho m 0) = _
    rw [e2]
  · show K.bl (rho m 1) = _
    rw [e3]
end

/- THE HEAD OF THE LOOP -/
def Head (n0 : Base) (w0 : World) (script : Value) (l h t : Nat) (i : Int) (a : Act) (w : World) : Prop :=
  ok3 l h t = true ∧ ∃ K, Rep n0 w0 K ⟨(zL l h t).heap, (zL l h t).next, [], []⟩ w ∧ a.tmps.size = 79 ∧ a.defers = [] ∧ a.tmps.getD 0 undef = script ∧ a.tmps.getD 3 undef = .pointer (some ⟨K.bl 0, 0, none⟩) ∧
    a.tmps.getD 5 undef = .pointer (some ⟨K.bl 1, 0, none⟩) ∧ a.tmps.getD 6 undef = .int .i64 i

section
variable {n0 : Base} {w0 w : World} {K : Kx} {s : St}
theorem head_at {r : Rg} {a : Act} {m : List Nat} {l h t : Nat} {i : Int} {script : Value} (hR : Rep n0 w0 K s w) (hr : RegRel K 79 r a) (hk : regsOK r = true) (hb : backAt m l h t s = true) (h40 : K.sy 40 = script) (h8 : K.sy 8 = .int .i64 i) :
    Head n0 w0 script l h t i a w := by
  obtain ⟨hok, K', hR', b0, b1⟩ := rep_at hR hb
  unfold regsOK at hk
  simp only [Bool.and_eq_true] at hk
  obtain ⟨k0, k3, k5, k6, kd⟩ := hk
  refine ⟨hok, K', hR', hr.size, ?_, ?_, ?_, ?_, ?_⟩
  · have := hr.defers
    have e : r.defers = [] := List.isEmpty_iff.1 kd
    rw [e] at this
    cases hd : a.defers with
    | nil => rfl
    | cons d ds => rw [hd] at this; exact this.elim
  · rw [isVar_RV k0 (hr.slot 0), h40]
  · rw [isPtr0_RV k3 (hr.slot 3), b0]
  · rw [isPtr0_RV k5 (hr.slot 5), b1]
  · rw [isVar_RV k6 (hr.slot 6), h8]
theorem backW_at {m : List Nat} (h : backW m s = true) : ∃ l h t, backAt m l h t s = true := by
  unfold backW at h
  split at h
  · rename_i p _
    exact ⟨_, _, _, h⟩
  · cases h
theorem allBack_mem {m : List Nat} : ∀ {L : List Leaf}, allBack m L = true → ∀ x, x ∈ L → (x.1 = .normal ∨ x.1 = .exit 1) ∧ regsOK x.2.1 = true ∧ ∃ l h t, backAt m l h t x.2.2 = true
  | [], _, x, hx => by simp at hx
  | y :: l, h, x, hx => by
    unfold allBack at h
    split at h
    · rename_i e; cases e
    · rename_i r s' l' e
      cases e
      simp only [Bool.and_eq_true] at h
      rcases List.mem_cons.1 hx with rfl | hx
      · exact ⟨.inl rfl, h.1, backW_at h.2.1⟩
      · exact allBack_mem h.2.2 x hx
    · rename_i r s' l' e
      cases e
      simp only [Bool.and_eq_true] at h
      rcases List.mem_cons.1 hx with rfl | hx
      · exact ⟨.inr rfl, h.1, backW_at h.2.1⟩
      · exact allBack_mem h.2.2 x hx
    · cases h
theorem allAt_mem {l h t : Nat} : ∀ {L : List Leaf}, allAt l h t L = true → ∀ x, x ∈ L → (x.1 = .normal ∨ x.1 = .exit 1) ∧ regsOK x.2.1 = true ∧ backAt [] l h t x.2.2 = true
  | [], _, x, hx => by simp at hx
  | y :: q, hq, x, hx => by
    unfold allAt at hq
    split at hq
    · rename_i e; cases e
    · rename_i r s' l' e
      cases e
      simp only [Bool.and_eq_true] at hq
      rcases List.mem_cons.1 hx with rfl | hx
      · exact ⟨.inl rfl, hq.1, hq.2.1⟩
      · exact allAt_mem hq.2.2 x hx
    · rename_i r s' l' e
      cases e
      simp only [Bool.and_eq_true] at hq
      rcases List.mem_cons.1 hx with rfl | hx
      · exact ⟨.inr rfl, hq.1, hq.2.1⟩
      · exact allAt_mem hq.2.2 x hx
    · cases hq
/- what every good row of leaves gives -/
def GoodW (good : List Leaf → Bool) : Prop := ∀ L, good L = true → ∀ x, x ∈ L → (x.1 = .normal ∨ x.1 = .exit 1) ∧ regsOK x.2.1 = true ∧ ∃ m l h t, backAt m l h t x.2.2 = true
theorem good_back (m : List Nat) : GoodW (allBack m) := fun L hL x hx => by
  obtain ⟨h1, h2, l, h, t, h3⟩ := allBack_mem hL x hx
  exact ⟨h1, h2, m, l, h, t, h3⟩
theorem good_at (l h t : Nat) : GoodW (allAt l h t) := fun L hL x hx => by
  obtain ⟨h1, h2, h3⟩ := allAt_mem hL x hx
  exact ⟨h1, h2, [], l, h, t, h3⟩

/- registers -/
theorem RegRel.none {nt nv : Nat} {long : List Nat} {a : Act} (hs : a.tmps.size = nt) (hd : a.defers = []) : RegRel K nt (enter nv long []) a := by
  have h := enter_rel (K := K) (nv := nv) (long := long) (args := []) (cargs := []) (ntmps := 0) trivial
  refine ⟨hs, fun t => ?_, by rw [hd]; trivial⟩
  have hany : (enter nv long []).get t = any := by
    simp only [Rg.get, enter]
    have hlook : ∀ (l : List Nat), (∀ v, lookTmp t (l.map (fun q => (q, any))) = some v → v = any) := by
      intro l
      induction l with
      | nil => intro v hv; simp [lookTmp] at hv
      | cons q l ih =>
        intro v hv
        simp only [List.map_cons, lookTmp] at hv
        split at hv
        · simp at hv; exact hv.symm
        · exact ih v hv
    split
    · split
      · rename_i v hv
        exact hlook long v hv
      · simp only [lookTmp]
    · rw [pad_get]
      split
      · rename_i v hv
        split at hv
        · simp at hv; exact hv.symm
        · simp at hv
      · rfl
  rw [hany]
  exact RV_any
theorem RegRel.know {nt : Nat} {r : Rg} {a : Act} (h : RegRel K nt r a) {t : Nat} {v : Value} (hv : RV K v (a.tmps.getD t undef)) : RegRel K nt (r.put t v) a := by
  refine ⟨h.size, fun t' => ?_, ?_⟩
  · rcases get_put r t t' v with e | ⟨_, e⟩
    · rw [e]
      split
      · rename_i e2; rw [e2]; exact hv
      · exact h.slot t'
    · rw [e]; exact RV_any
  · have : (r.put t v).defers = r.defers := by
      unfold Rg.put
      split
      · split <;> rfl
      · rfl
    rw [this]
    exact h.defers
theorem C1_var_int {i : Nat} {k : IntKind} {n z : Int} (h : K.sy i = .int k n) (hr : k.wrap n = n) : C1 K (symv (.int k z) [.chan (some i)]) (.int k n) :=
  ⟨n, rfl, hr, fun st => by simp [rpn, tok1, h]⟩
theorem C1_var_slice {i : Nat} {a : Option Addr} {l k : Nat} (h : K.sy i = .slice a l k) (hl : l ≤ 9223372036854775807) : C1 K (symv .nilIface [.chan (some i)]) (.slice a l k) :=
  ⟨i, a, l, k, rfl, h.symm, rfl, hl⟩
end
end Go.Sx
namespace Go.Proofs.Qxb6500274aGreat
open Go Go.RowKit Go.Sx

theorem reg_shape : bodyAt Tryz.f8.body pReg = .region 19 (opsFrom 4 (bodyAt Tryz.f8.body pReg)).1.toArray false := by kernel_rfl
theorem reg_slots : slotsOK 79 (bodyAt Tryz.f8.body pReg) = true := by kernel_rfl
theorem rest_slots : slotsOK 79 (bodyAt Tryz.f8.body pRest) = true := by kernel_rfl
theorem rest_draws (E : Env) (h : IsEnv E) : drawsOK E 8 (bodyAt Tryz.f8.body pRest) = true := by
  unfold IsEnv at h; subst h; kernel_rfl
theorem show_slots : slotsOK 79 (bodyAt Tryz.f8.body pShow) = true := by kernel_rfl
theorem show_draws (E : Env) (h : IsEnv E) : drawsOK E 8 (bodyAt Tryz.f8.body pShow) = true := by
  unfold IsEnv at h; subst h; kernel_rfl
theorem ops_drop : (opsFrom 4 (bodyAt Tryz.f8.body pReg)).2 = (opsFrom 4 (bodyAt Tryz.f8.body pReg)).1.drop 4 := by
  rw [reg_shape]; rfl

section
variable {n0 : Base} {w0 w : World} {K : Kx}
theorem step_wp {E : Env} (h : IsEnv E) {good : List Leaf → Bool} (hg : GoodW good) {Z : St} {k st : Value} {F : List (List Value × Bool)} (hS : stepRun E (bodyAt Tryz.f8.body pReg) (bodyAt Tryz.f8.body pRest) good Z k st F = true)
    {a : Act} (hR : Rep n0 w0 K ⟨Z.heap, Z.next, F, []⟩ w) (hr : RegRel K 79 (rAt (E.nv 8) (E.long 8) k st) a) {script : Value} {i : Int} (h40 : K.sy 40 = script) (h8 : K.sy 8 = .int .i64 i) :
    wpList Tryz.prog (opsFrom 4 (bodyAt Tryz.f8.body pReg)).1.toArray (Exit.then ((bodyAt Tryz.f8.body pRest).wp Tryz.prog (fun e a' w' => (e = .normal ∨ e = .exit 1) ∧ ∃ l h t, Head n0 w0 script l h t i a' w')) (fun e a' w' => (e = .normal ∨ e = .exit 1) ∧ ∃ l h t, Head n0 w0 script l h t i a' w'))
      (opsFrom 4 (bodyAt Tryz.f8.body pReg)).2 a w := by
  have hP := progOK E h (n0 := n0) (w0 := w0)
  obtain ⟨hcs, hqs⟩ := callF_sound hP 3000 60
  unfold stepRun at hS
  split at hS
  · rename_i L hL
    unfold stepLeaves at hL
    split at hL
    · rename_i l hl
      refine evalOps_sound hP.env hcs (opsFrom 4 (bodyAt Tryz.f8.body pReg)).1 _ _ _ l K a w ?_ hl hR hr ?_
      · intro o ho t ht
        have hs := reg_slots
        rw [reg_shape] at hs
        refine slots_region hs o ?_ t ht
        rw [ops_drop] at ho
        exact List.mem_of_mem_drop ho
      · intro x hx K' a' w' hle hr' hR'
        obtain ⟨l', g1, g2⟩ := (bindL_mem hL (Exit.normal, x.1, x.2) (toLeaf_mem hx)).1 rfl
        show (bodyAt Tryz.f8.body pRest).wp Tryz.prog _ a' w'
        refine wp_mono ((evalCode_sound hP.env hP.mixed hcs hqs (bodyAt Tryz.f8.body pRest) rest_slots (rest_draws E h)).1 x.1 x.2 l' K' a' w' g1 hR' hr') ?_
        rintro e a2 w2 ⟨y, K2, y1, y2, y3, y4, y5⟩
        have hle2 := Kx.le_trans hle y3
        obtain ⟨e1, e2, m, l2, h2, t2, e3⟩ := hg L hS y (g2 y y1)
        rw [y2] at e1
        exact ⟨e1, l2, h2, t2, head_at y5 y4 e2 e3 (by rw [hle2.sy]; exact h40) (by rw [hle2.sy]; exact h8)⟩
    · cases hL
  · cases hS
theorem show_wp {E : Env} (h : IsEnv E) {l hd t : Nat} (hS : ShowOK E l hd t)
    {a : Act} (hR : Rep n0 w0 K ⟨(zL l hd t).heap, (zL l hd t).next, [], []⟩ w) (hr : RegRel K 79 (rHead (E.nv 8) (E.long 8)) a) {script : Value} {i : Int} (h40 : K.sy 40 = script) (h8 : K.sy 8 = .int .i64 i) :
    (bodyAt Tryz.f8.body pShow).wp Tryz.prog (fun e a' w' => (e = .normal ∨ e = .exit 1) ∧ ∃ l h t, Head n0 w0 script l h t i a' w') a w := by
  have hP := progOK E h (n0 := n0) (w0 := w0)
  obtain ⟨hcs, hqs⟩ := callF_sound hP 3000 60
  unfold ShowOK showRun at hS
  split at hS
  · rename_i L hL
    refine wp_mono ((evalCode_sound hP.env hP.mixed hcs hqs (bodyAt Tryz.f8.body pShow) show_slots (show_draws E h)).1 _ _ L K a w hL hR hr) ?_
    rintro e a2 w2 ⟨y, K2, y1, y2, y3, y4, y5⟩
    obtain ⟨e1, e2, e3⟩ := allAt_mem hS y y1
    rw [y2] at e1
    exact ⟨e1, l, hd, t, head_at y5 y4 e2 e3 (by rw [y3.sy]; exact h40) (by rw [y3.sy]; exact h8)⟩
  · cases hS
end
end Go.Proofs.Qxb6500274aGreat
