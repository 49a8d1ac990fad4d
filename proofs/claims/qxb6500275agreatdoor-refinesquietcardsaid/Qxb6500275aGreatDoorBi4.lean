import Derived.Test.Qxb6500275aGreatDoorBi1
import Derived.Test.Qxb6500275aGreatDoorBf1
set_option maxRecDepth 100000
set_option linter.unusedVariables false
set_option linter.unusedSimpArgs false
namespace Go.Proofs.Qxb6500275aGreatDoor
open Go Go.RowKit
def tabsQ (s : ByteArray) (e : Nat) : Nat → Nat → List Int → R (List Int)
  | 0, q, t => .ok (t, q)
  | n + 1, q, t => bindQ (u32S s q e) fun x => tabsQ s e n x.2 (t ++ [x.1])
theorem tabsQ_eq (s : ByteArray) (e : Nat) : ∀ (n q : Nat) (t : List Int), tabsQ s e n q t = (match tabsL s e n q t with
    | .error f => .error f
    | .ok x => .ok (x.2, x.1))
  | 0, q, t => rfl
  | n + 1, q, t => by
    unfold tabsQ tabsL bindQ
    cases u32S s q e with
    | error f => rfl
    | ok x => exact tabsQ_eq s e n _ _
theorem tabsQ_len {s : ByteArray} {e : Nat} : ∀ (n q : Nat) (t : List Int) (y : List Int × Nat), tabsQ s e n q t = .ok y → y.1.length = t.length + n
  | 0, q, t, y, h => by simp [tabsQ] at h; rw [← h]; rfl
  | n + 1, q, t, y, h => by
    unfold tabsQ at h
    cases hu : u32S s q e with
    | error f => rw [hu] at h; simp [bindQ] at h
    | ok x =>
      rw [hu] at h
      have := tabsQ_len n x.2 (t ++ [x.1]) y h
      rw [this, List.length_append]
      simp
      omega
/- the table of labels -/
def tabR (s : ByteArray) (q e : Nat) (tabs : List Int) : R (Ins × List Int) := bindQ (countS s q e (24 - (tabs.length : Int) - 1)) fun x => bindQ (tabsQ s e (x.1.toNat + 1) x.2 tabs) fun y => .ok ((⟨14, tabs.length, x.1 + 1⟩, y.1), y.2)
theorem restS_14 {s : ByteArray} {q e at_ : Nat} {tabs : List Int} : (match restS s q e 14 at_ tabs with
    | .error f => .error f
    | .ok x => .ok ((x.1, x.2.2), x.2.1)) = tabR s q e tabs := by
  unfold restS tabR tableS2 bindQ
  simp only [show ¬ (14 = 0 ∨ 14 = 1 ∨ 14 = 5 ∨ 14 = 11 ∨ 14 = 15 ∨ 14 = 26 ∨ 14 = 27) by omega, show ¬ (14 = 2 ∨ 14 = 3 ∨ 14 = 4) by omega, show ¬ (14 = 12 ∨ 14 = 13 ∨ 14 = 16 ∨ 14 = 32 ∨ 14 = 33 ∨ 14 = 34 ∨ 14 = 35 ∨ 14 = 36) by omega, if_false, if_true]
  cases countS s q e (24 - (tabs.length : Int) - 1) with
  | error f => rfl
  | ok x =>
    dsimp only
    rw [tabsQ_eq]
    cases tabsL s e (x.1.toNat + 1) x.2 tabs <;> rfl
/- how 'ins' ends: an instruction x, the tables t -/
def Imn (o : R (Ins × List Int)) (b : Nat) (s : ByteArray) (e : Nat) (er : Int) (a fb : Nat) (f : Fn) (vb vt : Value) (w : World) (en : Ending) (w' : World) : Prop :=
  ∃ x t q er' a' vt', en = .returned (Ins.val x) ∧ Rc w' b s q e er' a' ∧ Fb w' fb { f with tabs := t } vb vt' ∧ Kp (fun k => k = b ∨ FbB fb vb vt k) w w' ∧ OwnO w vt vt' ∧ t.length ≤ 60 ∧ Hid (Cu o er a (x, t) q er' a')
section
variable {w w' : World} {b : Nat} {s : ByteArray} {p e : Nat} {er : Int} {a : Nat} {fb : Nat} {f : Fn} {vb vt : Value}
set_option maxHeartbeats 8000000 in
theorem ins_14 (h : Rc w b s p e 0 a) (hp : p < e) (hop : bAt s p = 14) (hF : Fb w fb f vb vt) (hbf : ¬ FbB fb vb vt b) (hnt : f.tabs.length ≤ 24) : Calls Tryz.prog 268 #[.pointer (some ⟨b, 0, none⟩), .pointer (some ⟨fb, 0, none⟩)] w (Imn (tabR s (p + 1) e f.tabs) b s e 0 a fb f vb vt w) := by
  have HM := fun u => memSig_e 14 (by decide) u
  have HN := fun u => numSig_e 14 (by decide) u
  rw [show enc3 (numSig 14) = .tuple #[.int .i64 0, .int .u8 0, .int .u8 0] from rfl] at HN
  rw [show encM (memSig 14) = .tuple #[.int .i64 0, .int .u8 0, .bool false] from rfl] at HM
  have hlt : b < w.heap.size := lt_of_cell h.c0
  have hfl : fb < w.heap.size := lt_of_cell hF.c0
  have hbfb : b ≠ fb := fun e => hbf (.inl e)
  have HB := byte_ok h hp hop
  have c1 := h.c1
  have hpl : p ≤ 1024 := by have := h.le; have := h.es; have := h.sz; omega
  have HF : Hid (∀ u, Kp (fun _ => False) w u → Fb u fb f vb vt) := fun u hu => hF.keep hu (fun _ _ h => h)
  have HF0 : Hid _ := hF
  have HLT : Hid (∀ k, FbB fb vb vt k → k < w.heap.size) := fun k hk => hF.lt hk
  have HBF : Hid _ := hbf
  clear h hop hF hbf
  go_enter Tryz.func268, Tryz.ntmps268
  go_wp2_with fail
  refine (HB.out _ ((Kp.refl _ _).alloc _)).mono ?_
  rintro en w2 ⟨a1, rfl, hR2, hK2⟩
  have hs2 : w.heap.size + 1 ≤ w2.heap.size := by have := hK2.size; rw [World.size_alloc] at this; exact this
  have H4 := (C3.new w (.int .u8 0) (.int .u32 0) (.int .u64 0) 129).keep hK2 (fun h => by have : w.heap.size = b := h; omega)
  have hKw : Kp (· = b) w w2 := ((Kp.refl _ _).alloc _).trans hK2
  have HKw : Hid _ := hKw
  have HR2 : Hid _ := hR2
  have H4' : Hid _ := H4
  clear hR2 hKw H4 HB c1 hK2
  go_wp2_with fail
  refine (HM _).mono ?_
  rintro en w3 ⟨rfl, rfl⟩
  go_wp2_with fail
  refine (HN _).mono ?_
  rintro en w3 ⟨rfl, rfl⟩
  clear HM HN
  obtain ⟨W, hW⟩ : ∃ W, w2.alloc (.cells #[.int .u8 14, .int .u32 0, .int .u64 0] 129) = W := ⟨_, rfl⟩
  have hKW : Kp (fun _ => False) w2 W := by rw [← hW]; exact (Kp.refl _ _).alloc _
  have H7 : C3 W w2.heap.size (.int .u8 14) (.int .u32 0) (.int .u64 0) := by rw [← hW]; exact C3.new w2 _ _ _ _
  have hFW : Fb W fb f vb vt := (HF0.out.keep HKw.out (fun k hk e => HBF.out (by rw [← e]; exact hk))).keep hKW (fun _ _ h => h)
  have H4W := H4'.out.keep hKW (fun h => h)
  have hRW := HR2.out.keep hKW (fun h => h)
  have hKwW : Kp (· = b) w W := HKw.out.trans (hKW.mono (fun _ h => h.elim))
  rw [hW]
  obtain ⟨n4, hn4⟩ : ∃ n, w.heap.size = n := ⟨_, rfl⟩
  obtain ⟨n7, hn7⟩ : ∃ n, w2.heap.size = n := ⟨_, rfl⟩
  rw [hn4] at H4W hlt hfl hs2 HLT ⊢
  rw [hn7] at H7 hs2 ⊢
  have HN4 : Hid _ := hn4
  clear hKW H4' hW HKw HR2 HF hn4 hn7 HF0
  obtain ⟨nt, hnt'⟩ : ∃ nt, f.tabs.length = nt := ⟨_, rfl⟩
  have hta := hFW.ta
  rw [hnt'] at hnt hta
  obtain ⟨ta, tc, hvt⟩ := hta.slice
  have d3 := hFW.c3
  have HNT : Hid _ := hnt'
  have HVT : Hid _ := hvt
  rw [hvt] at d3
  have HC := count_m hRW (24 - (nt : Int) - 1) (by omega)
  have HFW : Hid _ := hFW
  have H7' : Hid _ := H7
  have H4' : Hid _ := H4W
  have HKW : Hid _ := hKwW
  clear hta hnt' hvt hFW H7 H4W hKwW hRW
  go_wp2_with fail
  refine HC.mono ?_
  rintro en w4 ⟨k, q, er', a', rfl, hR4, hK4, hB4, hC4⟩
  obtain ⟨m, hm⟩ : ∃ m : Nat, k = m := ⟨k.toNat, by omega⟩
  subst hm
  have hm24 : m ≤ 24 := by omega
  clear hB4 HC
  unfold encI8
  have hF4 := HFW.out.keep hK4 (fun k hk e => HBF.out (by rw [← e]; exact hk))
  have H74 := H7'.out.keep hK4 (fun h => by have : n7 = b := h; omega)
  have H44 := H4'.out.keep hK4 (fun h => by have : n4 = b := h; omega)
  have HK4 : Hid _ := HKW.out.trans hK4
  have hfn7 : fb ≠ n7 := by omega
  have hfn4 : fb ≠ n4 := by omega
  have d3' := hF4.c3
  rw [HVT.out] at d3'
  have HF4 : Hid _ := hF4
  have H74' : Hid _ := H74
  have H44' : Hid _ := H44
  have HR4 : Hid _ := hR4
  clear hF4 hR4 hK4 HFW H7' H4' HKW d3 H44
  obtain ⟨x0, x1, x2, v0, v1, v2⟩ := H74
  have HX : Hid (∀ t2 q2 er2 a2, Cu (tabsQ s e (m + 1) q f.tabs) er' a' t2 q2 er2 a2 → Cu (tabR s (p + 1) e f.tabs) 0 a ((⟨14, (nt : Int), (m : Int) + 1⟩ : Ins), t2) q2 er2 a2) := fun t2 q2 er2 a2 hz => by
    unfold tabR
    rw [HNT.out]
    exact Cu.start (hC4.out.trans (hz.trans (Cu.pure _ _)))
  obtain ⟨W2, hW2⟩ : ∃ W2, (w4.setCell ⟨n7, 1, none⟩ (.int .u32 (nt : Int))).setCell ⟨n7, 2, none⟩ (.int .u64 ((m : Int) + 1)) = W2 := ⟨_, rfl⟩
  have hk7 : Kp (fun k => k = n7) w4 W2 := by rw [← hW2]; exact ((Kp.refl (fun k => k = n7) w4).setCell (p := ⟨n7, 1, none⟩) (.inl rfl) _).setCell (p := ⟨n7, 2, none⟩) (.inl rfl) _
  have H7W : Hid (C3 W2 n7 (.int .u8 14) (.int .u32 (nt : Int)) (.int .u64 ((m : Int) + 1))) := by rw [← hW2]; exact (H74'.out.set1 _).set2 _
  have H4W : Hid (C3 W2 n4 (.int .u8 0) (.int .u32 0) (.int .u64 0)) := H44'.out.keep hk7 (fun h => by have : n4 = n7 := h; omega)
  have HRW : Hid (Rc W2 b s q e er' a') := HR4.out.keep hk7 (fun h => by have : b = n7 := h; omega)
  have HFW : Hid (Fb W2 fb f vb vt) := HF4.out.keep hk7 (fun k hk e => by
    have := HLT.out k hk
    have h7 : k = n7 := e
    omega)
  have HKW : Hid (Kp (fun k => k = b ∨ FbB fb vb vt k) w W2) := ((HK4.out.mono (fun k h => .inl h)).later hk7 (fun j hj => .inr (by rw [HN4.out]; omega)))
  clear HR4 HF4 H74' H44' HK4 hC4
  go_wp2
  try rw [hW2]
  clear hW2 x0 x1 x2 v0 v1 v2 d3' hk7
  go_loopw [17] (fun ii w1 => ∃ (i q1 a1 : Nat) (er1 : Int) (t : List Int) (vt1 : Value), i ≤ m + 1 ∧ t.length = nt + i ∧ ii = .int .i64 (i : Int) ∧ Rc w1 b s q1 e er1 a1 ∧ Fb w1 fb { f with tabs := t } vb vt1 ∧ OwnO w vt vt1 ∧ C3 w1 n4 (.int .u8 0) (.int .u32 0) (.int .u64 0) ∧ C3 w1 n7 (.int .u8 14) (.int .u32 (nt : Int)) (.int .u64 ((m : Int) + 1)) ∧ (∀ k, FbB fb vb vt1 k → k ≠ n4 ∧ k ≠ n7 ∧ k ≠ b) ∧ Kp (fun k => k = b ∨ FbB fb vb vt k) w w1 ∧ Hid (∀ t2 q2 er2 a2, Cu (tabsQ s e (m + 1 - i) q1 t) er1 a1 t2 q2 er2 a2 → Cu (tabR s (p + 1) e f.tabs) 0 a ((⟨14, (nt : Int), (m : Int) + 1⟩ : Ins), t2) q2 er2 a2)) (fun ii _ => m + 1 - (intOf ii).toNat)
  case atStart => exact ⟨0, q, a', er', f.tabs, vt, by omega, by rw [HNT.out]; rfl, rfl, HRW.out, HFW.out, fun k hk => .inl hk, H4W.out, H7W.out, fun k hk => by
      have := HLT.out k hk
      refine ⟨by omega, by omega, fun e => HBF.out (by rw [← e]; exact hk)⟩, HKW.out, HX.out⟩
  case round =>
    obtain ⟨i, q1, a1, er1, t, vt1, hi, htl, rfl, hR1, hF1, hO1, h41, h71, hne, hK1, hZ1⟩ := hrel
    have c3 := hR1.c3
    have HR1 : Hid _ := hR1
    have HF1 : Hid _ := hF1
    have HO1 : Hid _ := hO1
    have H41 : Hid _ := h41
    have H71 : Hid _ := h71
    have HK1 : Hid _ := hK1
    have HNE : Hid (∀ k, FbB fb vb vt1 k → k ≠ n4 ∧ k ≠ n7 ∧ k ≠ b) := hne
    have HTL : Hid _ := htl
    have HEnd : Hid ((er1 ≠ 0 ∨ i = m + 1) → ∀ (wf : World), Kp (fun k => k = n4) wr wf → Imn (tabR s (p + 1) e f.tabs) b s e 0 a fb f vb vt w (.returned (.agg #[.int .u8 14, .int .u32 (nt : Int), .int .u64 ((m : Int) + 1)])) wf) := fun hstop wf hkf => by
      refine ⟨⟨14, (nt : Int), (m : Int) + 1⟩, t, q1, er1, a1, vt1, rfl, HR1.out.keep hkf (fun h => by have : b = n4 := h; omega), HF1.out.keep hkf (fun k hk e => (HNE.out k hk).1 e), HK1.out.later hkf (fun j hj => .inr (by rw [HN4.out]; have : j = n4 := hj; omega)), HO1.out, by have := HTL.out; omega, hZ1.out _ _ _ _ ?_⟩
      rcases hstop with h | h
      · exact Cu.stay _ _ h
      · rw [show m + 1 - i = 0 by omega]
        exact Cu.pure _ _
    clear hR1 hF1 hO1 hK1 hne htl
    by_cases hgo : er1 = 0 ∧ i < m + 1
    · obtain ⟨he1, hi1⟩ := hgo
      subst he1
      have hle : (i : Int) ≤ (m : Int) := by omega
      have HU := u32_m HR1.out
      clear h41 h71
      go_wp2_with fail
      refine HU.mono ?_
      rintro en w5 ⟨l, q5, er5, a5, rfl, hR5, hK5, hB5, hC5⟩
      have hF5 := HF1.out.keep hK5 (fun k hk e => (HNE.out k hk).2.2 e)
      obtain ⟨v', w6, r1, ⟨r2, r3⟩, ⟨ra, rn, rc, hvo⟩, r5, r6, r7⟩ := hF5.pushT (by have := HTL.out; show t.length ≤ 1000; omega) l
      have d3 := hF5.c3
      obtain ⟨ta1, tc1, hvt1⟩ := hF5.ta.slice
      rw [hvt1] at d3 r1 r2
      subst hvo
      unfold encI8
      have HR5 : Hid _ := hR5
      have HF6 : Hid _ := r5
      have HK6 : Hid _ := r6
      have HO6 : Hid (OwnO w5 vt1 (.slice ra rn rc)) := r7
      have HK5 : Hid _ := hK5
      have hf3 := hF5.fz 3
      clear hR5 r5 r6 r7 hF5 hK5 HU c3 hvt1
      go_wp2_with (at_builtin; refine wpList_app rfl _ _ 103 rfl r1 ?_)
      have hn7w : n7 < w5.heap.size := Nat.lt_of_lt_of_le H71.out.lt HK5.out.size
      have hne2 : ∀ k, FbB fb vb (.slice ra rn rc) k → k ≠ n4 ∧ k ≠ n7 ∧ k ≠ b := fun k hk => by
        rcases hk with h | h | h
        · exact HNE.out k (.inl h)
        · exact HNE.out k (.inr (.inl h))
        · rcases HO6.out k h with h5 | h5
          · exact HNE.out k (.inr (.inr h5))
          · omega
      refine ⟨⟨i + 1, q5, a5, er5, t ++ [l], .slice ra rn rc, by omega, by rw [List.length_append, HTL.out]; simp; omega, by go_num, HR5.out.keep HK6.out (fun h => (HNE.out b h).2.2 rfl), HF6.out, ?_, (H41.out.keep HK5.out (fun h => by have : n4 = b := h; omega)).keep HK6.out (fun h => (HNE.out n4 h).1 rfl), (H71.out.keep HK5.out (fun h => by have : n7 = b := h; omega)).keep HK6.out (fun h => (HNE.out n7 h).2.1 rfl), hne2, ?_, fun t2 q2 er2 a2 hz => hZ1.out _ _ _ _ ?_⟩, by simp [intOf]; omega⟩
      · intro k hk
        rcases HO6.out k hk with h5 | h5
        · exact HO1.out k h5
        · exact .inr (Nat.le_trans (Nat.le_trans HK1.out.size HK5.out.size) h5)
      · refine (HK1.out.trans (HK5.out.mono (fun k h => .inl h))).later HK6.out (fun j hj => ?_)
        rcases hj with h | h | h
        · exact .inl (.inr (.inl h))
        · exact .inl (.inr (.inr (.inl h)))
        · rcases HO1.out j h with h5 | h5
          · exact .inl (.inr (.inr (.inr h5)))
          · exact .inr h5
      · rw [show m + 1 - i = m + 1 - (i + 1) + 1 by omega, tabsQ]
        exact hC5.out.trans hz
    · by_cases he1 : er1 = 0
      · subst he1
        have hle : ¬ (i : Int) ≤ (m : Int) := by omega
        obtain ⟨x0, x1, x2, v0, v1, v2⟩ := h71
        obtain ⟨g0, g1, g2, f0, f1, f2⟩ := h41
        go_wp2
        refine bodyPost_ret (v := .agg #[.int .u8 14, .int .u32 (nt : Int), .int .u64 ((m : Int) + 1)]) (by simp [results, Tryz.results268, go_sem, g0, g1, g2]) rfl ?_
        exact HEnd.out (.inr (by omega)) _ (by repeat (first | exact Kp.refl _ _ | refine Kp.setCell ?_ (.inl (by rfl)) _))
      · have heb : (er1 == 0) = false := by rw [beq_eq_false_iff_ne]; exact he1
        obtain ⟨x0, x1, x2, v0, v1, v2⟩ := h71
        obtain ⟨g0, g1, g2, f0, f1, f2⟩ := h41
        by_cases hi1 : i < m + 1
        · have hle : (i : Int) ≤ (m : Int) := by omega
          go_wp2
          refine bodyPost_ret (v := .agg #[.int .u8 14, .int .u32 (nt : Int), .int .u64 ((m : Int) + 1)]) (by simp [results, Tryz.results268, go_sem, g0, g1, g2]) rfl ?_
          exact HEnd.out (.inl he1) _ (by repeat (first | exact Kp.refl _ _ | refine Kp.setCell ?_ (.inl (by rfl)) _))
        · have hle : ¬ (i : Int) ≤ (m : Int) := by omega
          go_wp2
          refine bodyPost_ret (v := .agg #[.int .u8 14, .int .u32 (nt : Int), .int .u64 ((m : Int) + 1)]) (by simp [results, Tryz.results268, go_sem, g0, g1, g2]) rfl ?_
          exact HEnd.out (.inl he1) _ (by repeat (first | exact Kp.refl _ _ | refine Kp.setCell ?_ (.inl (by rfl)) _))
end
end Go.Proofs.Qxb6500275aGreatDoor
