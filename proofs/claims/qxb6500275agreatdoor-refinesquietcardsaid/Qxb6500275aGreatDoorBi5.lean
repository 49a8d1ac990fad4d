import Derived.Test.Qxb6500275aGreatDoorBi2
import Derived.Test.Qxb6500275aGreatDoorBi3
import Derived.Test.Qxb6500275aGreatDoorBi4
set_option maxRecDepth 100000
set_option linter.unusedVariables false
set_option linter.unusedSimpArgs false
namespace Go.Proofs.Qxb6500275aGreatDoor
open Go Go.RowKit
def insT (s : ByteArray) (p e : Nat) (tabs : List Int) : R (Ins × List Int) := bindQ (nextS s p e) fun x => match restS s x.2 e x.1 p tabs with
  | .error f => .error f
  | .ok y => .ok ((y.1, y.2.2), y.2.1)
section
variable {w w' : World} {b : Nat} {s : ByteArray} {p e : Nat} {er : Int} {a : Nat} {fb : Nat} {f : Fn} {vb vt : Value}
set_option maxHeartbeats 1000000 in
theorem byte_z (h : Rc w b s p e er a) (hz : er ≠ 0 ∨ ¬ p < e) : Calls Tryz.prog 183 #[.pointer (some ⟨b, 0, none⟩)] w (fun en w' => ∃ er' a', en = .returned (.int .i64 0) ∧ Rc w' b s p e er' a' ∧ Kp (· = b) w w' ∧ er' ≠ 0 ∧ Hid (Cu (nextS s p e) er a 0 p er' a')) := by
  obtain ⟨c0, c1, c2, c3, c4, ⟨⟨f1, f2⟩, f3, f4⟩, le, es, sz, al⟩ := id h
  by_cases he : er = 0
  · subst he
    have hp : ¬ p < e := by rcases hz with h | h; exact absurd rfl h; exact h
    have HF := fun u (hu : Kp (fun _ => False) w u) => fail_m (h.keep hu (fun h => h)) 3 p (by omega)
    clear h hz
    go_enter Tryz.func183, Tryz.ntmps183
    go_wp2
    go_region
    go_wp2_with fail
    refine (HF _ (Kp.refl _ _).drew).mono ?_
    rintro en u2 ⟨er', a', rfl, hR, hK, hC⟩
    go_wp2
    go_ret
    obtain ⟨h1, h2⟩ := hC.out.1 rfl
    rw [h1, h2] at hR
    refine ⟨3, p, rfl, hR, ((Kp.refl (· = b) w).drew).trans hK, by decide, ⟨fun _ => .inr ⟨by unfold nextS; rw [if_neg hp, show e = p by omega], by decide⟩, fun h => absurd rfl h⟩⟩
  · have heb : (er == 0) = false := by rw [beq_eq_false_iff_ne]; exact he
    have HR : Hid _ := h
    clear h hz
    go_enter Tryz.func183, Tryz.ntmps183
    go_wp2
    go_ret
    exact ⟨er, a, rfl, HR.out, Kp.refl _ _, he, ⟨fun h => absurd h he, fun _ => ⟨rfl, rfl⟩⟩⟩
theorem ins_z_end {o : R Ins} {er1 : Int} {a1 : Nat} {en : Ending} {wf : World} (hne : er1 ≠ 0) (hC : Cu (nextS s p e) er a 0 p er1 a1) (h : Cm Ins.val (fun _ => True) o b s e er1 a1 w en wf) : ∃ x q er' a', en = .returned (Ins.val x) ∧ Rc wf b s q e er' a' ∧ Kp (· = b) w wf ∧ er' ≠ 0 ∧ Hid (Cu (nextS s p e) er a 0 p er' a') := by
  obtain ⟨x, q, er', a', e1, e2, e3, e4, e5⟩ := h
  obtain ⟨h1, h2⟩ := e5.out.bad hne
  subst h1 h2
  exact ⟨x, q, er', a', e1, e2, e3, hne, hC⟩
set_option maxHeartbeats 4000000 in
theorem ins_z (h : Rc w b s p e er a) (hz : er ≠ 0 ∨ ¬ p < e) (fv : Value) : Calls Tryz.prog 268 #[.pointer (some ⟨b, 0, none⟩), fv] w (fun en w' => ∃ x q er' a', en = .returned (Ins.val x) ∧ Rc w' b s q e er' a' ∧ Kp (· = b) w w' ∧ er' ≠ 0 ∧ Hid (Cu (nextS s p e) er a 0 p er' a')) := by
  have HM := fun u => memSig_e 0 (by decide) u
  have HN := fun u => numSig_e 0 (by decide) u
  rw [show enc3 (numSig 0) = .tuple #[.int .i64 0, .int .u8 0, .int .u8 0] from rfl] at HN
  rw [show encM (memSig 0) = .tuple #[.int .i64 0, .int .u8 0, .bool false] from rfl] at HM
  have hlt : b < w.heap.size := lt_of_cell h.c0
  have HB : Hid (∀ u, Kp (fun _ => False) w u → Calls Tryz.prog 183 #[.pointer (some ⟨b, 0, none⟩)] u (fun en w' => ∃ er' a', en = .returned (.int .i64 0) ∧ Rc w' b s p e er' a' ∧ Kp (· = b) u w' ∧ er' ≠ 0 ∧ Hid (Cu (nextS s p e) er a 0 p er' a'))) := fun u hu => byte_z (h.keep hu (fun h => h)) hz
  have c1 := h.c1
  have hpl : p ≤ 1024 := by have := h.le; have := h.es; have := h.sz; omega
  clear h hz
  go_enter Tryz.func268, Tryz.ntmps268
  go_wp2_with fail
  refine (HB.out _ ((Kp.refl _ _).alloc _)).mono ?_
  rintro en w2 ⟨er1, a1, rfl, hR2, hK2, hne1, hC2⟩
  have HC2 : Hid _ := hC2.out
  have HNE : Hid _ := hne1
  clear hne1 hC2
  have hs2 : w.heap.size + 1 ≤ w2.heap.size := by have := hK2.size; rw [World.size_alloc] at this; exact this
  have H4 := (C3.new w (.int .u8 0) (.int .u32 0) (.int .u64 0) 129).keep hK2 (fun h => by have : w.heap.size = b := h; omega)
  have hKw : Kp (· = b) w w2 := ((Kp.refl _ _).alloc _).trans hK2
  have HKw : Hid _ := hKw
  have HR2 : Hid _ := hR2
  have H4' : Hid _ := H4
  have g4 := H4
  obtain ⟨z0, z1, z2, y0, y1, y2⟩ := g4
  clear hR2 hKw H4 HB c1 hK2
  go_wp2_with fail
  refine (HM _).mono ?_
  rintro en w3 ⟨rfl, rfl⟩
  go_wp2_with fail
  refine (HN _).mono ?_
  rintro en w3 ⟨rfl, rfl⟩
  clear HM HN z0 z1 z2 y0 y1 y2
  have H4n := H4'.out.keep ((Kp.refl (fun _ => False) w2).alloc (.cells #[.int .u8 0, .int .u32 0, .int .u64 0] 129)) (fun h => h)
  obtain ⟨g0, g1, g2, f0, f1, f2⟩ := H4n
  go_wp2
  refine bodyPost_ret (v := .agg #[.int .u8 0, .int .u32 0, .int .u64 0]) (by simp [results, Tryz.results268, go_sem, g0, g1, g2]) rfl ?_
  refine ins_z_end HNE.out HC2.out (ins_end (er := er1) (a := a1) (enc := Ins.val) (o := (.ok (⟨0, 0, 0⟩, p) : R Ins)) (x := (⟨0, 0, 0⟩ : Ins)) (w4 := w2) (n4 := w.heap.size) (n7 := w2.heap.size) rfl HR2.out HKw.out (by repeat (first | exact Kp.refl _ _ | refine Kp.setCell ?_ (.inl (.inl rfl)) _ | refine Kp.setCell ?_ (.inl (.inr rfl)) _ | refine Kp.alloc ?_ _)) (Nat.le_refl _) (by omega) hlt (Cu.pure _ _))
theorem opIs (op : Nat) : op = 14 ∨ (op ≠ 14 ∧ ((69 ≤ op ∧ op ≤ 191) ∨ (40 ≤ op ∧ op ≤ 62) ∨ (¬ (op = 14) ∧ (6 ≤ op ∧ op ≤ 10 ∨ 18 ≤ op ∧ op ≤ 25 ∨ 28 ≤ op ∧ op ≤ 31 ∨ 37 ≤ op ∧ op ≤ 39 ∨ 192 ≤ op)) ∨ op = 0 ∨ op = 1 ∨ op = 2 ∨ op = 3 ∨ op = 4 ∨ op = 5 ∨ op = 11 ∨ op = 12 ∨ op = 13 ∨ op = 15 ∨ op = 16 ∨ op = 17 ∨ op = 26 ∨ op = 27 ∨ op = 32 ∨ op = 33 ∨ op = 34 ∨ op = 35 ∨ op = 36 ∨ op = 63 ∨ op = 64 ∨ op = 65 ∨ op = 66 ∨ op = 67 ∨ op = 68)) := by omega
/- an instruction that is no table -/
theorem ins_one (h : Rc w b s p e 0 a) (hp : p < e) (fv : Value) (hop : bAt s p ≠ 14) : Calls Tryz.prog 268 #[.pointer (some ⟨b, 0, none⟩), fv] w (Cm Ins.val (fun _ => True) (rest1 s (p + 1) e (bAt s p) p) b s e 0 a w) := by
  obtain ⟨op, ho⟩ : ∃ op, bAt s p = op := ⟨_, rfl⟩
  rw [ho] at hop ⊢
  rcases opIs op with h14 | ⟨_, hc⟩
  · exact absurd h14 hop
  · rcases hc with hc | hc | hc | rfl | rfl | rfl | rfl | rfl | rfl | rfl | rfl | rfl | rfl | rfl | rfl | rfl | rfl | rfl | rfl | rfl | rfl | rfl | rfl | rfl | rfl | rfl | rfl | rfl
    · exact ins_num h hp fv ho hc
    · exact ins_mem h hp fv ho hc
    · exact ins_bad h hp fv ho hc
    · exact ins_0 h hp fv ho
    · exact ins_1 h hp fv ho
    · exact ins_2 h hp fv ho
    · exact ins_3 h hp fv ho
    · exact ins_4 h hp fv ho
    · exact ins_5 h hp fv ho
    · exact ins_11 h hp fv ho
    · exact ins_12 h hp fv ho
    · exact ins_13 h hp fv ho
    · exact ins_15 h hp fv ho
    · exact ins_16 h hp fv ho
    · exact ins_17 h hp fv ho
    · exact ins_26 h hp fv ho
    · exact ins_27 h hp fv ho
    · exact ins_32 h hp fv ho
    · exact ins_33 h hp fv ho
    · exact ins_34 h hp fv ho
    · exact ins_35 h hp fv ho
    · exact ins_36 h hp fv ho
    · exact ins_63 h hp fv ho
    · exact ins_64 h hp fv ho
    · exact ins_65 h hp fv ho
    · exact ins_66 h hp fv ho
    · exact ins_67 h hp fv ho
    · exact ins_68 h hp fv ho
/- EVERY INSTRUCTION -/
theorem ins_m (h : Rc w b s p e er a) (hF : Fb w fb f vb vt) (hbf : ¬ FbB fb vb vt b) (hnt : f.tabs.length ≤ 24) : Calls Tryz.prog 268 #[.pointer (some ⟨b, 0, none⟩), .pointer (some ⟨fb, 0, none⟩)] w (Imn (insT s p e f.tabs) b s e er a fb f vb vt w) := by
  by_cases hz : er ≠ 0 ∨ ¬ p < e
  · refine (ins_z h hz _).mono ?_
    rintro en w' ⟨x, q, er', a', h1, h2, h3, h4, h5⟩
    refine ⟨x, f.tabs, q, er', a', vt, h1, h2, hF.keep h3 (fun k hk e => hbf (by rw [← e]; exact hk)), h3.mono (fun k hk => .inl hk), fun k hk => .inl hk, by omega, ?_⟩
    exact h5.out.trans (Cu.stay _ _ h4)
  · have he : er = 0 := Classical.byContradiction (fun h => hz (.inl h))
    have hp : p < e := Classical.byContradiction (fun h => hz (.inr h))
    subst he
    have hn : nextS s p e = .ok (bAt s p, p + 1) := by unfold nextS; rw [if_pos hp]
    by_cases h14 : bAt s p = 14
    · have := ins_14 h hp h14 hF hbf hnt
      have e : tabR s (p + 1) e f.tabs = insT s p e f.tabs := by
        unfold insT
        rw [hn]
        show _ = ((match restS s (p + 1) e (bAt s p) p f.tabs with
          | .error f => .error f
          | .ok y => .ok ((y.1, y.2.2), y.2.1)) : R (Ins × List Int))
        rw [h14]
        exact (restS_14 (at_ := p)).symm
      rw [e] at this
      exact this
    · refine (ins_one h hp _ h14).mono ?_
      rintro en w' ⟨x, q, er', a', h1, h2, h3, _, h5⟩
      refine ⟨x, f.tabs, q, er', a', vt, h1, h2, hF.keep h3 (fun k hk e => hbf (by rw [← e]; exact hk)), h3.mono (fun k hk => .inl hk), fun k hk => .inl hk, by omega, ?_⟩
      have e : insT s p e f.tabs = bindQ (rest1 s (p + 1) e (bAt s p) p) (fun y => .ok ((y.1, f.tabs), y.2)) := by
        unfold insT
        rw [hn]
        show ((match restS s (p + 1) e (bAt s p) p f.tabs with
          | .error f => .error f
          | .ok y => .ok ((y.1, y.2.2), y.2.1)) : R (Ins × List Int)) = _
        rw [restS_1 h14]
        unfold bindQ
        cases rest1 s (p + 1) e (bAt s p) p <;> rfl
      rw [e]
      exact h5.out.trans (Cu.pure _ _)
end
end Go.Proofs.Qxb6500275aGreatDoor
