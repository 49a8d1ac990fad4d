import Derived.Test.Qxb6500275aGreatDoorVb8
import Derived.Test.Qxb6500275aGreatDoorSp9
set_option maxRecDepth 1000000
set_option linter.unusedVariables false
set_option linter.unusedSimpArgs false
namespace Go.Proofs.Qxb6500275aGreatDoor
open Go Go.RowKit
section
variable {w w1 : World} {vb mb fk fo : Nat} {M : Mod} {fn : Fn} {params : ByteArray} {pc : Nat} {v : VS} {x : Ins} {f : VF} {r : List VF}
theorem case84 (hM : ModOk M) (hF : FnOk fn) (hp : Vals params) (hI : VI v) (hcn : v.ctl ≠ []) (hX : InsOk x) : Case84 w vb mb fk fo M fn params pc v x := by
  by_cases h : x.op ≤ 5 ∨ 11 ≤ x.op ∧ x.op ≤ 15
  · rcases (by omega : x.op = 0 ∨ x.op = 1 ∨ x.op = 2 ∨ x.op = 3 ∨ x.op = 4 ∨ x.op = 5 ∨ x.op = 11 ∨ x.op = 12 ∨ x.op = 13 ∨ x.op = 14 ∨ x.op = 15) with h | h | h | h | h | h | h | h | h | h | h
    · exact c84_unr h
    · exact c84_nop h
    · exact c84_blk2 h
    · exact c84_blk3 h
    · exact c84_if h
    · exact c84_else h
    · exact c84_end h
    · exact c84_br h
    · exact c84_brif h
    · exact c84_table h
    · exact c84_ret h
  · refine c84_plain h ?_
    have := (hI.plain hM hp hF.locals hcn x hX h).2.2
    unfold giveOk isVal at this
    omega
/- amid the body's loop -/
structure Lo84 (w w1 : World) (vb mb fk fo : Nat) (M : Mod) (fn : Fn) (params : ByteArray) (c : Nat → Value) (X : VS × Nat × Int) (n : Nat) (a : Act) : Prop where
  is : ∃ (pc : Nat) (v : VS) (u : Nat → Value), a = ⟨fr84 (.pointer (some ⟨vb, 0, none⟩)) (.pointer (some ⟨mb, 0, none⟩)) (.pointer (some ⟨fk, fo, none⟩)) (.string params) c u, []⟩ ∧ u 10 = .int .i64 pc ∧ pc + n = fn.body.length ∧ SB w w1 vb mb fk fo M fn v ∧ VI v ∧ v.ctl ≠ [] ∧ X = bodyVL M fn params (fn.body.drop pc) pc v
/- how the loop may end -/
def End84 (w : World) (vb mb fk fo : Nat) (M : Mod) (fn : Fn) (params : ByteArray) (c : Nat → Value) (X : VS × Nat × Int) (Q : Exit → Act → World → Prop) : Prop :=
  (∀ tmps w' v', X = (v', fn.body.length, 11) → VI v' → SB w w' vb mb fk fo M fn v' → tmps = fr84 (.pointer (some ⟨vb, 0, none⟩)) (.pointer (some ⟨mb, 0, none⟩)) (.pointer (some ⟨fk, fo, none⟩)) (.string params) c (fun i => tmps.getD i undef) → Q (.exit 0) ⟨tmps, []⟩ w') ∧
  ∀ tmps w' v' (p : Nat) (e : Int), X = (v', p, e) → VI v' → tmps.getD 6 undef = .int .i64 p → tmps.getD 7 undef = .int .i64 e → SB w w' vb mb fk fo M fn v' → Q .ret ⟨tmps, []⟩ w'
set_option maxHeartbeats 8000000 in
theorem lo84_round {c : Nat → Value} {X : VS × Nat × Int} {n : Nat} {a : Act} {Q : Exit → Act → World → Prop} (hM : ModOk M) (hF : FnOk fn) (hp : Vals params) (hps : params.size ≤ 4) (hE : End84 w vb mb fk fo M fn params c X Q) (h : Lo84 w w1 vb mb fk fo M fn params c X n a) :
    Code.wp Tryz.prog ((Tryz.f84.body.bind firstLoop).getD .skip) (Exit.then (fun a' w' => ∃ m', m' < n ∧ Lo84 w w' vb mb fk fo M fn params c X m' a') Q) a w1 := by
  obtain ⟨pc, v, u, rfl, hu, hn, hB, hI, hcn, hX⟩ := h.is
  cases hx : fn.body[pc]? with
  | some x =>
    have hxo := hF.body x (List.mem_of_getElem? hx)
    have hK := hI.step hM hF hp hcn pc x hxo
    have hlt := (List.getElem?_eq_some_iff.1 hx).1
    have hdr : fn.body.drop pc = x :: fn.body.drop (pc + 1) := by
      rw [List.drop_eq_getElem_cons hlt]
      rw [List.getElem?_eq_getElem hlt] at hx
      rw [Option.some.inj hx]
    rw [hdr, bodyVL] at hX
    refine case84 hM hF hp hI hcn hxo _ c u _ hB hI hcn hF hxo hx hps hu ?_ ?_
    · intro tmps w' v' hs ht h10 hB'
      rw [hs] at hX hK
      refine ⟨n - 1, by omega, ⟨pc + 1, v', fun i => tmps.getD i undef, by rw [← ht], h10, by omega, hB', hK.vi, hK.nn rfl, hX⟩⟩
    · intro tmps w' v' p e hs h6 h7 hB'
      rw [hs] at hX hK
      exact hE.2 tmps w' v' p e hX hK.vi h6 h7 hB'
  | none =>
    have hge : fn.body.length ≤ pc := List.getElem?_eq_none_iff.1 hx
    have hpc : pc = fn.body.length := by omega
    rw [List.drop_of_length_le hge, bodyVL] at hX
    obtain ⟨ba, ta, c0, c1, c2, c3, bat, tat⟩ := hB.fn.cells
    obtain ⟨nb, hnb⟩ : ∃ nb, fn.body.length = nb := ⟨_, rfl⟩
    have hnb2 : nb ≤ 96 := by rw [← hnb]; exact hF.nb.2
    rw [hnb] at c2 hpc
    subst hpc
    have HB : Hid _ := hB
    have HI : Hid _ := hI
    have HX : Hid _ := hX
    have HE : Hid (End84 w vb mb fk fo M fn params c X Q) := hE
    have hfl : fk < w1.heap.size := lt_of_cell c0
    clear hB hI hX hE hn hge hx bat tat c0 c1 c3 hnb hcn hM hF
    unfold fr84
    rw [hu]
    conv => arg 2; whnf
    go_wp2
    exact HE.out.1 _ _ v HX.out HI.out HB.out (by kernel_rfl)
theorem lo84_loop {c : Nat → Value} {X : VS × Nat × Int} {n : Nat} {a : Act} {Q : Exit → Act → World → Prop} (hM : ModOk M) (hF : FnOk fn) (hp : Vals params) (hps : params.size ≤ 4) (hE : End84 w vb mb fk fo M fn params c X Q) (h : Lo84 w w1 vb mb fk fo M fn params c X n a) :
    Code.wp Tryz.prog (.loop ((Tryz.f84.body.bind firstLoop).getD .skip)) Q a w1 :=
  wp_loop_n (fun n a w1 => Lo84 w w1 vb mb fk fo M fn params c X n a) (fun n a w1 h => lo84_round hM hF hp hps hE h) n h
theorem lo84_start {X : VS × Nat × Int} {tmps : Array Value} {Q : Exit → Act → World → Prop} (hM : ModOk M) (hF : FnOk fn) (hp : Vals params) (hps : params.size ≤ 4) (hB : SB w w1 vb mb fk fo M fn v) (hI : VI v) (hcn : v.ctl ≠ []) (hX : X = bodyVL M fn params fn.body 0 v)
    (ht : tmps = fr84 (.pointer (some ⟨vb, 0, none⟩)) (.pointer (some ⟨mb, 0, none⟩)) (.pointer (some ⟨fk, fo, none⟩)) (.string params) (fun i => tmps.getD i undef) (fun i => tmps.getD i undef)) (h10 : tmps.getD 10 undef = .int .i64 0) (hE : ∀ c, End84 w vb mb fk fo M fn params c X Q) :
    Code.wp Tryz.prog (.loop ((Tryz.f84.body.bind firstLoop).getD .skip)) Q ⟨tmps, []⟩ w1 :=
  lo84_loop hM hF hp hps (hE _) (n := fn.body.length) ⟨0, v, fun i => tmps.getD i undef, by rw [← ht], h10, by omega, hB, hI, hcn, hX⟩
set_option maxHeartbeats 8000000 in
theorem vbody_calls (h : SV w vb mb M v) (hf : FnC w (mb + 1) fk fo fn) (hF : FnOk fn) {t : Ty} (ht : M.typeAt fn.ty = some t) (htk : TyOk t) :
    Calls Tryz.prog 84 #[.pointer (some ⟨vb, 0, none⟩), .pointer (some ⟨mb, 0, none⟩), .pointer (some ⟨fk, fo, none⟩)] w (fun en w' => VC vb w (.tuple #[.int .i64 (bodyV M fn).2.1, .int .i64 (bodyV M fn).2.2]) (bodyV M fn).1 en w' ∧ VI (bodyV M fn).1) := by
  have hB0 : SB w w vb mb fk fo M fn v := ⟨h, hf, Kp.refl _ _⟩
  obtain ⟨X, hX⟩ : ∃ X, bodyV M fn = X := ⟨_, rfl⟩
  have HS : Hid (X = bodyVL M fn t.p fn.body 0 ⟨[], [⟨2, firstV t.q, 0, false⟩]⟩) := by
    show _ = _
    rw [← hX]
    unfold bodyV
    rw [ht]
  rw [hX]
  obtain ⟨ba, ta, c0, c1, c2, c3, bat, tat⟩ := hf.cells
  obtain ⟨tya, ia, fa, m0, _, _, tyat, _, _⟩ := h.md.lists
  obtain ⟨n, hn⟩ : ∃ n : Nat, fn.ty = n := by
    have := hF.ty
    unfold u32R at this
    exact ⟨fn.ty.toNat, by omega⟩
  rw [hn] at c0 ht
  have hnt : M.types[n]? = some t := by
    unfold Mod.typeAt at ht
    split at ht
    · simp at ht
    · simpa using ht
  have hlt := (List.getElem?_eq_some_iff.1 hnt).1
  obtain ⟨tk, rfl, ct⟩ := tyat n t hnt
  have HT : Hid _ := htk
  have HB0 : Hid _ := hB0
  have hq : firstV t.q < 256 := by
    unfold firstV
    split
    · decide
    · exact bAt_lt _ _
  obtain ⟨nt, hnt'⟩ : ∃ nt, M.types.length = nt := ⟨_, rfl⟩
  rw [hnt'] at hlt m0
  have i1 : (n : Int) < (nt : Int) := by omega
  have hvd := h.vd
  obtain ⟨b11, g11, b40, g40, _, _⟩ := hvd.n
  have hcell : ∀ i, i < 42 → (∃ z, w.cell? ⟨vb, i, none⟩ = some z) ∧ w.frozen? ⟨vb, i, none⟩ = false := fun i hi => by
    obtain ⟨F, h1, _⟩ := hvd.is
    exact ⟨⟨_, h1.cell hi⟩, h1.fz hi⟩
  obtain ⟨⟨z12, y12⟩, f12⟩ := hcell 12 (by decide)
  obtain ⟨⟨z13, y13⟩, f13⟩ := hcell 13 (by decide)
  obtain ⟨⟨z14, y14⟩, f14⟩ := hcell 14 (by decide)
  obtain ⟨⟨z15, y15⟩, f15⟩ := hcell 15 (by decide)
  have HO : Hid _ := h.ok
  have HF : Hid _ := hF
  clear tyat bat tat hX hn ht hnt hnt' h hf htk hB0 hcell hvd c1 c3 hF
  go_enter Tryz.func84, Tryz.ntmps84
  go_wp2
  go_step3
  go_wp2_with fail
  go_quiet ((go_at_call 86; exact Calls.quiet_of (split_quiet t HT.out.p HT.out.np HT.out.nq)))
  go_wp2_with fail
  go_region_with (go_at_call 147; refine (first_quiet t.q HT.out.nq).mono ?_; rintro en w2 ⟨rfl, rfl⟩)
  go_wp2_with fail
  have hB1 : SB w (((((((w.drewN nq).setCell ⟨vb, 11, none⟩ (.int .i64 0)).setCell ⟨vb, 12, none⟩ (.int .u8 2)).setCell ⟨vb, 13, none⟩ (.int .u8 (firstV t.q : Int))).setCell ⟨vb, 14, none⟩ (.int .i64 0)).setCell ⟨vb, 15, none⟩ (.bool false)).setCell ⟨vb, 40, none⟩ (.int .i64 1)).drew vb mb fk fo M fn ⟨[], [⟨2, firstV t.q, 0, false⟩]⟩ :=
    (HB0.out.step (((((((kself vb w).drewM nq).put _).put _).put _).put _).put _ |>.put _) ((HB0.out.sv.vd.drewM nq).begin (firstV t.q))).new (Kp.refl _ _).drew
  generalize ((((((w.drewN nq).setCell ⟨vb, 11, none⟩ (.int .i64 0)).setCell ⟨vb, 12, none⟩ (.int .u8 2)).setCell ⟨vb, 13, none⟩ (.int .u8 (firstV t.q : Int))).setCell ⟨vb, 14, none⟩ (.int .i64 0)).setCell ⟨vb, 15, none⟩ (.bool false)).setCell ⟨vb, 40, none⟩ (.int .i64 1) = w0 at *
  have HB1 : Hid _ := hB1
  clear hB1 HB0 b11 g11 b40 g40 f12 y12 f13 y13 f14 y14 f15 y15 m0 ct c0 c2
  go_step3
  go_wp2_with fail
  have hI1 : VI ⟨[], [⟨2, firstV t.q, 0, false⟩]⟩ := VI.start (by
    unfold firstV resOk
    split
    · exact .inl rfl
    · exact .inr (HT.out.q 0 (by omega)))
  have HI1 : Hid _ := hI1
  clear hI1 i1 hlt hq
  generalize w0.drew = w0 at *
  refine lo84_start HO.out HF.out HT.out.p HT.out.np HB1.out HI1.out (by simp) HS.out (by kernel_rfl) rfl ?_
  intro c
  refine ⟨?_, ?_⟩
  · intro tmps w' v' hX hI hB ht
    generalize (fun i => tmps.getD i undef) = u' at ht
    subst ht
    have HX : Hid _ := hX
    have HI : Hid _ := hI
    have HB : Hid _ := hB
    obtain ⟨ba, ta, c0, c1, c2, c3, bat, tat⟩ := hB.fn.cells
    clear hX hI hB bat tat c0 c1 c3 HB1 HI1 HS
    unfold fr84
    go_wp2
    rw [Exit.noGoto_ret]
    go_ret2
    rw [HX.out]
    exact ⟨⟨rfl, HB.out.sv.vd, HB.out.kp⟩, HI.out⟩
  · intro tmps w' v' p e hX hI h6 h7 hB
    simp only [Exit.inBlock, Exit.then]
    rw [Exit.noGoto_ret]
    go_ret2
    rw [hX]
    exact ⟨⟨by rw [h6, h7], hB.sv.vd, hB.kp⟩, hI⟩
end
end Go.Proofs.Qxb6500275aGreatDoor
