import Derived.Test.Qxb6500275aGreatDoorVn1
import Derived.Test.Qxb6500275aGreatDoorVn2
import Derived.Test.Qxb6500275aGreatDoorVn3
import Derived.Test.Qxb6500275aGreatDoorVn4
import Derived.Test.Qxb6500275aGreatDoorVn5
import Derived.Test.Qxb6500275aGreatDoorVn6
import Derived.Test.Qxb6500275aGreatDoorVn7
import Derived.Test.Qxb6500275aGreatDoorVn8
import Derived.Test.Qxb6500275aGreatDoorVn9
import Derived.Test.Qxb6500275aGreatDoorVnc
import Derived.Test.Qxb6500275aGreatDoorVnf
import Derived.Test.Qxb6500275aGreatDoorVng
import Derived.Test.Qxb6500275aGreatDoorVnh
import Derived.Test.Qxb6500275aGreatDoorCtl
set_option maxRecDepth 1000000
set_option linter.unusedVariables false
set_option linter.unusedSimpArgs false
namespace Go.Proofs.Qxb6500275aGreatDoor
open Go Go.RowKit
section
variable {E : Env189} {pc : Nat} {st : ByteArray} {p : Bool} {x : Ins}
theorem c189_blk4 (ho : x.op = 4) (hIH : ∀ E' : Env189, E'.lev < E.lev → SeqOk E') : Case189 E pc st p x := by
  by_cases h : (btT x.x).size = 0
  · exact c189_if0 ho h hIH
  · exact c189_if1 ho h hIH
theorem case189 (hX : InsOk x) (hIH : ∀ E' : Env189, E'.lev < E.lev → SeqOk E') : Case189 E pc st p x := by
  have h := hX.op
  unfold opOk at h
  by_cases h1 : x.op < 40
  · rcases (by omega : x.op = 0 ∨ x.op = 1 ∨ x.op = 2 ∨ x.op = 3 ∨ x.op = 4 ∨ x.op = 5 ∨ x.op = 11 ∨ x.op = 12 ∨ x.op = 13 ∨ x.op = 14 ∨ x.op = 15 ∨ x.op = 16 ∨ x.op = 17 ∨ x.op = 26 ∨ x.op = 27 ∨ x.op = 32 ∨ x.op = 33 ∨ x.op = 34 ∨ x.op = 35 ∨ x.op = 36) with h | h | h | h | h | h | h | h | h | h | h | h | h | h | h | h | h | h | h | h
    · exact c189_unr h
    · exact c189_nop h
    · exact c189_blk2 h hIH
    · exact c189_blk3 h hIH
    · exact c189_blk4 h hIH
    · exact c189_shut5 h
    · exact c189_shut11 h
    · exact c189_br h
    · exact c189_bif h
    · exact c189_tab h
    · exact c189_ret h
    · exact c189_call h
    · exact c189_ind h
    · exact c189_drop h
    · exact c189_sel h
    · exact c189_loc32 h
    · exact c189_loc33 h
    · exact c189_loc34 h
    · exact c189_glob35 h
    · exact c189_glob36 h
  · by_cases h2 : x.op ≤ 53
    · exact c189_ld (by omega)
    · by_cases h3 : x.op ≤ 62
      · exact c189_st (by omega)
      · by_cases h4 : x.op < 69
        · rcases (by omega : x.op = 63 ∨ x.op = 64 ∨ x.op = 65 ∨ x.op = 66 ∨ x.op = 67 ∨ x.op = 68) with h | h | h | h | h | h
          · exact c189_m63 h
          · exact c189_m64 h
          · exact c189_k65 h
          · exact c189_k66 h
          · exact c189_k67 h
          · exact c189_k68 h
        · exact c189_num (by omega)
/- at the loop's head -/
structure Lo189 (E : Env189) (pc0 : Nat) (c : Nat → Value) (n : Nat) (ac : Act) (w1 : World) : Prop where
  is : ∃ (u : Nat → Value) (pc a : Nat), ac = ⟨E.fr c u, []⟩ ∧ u 1 = .int .i64 (pc : Int) ∧
    ((∃ er, E.sq w1 er a ∧ er ≠ 0 ∧ E.X.2 = (a, er) ∧ n = 0) ∨ (∃ st p, u 14 = .string st ∧ u 15 = .bool p ∧ E.sq w1 0 a ∧ E.rest.length + st.size ≤ 10 ∧ E.run pc st p ∧ pc0 ≤ pc ∧ n = E.fn.body.length + 1 - pc))
def End189 (E : Env189) (pc0 : Nat) (c : Nat → Value) (Q : Exit → Act → World → Prop) : Prop :=
  (∀ tmps w' (pc' : Nat) er a', tmps = E.fr c (fun i => tmps.getD i undef) → tmps.getD 1 undef = .int .i64 (pc' : Int) → E.sq w' er a' → er ≠ 0 → E.X.2 = (a', er) → Q (.exit 0) ⟨tmps, []⟩ w') ∧ Home189 E pc0 Q
theorem Ans189.mono {pc0 pc' cl : Nat} {er : Int} {a : Nat} (h : Ans189 E pc pc' cl er a) (hp : pc0 ≤ pc) : Ans189 E pc0 pc' cl er a := by
  rcases h with h | ⟨h1, q, st, p, x, h2, h3, h4⟩
  · exact .inl h
  · exact .inr ⟨h1, q, st, p, x, h2, Nat.le_trans hp h3, h4⟩
set_option maxHeartbeats 8000000 in
theorem lo189_round {pc0 : Nat} {c : Nat → Value} {n : Nat} {ac : Act} {w1 : World} {Q : Exit → Act → World → Prop} (hO : Ok189 E) (hIH : ∀ E' : Env189, E'.lev < E.lev → SeqOk E') (hE : End189 E pc0 c Q) (h : Lo189 E pc0 c n ac w1) :
    Code.wp Tryz.prog ((Tryz.f189.body.bind fstLoop).getD .skip) (Exit.then (fun a' w' => ∃ m', m' < n ∧ Lo189 E pc0 c m' a' w') Q) ac w1 := by
  obtain ⟨u, pc, a, rfl, hu1, h⟩ := h.is
  rcases h with ⟨er, hS, he, hX, hn⟩ | ⟨st, p, hu14, hu15, hS, hsz, hrun, hp0, hn⟩
  · have c4 := hS.ck.c4
    have heb : (er == 0) = false := by rw [beq_eq_false_iff_ne]; exact he
    have HE : Hid (End189 E pc0 c Q) := hE
    have HS : Hid _ := hS
    have HX : Hid _ := hX
    have HER : Hid (er ≠ 0) := he
    clear hE hS hX he hn hIH hO
    unfold Env189.fr fr189
    rw [hu1]
    conv => arg 2; whnf
    go_wp2
    exact HE.out.1 _ _ pc er a (by kernel_rfl) rfl HS.out HER.out HX.out
  · cases hx : E.fn.body[pc]? with
    | some x =>
      have hlt := (List.getElem?_eq_some_iff.1 hx).1
      refine case189 (hO.fnk.body x (List.mem_of_getElem? hx)) hIH w1 a c u _ hO hS hx hu1 hu14 hu15 hsz hrun ?_ ?_ ?_
      · intro tmps w' pc' st' p' a' ht h1 h14 h15 hS' hlt' hsz' hr'
        exact ⟨E.fn.body.length + 1 - pc', by omega, ⟨fun i => tmps.getD i undef, pc', a', by rw [← ht], h1, .inr ⟨st', p', h14, h15, hS', hsz', hr', by omega, rfl⟩⟩⟩
      · intro tmps w' pc' er a' ht h1 hS' he hX'
        exact ⟨0, by omega, ⟨fun i => tmps.getD i undef, pc', a', by rw [← ht], h1, .inl ⟨er, hS', he, hX', rfl⟩⟩⟩
      · intro tmps w' pc' cl er a' h12 h13 hS' hAn
        exact hE.2 tmps w' pc' cl er a' h12 h13 hS' (hAn.mono hp0)
    | none =>
      have hge : E.fn.body.length ≤ pc := List.getElem?_eq_none_iff.1 hx
      have hpc : pc = E.fn.body.length := by have := hrun.le; omega
      have hX : E.X.2 = (pc, 11) := by
        have := hrun.eq
        rw [List.drop_of_length_le hge, bodyVL] at this
        rw [← this, hpc]
      obtain ⟨ba, bc, hbv⟩ := hS.fr.bo.slice
      have f2 := hS.fr.c2
      rw [hbv] at f2
      have c1 := hS.ck.c1
      have c4 := hS.ck.c4
      obtain ⟨nb, hnb⟩ : ∃ n, E.fn.body.length = n := ⟨_, rfl⟩
      have hnb2 : nb ≤ 96 := by rw [← hnb]; exact hO.fnk.nb.2
      rw [hnb] at f2 hpc
      subst hpc
      have HV := vfail_m hS.ck 11 pc
      have HE : Hid (End189 E pc0 c Q) := hE
      have HS : Hid _ := hS
      have HX : Hid _ := hX
      clear hE hS hX hn hIH hO hx hge hrun hbv hnb hsz
      unfold Env189.fr fr189
      rw [hu1]
      conv => arg 2; whnf
      go_wp2_with fail
      refine HV.mono ?_
      rintro en wV ⟨rfl, hCV, hKV⟩
      have HSV : Hid _ := HS.out.err hKV hCV
      clear hCV hKV
      go_wp2
      exact HE.out.2 _ _ pc 0 11 pc rfl rfl HSV.out (.inl ⟨by decide, HX.out⟩)
theorem lo189_loop {pc0 : Nat} {c : Nat → Value} {n : Nat} {ac : Act} {w1 : World} {Q : Exit → Act → World → Prop} (hO : Ok189 E) (hIH : ∀ E' : Env189, E'.lev < E.lev → SeqOk E') (hE : End189 E pc0 c Q) (h : Lo189 E pc0 c n ac w1) :
    Code.wp Tryz.prog (.loop ((Tryz.f189.body.bind fstLoop).getD .skip)) Q ac w1 :=
  wp_loop_n (fun n a w1 => Lo189 E pc0 c n a w1) (fun n a w1 h => lo189_round hO hIH hE h) n h
theorem lo189_start {tmps : Array Value} {a : Nat} {Q : Exit → Act → World → Prop} (hO : Ok189 E) (hIH : ∀ E' : Env189, E'.lev < E.lev → SeqOk E') (hS : E.sq E.w 0 a) (hr : E.run pc ByteArray.empty false)
    (ht : tmps = E.fr (fun i => tmps.getD i undef) (fun i => tmps.getD i undef)) (h1 : tmps.getD 1 undef = .int .i64 (pc : Int)) (h14 : tmps.getD 14 undef = .string ByteArray.empty) (h15 : tmps.getD 15 undef = .bool false) (hE : ∀ c, End189 E pc c Q) :
    Code.wp Tryz.prog (.loop ((Tryz.f189.body.bind fstLoop).getD .skip)) Q ⟨tmps, []⟩ E.w :=
  lo189_loop hO hIH (hE _) (n := E.fn.body.length + 1 - pc) ⟨fun i => tmps.getD i undef, pc, a, by rw [← ht], h1, .inr ⟨ByteArray.empty, false, h14, h15, hS, by have := hO.rest; exact this, hr, Nat.le_refl _, rfl⟩⟩
set_option maxHeartbeats 8000000 in
theorem seq_one (hIH : ∀ E' : Env189, E'.lev < E.lev → SeqOk E') : SeqOk E := by
  intro pc a hO hS hpc hr
  have HO : Hid _ := hO
  have HS : Hid _ := hS
  have HR : Hid (E.run pc ByteArray.empty false) := hr
  have HI : Hid (∀ E' : Env189, E'.lev < E.lev → SeqOk E') := hIH
  clear hO hS hr hIH hpc
  go_enter Tryz.func189, Tryz.ntmps189
  go_wp2
  refine lo189_start HO.out HI.out HS.out HR.out (by kernel_rfl) rfl rfl rfl ?_
  intro c
  refine ⟨?_, ?_⟩
  · intro tmps w' pc' er a' ht h1 hS' he hX
    generalize (fun i => tmps.getD i undef) = u' at ht
    subst ht
    have hu1 : u' 1 = .int .i64 (pc' : Int) := h1
    have HX : Hid (E.X.2 = (a', er)) := hX
    have HS2 : Hid (E.sq w' er a') := hS'
    have HE2 : Hid (er ≠ 0) := he
    clear hX hS' he h1 HS HR HI
    unfold Env189.fr fr189
    rw [hu1]
    go_wp2
    go_ret2
    exact ⟨pc', 0, er, a', rfl, HS2.out, .inl ⟨HE2.out, HX.out⟩⟩
  · intro tmps w' pc' cl er a' h12 h13 hS' hAn
    simp only [Exit.inBlock, Exit.then]
    go_ret2
    exact ⟨pc', cl, er, a', by rw [h12, h13], hS', hAn⟩
theorem seq_m : ∀ (n : Nat) (E : Env189), E.lev ≤ n → SeqOk E
  | 0, E, h => fun pc a hO => absurd hO.lev.2 (by omega)
  | n + 1, E, h => seq_one (fun E' hE' => seq_m n E' (by omega))
end
end Go.Proofs.Qxb6500275aGreatDoor
