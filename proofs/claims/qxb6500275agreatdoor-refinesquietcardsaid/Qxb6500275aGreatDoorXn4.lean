import Derived.Test.Qxb6500275aGreatDoorXn3
import Derived.Test.Qxb6500275aGreatDoorIc
set_option maxRecDepth 100000
set_option linter.unusedVariables false
set_option linter.unusedSimpArgs false
namespace Go.Proofs.Qxb6500275aGreatDoor
open Go Go.RowKit
set_option maxHeartbeats 8000000 in
theorem match_m {w : World} {vb : Value} {body : List Ins} (h : OR w 129 3 vb body.length (insC body)) (hn : body.length ≤ 96) (hop : ∀ x, x ∈ body → x.op < 256) (i : Nat) (hi : i < body.length) : Calls Tryz.prog 259 #[vb, .int .i64 (i : Int)] w (fun en w' => en = .returned (.tuple #[.int .i64 ((matchL (body.drop (i + 1)) (i + 1) 0 (-1)).1 : Int), .int .i64 (matchL (body.drop (i + 1)) (i + 1) 0 (-1)).2]) ∧ w' = w) := by
  obtain ⟨X, hX⟩ : ∃ X, matchL (body.drop (i + 1)) (i + 1) 0 (-1) = X := ⟨_, rfl⟩
  rw [hX]
  have HX : Hid (matchL (body.drop (i + 1)) (i + 1) 0 (-1) = X) := hX
  clear hX
  obtain ⟨g, cap, hv, h1, h2, h3, h4, h5⟩ := h.ptr (by omega)
  obtain ⟨n, hnl⟩ : ∃ n, body.length = n := ⟨_, rfl⟩
  rw [hnl] at hv hn hi h2
  have HC : Hid (∀ j x, body[j]? = some x → w.cell? ⟨g, j * 3, none⟩ = some (.int .u8 (x.op : Int))) := fun j x hx => h4 _ _ (insC_at hx).1
  have HN : Hid _ := hnl
  have HO : Hid _ := hop
  rw [hv]
  clear hv h4 h5 hnl hop h
  go_enter Tryz.func259, Tryz.ntmps259
  go_wp2
  go_loopw [6, 7, 8] (fun dd ee jj w1 => ∃ (j d : Nat) (e : Int), w1 = w ∧ i + 1 ≤ j ∧ j ≤ n ∧ d ≤ j ∧ (-1 ≤ e ∧ e ≤ 1000) ∧ dd = .int .i64 d ∧ ee = .int .i64 e ∧ jj = .int .i64 j ∧ Hid (matchL (body.drop j) j d e = X)) (fun _ _ jj _ => n + 1 - (intOf jj).toNat)
  case atStart => exact ⟨i + 1, 0, -1, rfl, by omega, by omega, by omega, by omega, rfl, rfl, by go_num, HX⟩
  case round =>
    obtain ⟨j, d, e, e0, hj1, hj2, hd, he, rfl, rfl, rfl, HM⟩ := hrel
    subst e0
    by_cases hlt : j < n
    · obtain ⟨x, hx⟩ : ∃ x, body[j]? = some x := ⟨_, List.getElem?_eq_getElem (by rw [HN.out]; exact hlt)⟩
      have hdr : body.drop j = x :: body.drop (j + 1) := by
        have := List.getElem?_eq_some_iff.1 hx
        rw [List.drop_eq_getElem_cons this.1, this.2]
      have hxo := HO.out x (List.mem_of_getElem? hx)
      have c0 := HC.out j x hx
      rw [hdr, matchL] at HM
      have hlti : (j : Int) < (n : Int) := by omega
      clear hx hdr
      obtain ⟨op, hopx⟩ : ∃ op, x.op = op := ⟨_, rfl⟩
      rw [hopx] at c0 HM hxo
      clear hopx
      by_cases o2 : op = 2
      · subst o2
        rw [if_pos (by omega)] at HM
        go_wp2
        exact ⟨⟨j + 1, d + 1, e, by trivial, by omega, by omega, by omega, he, by go_num, rfl, by go_num, HM⟩, by simp [intOf]; omega⟩
      by_cases o3 : op = 3
      · subst o3
        rw [if_pos (by omega)] at HM
        go_wp2
        exact ⟨⟨j + 1, d + 1, e, by trivial, by omega, by omega, by omega, he, by go_num, rfl, by go_num, HM⟩, by simp [intOf]; omega⟩
      by_cases o4 : op = 4
      · subst o4
        rw [if_pos (by omega)] at HM
        go_wp2
        exact ⟨⟨j + 1, d + 1, e, by trivial, by omega, by omega, by omega, he, by go_num, rfl, by go_num, HM⟩, by simp [intOf]; omega⟩
      rw [if_neg (by omega)] at HM
      by_cases o5 : op = 5
      · subst o5
        rw [if_pos rfl] at HM
        by_cases d0 : d = 0
        · subst d0
          rw [if_pos rfl] at HM
          go_wp2
          exact ⟨⟨j + 1, 0, (j : Int), by trivial, by omega, by omega, by omega, by omega, rfl, rfl, by go_num, HM⟩, by simp [intOf]; omega⟩
        · rw [if_neg d0] at HM
          have hdb : ((d : Int) == 0) = false := by rw [beq_eq_false_iff_ne]; omega
          go_wp2
          exact ⟨⟨j + 1, d, e, by trivial, by omega, by omega, by omega, he, rfl, rfl, by go_num, HM⟩, by simp [intOf]; omega⟩
      rw [if_neg o5] at HM
      have q2 : ((op : Int) == 2) = false := by rw [beq_eq_false_iff_ne]; omega
      have q3 : ((op : Int) == 3) = false := by rw [beq_eq_false_iff_ne]; omega
      have q4 : ((op : Int) == 4) = false := by rw [beq_eq_false_iff_ne]; omega
      have q5 : ((op : Int) == 5) = false := by rw [beq_eq_false_iff_ne]; omega
      by_cases o11 : op = 11
      · subst o11
        rw [if_pos rfl] at HM
        by_cases d0 : d = 0
        · subst d0
          rw [if_pos rfl] at HM
          go_wp2
          go_ret2
          rw [← HM.out]
          exact ⟨rfl, rfl⟩
        · rw [if_neg d0] at HM
          have hdb : ((d : Int) == 0) = false := by rw [beq_eq_false_iff_ne]; omega
          have hd1 : (d : Int) - 1 = ((d - 1 : Nat) : Int) := by omega
          go_wp2
          exact ⟨⟨j + 1, d - 1, e, by trivial, by omega, by omega, by omega, he, by rw [← hd1], rfl, by go_num, HM⟩, by simp [intOf]; omega⟩
      · rw [if_neg o11] at HM
        have q11 : ((op : Int) == 11) = false := by rw [beq_eq_false_iff_ne]; omega
        go_wp2
        exact ⟨⟨j + 1, d, e, by trivial, by omega, by omega, by omega, he, rfl, rfl, by go_num, HM⟩, by simp [intOf]; omega⟩
    · have hlti : ¬ (j : Int) < (n : Int) := by omega
      have hjn : j = n := by omega
      have hdn : body.drop j = [] := List.drop_eq_nil_of_le (by rw [HN.out]; omega)
      rw [hdn, matchL] at HM
      go_wp2
      go_ret2
      rw [← HM.out, hjn]
      exact ⟨rfl, rfl⟩
end Go.Proofs.Qxb6500275aGreatDoor
