import Derived.Test.Qxb6500275aGreatDoorXp5
import Derived.Test.Qxb6500275aGreatDoorSy2
import Derived.Test.Qxb6500275aGreatDoorHo9
import Derived.Test.Qxb6500275aGreatDoorMe8
import Derived.Test.Qxb6500275aGreatDoorMe9
set_option linter.unusedVariables false
set_option linter.unusedSimpArgs false
namespace Go.Proofs.Qxb6500275aGreatDoor
open Go Go.RowKit
/- LINK AND INSTANTIATE, as plain functions -/
def bindL : Hm → List Imp → Nat → Option Nat × Hm
  | H, [], _ => (none, H)
  | H, x :: xs, i => if (bindS H x.name).1 = 0 then bindL (bindS H x.name).2 xs (i + 1) else (some i, (bindS H x.name).2)
def globL : Sm → List Glob → Nat → Sm
  | S, [], _ => S
  | S, g :: gs, i => globL { S with gl := S.gl.set i g.init.y } gs (i + 1)
def elemT (n : Nat) : List Elm → Nat → Option Nat
  | [], _ => none
  | e :: es, i => if (n : Int) < e.off.y + e.fns.length then some i else elemT n es (i + 1)
def dataT (n : Nat) : List Dat → Nat → Option Nat
  | [], _ => none
  | d :: ds, i => if d.off.y.toNat + d.bytes.size ≤ n then dataT n ds (i + 1) else some i
def fnsW : Sm → Nat → List Int → Nat → Sm
  | S, _, [], _ => S
  | S, a, f :: fs, j => fnsW (setElemS S ((a + j) % 4294967296) f).2 a fs (j + 1)
def elemL : Sm → List Elm → Sm
  | S, [] => S
  | S, e :: es => elemL (fnsW S e.off.y.toNat e.fns 0) es
def dataL : Sm → List Dat → Sm
  | S, [] => S
  | S, d :: ds => dataL (writeS S d.off.y.toNat d.bytes).2 ds
structure SR where
  i : Nat
  k : Nat
  e : Nat
  S : Sm
  H : Hm
def settle2 (M : Mod) (S : Sm) (H : Hm) : SR := match elemT S.tab.length M.elems 0 with
  | some i => ⟨i, 0, 31, S, H⟩
  | none => match dataT S.bs.length M.datas 0 with
    | some i => ⟨i, 1, 31, S, H⟩
    | none => ⟨0, 0, 0, dataL (elemL S M.elems) M.datas, H⟩
def settle1 (M : Mod) (S : Sm) (H : Hm) : SR := match resetS M.memMin M.memMax M.tabMin M.globals.length with
  | none => ⟨0, 0, 36, S, H⟩
  | some S1 => settle2 M (globL S1 M.globals 0) H
def settleS (M : Mod) (S : Sm) (H : Hm) : SR := match bindL H M.imports 0 with
  | (some i, H') => ⟨i, 0, 30, S, H'⟩
  | (none, H') => settle1 M S H'
/- what the validator says of the segments and of the start -/
structure SegOk (M : Mod) : Prop where
  elems : ∀ e, e ∈ M.elems → e.off.op = 65 ∧ ∀ f, f ∈ e.fns → f < ((M.imports.length + M.funcs.length : Nat) : Int)
  datas : ∀ d, d ∈ M.datas → d.off.op = 65
  start : M.start = -1 ∨ ∃ t, M.typeOf M.start = some t ∧ t.p.size = 0 ∧ t.q.size = 0
section
variable {M : Mod}
theorem elmsV_all : ∀ (l : List Elm) (i : Nat), elmsV M l i = none → ∀ e, e ∈ l → e.off.op = 65 ∧ ∀ f, f ∈ e.fns → f < ((M.imports.length + M.funcs.length : Nat) : Int)
  | [], i, h, e, he => by simp at he
  | x :: xs, i, h, e, he => by
    rw [elmsV] at h
    rcases iteC h with ⟨_, h⟩ | ⟨_, h⟩
    · simp at h
    rcases iteC h with ⟨_, h⟩ | ⟨h1, h⟩
    · simp at h
    rcases iteC h with ⟨_, h⟩ | ⟨h2, h⟩
    · simp at h
    rcases List.mem_cons.1 he with rfl | he
    · refine ⟨by omega, fun f hf => ?_⟩
      rw [Bool.not_eq_true, List.any_eq_false] at h2
      have := h2 f hf
      simp only [decide_eq_true_eq] at this
      omega
    · exact elmsV_all xs (i + 1) h e he
theorem datsV_all : ∀ (l : List Dat) (i : Nat), datsV M l i = none → ∀ e, e ∈ l → e.off.op = 65
  | [], i, h, e, he => by simp at he
  | x :: xs, i, h, e, he => by
    rw [datsV] at h
    rcases iteC h with ⟨_, h⟩ | ⟨_, h⟩
    · simp at h
    rcases iteC h with ⟨_, h⟩ | ⟨h1, h⟩
    · simp at h
    rcases List.mem_cons.1 he with rfl | he
    · omega
    · exact datsV_all xs (i + 1) h e he
theorem parts_segs (h : partsV M = none) : SegOk M := by
  unfold partsV at h
  split at h
  · simp at h
  rcases iteC h with ⟨_, h⟩ | ⟨_, h⟩
  · simp at h
  rcases iteC h with ⟨_, h⟩ | ⟨_, h⟩
  · simp at h
  split at h
  · simp at h
  split at h
  · simp at h
  split at h
  · simp at h
  rename_i hst
  split at h
  · simp at h
  rename_i hel
  refine ⟨elmsV_all _ _ hel, datsV_all _ _ h, ?_⟩
  unfold startV at hst
  rcases iteC hst with ⟨e, _⟩ | ⟨_, hst⟩
  · exact .inl e
  · split at hst
    · simp at hst
    · rename_i t ht
      rcases iteC hst with ⟨e, _⟩ | ⟨_, hst⟩
      · refine .inr ⟨t, ht, ?_⟩
        have := congrArg ByteArray.size e
        unfold Ty.text at this
        rw [ByteArray.size_append, ByteArray.size_append] at this
        have hc : colon.size = 1 := rfl
        omega
      · simp at hst
theorem valid_parts (h : (validV M).2.2 = 0) : partsV M = none := by
  unfold validV at h
  cases hp : partsV M with
  | some r =>
    obtain ⟨i, e⟩ := r
    rw [hp] at h
    exact absurd h (partsV_e hp)
  | none => rfl
/- what they keep -/
theorem bindL_ok : ∀ (l : List Imp) (H : Hm) (i : Nat), HmOk H → HmOk (bindL H l i).2
  | [], H, i, h => h
  | x :: xs, H, i, h => by
    rw [bindL]
    split
    · exact bindL_ok xs _ _ (bindS_ok h _)
    · exact bindS_ok h _
theorem bindS_len {H : Hm} {s : ByteArray} (h : (bindS H s).1 = 0) : (bindS H s).2.bd.length = H.bd.length + 1 := by
  unfold bindS at h ⊢
  split at h
  · simp at h
  rename_i h1
  rw [if_neg h1]
  split at h
  · simp at h
  rename_i h2
  rw [if_neg h2]
  split at h
  · simp at h
  · simp
theorem bindL_len : ∀ (l : List Imp) (H : Hm) (i : Nat), (bindL H l i).1 = none → (bindL H l i).2.bd.length = H.bd.length + l.length
  | [], H, i, h => rfl
  | x :: xs, H, i, h => by
    rw [bindL] at h ⊢
    split at h
    · rename_i h0
      rw [if_pos h0, bindL_len xs _ _ h, bindS_len h0, List.length_cons]
      omega
    · simp at h
theorem globL_ok (hM : ModOk M) : ∀ (l : List Glob) (S : Sm) (i : Nat), (∀ g, g ∈ l → g ∈ M.globals) → SmOk S → SmOk (globL S l i) ∧ (globL S l i).tab = S.tab
  | [], S, i, _, h => ⟨h, rfl⟩
  | g :: gs, S, i, hl, h => by
    rw [globL]
    have hy := (hM.globals g (hl g (by simp))).init.ok.y
    unfold u64R at hy
    have := globL_ok hM gs { S with gl := S.gl.set i g.init.y } (i + 1) (fun g hg => hl g (by simp [hg])) ⟨h.m, h.b, h.no, h.t, by simp; exact h.g.1, fun x hx => by
      rcases List.mem_or_eq_of_mem_set hx with h1 | h1
      · exact h.g.2 x h1
      · rw [h1]; exact hy⟩
    exact this
theorem setElemS_ok {S : Sm} (h : SmOk S) {n : Nat} (hn : n ≤ 12) (ht : ∀ x, x ∈ S.tab → x < (n : Int)) (i : Nat) {f : Int} (hf : f < (n : Int)) : SmOk (setElemS S i f).2 ∧ ∀ x, x ∈ (setElemS S i f).2.tab → x < (n : Int) := by
  unfold setElemS
  split
  · exact ⟨h, ht⟩
  split
  · exact ⟨h, ht⟩
  · refine ⟨⟨h.m, h.b, h.no, ⟨by simp; exact h.t.1, fun x hx => ?_⟩, h.g⟩, fun x hx => ?_⟩
    · rcases List.mem_or_eq_of_mem_set hx with h1 | h1
      · exact h.t.2 x h1
      · rw [h1]; omega
    · rcases List.mem_or_eq_of_mem_set hx with h1 | h1
      · exact ht x h1
      · rw [h1]; exact hf
theorem fnsW_ok {n : Nat} (hn : n ≤ 12) : ∀ (l : List Int) (S : Sm) (a j : Nat), SmOk S → (∀ x, x ∈ S.tab → x < (n : Int)) → (∀ f, f ∈ l → f < (n : Int)) → SmOk (fnsW S a l j) ∧ ∀ x, x ∈ (fnsW S a l j).tab → x < (n : Int)
  | [], S, a, j, h, ht, hl => ⟨h, ht⟩
  | f :: fs, S, a, j, h, ht, hl => by
    rw [fnsW]
    obtain ⟨h1, h2⟩ := setElemS_ok h hn ht ((a + j) % 4294967296) (hl f (by simp))
    exact fnsW_ok hn fs _ a (j + 1) h1 h2 (fun f hf => hl f (by simp [hf]))
theorem elemL_ok {n : Nat} (hn : n ≤ 12) : ∀ (l : List Elm) (S : Sm), SmOk S → (∀ x, x ∈ S.tab → x < (n : Int)) → (∀ e, e ∈ l → ∀ f, f ∈ e.fns → f < (n : Int)) → SmOk (elemL S l) ∧ ∀ x, x ∈ (elemL S l).tab → x < (n : Int)
  | [], S, h, ht, hl => ⟨h, ht⟩
  | e :: es, S, h, ht, hl => by
    rw [elemL]
    obtain ⟨h1, h2⟩ := fnsW_ok hn e.fns S e.off.y.toNat 0 h ht (hl e (by simp))
    exact elemL_ok hn es _ h1 h2 (fun e he => hl e (by simp [he]))
theorem writeS_tab (S : Sm) (i : Nat) (t : ByteArray) : (writeS S i t).2.tab = S.tab := by
  unfold writeS
  split
  · rfl
  split <;> rfl
theorem dataL_ok : ∀ (l : List Dat) (S : Sm), SmOk S → SmOk (dataL S l) ∧ (dataL S l).tab = S.tab
  | [], S, h => ⟨h, rfl⟩
  | d :: ds, S, h => by
    rw [dataL]
    obtain ⟨h1, h2⟩ := dataL_ok ds _ (writeS_ok h d.off.y.toNat d.bytes)
    exact ⟨h1, by rw [h2, writeS_tab]⟩
theorem resetS_tab {mm mx tm : Int} {ng : Nat} {S : Sm} (h : resetS mm mx tm ng = some S) (x : Int) (hx : x ∈ S.tab) : x = -1 := by
  unfold resetS at h
  split at h
  · simp at h
  split at h
  · simp at h
  split at h
  · simp at h
  split at h
  · simp at h
  simp only [Option.some.injEq] at h
  subst h
  exact List.eq_of_mem_replicate hx
/- settle, whole -/
structure SRok (M : Mod) (r : SR) : Prop where
  sm : SmOk r.S
  hm : HmOk r.H
  tab : ∀ x, x ∈ r.S.tab → x < ((M.imports.length + M.funcs.length : Nat) : Int)
  bd : r.H.bd.length = M.imports.length
theorem settle2_ok (hM : ModOk M) (hG : SegOk M) {S : Sm} {H : Hm} (hS : SmOk S) (hH : HmOk H) (ht : ∀ x, x ∈ S.tab → x = -1) (hb : H.bd.length = M.imports.length) : SRok M (settle2 M S H) := by
  have hn : M.imports.length + M.funcs.length ≤ 12 := by have := hM.ni; have := hM.nf; omega
  have ht' : ∀ x, x ∈ S.tab → x < ((M.imports.length + M.funcs.length : Nat) : Int) := fun x hx => by rw [ht x hx]; omega
  unfold settle2
  split
  · exact ⟨hS, hH, ht', hb⟩
  split
  · exact ⟨hS, hH, ht', hb⟩
  · obtain ⟨h1, h2⟩ := elemL_ok hn M.elems S hS ht' (fun e he => (hG.elems e he).2)
    obtain ⟨h3, h4⟩ := dataL_ok M.datas _ h1
    exact ⟨h3, hH, by dsimp only; rw [h4]; exact h2, hb⟩
theorem settleS_hm (hM : ModOk M) (S : Sm) {H : Hm} (hH : HmOk H) : HmOk (settleS M S H).H := by
  have h := bindL_ok M.imports H 0 hH
  unfold settleS
  split
  · rename_i i H' e
    rw [e] at h
    exact h
  · rename_i H' e
    rw [e] at h
    unfold settle1
    split
    · exact h
    · unfold settle2
      split
      · exact h
      split <;> exact h
theorem settleS_sm (hM : ModOk M) (hG : SegOk M) {S : Sm} {H : Hm} (hS : SmOk S) : SmOk (settleS M S H).S := by
  unfold settleS
  split
  · exact hS
  · unfold settle1
    split
    · exact hS
    · rename_i S1 e
      obtain ⟨h1, h2⟩ := globL_ok hM M.globals S1 0 (fun g hg => hg) (resetS_ok hM.ng e)
      unfold settle2
      split
      · exact h1
      split
      · exact h1
      · have hn : M.imports.length + M.funcs.length ≤ 12 := by have := hM.ni; have := hM.nf; omega
        exact (dataL_ok M.datas _ (elemL_ok hn M.elems _ h1 (fun x hx => by rw [h2] at hx; rw [resetS_tab e x hx]; omega) (fun e he => (hG.elems e he).2)).1).1
theorem settleS_ok (hM : ModOk M) (hG : SegOk M) {S : Sm} {H : Hm} (hH : HmOk H) (hb : H.bd = []) (he : (settleS M S H).e = 0) : SRok M (settleS M S H) := by
  have h := bindL_ok M.imports H 0 hH
  have h2 := bindL_len M.imports H 0
  unfold settleS at he ⊢
  split
  · rename_i i H' e
    rw [e] at he
    simp at he
  · rename_i H' e
    rw [e] at h h2 he
    have h2 := h2 rfl
    rw [hb] at h2
    dsimp only at h2 he
    unfold settle1 at he ⊢
    split
    · rename_i e1
      rw [e1] at he
      simp at he
    · rename_i S1 e1
      obtain ⟨h3, h4⟩ := globL_ok hM M.globals S1 0 (fun g hg => hg) (resetS_ok hM.ng e1)
      exact settle2_ok hM hG h3 h (fun x hx => by rw [h4] at hx; exact resetS_tab e1 x hx) (by rw [h2]; simp)
/- the old store does not show -/
theorem settleS_new (M : Mod) (S S' : Sm) (H : Hm) : (settleS M S H).i = (settleS M S' H).i ∧ (settleS M S H).k = (settleS M S' H).k ∧ (settleS M S H).e = (settleS M S' H).e ∧ (settleS M S H).H = (settleS M S' H).H ∧ ((settleS M S H).e = 0 → (settleS M S H).S = (settleS M S' H).S) := by
  unfold settleS
  split
  · exact ⟨rfl, rfl, rfl, rfl, fun e => by simp at e⟩
  · unfold settle1
    split
    · exact ⟨rfl, rfl, rfl, rfl, fun e => by simp at e⟩
    · exact ⟨rfl, rfl, rfl, rfl, fun _ => rfl⟩
theorem settleS_e (M : Mod) (S : Sm) (H : Hm) : (settleS M S H).e = 0 ∨ (settleS M S H).e = 30 ∨ (settleS M S H).e = 31 ∨ (settleS M S H).e = 36 := by
  unfold settleS
  split
  · exact .inr (.inl rfl)
  · unfold settle1
    split
    · exact .inr (.inr (.inr rfl))
    · unfold settle2
      split
      · exact .inr (.inr (.inl rfl))
      split
      · exact .inr (.inr (.inl rfl))
      · exact .inl rfl
end
end Go.Proofs.Qxb6500275aGreatDoor
