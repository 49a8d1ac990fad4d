import Derived.Test.Qxb6500275aGreatDoorHs2
import Derived.Test.Qxb6500275aGreatDoorMeb
import Derived.Test.Qxb6500275aGreatDoorMc2
set_option maxRecDepth 100000
set_option linter.unusedVariables false
set_option linter.unusedSimpArgs false
namespace Go.Proofs.Qxb6500275aGreatDoor
open Go Go.RowKit
/- the machine, spelt -/
def headM (m : Option Xt) : ByteArray := match m with
  | none => ⟨#[45]⟩
  | some x => showS x.S
def showM (st : Ma) : ByteArray := (headM st.m ++ ⟨#[32]⟩) ++ showH st.H
theorem ba_sizeS (l : List UInt8) : (⟨⟨l⟩⟩ : ByteArray).size = l.length := rfl
theorem globB_size : ∀ (l : List Int) (t : ByteArray), (globB l t).size = t.size + 17 * l.length
  | [], t => rfl
  | x :: xs, t => by
    rw [globB, globB_size xs, ByteArray.size_append, ByteArray.size_append, List.length_cons]
    have : (⟨#[32]⟩ : ByteArray).size = 1 := rfl
    have e : (⟨⟨hexL x.toNat 16⟩⟩ : ByteArray).size = 16 := hexL_length _ _
    omega
theorem tabB_size : ∀ (l : List Int) (t : ByteArray), (tabB l t).size ≤ t.size + 3 * l.length
  | [], t => Nat.le_refl _
  | x :: xs, t => by
    rw [tabB]
    have h := tabB_size xs (t ++ (⟨#[32]⟩ ++ ⟨⟨itoaS x⟩⟩))
    rw [ByteArray.size_append, ByteArray.size_append] at h
    have : (⟨#[32]⟩ : ByteArray).size = 1 := rfl
    have e : (⟨⟨itoaS x⟩⟩ : ByteArray).size = (itoaS x).length := rfl
    have := itoaS_len x
    rw [List.length_cons]
    omega
theorem showS_size {S : Sm} (h : SmOk S) : (showS S).size ≤ 5000 := by
  unfold showS
  rw [globB_size, ByteArray.size_append]
  have h1 := tabB_size S.tab (memB S ++ ⟨#[32, 116, 97, 98]⟩)
  rw [ByteArray.size_append] at h1
  have h2 : (memB S).size ≤ 1000 := by
    unfold memB
    split
    · rw [ByteArray.size_append, ByteArray.size_append, ByteArray.size_append]
      have e3 : (⟨⟨itoaS ((S.cap / 64 : Nat) : Int)⟩⟩ : ByteArray).size = (itoaS ((S.cap / 64 : Nat) : Int)).length := rfl
      have e4 : (⟨⟨hexSB ⟨⟨S.bs.map UInt8.ofNat⟩⟩ S.bs.length⟩⟩ : ByteArray).size = (hexSB ⟨⟨S.bs.map UInt8.ofNat⟩⟩ S.bs.length).length := rfl
      have h3 := hexSB_len (⟨⟨S.bs.map UInt8.ofNat⟩⟩ : ByteArray) S.bs.length (by rw [ba_sizeS (S.bs.map UInt8.ofNat), List.length_map]; exact Nat.le_refl _)
      have h4 := itoaS_len ((S.cap / 64 : Nat) : Int)
      have h5 := h.m
      have e1 : (⟨#[109, 101, 109, 32]⟩ : ByteArray).size = 4 := rfl
      have e2 : (⟨#[32]⟩ : ByteArray).size = 1 := rfl
      omega
    · decide
  have e1 : (⟨#[32, 116, 97, 98]⟩ : ByteArray).size = 4 := rfl
  have e2 : (⟨#[32, 103, 108, 111, 98]⟩ : ByteArray).size = 5 := rfl
  have h6 := h.t.1
  have h7 := h.g.1
  omega
theorem showH_size {H : Hm} (h : HmOk H) : (showH H).size ≤ 5000 := by
  unfold showH
  rw [ba_sizeS (showHB H)]
  unfold showHB
  have h1 := shD_len (H := H)
  rw [B8_len] at h1
  rw [List.length_append, List.length_map, h1]
  have h2 := h.bd.1
  have h3 := h.tp.1
  have h4 := h.tr.1
  have h5 := h.rows
  omega
section
variable {num : NumF} {w w' : World} {X : Mx} {O : Nat → Prop} {st : Ma}
set_option maxHeartbeats 4000000 in
theorem xshow_calls (h : Mach num w X O st) : Calls Tryz.prog 16 #[.pointer (some ⟨X.xb, 0, none⟩)] w (fun en w' => en = .returned (.string (showM st)) ∧ Kp (fun _ => False) w w') := by
  obtain ⟨T, V, S, hx, hT, hS, hno, hyes⟩ := h.is
  obtain ⟨F, x1, x2⟩ := hx.x
  have c3 := x1.cell (i := 3) (by decide)
  have c4 := x1.cell (i := 4) (by decide)
  have c5 := x1.cell (i := 5) (by decide)
  rw [x2.f3] at c3
  rw [x2.f4] at c4
  rw [x2.f5] at c5
  have hsz2 := showH_size h.good.hm
  have HX : Hid _ := hx
  have HG : Hid _ := h.good.hm
  obtain ⟨sm, hsm⟩ : ∃ sm, st.m = sm := ⟨_, rfl⟩
  rw [hsm] at hno hyes
  unfold showM
  rw [hsm]
  cases sm with
  | none =>
    rw [hno rfl] at c5
    unfold Vm.none at c5
    dsimp only at c5
    have hcal := hshow_calls hx.hw h.good.hm
    unfold headM
    dsimp only
    clear h hx hT hS hno hyes x1 x2 hsm c3
    generalize showH st.H = sh at hcal hsz2 ⊢
    have e1 : (⟨#[45]⟩ : ByteArray).size = 1 := rfl
    have hs2 : ¬ 9223372036854775807 < 1 + 1 + sh.size := by omega
    have hs3 : ¬ 9223372036854775807 < 2 + sh.size := by omega
    go_enter Tryz.func16, Tryz.ntmps16
    go_wp2_with fail
    refine hcal.mono ?_
    rintro en w2 ⟨rfl, k2⟩
    go_wp2_with fail
    refine bodyPost_ret (v := .string ((⟨#[45]⟩ ++ ⟨#[32]⟩) ++ sh)) (by simp [results, Tryz.results16, go_sem]) rfl ?_
    exact ⟨rfl, k2⟩
  | some x =>
    obtain ⟨hSx, w0, lo, mb, kc, hlo, hlw, hmp, hk0, hown⟩ := hyes x rfl
    rw [hmp.v5] at c5
    obtain ⟨hgc, henv⟩ := h.good.md x hsm
    subst hSx
    have hsz1 := showS_size hS
    have hcal := mshow_calls hx.mm hS (fun z hz => by
      have := henv.tab z hz
      have := hgc.ok.mod.ni
      have := hgc.ok.mod.nf
      omega)
    unfold headM
    dsimp only
    clear h hT hS hno hyes x1 x2 hsm hmp hk0 hown hgc henv hx
    generalize showS x.S = ss at hcal hsz1 ⊢
    generalize hsh : showH st.H = sh at hsz2 ⊢
    have hs1 : ¬ 9223372036854775807 < ss.size + 1 := by omega
    have hs2 : ¬ 9223372036854775807 < ss.size + 1 + sh.size := by omega
    have HSH : Hid _ := hsh
    clear hsh
    go_enter Tryz.func16, Tryz.ntmps16
    go_wp2_with fail
    refine hcal.mono ?_
    rintro en w2 ⟨rfl, k2⟩
    have c4' : w2.cell? ⟨X.xb, 4, none⟩ = some (.pointer (some ⟨X.hb, 0, none⟩)) := by rw [k2.cell (p := ⟨X.xb, 4, none⟩) (lt_of_cell c4) (fun h => h)]; exact c4
    have hcal2 := hshow_calls (HX.out.hw.keep k2 (fun h => h) (fun h => h) (fun h => h) (fun _ _ h => h)) HG.out
    rw [HSH.out] at hcal2
    go_wp2_with fail
    refine hcal2.mono ?_
    rintro en w3 ⟨rfl, k3⟩
    go_wp2_with fail
    refine bodyPost_ret (v := .string ((ss ++ ⟨#[32]⟩) ++ sh)) (by simp [results, Tryz.results16, go_sem]) rfl ?_
    exact ⟨rfl, k2.trans k3⟩
end
end Go.Proofs.Qxb6500275aGreatDoor
