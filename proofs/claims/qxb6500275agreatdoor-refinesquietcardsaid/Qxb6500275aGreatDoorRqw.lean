import Derived.Test.Qxb6500275aGreatDoorXrc
import Derived.Test.Qxb6500275aGreatDoorKw1
import Derived.Test.Qxb6500275aGreatDoorRqx
import Derived.Test.Qxb6500275aGreatDoorTie
import Derived.Test.Qxb6500275aGreatDoorCards
import Derived.ChangeSame
import Derived.ChangeVars
import Derived.JoinedOf
import Derived.RowKit
import Derived.RowKitTokens
import Derived.LaidLaws
import Derived.LaidHandle
import Derived.Stop.Joined
import Derived.SevenTiedAt
set_option linter.unusedVariables false
set_option linter.unusedSimpArgs false
set_option maxRecDepth 100000
namespace Go.Proofs.Qxb6500275aGreatDoor
open Go Go.ChangeShapes Go.WideShapes Go.ChangeAt Go.RowKit Go.Deep
theorem Kp.below {w w' : World} (h : Kp (fun _ => False) w w') : Below w.heap.size w w' := ⟨h.os, h.tape, h.output, h.size, fun k hk => h.block k hk (fun e => e)⟩
/- REFINESQUIET -/
theorem refinesQuiet_any (a0 : Option Addr) (len cap : Nat) (W : World) (hkn : Kn W) (h : Script W a0 len) :
    Calls Tryz.prog 4 #[.slice a0 len cap] W fun e W' => e = .returned (.bool true) ∧ Below W.heap.size W W' := by
  have h7 : Calls Tryz.prog 8 #[.slice a0 len cap] W (fun en w' => en = .returned (.int .i64 (-1)) ∧ Kp (fun _ => False) W w') := by
    have h9 := walk_quiet (cap := cap) hkn h
    clear hkn h
    go_enter Tryz.func8, Tryz.ntmps8
    go_wp2_with fail
    refine h9.mono ?_
    rintro e w' ⟨⟨n, rfl⟩, hb⟩
    go_wp2
    go_ret
    exact ⟨rfl, hb⟩
  clear hkn h
  go_enter Tryz.func4, Tryz.ntmps4
  go_wp2_with fail
  refine h7.mono ?_
  rintro e w' ⟨rfl, hb⟩
  go_wp2
  go_ret
  exact ⟨rfl, hb.below⟩
theorem Tryz.own : ownKnob Tryz.prog.godebug = none := by kernel_rfl
theorem Tryz.laidOut : laidOutB Tryz.prog = true := by kernel_rfl
/- a world that meets the condition -/
def laidWorld (P : Program) (os : Os) : World :=
  let w0 := World.holding P os ⟨#[], #[], []⟩
  { w0 with heap := w0.heap.modify 0 fun
      | .cells _ t frozen => .cells #[.string ⟨#[115, 105, 122, 101]⟩, .string ⟨#[116, 97, 112, 101]⟩, .string ⟨#[116, 114, 97, 112]⟩, .string ⟨#[122, 101, 114, 111]⟩] t frozen
      | o => o }
theorem laidWorld_plain (os : Os) (args : Array Value) : laidMet Tryz.prog Rows.refinesQuietRow.laid ((laidWorld Tryz.prog os).forCall (fun _ _ => 0) ⟨#[], args, []⟩).memory :=
  laidMet_of_run (ps := [.cell 0 0, .cell 0 1, .cell 0 2, .cell 0 3]) 8 (by kernel_rfl) (by kernel_rfl) (by kernel_rfl)
theorem laidWorld_met (os : Os) (args : Array Value) : laidMetH Tryz.prog Rows.refinesQuietRow.laid ((laidWorld Tryz.prog os).forCall (fun _ _ => 0) ⟨#[], args, []⟩).memory :=
  laidWorld_plain os args
theorem refinesQuiet_lifted (os : Os) (started : os.Started) (H : Type) (enc : TypeId × Value → H) :
    ReturnsInHanded {} Tryz.checked os 4 .any (fun w args => (Rows.refinesQuietSpec.pre enc Tryz.prog Tryz.f4 [] false w args ∧ laidMetH Tryz.prog Rows.refinesQuietRow.laid w) ∧ sizedMet enc Tryz.prog Tryz.f4 (OpenSpec.ofChange Rows.refinesQuietSpec) false w args)
      (Rows.refinesQuietSpec.post enc Tryz.prog Tryz.f4 false true false false) := by
  refine returnsInHanded_of_change_and (C := Tryz.checked) (X := fun w _ => laidMetH Tryz.prog Rows.refinesQuietRow.laid w) (fun _ _ _ hh h => h.of_heap hh) Tryz.own started (by kernel_rfl) Tryz.func4
    (ChangeSpec.witness_at (enc := enc) (C := Tryz.checked) (os := os) (X := fun w _ => laidMetH Tryz.prog Rows.refinesQuietRow.laid w) false (laidWorld Tryz.prog os) #[.slice none 0 0] 8 rfl (by kernel_rfl) (by kernel_rfl) (by kernel_rfl) (by kernel_rfl) (by kernel_rfl) (laidWorld_met os _)) ?_
  intro W base args ds gs before hval0 hW _ _ hL _
  have hval : ∀ (j : Nat) t v, Tryz.f4.params[j]? = some t → args[j]? = some v → Value.okWide Tryz.prog W .any base t v := hval0
  have hW' := hW
  obtain ⟨p, q, hA0, hV, rfl, hfz, hnd⟩ := hW
  have hA : DataW.TrodAll enc Tryz.prog W 0 (fun _ => true) true Tryz.f4.params.toList args.toList ds p := hA0
  rw [Tryz.params4] at hA hval
  obtain ⟨v0, d0, rfl, rfl, h0⟩ := trodAll_one hA
  obtain ⟨rfl, rfl⟩ := trodVars_none hV
  obtain ⟨a0, len, cap, rfl⟩ := okWide_slice Tryz.underlying22 (hval 0 22 v0 rfl rfl)
  obtain ⟨fuel, hf⟩ := h0
  have hf : DataW.trod enc Tryz.prog W 0 (fun _ => true) true fuel 22 [.slice a0 len cap] = some (d0, p) := by simpa [Value.cells] using hf
  clear hA0 hval0
  refine (refinesQuiet_any a0 len cap W (kn_of_laid hL) (script_open hf)).mono fun e W' ⟨he, hB⟩ => ?_
  subst he
  have hlt : ∀ x ∈ p, x.block < W.heap.size := fun x hx => hW'.lt x (List.mem_append_left _ hx)
  have hd := Below.trod Tryz.laidOut (by kernel_rfl) (of_decide_eq_true (by kernel_rfl)) (v := .slice a0 len cap) (⟨fuel, by simpa [Value.cells] using hf⟩ : DataW.Trod enc Tryz.prog W 0 (fun _ => true) true 22 (.slice a0 len cap) d0 p) hB hlt
  refine ⟨_, rfl, _, _, _, [], p, [], hW', ?_, ?_, ?_, hB.frame _, fun h => by cases h⟩
  · exact trodAll_mk1 (shut_bool Tryz.underlying4 true)
  · exact trodAll_mk1 hd
  · exact rfl
theorem refinesQuiet_pre {H : Type} (enc : TypeId × Value → H) (P : Program) (f : Func) : Rows.refinesQuietRow.pre enc P f (OpenSpec.ofChange Rows.refinesQuietSpec) = fun w args => (Rows.refinesQuietSpec.pre enc P f [] false w args ∧ laidMetH P Rows.refinesQuietRow.laid w) ∧ sizedMet enc P f (OpenSpec.ofChange Rows.refinesQuietSpec) false w args := rfl
theorem refinesQuiet_lifted2 (os : Os) (started : os.Started) (H : Type) (enc : TypeId × Value → H) :
    ReturnsInHanded Rows.refinesQuietRow.assume Tryz.pinned.checked os 4 .any (Rows.refinesQuietRow.pre enc Tryz.pinned.checked.prog Tryz.f4 (OpenSpec.ofChange Rows.refinesQuietSpec)) (Rows.refinesQuietSpec.post enc Tryz.pinned.checked.prog Tryz.f4 Rows.refinesQuietRow.apart Rows.refinesQuietRow.fresh Rows.refinesQuietRow.handsOn Rows.refinesQuietRow.again) := by
  rw [refinesQuiet_pre]
  exact refinesQuiet_lifted os started H enc
theorem refinesQuiet_row_holds : Rows.RefinesQuietSaid :=
  OpenClaim.holds_of_wide (p := Tryz.pinned) (s := Rows.refinesQuietSpec) (c := Rows.refinesQuietRow) 4 Tryz.f4 rfl rfl rfl rfl rfl rfl rfl ⟨rfl, rfl, rfl, rfl, rfl⟩ rfl rfl rfl rfl rfl refinesQuiet_named Tryz.func4 refinesQuiet_joined refinesQuiet_inst refinesQuiet_wrap
    (fun os started H enc _ => refinesQuiet_lifted2 os started H enc)
theorem refinesQuiet_card_holds : Rows.RefinesQuietCardSaid :=
  Claim7.holds_tied_plain_at .later [] [.data] true (true, "be390d64c1a0bd925692e17116d7c1dd6b0a2917baff79fb140eb61e2f4b3d29") true
    refinesQuiet_row_holds (fun _ h => by cases h) (by kernel_rfl) (fun _ h => by cases h) refinesQuiet_row_tie rfl ⟨rfl, rfl⟩ (by kernel_rfl) rfl
    (fun f fn hf hfn => by
      obtain rfl : f = 4 := Option.some.inj (refinesQuiet_named.symm.trans hf) |>.symm
      obtain rfl : fn = Tryz.f4 := (Option.some.inj (Tryz.func4.symm.trans hfn)).symm
      exact ⟨by kernel_rfl, fun j t ht => by
        rw [Tryz.params4] at ht
        have h3 : t = 22 := by
          rcases j with _ | j
          · simpa using ht.symm
          · simp at ht
        subst h3
        exact (show Tryz.prog.wantsStandIn 22 = false by kernel_rfl)⟩)
    (by kernel_rfl)
end Go.Proofs.Qxb6500275aGreatDoor
