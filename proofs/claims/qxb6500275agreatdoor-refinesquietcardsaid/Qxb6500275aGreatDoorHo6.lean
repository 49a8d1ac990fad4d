import Derived.Test.Qxb6500275aGreatDoorHo5
import Derived.WideMake
set_option maxRecDepth 100000
set_option linter.unusedVariables false
set_option linter.unusedSimpArgs false
namespace Go.Proofs.Qxb6500275aGreatDoor
open Go Go.RowKit
/- the registry -/
def setM (w : World) (r : Nat) (es : Array MapEntry) (c : Nat) : World := { w with heap := w.heap.setIfInBounds r (.map es c) }
theorem u242 : Tryz.prog.underlying 242 = some (.map 9 (match Tryz.prog.underlying 242 with | some (.map _ e) => e | _ => 0)) := by kernel_rfl
theorem u9 : Tryz.prog.underlying 9 = some .string := by kernel_rfl
theorem ins_law (W : World) (r clock : Nat) (es : Array MapEntry) (s : ByteArray) (val : Value) (hb : W.heap[r]? = some (.map es clock)) (hf : Instr.findNow .string (.string s) es.toList 0 = some none) :
    (Instr.mapUpdate 242 (.map (some r)) (.string s) val).run Tryz.prog W = .ok () (setM W r (es.push ⟨.string s, val, clock⟩) (clock + 1)) := by
  have hc : (Instr.checkKey false 10000 9 (.string s)).run Tryz.prog W = .ok () W := MapKept.run_checkKey (k := .string s) u9 (by simp [MapKept.IsKey]) false 9999
  simp [Instr.mapUpdate, run_underlying u242, MapKept.run_getObj_map hb, hc, MapKept.run_findKey u9 hf, MapKept.run_setObj_map _ hb, Result.andThen, setM]
theorem look_law (W : World) (r clock : Nat) (es : Array MapEntry) (s : ByteArray) (hb : W.heap[r]? = some (.map es clock)) {o : Option (Nat × Value)} (hf : Instr.findNow .string (.string s) es.toList 0 = some o) (hz : ∀ w, (zeroValue (match Tryz.prog.underlying 242 with | some (.map _ e) => e | _ => 0)).run Tryz.prog w = .ok .nilFunc w) :
    (Instr.lookup 242 (.map (some r)) (.string s) true).run Tryz.prog W = .ok (match o with | some (_, v) => .tuple #[v, .bool true] | none => .tuple #[.nilFunc, .bool false]) W := by
  have hc : ∀ b, (Instr.checkKey b 10000 9 (.string s)).run Tryz.prog W = .ok () W := fun b => MapKept.run_checkKey (k := .string s) u9 (by simp [MapKept.IsKey]) b 9999
  cases o with
  | none => simp [Instr.lookup, run_underlying u242, MapKept.run_getObj_map hb, hc, MapKept.run_findKey u9 hf, Result.andThen, hz]
  | some o => obtain ⟨i, v⟩ := o; simp [Instr.lookup, run_underlying u242, MapKept.run_getObj_map hb, hc, MapKept.run_findKey u9 hf, Result.andThen]
theorem z242 : ∀ w, (zeroValue (match Tryz.prog.underlying 242 with | some (.map _ e) => e | _ => 0)).run Tryz.prog w = .ok .nilFunc w := fun w => by kernel_rfl
def tapeB : ByteArray := ⟨#[116, 97, 112, 101]⟩
def zeroB : ByteArray := ⟨#[122, 101, 114, 111]⟩
def sizeB : ByteArray := ⟨#[115, 105, 122, 101]⟩
def trapB : ByteArray := ⟨#[116, 114, 97, 112]⟩
def fnV (n : Nat) : Value := .func (.func n) #[] #[]
def regM : Array MapEntry := #[⟨.string tapeB, fnV 212, 0⟩, ⟨.string zeroB, fnV 213, 1⟩, ⟨.string sizeB, fnV 214, 2⟩, ⟨.string trapB, fnV 215, 3⟩]
def mkW (w : World) : World := setM (setM (setM (setM (w.alloc (.map #[] 0)) w.heap.size #[⟨.string tapeB, fnV 212, 0⟩] 1) w.heap.size #[⟨.string tapeB, fnV 212, 0⟩, ⟨.string zeroB, fnV 213, 1⟩] 2) w.heap.size #[⟨.string tapeB, fnV 212, 0⟩, ⟨.string zeroB, fnV 213, 1⟩, ⟨.string sizeB, fnV 214, 2⟩] 3) w.heap.size regM 4
theorem setM_at {w : World} {r : Nat} (hr : r < w.heap.size) (es : Array MapEntry) (c : Nat) : (setM w r es c).heap[r]? = some (.map es c) := by
  unfold setM
  simp [hr]
theorem setM_size {w : World} {r : Nat} (es : Array MapEntry) (c : Nat) : (setM w r es c).heap.size = w.heap.size := by unfold setM; simp
theorem Kp.setM {S : Nat → Prop} {a w : World} (h : Kp S a w) {r : Nat} (hr : a.heap.size ≤ r) (es : Array MapEntry) (c : Nat) : Kp S a (setM w r es c) := by
  refine ⟨h.os, h.tape, h.output, by rw [setM_size]; exact h.size, fun k hk hs => ?_⟩
  unfold Go.Proofs.Qxb6500275aGreatDoor.setM
  have : r ≠ k := by omega
  simp [this]
  exact h.block k hk hs
theorem mkW_kp (w : World) : Kp (fun _ => False) w (mkW w) := (((((Kp.refl _ _).alloc _).setM (Nat.le_refl _) _ _).setM (Nat.le_refl _) _ _).setM (Nat.le_refl _) _ _).setM (Nat.le_refl _) _ _
theorem mkW_at (w : World) : (mkW w).heap[w.heap.size]? = some (.map regM 4) := by
  unfold mkW
  refine setM_at ?_ _ _
  rw [setM_size, setM_size, setM_size]
  simp
set_option maxHeartbeats 2000000 in
theorem makers_calls (w : World) : Calls Tryz.prog 162 #[] w (fun en w' => en = .returned (.map (some w.heap.size)) ∧ w' = mkW w) := by
  have h0 := run_makeMap_plain (P := Tryz.prog) w 242
  have a0 : (w.alloc (.map #[] 0)).heap[w.heap.size]? = some (.map #[] 0) := heap_alloc_new w _
  have l0 : w.heap.size < (w.alloc (.map #[] 0)).heap.size := by simp
  have h1 := ins_law (w.alloc (.map #[] 0)) w.heap.size 0 #[] tapeB (fnV 212) a0 rfl
  have h2 := ins_law (setM (w.alloc (.map #[] 0)) w.heap.size #[⟨.string tapeB, fnV 212, 0⟩] 1) w.heap.size 1 #[⟨.string tapeB, fnV 212, 0⟩] zeroB (fnV 213) (setM_at l0 _ _) (by kernel_rfl)
  have h3 := ins_law (setM (setM (w.alloc (.map #[] 0)) w.heap.size #[⟨.string tapeB, fnV 212, 0⟩] 1) w.heap.size #[⟨.string tapeB, fnV 212, 0⟩, ⟨.string zeroB, fnV 213, 1⟩] 2) w.heap.size 2 #[⟨.string tapeB, fnV 212, 0⟩, ⟨.string zeroB, fnV 213, 1⟩] sizeB (fnV 214) (setM_at (by rw [setM_size]; exact l0) _ _) (by kernel_rfl)
  have h4 := ins_law (setM (setM (setM (w.alloc (.map #[] 0)) w.heap.size #[⟨.string tapeB, fnV 212, 0⟩] 1) w.heap.size #[⟨.string tapeB, fnV 212, 0⟩, ⟨.string zeroB, fnV 213, 1⟩] 2) w.heap.size #[⟨.string tapeB, fnV 212, 0⟩, ⟨.string zeroB, fnV 213, 1⟩, ⟨.string sizeB, fnV 214, 2⟩] 3) w.heap.size 3 #[⟨.string tapeB, fnV 212, 0⟩, ⟨.string zeroB, fnV 213, 1⟩, ⟨.string sizeB, fnV 214, 2⟩] trapB (fnV 215) (setM_at (by rw [setM_size, setM_size]; exact l0) _ _) (by kernel_rfl)
  simp only [fnV, tapeB, zeroB, sizeB, trapB, List.push_toArray, List.nil_append, List.cons_append, Nat.zero_add, Nat.reduceAdd] at h1 h2 h3 h4
  clear a0 l0
  go_enter Tryz.func162, Tryz.ntmps162
  go_wp2_with fail
  refine bodyPost_ret (v := .map (some w.heap.size)) (by simp [results, Tryz.results162, go_sem]) rfl ?_
  exact ⟨rfl, rfl⟩
end Go.Proofs.Qxb6500275aGreatDoor
