import Derived.Test.Qxb6500275aGreatDoorHs1
import Derived.Test.Qxb6500275aGreatDoorHod
import Derived.Test.Qxb6500275aGreatDoorVc1
import Derived.Deep.QuietTactic
import Derived.Lib.SmallJoins
import Derived.BigQuiet
set_option maxRecDepth 100000
set_option linter.unusedVariables false
set_option linter.unusedSimpArgs false
namespace Go.Proofs.Qxb6500275aGreatDoor
open Go Go.RowKit
/- the host, spelt -/
def B8 (l : List UInt8) : List Int := l.map (fun c => (c.toNat : Int))
def bdB (l : List Nat) : List UInt8 := l.flatMap (fun k => [32, UInt8.ofNat (48 + k)])
def tpB (l : List Nat) : List UInt8 := l.flatMap (fun v => 32 :: hexL v 16)
def shA (H : Hm) (i : Nat) : List UInt8 := [98, 111, 117, 110, 100] ++ bdB (H.bd.take i)
def shB (H : Hm) : List UInt8 := shA H H.bd.length ++ [32, 116, 97, 112, 101]
def shC (H : Hm) (i : Nat) : List UInt8 := shB H ++ tpB (H.tp.take i)
def shD (H : Hm) : List UInt8 := shC H H.tp.length ++ [32, 116, 114, 97, 99, 101]
def showHB (H : Hm) : List UInt8 := shD H ++ H.tr.map UInt8.ofNat
def showH (H : Hm) : ByteArray := ⟨⟨showHB H⟩⟩
section
variable {w w' : World} {hb bb tb : Nat} {T : Nat → Prop} {H : Hm}
theorem B8_len (l : List UInt8) : (B8 l).length = l.length := by simp [B8]
theorem B8_app (l k : List UInt8) : B8 (l ++ k) = B8 l ++ B8 k := by simp [B8]
theorem bdB_len : ∀ l : List Nat, (bdB l).length = 2 * l.length
  | [] => rfl
  | k :: l => by
    have := bdB_len l
    unfold bdB at this ⊢
    rw [List.flatMap_cons, List.length_append, this]; simp; omega
theorem tpB_len : ∀ l : List Nat, (tpB l).length = 17 * l.length
  | [] => rfl
  | k :: l => by
    have := tpB_len l
    unfold tpB at this ⊢
    rw [List.flatMap_cons, List.length_append, this, List.length_cons, hexL_length, List.length_cons]; omega
theorem bdB_snoc (l : List Nat) (k : Nat) : bdB (l ++ [k]) = bdB l ++ [32, UInt8.ofNat (48 + k)] := by simp [bdB]
theorem tpB_snoc (l : List Nat) (k : Nat) : tpB (l ++ [k]) = tpB l ++ (32 :: hexL k 16) := by simp [tpB]
theorem shA_len {i : Nat} (hi : i ≤ H.bd.length) : (B8 (shA H i)).length = 5 + 2 * i := by
  rw [B8_len]; unfold shA; rw [List.length_append, bdB_len, List.length_take]; simp; omega
theorem shB_len : (B8 (shB H)).length = 10 + 2 * H.bd.length := by
  have := shA_len (H := H) (Nat.le_refl _)
  rw [B8_len] at this ⊢; unfold shB; rw [List.length_append, this]; simp; omega
theorem shC_len {i : Nat} (hi : i ≤ H.tp.length) : (B8 (shC H i)).length = 10 + 2 * H.bd.length + 17 * i := by
  have := shB_len (H := H)
  rw [B8_len] at this ⊢; unfold shC; rw [List.length_append, this, tpB_len, List.length_take]; simp; omega
theorem shD_len : (B8 (shD H)).length = 16 + 2 * H.bd.length + 17 * H.tp.length := by
  have := shC_len (H := H) (Nat.le_refl _)
  rw [B8_len] at this ⊢; unfold shD; rw [List.length_append, this]; simp; omega
theorem arrLen167 : Tryz.prog.arrayLen 167 = 6 := by kernel_rfl
theorem sizeOfU167 (w : World) : (sizeOf (Tryz.prog.elem 167)).run Tryz.prog w = .ok 1 w := by
  have e : Tryz.prog.elem 167 = 91 := by kernel_rfl
  have h : (sizeOf 91).run Tryz.prog w = .ok 1 w := by kernel_rfl
  rw [e]
  exact h
theorem slice167 (B l n o : Nat) (h : l + n ≤ 6) (ho : o = if l = 6 then 0 else l) (w : World) : (Instr.sliceAt 167 (.pointer (some ⟨B, 1, none⟩)) (some (.int .i64 (l : Int))) (some (.int .i64 ((l : Int) + (n : Int)))) none).run Tryz.prog w = .ok (.slice (some ⟨B, 1 + o, none⟩) n (6 - l)) w := by
  rw [run_sliceAt_array_lh w 167 ⟨B, 1, none⟩ (by kernel_rfl) .i64 .i64 (l : Int) ((l : Int) + (n : Int)) (by omega) (by omega) (by rw [arrLen167]; omega), sizeOfU167, arrLen167]
  have e1 : ((l : Int) + (n : Int)).toNat = l + n := by omega
  simp only [Result.andThen_ok, slicedAt, Int.toNat_natCast, e1]
  by_cases h6 : l = 6
  · subst h6
    rw [if_pos rfl] at ho
    subst ho
    simp [add_non]
  · rw [if_neg h6] at ho
    subst ho
    have : ¬ 6 = o := fun e => h6 e.symm
    simp [add_non, this]
theorem conv104s (w : World) : (convert 104 104 (.slice (some ⟨w.heap.size, 0, none⟩) 5 5)).run Tryz.prog (w.alloc (.cells #[.int .u8 98, .int .u8 111, .int .u8 117, .int .u8 110, .int .u8 100] 5)) = .ok (.slice (some ⟨w.heap.size, 0, none⟩) 5 5) (w.alloc (.cells #[.int .u8 98, .int .u8 111, .int .u8 117, .int .u8 110, .int .u8 100] 5 (5, 6))) := Lib.run_convert_bytes_const w 104 5 #[.int .u8 98, .int .u8 111, .int .u8 117, .int .u8 110, .int .u8 100] 5 5 u5 (by kernel_rfl)
theorem blk_mark (w : World) : Blk (w.alloc (.cells #[.int .u8 98, .int .u8 111, .int .u8 117, .int .u8 110, .int .u8 100] 5 (5, 6))) w.heap.size 5 (fun i => (#[.int .u8 98, .int .u8 111, .int .u8 117, .int .u8 110, .int .u8 100] : Array Value)[i]!) := by
  intro i hi
  refine ⟨?_, ?_⟩
  · rw [World.cell?_alloc_mark]
    have : i = 0 ∨ i = 1 ∨ i = 2 ∨ i = 3 ∨ i = 4 := by omega
    rcases this with rfl | rfl | rfl | rfl | rfl <;> rfl
  · have h := heap_alloc_new w (Obj.cells #[.int .u8 98, .int .u8 111, .int .u8 117, .int .u8 110, .int .u8 100] 5 (5, 6))
    have : i = 0 ∨ i = 1 ∨ i = 2 ∨ i = 3 ∨ i = 4 := by omega
    unfold World.frozen?
    rcases this with rfl | rfl | rfl | rfl | rfl <;> (dsimp only; rw [h]; rfl)
theorem u8w48 {k : Nat} (h : k ≤ 4) : IntKind.u8.wrap (48 + (k : Int)) = 48 + (k : Int) := by simp [IntKind.wrap, IntKind.bits, IntKind.signed]; omega
theorem u8n48 {k : Nat} (h : k ≤ 4) : ((UInt8.ofNat (48 + k)).toNat : Int) = 48 + (k : Int) := by rw [UInt8.toNat_ofNat']; omega
theorem Bs.quiet {u u' : World} {b1 cap1 : Nat} {l : List Int} (h : Bs w u b1 cap1 l) (hk : Kp (fun _ => False) u u') : Bs w u' b1 cap1 l := by
  obtain ⟨D, d1, d2⟩ := h.blk
  exact ⟨h.kp.trans hk, h.hb, ⟨D, d1.keep hk (fun h => h), d2⟩, h.cp⟩
theorem hexC_B8 (v : Nat) : hexC (v : Int) 16 = (B8 (hexL v 16)).map (fun x => Value.int .u8 x) := by
  unfold hexC B8
  rw [Int.toNat_natCast, List.map_map]
  rfl
set_option maxHeartbeats 16000000 in
theorem hshow_calls (h : Hw w hb bb tb T H) (hO : HmOk H) : Calls Tryz.prog 50 #[.pointer (some ⟨hb, 0, none⟩)] w (fun en w' => en = .returned (.string (showH H)) ∧ Kp (fun _ => False) w w') := by
  obtain ⟨⟨F, G, C, head, b1, b2, b3, hl⟩, d1, d2, d3, ht⟩ := h
  have c0 := b1.cell (i := 0) (by decide)
  have c7 := b1.cell (i := 7) (by decide)
  have c8 := b1.cell (i := 8) (by decide)
  have c9 := b1.cell (i := 9) (by decide)
  rw [hl.f0] at c0
  rw [hl.f7] at c7
  rw [hl.f8] at c8
  rw [hl.f9] at c9
  have hhd := hl.hd
  have hb4 := hO.bd.1
  have hbk := hO.bd.2
  have htr := hO.tr.1
  have hrw := hO.rows
  obtain ⟨nb, hnb⟩ : ∃ n, H.bd.length = n := ⟨_, rfl⟩
  obtain ⟨np, hnp⟩ : ∃ n, H.tp.length = n := ⟨_, rfl⟩
  obtain ⟨nr, hnr⟩ : ∃ n, H.tr.length = n := ⟨_, rfl⟩
  have HNB : Hid _ := hnb
  have HNP : Hid _ := hnp
  have HNR : Hid _ := hnr
  rw [hnb] at c0 hb4
  rw [hnp] at c8 hhd
  rw [hnr] at c9 htr
  have HBK : Hid _ := hbk
  have HB2 : Hid (Blk w bb 4 G) := b2
  have HB1 : Hid (Blk w hb 11 F) := b1
  have HB3 : Hid (Blk w tb 864 C) := b3
  have HL : Hid _ := hl
  have HO : Hid _ := hO
  have HBS : Hid (Bs w (w.alloc (.cells #[.int .u8 98, .int .u8 111, .int .u8 117, .int .u8 110, .int .u8 100] 5 (5, 6))) w.heap.size 5 (B8 (shA H 0))) := ⟨(Kp.refl _ _).alloc _, Nat.le_refl _, ⟨_, blk_mark w, fun i x hx => by
    have hi : i < 5 := (List.getElem?_eq_some_iff.1 hx).1
    have : i = 0 ∨ i = 1 ∨ i = 2 ∨ i = 3 ∨ i = 4 := by omega
    rcases this with rfl | rfl | rfl | rfl | rfl <;> (cases hx; rfl)⟩, Nat.le_refl _⟩
  clear b1 b2 b3 hl hO hbk hnb hnp hnr d1 d2 d3 ht
  have c0' : (w.alloc (.cells #[.int .u8 98, .int .u8 111, .int .u8 117, .int .u8 110, .int .u8 100] 5 (5, 6))).cell? ⟨hb, 0, none⟩ = some (.slice (some ⟨bb, 0, none⟩) nb 4) := by rw [HBS.out.kp.cell (p := ⟨hb, 0, none⟩) (lt_of_cell c0) (fun h => h)]; exact c0
  go_enter Tryz.func50, Tryz.ntmps50
  go_wp2_with (simp only [conv104s])
  generalize (w.alloc (.cells #[.int .u8 98, .int .u8 111, .int .u8 117, .int .u8 110, .int .u8 100] 5 (5, 6))) = W0 at HBS c0' ⊢
  obtain ⟨b0, hb0⟩ : ∃ b0, w.heap.size = b0 := ⟨_, rfl⟩
  rw [hb0] at HBS ⊢
  go_loopw [3, 16] (fun x ii w1 => ∃ (i : Nat) (u : World) (b1 cap1 : Nat), u = w1 ∧ i ≤ nb ∧ ii = .int .i64 i ∧ x = .slice (some ⟨b1, 0, none⟩) (5 + 2 * i) cap1 ∧ Hid (Bs w u b1 cap1 (B8 (shA H i)))) (fun _ ii _ => nb + 1 - (intOf ii).toNat)
  case atStart => exact ⟨0, _, b0, 5, rfl, by omega, rfl, rfl, HBS⟩
  case round =>
    clear HBS c0'
    obtain ⟨i, u, b1, cap1, e, hi, rfl, rfl, HB⟩ := hrel
    subst e
    by_cases hlt : i < nb
    · obtain ⟨k, hk⟩ : ∃ k, H.bd[i]? = some k := ⟨_, List.getElem?_eq_getElem (by rw [HNB.out]; exact hlt)⟩
      have hk4 := (HBK.out k (List.mem_of_getElem? hk)).2
      have hf := HL.out.bd i k hk
      have cb : u.cell? ⟨bb, i, none⟩ = some (G i) := by rw [HB.out.kp.cell (p := ⟨bb, i, none⟩) (HB2.out.lt (by decide)) (fun h => h)]; exact HB2.out.cell (by omega)
      have hkc := kind_any hf.loose u
      generalize G i = gv at cb hkc hf
      obtain ⟨r, hap, hbs⟩ := HB.out.appN (shA_len (by rw [HNB.out]; exact hi)) (U := u.alloc (.cells #[.int .u8 32, .int .u8 (48 + (k : Int))] 5)) ((Kp.refl _ _).alloc _) ⟨u.heap.size, 0, none⟩ 2 [32, 48 + (k : Int)] (fun j x hx => by
        have hj : j < 2 := (List.getElem?_eq_some_iff.1 hx).1
        rw [add_non, Nat.zero_add, (blk_alloc u #[.int .u8 32, .int .u8 (48 + (k : Int))] 5).cell (by simpa using hj)]
        have : j = 0 ∨ j = 1 := by omega
        rcases this with rfl | rfl <;> (cases hx; rfl)) (by simp; omega)
      have HBN : Hid (Bs w r.2.2 r.1 r.2.1 (B8 (shA H (i + 1)))) := by
        show Bs _ _ _ _ _
        have : B8 (shA H (i + 1)) = B8 (shA H i) ++ [32, 48 + (k : Int)] := by
          unfold shA
          rw [take_snocL hk, bdB_snoc, ← List.append_assoc, B8_app]
          congr 1
          unfold B8
          simp only [List.map_cons, List.map_nil]
          rw [u8n48 hk4]
          rfl
        rw [this]
        exact hbs
      obtain ⟨rb1, rc1, rw1⟩ := r
      have hib : (i : Int) < (nb : Int) := by omega
      have hw8 := u8w48 hk4
      have hap' : (Builtin.append_ #[104, 104] 104 #[.slice (some ⟨b1, 0, none⟩) (5 + 2 * i) cap1, .slice (some ⟨u.heap.size, 0, none⟩) 2 2]).run Tryz.prog (u.alloc (.cells #[.int .u8 32, .int .u8 (48 + (k : Int))] 5)) = .ok (.slice (some ⟨rb1, 0, none⟩) (5 + 2 * i + 2) rc1) rw1 := hap
      have hgv : ∃ ty vx, gv = .iface ty vx := by
        rcases hf with ⟨_, fb, e, _⟩ | ⟨_, e⟩ | ⟨_, e⟩ | ⟨_, e⟩ <;> exact ⟨_, _, e⟩
      obtain ⟨gty, gvx, rfl⟩ := hgv
      clear hap hbs hk hf HB
      go_wp2_with fail
      refine hkc.mono ?_
      rintro en w3 ⟨rfl, rfl⟩
      go_wp2_with (at_builtin; refine wpList_app rfl _ _ 104 rfl hap' ?_)
      go_roundw
      case rel => exact ⟨i + 1, _, rb1, rc1, rfl, by omega, by go_num, by rw [show 5 + 2 * (i + 1) = 5 + 2 * i + 2 by omega], HBN⟩
      case measure => simp [intOf]; omega
    · have hie : nb = i := by omega
      subst hie
      have hbB : Bs w u b1 cap1 (B8 (shA H nb)) := HB.out
      obtain ⟨r, hap, hbs⟩ := hbB.appStr (shA_len (by rw [HNB.out]; exact Nat.le_refl _)) ⟨#[32, 116, 97, 112, 101]⟩ (by show 5 + 2 * nb + 5 ≤ 100000; omega)
      obtain ⟨rb1, rc1, rw1⟩ := r
      have hap' : (Builtin.append_ #[104, 9] 104 #[.slice (some ⟨b1, 0, none⟩) (5 + 2 * nb) cap1, .string ⟨#[32, 116, 97, 112, 101]⟩]).run Tryz.prog u = .ok (.slice (some ⟨rb1, 0, none⟩) (5 + 2 * nb + 5) rc1) rw1 := hap
      have HBN : Hid (Bs w rw1 rb1 rc1 (B8 (shB H))) := by
        show Bs _ _ _ _ _
        have : B8 (shB H) = B8 (shA H nb) ++ B8 [32, 116, 97, 112, 101] := by unfold shB; rw [HNB.out, B8_app]
        rw [this]
        exact hbs
      clear hap hbs hbB HB
      have c7' : rw1.cell? ⟨hb, 7, none⟩ = some (.int .i64 (head : Int)) := by rw [HBN.out.kp.cell (p := ⟨hb, 7, none⟩) (lt_of_cell c7) (fun h => h)]; exact c7
      have c8' : rw1.cell? ⟨hb, 8, none⟩ = some (.int .i64 (np : Int)) := by rw [HBN.out.kp.cell (p := ⟨hb, 8, none⟩) (lt_of_cell c8) (fun h => h)]; exact c8
      obtain ⟨o, ho⟩ : ∃ o, o = if head = 6 then 0 else head := ⟨_, rfl⟩
      have hsl := slice167 hb head np o hhd ho
      have HOO : Hid _ := ho
      clear ho c0 c7 c8
      go_wp2_with (at_builtin; refine wpList_app2 rfl _ _ 104 9 rfl hap' ?_)
      go_quiet (fail)
      go_wp2_with fail
      have HB0 : Hid (Bs w (rw1.drewN nq) rb1 rc1 (B8 (shC H 0))) := by
        show Bs _ _ _ _ _
        have : shC H 0 = shB H := by unfold shC tpB; simp
        rw [this]
        exact HBN.out.quiet ⟨rfl, rfl, rfl, Nat.le_refl _, fun _ _ _ => rfl⟩
      clear HBN c7' c8' hsl hap'
      generalize rw1.drewN nq = W5 at HB0 ⊢
      go_loopw [3, 49] (fun x ii w1 => ∃ (i : Nat) (u : World) (b1 cap1 : Nat), u = w1 ∧ i ≤ np ∧ ii = .int .i64 i ∧ x = .slice (some ⟨b1, 0, none⟩) (10 + 2 * nb + 17 * i) cap1 ∧ Hid (Bs w u b1 cap1 (B8 (shC H i)))) (fun _ ii _ => np + 1 - (intOf ii).toNat)
      case atStart => exact ⟨0, _, rb1, rc1, rfl, by omega, rfl, by rw [show 10 + 2 * nb + 17 * 0 = 5 + 2 * nb + 5 by omega], HB0⟩
      case round =>
        clear HB0
        obtain ⟨i, u, b1, cap1, e, hi, rfl, rfl, HB⟩ := hrel
        subst e
        have hln : (B8 (shC H i)).length = 10 + 2 * nb + 17 * i := by rw [shC_len (by rw [HNP.out]; exact hi), HNB.out]
        by_cases hlt : i < np
        · obtain ⟨v, hv⟩ : ∃ v, H.tp[i]? = some v := ⟨_, List.getElem?_eq_getElem (by rw [HNP.out]; exact hlt)⟩
          have hvr := HO.out.tp.2 v (List.mem_of_getElem? hv)
          have hoh : o = head := by have h := HOO.out; rw [if_neg (by omega)] at h; exact h
          have cw : u.cell? ⟨hb, 1 + o + i, none⟩ = some (.int .u64 (v : Int)) := by
            rw [HB.out.kp.cell (p := ⟨hb, 1 + o + i, none⟩) (HB1.out.lt (by decide)) (fun h => h), HB1.out.cell (by omega), hoh, Nat.add_assoc, HL.out.tp i v hv]
          obtain ⟨r, hap, hbs⟩ := HB.out.app hln (by omega) 32
          obtain ⟨rb1, rc1, rw1⟩ := r
          dsimp only at hap hbs
          obtain ⟨D, hD1, hD2⟩ := hbs.blk
          have hcp := hbs.cp
          have hln2 : (B8 (shC H i) ++ [32]).length = 10 + 2 * nb + 17 * i + 1 := by rw [List.length_append, hln]; rfl
          have hhx := hex16_calls hD1 (len := 10 + 2 * nb + 17 * i + 1) (by omega) (hD1.lt (by omega)) v hvr (by omega)
          have HPUT : Hid (∀ (w' : World) (b' cap' : Nat), Ap rw1 w' rb1 (10 + 2 * nb + 17 * i + 1) rc1 D (hexC (v : Int) 16) b' cap' → Bs w w' b' cap' (B8 (shC H (i + 1)))) := fun w' b' cap' hA => by
            have : B8 (shC H (i + 1)) = B8 (shC H i) ++ [32] ++ B8 (hexL v 16) := by
              unfold shC
              rw [take_snocL hv, tpB_snoc, ← List.append_assoc, B8_app, List.append_assoc]
              rfl
            rw [this]
            exact hbs.put (Kp.refl _ _) hln2 hD2 (by rw [← hexC_B8]; exact hA)
          have hib : (i : Int) < (np : Int) := by omega
          clear hbs hD1 hD2 hcp hln2 hv hoh HB hln
          go_wp2_with (at_builtin; refine wpList_app rfl _ _ 104 rfl hap ?_)
          refine hhx.mono ?_
          rintro en w3 ⟨b', cap', rfl, hA⟩
          have HBN : Hid (Bs w w3 b' cap' (B8 (shC H (i + 1)))) := HPUT.out _ _ _ hA
          clear hhx hA HPUT hap
          go_wp2_with fail
          go_roundw
          case rel => exact ⟨i + 1, _, b', cap', rfl, by omega, by go_num, by rw [show 10 + 2 * nb + 17 * (i + 1) = 10 + 2 * nb + 17 * i + 1 + 16 by omega], HBN⟩
          case measure => simp [intOf]; omega
        · have hie : np = i := by omega
          subst hie
          have hbB : Bs w u b1 cap1 (B8 (shC H np)) := HB.out
          obtain ⟨r, hap, hbs⟩ := hbB.appStr hln ⟨#[32, 116, 114, 97, 99, 101]⟩ (by show 10 + 2 * nb + 17 * np + 6 ≤ 100000; omega)
          obtain ⟨rb1, rc1, rw1⟩ := r
          have hap1 : (Builtin.append_ #[104, 9] 104 #[.slice (some ⟨b1, 0, none⟩) (10 + 2 * nb + 17 * np) cap1, .string ⟨#[32, 116, 114, 97, 99, 101]⟩]).run Tryz.prog u = .ok (.slice (some ⟨rb1, 0, none⟩) (10 + 2 * nb + 17 * np + 6) rc1) rw1 := hap
          have hbD : Bs w rw1 rb1 rc1 (B8 (shD H)) := by
            have : B8 (shD H) = B8 (shC H np) ++ B8 [32, 116, 114, 97, 99, 101] := by unfold shD; rw [HNP.out, B8_app]
            rw [this]
            exact hbs
          have hlD : (B8 (shD H)).length = 10 + 2 * nb + 17 * np + 6 := by rw [shD_len, HNB.out, HNP.out]; omega
          have c9' : rw1.cell? ⟨hb, 9, none⟩ = some (.slice (some ⟨tb, 0, none⟩) nr 864) := by rw [hbD.kp.cell (p := ⟨hb, 9, none⟩) (lt_of_cell c9) (fun h => h)]; exact c9
          have hlr : (H.tr.map (fun (v : Nat) => (v : Int))).length = nr := by rw [List.length_map, HNR.out]
          obtain ⟨r2, hap2, hbs2⟩ := hbD.appN hlD (Kp.refl _ _) ⟨tb, 0, none⟩ 864 (H.tr.map (fun (v : Nat) => (v : Int))) (fun j x hx => by
            rw [List.getElem?_map] at hx
            cases hj : H.tr[j]? with
            | none => rw [hj] at hx; simp at hx
            | some y =>
              rw [hj] at hx
              simp at hx
              subst hx
              have hjl := (List.getElem?_eq_some_iff.1 hj).1
              have := HNR.out
              rw [add_non, Nat.zero_add, hbD.kp.cell (p := ⟨tb, j, none⟩) (HB3.out.lt (by decide)) (fun h => h), HB3.out.cell (by omega), HL.out.tr j y hj]) (by rw [hlr]; omega)
          obtain ⟨rb2, rc2, rw2⟩ := r2
          rw [hlr] at hap2
          dsimp only at hap2 hbs2
          have hfin : B8 (shD H) ++ H.tr.map (fun (v : Nat) => (v : Int)) = B8 (showHB H) := by
            unfold showHB
            rw [B8_app]
            congr 1
            unfold B8
            rw [List.map_map]
            apply List.map_congr_left
            intro y hy
            have := HO.out.tr.2.1 y hy
            simp only [Function.comp_apply]
            rw [UInt8.toNat_ofNat']
            omega
          rw [hfin] at hbs2
          have hcv := hbs2.string (r := showHB H) rfl
          have hlf : (B8 (showHB H)).length = 10 + 2 * nb + 17 * np + 6 + nr := by rw [← hfin, List.length_append, hlD, hlr]
          rw [hlf] at hcv
          have HK : Hid _ := hbs2.kp
          clear hap hbs hbB HB hbD hbs2 hfin hln hlD hlr hlf
          go_wp2_with (first | (at_builtin; refine wpList_app2 rfl _ _ 104 9 rfl hap1 ?_) | (at_builtin; refine wpList_app rfl _ _ 104 rfl hap2 ?_) | (simp only [hcv]))
          refine bodyPost_ret (v := .string (showH H)) (by simp [results, Tryz.results50, go_sem, showH]) rfl ?_
          exact ⟨rfl, HK.out⟩
end
end Go.Proofs.Qxb6500275aGreatDoor
