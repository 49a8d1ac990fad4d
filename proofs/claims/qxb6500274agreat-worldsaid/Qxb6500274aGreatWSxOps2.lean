import Derived.Test.Qxb6500274aGreatWSxOps
set_option linter.unusedSimpArgs false
namespace Go.Sx
open Go Go.RowKit

theorem rep_range (z : Array Value) : ∀ (n : Nat), (List.range (n * z.size)).map (fun i => z[i % z.size]!) = rep z.toList n
  | 0 => by simp [rep]
  | n + 1 => by
    have ih := rep_range z n
    rw [show (n + 1) * z.size = z.size + n * z.size by rw [Nat.add_mul]; omega, List.range_add, List.map_append, List.map_map]
    simp only [rep]
    congr 1
    · apply List.ext_getElem?
      intro i
      by_cases hi : i < z.size
      · simp [hi, Nat.mod_eq_of_lt hi]
      · rw [List.getElem?_eq_none (by simp; omega), List.getElem?_eq_none (by simp; omega)]
    · rw [← ih]
      apply List.map_congr_left
      intro i _
      simp

theorem zeroCells_list (z : Array Value) (n : Nat) : (Builtin.zeroCells z n).toList = rep z.toList n := by
  simp only [Builtin.zeroCells, Array.toList_map, Array.toList_range]
  exact rep_range z n

theorem rep_plain {z : List Value} (h : ∀ v, v ∈ z → plain v = true) : ∀ (n : Nat) (v : Value), v ∈ rep z n → plain v = true
  | 0, v, hv => by simp [rep] at hv
  | n + 1, v, hv => by
    simp only [rep, List.mem_append] at hv
    rcases hv with hv | hv
    · exact h v hv
    · exact rep_plain h n v hv

theorem rep_length (z : List Value) : ∀ (n : Nat), (rep z n).length = n * z.length
  | 0 => by simp [rep]
  | n + 1 => by simp [rep, rep_length z n, Nat.add_mul]; omega

section
variable {P : Program} {E : Env} {cf : CallF} {f ρ : Operand → Value} {s : St} {L : List (Value × St)} {n0 : Base} {w0 w : World} {K : Kx}
  {dst : Option Tmp} {type : TypeId} {pos : String} {after : Array Edge} {guard : Option (Nat × Bool)}

theorem wrap_small {n : Nat} (h : n ≤ 65536) : IntKind.i64.wrap (n : Int) = n := by
  have h1 : ((n : Int) % (2 ^ 64 : Int)) = n := by omega
  simp only [IntKind.wrap, IntKind.bits, IntKind.signed, h1]
  rw [if_neg (by simp; omega)]

theorem eff_makeSlice (hE : EnvOK P E) {t : TypeId} {l c : Operand} (hR : Rep n0 w0 K s w) (hf : ∀ y, y ∈ (Op.makeSlice t l c).operands → RV K (f y) (ρ y)) (h : aop0 E cf (.makeSlice t l c) f s = some L) :
    OpPost P n0 w0 K L ((execOp ρ ⟨dst, .makeSlice t l c, type, pos, after, guard⟩).run P w) := by
  simp only [aop_T, aopT] at h
  split at h
  · rename_i i ln cn hi hl hc
    obtain ⟨kl, hl⟩ := natOf_some hl
    obtain ⟨kc, hc⟩ := natOf_some hc
    have h1 := hf l (by simp [Op.operands])
    have h2 := hf c (by simp [Op.operands])
    rw [hl, RV_int] at h1
    rw [hc, RV_int] at h2
    split at h
    · rename_i e hd
      split at h
      · rename_i j hj
        have hti := hE.ti t i hi
        have htj := hE.ti e j hj
        split at h
        · rename_i hb
          simp only [Bool.and_eq_true] at hb
          have hb1 := Nat.le_of_ble_eq_true hb.1
          have hb2 := Nat.le_of_ble_eq_true hb.2
          have hu := hti.run_und w
          rw [hd] at hu
          obtain ⟨inf, hinf, hinfs, _, hbytes⟩ := htj.run_info w
          have hno : ¬ ((decide ((cn : Int) < 0) || decide ((inf.bytes : Int) * (cn : Int) > 2 ^ 48)) || decide ((ln : Int) < 0) || decide ((ln : Int) > (cn : Int))) = true := by
            have : inf.bytes * cn ≤ 1000000 * 65536 := Nat.mul_le_mul hbytes hb2
            have : ((inf.bytes : Int) * (cn : Int)) ≤ 65536000000 := by
              have : (((inf.bytes * cn : Nat)) : Int) ≤ 65536000000 := by omega
              rwa [Int.natCast_mul] at this
            simp
            omega
          by_cases h0 : cn * j.size = 0
          · have hnil : (rep j.zero cn) = [] := by
              apply List.eq_nil_of_length_eq_zero
              rw [rep_length, htj.zl, h0]
            obtain ⟨K', g1, g2, g3, g4⟩ := hR.newRow (vs := rep j.zero cn) (cs := (Array.range (cn * j.size)).map ((#[] : Array Value)[· % (#[] : Array Value).size]!)) e (by
              rw [hnil, h0]; simp; trivial)
            simp only [execOp, Instr.makeSlice, Sem.run_bind, hu, Result.andThen_ok, h1, h2, asInt, asIntOf, Sem.run_pure, hinf, wrap_small (Nat.le_trans hb1 hb2), wrap_small hb2, if_neg hno, run_askRoom, htj.run_size w, Int.toNat_natCast, h0, if_true, newRow, run_newObj]
            rw [h0] at g4
            refine LPost.one h g1 ?_ g4
            rw [RV_slice (by unfold capU; omega)]
            exact ⟨rfl, g3, by simp [newBlk, g2]⟩
          · have hsz : (zeroVal j).cells.size = j.size := by rw [← Array.length_toList, htj.zero_cells, htj.zl]
            obtain ⟨K', g1, g2, g3, g4⟩ := hR.newRow (vs := rep j.zero cn) (cs := (Array.range (cn * j.size)).map ((zeroVal j).cells[· % (zeroVal j).cells.size]!)) e (by
              rw [Array.toList_map, Array.toList_range]
              rw [show cn * j.size = cn * (zeroVal j).cells.size by rw [hsz]]
              rw [rep_range, htj.zero_cells]
              exact All2.refl _ (fun v hv => C1_plain (rep_plain htj.zp cn v hv)))
            simp only [execOp, Instr.makeSlice, Sem.run_bind, hu, Result.andThen_ok, h1, h2, asInt, asIntOf, Sem.run_pure, hinf, wrap_small (Nat.le_trans hb1 hb2), wrap_small hb2, if_neg hno, run_askRoom, htj.run_size w, Int.toNat_natCast, h0, if_false, htj.run_zero w, newRow, run_newObj]
            refine LPost.one h g1 ?_ g4
            rw [RV_slice (by unfold capU; omega)]
            exact ⟨rfl, g3, by simp [newBlk, g2]⟩
        · simp at h
      · simp at h
    · simp at h
  · simp at h

end
end Go.Sx
