import Derived.Test.Qxb6500275aGreatDoorAp4
import Derived.Test.Qxb6500275aGreatDoorDec1
import Derived.Lib.AppendStr
set_option maxRecDepth 100000
set_option linter.unusedVariables false
set_option linter.unusedSimpArgs false
namespace Go.Proofs.Qxb6500275aGreatDoor
open Go Go.RowKit Go.Lib
/- a list of bytes laid behind the buffer -/
section
variable {w u : World} {b1 cap1 t : Nat} {l : List Int}
theorem Bs.put (h : Bs w u b1 cap1 l) {U : World} (hU : Kp (fun _ => False) u U) {u' : World} {b' cap' : Nat} {xs : List Int} (hn : l.length = t) {D : Nat → Value} (hD : ∀ (i : Nat) (x : Int), l[i]? = some x → D i = .int .u8 x) (h2 : Ap U u' b1 t cap1 D (xs.map (fun x => Value.int .u8 x)) b' cap') : Bs w u' b' cap' (l ++ xs) := by
  have hka : Kp (fun _ => False) w U := h.kp.trans hU
  have hb := h.hb
  have hsz : w.heap.size ≤ U.heap.size := hka.size
  refine ⟨hka.later h2.kp (fun j hj => .inr (by omega)), ?_, ?_, ?_⟩
  · rcases h2.at_ with e | e <;> omega
  · obtain ⟨D', e1, e2, e3⟩ := h2.blk
    refine ⟨D', e1, fun i y hi => ?_⟩
    by_cases hl : i < l.length
    · rw [List.getElem?_append_left hl] at hi
      rw [e2 i (by omega)]
      exact hD i y hi
    · rw [List.getElem?_append_right (by omega)] at hi
      have := e3 (i - l.length) (.int .u8 y) (by rw [List.getElem?_map, hi]; rfl)
      rw [← this]
      congr 1
      omega
  · have := h2.capl
    simp at this ⊢
    omega
theorem Bs.appN (h : Bs w u b1 cap1 l) (hn : l.length = t) {U : World} (hU : Kp (fun _ => False) u U) (a : Addr) (c : Nat) (xs : List Int) (hx : ∀ j x, xs[j]? = some x → U.cell? (a.add j) = some (.int .u8 x)) (ht : t + xs.length ≤ 100000) :
    ∃ r : Nat × Nat × World, (Builtin.append_ #[104, 104] 104 #[.slice (some ⟨b1, 0, none⟩) t cap1, .slice (some a) xs.length c]).run Tryz.prog U = .ok (.slice (some ⟨r.1, 0, none⟩) (t + xs.length) r.2.1) r.2.2 ∧ Bs w r.2.2 r.1 r.2.1 (l ++ xs) := by
  obtain ⟨D, d1, d2⟩ := h.blk
  have hc := h.cp
  obtain ⟨b', cap', w', h1, h2⟩ := app_u8 U 104 (d1.keep hU (fun h => h)) (len := t) (by omega) a c (xs.map (fun x => Value.int .u8 x)) (fun j u9 hu => by
    rw [List.getElem?_map] at hu
    cases hxj : xs[j]? with
    | none => rw [hxj] at hu; simp at hu
    | some x => rw [hxj] at hu; simp at hu; subst hu; exact hx j x hxj) (fun u9 hu => by
    obtain ⟨x, _, rfl⟩ := List.mem_map.1 hu
    rfl) (by simp; omega)
  rw [List.length_map] at h1
  exact ⟨⟨b', cap', w'⟩, h1, h.put hU hn d2 h2⟩
theorem run_append_room_strC {P : Program} (w : World) (t u ty e : TypeId) (i : TypeInfo) (ht : P.underlying t = some (.slice e)) (hu : P.underlying u = some .string) (hi : P.info? e = some i) (hs1 : i.size = 1)
    (b sLen sCap : Nat) (s : ByteArray) (hroom : sLen + s.size ≤ sCap) (hc : ∀ j, j < (strCells s).length → (w.cell? ⟨b, sLen + j, none⟩).isSome = true) (hf : ∀ j, j < (strCells s).length → w.frozen? ⟨b, sLen + j, none⟩ = false) :
    (Builtin.append_ #[t, u] ty #[.slice (some ⟨b, 0, none⟩) sLen sCap, .string s]).run P w = .ok (.slice (some ⟨b, 0, none⟩) (sLen + s.size) sCap) (w.setCells b sLen (strCells s)) := by
  have hfc := run_firstCells_string (P := P) w 1 s
  have hst := run_storeCells_cells (P := P) b sLen (strCells s) 0 w (by simpa using hc) (by simpa using hf) (strCells_oneCell s)
  simp only [Nat.add_zero] at hst
  simp [Builtin.append_, run_underlying ht, run_underlying hu, sizeOf, typeInfo, hi, hs1, Builtin.lenOf, hroom, hfc, Addr.add_lit, hst]
theorem strCells_eq (s : ByteArray) : strCells s = (s.data.toList.map (fun c => (c.toNat : Int))).map (fun x => Value.int .u8 x) := by
  unfold strCells
  simp
theorem Bs.appStr (h : Bs w u b1 cap1 l) (hn : l.length = t) (s : ByteArray) (ht : t + s.size ≤ 100000) :
    ∃ r : Nat × Nat × World, (Builtin.append_ #[104, 9] 104 #[.slice (some ⟨b1, 0, none⟩) t cap1, .string s]).run Tryz.prog u = .ok (.slice (some ⟨r.1, 0, none⟩) (t + s.size) r.2.1) r.2.2 ∧ Bs w r.2.2 r.1 r.2.1 (l ++ s.data.toList.map (fun c => (c.toNat : Int))) := by
  obtain ⟨D, d1, d2⟩ := h.blk
  have hc := h.cp
  obtain ⟨i, h2, h3, h4, h5⟩ := i5
  have u9 : Tryz.prog.underlying 9 = some .string := by kernel_rfl
  have hsl := strCells_length s
  by_cases hroom : t + s.size ≤ cap1
  · have hl := run_append_room_strC (P := Tryz.prog) u 104 9 104 5 i u5 u9 h2 h4 b1 t cap1 s hroom (fun j hj => by rw [d1.cell (by omega)]; rfl) (fun j hj => d1.fz (by omega))
    obtain ⟨D', e1, e2, e3, e4⟩ := blk_lay (strCells s) t u D d1 (by omega)
    have hap : Ap u (u.setCells b1 t (strCells s)) b1 t cap1 D (strCells s) b1 cap1 := ⟨kpS _ _ _ _, ⟨D', e1, e2, e3⟩, by omega, fun _ => ⟨rfl, rfl⟩, .inl rfl⟩
    exact ⟨⟨b1, cap1, _⟩, hl, h.put (xs := s.data.toList.map (fun c => (c.toNat : Int))) (Kp.refl _ _) hn d2 (by rw [← strCells_eq]; exact hap)⟩
  · have hge := grownCap_ge u (t + s.size) cap1 5
    have hl := run_append_grow_string (P := Tryz.prog) u 104 9 104 5 i (.int .u8 0) u5 u9 h2 h3 ⟨b1, 0, none⟩ t cap1 ((List.range t).map D) (by simp [h4]) (fun j v hv => by
      rw [List.getElem?_map] at hv
      by_cases hj : j < t
      · rw [List.getElem?_range hj] at hv
        simp at hv
        rw [add_non, Nat.zero_add, d1.cell (by omega), hv]
      · rw [List.getElem?_eq_none (by simp; omega)] at hv
        simp at hv) s (by omega) (by omega) (growslice_fits (by omega) (by rw [h5]; omega))
    refine ⟨⟨u.heap.size, grownCap u (t + s.size) cap1 5, _⟩, hl, ?_⟩
    have hap : Ap u (u.drew.alloc (.cells (((List.range t).map D).toArray ++ (strCells s).toArray ++ Builtin.zeroCells (Value.int .u8 0).cells (grownCap u (t + s.size) cap1 5 - (t + s.size))) 5)) b1 t cap1 D (strCells s) u.heap.size (grownCap u (t + s.size) cap1 5) := by
      have hcs : (((List.range t).map D).toArray ++ (strCells s).toArray ++ Builtin.zeroCells (Value.int .u8 0).cells (grownCap u (t + s.size) cap1 5 - (t + s.size))).size = grownCap u (t + s.size) cap1 5 := by
        have hz : (Value.int IntKind.u8 0).cells.size = 1 := rfl
        simp only [Array.size_append, List.size_toArray, size_zeroCells, hz, List.length_map, List.length_range, hsl]
        omega
      have hel : ∀ k v, ((List.range t).map D ++ strCells s)[k]? = some v → (((List.range t).map D).toArray ++ (strCells s).toArray ++ Builtin.zeroCells (Value.int .u8 0).cells (grownCap u (t + s.size) cap1 5 - (t + s.size)))[k]! = v := fun k v hv => by
        have hk := (List.getElem?_eq_some_iff.1 hv).1
        rw [getElem!_def, Array.getElem?_append_left (by simpa using hk)]
        have : (((List.range t).map D).toArray ++ (strCells s).toArray)[k]? = some v := by rw [← Array.getElem?_toList]; simpa using hv
        rw [this]
      have hba := blk_alloc u.drew (((List.range t).map D).toArray ++ (strCells s).toArray ++ Builtin.zeroCells (Value.int .u8 0).cells (grownCap u (t + s.size) cap1 5 - (t + s.size))) 5
      rw [hcs] at hba
      refine ⟨(Kp.refl (fun k => k = b1) u).drew.alloc _, ⟨_, hba, fun k hk => ?_, fun k v hv => ?_⟩, by omega, fun h => absurd h (by omega), .inr (Nat.le_refl _)⟩
      · refine hel k (D k) ?_
        rw [List.getElem?_append_left (by simp; exact hk), List.getElem?_map, List.getElem?_range hk]
        rfl
      · refine hel (t + k) v ?_
        rw [List.getElem?_append_right (by simp)]
        simpa using hv
    exact h.put (xs := s.data.toList.map (fun c => (c.toNat : Int))) (Kp.refl _ _) hn d2 (by rw [← strCells_eq]; exact hap)
end
theorem wpList_app2 {P : Program} {ops : Array Oper} {rest : List Oper} {o : Oper} {a : Act} {Q : Exit → Act → World → Prop} {w w' : World} {v' : Value} (hgd : o.guard = none) (s x : Operand) (t t2 : TypeId)
    (ho : o.op = .call { callee := .builtin .append, args := #[s, x], argTypes := #[t, t2] })
    (hr : (Builtin.append_ #[t, t2] o.type #[a.eval s, a.eval x]).run P w = .ok v' w') (h : wpList P ops Q rest (a.put o.dst v') w') : wpList P ops Q (o :: rest) a w := by
  refine wpList_plain hgd fun K hK => ?_
  unfold Oper.wp execOp
  simp only [ho, resolve, invoke, builtin, Sem.run_bind, Sem.run_pure, Result.andThen_ok, List.map_toArray, List.map_cons, List.map_nil, hr]
  exact hK _ _ h
end Go.Proofs.Qxb6500275aGreatDoor
