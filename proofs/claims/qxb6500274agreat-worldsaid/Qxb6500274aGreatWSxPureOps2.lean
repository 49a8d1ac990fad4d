import Derived.Test.Qxb6500274aGreatWSxPureOps
import Derived.Laws.Tables
set_option linter.unusedSimpArgs false
namespace Go.Sx
open Go Go.RowKit

theorem fold_lay (off : Nat) : ∀ (l : List Value) (k : Nat) (cs : Array Value), off + k + l.length ≤ cs.size →
    ((l.zipIdx k).foldl (fun (cs : Array Value) (p : Value × Nat) => cs.setIfInBounds (off + p.2) p.1) cs).toList = cs.toList.take (off + k) ++ l ++ cs.toList.drop (off + k + l.length)
  | [], k, cs, _ => by simp
  | v :: l, k, cs, h => by
    simp only [List.zipIdx_cons, List.foldl_cons]
    rw [fold_lay off l (k + 1) _ (by simp at h ⊢; omega)]
    have e := list_seg_step cs.toList (off + k) v l (by simp at h ⊢; omega)
    simpa [Array.toList_setIfInBounds, Nat.add_assoc] using e

theorem fill_step (v : Value) (off : Nat) (cs : Array Value) (h : off + v.cells.size ≤ cs.size) :
    (v.cells.zipIdx.foldl (fun cs (p : Value × Nat) => cs.setIfInBounds (off + p.2) p.1) cs).toList = cs.toList.take off ++ v.cells.toList ++ cs.toList.drop (off + v.cells.size) := by
  rw [← Array.foldl_toList, Array.toList_zipIdx]
  have := fold_lay off v.cells.toList 0 cs (by simpa using h)
  simpa using this

theorem fill_conc {K : Kx} (pl pl' : Nat → Option (Nat × Nat)) (hpl : ∀ i p, pl i = some p → pl' i = some p) :
    ∀ (ps : List (Nat × Value)) (ps' : List (Nat × Value)) (c c' : List Value) (cs : Array Value),
      All2 (fun p q => p.1 = q.1 ∧ RV K p.2 q.2) ps ps' → All2 (C1 K) c cs.toList → fillParts pl c ps = some c' →
      ∃ cs', Instr.fill pl' cs ps' = some cs' ∧ All2 (C1 K) c' cs'.toList
  | [], [], c, c', cs, _, hc, h => by simp [fillParts] at h; subst h; exact ⟨cs, rfl, hc⟩
  | [], _ :: _, _, _, _, h, _, _ => h.elim
  | _ :: _, [], _, _, _, h, _, _ => h.elim
  | (i, v) :: ps, (i', v') :: ps', c, c', cs, hp, hc, h => by
    obtain ⟨⟨h1, h2⟩, h3⟩ := hp
    simp only at h1 h2
    subst h1
    simp only [fillParts] at h
    split at h
    · simp at h
    · rename_i off sz hpi
      split at h
      · rename_i hok
        simp only [Bool.and_eq_true] at hok
        split at h
        · rename_i c1 hl
          have hcells := RV_cells h2 hok.1
          have hlen : v'.cells.size = sz := by
            have e1 := hcells.length
            have e2 := Nat.eq_of_beq_eq_true hok.2
            simp at e1
            omega
          obtain ⟨h5, h6⟩ := layAt_some _ _ _ _ hl
          have hcl := hc.length
          have hle : off + v'.cells.size ≤ cs.size := by
            have e1 := hcells.length
            simp at e1 hcl
            omega
          have hstep := fill_step v' off cs hle
          obtain ⟨cs', h7, h8⟩ := fill_conc pl pl' hpl ps ps' c1 c' (v'.cells.zipIdx.foldl (fun cs (p : Value × Nat) => cs.setIfInBounds (off + p.2) p.1) cs) h3 (by
            rw [hstep, h6]
            have e1 := hcells.length
            rw [show off + (cellsOf v).length = off + v'.cells.size by simp at e1; omega]
            exact ((hc.take _).append hcells).append (hc.drop _)) h
          refine ⟨cs', ?_, h8⟩
          simp only [Instr.fill, hpl i _ hpi, hlen]
          rw [if_neg (by simp; omega)]
          exact h7
        · simp at h
      · simp at h

section
variable {P : Program} {E : Env} {cf : CallF} {f : Operand → Value} {s : St} {L : List (Value × St)}
  {dst : Option Tmp} {type : TypeId} {pos : String} {after : Array Edge} {guard : Option (Nat × Bool)}

theorem places_exist (fs : List Field) (h : ∀ (j : Nat) (fd : Field), fs[j]? = some fd → ∃ inf, P.info? fd.type = some inf) :
    ∃ pl, fs.mapM (fun f => (P.info? f.type).map fun i => (f.offset, i.size)) = some pl ∧ ∀ (j : Nat) (fd : Field) (inf : TypeInfo), fs[j]? = some fd → P.info? fd.type = some inf → pl[j]? = some (fd.offset, inf.size) := by
  induction fs with
  | nil => exact ⟨[], rfl, by simp⟩
  | cons g fs ih =>
    obtain ⟨inf, hinf⟩ := h 0 g rfl
    obtain ⟨pl, h1, h2⟩ := ih (fun j fd hj => h (j + 1) fd (by simpa using hj))
    refine ⟨(g.offset, inf.size) :: pl, by simp [List.mapM_cons, hinf, h1], ?_⟩
    intro j fd i hj hi
    cases j with
    | zero => simp at hj; subst hj; rw [hinf] at hi; simp at hi; subst hi; simp
    | succ j => simpa using h2 j fd i (by simpa using hj) hi

theorem sizeOfT_info (hE : EnvOK P E) {t : TypeId} {n : Nat} (h : sizeOfT E t = some n) : ∃ inf, P.info? t = some inf ∧ inf.size = n := by
  unfold sizeOfT at h
  simp only [Option.map_eq_some_iff] at h
  obtain ⟨i, h1, h2⟩ := h
  obtain ⟨inf, h3, h4, _⟩ := (hE.ti t i h1).info
  exact ⟨inf, h3, by rw [h4, h2]⟩

theorem pure_build (hE : EnvOK P E) {t : TypeId} {ps : Array (Nat × Operand)} (h : aop0 E cf (.build t ps) f s = some L) :
    ∃ v, L = [(v, s)] ∧ PureAt P ⟨dst, .build t ps, type, pos, after, guard⟩ f s v := by
  simp only [aop_T, aopT] at h
  split at h
  · rename_i i hi
    have hti := hE.ti t i hi
    obtain ⟨inf, hinf, _, hz, _⟩ := hti.info
    have hzc : ∀ K : Kx, All2 (C1 K) i.zero (zeroVal i).cells.toList := fun K => by
      rw [hti.zero_cells]
      exact All2.refl _ (fun v hv => C1_plain (hti.zp v hv))
    have hrel : ∀ (K : Kx) (ρ : Operand → Value), (∀ x, x ∈ (Op.build t ps).operands → RV K (f x) (ρ x)) →
        All2 (fun (p q : Nat × Value) => p.1 = q.1 ∧ RV K p.2 q.2) (ps.toList.map fun p => (p.1, f p.2)) (ps.map fun (i, x) => (i, ρ x)).toList := by
      intro K ρ hf
      rw [Array.toList_map]
      refine All2.map _ _ _ (fun p hp => ⟨rfl, hf p.2 ?_⟩)
      simp only [Op.operands]
      exact List.mem_toArray.2 (List.mem_map.2 ⟨p, hp, rfl⟩)
    split at h
    · rename_i fs hd
      split at h
      · rename_i c hc
        refine ⟨_, one_eq h, fun K ρ hk hf => ?_⟩
        obtain ⟨pl, hpl1, hpl2⟩ := places_exist (P := P) fs.toList (fun j fd hj => by
          obtain ⟨inf, h1, _⟩ := hE.fld t i fs j fd hi hd hj
          exact ⟨inf, h1⟩)
        obtain ⟨cs', h1, h2⟩ := fill_conc (K := K) _ (fun j => pl[j]?) (fun j p hp => by
          split at hp
          · rename_i fd hfd
            simp only [Option.map_eq_some_iff] at hp
            obtain ⟨z, hz1, hz2⟩ := hp
            obtain ⟨inf, h3, h4⟩ := sizeOfT_info hE hz1
            rw [hpl2 j fd inf hfd h3, ← hz2, h4]
          · simp at hp) _ _ i.zero c (zeroVal i).cells (hrel K ρ hf) (hzc K) hc
        refine ⟨.agg cs', by rw [RV_agg]; exact ⟨_, rfl, h2⟩, fun w => ?_⟩
        have hb : P.built t (ps.map fun (i, x) => (i, ρ x)).toList = some cs' := by
          have hu := hti.und
          rw [hd] at hu
          simp only [Program.built, hinf, hu, hz, hpl1]
          simpa using h1
        simp only [execOp, Sem.run_bind, run_build w t _ cs' hb, Result.andThen_ok, Sem.run_pure]
      · simp at h
    · rename_i n e hd
      split at h
      · rename_i z hz1
        split at h
        · rename_i c hc
          refine ⟨_, one_eq h, fun K ρ hk hf => ?_⟩
          obtain ⟨ie, h3, h4⟩ := sizeOfT_info hE hz1
          obtain ⟨cs', h1, h2⟩ := fill_conc (K := K) _ (fun i => some (i * ie.size, ie.size)) (fun j p hp => by rw [h4]; exact hp) _ _ i.zero c (zeroVal i).cells (hrel K ρ hf) (hzc K) hc
          refine ⟨.agg cs', by rw [RV_agg]; exact ⟨_, rfl, h2⟩, fun w => ?_⟩
          have hb : P.built t (ps.map fun (i, x) => (i, ρ x)).toList = some cs' := by
            have hu := hti.und
            rw [hd] at hu
            simp only [Program.built, hinf, hu, hz, h3]
            exact h1
          simp only [execOp, Sem.run_bind, run_build w t _ cs' hb, Result.andThen_ok, Sem.run_pure]
        · simp at h
      · simp at h
    · simp at h
  · simp at h

/- slicing -/
theorem bound_run {x : Option Value} {cx : Option Value} {d most n : Nat} {K : Kx} (h : bound x d most = some n) (hx : ∀ v, x = some v → ∃ c, cx = some c ∧ RV K v c) (hn : x = none → cx = none) :
    (x = none ∧ cx = none ∧ n = d) ∨ (∃ k, cx = some (.int k n) ∧ n ≤ most) := by
  unfold bound at h
  split at h
  · simp at h; exact .inl ⟨rfl, hn rfl, h.symm⟩
  · rename_i v
    split at h
    · rename_i m hm
      split at h
      · rename_i hle
        simp at h
        subst h
        obtain ⟨c, h1, h2⟩ := hx v rfl
        obtain ⟨k, h3⟩ := natOf_some hm
        rw [h3, RV_int] at h2
        exact .inr ⟨k, by rw [h1, h2], hle⟩
      · simp at h
    · simp at h

theorem run_sliceBound {k : IntKind} {n y : Nat} (h : n ≤ y) (code : BoundsCode) (w : World) : (Instr.sliceBound (.int k n) y code).run P w = .ok n w := by
  have hc : (0 : Int) ≤ (n : Int) ∧ (n : Int) ≤ (y : Int) := by omega
  simp only [Instr.sliceBound, asIntOf, Sem.run_bind, Sem.run_pure, Result.andThen_ok, Sem.run_ite, if_pos hc, Int.toNat_natCast]

theorem run_sliceBounds {isS : Bool} {len cap m h l : Nat} {lo hi mx lo' hi' mx' : Option Value} {K : Kx}
    (hm : bound mx cap cap = some m) (hh : bound hi len m = some h) (hl : bound lo 0 h = some l) (hhi : hi = none → mx = none)
    (r1 : ∀ v, lo = some v → ∃ c, lo' = some c ∧ RV K v c) (r2 : ∀ v, hi = some v → ∃ c, hi' = some c ∧ RV K v c) (r3 : ∀ v, mx = some v → ∃ c, mx' = some c ∧ RV K v c)
    (n1 : lo = none → lo' = none) (n2 : hi = none → hi' = none) (n3 : mx = none → mx' = none) (w : World) :
    (Instr.sliceBounds isS len cap lo' hi' mx').run P w = .ok (l, h, m) w := by
  rcases bound_run hm r3 n3 with ⟨e1, e2, e3⟩ | ⟨k1, e2, e3⟩
  · rcases bound_run hh r2 n2 with ⟨f1, f2, f3⟩ | ⟨k2, f2, f3⟩
    · rcases bound_run hl r1 n1 with ⟨g1, g2, g3⟩ | ⟨k3, g2, g3⟩
      · subst e2; subst f2; subst g2; subst e3; subst f3; subst g3
        simp [Instr.sliceBounds]
      · subst e2; subst f2; subst g2; subst e3; subst f3
        simp [Instr.sliceBounds, run_sliceBound g3]
    · rcases bound_run hl r1 n1 with ⟨g1, g2, g3⟩ | ⟨k3, g2, g3⟩
      · subst e2; subst f2; subst g2; subst e3; subst g3
        simp [Instr.sliceBounds, run_sliceBound f3]
      · subst e2; subst f2; subst g2; subst e3
        simp [Instr.sliceBounds, run_sliceBound f3, run_sliceBound g3]
  · rcases bound_run hh r2 n2 with ⟨f1, f2, f3⟩ | ⟨k2, f2, f3⟩
    · have := hhi f1
      subst this
      have := n3 rfl
      rw [this] at e2
      simp at e2
    · rcases bound_run hl r1 n1 with ⟨g1, g2, g3⟩ | ⟨k3, g2, g3⟩
      · subst e2; subst f2; subst g2; subst g3
        simp [Instr.sliceBounds, run_sliceBound e3, run_sliceBound f3]
      · subst e2; subst f2; subst g2
        simp [Instr.sliceBounds, run_sliceBound e3, run_sliceBound f3, run_sliceBound g3]

theorem extract_list (s : ByteArray) (l h : Nat) : s.extract l h = ⟨⟨(s.data.toList.drop l).take (h - l)⟩⟩ := by
  apply ByteArray.ext
  rw [ByteArray.data_extract]
  apply Array.ext'
  simp [List.take_drop, List.extract_eq_take_drop]

theorem small_le {n : Nat} (h : small n = true) : n ≤ 4294967296 := Nat.le_of_ble_eq_true h

theorem pure_slice (hE : EnvOK P E) {t : TypeId} {x : Operand} {lo hi mx : Option Operand} (h : aop0 E cf (.slice t x lo hi mx) f s = some L) :
    ∃ v, L = [(v, s)] ∧ PureAt P ⟨dst, .slice t x lo hi mx, type, pos, after, guard⟩ f s v := by
  simp only [aop_T, aopT] at h
  split at h
  · rename_i v hv
    refine ⟨v, one_eq h, fun K ρ hk hf => ?_⟩
    have hx := hf x (by simp [Op.operands])
    have hmem : ∀ (o : Option Operand), (∀ y, o = some y → y ∈ (Op.slice t x lo hi mx).operands) →
        (∀ u, o.map f = some u → ∃ c, o.map ρ = some c ∧ RV K u c) ∧ (o.map f = none → o.map ρ = none) := by
      intro o ho
      cases o with
      | none => simp
      | some y => simp; exact hf y (ho y rfl)
    obtain ⟨r1, n1⟩ := hmem lo (fun y e => by subst e; simp [Op.operands])
    obtain ⟨r2, n2⟩ := hmem hi (fun y e => by subst e; simp [Op.operands])
    obtain ⟨r3, n3⟩ := hmem mx (fun y e => by subst e; simp [Op.operands])
    unfold aslice at hv
    split at hv
    · simp at hv
    · rename_i hnm
      have hhi : hi.map f = none → mx.map f = none := by
        intro e
        rw [e] at hnm
        simpa using hnm
      split at hv
      · simp at hv
      · rename_i i hi'
        have hti := hE.ti t i hi'
        split at hv
        · rename_i st hd hfx
          rw [hfx, RV_string] at hx
          split at hv
          · simp at hv
          · rename_i hmx
            split at hv
            · simp at hv
            · rename_i hh hbh
              split at hv
              · simp at hv
              · rename_i ll hbl
                simp at hv
                subst hv
                refine ⟨_, RV_plain rfl, fun w => ?_⟩
                have hu := hti.run_und w
                rw [hd] at hu
                have hb : bound (none : Option Value) st.data.toList.length st.data.toList.length = some st.data.toList.length := rfl
                have hrun := run_sliceBounds (P := P) (isS := false) (mx := none) (mx' := none) (lo' := lo.map ρ) (hi' := hi.map ρ) hb hbh hbl (fun _ => rfl) r1 r2 (by simp) n1 n2 (fun _ => rfl) w
                have hsz : st.size = st.data.toList.length := by simp
                simp only [execOp, Instr.sliceAt, Instr.slice, Sem.run_bind, hu, Result.andThen_ok, hx, n3 hmx, Option.isSome_none, Bool.false_eq_true, if_false, hsz, hrun, Sem.run_pure, extract_list]
        · rename_i e a len cp hd hfx
          rw [hfx] at hx
          split at hv
          · rename_i sz hsz hsm
            have hsm' := small_le hsm
            split at hv
            · simp at hv
            · rename_i m hbm
              split at hv
              · simp at hv
              · rename_i hh hbh
                split at hv
                · simp at hv
                · rename_i ll hbl
                  simp at hv
                  subst hv
                  have hmc : m ≤ cp := by
                    rcases bound_run hbm r3 n3 with ⟨_, _, e3⟩ | ⟨_, _, e3⟩ <;> omega
                  have hcap : m - ll ≠ capU := by unfold capU; omega
                  have hcpne : cp ≠ capU := by unfold capU; omega
                  cases a with
                  | none =>
                    rw [RV_nilslice] at hx
                    refine ⟨.slice none (hh - ll) (m - ll), by simp [RV_nilslice], fun w => ?_⟩
                    have hu := hti.run_und w
                    rw [hd] at hu
                    have hrun := run_sliceBounds (P := P) (isS := true) hbm hbh hbl hhi r1 r2 r3 n1 n2 n3 w
                    simp only [execOp, Instr.sliceAt, Instr.slice, Sem.run_bind, hu, Result.andThen_ok, hx, hrun, Sem.run_pure, sizeOfT_some hE hsz w, Option.map_none, ite_self]
                  | some a =>
                    rw [RV_slice hcpne] at hx
                    obtain ⟨hsp, hbk, hx⟩ := hx
                    refine ⟨.slice (some (if m = ll then ⟨K.bl a.block, a.off, none⟩ else ⟨K.bl a.block, a.off + ll * sz, none⟩)) (hh - ll) (m - ll), ?_, fun w => ?_⟩
                    · by_cases hml : m = ll
                      · simp only [hml, if_true, Nat.sub_self]
                        rw [RV_slice (by unfold capU; omega)]
                        exact ⟨hsp, hbk, rfl⟩
                      · simp only [hml, if_false, Option.map_some]
                        rw [RV_slice hcap]
                        exact ⟨rfl, hbk, rfl⟩
                    · have hu := hti.run_und w
                      rw [hd] at hu
                      have hrun := run_sliceBounds (P := P) (isS := true) hbm hbh hbl hhi r1 r2 r3 n1 n2 n3 w
                      simp only [execOp, Instr.sliceAt, Instr.slice, Sem.run_bind, hu, Result.andThen_ok, hx, hrun, Sem.run_pure, sizeOfT_some hE hsz w, Option.map_some, add_addr]
                      by_cases hml : m = ll <;> simp [hml]
          · simp at hv
        · rename_i n e a hd hfx
          rw [hfx, RV_ptr] at hx
          obtain ⟨hsp, hbk, hx⟩ := hx
          split at hv
          · rename_i sz hsz hsm
            have hsm' := small_le hsm
            split at hv
            · simp at hv
            · rename_i m hbm
              split at hv
              · simp at hv
              · rename_i hh hbh
                split at hv
                · simp at hv
                · rename_i ll hbl
                  simp at hv
                  subst hv
                  have hmc : m ≤ n := by
                    rcases bound_run hbm r3 n3 with ⟨_, _, e3⟩ | ⟨_, _, e3⟩ <;> omega
                  have hcap : m - ll ≠ capU := by unfold capU; omega
                  refine ⟨.slice (some (if m = ll then ⟨K.bl a.block, a.off, none⟩ else ⟨K.bl a.block, a.off + ll * sz, none⟩)) (hh - ll) (m - ll), ?_, fun w => ?_⟩
                  · by_cases hml : m = ll
                    · simp only [hml, if_true, Nat.sub_self]
                      rw [RV_slice (by unfold capU; omega)]
                      exact ⟨hsp, hbk, rfl⟩
                    · simp only [hml, if_false]
                      rw [RV_slice hcap]
                      exact ⟨rfl, hbk, rfl⟩
                  · have hu := hti.run_und w
                    rw [hd] at hu
                    have hrun := run_sliceBounds (P := P) (isS := false) hbm hbh hbl hhi r1 r2 r3 n1 n2 n3 w
                    simp only [execOp, Instr.sliceAt, Sem.run_bind, hu, Result.andThen_ok, hx, hrun, Sem.run_pure, sizeOfT_some hE hsz w, Instr.sureAddr, add_addr]
          · simp at hv
        · simp at hv
  · split at h
    · rename_i v hv
      refine ⟨v, one_eq h, fun K ρ hk hf => ?_⟩
      have hx := hf x (by simp [Op.operands])
      unfold acut at hv
      split at hv
      · rename_i i n a sh hh hi' hfx hlo hhi hmx
        have hti := hE.ti t i hi'
        split at hv
        · rename_i e p l c m hd hta hts hn
          split at hv
          · rename_i sz hsz hsm
            simp only [Bool.and_eq_true] at hsm
            have hle := Nat.le_of_ble_eq_true hsm.2
            simp at hv
            subst hv
            rw [hfx, RV_sym, hta, hts] at hx
            obtain ⟨q, l1, k1, l', e1, e2, e3, e4, e5, e6⟩ := hx
            simp at e1
            obtain ⟨rfl, rfl, rfl⟩ := e1
            have elo : lo = none := by cases lo <;> simp_all
            have emx : mx = none := by cases mx <;> simp_all
            obtain ⟨ho, rfl, eho⟩ : ∃ ho, hi = some ho ∧ f ho = hh := by cases hi <;> simp_all
            subst elo; subst emx
            obtain ⟨kk, h3⟩ := natOf_some hn
            have hho := hf ho (by simp [Op.operands])
            rw [eho, h3, RV_int] at hho
            refine ⟨.slice (some ⟨K.bl p.block, p.off, none⟩) m c, ?_, fun w => ?_⟩
            · rw [RV_slice e4]
              exact ⟨e2, e3, rfl⟩
            · have hu := hti.run_und w
              rw [hd] at hu
              have hb : (Instr.sliceBounds true l' c none (some (.int kk m)) none).run P w = .ok (0, m, c) w := by
                simp [Instr.sliceBounds, run_sliceBound hle]
              simp only [execOp, Instr.sliceAt, Instr.slice, Sem.run_bind, hu, Result.andThen_ok, e6, Option.map_none, Option.map_some, hho, hb, Sem.run_pure, sizeOfT_some hE hsz w, add_addr]
              simp
          · simp at hv
        · simp at hv
      · simp at hv
    · simp at h

end
end Go.Sx
