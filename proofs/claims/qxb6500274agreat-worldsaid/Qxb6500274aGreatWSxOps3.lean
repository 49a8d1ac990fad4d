import Derived.Test.Qxb6500274aGreatWSxOps2
set_option linter.unusedSimpArgs false
namespace Go.Sx
open Go Go.RowKit

section
variable {P : Program} {E : Env} {cf : CallF} {f ρ : Operand → Value} {s : St} {L : List (Value × St)} {n0 : Base} {w0 w : World} {K : Kx}
  {dst : Option Tmp} {type : TypeId} {pos : String} {after : Array Edge} {guard : Option (Nat × Bool)}

theorem eff_buildSlice (hE : EnvOK P E) {t : TypeId} {len : Nat} {ps : Array (Nat × Operand)} (hR : Rep n0 w0 K s w) (hf : ∀ y, y ∈ (Op.buildSlice t len ps).operands → RV K (f y) (ρ y)) (h : aop0 E cf (.buildSlice t len ps) f s = some L) :
    ∃ v s' K' c w', L = [(v, s')] ∧ (∃ x, s' = s.new x) ∧ K.le K' ∧ RV K' v c ∧ Rep n0 w0 K' s' w' ∧ (execOp ρ ⟨dst, .buildSlice t len ps, type, pos, after, guard⟩).run P w = .ok (.value c) w' := by
  simp only [aop_T, aopT] at h
  split at h
  · rename_i i hi
    split at h
    · rename_i e hd
      split at h
      · rename_i j hj
        have hti := hE.ti t i hi
        have htj := hE.ti e j hj
        split at h
        · rename_i hb
          simp only [Bool.and_eq_true] at hb
          have hb1 := Nat.le_of_ble_eq_true hb.1
          have hb2 := small_le hb.2
          split at h
          · rename_i c hc
            have hu := hti.run_und w
            rw [hd] at hu
            have hno : ¬ (len * j.size > 2 ^ 24) := by omega
            have hrel : All2 (fun (p q : Nat × Value) => p.1 = q.1 ∧ RV K p.2 q.2) (ps.toList.map fun p => (p.1, f p.2)) (ps.map fun p => (p.1, ρ p.2)).toList := by
              rw [Array.toList_map]
              refine All2.map _ _ _ (fun p hp => ⟨rfl, hf p.2 ?_⟩)
              simp only [Op.operands]
              exact List.mem_toArray.2 (List.mem_map.2 ⟨p, hp, rfl⟩)
            have hex : execOp ρ ⟨dst, .buildSlice t len ps, type, pos, after, guard⟩ = (do let v ← Instr.buildSlice t len (ps.map fun p => (p.1, ρ p.2)); pure (.value v)) := rfl
            by_cases h0 : len * j.size = 0
            · have hnil : (rep j.zero len) = [] := by
                apply List.eq_nil_of_length_eq_zero
                rw [rep_length, htj.zl, h0]
              obtain ⟨cs', g1, g2⟩ := fill_conc (K := K) _ (fun i => some (i * j.size, j.size)) (fun j p hp => hp) _ _ (rep j.zero len) c ((Array.range (len * j.size)).map ((#[] : Array Value)[· % (#[] : Array Value).size]!)) hrel (by rw [hnil, h0]; simp; trivial) hc
              obtain ⟨K', k1, k2, k3, k4⟩ := hR.newRow (vs := c) (cs := cs') e g2
              refine ⟨_, _, K', .slice (some ⟨w.heap.size, 0, none⟩) len len, _, one_eq h, ⟨_, rfl⟩, k1, ?_, k4, ?_⟩
              · rw [RV_slice (by unfold capU; omega)]
                exact ⟨rfl, k3, by simp [newBlk, k2]⟩
              · rw [h0] at g1 hno
                simp only [hex, Instr.buildSlice, Sem.run_bind, hu, Result.andThen_ok, htj.run_size w, h0, if_neg hno, if_true, Sem.run_pure, g1, newRow, run_newObj]
            · have hsz : (zeroVal j).cells.size = j.size := by rw [← Array.length_toList, htj.zero_cells, htj.zl]
              obtain ⟨cs', g1, g2⟩ := fill_conc (K := K) _ (fun i => some (i * j.size, j.size)) (fun j p hp => hp) _ _ (rep j.zero len) c ((Array.range (len * j.size)).map ((zeroVal j).cells[· % (zeroVal j).cells.size]!)) hrel (by
                rw [Array.toList_map, Array.toList_range]
                rw [show len * j.size = len * (zeroVal j).cells.size by rw [hsz]]
                rw [rep_range, htj.zero_cells]
                exact All2.refl _ (fun v hv => C1_plain (rep_plain htj.zp len v hv))) hc
              obtain ⟨K', k1, k2, k3, k4⟩ := hR.newRow (vs := c) (cs := cs') e g2
              refine ⟨_, _, K', .slice (some ⟨w.heap.size, 0, none⟩) len len, _, one_eq h, ⟨_, rfl⟩, k1, ?_, k4, ?_⟩
              · rw [RV_slice (by unfold capU; omega)]
                exact ⟨rfl, k3, by simp [newBlk, k2]⟩
              · simp only [hex, Instr.buildSlice, Sem.run_bind, hu, Result.andThen_ok, htj.run_size w, if_neg hno, h0, if_false, htj.run_zero w, Sem.run_pure, g1, newRow, run_newObj]
          · simp at h
        · simp at h
      · simp at h
    · simp at h
  · simp at h

theorem eff_makeMap {t : TypeId} (hR : Rep n0 w0 K s w) (h : aop0 E cf (.makeMap t none) f s = some L) :
    OpPost P n0 w0 K L ((execOp ρ ⟨dst, .makeMap t none, type, pos, after, guard⟩).run P w) := by
  simp only [aop_T, aopT] at h
  have hm := hR.made (x := ⟨[], 2⟩) (o := .map #[] 0) 0 0 (by unfold BlkRep; rw [if_pos rfl]; exact ⟨#[], 0, rfl, trivial⟩)
  simp only [execOp, Instr.makeMap, Option.map_none, Sem.run_bind, run_newObj, Result.andThen_ok, Sem.run_pure]
  refine LPost.one h (Kx.le_grow _ _ _ _) ?_ hm
  rw [RV_map]
  refine ⟨by simp [newBlk, Kx.grow, hR.nx], by simp [newBlk, Kx.grow, hR.nx]⟩

theorem strMap_some (hE : EnvOK P E) {t : TypeId} {e : TI} (h : strMap E t = some e) : ∃ k et, P.underlying t = some (.map k et) ∧ P.underlying k = some .string ∧ TIOK P et e := by
  unfold strMap at h
  split at h
  · rename_i i hi
    split at h
    · rename_i k et hd
      split at h
      · rename_i j hj
        split at h
        · rename_i hd2
          refine ⟨k, et, ?_, ?_, hE.ti et e h⟩
          · rw [(hE.ti t i hi).und, hd]
          · rw [(hE.ti k j hj).und, hd2]
        · simp at h
      · simp at h
    · simp at h
  · simp at h

theorem mapFind_now {key : ByteArray} : ∀ (cells : List Value) (es : List MapEntry) (i : Nat), MapRel K cells es →
    (∀ v, mapFind key.data.toList cells = some v → ∃ n c, Instr.findNow .string (.string key) es i = some (some (n, c)) ∧ C1 K v c) ∧
    (mapFind key.data.toList cells = none → Instr.findNow .string (.string key) es i = some none)
  | [], [], i, _ => by simp [mapFind, Instr.findNow]
  | [], _ :: _, _, h => h.elim
  | [_], _, _, h => by simp [MapRel] at h
  | _ :: _ :: _, [], _, h => h.elim
  | k :: v :: l, e :: es, i, h => by
    obtain ⟨⟨st, hk, hek⟩, hv, hr⟩ := h
    subst hk
    have ih := mapFind_now (key := key) l es (i + 1) hr
    by_cases he : st.data.toList = key.data.toList
    · have he' : (key == st) = true := by
        rw [beq_toListBytes, ByteArray.toList_eq, ByteArray.toList_eq, he]
        simp
      simp only [mapFind, he, if_true, Instr.findNow, Instr.sameNow, hek, he']
      exact ⟨fun u hu => ⟨i, e.val, rfl, by simp at hu; subst hu; exact hv⟩, fun hh => by simp at hh⟩
    · have he' : (key == st) = false := by
        rw [beq_toListBytes, ByteArray.toList_eq, ByteArray.toList_eq]
        exact beq_eq_false_iff_ne.2 (fun e => he e.symm)
      simp only [mapFind, he, if_false, Instr.findNow, Instr.sameNow, hek, he']
      exact ih

theorem run_findKey {k : TypeId} (hk : P.underlying k = some .string) {key : ByteArray} {es : List MapEntry} {r : Option (Nat × Value)} (h : Instr.findNow .string (.string key) es 0 = some r) (w : World) :
    (Instr.findKey k (.string key) es).run P w = .ok r w := by
  simp only [Instr.findKey, Sem.run_bind, run_underlying hk, Result.andThen_ok, h, Sem.run_pure]

theorem run_checkKey {k : TypeId} (hk : P.underlying k = some .string) (b : Bool) (n : Nat) (key : ByteArray) (w : World) : (Instr.checkKey b (n + 1) k (.string key)).run P w = .ok () w := by
  simp only [Instr.checkKey, Sem.run_bind, run_underlying hk, Result.andThen_ok, Sem.run_pure]

theorem run_getMap {r : Nat} {es : Array MapEntry} {ck : Nat} (h : w.heap[r]? = some (.map es ck)) : (Go.getObj r).run P w = .ok (.map es ck) w := by
  simp [Go.getObj, Sem.run, h]

theorem eff_lookup (hE : EnvOK P E) {t : TypeId} {m k : Operand} {ok : Bool} (hR : Rep n0 w0 K s w) (hf : ∀ y, y ∈ (Op.lookup t m k ok).operands → RV K (f y) (ρ y)) (h : aop0 E cf (.lookup t m k ok) f s = some L) :
    OpPost P n0 w0 K L ((execOp ρ ⟨dst, .lookup t m k ok, type, pos, after, guard⟩).run P w) := by
  simp only [aop_T, aopT] at h
  split at h
  · rename_i e b key hsm hm hk
    obtain ⟨kt, et, hu1, hu2, hte⟩ := strMap_some hE hsm
    have h1 := hf m (by simp [Op.operands])
    have h2 := hf k (by simp [Op.operands])
    rw [hm, RV_map] at h1
    rw [hk, RV_string] at h2
    obtain ⟨_, h1⟩ := h1
    split at h
    · rename_i x hx
      obtain ⟨_, _, _, hb⟩ := hR.live b x hx
      split at h
      · rename_i _ v hkd hfind
        have hk2 : x.kind = 2 := Nat.eq_of_beq_eq_true hkd
        unfold BlkRep at hb
        rw [if_pos hk2] at hb
        obtain ⟨es, ck, ho, hrel⟩ := hb
        obtain ⟨n, c, hfn, hc⟩ := (mapFind_now (key := key) x.cells es.toList 0 hrel).1 v hfind
        have hrun : (execOp ρ ⟨dst, .lookup t m k true, type, pos, after, guard⟩).run P w = .ok (.value (.tuple #[c, .bool true])) w := by
          simp only [execOp, Instr.lookup, Sem.run_bind, run_underlying hu1, Result.andThen_ok, h1, h2, run_getMap ho, run_checkKey hu2, run_findKey hu2 hfn, Sem.run_pure, if_true]
        rw [hrun]
        refine LPost.one h (Kx.le_refl _) ?_ hR
        rw [RV_tuple]
        exact ⟨_, rfl, hc.r0, R0_plain rfl, trivial⟩
      · rename_i _ hkd hfind
        have hk2 : x.kind = 2 := Nat.eq_of_beq_eq_true hkd
        unfold BlkRep at hb
        rw [if_pos hk2] at hb
        obtain ⟨es, ck, ho, hrel⟩ := hb
        have hfn := (mapFind_now (key := key) x.cells es.toList 0 hrel).2 hfind
        have hrun : (execOp ρ ⟨dst, .lookup t m k true, type, pos, after, guard⟩).run P w = .ok (.value (.tuple #[zeroVal e, .bool false])) w := by
          simp only [execOp, Instr.lookup, Sem.run_bind, run_underlying hu1, Result.andThen_ok, h1, h2, run_getMap ho, run_checkKey hu2, run_findKey hu2 hfn, hte.run_zero w, Sem.run_pure, if_true]
        rw [hrun]
        refine LPost.one h (Kx.le_refl _) ?_ hR
        rw [RV_tuple]
        exact ⟨_, rfl, hte.r0 K, R0_plain rfl, trivial⟩
      · simp at h
    · simp at h
  · simp at h

theorem MapRel.snoc : ∀ {l : List Value} {es : List MapEntry} {key : ByteArray} {v c : Value} {n : Nat}, MapRel K l es → C1 K v c → MapRel K (l ++ [.string key, v]) (es ++ [⟨.string key, c, n⟩])
  | [], [], key, v, c, n, _, hv => ⟨⟨key, rfl, rfl⟩, hv, trivial⟩
  | [], _ :: _, _, _, _, _, h, _ => h.elim
  | [_], _, _, _, _, _, h, _ => by simp [MapRel] at h
  | _ :: _ :: _, [], _, _, _, _, h, _ => h.elim
  | _ :: _ :: _, _ :: _, _, _, _, _, h, hv => ⟨h.1, h.2.1, MapRel.snoc h.2.2 hv⟩

theorem eff_insert (hE : EnvOK P E) {t : TypeId} {m k v : Operand} (hR : Rep n0 w0 K s w) (hf : ∀ y, y ∈ (Op.insert t m k v).operands → RV K (f y) (ρ y)) (h : aop0 E cf (.insert t m k v) f s = some L) :
    OpPost P n0 w0 K L ((execOp ρ ⟨dst, .insert t m k v, type, pos, after, guard⟩).run P w) := by
  simp only [aop_T, aopT] at h
  split at h
  · rename_i e b key hsm hm hk
    obtain ⟨kt, et, hu1, hu2, hte⟩ := strMap_some hE hsm
    have h1 := hf m (by simp [Op.operands])
    have h2 := hf k (by simp [Op.operands])
    have h3 := hf v (by simp [Op.operands])
    rw [hm, RV_map] at h1
    rw [hk, RV_string] at h2
    obtain ⟨_, h1⟩ := h1
    split at h
    · rename_i x hx
      obtain ⟨_, _, hlt, hb⟩ := hR.live b x hx
      split at h
      · rename_i hkd hfind
        simp only [Bool.and_eq_true] at hkd
        have hk2 : x.kind = 2 := Nat.eq_of_beq_eq_true hkd.1
        unfold BlkRep at hb
        rw [if_pos hk2] at hb
        obtain ⟨es, ck, ho, hrel⟩ := hb
        have hfn := (mapFind_now (key := key) x.cells es.toList 0 hrel).2 hfind
        have hset : (Go.setObj (K.bl b) (.map (es.push { key := .string key, val := ρ v, born := ck }) (ck + 1))).run P w = .ok () { w with heap := w.heap.setIfInBounds (K.bl b) (.map (es.push { key := .string key, val := ρ v, born := ck }) (ck + 1)) } := by
          simp [Go.setObj, Sem.run, ho]
        have hrun : (execOp ρ ⟨dst, .insert t m k v, type, pos, after, guard⟩).run P w = .ok .skip { w with heap := w.heap.setIfInBounds (K.bl b) (.map (es.push { key := .string key, val := ρ v, born := ck }) (ck + 1)) } := by
          simp only [execOp, Instr.mapUpdate, Sem.run_bind, run_underlying hu1, Result.andThen_ok, h1, h2, run_getMap ho, run_checkKey hu2, run_findKey hu2 hfn, hset, Sem.run_pure]
        rw [hrun]
        refine LPost.one h (Kx.le_refl _) (by rw [RV_tuple]; exact ⟨_, rfl, trivial⟩) (hR.turned hx ?_)
        unfold BlkRep
        rw [if_pos rfl]
        exact ⟨_, _, rfl, by simpa using hrel.snoc (RV_C1 h3 hkd.2)⟩
      · simp at h
    · simp at h
  · simp at h

theorem bytes_of : ∀ {c cs : List Value} {bs : List UInt8}, All2 (C1 K) c cs → c.mapM (fun v => match v with | .int .u8 n => some (UInt8.ofNat n.toNat) | _ => none) = some bs →
    ∃ ns : List Int, cs = ns.map (Value.int .u8) ∧ bs = ns.map (fun n => UInt8.ofNat n.toNat)
  | [], [], bs, _, h => ⟨[], rfl, by simpa using h.symm⟩
  | [], _ :: _, _, h, _ => h.elim
  | _ :: _, [], _, h, _ => h.elim
  | a :: c, a' :: cs, bs, h, hm => by
    rw [List.mapM_cons] at hm
    simp only [Option.bind_eq_bind, Option.pure_def, Option.bind_eq_some_iff] at hm
    obtain ⟨b, hb, bs', hbs, he⟩ := hm
    simp at he
    subst he
    split at hb
    · rename_i n
      simp at hb
      subst hb
      have e := RV_int.1 h.1.rv
      subst e
      obtain ⟨ns, h1, h2⟩ := bytes_of h.2 hbs
      exact ⟨n :: ns, by simp [h1], by simp [h2]⟩
    · simp at hb

theorem push_list (ns : List Int) : ∀ (s : ByteArray), (ns.foldl (fun r n => r.push (UInt8.ofNat n.toNat)) s).data.toList = s.data.toList ++ ns.map (fun n => UInt8.ofNat n.toNat) := by
  induction ns with
  | nil => intro s; simp
  | cons n ns ih => intro s; simp [List.foldl_cons, ih]

theorem eff_convert (hE : EnvOK P E) {a b : TypeId} {x : Operand} (hR : Rep n0 w0 K s w) (hf : ∀ y, y ∈ (Op.convert a b x).operands → RV K (f y) (ρ y)) (h : aop0 E cf (.convert a b x) f s = some L) :
    ∃ v c, L = [(v, s)] ∧ RV K v c ∧ (execOp ρ ⟨dst, .convert a b x, type, pos, after, guard⟩).run P w = .ok (.value c) w := by
  have h1 := hf x (by simp [Op.operands])
  simp only [aop_T, aopT, aconv] at h
  split at h
  · rename_i i j hi hj
    split at h
    · rename_i k k' n hd hx
      refine ⟨_, _, one_eq h, RV_plain rfl, ?_⟩
      rw [hx, RV_int] at h1
      have hu := (hE.ti b j hj).run_und w
      rw [hd] at hu
      simp [execOp, convert, (hE.ti a i hi).run_und w, hu, h1, Conv.intToInt]
    · rename_i k n t sh hd hx
      split at h
      · rename_i v hv
        rw [hx] at h1
        unfold symConv at hv
        split at hv
        · rename_i k1 k2 e1 hk2
          injection e1 with e1
          subst e1
          obtain ⟨m, h2, h3, _⟩ := kindI_RV hk2 h1
          rw [h2] at h3
          simp at hv; subst hv
          refine ⟨_, .int k (k.wrap m), one_eq h, known_sound hR.kok (RV_symInt (wrap_wrap _ _) (Den_snoc1 h3 (fun st => by simp [tokOp, kindOf_N]))), ?_⟩
          have hu := (hE.ti b j hj).run_und w
          rw [hd] at hu
          simp [execOp, convert, (hE.ti a i hi).run_und w, hu, h2, Conv.intToInt]
        · simp at hv
      · simp at h
    · rename_i st hd hx
      refine ⟨_, _, one_eq h, RV_plain rfl, ?_⟩
      rw [hx, RV_string] at h1
      have hu := (hE.ti b j hj).run_und w
      rw [hd] at hu
      simp [execOp, convert, (hE.ti a i hi).run_und w, hu, h1]
    · rename_i n t sh hd hx
      split at h
      · rename_i m hd0 hm
        rw [hx] at h1
        obtain ⟨ss, h2, _, _⟩ := mostS_RV hm h1
        refine ⟨_, _, one_eq h, h1, ?_⟩
        have hu := (hE.ti b j hj).run_und w
        rw [hd] at hu
        simp [execOp, convert, (hE.ti a i hi).run_und w, hu, h2]
      · simp at h
    · rename_i e a' n cp hd1 hd2 hx
      have hu1 := (hE.ti a i hi).run_und w
      rw [hd1] at hu1
      have hu2 := (hE.ti b j hj).run_und w
      rw [hd2] at hu2
      rw [hx] at h1
      split at h
      · rename_i ei hei
        have hu3 := (hE.ti e ei hei).run_und w
        split at h
        · rename_i hde
          rw [hde] at hu3
          rw [RV_nilslice] at h1
          refine ⟨_, _, one_eq h, RV_plain rfl, ?_⟩
          simp only [execOp, convert, Sem.run_bind, hu1, hu2, hu3, Result.andThen_ok, h1, Conv.bytesToString, Sem.run_pure]
          rfl
        · rename_i p hde
          rw [hde] at hu3
          split at h
          · rename_i c hc
            split at h
            · rename_i bs hbs
              obtain ⟨cs, g1, g2, g3⟩ := hR.run_loadCells (P := P) hc
              obtain ⟨ns, g4, g5⟩ := bytes_of g1 hbs
              obtain ⟨_, _, k', h1⟩ := RV_sliceAny h1
              subst g4
              have hrun := run_bytesToString (P := P) w _ n k' ns g3
              refine ⟨_, .string ⟨⟨bs⟩⟩, one_eq h, RV_plain rfl, ?_⟩
              have hs : (ns.foldl (fun r n => r.push (UInt8.ofNat n.toNat)) ByteArray.empty) = ⟨⟨bs⟩⟩ := by
                apply ByteArray.ext
                apply Array.ext'
                rw [push_list, g5]
                simp
              rw [hs] at hrun
              simp only [execOp, convert, Sem.run_bind, hu1, hu2, hu3, Result.andThen_ok, h1, hrun, Sem.run_pure]
            · simp at h
          · simp at h
        · simp at h
      · simp at h
    · simp at h
  · simp at h

end
end Go.Sx
