import Derived.Test.Qxb6500274aGreatWSxOps6
set_option linter.unusedSimpArgs false
namespace Go.Sx
open Go Go.RowKit

/- STRINGS OF KNOWN LENGTH -/
section
variable {K : Kx}

theorem u8_nat (b : UInt8) : UInt8.ofNat ((b.toNat : Int)).toNat = b := by
  simp

theorem ByteRel.den {a : Value} {b : UInt8} (h : ByteRel K a b) : Den K (toks a) (.int .u8 b.toNat) := by
  unfold ByteRel at h
  split at h
  · exact h.2
  · subst h
    intro st
    rfl

theorem u8_inj {a b : UInt8} (h : Value.int .u8 a.toNat = .int .u8 b.toNat) : a = b := by
  injection h with _ h
  have h : a.toNat = b.toNat := by omega
  exact UInt8.toNat_inj.1 h

theorem bytes_const : ∀ (l : List UInt8), All2 (ByteRel K) (l.map byteVal) l
  | [] => trivial
  | _ :: l => ⟨rfl, bytes_const l⟩

theorem bytesS_RV {v c : Value} {cs : List Value} (h : bytesS v = some cs) (hv : RV K v c) : ∃ s, c = .string s ∧ All2 (ByteRel K) cs s.data.toList := by
  unfold bytesS at h
  split at h
  · rename_i s
    rw [RV_string] at hv
    simp at h
    subst h
    exact ⟨s, hv, bytes_const _⟩
  · rename_i n t sh
    rw [RV_sym] at hv
    split at h
    · rename_i z hz
      simp at h
      subst h
      rw [hz] at hv
      exact hv
    · simp at h
  · simp at h

theorem constB_sound : ∀ {cs : List Value} {bs bs' : List UInt8}, All2 (ByteRel K) cs bs → constB cs = some bs' → bs' = bs
  | [], [], _, _, h => by simp [constB] at h; exact h
  | [], _ :: _, _, h, _ => h.elim
  | _ :: _, [], _, h, _ => h.elim
  | a :: cs, b :: bs, bs', h, hc => by
    unfold constB at hc
    split at hc
    · rename_i e; simp at e
    · rename_i n l e
      injection e with e1 e2
      subst e1; subst e2
      split at hc
      · rename_i r hr
        simp at hc
        subst hc
        have h1 : Value.int .u8 n = .int .u8 b.toNat := h.1
        injection h1 with _ h1
        rw [constB_sound h.2 hr, h1, u8_nat]
      · simp at hc
    · simp at hc

theorem mkS_RV {cs : List Value} {bs : List UInt8} (h : All2 (ByteRel K) cs bs) : RV K (mkS cs) (.string ⟨⟨bs⟩⟩) := by
  unfold mkS
  split
  · rename_i bs' hb
    rw [constB_sound h hb]
    exact RV_plain rfl
  · rw [RV_sym]
    exact ⟨_, rfl, h⟩

theorem eqB1_sound {x y : Value} {a b : UInt8} {r : Bool} (h : eqB1 x y = some r) (hx : ByteRel K x a) (hy : ByteRel K y b) : r = (a == b) := by
  unfold eqB1 at h
  split at h
  · rename_i m n
    have h1 : Value.int .u8 m = .int .u8 a.toNat := hx
    have h2 : Value.int .u8 n = .int .u8 b.toNat := hy
    injection h1 with _ h1
    injection h2 with _ h2
    simp at h
    rw [← h, h1, h2]
    by_cases e : a = b
    · subst e; simp
    · have : a.toNat ≠ b.toNat := fun he => e (UInt8.toNat_inj.1 he)
      have e1 : (((a.toNat : Nat) : Int) == ((b.toNat : Nat) : Int)) = false := by
        rw [beq_eq_false_iff_ne]
        omega
      rw [e1]
      simp [e]
  · split at h
    · rename_i he
      simp at h
      subst h
      have e := eqToks_eq he
      have hd := hx.den
      rw [e] at hd
      have := u8_inj (hd.uniq hy.den)
      simp [this]
    · simp at h

theorem eqBL_sound : ∀ {x y : List Value} {a b : List UInt8} {r : Bool}, eqBL x y = some r → All2 (ByteRel K) x a → All2 (ByteRel K) y b → r = (a == b)
  | [], [], [], [], r, h, _, _ => by simp [eqBL] at h; simp [h]
  | [], [], _ :: _, _, _, _, h, _ => h.elim
  | [], [], [], _ :: _, _, _, _, h => h.elim
  | _ :: _, _, [], _, _, _, h, _ => h.elim
  | _, _ :: _, _, [], _, _, _, h => h.elim
  | [], _ :: _, _ :: _, _ :: _, _, _, h, _ => h.elim
  | _ :: _, [], _ :: _, _ :: _, _, _, _, h => h.elim
  | [], _ :: _, [], _ :: _, r, h, _, _ => by simp [eqBL] at h; simp [h]
  | _ :: _, [], _ :: _, [], r, h, _, _ => by simp [eqBL] at h; simp [h]
  | x :: xs, y :: ys, a :: as, b :: bs, r, h, hx, hy => by
    simp only [eqBL] at h
    split at h
    · rename_i e
      have h1 := eqB1_sound e hx.1 hy.1
      have h2 := eqBL_sound h hx.2 hy.2
      have : a = b := by simpa using h1.symm
      subst this
      rw [h2]
      simp
    · rename_i e
      have h1 := eqB1_sound e hx.1 hy.1
      simp at h
      subst h
      have : a ≠ b := by simpa using h1
      simp [this]
    · simp at h

theorem strBin_sound {op : BinOp} {x y v cx cy : Value} (h : strBin op x y = some v) (hx : RV K x cx) (hy : RV K y cy) : ∃ c, binV op cx cy = some c ∧ RV K v c := by
  unfold strBin at h
  split at h
  · rename_i a b ha hb
    obtain ⟨s1, rfl, h1⟩ := bytesS_RV ha hx
    obtain ⟨s2, rfl, h2⟩ := bytesS_RV hb hy
    split at h
    · split at h
      · rename_i hl
        simp at h
        subst h
        have hl := Nat.le_of_ble_eq_true hl
        have e1 := h1.length
        have e2 := h2.length
        refine ⟨.string ⟨⟨s1.data.toList ++ s2.data.toList⟩⟩, ?_, mkS_RV (h1.append h2)⟩
        simp only [binV, sbin]
        rw [if_pos (by omega)]
      · simp at h
    · split at h
      · rename_i c hc
        simp at h
        subst h
        exact ⟨_, rfl, by rw [eqBL_sound hc h1 h2]; exact RV_plain rfl⟩
      · simp at h
    · split at h
      · rename_i c hc
        simp at h
        subst h
        exact ⟨_, rfl, by rw [eqBL_sound hc h1 h2]; exact RV_plain rfl⟩
      · simp at h
    · simp at h
  · simp at h

theorem eqCellX_sound {a b a' b' : Value} {r : Bool} (h : eqCellX a b = some r) (ha : C1 K a a') (hb : C1 K b b') : eqCell a' b' = some r := by
  unfold eqCellX at h
  split at h
  · rename_i c hc
    simp at h
    subst h
    have : a' = a ∧ b' = b := by
      unfold eqCell at hc
      split at hc
      · exact ⟨RV_bool.1 ha.rv, RV_bool.1 hb.rv⟩
      · exact ⟨RV_int.1 ha.rv, RV_int.1 hb.rv⟩
      · exact ⟨RV_string.1 ha.rv, RV_string.1 hb.rv⟩
      · simp at hc
    rw [this.1, this.2]
    exact hc
  · split at h
    · rename_i x y hx hy
      obtain ⟨s1, rfl, h1⟩ := bytesS_RV hx ha.rv
      obtain ⟨s2, rfl, h2⟩ := bytesS_RV hy hb.rv
      rw [eqBL_sound h h1 h2]
      rfl
    · split at h
      · rename_i k k' hk hk'
        split at h
        · rename_i he
          simp at h
          subst h
          simp only [Bool.and_eq_true, decide_eq_true_eq] at he
          obtain ⟨rfl, he⟩ := he
          obtain ⟨n, rfl, h1, _⟩ := kindI_RV hk ha.rv
          obtain ⟨m, rfl, h2, _⟩ := kindI_RV hk' hb.rv
          rw [eqToks_eq he] at h1
          have := h1.uniq h2
          injection this with _ this
          subst this
          simp [eqCell]
        · simp at h
      · simp at h

theorem eqCellsX_sound : ∀ {a b a' b' : List Value} {r : Bool}, eqCellsX a b = some r → All2 (C1 K) a a' → All2 (C1 K) b b' → eqCells a' b' = some r
  | [], [], [], [], r, h, _, _ => by simp [eqCellsX] at h; simp [eqCells, h]
  | [], [], _ :: _, _, _, _, h, _ => h.elim
  | [], [], [], _ :: _, _, _, _, h => h.elim
  | [], _ :: _, _, _, _, h, _, _ => by simp [eqCellsX] at h
  | _ :: _, [], _, _, _, h, _, _ => by simp [eqCellsX] at h
  | _ :: _, _ :: _, [], _, _, _, h, _ => h.elim
  | _ :: _, _ :: _, _ :: _, [], _, _, _, h => h.elim
  | x :: xs, y :: ys, a :: as, b :: bs, r, h, ha, hb => by
    simp only [eqCellsX] at h
    simp only [eqCells]
    split at h
    · rename_i e
      rw [eqCellX_sound e ha.1 hb.1]
      exact eqCellsX_sound h ha.2 hb.2
    · rename_i e
      rw [eqCellX_sound e ha.1 hb.1]
      exact h
    · simp at h

theorem likeX_conc {z a c : Value} (h : likeX z a = true) (hc : C1 K a c) : likeC z c = true := by
  unfold likeX at h
  split at h
  · split at h
    · rename_i hk
      obtain ⟨n, rfl, _⟩ := kindI_RV hk hc.rv
      simpa [likeC] using h
    · simp at h
  · cases hm : bytesS a with
    | none => rw [hm] at h; simp at h
    | some m =>
      obtain ⟨s, rfl, _⟩ := bytesS_RV hm hc.rv
      rfl
  · exact likeC_conc h hc

theorem strAgg_run {P : Program} {E : Env} (hE : EnvOK P E) {t : TypeId} {op : BinOp} {x y cx cy v : Value} (h : strAgg E t op x y = some v) (hx : RV K x cx) (hy : RV K y cy) :
    ∃ c, RV K v c ∧ ∀ (p q : Operand) (w : World), (do Go.eqGuard op t p q cx cy; binOp op t cx cy : Sem Value).run P w = .ok c w := by
  unfold strAgg at h
  split at h
  · rename_i a b
    obtain ⟨a', rfl, ha⟩ := RV_agg.1 hx
    obtain ⟨b', rfl, hb⟩ := RV_agg.1 hy
    split at h
    · simp at h
    rename_i hf
    obtain ⟨i, f1, f2, f3, f4⟩ := fitsT_some hf
    have hz1 := likeL_conc (fun _ _ _ => likeX_conc) f3 ha
    have hz2 := likeL_conc (fun _ _ _ => likeX_conc) f4 hb
    have run1 : ∀ r, eqCells a'.toList b'.toList = some r → ∀ (p q : Operand) (w : World), (do Go.eqGuard .eql t p q (.agg a') (.agg b'); binOp .eql t (.agg a') (.agg b') : Sem Value).run P w = .ok (.bool r) w := by
      intro r hr p q w
      obtain ⟨g1, g2, g3⟩ := hE.flat t i f1 f2 a' b' r hz1 hz2 hr p q w
      have e : binOp .eql t (.agg a') (.agg b') = (do pure (.bool (← Op.equal t (.agg a') (.agg b')))) := rfl
      simp only [Sem.run_bind, g1, Result.andThen_ok, e, g3, Sem.run_pure]
    have run2 : ∀ r, eqCells a'.toList b'.toList = some r → ∀ (p q : Operand) (w : World), (do Go.eqGuard .neq t p q (.agg a') (.agg b'); binOp .neq t (.agg a') (.agg b') : Sem Value).run P w = .ok (.bool (!r)) w := by
      intro r hr p q w
      obtain ⟨g1, g2, g3⟩ := hE.flat t i f1 f2 a' b' r hz1 hz2 hr p q w
      have e : binOp .neq t (.agg a') (.agg b') = (do pure (.bool (!(← Op.equal t (.agg a') (.agg b'))))) := rfl
      simp only [Sem.run_bind, g2, Result.andThen_ok, e, g3, Sem.run_pure]
    split at h
    · rename_i hq
      simp at h; subst h
      exact ⟨_, RV_plain rfl, run1 _ (eqCellsX_sound hq ha hb)⟩
    · rename_i hq
      simp at h; subst h
      exact ⟨_, RV_plain rfl, run2 _ (eqCellsX_sound hq ha hb)⟩
    · simp at h
  · simp at h

/- the sign of a digit -/
theorem and15_le (k : IntKind) (a : Int) : ∃ m : Nat, m ≤ 15 ∧ k.wrap ((BitVec.ofInt k.bits a &&& BitVec.ofInt k.bits 15).toNat : Int) = m := by
  have h15 : (BitVec.ofInt k.bits 15).toNat = 15 := by cases k <;> rfl
  have hle : (BitVec.ofInt k.bits a &&& BitVec.ofInt k.bits 15).toNat ≤ 15 := by
    rw [BitVec.toNat_and, h15]
    exact Nat.and_le_right
  generalize (BitVec.ofInt k.bits a &&& BitVec.ofInt k.bits 15).toNat = m at hle
  refine ⟨m, hle, ?_⟩
  have : ∀ m : Fin 16, k.wrap ((m.val : Nat) : Int) = m.val := by cases k <;> decide
  exact this ⟨m, by omega⟩

theorem ends15_split : ∀ {t : List Value}, ends15 t = true → ∃ u k z, t = u ++ [.int k 15, .slice none 5 z]
  | [], h => by simp [ends15] at h
  | x :: l, h => by
    unfold ends15 at h
    split at h
    · rename_i e; simp at e
    · rename_i k n z e
      injection e with e1 e2
      simp at h
      subst h
      exact ⟨[], k, z, by rw [e1, e2]; rfl⟩
    · rename_i y l' _ e
      injection e with e1 e2
      subst e2
      obtain ⟨u, k, z, hu⟩ := ends15_split h
      exact ⟨x :: u, k, z, by rw [hu]; rfl⟩

theorem ends15_den {t : List Value} {k : IntKind} {n : Int} (h : ends15 t = true) (hd : Den K t (.int k n)) : ∃ m : Nat, m ≤ 15 ∧ n = m := by
  obtain ⟨u, k', z, rfl⟩ := ends15_split h
  have h0 := hd []
  rw [rpn_append] at h0
  cases hu : rpn K u [] with
  | none => rw [hu] at h0; simp at h0
  | some st =>
    rw [hu, Option.bind_some] at h0
    simp only [rpn, tok1, tokOp] at h0
    cases st with
    | nil => simp at h0
    | cons x st =>
      simp only [show (5 : Nat) < 100 by decide, if_true, opOf] at h0
      cases x <;> simp [binV] at h0
      rename_i k2 a
      by_cases e : k2 = k'
      · subst e
        simp [ibin] at h0
        obtain ⟨⟨rfl, h0⟩, _⟩ := h0
        obtain ⟨m, h1, h2⟩ := and15_le k2 a
        exact ⟨m, h1, by rw [← h0]; exact h2⟩
      · simp [e] at h0
end

section
variable {P : Program} {E : Env} {cf : CallF} {f : Operand → Value} {s : St} {L : List (Value × St)}
  {dst : Option Tmp} {type : TypeId} {pos : String} {after : Array Edge} {guard : Option (Nat × Bool)}

theorem str_binOp (hE : EnvOK P E) {op : BinOp} {t t' : TypeId} {x y : Operand} (h : strOp E (.binOp op t x y t') f s = some L) :
    ∃ v, L = [(v, s)] ∧ PureAt P ⟨dst, .binOp op t x y t', type, pos, after, guard⟩ f s v := by
  simp only [strOp] at h
  split at h
  · rename_i v hv
    refine ⟨_, one_eq h, fun K ρ hk hf => ?_⟩
    obtain ⟨c, h1, h2⟩ := strBin_sound hv (hf x (by simp [Op.operands])) (hf y (by simp [Op.operands]))
    refine ⟨c, h2, fun w => ?_⟩
    have h1 := binV_run (P := P) h1 t x y w
    simp only [execOp, Sem.run_bind] at h1 ⊢
    rw [h1]
    rfl
  · split at h
    · rename_i v hv
      refine ⟨_, one_eq h, fun K ρ hk hf => ?_⟩
      obtain ⟨c, h1, h2⟩ := strAgg_run hE hv (hf x (by simp [Op.operands])) (hf y (by simp [Op.operands]))
      refine ⟨c, h1, fun w => ?_⟩
      have h1 := h2 x y w
      simp only [execOp, Sem.run_bind] at h1 ⊢
      rw [h1]
      rfl
    · simp at h

theorem hexTab_some {m : Nat} (h : m ≤ 15) : ∃ b, hexTab[m]? = some b := by
  have : ∀ m : Fin 16, (hexTab[m.val]?).isSome = true := by decide
  have := this ⟨m, by omega⟩
  exact Option.isSome_iff_exists.1 this

theorem wrap_byte (b : UInt8) : IntKind.u8.wrap ((b.toNat : Nat) : Int) = b.toNat := by
  have := b.toNat_lt
  have e : IntKind.u8.wrap ((b.toNat : Nat) : Int) = ((b.toNat : Nat) : Int) % 256 := by
    simp [IntKind.wrap, IntKind.bits, IntKind.signed]
  rw [e]
  omega

theorem str_index (hE : EnvOK P E) {t : TypeId} {x j : Operand} (h : strOp E (.index t x j) f s = some L) :
    ∃ v, L = [(v, s)] ∧ PureAt P ⟨dst, .index t x j, type, pos, after, guard⟩ f s v := by
  simp only [strOp] at h
  split at h
  · rename_i v hv
    refine ⟨_, one_eq h, fun K ρ hk hf => ?_⟩
    have h1 := hf x (by simp [Op.operands])
    have h2 := hf j (by simp [Op.operands])
    unfold strIndex at hv
    split at hv
    · rename_i b k i hx hj hi
      rw [hx, RV_string] at h1
      split at hv
      · rename_i hd hb
        simp only [Bool.and_eq_true] at hb
        obtain ⟨hb, he⟩ := hb
        simp at hv
        subst hv
        obtain ⟨n, hn, hden, _⟩ := kindI_RV hj h2
        rw [hn] at hden
        obtain ⟨m, hm, rfl⟩ := ends15_den he hden
        obtain ⟨c, hc⟩ := hexTab_some hm
        refine ⟨.int .u8 c.toNat, RV_symInt (wrap_byte c) ?_, fun w => ?_⟩
        · refine Den_snoc1 hden (fun st => ?_)
          simp [tokOp, hc]
        · have hu := (hE.ti t i hi).run_und w
          rw [hd] at hu
          have hb2 : b.data.toList = hexTab := by simpa using hb
          have hbm : b[m]? = some c := by
            have hlt' : m < b.size := by
              have : b.size = b.data.toList.length := by simp
              rw [this, hb2]
              show m < 16
              omega
            rw [getElem?_pos b m hlt']
            have hlt2 : m < b.data.toList.length := by simpa using hlt'
            have e : b.data.toList[m]? = some c := by rw [hb2]; exact hc
            have : b.data.toList[m] = c := by
              rw [List.getElem?_eq_getElem hlt2] at e
              simpa using e
            rw [← this]
            rfl
          simp only [execOp, Instr.index, Sem.run_bind, h1, hn, asIntOf, Sem.run_pure, Result.andThen_ok, hu, Int.toNat_natCast, Int.natCast_nonneg, if_true, hbm]
      · simp at hv
    · simp at hv
  · simp at h

theorem str_slice (hE : EnvOK P E) {t : TypeId} {x : Operand} {lo hi mx : Option Operand} (h : strOp E (.slice t x lo hi mx) f s = some L) :
    ∃ v, L = [(v, s)] ∧ PureAt P ⟨dst, .slice t x lo hi mx, type, pos, after, guard⟩ f s v := by
  simp only [strOp] at h
  split at h
  · rename_i v hv
    refine ⟨v, one_eq h, fun K ρ hk hf => ?_⟩
    have hx := hf x (by simp [Op.operands])
    have hmem : ∀ (o : Option Operand), (∀ y, o = some y → y ∈ (Op.slice t x lo hi mx).operands) →
        (∀ u, o.map f = some u → ∃ c, o.map ρ = some c ∧ RV K u c) ∧ (o.map f = none → o.map ρ = none) := by
      intro o ho
      cases o with
      | none => simp
      | some y => simp; exact hf y (ho y rfl)
    obtain ⟨r1, n1⟩ := hmem lo (fun y e => by subst e; simp [Op.operands])
    obtain ⟨r2, n2⟩ := hmem hi (fun y e => by subst e; simp [Op.operands])
    obtain ⟨r3, n3⟩ := hmem mx (fun y e => by subst e; simp [Op.operands])
    unfold strSlice at hv
    split at hv
    · rename_i i c hi' hc hmx
      have hti := hE.ti t i hi'
      split at hv
      · rename_i hd
        obtain ⟨st, hst, hbs⟩ := bytesS_RV hc hx
        have hlen := hbs.length
        split at hv
        · simp at hv
        · rename_i hh hbh
          split at hv
          · simp at hv
          · rename_i ll hbl
            simp at hv
            subst hv
            refine ⟨.string ⟨⟨(st.data.toList.drop ll).take (hh - ll)⟩⟩, mkS_RV ((hbs.drop ll).take (hh - ll)), fun w => ?_⟩
            have hu := hti.run_und w
            rw [hd] at hu
            rw [hlen] at hbh
            have hb : bound (none : Option Value) st.data.toList.length st.data.toList.length = some st.data.toList.length := rfl
            have hrun := run_sliceBounds (P := P) (isS := false) (mx := none) (mx' := none) (lo' := lo.map ρ) (hi' := hi.map ρ) hb hbh hbl (fun _ => rfl) r1 r2 (by simp) n1 n2 (fun _ => rfl) w
            have hsz : st.size = st.data.toList.length := by simp
            simp only [execOp, Instr.sliceAt, Instr.slice, Sem.run_bind, hu, Result.andThen_ok, hst, n3 hmx, Option.isSome_none, Bool.false_eq_true, if_false, hsz, hrun, Sem.run_pure, extract_list]
      · simp at hv
    · simp at hv
  · simp at h

theorem str_len (hE : EnvOK P E) {c : Call} (h : strOp E (.call c) f s = some L) :
    (c.callee = .builtin .len) ∧ ∃ v, L = [(v, s)] ∧ PureAt P ⟨dst, .call c, type, pos, after, guard⟩ f s v := by
  simp only [strOp] at h
  split at h
  · rename_i t x hc hts hxs
    refine ⟨hc, ?_⟩
    split at h
    · rename_i v hv
      refine ⟨_, one_eq h, fun K ρ hk hf => ?_⟩
      have hmx : x ∈ c.args.toList := by rw [hxs]; simp
      have hx := hf x (by simp [Op.operands, Call.operands, hc]; simpa using hmx)
      unfold strLen at hv
      split at hv
      · rename_i i cs hi hcs
        split at hv
        · rename_i hd
          simp at hv
          subst hv
          obtain ⟨st, hst, hbs⟩ := bytesS_RV hcs hx
          refine ⟨_, RV_plain rfl, fun w => ?_⟩
          have hu := (hE.ti t i hi).run_und w
          rw [hd] at hu
          have hts' : c.argTypes = #[t] := by apply Array.ext'; rw [hts]
          have hxs' : c.args = #[x] := by apply Array.ext'; rw [hxs]
          have hlen := hbs.length
          simp [execOp, resolve, hc, invoke, builtin, Builtin.len_, hts', hxs', hu, hst, goInt, hlen]
        · simp at hv
      · simp at hv
    · simp at h
  · simp at h

section
variable {n0 : Base} {w0 w : World} {K : Kx} {ρ : Operand → Value}
/- the mark of a literal's row -/
theorem Rep.marked (hR : Rep n0 w0 K s w) {b : Nat} {x : Blk} (hx : find b s.heap = some x) (hk : isCells x.kind = true) :
    ∃ T n, w.shape? (K.bl b) = some (T, n) ∧ Rep n0 w0 K s (w.freeze ⟨K.bl b, n, none⟩ 1) := by
  obtain ⟨hb, hlo, hhi, hrep⟩ := hR.live b x hx
  have hk2 : x.kind ≠ 2 := by intro e; simp [isCells, e] at hk
  unfold BlkRep at hrep
  rw [if_neg hk2] at hrep
  obtain ⟨cs, T, fr, pre, tl, h1, h2, h3, h4, h5, h6⟩ := hrep
  refine ⟨T, cs.size, by simp [World.shape?, h1], ?_⟩
  have hheap : ∀ k, k ≠ K.bl b → (w.freeze ⟨K.bl b, cs.size, none⟩ 1).heap[k]? = w.heap[k]? := by
    intro k hk
    simp [World.freeze, Array.getElem?_modify, Ne.symm hk]
  have hsize : (w.freeze ⟨K.bl b, cs.size, none⟩ 1).heap.size = w.heap.size := by simp [World.freeze]
  have hat : ∃ fr', (w.freeze ⟨K.bl b, cs.size, none⟩ 1).heap[K.bl b]? = some (.cells cs T fr') ∧ frOK fr' cs.size := by
    obtain ⟨lo, hi⟩ := fr
    refine ⟨if lo == hi then (cs.size, cs.size + 1) else (min lo cs.size, max hi (cs.size + 1)), ?_, ?_⟩
    · simp [World.freeze, Array.getElem?_modify, h1]
    · unfold frOK at h2 ⊢
      by_cases e : lo = hi
      · subst e
        simp
      · have : (lo == hi) = false := by simpa using e
        simp only [this]
        rcases h2 with h2 | h2
        · exact absurd h2 e
        · right
          show cs.size ≤ min lo cs.size
          simp at h2
          omega
  obtain ⟨fr', hat, hfr⟩ := hat
  refine ⟨⟨hR.below.os, hR.below.tape, hR.below.output, by rw [hsize]; exact hR.below.size, fun k hk => ?_⟩, by rw [hsize]; exact hR.hn, hR.nx, ?_, hR.inj, hR.facts, hR.vals, hR.syr, hR.pfq⟩
  · rw [hheap k (by omega)]
    exact hR.below.block k hk
  · intro c y hy
    obtain ⟨g1, g2, g3, g4⟩ := hR.live c y hy
    refine ⟨g1, g2, by rw [hsize]; exact g3, ?_⟩
    by_cases e : K.bl c = K.bl b
    · have : c = b := hR.inj c b y x hy hx e
      subst this
      rw [hx] at hy
      cases hy
      rw [hat]
      unfold BlkRep
      rw [if_neg hk2]
      exact ⟨cs, T, fr', pre, tl, rfl, hfr, h3, h4, h5, h6⟩
    · rw [hheap _ e]
      exact g4

theorem bytes_sym : ∀ {c cs : List Value}, All2 (C1 K) c cs → c.all isByte = true → ∃ bs : List UInt8, cs = bs.map byteVal ∧ All2 (ByteRel K) c bs
  | [], [], _, _ => ⟨[], rfl, trivial⟩
  | [], _ :: _, h, _ => h.elim
  | _ :: _, [], h, _ => h.elim
  | a :: c, a' :: cs, h, ha => by
    simp only [List.all_cons, Bool.and_eq_true] at ha
    obtain ⟨bs, h1, h2⟩ := bytes_sym h.2 ha.2
    have hb := ha.1
    have h0 := h.1
    suffices hh : ∃ b : UInt8, a' = byteVal b ∧ ByteRel K a b by
      obtain ⟨b, h3, h4⟩ := hh
      exact ⟨b :: bs, by rw [h1, h3]; rfl, h4, h2⟩
    unfold isByte at hb
    split at hb
    · rename_i n
      simp at hb
      have e := RV_int.1 h0.rv
      subst e
      have e2 : Value.int .u8 n = .int .u8 ((UInt8.ofNat n.toNat).toNat : Nat) := by
        congr 1
        simp
        omega
      exact ⟨UInt8.ofNat n.toNat, e2, e2⟩
    · rename_i m t sh
      split at hb
      · rename_i z hz
        have hv := h0.rv
        rw [RV_sym, hz] at hv
        obtain ⟨n, rfl, hr, hd⟩ := hv
        have hrange := (wrap_range _ _).1 hr
        have e1 : IntKind.u8.min = 0 := by decide
        have e3 : IntKind.u8.max = 255 := by decide
        have e2 : Value.int .u8 n = .int .u8 ((UInt8.ofNat n.toNat).toNat : Nat) := by
          congr 1
          simp
          omega
        refine ⟨UInt8.ofNat n.toNat, e2, ⟨z, hz⟩, ?_⟩
        rw [← e2]
        exact hd
      · simp at hb
    · simp at hb

theorem str_convert (hE : EnvOK P E) {a b : TypeId} {x : Operand} (hR : Rep n0 w0 K s w) (hf : ∀ y, y ∈ (Op.convert a b x).operands → RV K (f y) (ρ y)) (h : strOp E (.convert a b x) f s = some L) :
    isPure E (.convert a b x) = false ∧ ∃ v c w', L = [(v, s)] ∧ RV K v c ∧ (execOp ρ ⟨dst, .convert a b x, type, pos, after, guard⟩).run P w = .ok (.value c) w' ∧ Rep n0 w0 K s w' := by
  have h1 := hf x (by simp [Op.operands])
  simp only [strOp, strConv] at h
  split at h
  · rename_i i j hi hj
    split at h
    · rename_i e a' n cp hd1 hd2 hx
      refine ⟨by simp [isPure, hi, hd1], ?_⟩
      have hu1 := (hE.ti a i hi).run_und w
      rw [hd1] at hu1
      have hu2 := (hE.ti b j hj).run_und w
      rw [hd2] at hu2
      rw [hx] at h1
      split at h
      · rename_i ei hei
        have hu3 := (hE.ti e ei hei).run_und w
        split at h
        · rename_i hde
          rw [hde] at hu3
          split at h
          · rename_i c hc
            split at h
            · rename_i hall
              obtain ⟨cs, g1, g2, g3⟩ := hR.run_loadCells (P := P) hc
              obtain ⟨bs, g4, g5⟩ := bytes_sym g1 hall
              obtain ⟨_, _, k', h1⟩ := RV_sliceAny h1
              have g4' : cs = (bs.map (fun b : UInt8 => ((b.toNat : Nat) : Int))).map (Value.int .u8) := by
                rw [g4, List.map_map]; rfl
              subst g4'
              have hrun := run_bytesToString (P := P) w _ n k' _ g3
              refine ⟨_, .string ⟨⟨bs⟩⟩, w, one_eq h, mkS_RV g5, ?_, hR⟩
              have hs : ((bs.map (fun b : UInt8 => ((b.toNat : Nat) : Int))).foldl (fun r n => r.push (UInt8.ofNat n.toNat)) ByteArray.empty) = ⟨⟨bs⟩⟩ := by
                apply ByteArray.ext
                apply Array.ext'
                rw [push_list, List.map_map]
                have e9 : ((fun n : Int => UInt8.ofNat n.toNat) ∘ fun b : UInt8 => ((b.toNat : Nat) : Int)) = id := by
                  funext b
                  simp
                rw [e9]
                simp
              rw [hs] at hrun
              simp only [execOp, convert, Sem.run_bind, hu1, hu2, hu3, Result.andThen_ok, h1, hrun, Sem.run_pure]
            · simp at h
          · simp at h
        · simp at h
      · simp at h
    · rename_i e e' a' n cp hd1 hd2 hx
      refine ⟨by simp [isPure, hi, hd1], ?_⟩
      have hu1 := (hE.ti a i hi).run_und w
      rw [hd1] at hu1
      rw [hx] at h1
      split at h
      · rename_i ei hei
        have hu3 := (hE.ti e ei hei).run_und w
        split at h
        · rename_i blk hde hblk
          rw [hde] at hu3
          split at h
          · rename_i hq
            simp only [Bool.and_eq_true] at hq
            have hab := Nat.eq_of_beq_eq_true hq.1
            subst hab
            obtain ⟨T, m, hsh, hR'⟩ := hR.marked hblk hq.2
            have hrv := h1
            obtain ⟨_, _, k', h1⟩ := RV_sliceAny h1
            refine ⟨_, ρ x, _, one_eq h, hrv, ?_, hR'⟩
            simp [execOp, convert, hu1, hu3, h1, markStringish, hsh]
          · simp at h
        · simp at h
      · simp at h
    · simp at h
  · simp at h

/- THE WHOLE -/
theorem aop_split {o : Op} (h : aop E cf o f s = some L) : aop0 E cf o f s = some L ∨ strOp E o f s = some L := by
  unfold aop at h
  split at h
  · rename_i r hr
    exact .inl (by rw [hr]; exact h)
  · exact .inr h

theorem aop_pure (hE : EnvOK P E) {o : Oper} (hp : isPure E o.op = true) (h : aop E cf o.op f s = some L) :
    ∃ v, L = [(v, s)] ∧ PureAt P o f s v := by
  rcases aop_split h with h | h
  · exact aop0_pure hE hp h
  · obtain ⟨dst, op, type, pos, after, guard⟩ := o
    cases op <;> try (simp [strOp] at h; done)
    case binOp => exact str_binOp hE h
    case index => exact str_index hE h
    case slice => exact str_slice hE h
    case call c => exact (str_len hE h).2
    case convert a b x =>
      exfalso
      simp only [isPure] at hp
      simp only [strOp, strConv] at h
      split at h
      · rename_i i j hi hj
        rw [hi] at hp
        split at h
        · rename_i hd1 _ _
          simp [hd1] at hp
        · rename_i hd1 _ _
          simp [hd1] at hp
        · simp at h
      · simp at h

theorem aop_sound (hE : EnvOK P E) (hcf : CallSound P n0 w0 cf) {o : Oper} (hR : Rep n0 w0 K s w) (hf : ∀ y, y ∈ o.op.operands → RV K (f y) (ρ y)) (h : aop E cf o.op f s = some L) :
    OpPost P n0 w0 K L ((execOp ρ o).run P w) := by
  by_cases hp : isPure E o.op = true
  · obtain ⟨v, h1, h2⟩ := aop_pure (P := P) hE hp h
    obtain ⟨c, h3, h4⟩ := h2 K ρ hR.kok hf
    rw [h4 w]
    subst h1
    exact ⟨v, s, K, by simp, Kx.le_refl _, h3, hR⟩
  · rcases aop_split h with h | h
    · exact aop0_sound hE hcf hR hf h
    · obtain ⟨dst, op, type, pos, after, guard⟩ := o
      cases op <;> try (simp [strOp] at h; done)
      all_goals try (simp [isPure] at hp; done)
      case convert a b x =>
        obtain ⟨_, v, c, w', h1, h2, h3, h4⟩ := str_convert (dst := dst) (type := type) (pos := pos) (after := after) (guard := guard) hE hR hf h
        subst h1
        exact OpPost.of_value h3 ⟨v, s, K, by simp, Kx.le_refl _, h2, h4⟩
      case call c =>
        obtain ⟨hc, _⟩ := str_len (P := P) (dst := dst) (type := type) (pos := pos) (after := after) (guard := guard) hE h
        exact absurd (by simp [isPure, hc, isPureB]) hp

theorem aop_load {t : TypeId} {a : Operand} : aop E cf (.load t a) f s = aop0 E cf (.load t a) f s := by
  unfold aop; split
  · rename_i r h; rw [h]
  · rename_i h; rw [h]; rfl
theorem aop_build {t : TypeId} {n : Nat} {ps : Array (Nat × Operand)} : aop E cf (.buildSlice t n ps) f s = aop0 E cf (.buildSlice t n ps) f s := by
  unfold aop; split
  · rename_i r h; rw [h]
  · rename_i h; rw [h]; rfl
theorem aop_call {c : Call} (hc : ∀ b, c.callee ≠ .builtin b) : aop E cf (.call c) f s = aop0 E cf (.call c) f s := by
  unfold aop; split
  · rename_i r h; rw [h]
  · rename_i h
    rw [h]
    simp only [strOp]
    split
    · rename_i hq _ _; exact absurd hq (hc _)
    · rfl
end
end
end Go.Sx
