import Derived.Test.Qxb6500275aGreatDoorRe3
set_option linter.unusedVariables false
set_option linter.unusedSimpArgs false
namespace Go.Proofs.Qxb6500275aGreatDoor
open Go Go.RowKit
/- words -/
def little (n : Nat) (y : Int) : List Nat := (List.range n).map (fun k => y.toNat / 256 ^ k % 256)
def wN (t : ByteArray) : Nat → Nat
  | 0 => 0
  | j + 1 => wN t j * 256 + byteD t (7 - j)
theorem byteD_lt (t : ByteArray) (i : Nat) : byteD t i < 256 := by unfold byteD; split; exact bAt_lt t i; omega
theorem wN_lt (t : ByteArray) : ∀ j, wN t j < 256 ^ j
  | 0 => by simp [wN]
  | j + 1 => by
    have := wN_lt t j
    have := byteD_lt t (7 - j)
    unfold wN
    rw [Nat.pow_succ]; omega
theorem wordL_nat (t : ByteArray) : ∀ j, j ≤ 8 → wordL t j = (wN t j : Int)
  | 0, _ => rfl
  | j + 1, hj => by
    unfold wordL wN
    rw [wordL_nat t j (by omega)]
    have h1 := wN_lt t j
    have h2 := byteD_lt t (7 - j)
    have h3 : 256 ^ j ≤ 256 ^ 7 := Nat.pow_le_pow_right (by decide) (by omega)
    have h4 : (256 : Nat) ^ 7 = 72057594037927936 := by decide
    have e1 : IntKind.u64.wrap ((wN t j : Int) * 256) = ((wN t j * 256 : Nat) : Int) := by rw [IntKind.wrap_u64]; omega
    rw [e1, bits_or_u64_nat _ _ (by omega) (by omega)]
    congr 1
    have := Nat.two_pow_add_eq_or_of_lt (i := 8) (b := byteD t (7 - j)) (by simpa using h2) (wN t j)
    rw [Nat.mul_comm] at this
    rw [show (256 : Nat) = 2 ^ 8 from rfl, ← this]
theorem wN_byte (t : ByteArray) (k : Nat) (hk : k < 8) : wN t 8 / 256 ^ k % 256 = byteD t k := by
  have b0 := byteD_lt t 0
  have b1 := byteD_lt t 1
  have b2 := byteD_lt t 2
  have b3 := byteD_lt t 3
  have b4 := byteD_lt t 4
  have b5 := byteD_lt t 5
  have b6 := byteD_lt t 6
  have b7 := byteD_lt t 7
  have hk8 : k = 0 ∨ k = 1 ∨ k = 2 ∨ k = 3 ∨ k = 4 ∨ k = 5 ∨ k = 6 ∨ k = 7 := by omega
  simp only [wN, Nat.zero_mul, Nat.zero_add, Nat.sub_zero, Nat.reduceSub]
  rcases hk8 with rfl | rfl | rfl | rfl | rfl | rfl | rfl | rfl <;> simp only [Nat.reducePow] <;> omega
theorem little_word {t : ByteArray} (h : t.size ≤ 8) : little t.size (wordL t 8) = natsOf t := by
  rw [wordL_nat t 8 (by omega)]
  unfold little
  apply List.ext_getElem?
  intro i
  rw [List.getElem?_map]
  by_cases hi : i < t.size
  · rw [natsOf_get t i hi, List.getElem?_range hi]
    simp only [Option.map_some, Int.toNat_natCast]
    rw [wN_byte t i (by omega)]
    unfold byteD
    rw [if_pos hi]
  · rw [List.getElem?_eq_none (by simpa using hi), List.getElem?_eq_none (by rw [natsOf_len]; omega)]
    rfl
theorem re_word {n : Nat} (hn : n ≤ 8) : Re (fun s p e => wordS s p e n) (little n) := by
  intro s p e x r hs h
  have h : wordS s p e n = .ok (x, r) := h
  unfold wordS at h
  split at h
  · simp at h
  · rename_i t q ht
    simp at h
    obtain ⟨rfl, rfl⟩ := h
    obtain ⟨h1, h2, h3⟩ := takeS_get hs ht
    obtain ⟨a1, a2, a3, a4⟩ := re_take n s p e t q hs ht
    have e1 : little n (wordL t 8) = natsOf t := by rw [← h2]; exact little_word (by omega)
    rw [e1]
    refine ⟨a1, a2, a3, fun s' p' e' hs' hl hle => ?_⟩
    have h4 := a4 s' p' e' hs' hl hle
    dsimp only at h4 ⊢
    unfold wordS
    rw [h4]
def encC (op : Nat) (y : Int) : List Nat := if op = 65 then sLeb (sg32 y) else if op = 66 then sLeb (wrap64 y) else if op = 67 then little 4 y else little 8 y
theorem re_c (op : Nat) : Re (fun s p e => cS s p e op) (encC op) := by
  unfold cS encC
  by_cases h5 : op = 65
  · simp only [if_pos h5]
    intro s p e x r hs h
    obtain ⟨h1, h2, h3⟩ := slebS_len32 h
    exact ⟨by omega, h1, sLebN_by 10 _, fun s' p' e' hs' hl hle => slebS_leb32 h3 hl hle⟩
  simp only [if_neg h5]
  by_cases h6 : op = 66
  · simp only [if_pos h6]
    intro s p e x r hs h
    obtain ⟨h1, h2, h3⟩ := slebS_len64 h
    exact ⟨by omega, h1, sLebN_by 10 _, fun s' p' e' hs' hl hle => slebS_leb64 h3 hl hle⟩
  simp only [if_neg h6]
  by_cases h7 : op = 67
  · simp only [if_pos h7]
    exact re_word (by decide)
  simp only [if_neg h7]
  exact re_word (by decide)
/- an initialiser -/
def opB (s : ByteArray) (p e : Nat) : R Nat := if p < e then (if bAt s p < 65 ∨ 68 < bAt s p then .error (13, p) else .ok (bAt s p, p + 1)) else .error (3, e)
def endB (s : ByteArray) (p e : Nat) : R Unit := if p < e then (if bAt s p = 11 then .ok ((), p + 1) else .error (13, p)) else .error (3, e)
theorem re_opB : Re opB (fun v => [v]) := by
  refine one_byte (fun c => if c < 65 ∨ 68 < c then none else some c) ?_ ?_ ?_
  · intro s p e x r h
    unfold opB at h
    split at h
    · split at h
      · simp at h
      · simp at h; obtain ⟨rfl, rfl⟩ := h; rename_i a b; exact ⟨a, rfl, by rw [if_neg b]⟩
    · simp at h
  · intro c x h
    split at h
    · simp at h
    · simp at h; rw [h]
  · intro s p e x h1 h2
    split at h2
    · simp at h2
    · simp at h2
      unfold opB; rw [if_pos h1, if_neg (by assumption), h2]
theorem re_endB : Re endB (fun _ => [11]) := by
  refine one_byte (fun c => if c = 11 then some () else none) ?_ ?_ ?_
  · intro s p e x r h
    unfold endB at h
    split at h
    · split at h
      · simp at h; obtain ⟨_, rfl⟩ := h; rename_i a b; exact ⟨a, rfl, by rw [if_pos b]⟩
      · simp at h
    · simp at h
  · intro c x h
    split at h
    · rename_i hc; rw [hc]
    · simp at h
  · intro s p e x h1 h2
    split at h2
    · rename_i hc
      unfold endB; rw [if_pos h1, if_pos hc]
    · simp at h2
def encCon (i : Ins) : List Nat := i.op :: (encC i.op i.y ++ [11])
theorem conS_bind (s : ByteArray) (p e : Nat) : conS s p e = bindR (opB s p e) fun a => bindR (cS s a.2 e a.1) fun y => bindR (endB s y.2 e) fun z => .ok (⟨a.1, 0, y.1⟩, z.2) := by
  unfold conS opB
  by_cases h : p < e
  · rw [if_pos h, if_pos h]
    by_cases h2 : bAt s p < 65 ∨ 68 < bAt s p
    · rw [if_pos h2, if_pos h2]; rfl
    · rw [if_neg h2, if_neg h2]
      show bindR (cS s (p + 1) e (bAt s p)) _ = bindR (cS s (p + 1) e (bAt s p)) _
      congr 1
      funext y
      unfold endB
      by_cases h3 : y.2 < e
      · rw [if_pos h3, if_pos h3]
        by_cases h4 : bAt s y.2 = 11
        · rw [if_pos h4, if_pos h4]; rfl
        · rw [if_neg h4, if_neg h4]; rfl
      · rw [if_neg h3, if_neg h3]; rfl
  · rw [if_neg h, if_neg h]; rfl
theorem re_con : Re conS encCon := by
  have h := Re.bind (enc := encCon) re_opB (G := fun op s p e => bindR (cS s p e op) fun y => bindR (endB s y.2 e) fun z => .ok ((⟨op, 0, y.1⟩ : Ins), z.2)) (enc2 := fun op i => encC op i.y ++ [11])
    (fun _ _ _ op _ _ _ => Re.bind (re_c op) (G := fun y s p e => bindR (endB s p e) fun z => .ok ((⟨op, 0, y⟩ : Ins), z.2)) (enc2 := fun _ _ => [11])
      (fun _ _ _ y _ _ _ => Re.bind re_endB (G := fun _ _ p _ => .ok ((⟨op, 0, y⟩ : Ins), p)) (enc2 := fun _ _ => []) (fun _ _ _ _ _ _ _ => Re.pure _) (fun _ _ _ _ _ _ _ _ _ _ => rfl))
      (fun s p e y q i r _ _ h2 => by
        obtain ⟨z, _, h3⟩ := bindR_get h2
        simp at h3
        rw [← h3.1]))
    (fun s p e op q i r _ _ h2 => by
      obtain ⟨y, _, h3⟩ := bindR_get h2
      obtain ⟨z, _, h4⟩ := bindR_get h3
      simp at h4
      rw [← h4.1]
      rfl)
  exact h.congr conS_bind
/- rows -/
theorem re_rows {α : Type} {F : ByteArray → Nat → Nat → R α} {enc : α → List Nat} (hF : Re F enc) : ∀ (n : Nat) (s : ByteArray) (p e : Nat) (l l' : List α) (r : Nat), e ≤ s.size → rowsL (fun q => F s q e) n p l = .ok (l', r) →
    ∃ new, l' = l ++ new ∧ new.length = n ∧ p ≤ r ∧ (new.flatMap enc).length ≤ r - p ∧ (∀ b ∈ new.flatMap enc, b < 256) ∧ ∀ s' p' e' acc, e' ≤ s'.size → Lies s' p' (new.flatMap enc) → p' + (new.flatMap enc).length ≤ e' → rowsL (fun q => F s' q e') n p' acc = .ok (acc ++ new, p' + (new.flatMap enc).length) := by
  intro n
  induction n with
  | zero =>
    intro s p e l l' r hs h
    simp [rowsL] at h
    obtain ⟨rfl, rfl⟩ := h
    exact ⟨[], by simp, rfl, Nat.le_refl _, by simp, by simp, fun s' p' e' acc _ _ _ => by simp [rowsL]⟩
  | succ n ih =>
    intro s p e l l' r hs h
    unfold rowsL at h
    obtain ⟨⟨x, q⟩, h1, h2⟩ := bindR_get h
    obtain ⟨a1, a2, a3, a4⟩ := hF s p e x q hs h1
    obtain ⟨new, b1, b2, b3, b4, b5, b6⟩ := ih s q e _ _ _ hs h2
    refine ⟨x :: new, by rw [b1]; simp, by simp [b2], by omega, by simp only [List.flatMap_cons, List.length_append]; omega, ?_, fun s' p' e' acc hs' hl hle => ?_⟩
    · intro b hb
      rw [List.flatMap_cons] at hb
      rcases List.mem_append.1 hb with hb | hb
      · exact a3 b hb
      · exact b5 b hb
    · rw [List.flatMap_cons] at hl hle ⊢
      obtain ⟨l1, l2⟩ := hl.app
      rw [List.length_append] at hle ⊢
      unfold rowsL
      rw [bindR_ok (a4 s' p' e' hs' l1 (by omega))]
      dsimp only
      rw [b6 s' _ e' (acc ++ [x]) hs' l2 (by omega)]
      simp only [List.append_assoc, List.cons_append, List.nil_append]
      congr 2
      omega
def encVec {α : Type} (enc : α → List Nat) (l : List α) : List Nat := uLeb l.length ++ l.flatMap enc
theorem re_vec {α : Type} {F : ByteArray → Nat → Nat → R α} {enc : α → List Nat} (hF : Re F enc) (mx : Int) : Re (fun s p e => vecS s p e mx (fun q => F s q e)) (encVec enc) := by
  intro s p e x r hs h
  obtain ⟨⟨k, q⟩, h1, h2⟩ := bindR_get h
  obtain ⟨a1, a2, a3, a4⟩ := re_count mx s p e k q hs h1
  obtain ⟨new, b1, b2, b3, b4, b5, b6⟩ := re_rows hF _ s q e _ _ _ hs h2
  dsimp only at b2
  rw [List.nil_append] at b1
  subst b1
  unfold encVec
  unfold encI32 at a2 a3 a4
  rw [b2]
  refine ⟨by omega, by rw [List.length_append]; omega, ?_, fun s' p' e' hs' hl hle => ?_⟩
  · intro b hb
    rcases List.mem_append.1 hb with hb | hb
    · exact a3 b hb
    · exact b5 b hb
  · obtain ⟨l1, l2⟩ := hl.app
    rw [List.length_append] at hle ⊢
    show bindR (countS s' p' e' mx) _ = _
    have h4 := a4 s' p' e' hs' l1 (by omega)
    dsimp only at h4
    rw [bindR_ok h4]
    dsimp only
    rw [b6 s' _ e' [] hs' l2 (by omega)]
    simp only [List.nil_append]
    congr 2
    omega
def encTy (t : Ty) : List Nat := 96 :: (encStr t.p ++ encStr t.q)
theorem re_ty : Re (fun s p e => tyRow s e p) encTy := by
  exact Re.bind (enc := encTy) (re_fixed 96) (G := fun _ s p e => bindR (valtypesS s p e 4) fun b => bindR (valtypesS s b.2 e 1) fun c => .ok ((⟨b.1, c.1⟩ : Ty), c.2)) (enc2 := fun _ t => encStr t.p ++ encStr t.q)
    (fun _ _ _ _ _ _ _ => Re.bind (re_valtypes 4) (G := fun b s p e => bindR (valtypesS s p e 1) fun c => .ok ((⟨b, c.1⟩ : Ty), c.2)) (enc2 := fun _ t => encStr t.q)
      (fun _ _ _ b _ _ _ => Re.bind (re_valtypes 1) (G := fun c _ p _ => .ok ((⟨b, c⟩ : Ty), p)) (enc2 := fun _ _ => []) (fun _ _ _ _ _ _ _ => Re.pure _) (fun s p e c q y r _ _ h2 => by simp at h2; rw [← h2.1]; simp))
      (fun s p e b q y r _ _ h2 => by
        obtain ⟨c, _, h3⟩ := bindR_get h2
        simp at h3
        rw [← h3.1]))
    (fun _ _ _ _ _ _ _ _ _ _ => rfl)
def encImp (i : Imp) : List Nat := encStr i.mod ++ (encStr i.name ++ (0 :: encI32 i.ty))
theorem re_imp : Re (fun s p e => impRow s e p) encImp := by
  exact Re.bind (enc := encImp) re_name (G := fun a s p e => bindR (nameS s p e) fun b => bindR (fixedS s b.2 e 0) fun c => bindR (u32S s c.2 e) fun d => .ok ((⟨a, b.1, d.1⟩ : Imp), d.2)) (enc2 := fun _ i => encStr i.name ++ (0 :: encI32 i.ty))
    (fun _ _ _ a _ _ _ => Re.bind re_name (G := fun b s p e => bindR (fixedS s p e 0) fun c => bindR (u32S s c.2 e) fun d => .ok ((⟨a, b, d.1⟩ : Imp), d.2)) (enc2 := fun _ i => 0 :: encI32 i.ty)
      (fun _ _ _ b _ _ _ => Re.bind (re_fixed 0) (G := fun _ s p e => bindR (u32S s p e) fun d => .ok ((⟨a, b, d.1⟩ : Imp), d.2)) (enc2 := fun _ i => encI32 i.ty)
        (fun _ _ _ _ _ _ _ => Re.bind re_u32 (G := fun d _ p _ => .ok ((⟨a, b, d⟩ : Imp), p)) (enc2 := fun _ _ => []) (fun _ _ _ _ _ _ _ => Re.pure _) (fun s p e c q y r _ _ h2 => by simp at h2; rw [← h2.1]; simp))
        (fun _ _ _ _ _ _ _ _ _ _ => rfl))
      (fun s p e b q y r _ _ h2 => by
        obtain ⟨c, _, h3⟩ := bindR_get h2
        obtain ⟨d, _, h4⟩ := bindR_get h3
        simp at h4
        rw [← h4.1]))
    (fun s p e a q y r _ _ h2 => by
      obtain ⟨b, _, h2⟩ := bindR_get h2
      obtain ⟨c, _, h3⟩ := bindR_get h2
      obtain ⟨d, _, h4⟩ := bindR_get h3
      simp at h4
      rw [← h4.1]
      rfl)
theorem re_ti : Re (fun s p e => tiRow s e p) encI32 := re_u32
def encGlob (g : Glob) : List Nat := g.ty :: ((if g.mu then 1 else 0) :: encCon g.init)
theorem re_glob : Re (fun s p e => globRow s e p) encGlob := by
  exact Re.bind (enc := encGlob) re_valtype (G := fun a s p e => bindR (flagS s p e 1) fun b => bindR (conS s b.2 e) fun c => .ok ((⟨a, decide (b.1 = 1), c.1⟩ : Glob), c.2)) (enc2 := fun _ g => (if g.mu then 1 else 0) :: encCon g.init)
    (fun _ _ _ a _ _ _ => Re.bind (re_flag 1) (G := fun b s p e => bindR (conS s p e) fun c => .ok ((⟨a, decide (b = 1), c.1⟩ : Glob), c.2)) (enc2 := fun _ g => encCon g.init)
      (fun _ _ _ b _ _ _ => Re.bind re_con (G := fun c _ p _ => .ok ((⟨a, decide (b = 1), c⟩ : Glob), p)) (enc2 := fun _ _ => []) (fun _ _ _ _ _ _ _ => Re.pure _) (fun s p e c q y r _ _ h2 => by simp at h2; rw [← h2.1]; simp))
      (fun s p e b q y r _ h1 h2 => by
        have hb := flagS_le h1
        obtain ⟨c, _, h3⟩ := bindR_get h2
        simp at h3
        rw [← h3.1]
        have : b = 0 ∨ b = 1 := by omega
        rcases this with rfl | rfl <;> rfl))
    (fun s p e a q y r _ _ h2 => by
      obtain ⟨b, _, h2⟩ := bindR_get h2
      obtain ⟨c, _, h3⟩ := bindR_get h2
      simp at h3
      rw [← h3.1]
      rfl)
def encExp (x : Exp) : List Nat := encStr x.name ++ (x.kind :: encI32 x.idx)
theorem re_exp : Re (fun s p e => expRow s e p) encExp := by
  exact Re.bind (enc := encExp) re_name (G := fun a s p e => bindR (flagS s p e 3) fun b => bindR (u32S s b.2 e) fun c => .ok ((⟨a, b.1, c.1⟩ : Exp), c.2)) (enc2 := fun _ x => x.kind :: encI32 x.idx)
    (fun _ _ _ a _ _ _ => Re.bind (re_flag 3) (G := fun b s p e => bindR (u32S s p e) fun c => .ok ((⟨a, b, c.1⟩ : Exp), c.2)) (enc2 := fun _ x => encI32 x.idx)
      (fun _ _ _ b _ _ _ => Re.bind re_u32 (G := fun c _ p _ => .ok ((⟨a, b, c⟩ : Exp), p)) (enc2 := fun _ _ => []) (fun _ _ _ _ _ _ _ => Re.pure _) (fun s p e c q y r _ _ h2 => by simp at h2; rw [← h2.1]; simp))
      (fun s p e b q y r _ h1 h2 => by
        obtain ⟨c, _, h3⟩ := bindR_get h2
        simp at h3
        rw [← h3.1]
        rfl))
    (fun s p e a q y r _ _ h2 => by
      obtain ⟨b, _, h2⟩ := bindR_get h2
      obtain ⟨c, _, h3⟩ := bindR_get h2
      simp at h3
      rw [← h3.1]
      rfl)
def encElm (x : Elm) : List Nat := 0 :: (encCon x.off ++ encVec encI32 x.fns)
theorem re_elm : Re (fun s p e => elmRow s e p) encElm := by
  exact Re.bind (enc := encElm) (re_fixed 0) (G := fun _ s p e => bindR (conS s p e) fun b => bindR (vecS s b.2 e 6 (tiRow s e)) fun c => .ok ((⟨b.1, c.1⟩ : Elm), c.2)) (enc2 := fun _ x => encCon x.off ++ encVec encI32 x.fns)
    (fun _ _ _ _ _ _ _ => Re.bind re_con (G := fun b s p e => bindR (vecS s p e 6 (tiRow s e)) fun c => .ok ((⟨b, c.1⟩ : Elm), c.2)) (enc2 := fun _ x => encVec encI32 x.fns)
      (fun _ _ _ b _ _ _ => Re.bind (F := fun s p e => vecS s p e 6 (tiRow s e)) (re_vec re_ti 6) (G := fun c _ p _ => .ok ((⟨b, c⟩ : Elm), p)) (enc2 := fun _ _ => []) (fun _ _ _ _ _ _ _ => Re.pure _) (fun s p e c q y r _ _ h2 => by simp at h2; rw [← h2.1]; simp))
      (fun s p e b q y r _ h1 h2 => by
        obtain ⟨c, _, h3⟩ := bindR_get h2
        simp at h3
        rw [← h3.1]))
    (fun _ _ _ _ _ _ _ _ _ _ => rfl)
def encDat (x : Dat) : List Nat := 0 :: (encCon x.off ++ encStr x.bytes)
theorem re_dat : Re (fun s p e => datRow s e p) encDat := by
  exact Re.bind (enc := encDat) (re_fixed 0) (G := fun _ s p e => bindR (conS s p e) fun b => bindR (countS s b.2 e 24) fun c => bindR (takeS s c.2 e c.1.toNat) fun d => .ok ((⟨b.1, d.1⟩ : Dat), d.2)) (enc2 := fun _ x => encCon x.off ++ encStr x.bytes)
    (fun _ _ _ _ _ _ _ => Re.bind re_con (G := fun b s p e => bindR (countS s p e 24) fun c => bindR (takeS s c.2 e c.1.toNat) fun d => .ok ((⟨b, d.1⟩ : Dat), d.2)) (enc2 := fun _ x => encStr x.bytes)
      (fun _ _ _ b _ _ _ => Re.bind (re_count 24) (G := fun c s p e => bindR (takeS s p e c.toNat) fun d => .ok ((⟨b, d.1⟩ : Dat), d.2)) (enc2 := fun _ x => natsOf x.bytes)
        (fun _ _ _ c _ _ _ => Re.bind (re_take c.toNat) (G := fun d _ p _ => .ok ((⟨b, d⟩ : Dat), p)) (enc2 := fun _ _ => []) (fun _ _ _ _ _ _ _ => Re.pure _) (fun s p e c q y r _ _ h2 => by simp at h2; rw [← h2.1]; simp))
        (fun s p e c q y r hs h1 h2 => by
          obtain ⟨d, h3, h4⟩ := bindR_get h2
          obtain ⟨_, h5, _⟩ := takeS_get hs h3
          simp at h4
          rw [← h4.1]
          unfold encStr encI32
          dsimp only
          rw [h5]))
      (fun s p e b q y r _ h1 h2 => by
        obtain ⟨c, _, h3⟩ := bindR_get h2
        obtain ⟨d, _, h4⟩ := bindR_get h3
        simp at h4
        rw [← h4.1]))
    (fun _ _ _ _ _ _ _ _ _ _ => rfl)
end Go.Proofs.Qxb6500275aGreatDoor
