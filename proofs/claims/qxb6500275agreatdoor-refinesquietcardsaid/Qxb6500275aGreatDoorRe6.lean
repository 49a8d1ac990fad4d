import Derived.Test.Qxb6500275aGreatDoorRe5
set_option linter.unusedVariables false
set_option linter.unusedSimpArgs false
namespace Go.Proofs.Qxb6500275aGreatDoor
open Go Go.RowKit
/- THE BODY -/
def contL (s : ByteArray) (e n q op : Nat) (opn : List Nat) (ins : List Ins) (x : Ins × Nat × List Int) : Except (Int × Nat) (List Ins × List Int × Nat) :=
  if 96 ≤ ins.length then .error (7, q)
  else if op = 2 ∨ op = 3 ∨ op = 4 then (if 6 ≤ opn.length then .error (11, q) else bodyL s e n x.2.1 (opn ++ [op]) (ins ++ [x.1]) x.2.2)
  else if op = 5 then (if opn.getLast? = some 4 then bodyL s e n x.2.1 (opn.dropLast ++ [5]) (ins ++ [x.1]) x.2.2 else .error (11, q))
  else if op = 11 then (if opn = [] then .ok (ins ++ [x.1], x.2.2, x.2.1) else bodyL s e n x.2.1 opn.dropLast (ins ++ [x.1]) x.2.2)
  else bodyL s e n x.2.1 opn (ins ++ [x.1]) x.2.2
theorem bodyL_succ (s : ByteArray) (e n q : Nat) (opn : List Nat) (ins : List Ins) (tabs : List Int) : bodyL s e (n + 1) q opn ins tabs = bindR (nextS s q e) fun a => bindR (restS s a.2 e a.1 q tabs) fun x => contL s e n q a.1 opn ins x := rfl
theorem cont_cases {s : ByteArray} {e n q op : Nat} {opn : List Nat} {ins : List Ins} {x : Ins × Nat × List Int} {res : List Ins × List Int × Nat} (h : contL s e n q op opn ins x = .ok res) :
    (∃ opn', ∀ s' e' n' q' p', contL s' e' n' q' op opn ins (x.1, p', x.2.2) = bodyL s' e' n' p' opn' (ins ++ [x.1]) x.2.2) ∨ (∀ s' e' n' q' p', contL s' e' n' q' op opn ins (x.1, p', x.2.2) = .ok (ins ++ [x.1], x.2.2, p')) := by
  unfold contL at h
  split at h
  · simp at h
  rename_i h0
  split at h
  · rename_i h1
    split at h
    · simp at h
    · rename_i h2
      exact .inl ⟨_, fun s' e' n' q' p' => by unfold contL; rw [if_neg h0, if_pos h1, if_neg h2]⟩
  rename_i h1
  split at h
  · rename_i h2
    split at h
    · rename_i h3
      exact .inl ⟨_, fun s' e' n' q' p' => by unfold contL; rw [if_neg h0, if_neg h1, if_pos h2, if_pos h3]⟩
    · simp at h
  rename_i h2
  split at h
  · rename_i h3
    split at h
    · rename_i h4
      exact .inr fun s' e' n' q' p' => by unfold contL; rw [if_neg h0, if_neg h1, if_neg h2, if_pos h3, if_pos h4]
    · rename_i h4
      exact .inl ⟨_, fun s' e' n' q' p' => by unfold contL; rw [if_neg h0, if_neg h1, if_neg h2, if_pos h3, if_neg h4]⟩
  · rename_i h3
    exact .inl ⟨_, fun s' e' n' q' p' => by unfold contL; rw [if_neg h0, if_neg h1, if_neg h2, if_neg h3]⟩
theorem re_body : ∀ (n : Nat) (s : ByteArray) (q e : Nat) (opn : List Nat) (ins : List Ins) (tabs : List Int) (ins' : List Ins) (tabs' : List Int) (r : Nat), e ≤ s.size → bodyL s e n q opn ins tabs = .ok (ins', tabs', r) →
    ∃ new u, ins' = ins ++ new ∧ tabs' = tabs ++ u ∧ q ≤ r ∧ (new.flatMap (encX tabs')).length ≤ r - q ∧ (∀ b ∈ new.flatMap (encX tabs'), b < 256) ∧
      ∀ s' p' e' n', e' ≤ s'.size → Lies s' p' (new.flatMap (encX tabs')) → p' + (new.flatMap (encX tabs')).length ≤ e' → (new.flatMap (encX tabs')).length < n' → bodyL s' e' n' p' opn ins tabs = .ok (ins', tabs', p' + (new.flatMap (encX tabs')).length) := by
  intro n
  induction n with
  | zero => intro s q e opn ins tabs ins' tabs' r hs h; simp [bodyL] at h
  | succ n ih =>
    intro s q e opn ins tabs ins' tabs' r hs h
    rw [bodyL_succ] at h
    obtain ⟨⟨op, q1⟩, h1, h2⟩ := bindR_get h
    obtain ⟨⟨i, q2, t⟩, h3, h4⟩ := bindR_get h2
    dsimp only at h2 h3 h4
    obtain ⟨a1, a2, a3, a4⟩ := re_next s q e op q1 hs h1
    have hi := rest_ri hs h3
    obtain ⟨u0, hu0⟩ := hi.pre
    have hop := hi.hop
    rcases cont_cases h4 with ⟨opn', hc⟩ | hc
    · have h5 := (hc s e n q q2).symm.trans h4
      obtain ⟨new, u, b1, b2, b3, b4, b5, b6⟩ := ih s q2 e _ _ _ _ _ _ hs h5
      have ea : encX tabs' i = op :: encA i t := by unfold encX; rw [b2, encA_more hi.tab, hop]
      have hle := hi.le
      have hlen := hi.len
      simp only [List.length_singleton] at a2
      refine ⟨i :: new, u0 ++ u, by rw [b1]; simp, by rw [b2, hu0]; simp, by omega, ?_, ?_, fun s' p' e' n' hs' hl hle' hn' => ?_⟩
      · simp only [List.flatMap_cons, List.length_append, ea, List.length_cons]; omega
      · intro b hb
        rw [List.flatMap_cons, ea] at hb
        rcases List.mem_append.1 hb with hb | hb
        · rcases List.mem_cons.1 hb with hb | hb
          · exact a3 b (by simp [hb])
          · exact hi.byt b hb
        · exact b5 b hb
      · rw [List.flatMap_cons, ea] at hl hle' hn' ⊢
        obtain ⟨l1, l2⟩ := hl.app
        obtain ⟨l3, l4⟩ := l1.cons
        rw [List.length_append, List.length_cons] at hle' hn' ⊢
        rw [List.length_cons] at l2
        obtain ⟨n'', rfl⟩ : ∃ n'', n' = n'' + 1 := ⟨n' - 1, by omega⟩
        rw [bodyL_succ, bindR_ok (a4 s' p' e' hs' (fun j x hx => by
          cases j with
          | zero => simp at hx; rw [← hx]; exact l3
          | succ j => simp at hx) (by simp only [List.length_singleton]; omega))]
        dsimp only [List.length_singleton]
        rw [bindR_ok (hi.fwd s' (p' + 1) e' p' hs' l4 (by omega))]
        rw [hc]
        rw [b6 s' _ e' n'' hs' (by rwa [show p' + 1 + (encA i t).length = p' + ((encA i t).length + 1) by omega]) (by omega) (by omega)]
        congr 3
        omega
    · have h5 := (hc s e n q q2).symm.trans h4
      simp at h5
      obtain ⟨rfl, rfl, rfl⟩ := h5
      have ea : encX t i = op :: encA i t := by unfold encX; rw [hop]
      have hle := hi.le
      have hlen := hi.len
      simp only [List.length_singleton] at a2
      refine ⟨[i], u0, rfl, hu0, by omega, ?_, ?_, fun s' p' e' n' hs' hl hle' hn' => ?_⟩
      · simp only [List.flatMap_cons, List.flatMap_nil, List.append_nil, ea, List.length_cons]; omega
      · intro b hb
        simp only [List.flatMap_cons, List.flatMap_nil, List.append_nil, ea] at hb
        rcases List.mem_cons.1 hb with hb | hb
        · exact a3 b (by simp [hb])
        · exact hi.byt b hb
      · simp only [List.flatMap_cons, List.flatMap_nil, List.append_nil, ea, List.length_cons] at hl hle' hn' ⊢
        obtain ⟨l3, l4⟩ := hl.cons
        obtain ⟨n'', rfl⟩ : ∃ n'', n' = n'' + 1 := ⟨n' - 1, by omega⟩
        rw [bodyL_succ, bindR_ok (a4 s' p' e' hs' (fun j x hx => by
          cases j with
          | zero => simp at hx; rw [← hx]; exact l3
          | succ j => simp at hx) (by simp only [List.length_singleton]; omega))]
        dsimp only [List.length_singleton]
        rw [bindR_ok (hi.fwd s' (p' + 1) e' p' hs' l4 (by omega))]
        rw [hc]
        congr 3
        omega
/- THE LOCALS: runs of like types -/
def runs : List Nat → Nat → List (Nat × Nat)
  | [], _ => []
  | [c], n => [(n + 1, c)]
  | c :: d :: l, n => if d = c then runs (d :: l) (n + 1) else (n + 1, c) :: runs (d :: l) 0
def encRun (x : Nat × Nat) : List Nat := uLeb x.1 ++ [x.2]
def encLoc (l : List Nat) : List Nat := uLeb (runs l 0).length ++ (runs l 0).flatMap encRun
def spread (rs : List (Nat × Nat)) : List Nat := rs.flatMap (fun x => List.replicate x.1 x.2)
theorem runs_rep (t : Nat) : ∀ (k n : Nat), (runs (List.replicate k t) n).length ≤ 1
  | 0, n => by simp [runs]
  | 1, n => by simp [runs, List.replicate]
  | k + 2, n => by
    have := runs_rep t (k + 1) (n + 1)
    simpa [runs, List.replicate] using this
theorem runs_app (t k : Nat) : ∀ (l : List Nat) (n : Nat), (runs (l ++ List.replicate k t) n).length ≤ (runs l n).length + 1
  | [], n => by have := runs_rep t k n; simpa [runs] using this
  | [c], n => by
    cases k with
    | zero => simp [runs]
    | succ k =>
      have h1 := runs_rep t (k + 1) (n + 1)
      have h2 := runs_rep t (k + 1) 0
      simp only [List.cons_append, List.nil_append, List.replicate_succ, runs] at h1 h2 ⊢
      split
      · omega
      · simp only [List.length_cons, List.length_nil]; omega
  | c :: d :: l, n => by
    have h1 := runs_app t k (d :: l) (n + 1)
    have h2 := runs_app t k (d :: l) 0
    simp only [List.cons_append, runs] at h1 h2 ⊢
    split
    · exact h1
    · simp only [List.length_cons]; omega
theorem runs_spread : ∀ (l : List Nat) (n c : Nat), spread (runs (c :: l) n) = List.replicate n c ++ (c :: l)
  | [], n, c => by simp [spread, runs, List.replicate_succ']
  | d :: l, n, c => by
    unfold runs
    split
    · rename_i h
      subst h
      rw [runs_spread l (n + 1) d, List.replicate_succ']
      simp
    · have := runs_spread l 0 d
      unfold spread at this ⊢
      rw [List.flatMap_cons, this, List.replicate_succ']
      simp
theorem runs_all (l : List Nat) : spread (runs l 0) = l := by
  cases l with
  | nil => rfl
  | cons c l => rw [runs_spread]; simp
theorem runs_mem : ∀ (l : List Nat) (n : Nat), ∀ x ∈ runs l n, x.2 ∈ l ∧ 1 ≤ x.1
  | [], n, x, h => by simp [runs] at h
  | [c], n, x, h => by simp [runs] at h; subst h; simp
  | c :: d :: l, n, x, h => by
    unfold runs at h
    split at h
    · have := runs_mem (d :: l) (n + 1) x h
      exact ⟨List.mem_cons_of_mem _ this.1, this.2⟩
    · rcases List.mem_cons.1 h with h | h
      · subst h; simp
      · have := runs_mem (d :: l) 0 x h
        exact ⟨List.mem_cons_of_mem _ this.1, this.2⟩
theorem spread_len : ∀ (rs : List (Nat × Nat)), (∀ x ∈ rs, 1 ≤ x.1) → rs.length ≤ (spread rs).length
  | [], _ => by simp [spread]
  | x :: rs, h => by
    have := spread_len rs (fun y hy => h y (List.mem_cons_of_mem _ hy))
    have := h x (List.mem_cons_self ..)
    unfold spread at *
    simp only [List.flatMap_cons, List.length_append, List.length_replicate, List.length_cons]
    omega
/- reading runs -/
theorem locals_fwd {s : ByteArray} {e : Nat} : ∀ (rs : List (Nat × Nat)) (acc : List Nat) (q : Nat), (∀ x ∈ rs, 124 ≤ x.2 ∧ x.2 ≤ 127) → acc.length + (spread rs).length ≤ 6 → Lies s q (rs.flatMap encRun) → q + (rs.flatMap encRun).length ≤ e → e ≤ s.size →
    localsL s e rs.length acc q = .ok (acc ++ spread rs, q + (rs.flatMap encRun).length)
  | [], acc, q, _, _, _, _, _ => by simp [localsL, spread]
  | x :: rs, acc, q, hx, hl, hL, hle, hs => by
    unfold spread at hl ⊢
    rw [List.flatMap_cons] at hl ⊢
    rw [List.flatMap_cons] at hL hle ⊢
    rw [List.length_append, List.length_replicate] at hl
    rw [List.length_append] at hle ⊢
    obtain ⟨l1, l2⟩ := hL.app
    have h0 := hx x (List.mem_cons_self ..)
    unfold encRun at l1 l2 hle ⊢
    obtain ⟨l3, l4⟩ := l1.app
    rw [List.length_append, List.length_singleton] at l2 hle ⊢
    rw [List.length_cons]
    unfold localsL countS
    rw [u32S_leb (x := x.1) (by omega) l3 (by omega)]
    dsimp only
    rw [if_neg (by omega)]
    dsimp only
    have hc := l4 0 _ rfl
    rw [Nat.add_zero] at hc
    unfold valtypeS
    rw [if_pos (by omega), hc, if_neg (by omega)]
    dsimp only
    rw [Int.toNat_natCast]
    have ih := locals_fwd rs (acc ++ List.replicate x.1 x.2) (q + (uLeb x.1).length + 1) (fun y hy => hx y (List.mem_cons_of_mem _ hy)) (by rw [List.length_append, List.length_replicate]; unfold spread; omega) (by rwa [show q + (uLeb x.1).length + 1 = q + ((uLeb x.1).length + 1) by omega]) (by unfold encRun; omega) hs
    rw [ih]
    unfold spread encRun
    rw [List.append_assoc]
    congr 2
    omega
theorem locals_get {s : ByteArray} {e : Nat} (hs : e ≤ s.size) : ∀ (g : Nat) (acc acc' : List Nat) (q r : Nat), localsL s e g acc q = .ok (acc', r) → acc.length ≤ 6 → (∀ x ∈ acc, 124 ≤ x ∧ x ≤ 127) →
    q + 2 * g ≤ r ∧ acc'.length ≤ 6 ∧ (∀ x ∈ acc', 124 ≤ x ∧ x ≤ 127) ∧ (runs acc' 0).length ≤ (runs acc 0).length + g
  | 0, acc, acc', q, r, h, hl, ha => by
    simp [localsL] at h
    obtain ⟨rfl, rfl⟩ := h
    exact ⟨by omega, hl, ha, by omega⟩
  | g + 1, acc, acc', q, r, h, hl, ha => by
    unfold localsL at h
    split at h
    · simp at h
    · rename_i k r1 hk
      have hc := countS_ok hk
      split at h
      · simp at h
      · rename_i t r2 hv
        have hv2 := valtypeS_ok hv
        have ht : 124 ≤ t ∧ t ≤ 127 := by
          unfold valtypeS at hv
          split at hv
          · split at hv
            · simp at hv
            · simp at hv; omega
          · simp at hv
        have := locals_get hs g _ _ _ _ h (by rw [List.length_append, List.length_replicate]; omega) (fun x hx => by
          rcases List.mem_append.1 hx with hx | hx
          · exact ha x hx
          · have := List.eq_of_mem_replicate hx; omega)
        have hr := runs_app t k.toNat acc 0
        exact ⟨by omega, this.2.1, this.2.2.1, by omega⟩
theorem natsOf_bytesOf {l : List Nat} (h : ∀ x ∈ l, x < 256) : natsOf (bytesOf l) = l := by
  unfold natsOf bytesOf
  rw [List.map_map]
  conv => rhs; rw [← List.map_id l]
  apply List.map_congr_left
  intro x hx
  have := h x hx
  simp only [Function.comp, id]
  rw [UInt8.toNat_ofNat']
  omega
theorem runs_small {l : List Nat} (h : l.length ≤ 6) (hv : ∀ x ∈ l, 124 ≤ x ∧ x ≤ 127) : ∀ x ∈ runs l 0, x.1 ≤ 6 := by
  intro x hx
  have h1 : spread (runs l 0) = l := runs_all l
  have h2 : x.1 ≤ (spread (runs l 0)).length := by
    have : ∀ rs : List (Nat × Nat), x ∈ rs → x.1 ≤ (spread rs).length := by
      intro rs
      induction rs with
      | nil => intro h; simp at h
      | cons y rs ih =>
        intro h
        unfold spread at ih ⊢
        rw [List.flatMap_cons, List.length_append, List.length_replicate]
        rcases List.mem_cons.1 h with h | h
        · subst h; omega
        · have := ih h; omega
    exact this _ hx
  rw [h1] at h2
  omega
theorem encRuns_len : ∀ (rs : List (Nat × Nat)), (∀ x ∈ rs, x.1 ≤ 6) → (rs.flatMap encRun).length = 2 * rs.length
  | [], _ => rfl
  | x :: rs, h => by
    have := encRuns_len rs (fun y hy => h y (List.mem_cons_of_mem _ hy))
    have h0 := h x (List.mem_cons_self ..)
    rw [List.flatMap_cons, List.length_append, this]
    unfold encRun
    rw [uLeb_lt (by omega)]
    simp only [List.length_append, List.length_cons, List.length_nil]
    omega
theorem re_locals : Re localsS (fun t => encLoc (natsOf t)) := by
  intro s p e x r hs h
  unfold localsS at h
  split at h
  · simp at h
  · rename_i g q hc
    split at h
    · simp at h
    · rename_i acc r1 hl
      simp at h
      obtain ⟨rfl, rfl⟩ := h
      have hg := countS_ok hc
      obtain ⟨h1, h2, h3, h4⟩ := locals_get hs _ _ _ _ _ hl (by simp) (by simp)
      have hn : natsOf (bytesOf acc) = acc := natsOf_bytesOf (fun x hx => by have := h3 x hx; omega)
      dsimp only
      rw [hn]
      have hsm := runs_small h2 h3
      have hlen := encRuns_len _ hsm
      have h5 : (runs ([] : List Nat) 0).length = 0 := rfl
      have hR : (runs acc 0).length ≤ 6 := by omega
      unfold encLoc
      refine ⟨by omega, ?_, ?_, fun s' p' e' hs' hL hle => ?_⟩
      · rw [List.length_append, hlen, uLeb_lt (by omega)]
        simp only [List.length_singleton]
        omega
      · intro b hb
        rcases List.mem_append.1 hb with hb | hb
        · exact uLeb_by _ b hb
        · obtain ⟨x, hx, hb⟩ := List.mem_flatMap.1 hb
          unfold encRun at hb
          rcases List.mem_append.1 hb with hb | hb
          · exact uLeb_by _ b hb
          · simp at hb
            have := h3 x.2 (runs_mem acc 0 x hx).1
            omega
      · obtain ⟨l1, l2⟩ := hL.app
        rw [List.length_append] at hle ⊢
        unfold localsS countS
        rw [u32S_leb (x := (runs acc 0).length) (by omega) l1 (by omega)]
        dsimp only
        rw [if_neg (by omega)]
        dsimp only
        rw [Int.toNat_natCast, locals_fwd (runs acc 0) [] _ (fun x hx => h3 x.2 (runs_mem acc 0 x hx).1) (by rw [runs_all]; simpa using h2) l2 (by omega) hs', runs_all]
        dsimp only
        rw [List.nil_append]
        congr 2
        omega
end Go.Proofs.Qxb6500275aGreatDoor
