import Derived.Test.Qxb6500275aGreatDoorXm9
set_option linter.unusedVariables false
set_option linter.unusedSimpArgs false
set_option maxRecDepth 100000
namespace Go.Proofs.Qxb6500275aGreatDoor
open Go Go.RowKit
theorem pack_lo {a b : Nat} (hb : b ≤ 10) : (packP a b % 4294967296).toNat = b := by unfold packP; omega
theorem pack_hi {a b : Nat} (hb : b ≤ 10) : packP a b / 4294967296 = (a : Int) := by unfold packP; omega
theorem bot_rev {l : List MV} {h : Nat} (hh : h ≤ l.length) : bot h (l.map MV.t).reverse = ((l.take h).map MV.t).reverse := by
  unfold bot
  rw [List.map_take, List.reverse_take]
  simp
section
variable {C : XC} {t0 : Ty} {q : MQ} {p : Nat × Xs} {r : MF} {rest : List MF} {k : Nat} {fn : Fn} {t : Ty} {cells : List Ins} {below : List Nat} {aw : List Nat}
theorem labsF_drop {M : Mod} {a b l : Nat} (h : (osAt fn a).drop l = osAt fn b) (hl : l ≤ (osAt fn a).length - 1) (hne : 1 ≤ (osAt fn a).length) : (labsF M fn t a).take ((labsF M fn t a).length - l) = labsF M fn t b := by
  unfold labsF
  rw [← h, List.length_reverse, List.length_map]
  have e : ((osAt fn a).drop l).dropLast = (osAt fn a).dropLast.drop l := by
    rw [List.dropLast_eq_take, List.dropLast_eq_take, List.length_drop, List.drop_take]
    congr 1
    omega
  rw [e, List.map_drop, List.reverse_drop, List.length_map]
theorem labsF_at {M : Mod} {a l s : Nat} (h : (osAt fn a)[l]? = some s) (hl : l < (osAt fn a).length - 1) : (labsF M fn t a)[(labsF M fn t a).length - 1 - l]? = some (s - 1, (vsAt M fn t s).ops.length) := by
  have hlen := labsF_len (M := M) (fn := fn) (t := t) a
  unfold labsF at hlen ⊢
  rw [List.length_reverse, List.length_map, List.length_dropLast] at hlen ⊢
  rw [List.getElem?_reverse (by simp; omega)]
  simp only [List.length_map, List.length_dropLast]
  rw [show (osAt fn a).length - 1 - 1 - ((osAt fn a).length - 1 - 1 - l) = l by omega, List.getElem?_map, List.dropLast_eq_take, List.getElem?_take, if_pos hl, h]
  rfl
theorem take_ws {A B : List Nat} {n h : Nat} (hn : n = A.length) : (A ++ B).take (n + h) = A ++ B.take h := by
  subst hn
  rw [List.take_append, List.take_of_length_le (by omega), Nat.add_sub_cancel_left]
/- A BRANCH -/
set_option maxHeartbeats 1000000 in
theorem branch_both {pc l s n : Nat} {f f0 : VF} {rr0 : List VF} {c : Ins} {r1 : MF} {q1 : MQ} {s1 : Xs} (hz : Fz C k fn t cells) (hlt : pc < fn.body.length) (hlv : Lv C.M fn t pc) (hL : Lab C.M fn t pc l s f) (hct : (vsAt C.M fn t pc).ctl = f0 :: rr0)
    (hq : q1.fr = r1 :: rest) (hf : r1.f = (k : Int)) (hlabs : r1.labs = labsF C.M fn t pc) (hbot : ∀ m, m ≤ f0.floor → bot m (r1.ops.map MV.t).reverse = bot m (vsAt C.M fn t pc).ops) (hfl : r1.floor = f0.floor) (hf0 : f0.floor ≤ r1.ops.length)
    (hcar : labF f ≠ 64 → ∃ l0 v, r1.ops = l0 ++ [v] ∧ v.t = labF f ∧ f0.floor ≤ l0.length) (hloc : r1.loc.map MV.t = tysB t.p ++ tysB fn.locals) (hok : ∀ v, v ∈ r1.loc ∨ v ∈ r1.ops → VOk v)
    (hws : s1.ws = below ++ bitsM r1.loc ++ bitsM r1.ops) (hbase : s1.base = below.length) (hfn : s1.fn = k) (hstk : Stk C t0 rest s1.fr below t) (hS : q1.S = s1.S) (hH : q1.H = s1.H) (hn : q1.fuel = n) (hgl : GlOk C.M q1.S) (hcx : c.x = (labT C.M fn t f s : Int)) (hcy : c.y = packP (gLen (labF f)) f.floor) :
    ∃ m, branchM C.M fn q1 l = some m ∧ ((m.1 = 0 ∧ RelE C t0 m.2 (n, branchX C s1 c)) ∨ PostN C t0 (stepX C (n, branchX C s1 c)) m) := by
  have hT := hz.tw
  obtain ⟨hlen, hO⟩ := hT.op1 pc hlt
  obtain ⟨o1, o2, g, f', rr, g1, g2, g3, g4, g5, g6, g7, g8⟩ := hO l s hL.os
  have hf' : f' = f := by
    have : ((vsAt C.M fn t pc).ctl.drop l)[0]? = some f' := by rw [g2]; rfl
    rw [List.getElem?_drop] at this
    have h2 := hL.fr
    simp at this
    rw [this] at h2
    simpa using h2
  subst hf'
  obtain ⟨r0, hr1, hr2⟩ := hL.hd
  have hlast := hL.lt
  obtain ⟨g', rr', hd⟩ := hT.hd0 hr1 hL.lt
  have hgg : g' = g ∧ rr' = rr := by
    have := hd.ctl
    rw [g1] at this
    simp at this
    exact ⟨this.1.symm, this.2.symm⟩
  obtain ⟨rfl, rfl⟩ := hgg
  have hrlv : ∀ x, x ∈ rr' → x.dead = false := fun x hx => hlv x (by
    have : x ∈ (vsAt C.M fn t pc).ctl.drop l := by rw [g2]; exact List.mem_cons_of_mem _ hx
    exact List.mem_of_mem_drop this)
  obtain ⟨hs', hJ⟩ := (hT.at_ pc hlt).js
  have hff0 : f'.floor ≤ f0.floor := by
    have hfl2 := hJ.vi.fl
    rw [hct] at hfl2
    have hfr := hL.fr
    rw [hct] at hfr
    cases l with
    | zero => simp at hfr; subst hfr; exact Nat.le_refl _
    | succ l => exact hfl2.2.at_ (l := l) (by simpa using hfr)
  have h10 : f'.floor ≤ 10 := by
    have := hJ.vi.lO
    have hfl2 := hJ.vi.fl
    rw [hct] at hfl2
    have := hfl2.1
    omega
  have hg1 : gLen (labF f') ≤ 1 := by unfold gLen; split <;> omega
  have hpk1 : (c.y % 4294967296).toNat = f'.floor := by rw [hcy]; exact pack_lo h10
  have hpk2 : (c.y / 4294967296 = 1) ↔ labF f' ≠ 64 := by
    rw [hcy, pack_hi h10]
    unfold gLen
    split
    · rename_i e
      exact ⟨fun h => by simp at h, fun h => absurd e h⟩
    · rename_i e
      exact ⟨fun _ => e, fun _ => rfl⟩
  have hnl : r1.loc.length = t.p.size + fn.locals.size := by
    have := congrArg List.length hloc
    rw [List.length_append, tysB_len, tysB_len] at this
    simpa using this
  have hff : ffX C s1 = ⟨t.p.size, t.p.size + fn.locals.size, t.q.size, cells.tail⟩ := by unfold ffX; rw [hfn]; exact getD_of hz.ff
  have hhs : (vsAt C.M fn t s).ops.length = f'.floor := by rw [← g6, g3]
  have htk : s1.ws.take (s1.base + (t.p.size + fn.locals.size) + f'.floor) = below ++ bitsM r1.loc ++ bitsM (r1.ops.take f'.floor) := by
    rw [hws, take_ws (by rw [hbase, List.length_append, bitsM_len, hnl])]
    unfold bitsM
    rw [List.map_take]
  have htop : ∀ l0 v, r1.ops = l0 ++ [v] → s1.topW = v.b := fun l0 v e => by
    refine (ws1 (s := s1) (L := below ++ bitsM r1.loc ++ bitsM l0) ?_).1
    rw [hws, e, bits_snoc]
  have hbt : ((r1.ops.take f'.floor).map MV.t).reverse = (vsAt C.M fn t s).ops := by
    rw [← bot_rev (by omega), hbot _ hff0, g8, g3]
  have hll : r1.labs.length = (osAt fn pc).length - 1 := by rw [hlabs, labsF_len]
  have hbx : branchX C s1 c = { s1 with ws := below ++ bitsM r1.loc ++ bitsM (r1.ops.take f'.floor) ++ (if labF f' ≠ 64 then [s1.topW] else []), pc := labT C.M fn t f' s } := by
    unfold branchX
    rw [hff, hpk1, hcx]
    dsimp only
    rw [htk]
    congr 2
    by_cases e : labF f' = 64
    · rw [if_neg (by rw [hpk2]; simp [e]), if_neg (by simp [e])]
    · rw [if_pos (hpk2.2 e), if_pos e]
  unfold branchM
  rw [hq]
  dsimp only
  rw [if_neg (show ¬ r1.labs.length < l by omega)]
  by_cases hfun : l = r1.labs.length
  · -- the function itself
    rw [if_pos hfun]
    have hl1 : l = (osAt fn pc).length - 1 := by omega
    obtain ⟨⟨_, _, _⟩, b2, b3, b4, b5⟩ := hT.bottom hlt ⟨s, by rw [← hl1]; exact hL⟩
    have hr0 : r0 = [] := List.length_eq_zero_iff.1 (by omega)
    subst hr0
    have hs0 : s = 0 := by
      rcases osAt_head hr1 with ⟨e, _⟩ | ⟨pp, e1, e2, _⟩
      · exact e
      · have := hT.os_pos (pc := pp) (by omega)
        rw [← e2] at this
        simp at this
    subst hs0
    have hlab : labF f' = firstV t.q := by unfold labF; rw [if_neg (by omega), b2]
    have hend := hT.end0
    have hpcn : labT C.M fn t f' 0 = posF C.M fn t (fn.body.length - 1) := by
      unfold labT tgtF
      rw [if_neg (by omega), show endF fn 0 = fn.body.length - 1 by omega]
    have hcell := hT.lay_last (pc := fn.body.length - 1) (by omega)
    have hcellx : cellX C (branchX C s1 c) = ⟨11, 0, 0⟩ := by
      rw [hbx]
      unfold cellX
      have : ffX C { s1 with ws := below ++ bitsM r1.loc ++ bitsM (r1.ops.take f'.floor) ++ (if labF f' ≠ 64 then [s1.topW] else []), pc := labT C.M fn t f' 0 } = ⟨t.p.size, t.p.size + fn.locals.size, t.q.size, cells.tail⟩ := hff
      rw [this]
      refine getD_of ?_
      show cells.tail[labT C.M fn t f' 0]? = _
      rw [List.getElem?_tail, hpcn]
      exact hcell
    have hrs : ∃ m, retM C.M q1 = some m ∧ Post C t0 n (leaveX C { branchX C s1 c with pc := (branchX C s1 c).pc + 1 }) m := by
      rw [hbx]
      dsimp only
      refine ret_sim (W := bitsM r1.loc ++ bitsM (r1.ops.take f'.floor) ++ (if labF f' ≠ 64 then [s1.topW] else [])) (r1 := r1) (rest := rest) hz hT.hT hq hf hstk (by dsimp only; simp) hbase (by
        have : ffX C { s1 with ws := below ++ bitsM r1.loc ++ bitsM (r1.ops.take f'.floor) ++ (if labF f' ≠ 64 then [s1.topW] else []), pc := labT C.M fn t f' 0 + 1 } = ⟨t.p.size, t.p.size + fn.locals.size, t.q.size, cells.tail⟩ := hff
        rw [this]) (fun h1 => ?_) hS hH hn hgl
      obtain ⟨v1, v2⟩ := firstV_ty hT.hT h1
      have hne : labF f' ≠ 64 := by rw [hlab, v1]; exact isVal_ne v2
      obtain ⟨l0, v, hl, hv, hfl0⟩ := hcar hne
      refine ⟨l0, v, hl, by rw [hv, hlab, v1], by rw [hfl]; exact hfl0, hok v (.inr (by rw [hl]; simp)), ?_⟩
      refine (ws1 (L := below ++ bitsM r1.loc ++ bitsM (r1.ops.take f'.floor)) ?_).1
      dsimp only
      rw [if_pos hne, htop l0 v hl]
    obtain ⟨m, hm1, hm2⟩ := hrs
    refine ⟨m, hm1, .inr ?_⟩
    have hst : stepX C (n, branchX C s1 c) = (match leaveX C { branchX C s1 c with pc := (branchX C s1 c).pc + 1 } with | .ok s' => .ok (n, s') | .error e => .error (n, e)) := by
      unfold stepX
      dsimp only
      rw [hcellx]
      have : free 11 = true := rfl
      rw [if_pos this]
      have hco : coreX C { branchX C s1 c with pc := (branchX C s1 c).pc + 1 } ⟨11, 0, 0⟩ = leaveX C { branchX C s1 c with pc := (branchX C s1 c).pc + 1 } := by unfold coreX; simp
      rw [hco]
      generalize leaveX C { branchX C s1 c with pc := (branchX C s1 c).pc + 1 } = Z
      cases Z <;> rfl
    rw [hst]
    unfold Post at hm2
    unfold PostN
    cases hX : leaveX C { branchX C s1 c with pc := (branchX C s1 c).pc + 1 } with
    | ok s' => rw [hX] at hm2; exact hm2
    | error e => rw [hX] at hm2; exact hm2
  · rw [if_neg hfun]
    have hl1 : l < (osAt fn pc).length - 1 := by omega
    have hlat := labsF_at (M := C.M) (t := t) hL.os hl1
    rw [← hlabs] at hlat
    rw [hlat]
    dsimp only
    have hs0 : s ≠ 0 := fun e => by
      subst e
      simp [osAt] at hr1
      subst hr1
      simp at hr2
      omega
    obtain ⟨pp, p1, p2, p3, p4, p5, p6, p7⟩ := hd.blk hs0
    have hs1 : s - 1 = pp := by omega
    have hs2 : pp + 1 = s := by omega
    rw [hs1, hhs, hs2]
    by_cases h3 : (opAt fn pp).op = 3
    · -- a loop
      rw [if_pos h3]
      have hf3 : f'.op = 3 := by
        rcases g5 with g5 | ⟨g5, _⟩
        · rw [g5, ← p3]; exact h3
        · omega
      have hlab : labF f' = 64 := by unfold labF; rw [if_pos hf3]
      refine ⟨_, rfl, .inl ⟨rfl, { r1 with ops := r1.ops.take f'.floor, labs := r1.labs.take (r1.labs.length - l), pc := s }, rest, k, fn, t, cells, below, hz, ⟨hf, hL.lt, fun x hx => ?_, ?_, ?_, hloc, fun u hu => ?_⟩, by unfold MQ.top; rw [hq]; rfl, hn, ?_, ?_, ?_, ?_, ?_, ?_, ?_, hgl⟩⟩
      · dsimp only at hx
        rw [g1] at hx
        rcases List.mem_cons.1 hx with rfl | hx
        · exact hd.dead
        · exact hrlv x hx
      · exact hbt.symm
      · dsimp only
        rw [hlabs]
        exact labsF_drop hL.drop (by omega) (by omega)
      · rcases hu with hu | hu
        · exact hok u (.inl hu)
        · exact hok u (.inr (List.mem_of_mem_take hu))
      · rw [hbx]; exact hS
      · rw [hbx]; exact hH
      · rw [hbx]; exact hfn
      · rw [hbx]
        dsimp only
        unfold labT
        rw [if_pos hf3]
      · rw [hbx]
        dsimp only
        rw [if_neg (by simp [hlab]), List.append_nil]
      · rw [hbx]; exact hbase
      · rw [hbx]; exact hstk
    · rw [if_neg h3]
      have hf3 : f'.op ≠ 3 := by
        rcases g5 with g5 | ⟨_, g5⟩
        · rw [g5, ← p3]; exact h3
        · omega
      have hlab : labF f' = g'.res := by unfold labF; rw [if_neg hf3, g4]
      have hm := hT.match_ hL.lt
      have hen := hT.os_end hL.lt
      have hr0 : r0 ≠ [] := fun e => by rw [e] at hr2; simp at hr2; omega
      have hr0l : 1 ≤ r0.length := by cases r0 with | nil => exact absurd rfl hr0 | cons a b => simp
      have hos2 : 2 ≤ (osAt fn (endF fn s)).length := by rw [hen, hr1]; simp; omega
      have hne : endF fn s + 1 < fn.body.length := by
        rcases Nat.lt_or_ge (endF fn s + 1) fn.body.length with h1 | h1
        · exact h1
        · have := (hT.last (pc := endF fn s) (by have := hm.lt; omega)).2
          omega
      have hosn : osAt fn (endF fn s + 1) = r0 := by
        have := hm.op
        rw [osAt, if_neg (by omega), if_pos hm.op, hen, hr1]
        rfl
      have hosd : (osAt fn pc).drop (l + 1) = osAt fn (endF fn s + 1) := by
        rw [hosn, ← List.drop_drop, hL.drop, hr1]
        rfl
      obtain ⟨g'', f'', rr'', c1, c2, c3, c4, c5, c6, c7, c8⟩ := hT.fr_ends hr1 hL.lt
      rw [g1] at c1
      simp at c1
      obtain ⟨rfl, rfl⟩ := c1
      have hSe := hT.fine hne c2 (by rw [c3]; exact c6)
      obtain ⟨e1, e2, e3, e4⟩ := hSe.en hm.op
      have hvo : (vsAt C.M fn t (endF fn s + 1)).ops = resV g'.res ++ (vsAt C.M fn t s).ops := by
        rw [e4, c4, c3, ← c7]
        rfl
      have hposn : posF C.M fn t (endF fn s + 1) = labT C.M fn t f' s := by
        unfold labT tgtF
        rw [if_neg hf3]
        exact hT.lay_end hm.lt hm.op hos2
      have hlab2 : r1.labs.take (r1.labs.length - 1 - l) = labsF C.M fn t (endF fn s + 1) := by
        rw [show r1.labs.length - 1 - l = r1.labs.length - (l + 1) by omega, hlabs]
        exact labsF_drop hosd (by omega) (by omega)
      have hlv2 : Lv C.M fn t (endF fn s + 1) := fun x hx => by
        rw [e2] at hx
        exact hrlv x hx
      by_cases h64 : (opAt fn pp).x = 64
      · rw [if_pos h64]
        have hg64 : g'.res = 64 := p6.1 h64
        refine ⟨_, rfl, .inl ⟨rfl, { r1 with ops := r1.ops.take f'.floor, labs := r1.labs.take (r1.labs.length - 1 - l), pc := endF fn s + 1 }, rest, k, fn, t, cells, below, hz, ⟨hf, hne, hlv2, ?_, hlab2, hloc, fun u hu => ?_⟩, by unfold MQ.top; rw [hq]; rfl, hn, ?_, ?_, ?_, ?_, ?_, ?_, ?_, hgl⟩⟩
        · dsimp only
          rw [hvo, hbt]
          unfold resV
          rw [if_pos hg64]
        · rcases hu with hu | hu
          · exact hok u (.inl hu)
          · exact hok u (.inr (List.mem_of_mem_take hu))
        · rw [hbx]; exact hS
        · rw [hbx]; exact hH
        · rw [hbx]; exact hfn
        · rw [hbx]
          exact hposn.symm
        · rw [hbx]
          dsimp only
          rw [if_neg (by simp [hlab, hg64]), List.append_nil]
        · rw [hbx]; exact hbase
        · rw [hbx]; exact hstk
      · rw [if_neg h64]
        have hg64 : g'.res ≠ 64 := fun e => h64 (p6.2 e)
        obtain ⟨l0, v, hl, hv, hfl0⟩ := hcar (by rw [hlab]; exact hg64)
        have hvok : VOk v := hok v (.inr (by rw [hl]; simp))
        rw [popM_snoc hl (by rw [hfl]; exact hfl0) (.inr (by rw [hv, hlab, p5]))]
        dsimp only
        have htke : l0.take f'.floor = r1.ops.take f'.floor := by rw [hl, List.take_append_of_le_length (by omega)]
        obtain ⟨hs2', hJ2⟩ := (hT.at_ (endF fn s + 1) hne).js
        have h10b := hJ2.vi.lO
        rw [hvo, List.length_append, resV_len, hhs] at h10b
        have hgl1 : gLen g'.res = 1 := gLen_ne hg64
        rw [pushM_ok (by dsimp only; rw [List.length_take]; omega)]
        refine ⟨_, rfl, .inl ⟨rfl, { r1 with ops := l0.take f'.floor ++ [v], labs := r1.labs.take (r1.labs.length - 1 - l), pc := endF fn s + 1 }, rest, k, fn, t, cells, below, hz, ⟨hf, hne, hlv2, ?_, hlab2, hloc, fun u hu => ?_⟩, by unfold MQ.top; rw [hq]; rfl, hn, ?_, ?_, ?_, ?_, ?_, ?_, ?_, hgl⟩⟩
        · dsimp only
          rw [hvo, ty_rev_app, htke, hbt, hv, hlab]
          unfold resV
          rw [if_neg hg64]
          rfl
        · rcases hu with hu | hu
          · exact hok u (.inl hu)
          · rcases List.mem_append.1 hu with hu | hu
            · exact hok u (.inr (by rw [hl]; exact List.mem_append_left _ (List.mem_of_mem_take hu)))
            · simp at hu; subst hu; exact hvok
        · rw [hbx]; exact hS
        · rw [hbx]; exact hH
        · rw [hbx]; exact hfn
        · rw [hbx]
          exact hposn.symm
        · rw [hbx]
          dsimp only
          rw [if_pos (by rw [hlab]; exact hg64), htop l0 v hl, bits_snoc, htke]
        · rw [hbx]; exact hbase
        · rw [hbx]; exact hstk
end
end Go.Proofs.Qxb6500275aGreatDoor
