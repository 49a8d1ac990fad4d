import Derived.Test.Qxb6500275aGreatDoorSp18
set_option linter.unusedVariables false
set_option linter.unusedSimpArgs false
set_option maxRecDepth 100000
namespace Go.Proofs.Qxb6500275aGreatDoor
open Go Go.RowKit
section
variable {M : Mod} {nl rs : Nat} {p q : PS} {hs : List Nat} {v v' : VS} {fn : Fn} {params : ByteArray} {pc : Nat} {x : Ins}
def Nx (M : Mod) (nl rs : Nat) (v' : VS) (q : PS) : Prop := ∃ ks, JQ M nl rs q ks 0 ∧ RR v' q
theorem Att.last {c : List Ins} {x : Ins} {ctl : List PF} {n h : Nat} {hs : List Nat} (hn : n = h) : Att ⟨c ++ [x], ctl, h, 0⟩ hs (c.length + 1) n := .inr ⟨by simp, rfl, hn.symm⟩
theorem live_plain0 (hq : JQ M nl rs p hs 0) (hp : PI p) (hR : RL v p) (hx : InsOk x) (ho : ¬ (2 ≤ x.op ∧ x.op ≤ 5 ∨ 11 ≤ x.op ∧ x.op ≤ 15)) (hop : x.op ≤ 191) {take give : Nat} (he : effectP M x = some (take, give))
    (hl : 32 ≤ x.op ∧ x.op ≤ 34 → x.x < nl) (hs' : plainP M p x = some q) : JQ M nl rs q (hs ++ [p.h]) 0 ∧ q.ctl = p.ctl ∧ q.h = p.h - take + give ∧ q.dead = if x.op = 0 then 1 else 0 := by
  unfold plainP at hs'
  rw [he] at hs'
  dsimp only at hs'
  rcases iteC hs' with ⟨_, hs'⟩ | ⟨h1, hs'⟩
  · simp at hs'
  simp at hs'
  subst hs'
  have hd := hR.dead
  rw [hd]
  refine ⟨?_, rfl, rfl, rfl⟩
  have h10 := hp.h
  refine hq.lay0 hp (ext_lay hq.len (by omega) (fun _ => rfl)) (fun _ => ?_)
  refine ⟨h10, fun e => by omega, fun e => by omega, fun e => by omega, fun e => by omega, fun e => by omega, fun e => by omega, fun e => by omega, fun _ => ⟨hx, take, give, he, by omega, fun h0 => ?_, hl⟩⟩
  rw [if_neg h0]
  exact Att.last rfl
theorem live_plain (hM : ModOk M) (hF : FnOk fn) (hpa : Vals params) (hnl : nl = params.size + fn.locals.size) (hq : JQ M nl rs p hs 0) (hp : PI p) (hI : VI v) (hc : v.ctl ≠ []) (hR : RL v p) (hx : InsOk x) (ho : ¬ (x.op ≤ 5 ∨ 11 ≤ x.op ∧ x.op ≤ 15))
    (hv : giveV pc (plainV M params fn.locals v x) = (v', none)) (hs' : plainP M p x = some q) : Nx M nl rs v' q := by
  obtain ⟨f, r, g, s, hP, hfd, hrd⟩ := hR.parts hI hc
  have hop := hx.op
  unfold opOk at hop
  cases he : effectP M x with
  | none =>
    unfold plainP at hs'
    rw [he] at hs'
    simp at hs'
  | some tg =>
    obtain ⟨take, give⟩ := tg
    obtain ⟨h1, h2, h3, h4⟩ := plain_live hM hpa hF.locals hI hP.vc hfd hx ho hv he
    obtain ⟨h5, h6, h7, h8⟩ := live_plain0 hq hp hR hx (by omega) (by omega) he (fun h => by rw [hnl]; have := h4 h; omega) hs'
    refine ⟨_, h5, .inl ⟨by rw [h8, if_neg (by omega)], by rw [h3, h7, hR.h], by rw [h1, h6]; exact hR.f2, fun a ha => hR.nd a (by rw [← h1]; exact ha)⟩⟩
theorem live_nop (hq : JQ M nl rs p hs 0) (hp : PI p) (hR : RL v p) (hx : InsOk x) (ho : x.op = 1) (hs' : plainP M p x = some q) : Nx M nl rs v q := by
  have he : effectP M x = some (0, 0) := by unfold effectP; rw [if_pos (.inr ho)]
  obtain ⟨h5, h6, h7, h8⟩ := live_plain0 hq hp hR hx (by omega) (by omega) he (fun h => by omega) hs'
  exact ⟨_, h5, .inl ⟨by rw [h8, if_neg (by omega)], by rw [h7, hR.h]; rfl, by rw [h6]; exact hR.f2, hR.nd⟩⟩
theorem live_unr (hq : JQ M nl rs p hs 0) (hp : PI p) (hc : v.ctl ≠ []) (hR : RL v p) (hx : InsOk x) (ho : x.op = 0) (hs' : plainP M p x = some q) : Nx M nl rs (cutV v) q := by
  have he : effectP M x = some (0, 0) := by unfold effectP; rw [if_pos (.inl ho)]
  obtain ⟨h5, h6, h7, h8⟩ := live_plain0 hq hp hR hx (by omega) (by omega) he (fun h => by omega) hs'
  exact ⟨_, h5, .inr (hR.cut hc rfl rfl (by rw [h8, if_pos ho]) (by rw [h6]; exact hR.f2))⟩
theorem blk_ar (hx : InsOk x) (ho : x.op = 2 ∨ x.op = 3 ∨ x.op = 4) : (if x.x = 64 then 0 else 1 : Nat) = if x.x.toNat % 256 = 64 then 0 else 1 := by
  rcases hx.blk ho with h | ⟨t, h, h2⟩
  · rw [h]; rfl
  · unfold isVal at h2
    rw [if_neg (by omega), if_neg (by omega)]
theorem live_open (hq : JQ M nl rs p hs 0) (hp : PI p) (hR : RL v p) (hx : InsOk x) (ho : x.op = 2 ∨ x.op = 3) (hs' : openP p x = some q) : Nx M nl rs ⟨v.ops, ⟨x.op, x.x.toNat % 256, v.ops.length, false⟩ :: v.ctl⟩ q := by
  unfold openP at hs'
  rcases iteC hs' with ⟨_, hs'⟩ | ⟨_, hs'⟩
  · simp at hs'
  rcases iteC hs' with ⟨_, hs'⟩ | ⟨_, hs'⟩
  · omega
  simp at hs'
  subst hs'
  refine ⟨hs, hq.opened hp hR.dead ho, .inl ⟨hR.dead, hR.h, ⟨⟨hR.h, blk_ar hx (by omega), Iff.rfl, ⟨fun e => by dsimp only at e; omega, fun e => absurd rfl e⟩⟩, hR.f2⟩, fun a ha => ?_⟩⟩
  rcases List.mem_cons.1 ha with rfl | ha
  · rfl
  · exact hR.nd a ha
theorem live_if (hq : JQ M nl rs p hs 0) (hp : PI p) (hI : VI v) (hc : v.ctl ≠ []) (hR : RL v p) (hx : InsOk x) (ho : x.op = 4) (hcy : (carryV v 127).2 = true) (hs' : openP p x = some q) : Nx M nl rs ⟨(carryV v 127).1.ops, ⟨4, x.x.toNat % 256, (carryV v 127).1.ops.length, false⟩ :: (carryV v 127).1.ctl⟩ q := by
  obtain ⟨f, r, g, s, hP, hfd, hrd⟩ := hR.parts hI hc
  unfold openP at hs'
  rcases iteC hs' with ⟨_, hs'⟩ | ⟨_, hs'⟩
  · simp at hs'
  rcases iteC hs' with ⟨_, hs'⟩ | ⟨h4, _⟩
  · rcases iteC hs' with ⟨_, hs'⟩ | ⟨h1, hs'⟩
    · simp at hs'
    simp at hs'
    subst hs'
    rcases carry_live hP.vc hP.fl hfd hcy with ⟨h2, _⟩ | ⟨_, h2, h3⟩
    · omega
    rw [h3]
    have hh := hR.h
    have hpos := hp.pos
    refine ⟨_, hq.iffed hp hR.dead (by omega), .inl ⟨hR.dead, by simp; omega, ⟨⟨by simp; omega, blk_ar hx (by omega), ⟨fun e => by simp at e, fun e => by simp at e⟩, ⟨fun _ => by dsimp only; omega, fun _ => rfl⟩⟩, hR.f2⟩, fun a ha => ?_⟩⟩
    rcases List.mem_cons.1 ha with rfl | ha
    · rfl
    · exact hR.nd a ha
  · omega
theorem live_br (hq : JQ M nl rs p hs 0) (hp : PI p) (hI : VI v) (hc : v.ctl ≠ []) (hR : RL v p) (hx : InsOk x) (ho : x.op = 12) (hcy : (carryV v (labelV v x.x.toNat)).2 = true) (hs' : brP p x = some q) : Nx M nl rs (cutV (carryV v (labelV v x.x.toNat)).1) q := by
  obtain ⟨f, r, g, s, hP, hfd, hrd⟩ := hR.parts hI hc
  have hx0 := hx.x.1
  unfold brP at hs'
  rcases iteC hs' with ⟨_, hs'⟩ | ⟨_, hs'⟩
  · omega
  rcases iteC hs' with ⟨_, hs'⟩ | ⟨h1, hs'⟩
  · simp at hs'
  simp at hs'
  subst hs'
  have hlt : x.x.toNat < p.ctl.length := by omega
  obtain ⟨a, b, ha, hb, hm⟩ := hR.f2.get hlt
  have hfa := hP.at_ ha
  have hh := hR.h
  rw [label_at ha] at hcy
  obtain ⟨c, hco, hcc⟩ := branch_sh p 12 x.x.toNat
  have hfit : b.floor + keepF b ≤ p.h := by
    rw [hm.keep, ← hm.fl, ← hh]
    rcases carry_live hP.vc hP.fl hfd hcy with ⟨h2, _⟩ | ⟨h0, h2, h3⟩
    · rw [h2, gLen_64]; have := hP.fl; omega
    · rw [gLen_ne h0]; omega
  have hxx : Ext p hs ⟨(branchP p 12 x.x.toNat).cells, (branchP p 12 x.x.toNat).ctl, (branchP p 12 x.x.toNat).h, 1⟩ (hs ++ [p.h]) := by
    rw [hcc]
    exact ext_lay hq.len (by omega) (fun _ => rfl)
  have h10 := hp.h
  refine ⟨_, JQ.branch hq hp hb (.inl rfl) hxx hfit (fun _ c2 ho2 _ hbr => ⟨h10, fun e => by omega, fun e => by omega, fun _ => hbr, fun e => by omega, fun e => by omega, fun e => by omega, fun e => by omega, fun e => by omega⟩), .inr (hR.cut hc (carryV_ctl _ _) rfl rfl (hR.f2.branch _ _))⟩
theorem live_brif (hq : JQ M nl rs p hs 0) (hp : PI p) (hI : VI v) (hc : v.ctl ≠ []) (hR : RL v p) (hx : InsOk x) (ho : x.op = 13) (hcy : (carryV v 127).2 = true) (hcy2 : (carryV (carryV v 127).1 (labelV (carryV v 127).1 x.x.toNat)).2 = true)
    (hv : giveV pc ((carryV (carryV v 127).1 (labelV (carryV v 127).1 x.x.toNat)).1, labelV (carryV v 127).1 x.x.toNat, 0) = (v', none)) (hs' : brP p x = some q) : Nx M nl rs v' q := by
  obtain ⟨f, r, g, s, hP, hfd, hrd⟩ := hR.parts hI hc
  have hx0 := hx.x.1
  unfold brP at hs'
  rcases iteC hs' with ⟨_, hs'⟩ | ⟨h4, _⟩
  · rcases iteC hs' with ⟨_, hs'⟩ | ⟨h1, hs'⟩
    · simp at hs'
    simp at hs'
    have hlt : x.x.toNat < p.ctl.length := by omega
    have hd := hR.dead
    rw [show ({ p with h := p.h - 1 } : PS) = { p with h := p.h - 1, dead := 0 } by rw [← hd], branch_with] at hs'
    subst hs'
    obtain ⟨a, b, ha, hb, hm⟩ := hR.f2.get hlt
    have hfa := hP.at_ ha
    have hh := hR.h
    have h10 := hp.h
    rcases carry_live hP.vc hP.fl hfd hcy with ⟨h2, _⟩ | ⟨_, h2, h3⟩
    · omega
    rw [h3] at hcy2 hv
    rw [label_at (v := ⟨v.ops.tail, v.ctl⟩) ha] at hcy2 hv
    obtain ⟨g1, g2, g3⟩ := give_live hv
    dsimp only at g1 g2 g3
    obtain ⟨c, hco, hcc⟩ := branch_sh p 13 x.x.toNat
    have key : v'.ctl = v.ctl ∧ v'.ops.length = p.h - 1 ∧ f.floor + gLen (labF a) ≤ p.h - 1 := by
      rcases carry_live (v := ⟨v.ops.tail, v.ctl⟩) hP.vc (by simp; omega) hfd hcy2 with ⟨h4, h5⟩ | ⟨h0, h4, h5⟩
      · rw [h5] at g2 g3
        rw [h4, gLen_64] at g3 ⊢
        simp at g3
        exact ⟨g2, by omega, by omega⟩
      · rw [h5] at g2 g3
        rw [gLen_ne h0] at g3 ⊢
        simp at g3 h4
        exact ⟨g2, by omega, by omega⟩
    have hxx : Ext p hs ⟨(branchP p 13 x.x.toNat).cells, (branchP p 13 x.x.toNat).ctl, p.h - 1, 0⟩ (hs ++ [p.h]) := by
      rw [hcc]
      exact ext_lay hq.len (by omega) (fun _ => rfl)
    refine ⟨_, JQ.branch (nb := p.h - 1) hq hp hb (.inr (.inl rfl)) hxx (by rw [hm.keep, ← hm.fl]; omega) (fun _ c2 ho2 hc2 hbr => ⟨h10, fun e => by omega, fun e => by omega, fun e => by omega, fun _ => ⟨by omega, hbr, ?_⟩, fun e => by omega, fun e => by omega, fun e => by omega, fun e => by omega⟩), .inl ⟨rfl, key.2.1, by rw [key.1]; exact hR.f2.branch _ _, fun a ha => hR.nd a (by rw [← key.1]; exact ha)⟩⟩
    rw [hc2]
    exact Att.last rfl
  · omega
theorem live_table (hF : FnOk fn) (hq : JQ M nl rs p hs 0) (hp : PI p) (hI : VI v) (hc : v.ctl ≠ []) (hR : RL v p) (hx : InsOk x) (ho : x.op = 14) (hcy : (carryV v 127).2 = true) {b : Bool}
    (hv : tableV (carryV v 127).1 pc fn.tabs b x.y.toNat x.x.toNat = (v', none)) (hs' : tableP p x fn.tabs = some q) : Nx M nl rs v' q := by
  obtain ⟨f, r, g, s, hP, hfd, hrd⟩ := hR.parts hI hc
  have hx0 := hx.x.1
  have hh := hR.h
  have h10 := hp.h
  unfold tableP at hs'
  rcases iteC hs' with ⟨_, hs'⟩ | ⟨h1, hs'⟩
  · simp at hs'
  obtain ⟨ls, hls⟩ : ∃ ls, (fn.tabs.drop x.x.toNat).take x.y.toNat = ls := ⟨_, rfl⟩
  rw [hls] at hs'
  cases hrw : rowsP ⟨p.cells ++ [⟨14, x.y, 0⟩], p.ctl, p.h - 1, p.dead⟩ ls with
  | none => rw [hrw] at hs'; simp at hs'
  | some q0 =>
    rw [hrw] at hs'
    simp at hs'
    have hrd2 := rowsP_dead ls ⟨p.cells ++ [⟨14, x.y, 0⟩], p.ctl, p.h - 1, p.dead⟩
    rw [hrw] at hrd2
    simp only [Option.map_some, hs'] at hrd2
    rcases carry_live hP.vc hP.fl hfd hcy with ⟨h2, _⟩ | ⟨_, h2, h3⟩
    · omega
    rw [h3] at hv
    have hfit := tableV_fit _ _ hv
    have hv' := tableV_none _ _ hv
    have hlen : ls.length = x.y.toNat := by rw [← hls]; simp; omega
    have hJ1 : JQ M nl rs ⟨p.cells ++ [⟨14, x.y, 0⟩], p.ctl, p.h - 1, 1⟩ (hs ++ [p.h]) p.cells.length := (hq.weak _).lay0 hp (ext_lay hq.len (by simp) (fun _ => rfl)) (fun h => absurd rfl h)
    have hlab : ∀ l, l ∈ ls → 0 ≤ l ∧ ∀ a, v.ctl[l.toNat]? = some a → a.floor + gLen (labF a) ≤ p.h - 1 := fun l hl => by
      refine ⟨?_, fun a ha => ?_⟩
      · rw [← hls] at hl
        exact (hF.tabs l (List.mem_of_mem_drop (List.mem_of_mem_take hl))).1
      · obtain ⟨k, hk⟩ := List.getElem?_of_mem hl
        have hkl := (List.getElem?_eq_some_iff.1 hk).1
        have hk2 : fn.tabs.getD (x.x.toNat + k) 0 = l := by
          rw [List.getD_eq_getElem?_getD]
          rw [← hls, List.getElem?_take, if_pos (by omega), List.getElem?_drop] at hk
          rw [hk]; rfl
        have := hfit k (by omega)
        rw [hk2, label_at (v := ⟨v.ops.tail, v.ctl⟩) ha] at this
        have h5 := fits_live (v := ⟨v.ops.tail, v.ctl⟩) hP.vc (by simp; omega) hfd this
        have h6 := hP.at_ ha
        simp at h5
        omega
    obtain ⟨ks, k1, k2, k3, k4, k5, k6⟩ := JQ.rows (vc := v.ctl) (nb := p.h - 1) (by omega) ls hJ1 (hp.lay _ _ _ (by omega)) hR.f2 rfl hlab hrd2 (by simp)
    refine ⟨ks, k1.fill (fun c hcc => ?_), .inr (hR.cut (w := ⟨v.ops.tail, v.ctl⟩) hc rfl hv' k5 k2)⟩
    have hl := hq.len
    have h5 := k6 p.cells.length ⟨14, x.y, 0⟩ (by simp)
    obtain ⟨d, _, _, h7⟩ := k3.old p.cells.length ⟨14, x.y, 0⟩ (by simp)
    rw [h5] at hcc
    simp at hcc
    subst hcc
    refine ⟨p.h, by rw [h7, ← hl]; simp, ?_⟩
    refine ⟨h10, fun e => by simp at e, fun e => by simp at e, fun e => by simp at e, fun e => by simp at e, fun e => by simp at e, fun _ => ⟨by omega, x.y.toNat, by dsimp only; omega, by omega, fun k hk => ?_⟩, fun e => by simp at e, fun e => by simp at e⟩
    have := k4 k (by omega)
    simp at this
    exact this
/- a return -/
theorem live_ret (hq : JQ M nl rs p hs 0) (hp : PI p) (hI : VI v) (hc : v.ctl ≠ []) (hB : BotR rs v.ctl) (hR : RL v p) (hcy : (carryV v (v.ctl.getLastD VF.zero).res).2 = true) : Nx M nl rs (cutV (carryV v (v.ctl.getLastD VF.zero).res).1) ⟨p.cells ++ [⟨15, 0, 0⟩], p.ctl, p.h, 1⟩ := by
  obtain ⟨f, r, g, s, hP, hfd, hrd⟩ := hR.parts hI hc
  have hh := hR.h
  have h10 := hp.h
  have hlast : v.ctl.getLast? = some (v.ctl.getLastD VF.zero) := by
    rw [List.getLastD_eq_getLast?, List.getLast?_eq_some_getLast hc]; rfl
  have hrs := hB _ hlast
  refine ⟨_, hq.lay0 hp (ext_lay hq.len (by simp) (fun _ => rfl)) (fun _ => ⟨h10, fun e => by simp at e, fun e => by simp at e, fun e => by simp at e, fun e => by simp at e, fun e => by simp at e, fun e => by simp at e, fun _ => ?_, fun e => by simp at e⟩), .inr (hR.cut hc (carryV_ctl _ _) rfl rfl hR.f2)⟩
  rw [← hrs]
  rcases carry_live hP.vc hP.fl hfd hcy with ⟨h2, _⟩ | ⟨h0, h2, h3⟩
  · rw [h2, gLen_64]; omega
  · rw [gLen_ne h0]; omega
/- the innermost block, whether live or dead -/
structure RT (v : VS) (p : PS) (f : VF) (r : List VF) (g : PF) (s : List PF) : Prop where
  vc : v.ctl = f :: r
  pc : p.ctl = g :: s
  fm : FM f g
  f2 : F2 r s
  nd : ∀ a, a ∈ r → a.dead = false
theorem RR.top (hR : RR v p) (hc : v.ctl ≠ []) (hd : p.dead ≤ 1) : ∃ f r g s, RT v p f r g s := by
  rcases hR with hR | hR
  · obtain ⟨f, r, g, s, h1, h2, h3, h4⟩ := hR.f2.parts hc
    exact ⟨f, r, g, s, h1, h2, h3, h4, fun a ha => hR.nd a (by rw [h1]; simp [ha])⟩
  · obtain ⟨n, ex, f, r, h1, h2, h3, h4, h5, h6⟩ := hR.is
    have hex : ex = [] := List.length_eq_zero_iff.1 (by omega)
    subst hex
    obtain ⟨f', r', g, s, e1, e2, e3, e4⟩ := h6.parts (by simp)
    simp at e1
    obtain ⟨rfl, rfl⟩ := e1
    exact ⟨f, r, g, s, h2, e2, e3, e4, h5⟩
/- an else -/
theorem any_else (hq : JQ M nl rs p hs 0) (hp : PI p) (hc : v.ctl ≠ []) (hR : RR v p) (hd : p.dead ≤ 1) (hst : (settledV v).2 = true) (h4 : (settledV v).1.top.op = 4) (hs' : turnP p = some q) : Nx M nl rs ⟨(settledV v).1.ops, { (settledV v).1.top with op := 5, dead := false } :: (settledV v).1.ctl.tail⟩ q := by
  obtain ⟨f, r, g, s, hT⟩ := hR.top hc hd
  have hlen := settled_len hst
  have hctl := settledV_ctl v
  have htop : v.top = f := by unfold VS.top; rw [hT.vc]; rfl
  have htop2 : (settledV v).1.top = f := by unfold VS.top; rw [hctl, hT.vc]; rfl
  have hpt : p.top = g := by unfold PS.top; rw [hT.pc]; rfl
  have hptl : p.ctl.tail = s := by rw [hT.pc]; rfl
  rw [htop] at hlen
  rw [htop2] at h4 ⊢
  rw [hctl, hT.vc, List.tail_cons]
  have hg3 : g.op ≠ 3 := fun e => by have := hT.fm.lp.2 e; omega
  have hfl := hT.fm.fl
  unfold turnP at hs'
  rw [hpt, hptl] at hs'
  rcases iteC hs' with ⟨_, hs'⟩ | ⟨hlv, hs'⟩
  · simp at hs'
  rcases iteC hs' with ⟨_, hs'⟩ | ⟨h0, hs'⟩
  · simp at hs'
  rcases iteC hs' with ⟨h1, hs'⟩ | ⟨h1, hs'⟩
  · simp at hs'
    subst hs'
    have hh : p.h = g.floor + g.arity := Classical.byContradiction (fun h => hlv ⟨h1, h⟩)
    refine ⟨_, hq.turnL hp hT.pc h1 h0 hh, .inl ⟨rfl, by dsimp only; omega, ⟨⟨hfl, hT.fm.ar, ⟨fun e => by simp at e, fun e => absurd e hg3⟩, ⟨fun e => by simp at e, fun e => absurd rfl e⟩⟩, hT.f2⟩, fun a ha => ?_⟩⟩
    rcases List.mem_cons.1 ha with rfl | ha
    · rfl
    · exact hT.nd a ha
  · simp at hs'
    subst hs'
    refine ⟨_, hq.turnD hp hT.pc h1 h0, .inl ⟨rfl, by dsimp only; omega, ⟨⟨hfl, hT.fm.ar, ⟨fun e => by simp at e, fun e => absurd e hg3⟩, ⟨fun e => by simp at e, fun e => absurd rfl e⟩⟩, hT.f2⟩, fun a ha => ?_⟩⟩
    rcases List.mem_cons.1 ha with rfl | ha
    · rfl
    · exact hT.nd a ha
/- an end -/
theorem FM.ar2 {f : VF} {g : PF} (h : FM f g) : g.arity = gLen f.res := h.ar
theorem end_shut (hq : JQ M nl rs p hs 0) (hp : PI p) {f : VF} {r : List VF} {g : PF} {s : List PF} (hT : RT v p f r g s) (h4 : ¬ (f.op = 4 ∧ f.res ≠ 64)) (hs' : shutP p = some q) :
    JQ M nl rs ⟨shutC p.cells g, s, g.floor + g.arity, 0⟩ hs 0 ∧ q = ⟨if s.length = 0 then shutC p.cells g ++ [⟨11, 0, 0⟩] else shutC p.cells g, s, g.floor + g.arity, 0⟩ := by
  have hpt : p.top = g := by unfold PS.top; rw [hT.pc]; rfl
  have hptl : p.ctl.tail = s := by rw [hT.pc]; rfl
  unfold shutP at hs'
  rw [hpt, hptl] at hs'
  rcases iteC hs' with ⟨_, hs'⟩ | ⟨hlv, hs'⟩
  · simp at hs'
  rcases iteC hs' with ⟨_, hs'⟩ | ⟨h10, hs'⟩
  · simp at hs'
  dsimp only at hs'
  have := (Option.some.inj hs').symm
  refine ⟨hq.shut hp hT.pc (fun h1 => Classical.byContradiction (fun h => hlv ⟨h1, h⟩)) (fun h0 => ?_), this⟩
  have hf4 := hT.fm.co.2 h0
  rw [hT.fm.ar2]
  have : f.res = 64 := Classical.byContradiction (fun h => h4 ⟨hf4, h⟩)
  rw [this]; rfl
theorem any_end (hq : JQ M nl rs p hs 0) (hp : PI p) (hc : v.ctl ≠ []) (hR : RR v p) (hd : p.dead ≤ 1) (hst : (settledV v).2 = true) (h4 : ¬ ((settledV v).1.top.op = 4 ∧ (settledV v).1.top.res ≠ 64)) (h1 : (settledV v).1.ctl.length ≠ 1)
    (hv : giveV pc (⟨(settledV v).1.ops, (settledV v).1.ctl.tail⟩, (settledV v).1.top.res, 0) = (v', none)) (hs' : shutP p = some q) : Nx M nl rs v' q := by
  obtain ⟨f, r, g, s, hT⟩ := hR.top hc hd
  have hlen := settled_len hst
  have hctl := settledV_ctl v
  have htop : v.top = f := by unfold VS.top; rw [hT.vc]; rfl
  have htop2 : (settledV v).1.top = f := by unfold VS.top; rw [hctl, hT.vc]; rfl
  rw [htop] at hlen
  rw [htop2] at h4 hv
  rw [hctl, hT.vc] at h1 hv
  rw [List.tail_cons] at hv
  obtain ⟨g1, g2, g3⟩ := give_live hv
  dsimp only at g1 g2 g3
  obtain ⟨k1, k2⟩ := end_shut hq hp hT h4 hs'
  have hsl : s.length ≠ 0 := by
    have := hT.f2.len
    simp at h1
    cases r with
    | nil => exact absurd rfl h1
    | cons b r => simp at this; omega
  rw [if_neg hsl] at k2
  subst k2
  refine ⟨hs, k1, .inl ⟨rfl, ?_, by rw [g2]; exact hT.f2, fun a ha => hT.nd a (by rw [← g2]; exact ha)⟩⟩
  dsimp only
  rw [g3, hlen, hT.fm.fl, hT.fm.ar2]
/- the last end -/
theorem last_end (hq : JQ M nl rs p hs 0) (hp : PI p) (hc : v.ctl ≠ []) (hB : BotR rs v.ctl) (hR : RR v p) (hd : p.dead ≤ 1) (hst : (settledV v).2 = true) (h4 : ¬ ((settledV v).1.top.op = 4 ∧ (settledV v).1.top.res ≠ 64)) (h1 : (settledV v).1.ctl.length = 1)
    (hs' : shutP p = some q) : ∃ ks, ks.length = q.cells.length ∧ CellsJ M nl rs (Ato q.cells ks) q.cells ks [] 0 ∧ Ato q.cells ks 1 0 ∧ q.ctl = [] := by
  obtain ⟨f, r, g, s, hT⟩ := hR.top hc hd
  have hctl := settledV_ctl v
  have htop2 : (settledV v).1.top = f := by unfold VS.top; rw [hctl, hT.vc]; rfl
  rw [htop2] at h4
  rw [hctl, hT.vc] at h1
  obtain ⟨k1, k2⟩ := end_shut hq hp hT h4 hs'
  have hr : r = [] := by
    cases r with
    | nil => rfl
    | cons b r => simp at h1
  subst hr
  have hsl : s = [] := by
    have := hT.f2.len
    exact List.length_eq_zero_iff.1 this.symm
  subst hsl
  rw [if_pos List.length_nil] at k2
  have hB1 := hB f (by rw [hT.vc]; rfl)
  have har := hT.fm.ar2
  have hgI := hp.g g (by rw [hT.pc]; simp)
  have h10 : g.floor + g.arity ≤ 10 := by
    unfold shutP at hs'
    have hpt : p.top = g := by unfold PS.top; rw [hT.pc]; rfl
    rw [hpt] at hs'
    rcases iteC hs' with ⟨_, hs'⟩ | ⟨hlv, hs'⟩
    · simp at hs'
    rcases iteC hs' with ⟨_, hs'⟩ | ⟨h10, hs'⟩
    · simp at hs'
    omega
  have hx : Ext ⟨shutC p.cells g, [], g.floor + g.arity, 0⟩ hs ⟨shutC p.cells g ++ [⟨11, 0, 0⟩], [], g.floor + g.arity, 1⟩ (hs ++ [g.floor + g.arity]) := ext_lay k1.len (by simp) (fun _ => rfl)
  have k3 := k1.lay (c := ⟨11, 0, 0⟩) hx (fun a ha => by simp at ha) (fun a ha => by simp at ha) (fun _ => ⟨h10, fun e => by simp at e, fun e => by simp at e, fun e => by simp at e, fun e => by simp at e, fun e => by simp at e, fun e => by simp at e, fun _ => by omega, fun e => by simp at e⟩)
  subst k2
  have hA : ∀ t n, Att ⟨shutC p.cells g ++ [⟨11, 0, 0⟩], [], g.floor + g.arity, 1⟩ (hs ++ [g.floor + g.arity]) t n → Ato (shutC p.cells g ++ [⟨11, 0, 0⟩]) (hs ++ [g.floor + g.arity]) t n := fun t n h => by
    rcases h with h | ⟨_, h, _⟩
    · exact h
    · simp at h
  refine ⟨_, k3.len, fun i c hi he hcc => ?_, hA _ _ k3.first, rfl⟩
  obtain ⟨n, h5, h6⟩ := k3.cell i c hi he hcc
  exact ⟨n, h5, h6.mv hA (fun t n h => h) (Mv.same hA (fun g hg => ⟨g, hg, rfl, fun _ => rfl, fun _ h => h⟩) (by omega))⟩
end
end Go.Proofs.Qxb6500275aGreatDoor
