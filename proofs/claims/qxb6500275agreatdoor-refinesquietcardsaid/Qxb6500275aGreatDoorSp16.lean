import Derived.Test.Qxb6500275aGreatDoorSp15
set_option linter.unusedVariables false
set_option linter.unusedSimpArgs false
set_option maxRecDepth 100000
namespace Go.Proofs.Qxb6500275aGreatDoor
open Go Go.RowKit
/- what a patch does to a cell -/
structure Pc (c d : Ins) (b : Prop) (here : Nat) : Prop where
  op : d.op = c.op
  y : d.y = c.y
  y1 : b → d.x = here
  n1 : ¬ b → d.x = c.x
theorem setX_pc {c : List Ins} {i here j : Nat} {x : Ins} (hx : c[j]? = some x) : ∃ d, (setX c i here)[j]? = some d ∧ Pc x d (j = i) here := by
  by_cases e : j = i
  · subst e
    exact ⟨_, setX_at hx, rfl, rfl, fun _ => rfl, fun h => absurd rfl h⟩
  · exact ⟨x, by rw [setX_ne e]; exact hx, rfl, rfl, fun h => absurd h e, fun _ => rfl⟩
theorem setX0_pc {c : List Ins} {i here j : Nat} {x : Ins} (hx : c[j]? = some x) : ∃ d, (setX0 c i here)[j]? = some d ∧ Pc x d (i ≠ 0 ∧ j = i) here := by
  unfold setX0
  by_cases e : i = 0
  · rw [if_pos e]
    exact ⟨x, hx, rfl, rfl, fun h => absurd e h.1, fun _ => rfl⟩
  · rw [if_neg e]
    obtain ⟨d, h1, h2⟩ := setX_pc (i := i) (here := here) hx
    exact ⟨d, h1, h2.op, h2.y, fun h => h2.y1 h.2, fun h => h2.n1 (fun h' => h ⟨e, h'⟩)⟩
theorem patch_pc {c : List Ins} {l : List Nat} {here j : Nat} {x : Ins} (hx : c[j]? = some x) : ∃ d, (patchP c here l)[j]? = some d ∧ Pc x d (j ∈ l) here := by
  by_cases e : j ∈ l
  · exact ⟨_, patchP_at here l c j x e hx, rfl, rfl, fun _ => rfl, fun h => absurd e h⟩
  · exact ⟨x, by rw [patchP_ne here l c j e]; exact hx, rfl, rfl, fun h => absurd h e, fun _ => rfl⟩
def shutC (c : List Ins) (g : PF) : List Ins := setX0 (setX0 (patchP c (c.length - 1) g.chain) g.cond (c.length - 1)) g.jump (c.length - 1)
theorem shutC_len (c : List Ins) (g : PF) : (shutC c g).length = c.length := by unfold shutC; rw [setX0_len, setX0_len, patchP_len]
theorem shut_pc {c : List Ins} {g : PF} {j : Nat} {x : Ins} (hx : c[j]? = some x) : ∃ d, (shutC c g)[j]? = some d ∧ Pc x d (j ∈ g.chain ∨ (g.cond ≠ 0 ∧ j = g.cond) ∨ (g.jump ≠ 0 ∧ j = g.jump)) (c.length - 1) := by
  unfold shutC
  obtain ⟨d1, h1, p1⟩ := patch_pc (l := g.chain) (here := c.length - 1) hx
  obtain ⟨d2, h2, p2⟩ := setX0_pc (i := g.cond) (here := c.length - 1) h1
  obtain ⟨d3, h3, p3⟩ := setX0_pc (i := g.jump) (here := c.length - 1) h2
  refine ⟨d3, h3, by rw [p3.op, p2.op, p1.op], by rw [p3.y, p2.y, p1.y], fun h => ?_, fun h => ?_⟩
  · by_cases e3 : g.jump ≠ 0 ∧ j = g.jump
    · exact p3.y1 e3
    rw [p3.n1 e3]
    by_cases e2 : g.cond ≠ 0 ∧ j = g.cond
    · exact p2.y1 e2
    rw [p2.n1 e2]
    rcases h with h | h | h
    · exact p1.y1 h
    · exact absurd h e2
    · exact absurd h e3
  · rw [p3.n1 (fun h' => h (.inr (.inr h'))), p2.n1 (fun h' => h (.inr (.inl h'))), p1.n1 (fun h' => h (.inl h'))]
theorem packP_inj {a b c d : Nat} (h : packP a b = packP c d) (hb : b ≤ 10) (hd : d ≤ 10) : a = c ∧ b = d := by
  unfold packP at h
  omega
section
variable {M : Mod} {nl rs : Nat} {p q : PS} {hs ks : List Nat} {e : Nat}
/- A BLOCK IS SHUT -/
theorem JQ.shut {g : PF} {r : List PF} (hq : JQ M nl rs p hs 0) (hp : PI p) (hc : p.ctl = g :: r) (hh : p.dead = 0 → p.h = g.floor + g.arity) (hco : g.cond ≠ 0 → g.arity = 0) :
    JQ M nl rs ⟨shutC p.cells g, r, g.floor + g.arity, 0⟩ hs 0 := by
  have hpos := hp.pos
  have hgm : g ∈ p.ctl := by rw [hc]; simp
  have hgI := hp.g g hgm
  have hgJ := (hq.fr g hgm).1
  have hx : Ext p hs ⟨shutC p.cells g, r, g.floor + g.arity, 0⟩ hs := ⟨fun t c h => by
    obtain ⟨d, h1, h2⟩ := shut_pc (g := g) h
    exact ⟨d, h1, h2.op, rfl⟩, fun h0 => .inl ⟨shutC_len _ _, rfl, (hh h0).symm⟩⟩
  have hnx : ∀ n, n = g.floor + g.arity → Att ⟨shutC p.cells g, r, g.floor + g.arity, 0⟩ hs (p.cells.length - 1 + 1) n := fun n hn => .inr ⟨by dsimp only; rw [shutC_len]; omega, rfl, hn.symm⟩
  refine ⟨by rw [hq.len]; exact (shutC_len _ _).symm, ?_, fun a ha => ?_, hx.att hq.first⟩
  · refine CellsJ.next hq.cell hq.len hx (fun t n => hx.att) (fun i c0 d n0 hi h1 h2 h3 => ?_) (fun i d hi he hd => ?_)
    · obtain ⟨d', h4, pc⟩ := shut_pc (g := g) h1
      have : d' = d := by
        dsimp only at h2
        rw [h2] at h4
        simp at h4
        exact h4.symm
      subst this
      have hb4 : i = g.cond → g.cond ≠ 0 → c0.op = 4 := fun e h0 => by
        obtain ⟨x, hx4, ho⟩ := hgI.co h0
        rw [← e, h1] at hx4
        simp at hx4
        rw [hx4]; exact ho
      have hb224 : i = g.jump → g.jump ≠ 0 → c0.op = 224 := fun e h0 => by
        obtain ⟨x, hx4, ho⟩ := hgI.ju h0
        rw [← e, h1] at hx4
        simp at hx4
        rw [hx4]; exact ho
      have hbch : i ∈ g.chain → isBr c0.op := fun h => by
        obtain ⟨_, x, hx4, ho⟩ := hgI.ch.mem i h
        rw [h1] at hx4
        simp at hx4
        rw [hx4]; exact ho
      refine ⟨pc.op, pc.y, fun hno => ?_, fun h4 ht => ?_, fun h4 ht => ?_, fun hbr keep fl hy hk hf ht => ?_⟩
      · refine pc.n1 (fun h => hno ?_)
        rcases h with h | ⟨h0, h⟩ | ⟨h0, h⟩
        · exact .inr (.inr (hbch h))
        · exact .inl (hb4 h h0)
        · exact .inr (.inl (hb224 h h0))
      · by_cases ec : g.cond ≠ 0 ∧ i = g.cond
        · obtain ⟨e0, e1⟩ := ec
          have hco2 := hgJ.co e0
          rw [← e1, h3] at hco2
          simp at hco2
          have ha := hco e0
          exact .inl ⟨p.cells.length - 1, pc.y1 (.inr (.inl ⟨e0, e1⟩)), hnx _ (by omega)⟩
        · have hxs : d'.x = c0.x := pc.n1 (fun h => by
            rcases h with h | h | ⟨h0, h⟩
            · have := hbch h; unfold isBr at this; omega
            · exact ec h
            · have := hb224 h h0; omega)
          rw [hxs]
          rcases ht with ht | ⟨a, ha, hai⟩
          · exact .inl (ht.map (fun t n => hx.att))
          · rw [hc] at ha
            rcases List.mem_cons.1 ha with rfl | ha
            · exact absurd ⟨by omega, hai.symm⟩ ec
            · exact .inr ⟨a, ha, hai⟩
      · by_cases ec : g.jump ≠ 0 ∧ i = g.jump
        · obtain ⟨e0, e1⟩ := ec
          have hco2 := hgJ.ju e0
          rw [← e1, h3] at hco2
          simp at hco2
          have hil := (List.getElem?_eq_some_iff.1 h1).1
          exact .inl ⟨p.cells.length - 1, pc.y1 (.inr (.inr ⟨e0, e1⟩)), by omega, hnx _ (by omega)⟩
        · have hxs : d'.x = c0.x := pc.n1 (fun h => by
            rcases h with h | ⟨h0, h⟩ | h
            · have := hbch h; unfold isBr at this; omega
            · have := hb4 h h0; omega
            · exact ec h)
          rw [hxs]
          rcases ht with ht | ⟨a, ha, hai⟩
          · exact .inl (ht.map (fun t n => hx.att))
          · rw [hc] at ha
            rcases List.mem_cons.1 ha with rfl | ha
            · exact absurd ⟨by omega, hai.symm⟩ ec
            · exact .inr ⟨a, ha, hai⟩
      · by_cases ec : i ∈ g.chain
        · obtain ⟨c1, h5, h6⟩ := hgJ.ch i ec
          rw [h1] at h5
          simp at h5
          subst h5
          rw [h6] at hy
          have := packP_inj hy hgI.fl hf
          exact .inl ⟨p.cells.length - 1, pc.y1 (.inl ec), hnx _ (by omega)⟩
        · have hxs : d'.x = c0.x := pc.n1 (fun h => by
            rcases h with h | ⟨h0, h⟩ | ⟨h0, h⟩
            · exact ec h
            · have := hb4 h h0; unfold isBr at hbr; omega
            · have := hb224 h h0; unfold isBr at hbr; omega)
          rw [hxs]
          rcases ht with ht | ⟨a, ha, hai⟩
          · exact .inl (ht.map (fun t n => hx.att))
          · rw [hc] at ha
            rcases List.mem_cons.1 ha with rfl | ha
            · exact absurd hai ec
            · exact .inr ⟨a, ha, hai⟩
    · have := (List.getElem?_eq_some_iff.1 hd).1
      dsimp only at this
      rw [shutC_len] at this
      omega
  · have ham : a ∈ p.ctl := by rw [hc]; simp [ha]
    refine ⟨(hq.fr a ham).1.next hx (hp.g a ham) (fun i c h => ?_), (hq.fr a ham).2⟩
    obtain ⟨d, h1, h2⟩ := shut_pc (g := g) h
    exact ⟨d, h1, h2.y⟩
/- AN ELSE, dead -/
theorem JQ.turnD {g : PF} {r : List PF} (hq : JQ M nl rs p hs 0) (hp : PI p) (hc : p.ctl = g :: r) (hd : p.dead ≠ 0) (h0 : g.cond ≠ 0) :
    JQ M nl rs ⟨setX p.cells g.cond (p.cells.length - 1), { g with cond := 0 } :: r, g.floor, 0⟩ hs 0 := by
  have hpos := hp.pos
  have hgm : g ∈ p.ctl := by rw [hc]; simp
  have hgI := hp.g g hgm
  have hgJ := (hq.fr g hgm).1
  have hx : Ext p hs ⟨setX p.cells g.cond (p.cells.length - 1), { g with cond := 0 } :: r, g.floor, 0⟩ hs := ⟨fun t c h => by
    obtain ⟨d, h1, h2⟩ := setX_pc (i := g.cond) (here := p.cells.length - 1) h
    exact ⟨d, h1, h2.op, rfl⟩, fun h => absurd h hd⟩
  have hnx : ∀ n, n = g.floor → Att ⟨setX p.cells g.cond (p.cells.length - 1), { g with cond := 0 } :: r, g.floor, 0⟩ hs (p.cells.length - 1 + 1) n := fun n hn => .inr ⟨by dsimp only; rw [setX_len]; omega, rfl, hn.symm⟩
  have hnext : ∀ a, a ∈ p.ctl → FJ (setX p.cells g.cond (p.cells.length - 1)) hs (Att ⟨setX p.cells g.cond (p.cells.length - 1), { g with cond := 0 } :: r, g.floor, 0⟩ hs) a := fun a ha => (hq.fr a ha).1.next hx (hp.g a ha) (fun i c h => by
    obtain ⟨d, h1, h2⟩ := setX_pc (i := g.cond) (here := p.cells.length - 1) h
    exact ⟨d, h1, h2.y⟩)
  refine ⟨by rw [hq.len]; exact (setX_len _ _ _).symm, ?_, fun a ha => ?_, hx.att hq.first⟩
  · refine CellsJ.next hq.cell hq.len hx (fun t n => hx.att) (fun i c0 d n0 hi h1 h2 h3 => ?_) (fun i d hi he hd => ?_)
    · obtain ⟨d', h4, pc⟩ := setX_pc (i := g.cond) (here := p.cells.length - 1) h1
      have : d' = d := by
        dsimp only at h2
        rw [h2] at h4
        simp at h4
        exact h4.symm
      subst this
      have hb4 : i = g.cond → c0.op = 4 := fun e => by
        obtain ⟨x, hx4, ho⟩ := hgI.co h0
        rw [← e, h1] at hx4
        simp at hx4
        rw [hx4]; exact ho
      refine ⟨pc.op, pc.y, fun hno => ?_, fun h4 ht => ?_, fun h4 ht => ?_, fun hbr keep fl hy hk hf ht => ?_⟩
      · exact pc.n1 (fun h => hno (.inl (hb4 h)))
      · by_cases ec : i = g.cond
        · have hco2 := hgJ.co h0
          rw [← ec, h3] at hco2
          simp at hco2
          exact .inl ⟨p.cells.length - 1, pc.y1 ec, hnx _ (by omega)⟩
        · rw [pc.n1 ec]
          rcases ht with ht | ⟨a, ha, hai⟩
          · exact .inl (ht.map (fun t n => hx.att))
          · rw [hc] at ha
            rcases List.mem_cons.1 ha with rfl | ha
            · exact absurd hai.symm ec
            · exact .inr ⟨a, by simp [ha], hai⟩
      · rw [pc.n1 (fun h => by have := hb4 h; omega)]
        rcases ht with ht | ⟨a, ha, hai⟩
        · exact .inl (ht.map (fun t n => hx.att))
        · rw [hc] at ha
          rcases List.mem_cons.1 ha with rfl | ha
          · exact .inr ⟨_, List.mem_cons_self, hai⟩
          · exact .inr ⟨a, by simp [ha], hai⟩
      · rw [pc.n1 (fun h => by have := hb4 h; unfold isBr at hbr; omega)]
        rcases ht with ht | ⟨a, ha, hai⟩
        · exact .inl (ht.map (fun t n => hx.att))
        · rw [hc] at ha
          rcases List.mem_cons.1 ha with rfl | ha
          · exact .inr ⟨_, List.mem_cons_self, hai⟩
          · exact .inr ⟨a, by simp [ha], hai⟩
    · have := (List.getElem?_eq_some_iff.1 hd).1
      dsimp only at this
      rw [setX_len] at this
      omega
  · rcases List.mem_cons.1 ha with rfl | ha
    · have hN := hnext g hgm
      exact ⟨⟨fun e => absurd rfl e, hN.ju, hN.ch, hN.lp⟩, fun e => absurd rfl e⟩
    · have ham : a ∈ p.ctl := by rw [hc]; simp [ha]
      exact ⟨hnext a ham, (hq.fr a ham).2⟩
/- AN ELSE, live: a jump is laid, then as if dead -/
theorem JQ.turnL {g : PF} {r : List PF} (hq : JQ M nl rs p hs 0) (hp : PI p) (hc : p.ctl = g :: r) (hd : p.dead = 0) (h0 : g.cond ≠ 0) (hh : p.h = g.floor + g.arity) :
    JQ M nl rs ⟨setX (p.cells ++ [⟨224, 0, 0⟩]) g.cond p.cells.length, { g with cond := 0, jump := p.cells.length } :: r, g.floor, 0⟩ (hs ++ [p.h]) 0 := by
  have hpos := hp.pos
  have h10 := hp.h
  have hl := hq.len
  have hgm : g ∈ p.ctl := by rw [hc]; simp
  have hj0 := (hq.fr g hgm).2 h0
  obtain ⟨x4, hx4, ho4⟩ := (hp.g g hgm).co h0
  have hcl := (List.getElem?_eq_some_iff.1 hx4).1
  have hgI := hp.g g hgm
  have hgJ := (hq.fr g hgm).1
  have happ : ∀ (t : Nat) (c : Ins), p.cells[t]? = some c → (p.cells ++ [(⟨224, 0, 0⟩ : Ins)])[t]? = some c := fun t c h => by
    rw [List.getElem?_append_left (List.getElem?_eq_some_iff.1 h).1]; exact h
  obtain ⟨Q, hQ⟩ : ∃ Q : PS, Q = ⟨setX (p.cells ++ [⟨224, 0, 0⟩]) g.cond p.cells.length, { g with cond := 0, jump := p.cells.length } :: r, g.floor, 0⟩ := ⟨_, rfl⟩
  have q1 : Q.cells = setX (p.cells ++ [⟨224, 0, 0⟩]) g.cond p.cells.length := by rw [hQ]
  have q2 : Q.ctl = { g with cond := 0, jump := p.cells.length } :: r := by rw [hQ]
  have q3 : Q.h = g.floor := by rw [hQ]
  have q4 : Q.dead = 0 := by rw [hQ]
  rw [← hQ]
  clear hQ
  have q5 : Q.cells.length = p.cells.length + 1 := by rw [q1, setX_len]; simp
  have hnew : Q.cells[p.cells.length]? = some ⟨224, 0, 0⟩ := by
    rw [q1, setX_ne (by omega)]; simp
  have hx : Ext p hs Q (hs ++ [p.h]) := ⟨fun t c h => by
    obtain ⟨d, h1, h2⟩ := setX_pc (i := g.cond) (here := p.cells.length) (happ t c h)
    exact ⟨d, by rw [q1]; exact h1, h2.op, by rw [List.getElem?_append_left (by rw [hl]; exact (List.getElem?_eq_some_iff.1 h).1)]⟩, fun _ => .inr ⟨_, hnew, by simp, by rw [← hl]; simp⟩⟩
  have hnx : ∀ n, n = g.floor → Att Q (hs ++ [p.h]) (p.cells.length + 1) n := fun n hn => .inr ⟨q5.symm, q4, by rw [q3]; exact hn.symm⟩
  have hnext : ∀ a, a ∈ p.ctl → FJ Q.cells (hs ++ [p.h]) (Att Q (hs ++ [p.h])) a := fun a ha => (hq.fr a ha).1.next hx (hp.g a ha) (fun i c h => by
    obtain ⟨d, h1, h2⟩ := setX_pc (i := g.cond) (here := p.cells.length) (happ i c h)
    exact ⟨d, by rw [q1]; exact h1, h2.y⟩)
  refine ⟨by rw [q5]; simp [hl], ?_, fun a ha => ?_, hx.att hq.first⟩
  · refine CellsJ.next hq.cell hq.len hx (fun t n => hx.att) (fun i c0 d n0 hi h1 h2 h3 => ?_) (fun i d hi he hd => ?_)
    · obtain ⟨d', h4, pc⟩ := setX_pc (i := g.cond) (here := p.cells.length) (happ i c0 h1)
      have : d' = d := by
        rw [q1, h4] at h2
        simp at h2
        exact h2
      subst this
      have hb4 : i = g.cond → c0.op = 4 := fun e => by
        rw [← e, h1] at hx4
        simp at hx4
        rw [hx4]; exact ho4
      rw [q2]
      refine ⟨pc.op, pc.y, fun hno => ?_, fun h4 ht => ?_, fun h4 ht => ?_, fun hbr keep fl hy hk hf ht => ?_⟩
      · exact pc.n1 (fun h => hno (.inl (hb4 h)))
      · by_cases ec : i = g.cond
        · have hco2 := hgJ.co h0
          rw [← ec, h3] at hco2
          simp at hco2
          exact .inl ⟨p.cells.length, pc.y1 ec, hnx _ (by omega)⟩
        · rw [pc.n1 ec]
          rcases ht with ht | ⟨a, ha, hai⟩
          · exact .inl (ht.map (fun t n => hx.att))
          · rw [hc] at ha
            rcases List.mem_cons.1 ha with rfl | ha
            · exact absurd hai.symm ec
            · exact .inr ⟨a, by simp [ha], hai⟩
      · rw [pc.n1 (fun h => by have := hb4 h; omega)]
        rcases ht with ht | ⟨a, ha, hai⟩
        · exact .inl (ht.map (fun t n => hx.att))
        · rw [hc] at ha
          rcases List.mem_cons.1 ha with rfl | ha
          · omega
          · exact .inr ⟨a, by simp [ha], hai⟩
      · rw [pc.n1 (fun h => by have := hb4 h; unfold isBr at hbr; omega)]
        rcases ht with ht | ⟨a, ha, hai⟩
        · exact .inl (ht.map (fun t n => hx.att))
        · rw [hc] at ha
          rcases List.mem_cons.1 ha with rfl | ha
          · exact .inr ⟨_, List.mem_cons_self, hai⟩
          · exact .inr ⟨a, by simp [ha], hai⟩
    · have hlt := (List.getElem?_eq_some_iff.1 hd).1
      have hil : i = p.cells.length := by omega
      subst hil
      rw [hnew] at hd
      simp at hd
      subst hd
      refine ⟨p.h, by rw [← hl]; simp, ?_⟩
      exact ⟨h10, fun e => by simp at e, fun _ => .inr ⟨_, by rw [q2]; exact List.mem_cons_self, rfl⟩, fun e => by simp at e, fun e => by simp at e, fun e => by simp at e, fun e => by simp at e, fun e => by simp at e, fun e => by simp at e⟩
  · rw [q2] at ha
    rcases List.mem_cons.1 ha with rfl | ha
    · have hN := hnext g hgm
      exact ⟨⟨fun e => absurd rfl e, fun _ => by dsimp only; rw [← hl, ← hh]; simp, hN.ch, hN.lp⟩, fun e => absurd rfl e⟩
    · have ham : a ∈ p.ctl := by rw [hc]; simp [ha]
      exact ⟨hnext a ham, (hq.fr a ham).2⟩
end
end Go.Proofs.Qxb6500275aGreatDoor
