import Derived.Test.Qxb6500275aGreatDoorSp17
set_option linter.unusedVariables false
set_option linter.unusedSimpArgs false
set_option maxRecDepth 100000
namespace Go.Proofs.Qxb6500275aGreatDoor
open Go Go.RowKit
structure RPx (v : VS) (p : PS) (f : VF) (r : List VF) (g : PF) (s : List PF) : Prop where
  vc : v.ctl = f :: r
  pc : p.ctl = g :: s
  fm : FM f g
  f2 : F2 r s
  fl : f.floor ≤ v.ops.length
  rl : Fl f.floor r
theorem F2.parts {a : List VF} {b : List PF} (h : F2 a b) (ha : a ≠ []) : ∃ f r g s, a = f :: r ∧ b = g :: s ∧ FM f g ∧ F2 r s := by
  cases a with
  | nil => exact absurd rfl ha
  | cons f r =>
    cases b with
    | nil => exact h.elim
    | cons g s => exact ⟨f, r, g, s, rfl, rfl, h.1, h.2⟩
theorem RL.parts {v : VS} {p : PS} (h : RL v p) (hI : VI v) (hc : v.ctl ≠ []) : ∃ f r g s, RPx v p f r g s ∧ f.dead = false ∧ ∀ a, a ∈ r → a.dead = false := by
  obtain ⟨f, r, g, s, h1, h2, h3, h4⟩ := h.f2.parts hc
  have hf := hI.fl
  rw [h1] at hf
  exact ⟨f, r, g, s, ⟨h1, h2, h3, h4, hf.1, hf.2⟩, h.nd f (by rw [h1]; simp), fun a ha => h.nd a (by rw [h1]; simp [ha])⟩
theorem RL.cut {v w v' : VS} {p q : PS} (h : RL v p) (hc : v.ctl ≠ []) (hw : w.ctl = v.ctl) (hv : v' = cutV w) (hq : q.dead = 1) (hf : F2 v.ctl q.ctl) : RD v' q := by
  obtain ⟨f, r, h1, h2⟩ := cutV_ctl (v := w) (by rw [hw]; exact hc)
  rw [hw] at h1
  refine ⟨0, [], { f with dead := true }, r, hq, by rw [hv, h2]; rfl, rfl, rfl, fun a ha => h.nd a (by rw [h1]; simp [ha]), ?_⟩
  rw [h1] at hf
  cases hq2 : q.ctl with
  | nil => rw [hq2] at hf; exact hf.elim
  | cons g s =>
    rw [hq2] at hf
    exact ⟨⟨hf.1.fl, hf.1.ar, hf.1.lp, hf.1.co⟩, hf.2⟩
theorem Fl.at_ : ∀ {c : List VF} {h l : Nat} {f : VF}, Fl h c → c[l]? = some f → f.floor ≤ h
  | [], _, _, _, _, h2 => by simp at h2
  | a :: r, h, 0, f, h1, h2 => by simp at h2; subst h2; exact h1.1
  | a :: r, h, l + 1, f, h1, h2 => Nat.le_trans (Fl.at_ h1.2 (by simpa using h2)) h1.1
theorem RPx.at_ {v : VS} {p : PS} {f : VF} {r : List VF} {g : PF} {s : List PF} (h : RPx v p f r g s) {l : Nat} {a : VF} (ha : v.ctl[l]? = some a) : a.floor ≤ f.floor := by
  rw [h.vc] at ha
  cases l with
  | zero => simp at ha; subst ha; exact Nat.le_refl _
  | succ l => exact h.rl.at_ (by simpa using ha)
/- a label, on both sides -/
def labF (f : VF) : Nat := if f.op = 3 then 64 else f.res
theorem label_at {v : VS} {l : Nat} {f : VF} (h : v.ctl[l]? = some f) : labelV v l = labF f := by
  have : v.ctl.getD l VF.zero = f := by rw [List.getD_eq_getElem?_getD, h]; rfl
  unfold labelV labF
  rw [this]
theorem FM.keep {f : VF} {g : PF} (h : FM f g) : keepF g = gLen (labF f) := by
  unfold keepF labF
  have hl := h.lp
  by_cases e : f.op = 3
  · rw [if_pos e, if_pos (hl.1 e), gLen_64]
  · rw [if_neg e, if_neg (fun h => e (hl.2 h)), h.ar]
    rfl
theorem F2.get {a : List VF} {b : List PF} (h : F2 a b) {l : Nat} (hl : l < b.length) : ∃ f g, a[l]? = some f ∧ b[l]? = some g ∧ FM f g := by
  have := h.len
  obtain ⟨f, hf⟩ : ∃ f, a[l]? = some f := ⟨_, List.getElem?_eq_getElem (by omega)⟩
  obtain ⟨g, hg⟩ : ∃ g, b[l]? = some g := ⟨_, List.getElem?_eq_getElem hl⟩
  exact ⟨f, g, hf, hg, h.at_ hf hg⟩
theorem F2.branch {a : List VF} {p : PS} (h : F2 a p.ctl) (op l : Nat) : F2 a (branchP p op l).ctl := by
  unfold branchP
  dsimp only
  split
  · exact h
  · exact h.modify l p.cells.length
theorem settled_len {v : VS} (h : (settledV v).2 = true) : (settledV v).1.ops.length = v.top.floor := by
  unfold settledV at h ⊢
  by_cases e : (carryV v v.top.res).2 = true
  · rw [if_pos e] at h ⊢
    simpa using h
  · rw [if_neg e] at h
    simp at h
section
variable {M : Mod} {nl rs : Nat} {p q : PS} {hs ks : List Nat} {e : Nat}
theorem JQ.weak (hq : JQ M nl rs p hs 0) (e : Nat) : JQ M nl rs p hs e := ⟨hq.len, fun i c hi _ => hq.cell i c hi (by omega), hq.fr, hq.first⟩
theorem JQ.fill (hq : JQ M nl rs p hs e) (hc : ∀ c, p.cells[e]? = some c → ∃ h, hs[e]? = some h ∧ CJ M nl rs (Att p hs) (Ent p.cells hs) p.ctl e c h) : JQ M nl rs p hs 0 :=
  ⟨hq.len, fun i c hi _ hi2 => by
    by_cases h : i = e
    · subst h; exact hc c hi2
    · exact hq.cell i c hi h hi2, hq.fr, hq.first⟩
/- a table's rows -/
theorem JQ.rows {vc : List VF} {nb : Nat} (h10 : nb ≤ 10) : ∀ (ls : List Int) {p q : PS} {hs : List Nat}, JQ M nl rs p hs e → PI p → F2 vc p.ctl → p.dead = 1 → (∀ l, l ∈ ls → 0 ≤ l ∧ ∀ f, vc[l.toNat]? = some f → f.floor + gLen (labF f) ≤ nb) → rowsP p ls = some q → e < p.cells.length →
    ∃ ks, JQ M nl rs q ks e ∧ F2 vc q.ctl ∧ Ext p hs q ks ∧ (∀ k, k < ls.length → Ent q.cells ks (p.cells.length + k) nb) ∧ q.dead = 1 ∧ ∀ (t : Nat) (c : Ins), p.cells[t]? = some c → q.cells[t]? = some c
  | [], p, q, hs, hq, hp, hf, hd, hl, hr, he => by
    simp [rowsP] at hr
    subst hr
    exact ⟨hs, hq, hf, ⟨fun t c h => ⟨c, h, rfl, rfl⟩, fun h => by omega⟩, fun k hk => by simp at hk, hd, fun t c h => h⟩
  | l :: ls, p, q, hs, hq, hp, hf, hd, hl, hr, he => by
    rw [rowsP] at hr
    rcases iteC hr with ⟨_, hr⟩ | ⟨hlt, hr⟩
    · simp at hr
    obtain ⟨h0, hfl⟩ := hl l (by simp)
    have hlt2 : l.toNat < p.ctl.length := by omega
    obtain ⟨f, g, hf1, hg1, hm⟩ := hf.get hlt2
    have hb := hp.branch (op := 225) (l := l.toNat) (by unfold isBr; omega) hlt2
    obtain ⟨c, hco, hcc⟩ := branch_sh p 225 l.toNat
    have hlen := hq.len
    have hx : Ext p hs ⟨(branchP p 225 l.toNat).cells, (branchP p 225 l.toNat).ctl, (branchP p 225 l.toNat).h, (branchP p 225 l.toNat).dead⟩ (hs ++ [nb]) := ⟨fun t c h => ⟨c, by
      dsimp only
      rw [hcc, List.getElem?_append_left (List.getElem?_eq_some_iff.1 h).1]; exact h, rfl, by rw [List.getElem?_append_left (by rw [hlen]; exact (List.getElem?_eq_some_iff.1 h).1)]⟩, fun h => by omega⟩
    have hJ : JQ M nl rs (branchP p 225 l.toNat) (hs ++ [nb]) e := JQ.branch hq hp hg1 (by unfold isBr; omega) hx (by rw [hm.keep, ← hm.fl]; exact hfl f hf1) (fun _ c2 ho _ hbr => ⟨h10, fun e => by omega, fun e => by omega, fun e => by omega, fun e => by omega, fun _ => hbr, fun e => by omega, fun e => by omega, fun e => by omega⟩)
    obtain ⟨ks, h1, h2, h3, h4, h5, h6⟩ := JQ.rows h10 ls hJ hb.1 (hf.branch 225 l.toNat) (hb.2.2.2.2.trans hd) (fun l hl' => hl l (by simp [hl'])) hr (by rw [hb.2.2.1]; omega)
    refine ⟨ks, h1, h2, ⟨fun t c h => ?_, fun h => by omega⟩, fun k hk => ?_, h5, fun t c h => h6 t c (by rw [hcc, List.getElem?_append_left (List.getElem?_eq_some_iff.1 h).1]; exact h)⟩
    · obtain ⟨d, h6, h7, h8⟩ := hx.old t c h
      obtain ⟨d2, h9, h10, h11⟩ := h3.old t d h6
      exact ⟨d2, h9, h10.trans h7, h11.trans h8⟩
    · cases k with
      | zero =>
        have : Ent (branchP p 225 l.toNat).cells (hs ++ [nb]) p.cells.length nb := ⟨c, by rw [hcc]; simp, hco, by rw [← hlen]; simp⟩
        exact h3.ent this
      | succ k =>
        have := h4 k (by simp at hk; omega)
        rw [hb.2.2.1] at this
        have e2 : p.cells.length + 1 + k = p.cells.length + (k + 1) := by omega
        rw [← e2]
        exact this
end
theorem rowsP_dead : ∀ (ls : List Int) (p : PS), rowsP { p with dead := 1 } ls = (rowsP p ls).map (fun q => { q with dead := 1 })
  | [], p => rfl
  | l :: ls, p => by
    rw [rowsP, rowsP]
    dsimp only
    by_cases h : (p.ctl.length : Int) ≤ l
    · rw [if_pos h, if_pos h]; rfl
    · rw [if_neg h, if_neg h]
      rw [show branchP { p with dead := 1 } 225 l.toNat = { branchP p 225 l.toNat with dead := 1 } by unfold branchP; dsimp only; split <;> rfl]
      exact rowsP_dead ls _
/- a table's labels fit -/
theorem tableV_fit {v : VS} {pc : Nat} {tabs : List Int} {b : Bool} : ∀ (n i : Nat) {v' : VS}, tableV v pc tabs b n i = (v', none) → ∀ k, k < n → fitsV v (labelV v (tabs.getD (i + k) 0).toNat) = true
  | 0, i, v', h, k, hk => by omega
  | n + 1, i, v', h, k, hk => by
    rw [tableV] at h
    rcases iteC h with ⟨_, h⟩ | ⟨_, h⟩
    · simp at h
    rcases iteC h with ⟨_, h⟩ | ⟨_, h⟩
    · simp at h
    rcases iteC h with ⟨h1, h⟩ | ⟨_, h⟩
    · cases k with
      | zero => exact h1
      | succ k =>
        have := tableV_fit n (i + 1) h k (by omega)
        rw [show i + (k + 1) = i + 1 + k by omega]
        exact this
    · simp at h
theorem fits_live {v : VS} {f : VF} {r : List VF} (hc : v.ctl = f :: r) (hf : f.floor ≤ v.ops.length) (hd : f.dead = false) {t : Nat} (h : fitsV v t = true) : f.floor + gLen t ≤ v.ops.length := by
  have ht : v.top = f := by unfold VS.top; rw [hc]; rfl
  unfold fitsV at h
  rw [ht] at h
  by_cases e : t = 64
  · rw [e, gLen_64]; omega
  · rw [if_neg e] at h
    rw [gLen_ne e]
    by_cases e2 : v.ops.length = f.floor
    · rw [if_pos e2, hd] at h; simp at h
    · omega
end Go.Proofs.Qxb6500275aGreatDoor
