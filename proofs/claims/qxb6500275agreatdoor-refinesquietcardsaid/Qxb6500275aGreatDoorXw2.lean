import Derived.Test.Qxb6500275aGreatDoorXw1
set_option maxRecDepth 1000000
set_option linter.unusedVariables false
set_option linter.unusedSimpArgs false
namespace Go.Proofs.Qxb6500275aGreatDoor
open Go Go.RowKit
section
variable {w0 w w' : World} {N : Xn} {C : XC} {T : Nat → Prop} {ws ws' : List Nat} {fr : List Fr} {hd : Option (Nat × Nat)} {S : Sm} {H : Hm}
theorem Xq.fix (hq : Xq w0 N C T) {k : Nat} (h : Sx N k ∨ k = N.bb) : k < N.lo := by
  obtain ⟨a, b, c, d, e, f, g⟩ := hq.dn.lt
  unfold Sx at h
  rcases h with (h | h | h | h | h | h) | h <;> omega
/- new blocks and the three of its own -/
theorem Xr.fresh {P : Nat → Prop} (hq : Xq w0 N C T) (h : Xr w0 w N T ws fr hd S H) (hk : Kp P w w') (hp : ∀ k, P k → w0.heap.size ≤ k) (hc : ∃ D, Blk w' N.cb 3 D) (hg : ∃ D, Blk w' N.gb 6 D) (hqb : ∃ D, Blk w' N.qb 3 D) : Xr w0 w' N T ws fr hd S H := by
  have hlo := hq.lo
  have hf : ∀ k, Sx N k ∨ k = N.bb → ¬ P k := fun k hk hP => by have := hq.fix hk; have := hp k hP; omega
  obtain ⟨F, x1, x2, x3, x4⟩ := h.x
  obtain ⟨K, s1, s2⟩ := h.st
  exact ⟨h.kp.later hk (fun j hj => .inr (hp j hj)), ⟨F, x1.keep hk (hf _ (.inl (.inl rfl))), x2, x3, x4⟩, ⟨K, s1.keep hk (hf _ (.inl (.inr (.inl rfl)))), s2⟩, hc, hg, hqb, h.mm.keep hk (hf _ (.inl (.inr (.inr (.inl rfl))))) (hf _ (.inl (.inr (.inr (.inr (.inl rfl)))))),
    h.hw.keep hk (hf _ (.inl (.inr (.inr (.inr (.inr (.inl rfl))))))) (hf _ (.inr rfl)) (hf _ (.inl (.inr (.inr (.inr (.inr (.inr rfl))))))) (fun k hT hP => by have := (hq.t k hT).1; have := hp k hP; omega)⟩
theorem Xr.cset (hq : Xq w0 N C T) (h : Xr w0 w N T ws fr hd S H) {i : Nat} (hi : i < 3) (v : Value) : Xr w0 (w.setCell ⟨N.cb, i, none⟩ v) N T ws fr hd S H := by
  obtain ⟨n1, n2, n3, n4, n5, n6⟩ := hq.new
  obtain ⟨D, d⟩ := h.cb
  obtain ⟨E, e⟩ := h.gb
  obtain ⟨G, g⟩ := h.qb
  exact h.fresh hq ((Kp.refl (fun k => k = N.cb) w).setCell (p := ⟨N.cb, i, none⟩) (.inl rfl) v) (fun k hk => by subst hk; exact n1) ⟨_, d.set hi v⟩ ⟨_, e.other (Ne.symm n4) v⟩ ⟨_, g.other (Ne.symm n5) v⟩
theorem Xr.qset (hq : Xq w0 N C T) (h : Xr w0 w N T ws fr hd S H) {i : Nat} (hi : i < 3) (v : Value) : Xr w0 (w.setCell ⟨N.qb, i, none⟩ v) N T ws fr hd S H := by
  obtain ⟨n1, n2, n3, n4, n5, n6⟩ := hq.new
  obtain ⟨D, d⟩ := h.cb
  obtain ⟨E, e⟩ := h.gb
  obtain ⟨G, g⟩ := h.qb
  exact h.fresh hq ((Kp.refl (fun k => k = N.qb) w).setCell (p := ⟨N.qb, i, none⟩) (.inl rfl) v) (fun k hk => by subst hk; exact n3) ⟨_, d.other n5 v⟩ ⟨_, e.other n6 v⟩ ⟨_, g.set hi v⟩
theorem Xr.gset (hq : Xq w0 N C T) (h : Xr w0 w N T ws fr hd S H) {i : Nat} (hi : i < 6) (v : Value) : Xr w0 (w.setCell ⟨N.gb, i, none⟩ v) N T ws fr hd S H := by
  obtain ⟨n1, n2, n3, n4, n5, n6⟩ := hq.new
  obtain ⟨D, d⟩ := h.cb
  obtain ⟨E, e⟩ := h.gb
  obtain ⟨G, g⟩ := h.qb
  exact h.fresh hq ((Kp.refl (fun k => k = N.gb) w).setCell (p := ⟨N.gb, i, none⟩) (.inl rfl) v) (fun k hk => by subst hk; exact n2) ⟨_, d.other n4 v⟩ ⟨_, e.set hi v⟩ ⟨_, g.other (Ne.symm n6) v⟩
theorem Xr.drew (h : Xr w0 w N T ws fr hd S H) : Xr w0 w.drew N T ws fr hd S H := by
  obtain ⟨⟨F, G, b1, b2, hl⟩, ne⟩ := h.mm
  exact ⟨h.kp.drew, h.x, h.st, h.cb, h.gb, h.qb, ⟨⟨F, G, b1, b2, hl⟩, ne⟩, h.hw.keep (S := fun _ => False) (Kp.refl _ _).drew (fun h => h) (fun h => h) (fun h => h) (fun _ _ h => h)⟩
/- fewer words -/
theorem Xr.sub (h : Xr w0 w N T ws fr hd S H) (hs : ∀ (i v : Nat), ws'[i]? = some v → ws[i]? = some v) : Xr w0 w N T ws' fr hd S H := by
  obtain ⟨K, s1, s2⟩ := h.st
  exact ⟨h.kp, h.x, ⟨K, s1, fun i v hi => s2 i v (hs i v hi)⟩, h.cb, h.gb, h.qb, h.mm, h.hw⟩
theorem Xr.take (h : Xr w0 w N T ws fr hd S H) (n : Nat) : Xr w0 w N T (ws.take n) fr hd S H := h.sub (fun i v hi => by
  rw [List.getElem?_take] at hi
  split at hi
  · exact hi
  · simp at hi)
/- a block of the fixed ones is written, the others stay -/
structure Ot (N : Xn) (P : Nat → Prop) : Prop where
  sx : ∀ k, P k → Sx N k
/- a word of the stack is set -/
theorem Xr.stk (hq : Xq w0 N C T) (h : Xr w0 w N T ws fr hd S H) {i v : Nat} (hi : i < 120) (hw : ∀ (j u : Nat), ws'[j]? = some u → (j = i ∧ u = v) ∨ (j ≠ i ∧ ws[j]? = some u)) : Xr w0 (w.setCell ⟨N.kb, i, none⟩ (.int .u64 v)) N T ws' fr hd S H := by
  obtain ⟨n1, n2, n3, n4, n5, n6⟩ := hq.new
  have hd' := hq.dn
  have hlo := hq.lo
  have hkl := hq.fix (k := N.kb) (.inl (.inr (.inl rfl)))
  have hk : Kp (fun k => k = N.kb) w (w.setCell ⟨N.kb, i, none⟩ (.int .u64 v)) := (Kp.refl (fun k => k = N.kb) w).setCell (p := ⟨N.kb, i, none⟩) (.inl rfl) _
  obtain ⟨F, x1, x2, x3, x4⟩ := h.x
  obtain ⟨K, s1, s2⟩ := h.st
  obtain ⟨D, d⟩ := h.cb
  obtain ⟨E, e⟩ := h.gb
  obtain ⟨G, g⟩ := h.qb
  refine ⟨h.kp.setCell (p := ⟨N.kb, i, none⟩) (.inl (.inr (.inl rfl))) _, ⟨F, x1.keep hk hd'.xb_kb, x2, x3, x4⟩, ⟨_, s1.set hi _, fun j u hj => ?_⟩, ⟨D, d.keep hk (by omega)⟩, ⟨E, e.keep hk (by omega)⟩, ⟨G, g.keep hk (by omega)⟩, h.mm.keep hk (Ne.symm hd'.kb_sb) (Ne.symm hd'.kb_rb), h.hw.keep hk (Ne.symm hd'.kb_hb) (Ne.symm hd'.kb_bb) (Ne.symm hd'.kb_tb) (fun k hT e => (hq.t k hT).2.1 (.inr (.inl e)))⟩
  rcases hw j u hj with ⟨rfl, rfl⟩ | ⟨h1, h2⟩
  · rw [upd_same]
  · rw [upd_ne _ _ h1]; exact s2 j u h2
theorem Xr.set (hq : Xq w0 N C T) (h : Xr w0 w N T ws fr hd S H) {i v : Nat} (hi : i < 120) : Xr w0 (w.setCell ⟨N.kb, i, none⟩ (.int .u64 v)) N T (ws.set i v) fr hd S H := h.stk hq hi (fun j u hj => by
  rw [List.getElem?_set] at hj
  by_cases e : i = j
  · subst e
    rw [if_pos rfl] at hj
    split at hj
    · simp at hj; exact .inl ⟨rfl, hj.symm⟩
    · simp at hj
  · rw [if_neg e] at hj
    exact .inr ⟨fun e' => e e'.symm, hj⟩)
theorem Xr.push (hq : Xq w0 N C T) (h : Xr w0 w N T ws fr hd S H) {v n : Nat} (hn : ws.length = n) (hi : n < 120) : Xr w0 (w.setCell ⟨N.kb, n, none⟩ (.int .u64 v)) N T (ws ++ [v]) fr hd S H := h.stk hq hi (fun j u hj => by
  subst hn
  rcases get_snoc3 hj with ⟨h1, h2⟩ | ⟨h1, h2⟩
  · exact .inr ⟨by omega, h2⟩
  · exact .inl ⟨h1, h2⟩)
theorem Xr.word (h : Xr w0 w N T ws fr hd S H) {i : Nat} (hi : i < ws.length) (h120 : ws.length ≤ 120) : w.cell? ⟨N.kb, i, none⟩ = some (.int .u64 ((ws.getD i 0 : Nat) : Int)) ∧ w.frozen? ⟨N.kb, i, none⟩ = false := by
  obtain ⟨K, s1, s2⟩ := h.st
  refine ⟨?_, s1.fz (by omega)⟩
  rw [s1.cell (by omega), s2 i (ws.getD i 0) (by rw [List.getD_eq_getElem?_getD, List.getElem?_eq_getElem hi]; rfl)]
theorem Xr.slot (h : Xr w0 w N T ws fr hd S H) {i : Nat} (hi : i < 120) : (∃ v, w.cell? ⟨N.kb, i, none⟩ = some v) ∧ w.frozen? ⟨N.kb, i, none⟩ = false := by
  obtain ⟨K, s1, s2⟩ := h.st
  exact ⟨⟨_, s1.cell hi⟩, s1.fz hi⟩
/- the store turns -/
theorem Xr.store {S' : Sm} (hq : Xq w0 N C T) (h : Xr w0 w N T ws fr hd S H) (hk : Kp (fun k => k = N.sb ∨ k = N.rb) w w') (hm : Mm w' N.sb N.rb S') : Xr w0 w' N T ws fr hd S' H := by
  obtain ⟨n1, n2, n3, n4, n5, n6⟩ := hq.new
  have hd' := hq.dn
  have hlo := hq.lo
  have l1 := hq.fix (k := N.sb) (.inl (.inr (.inr (.inl rfl))))
  have l2 := hq.fix (k := N.rb) (.inl (.inr (.inr (.inr (.inl rfl)))))
  obtain ⟨F, x1, x2, x3, x4⟩ := h.x
  obtain ⟨K, s1, s2⟩ := h.st
  obtain ⟨D, d⟩ := h.cb
  obtain ⟨E, e⟩ := h.gb
  obtain ⟨G, g⟩ := h.qb
  have no : ∀ {k}, k ≠ N.sb → k ≠ N.rb → ¬ (k = N.sb ∨ k = N.rb) := fun a b h => by rcases h with h | h; exact a h; exact b h
  exact ⟨h.kp.trans (hk.mono (fun k hk => by rcases hk with hk | hk; exact .inr (.inr (.inl hk)); exact .inr (.inr (.inr (.inl hk))))), ⟨F, x1.keep hk (no hd'.xb_sb hd'.xb_rb), x2, x3, x4⟩, ⟨K, s1.keep hk (no hd'.kb_sb hd'.kb_rb), s2⟩, ⟨D, d.keep hk (by omega)⟩, ⟨E, e.keep hk (by omega)⟩, ⟨G, g.keep hk (by omega)⟩, hm, h.hw.keep hk (no (Ne.symm hd'.sb_hb) (Ne.symm hd'.rb_hb)) (no (Ne.symm hd'.sb_bb) (Ne.symm hd'.rb_bb)) (no (Ne.symm hd'.sb_tb) (Ne.symm hd'.rb_tb)) (fun k hT e => (hq.t k hT).2.1 (by rcases e with e | e; exact .inr (.inr (.inl e)); exact .inr (.inr (.inr (.inl e)))))⟩
/- the host turns -/
theorem Xr.host {H' : Hm} (hq : Xq w0 N C T) (h : Xr w0 w N T ws fr hd S H) (hk : Kp (fun k => k = N.hb ∨ k = N.tb) w w') (hm : Hw w' N.hb N.bb N.tb T H') : Xr w0 w' N T ws fr hd S H' := by
  obtain ⟨n1, n2, n3, n4, n5, n6⟩ := hq.new
  have hd' := hq.dn
  have hlo := hq.lo
  have l1 := hq.fix (k := N.hb) (.inl (.inr (.inr (.inr (.inr (.inl rfl))))))
  have l2 := hq.fix (k := N.tb) (.inl (.inr (.inr (.inr (.inr (.inr rfl))))))
  obtain ⟨F, x1, x2, x3, x4⟩ := h.x
  obtain ⟨K, s1, s2⟩ := h.st
  obtain ⟨D, d⟩ := h.cb
  obtain ⟨E, e⟩ := h.gb
  obtain ⟨G, g⟩ := h.qb
  have no : ∀ {k}, k ≠ N.hb → k ≠ N.tb → ¬ (k = N.hb ∨ k = N.tb) := fun a b h => by rcases h with h | h; exact a h; exact b h
  exact ⟨h.kp.trans (hk.mono (fun k hk => by rcases hk with hk | hk; exact .inr (.inr (.inr (.inr (.inl hk)))); exact .inr (.inr (.inr (.inr (.inr hk)))))), ⟨F, x1.keep hk (no hd'.xb_hb hd'.xb_tb), x2, x3, x4⟩, ⟨K, s1.keep hk (no hd'.kb_hb hd'.kb_tb), s2⟩, ⟨D, d.keep hk (by omega)⟩, ⟨E, e.keep hk (by omega)⟩, ⟨G, g.keep hk (by omega)⟩, h.mm.keep hk (no hd'.sb_hb hd'.sb_tb) (no hd'.rb_hb hd'.rb_tb), hm⟩
/- the machine's own cells -/
structure Xc (w : World) (N : Xn) : Prop where
  c3 : w.cell? ⟨N.xb, 3, none⟩ = some (.pointer (some ⟨N.sb, 0, none⟩))
  c4 : w.cell? ⟨N.xb, 4, none⟩ = some (.pointer (some ⟨N.hb, 0, none⟩))
  c5 : w.cell? ⟨N.xb, 5, none⟩ = some (.pointer (some ⟨N.mb, 0, none⟩))
  c6 : w.cell? ⟨N.xb, 6, none⟩ = some (.pointer (some ⟨N.kc, 0, none⟩))
  c7 : w.cell? ⟨N.xb, 7, none⟩ = some N.sv
  c8 : w.cell? ⟨N.xb, 8, none⟩ = some N.fv
  c9 : w.cell? ⟨N.xb, 9, none⟩ = some (.slice (some ⟨N.kb, 0, none⟩) 120 120)
theorem Xr.c (h : Xr w0 w N T ws fr hd S H) : Xc w N := by
  obtain ⟨F, x1, x2, x3, x4⟩ := h.x
  exact ⟨by rw [x1.cell (by decide), x2.f3], by rw [x1.cell (by decide), x2.f4], by rw [x1.cell (by decide), x2.f5], by rw [x1.cell (by decide), x2.f6], by rw [x1.cell (by decide), x2.f7], by rw [x1.cell (by decide), x2.f8], by rw [x1.cell (by decide), x2.f9]⟩
/- what stands still, now -/
theorem Xr.kx (hq : Xq w0 N C T) (h : Xr w0 w N T ws fr hd S H) : Kx w N C := hq.kx.keep h.kp (fun k hk => hq.fix (.inl hk))
theorem Xr.kf (hq : Xq w0 N C T) (h : Xr w0 w N T ws fr hd S H) {ci fn : Nat} {ff : FF} (hk : Kf w0 N.lo N.kk ci fn ff) : Kf w N.lo N.kk ci fn ff := hk.keep h.kp (fun k hk => hq.fix (.inl hk))
theorem Xr.cbz (h : Xr w0 w N T ws fr hd S H) : ∀ i, i < 3 → (∃ v, w.cell? ⟨N.cb, i, none⟩ = some v) ∧ w.frozen? ⟨N.cb, i, none⟩ = false := fun i hi => by
  obtain ⟨D, d⟩ := h.cb
  exact ⟨⟨_, d.cell hi⟩, d.fz hi⟩
end
end Go.Proofs.Qxb6500275aGreatDoor
