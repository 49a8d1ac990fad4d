import Derived.Test.Qxb6500275aGreatDoorXq5
import Derived.Test.Qxb6500275aGreatDoorRm5
import Derived.Test.Qxb6500275aGreatDoorRh2
set_option maxRecDepth 100000
set_option linter.unusedVariables false
set_option linter.unusedSimpArgs false
namespace Go.Proofs.Qxb6500275aGreatDoor
open Go Go.RowKit
/- amid Adopt: no module yet; the module at hand lies apart -/
structure Sda (w0 w1 : World) (N0 : EN) (mb : Nat) (m : MT) (S : Sm) (H : Hm) : Prop where
  is : ∃ N n, Erm w1 N (.pointer none) n S H ∧ (N.xb = N0.xb ∧ N.sb = N0.sb ∧ N.hb = N0.hb) ∧ Mw w1 mb m ∧ (∀ k, MwB mb m k → ¬ N.bas k) ∧ Gw w0 w1 N0.bas N.bas
section
variable {w0 w u : World} {N0 : EN} {mb : Nat} {m : MT} {S S' : Sm} {H : Hm}
theorem Sda.mw (h : Sda w0 w N0 mb m S H) : Mw w mb m := by
  obtain ⟨N, n, h1, h2, h3, h4, h5⟩ := h
  exact h3
theorem Sda.c (h : Sda w0 w N0 mb m S H) : w.cell? ⟨N0.xb, 1, none⟩ = some (.pointer (some ⟨N0.sb, 0, none⟩)) ∧ w.cell? ⟨N0.xb, 2, none⟩ = some (.pointer (some ⟨N0.hb, 0, none⟩)) := by
  obtain ⟨N, n, h1, ⟨e1, e2, e3⟩, h3, h4, h5⟩ := h
  rw [← e1, ← e2, ← e3]
  exact ⟨h1.c.2.1, h1.c.2.2.1⟩
theorem Sda.quiet (h : Sda w0 w N0 mb m S H) (hk : Kp (fun _ => False) w u) : Sda w0 u N0 mb m S H := by
  obtain ⟨N, n, h1, h2, h3, h4, h5⟩ := h
  exact ⟨N, n, h1.quiet hk, h2, h3.keep hk (fun _ _ h => h), h4, h5.quiet hk⟩
theorem Sda.drew (h : Sda w0 w N0 mb m S H) : Sda w0 w.drew N0 mb m S H := h.quiet (Kp.refl _ _).drew
theorem Sda.drewN (h : Sda w0 w N0 mb m S H) (k : Nat) : Sda w0 (w.drewN k) N0 mb m S H := h.quiet ((Kp.refl _ _).drewM k)
theorem Erm.app {N N' : EN} {c : Value} {n : Nat} (h : Erm w N c n S H) (hm : Mw w mb m) (hd : ∀ k, MwB mb m k → ¬ N.bas k) (hg : Gw w u N.bas N'.bas) : Mw u mb m ∧ ∀ k, MwB mb m k → ¬ N'.bas k := by
  refine ⟨hm.keep hg.kp hd, fun k hk hb => ?_⟩
  rcases hg.own k hb with e | e
  · exact hd k hk e
  · have := hm.lt hk; omega
/- the host -/
theorem Sda.clearC (h : Sda w0 w N0 mb m S H) : Calls Tryz.prog 130 #[.pointer (some ⟨N0.hb, 0, none⟩)] w (fun en u => en = .returned (.tuple #[]) ∧ Sda w0 u N0 mb m S (clearS H)) := by
  obtain ⟨N, n, h1, ⟨e1, e2, e3⟩, h3, h4, h5⟩ := h
  rw [← e3]
  refine (hclear_m h1.h).mono ?_
  rintro en u ⟨rfl, vk, vp, g1, g2⟩
  obtain ⟨k1, k2⟩ := h1.host g1 g2
  obtain ⟨k3, k4⟩ := h1.app h3 h4 k2
  exact ⟨rfl, _, n, k1, ⟨e1, e2, e3⟩, k3, k4, h5.trans k2⟩
theorem Sda.bindC (h : Sda w0 w N0 mb m S H) (s : ByteArray) (hs : s.size ≤ 8) (hl : H.bd.length < 4) : Calls Tryz.prog 191 #[.pointer (some ⟨N0.hb, 0, none⟩), .string s] w (fun en u => en = .returned (.int .i64 ((bindS H s).1 : Nat)) ∧ Sda w0 u N0 mb m S (bindS H s).2) := by
  obtain ⟨N, n, h1, ⟨e1, e2, e3⟩, h3, h4, h5⟩ := h
  rw [← e3]
  refine (hbind_m h1.h s hs hl).mono ?_
  rintro en u ⟨rfl, vk, vp, g1, g2⟩
  obtain ⟨k1, k2⟩ := h1.host g1 g2
  obtain ⟨k3, k4⟩ := h1.app h3 h4 k2
  exact ⟨rfl, _, n, k1, ⟨e1, e2, e3⟩, k3, k4, h5.trans k2⟩
/- the store -/
theorem Sda.stS {N : EN} {n : Nat} (h1 : Erm w N (.pointer none) n S H) (h2 : N.xb = N0.xb ∧ N.sb = N0.sb ∧ N.hb = N0.hb) (h3 : Mw w mb m) (h4 : ∀ k, MwB mb m k → ¬ N.bas k) (h5 : Gw w0 w N0.bas N.bas) {vm vt vg : Value} (hs : Ms u N.sb vm vt vg S') (hg : Gw w u (Mt N.sb N.vm N.vt N.vg) (Mt N.sb vm vt vg)) : Sda w0 u N0 mb m S' H := by
  obtain ⟨k1, k2⟩ := h1.store hs hg
  obtain ⟨k3, k4⟩ := h1.app h3 h4 k2
  exact ⟨_, n, k1, h2, k3, k4, h5.trans k2⟩
theorem Sda.resetC (h : Sda w0 w N0 mb m S H) (mm mx tm : Int) (ng : Nat) (hn : ng ≤ 4) (hr : -1 ≤ mm ∧ mm < 4294967296 ∧ -1 ≤ mx ∧ mx < 4294967296 ∧ -1 ≤ tm ∧ tm < 4294967296) {R : Sm} (hR : resetS mm mx tm ng = some R) : Calls Tryz.prog 192 #[.pointer (some ⟨N0.sb, 0, none⟩), .int .i64 mm, .int .i64 mx, .int .i64 tm, .int .i64 ng] w (fun en u => en = .returned (.int .i64 0) ∧ Sda w0 u N0 mb m R H) := by
  obtain ⟨N, n, h1, ⟨e1, e2, e3⟩, h3, h4, h5⟩ := h
  rw [← e2]
  refine (mreset_m h1.st mm mx tm ng hn hr hR).mono ?_
  rintro en u ⟨rfl, vm, vt, vg, g1, g2⟩
  exact ⟨rfl, Sda.stS h1 ⟨e1, e2, e3⟩ h3 h4 h5 g1 g2⟩
theorem Sda.globC (h : Sda w0 w N0 mb m S H) (hS : SmOk S) (i : Nat) (hi : i < S.gl.length) (v : Int) : Calls Tryz.prog 193 #[.pointer (some ⟨N0.sb, 0, none⟩), .int .i64 i, .int .u64 v] w (fun en u => en = .returned (.int .i64 0) ∧ Sda w0 u N0 mb m { S with gl := S.gl.set i v } H) := by
  obtain ⟨N, n, h1, ⟨e1, e2, e3⟩, h3, h4, h5⟩ := h
  rw [← e2]
  refine (msetGlobal_m h1.st hS i hi v).mono ?_
  rintro en u ⟨rfl, g1, g2⟩
  exact ⟨rfl, Sda.stS h1 ⟨e1, e2, e3⟩ h3 h4 h5 g2 ⟨g1, fun k hk => .inl hk⟩⟩
theorem Sda.elemC (h : Sda w0 w N0 mb m S H) (hS : SmOk S) (i : Nat) (hi : i < 4294967296) (f : Int) : Calls Tryz.prog 196 #[.pointer (some ⟨N0.sb, 0, none⟩), .int .u32 i, .int .i64 f] w (fun en u => en = .returned (.int .i64 ((setElemS S i f).1 : Int)) ∧ Sda w0 u N0 mb m (setElemS S i f).2 H) := by
  obtain ⟨N, n, h1, ⟨e1, e2, e3⟩, h3, h4, h5⟩ := h
  rw [← e2]
  refine (msetElem_m h1.st hS i hi f).mono ?_
  rintro en u ⟨rfl, g1, g2⟩
  exact ⟨rfl, Sda.stS h1 ⟨e1, e2, e3⟩ h3 h4 h5 g2 ⟨g1, fun k hk => .inl hk⟩⟩
theorem Sda.writeC (h : Sda w0 w N0 mb m S H) (hS : SmOk S) (i : Nat) (hi : i < 4294967296) (t : ByteArray) (ht : t.size < 1000000) : Calls Tryz.prog 197 #[.pointer (some ⟨N0.sb, 0, none⟩), .int .u32 i, .string t] w (fun en u => en = .returned (.int .i64 ((writeS S i t).1 : Int)) ∧ Sda w0 u N0 mb m (writeS S i t).2 H) := by
  obtain ⟨N, n, h1, ⟨e1, e2, e3⟩, h3, h4, h5⟩ := h
  rw [← e2]
  refine (mwrite_m h1.st hS i hi t ht).mono ?_
  rintro en u ⟨rfl, g1, g2⟩
  exact ⟨rfl, Sda.stS h1 ⟨e1, e2, e3⟩ h3 h4 h5 g2 ⟨g1, fun k hk => .inl hk⟩⟩
theorem Sda.tabC_ (h : Sda w0 w N0 mb m S H) (k : Nat) : Calls Tryz.prog 194 #[.pointer (some ⟨N0.sb, 0, none⟩)] (w.drewN k) (Qm (w.drewN k) (.int .i64 S.tab.length)) := by
  obtain ⟨N, n, h1, ⟨e1, e2, e3⟩, h3, h4, h5⟩ := h.drewN k
  rw [← e2]
  exact mtabLen_m h1.st
theorem Sda.fitsC (h : Sda w0 w N0 mb m S H) (hS : SmOk S) (a n : Nat) (ha : a < 4294967296) (hn : n < 1000000) : Calls Tryz.prog 195 #[.pointer (some ⟨N0.sb, 0, none⟩), .int .u32 a, .int .i64 n] w (Qm w (.bool (decide (a + n ≤ S.bs.length)))) := by
  obtain ⟨N, n', h1, ⟨e1, e2, e3⟩, h3, h4, h5⟩ := h
  rw [← e2]
  exact mfits_m h1.st hS a n ha hn
end
end Go.Proofs.Qxb6500275aGreatDoor
