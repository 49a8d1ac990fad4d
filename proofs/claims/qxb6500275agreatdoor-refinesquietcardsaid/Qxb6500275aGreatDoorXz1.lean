import Derived.Test.Qxb6500275aGreatDoorXz0
import Derived.Deep.RegionWith
import Derived.StillTailTactics
import Derived.Deep.QuietTactic
import Derived.BigQuiet
set_option maxRecDepth 1000000
set_option linter.unusedVariables false
set_option linter.unusedSimpArgs false
namespace Go.Proofs.Qxb6500275aGreatDoor
open Go Go.RowKit
theorem mid2 {w0 w : World} {N : Xn} {C : XC} {T : Nat → Prop} {ff : FF} {ci fuel : Nat} {tmps : Array Value} {ws : List Nat} {fr : List Fr} {fn base n : Nat} {S : Sm} {H : Hm} (y z : Int) {zf : Int} (hzf : zf = (base : Int) + (ff.locals : Int)) (heq : tmps = fx N C (fun i => tmps.getD i undef)) (h2 : tmps.getD 2 undef = .int .i64 z) (h3 : tmps.getD 3 undef = .int .i64 y) (h12 : tmps.getD 12 undef = .slice (some ⟨ci, 0, none⟩) n n) (h13 : tmps.getD 13 undef = .pointer (some ⟨N.kk, fn * 4, none⟩)) (h20 : tmps.getD 20 undef = .int .i64 (base : Int)) (h21 : tmps.getD 21 undef = .int .i64 zf) (h22 : tmps.getD 22 undef = .int .i64 (fr.length : Int))
    (hy : y = (fuel : Int)) (hz : z = (ws.length : Int)) (hn : ff.cells.length = n) (kf : Kf w0 N.lo N.kk ci fn ff) (xr : Xr w0 w N T ws fr (some (fn, base)) S H) : Mid w0 w N C T tmps fuel ws fr fn base S H ff ci :=
  mid y z heq h2 h3 h12 h13 h20 (by rw [h21, hzf]) h22 hy hz hn kf xr
theorem addx {a b g : Nat} (h : a + b = g) (hg : g < 1000000) : wrap64 ((a : Int) + (b : Int)) = (g : Int) := by
  unfold wrap64; omega
theorem sucx {g : Nat} (hg : g < 1000000) : wrap64 ((g : Int) + 1) = (g : Int) + 1 := by
  unfold wrap64; omega
theorem subx {a b c : Nat} (h : a = b + c) (ha : a < 1000000) : wrap64 ((a : Int) - (b : Int)) = (c : Int) := by
  unfold wrap64; omega
theorem take_set1 {ws : List Nat} {g t0 : Nat} (hg : g < ws.length) : (ws.set g t0).take (g + 1) = ws.take g ++ [t0] := by
  rw [List.take_add_one, List.take_set_of_le (Nat.le_refl _), List.getElem?_set_self hg]
  rfl
def scopeB : Code → Option Code
  | .scope c => some c
  | .seq a b => match scopeB a with
    | some c => some c
    | none => scopeB b
  | _ => none
def labR (f : Option Code) (l : Nat) : Code := ((f.bind scopeB).bind (fun c => findLabel c l)).getD .skip
set_option maxHeartbeats 8000000 in
theorem p42_branch {w0 w : World} {N : Xn} {C : XC} {T : Nat → Prop} {u : Nat → Value} {fuel fn base x keep fl ci : Nat} {ws : List Nat} {fr : List Fr} {S : Sm} {H : Hm} {ff : FF} {Q : Exit → Act → World → Prop} (hq : Xq w0 N C T) (hf : Hf w0 N C u fuel ws.length base fn fr.length ff ci) (hx : Xr w0 w N T ws fr (some (fn, base)) S H)
    (c1 : w.cell? ⟨N.cb, 1, none⟩ = some (.int .u32 (x : Int))) (c2 : w.cell? ⟨N.cb, 2, none⟩ = some (.int .u64 ((keep : Int) * 4294967296 + (fl : Int)))) (hxr : x < 4294967296) (hk : keep ≤ 1) (hfl : fl ≤ 10) (h120 : ws.length ≤ 120) (hsl : base + ff.locals + fl + keep ≤ ws.length) (hfo : base + ff.locals ≤ 110)
    (hQ : ∀ tmps w', Mid w0 w' N C T tmps fuel (ws.take (base + ff.locals + fl) ++ (if keep = 1 then [ws.getD (ws.length - 1) 0] else [])) fr fn base S H ff ci → tmps.getD 19 undef = .int .i64 (x : Int) → Q (.goto 1) ⟨tmps, []⟩ w') :
    Code.wp Tryz.prog (labR Tryz.f42.body 2) Q ⟨fx N C u, []⟩ w := by
  obtain ⟨u2, u3, u12, u13, u20, u21, u22, kf⟩ := hf
  obtain ⟨n, hn⟩ : ∃ n, ff.cells.length = n := ⟨_, rfl⟩
  obtain ⟨sp, hsp⟩ : ∃ sp, ws.length = sp := ⟨_, rfl⟩
  obtain ⟨fo, hfoe⟩ : ∃ fo, base + ff.locals = fo := ⟨_, rfl⟩
  have u21' : u 21 = .int .i64 (fo : Int) := by rw [u21, ← hfoe]; simp
  rw [hn] at u12
  rw [hsp] at u2 h120 hsl hQ
  rw [hfoe] at hsl hfo hQ
  have hwx : IntKind.i64.wrap (x : Int) = (x : Int) := iwr (by omega) (by omega)
  have hl := locx (b := fo) (n := fl) 
  have hc5 := height_calls w keep fl hk hfl
  have hc6 := keep_calls w keep fl hk hfl
  have HQ : Hid _ := hQ
  have HX : Hid _ := hx
  have HQQ : Hid _ := hq
  have HKF : Hid _ := kf
  have HN : Hid _ := hn
  have HSP : Hid _ := hsp
  have HFO : Hid _ := hfoe
  clear hQ hx hq kf hn hsp hl
  unfold fx fr42
  rw [u2, u3, u12, u13, u20, u21', u22]
  conv => arg 2; whnf
  repeat (first | (with_reducible refine xt_exit ?_) | (with_reducible refine xt_normal ?_) | (with_reducible refine xb_normal ?_) | (with_reducible refine xb_eq ?_) | (with_reducible refine xb_ne ?_ ?_; · decide) | (with_reducible refine xt_goto ?_) | (with_reducible refine xb_goto ?_) | go_values | go_skip | go_guarded | go_step | go_step3 | go_upon)
  refine hc5.mono ?_
  rintro en w6 ⟨rfl, rfl⟩
  dsimp only
  repeat (first | (with_reducible refine xt_exit ?_) | (with_reducible refine xt_normal ?_) | (with_reducible refine xb_normal ?_) | (with_reducible refine xb_eq ?_) | (with_reducible refine xb_ne ?_ ?_; · decide) | (with_reducible refine xt_goto ?_) | (with_reducible refine xb_goto ?_) | go_values | go_skip | go_guarded | go_step | go_step3 | go_upon)
  refine hc6.mono ?_
  rintro en w6 ⟨rfl, rfl⟩
  dsimp only
  clear hc5 hc6
  rcases (by omega : keep = 0 ∨ keep = 1) with hk0 | hk1
  · subst hk0
    repeat (first | (with_reducible refine xt_exit ?_) | (with_reducible refine xt_normal ?_) | (with_reducible refine xb_normal ?_) | (with_reducible refine xb_eq ?_) | (with_reducible refine xb_ne ?_ ?_; · decide) | (with_reducible refine xt_goto ?_) | (with_reducible refine xb_goto ?_) | go_values | go_skip | go_guarded | go_step | go_step3 | go_upon)
    refine HQ.out _ _ (mid2 (fuel : Int) ((fo : Int) + (fl : Int)) (zf := (fo : Int)) (by have := HFO.out; omega) (by kernel_rfl) (by kernel_rfl) (by kernel_rfl) (by kernel_rfl) (by kernel_rfl) (by kernel_rfl) (by kernel_rfl) (by kernel_rfl) rfl (by simp; rw [HSP.out]; omega) HN.out HKF.out (by simpa using HX.out.take _)) ?_
    kernel_rfl
  · subst hk1
    have hsp1 : 1 ≤ sp := by omega
    obtain ⟨cw, gw⟩ := HX.out.word (i := ws.length - 1) (by rw [HSP.out]; omega) (by rw [HSP.out]; exact h120)
    obtain ⟨t0, ht0⟩ : ∃ t0, ws.getD (ws.length - 1) 0 = t0 := ⟨_, rfl⟩
    rw [ht0, HSP.out] at cw
    rw [HSP.out] at gw
    have HT : Hid _ := ht0
    clear ht0
    have hgb : fo + fl < 120 := by omega
    obtain ⟨⟨vg, cg⟩, gg⟩ := HX.out.slot (i := fo + fl) hgb
    have hXn := (HX.out.set HQQ.out (i := fo + fl) (v := t0) hgb).take (fo + fl + 1)
    have hlist : (ws.set (fo + fl) t0).take (fo + fl + 1) = ws.take (fo + fl) ++ [t0] := take_set1 (by rw [HSP.out]; omega)
    rw [hlist] at hXn
    have HXN : Hid _ := hXn
    have hkc := (kb_cb HQQ.out).1
    obtain ⟨hb3, hb4, hb5, -⟩ := locx hgb
    obtain ⟨hs1, hs2, hs3, hs4⟩ := popx hsp1 h120
    clear hXn hlist
    repeat (first | (with_reducible refine xt_exit ?_) | (with_reducible refine xt_normal ?_) | (with_reducible refine xb_normal ?_) | (with_reducible refine xb_eq ?_) | (with_reducible refine xb_ne ?_ ?_; · decide) | (with_reducible refine xt_goto ?_) | (with_reducible refine xb_goto ?_) | go_values | go_skip | go_guarded | go_step | go_step3 | go_upon)
    refine HQ.out _ _ ?_ ?_
    · have hT9 := HT.out
      rw [HSP.out] at hT9
      rw [if_pos rfl, hT9]
      exact (mid2 ((fuel : Int)) ((fo : Int) + (fl : Int) + 1) (zf := (fo : Int)) (by have := HFO.out; omega) (by kernel_rfl) (by kernel_rfl) (by kernel_rfl) (by kernel_rfl) (by kernel_rfl) (by kernel_rfl) (by kernel_rfl) (by kernel_rfl) rfl (by simp; rw [HSP.out]; omega) HN.out HKF.out HXN.out)
    · kernel_rfl
end Go.Proofs.Qxb6500275aGreatDoor
