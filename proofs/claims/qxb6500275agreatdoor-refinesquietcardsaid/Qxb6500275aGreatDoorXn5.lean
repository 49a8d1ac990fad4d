import Derived.Test.Qxb6500275aGreatDoorXn4
import Derived.Deep.RegionWith
set_option maxRecDepth 100000
set_option linter.unusedVariables false
set_option linter.unusedSimpArgs false
namespace Go.Proofs.Qxb6500275aGreatDoor
open Go Go.RowKit
theorem stuck_m (b : Bool) (w : World) : Calls Tryz.prog 272 #[.bool b] w (fun en w' => en = .returned (.int .i64 (if b = true then 0 else 37)) ∧ w' = w) := by
  cases b
  · go_enter Tryz.func272, Tryz.ntmps272
    go_wp2
    go_ret
    exact ⟨rfl, rfl⟩
  · go_enter Tryz.func272, Tryz.ntmps272
    go_wp2
    go_ret
    exact ⟨rfl, rfl⟩
def insV (x : Ins) : Value := .agg #[.int .u8 (x.op : Int), .int .u32 x.x, .int .u64 x.y]
section
variable {w : World} {vf : Value} {q0 : List (MF × FT3)} {x : MF × FT3}
theorem Fkm.after {W u : World} {r : MF} {t : FT3} (h : Fkm W u vf q0 x r t) (hk : Kp (fun _ => False) w W) : Fkm w u vf q0 x r t :=
  ⟨h.1, (hk.mono (fun _ h => h.elim)).trans h.2.1, fun k e => by
    rcases h.2.2 k e with h5 | h5
    · exact .inl h5
    · exact .inr (Nat.le_trans hk.size h5)⟩
set_option maxHeartbeats 8000000 in
theorem lget_m (h : Fstk w vf (q0 ++ [x])) {g cap : Nat} (hvf : vf = .slice (some ⟨g, 0, none⟩) (q0.length + 1) cap) {i : Ins} (ho : i.op = 32) (hx : u32R i.x) (hll : x.1.loc.length ≤ 100) {lv : MV} {r' : MF} (hl : x.1.loc[i.x.toNat]? = some lv) (hp : pushM x.1 lv = some r') (ht : lv.t < 256) (hb : lv.b < 18446744073709551616) :
    Calls Tryz.prog 275 #[.pointer (some ⟨g, q0.length * 5, none⟩), insV i] w (Fz3 w vf q0 x r' (.int .i64 0)) := by
  have hg : vf.ownBlock = some g := by rw [hvf]; rfl
  obtain ⟨g', cap', hv', h1, h2, h3, h4, c0, c1, c2, c3, c4, hM, hng⟩ := h.top
  have hgg : g' = g := by rw [hv'] at hg; simpa [Value.ownBlock] using hg
  subst hgg
  obtain ⟨n, hn⟩ : ∃ n, x.1.loc.length = n := ⟨_, rfl⟩
  have hil := (List.getElem?_eq_some_iff.1 hl).1
  obtain ⟨gl, cl, hlv, l1, l2, l3, l4, l5⟩ := hM.l.ptr (by omega)
  have hvat := valC_at hl
  have d0 := l4 _ _ hvat.1
  have d1 := l4 _ _ hvat.2
  unfold u32R at hx
  obtain ⟨k, hk⟩ : ∃ k : Nat, i.x = (k : Int) := ⟨i.x.toNat, by omega⟩
  rw [hk, Int.toNat_natCast] at hil d0 d1
  rw [hn] at hlv hll hil l2
  rw [hlv] at c2
  have hkn : (k : Int) < (n : Int) := by omega
  have hkn2 : ¬ (n : Int) ≤ (k : Int) := by omega
  have hglne : gl ≠ g' := fun e => hng (.inl (by rw [hlv, e]; rfl))
  unfold insV
  rw [ho, hk]
  obtain ⟨Y, hY⟩ : ∃ Y, i.y = Y := ⟨_, rfl⟩
  rw [hY]
  have HP := fun u (hu : Kp (fun _ => False) w u) => push_m (h.keep hu (fun _ _ h => h)) hvf hp ht hb
  obtain ⟨o, hoo⟩ : ∃ o, q0.length * 5 = o := ⟨_, rfl⟩
  rw [hoo] at c2 HP ⊢
  obtain ⟨W, hW⟩ : ∃ W, (w.alloc (.cells #[.int .u8 32, .int .u32 (k : Int), .int .u64 Y] 129)).drew = W := ⟨_, rfl⟩
  have hKW : Kp (fun _ => False) w W := by rw [← hW]; exact ((Kp.refl _ _).alloc _).drew
  have e2 : W.cell? ⟨g', o + 2, none⟩ = some (.slice (some ⟨gl, 0, none⟩) n cl) := by rw [hKW.cell (p := ⟨g', o + 2, none⟩) h1 (fun h => h)]; exact c2
  have e0 : W.cell? ⟨gl, k * 2, none⟩ = some (.int .u8 (lv.t : Int)) := by rw [hKW.cell (p := ⟨gl, k * 2, none⟩) l1 (fun h => h)]; exact d0
  have e1 : W.cell? ⟨gl, k * 2 + 1, none⟩ = some (.int .u64 (lv.b : Int)) := by rw [hKW.cell (p := ⟨gl, k * 2 + 1, none⟩) l1 (fun h => h)]; exact d1
  have eb : W.cell? ⟨w.heap.size, 1, none⟩ = some (.int .u32 (k : Int)) := by
    rw [← hW]
    have := (blk_al w #[.int .u8 32, .int .u32 (k : Int), .int .u64 Y] 129).cell (i := 1) (by simp)
    exact this
  have ec : W.cell? ⟨w.heap.size, 0, none⟩ = some (.int .u8 32) := by
    rw [← hW]
    exact (blk_al w #[.int .u8 32, .int .u32 (k : Int), .int .u64 Y] 129).cell (i := 0) (by simp)
  have HW2 : Hid (∀ u, Kp (fun _ => False) W u → Calls Tryz.prog 271 #[.pointer (some ⟨g', o, none⟩), .int .u8 (lv.t : Int), .int .u64 (lv.b : Int)] u (Fz3 u vf q0 x r' (.bool true))) := fun u hu => HP u (hKW.trans hu)
  have HKW : Hid (Kp (fun _ => False) w W) := hKW
  have HS := fun w => stuck_m true w
  clear HP hKW
  clear hp hl hvat l4 l5 hM h hvf hv' h4 c0 c1 c3 c4 hg hn hlv hY hk ho hoo hx
  go_enter Tryz.func275, Tryz.ntmps275
  go_wp2_with fail
  go_region
  go_wp2_with fail
  clear hW c2 d0 d1
  go_still_tail 19, (by kernel_rfl)
  go_wp2_with fail
  refine (HW2.out _ (Kp.refl _ _).drew).mono ?_
  rintro en u2 ⟨rfl, t', hF⟩
  have HF : Hid (Fkm w u2 vf q0 x r' t') := Fkm.after hF (HKW.out.trans (Kp.refl _ _).drew)
  clear hF
  go_wp2_with fail
  refine (HS _).mono ?_
  rintro en u3 ⟨rfl, rfl⟩
  go_wp2
  go_ret
  exact ⟨rfl, t', HF.out⟩
end
end Go.Proofs.Qxb6500275aGreatDoor
