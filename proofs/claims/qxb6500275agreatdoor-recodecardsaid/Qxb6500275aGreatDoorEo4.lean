import Derived.Test.Qxb6500275aGreatDoorEo3
import Derived.Test.Qxb6500275aGreatDoorDm1
set_option maxRecDepth 100000
set_option linter.unusedVariables false
set_option linter.unusedSimpArgs false
namespace Go.Proofs.Qxb6500275aGreatDoor
open Go Go.RowKit
theorem ins_cell {u : World} {n0 : Nat} {a : Option Addr} {L : List Ins} {n : Nat} (h : InsAt u n0 (.slice a n n) L) (hn : L.length = n) {j : Nat} {x : Ins} (hx : L[j]? = some x) : ∃ kb, a = some ⟨kb, 0, none⟩ ∧ u.cell? ⟨kb, j * 3, none⟩ = some (.int .u8 x.op) ∧ u.cell? ⟨kb, j * 3 + 1, none⟩ = some (.int .u32 x.x) ∧ u.cell? ⟨kb, j * 3 + 2, none⟩ = some (.int .u64 x.y) := by
  obtain ⟨G, ⟨a', h1, h2, h3⟩, h4⟩ := h
  have hj := (List.getElem?_eq_some_iff.1 hx).1
  simp only [Value.slice.injEq] at h1
  obtain ⟨rfl, _, _⟩ := h1
  obtain ⟨kb, _, h5, h6⟩ := h3 (by omega)
  obtain ⟨g0, g1, g2⟩ := h4 j x hx
  dsimp only at g0 g1 g2
  rw [Nat.add_zero] at g0
  exact ⟨kb, h5, by rw [h6.cell (by omega), g0], by rw [h6.cell (by omega), g1], by rw [h6.cell (by omega), g2]⟩
theorem ins_slice {u : World} {n0 : Nat} {tv : Value} {T : List Ins} (h : InsAt u n0 tv T) : ∃ a, tv = .slice a T.length T.length := by
  obtain ⟨G, ⟨a, h1, _⟩, _⟩ := h
  exact ⟨a, h1⟩
def tailT (M : Mod) : List Nat := secTx 10 M (M.funcs.map Fn.ty) ++ secTx 11 M (M.funcs.map Fn.ty)
section
variable {w0 u : World} {B : Nat → Prop} {mb ob sb fb : Nat} {vo vs vf : Value} {lo ls lf : List Nat} {M : Mod} {ta ia fa ga xa ea da : Option Addr}
/- the function's text is emptied -/
theorem E3.clearF {a : Option Addr} {n c : Nat} (h : E3 w0 B u ob vo lo sb vs ls fb (.slice a n c) lf) : E3 w0 B (u.setCell ⟨fb, 0, none⟩ (.slice a 0 c)) ob vo lo sb vs ls fb (.slice a 0 c) [] := by
  have c4 := h.f.c
  have z4 := h.f.z
  have hk4 : Kp (fun k => k = fb) u (u.setCell ⟨fb, 0, none⟩ (.slice a 0 c)) := (Kp.refl (fun k => k = fb) u).setCell (p := ⟨fb, 0, none⟩) (.inl rfl) _
  have hB : Blk u fb 1 (fun _ => .slice a n c) := fun i hi => by
    have : i = 0 := by omega
    subst this
    exact ⟨c4, z4⟩
  have hB2 := hB.set (i := 0) (by decide) (.slice a 0 c)
  have hown : (Value.slice a 0 c).ownBlock = (Value.slice a n c).ownBlock := by cases a <;> rfl
  refine h.stepF (l' := []) ⟨by have := hB2.cell (i := 0) (by decide); rwa [upd_same] at this, hB2.fz (i := 0) (by decide), ?_, by rw [hown]; exact h.f.n⟩ ⟨hk4.mono (fun k e => .inl e), fun k e => .inl (hown ▸ e)⟩
  rcases h.f.f with ⟨h1, _⟩ | ⟨b2, cap, D, h1, h2, h3, h4, h5⟩
  · simp only [Value.slice.injEq] at h1
    obtain ⟨rfl, rfl, rfl⟩ := h1
    exact .inl ⟨rfl, rfl⟩
  · simp only [Value.slice.injEq] at h1
    obtain ⟨rfl, _, rfl⟩ := h1
    exact .inr ⟨b2, c, D, rfl, Nat.lt_of_lt_of_le h2 hk4.size, by simp, h4.keep hk4 (fun e => h.f.n (by rw [← e]; rfl)), fun i x hx => by simp at hx⟩
theorem flat_mem {α : Type} {enc : α → List Nat} {l : List α} {x : α} (h : x ∈ l) : (enc x).length ≤ (l.flatMap enc).length := by
  obtain ⟨a, b, rfl⟩ := List.append_of_mem h
  simp only [List.flatMap_append, List.flatMap_cons, List.length_append]
  omega
set_option maxHeartbeats 8000000 in
theorem encodeTail_calls (hM : ModOk M) (hR : ∀ f, f ∈ M.funcs → FnRoom f) (hl : Ml w0 B mb M ta ia fa ga xa ea da) (h : E3 w0 B u ob vo lo sb vs [] fb vf lf) (hb1 : (M.funcs.flatMap encFn).length ≤ 1024) (hb2 : (M.datas.flatMap encDat).length ≤ 1024)
    (hlo : (lo ++ tailT M).length ≤ 2000) :
    Calls Tryz.prog 69 #[.pointer (some ⟨ob, 0, none⟩), .pointer (some ⟨sb, 0, none⟩), .pointer (some ⟨fb, 0, none⟩), .pointer (some ⟨mb, 0, none⟩)] u (fun en u' => en = .returned (.tuple #[]) ∧ ∃ vo' vs' vf' lf', E3 w0 B u' ob vo' (lo ++ tailT M) sb vs' [] fb vf' lf') := by
  have HM : Hid (ModOk M) := hM
  have HR : Hid (∀ f, f ∈ M.funcs → FnRoom f) := hR
  have HL : Hid (Ml w0 B mb M ta ia fa ga xa ea da) := hl
  have HE : Hid (E3 w0 B u ob vo lo sb vs [] fb vf lf) := h
  have HB1 : Hid ((M.funcs.flatMap encFn).length ≤ 1024) := hb1
  have HB2 : Hid ((M.datas.flatMap encDat).length ≤ 1024) := hb2
  unfold tailT at hlo
  simp only [List.length_append] at hlo
  have HLO : Hid _ := hlo
  obtain ⟨n1, hn1⟩ : ∃ n, M.funcs.length = n := ⟨_, rfl⟩
  obtain ⟨n2, hn2⟩ : ∃ n, M.datas.length = n := ⟨_, rfl⟩
  have HN1 : Hid (M.funcs.length = n1) := hn1
  have HN2 : Hid (M.datas.length = n2) := hn2
  have k1 : n1 ≤ 8 := hn1 ▸ hM.nf
  have k2 : n2 ≤ 3 := hn2 ▸ hM.nd
  clear hM hR hl h hb1 hb2 hlo hn1 hn2
  go_enter Tryz.func69, Tryz.ntmps69
  go_wp2_with fail
  go_loopw [8] (fun ii u1 => ∃ (i : Nat) (vs1 vf1 : Value) (lf1 : List Nat), i ≤ n1 ∧ ii = .int .i64 i ∧ Hid (E3 w0 B u1 ob vo lo sb vs1 ((M.funcs.take i).flatMap encFn) fb vf1 lf1)) (fun ii _ => n1 + 1 - (intOf ii).toNat)
  case atStart => exact ⟨0, vs, vf, lf, by omega, rfl, HE.out⟩
  case round =>
    clear HE
    obtain ⟨i, vs1, vf1, lf1, hi, rfl, HE⟩ := hrel
    have hL : ((M.funcs.take i).flatMap encFn).length ≤ 1024 := Nat.le_trans (flat_take_le i) HB1.out
    by_cases hlt : i < n1
    · obtain ⟨g, hg⟩ : ∃ g, M.funcs[i]? = some g := ⟨_, List.getElem?_eq_getElem (by rw [HN1.out]; exact hlt)⟩
      obtain ⟨k, vb, vt, rfl, ct⟩ := HL.out.fat i g hg
      have HC : Hid (∀ u, Kp B w0 u → (u.cell? ⟨k, i * 4, none⟩ = some (.int .i64 g.ty) ∧ u.cell? ⟨k, i * 4 + 1, none⟩ = some (.string g.locals) ∧ u.cell? ⟨k, i * 4 + 2, none⟩ = some vb ∧ u.cell? ⟨k, i * 4 + 3, none⟩ = some vt) ∧ InsAt u (mb + 1) vb g.body ∧ TabAt u (mb + 1) vt g.tabs) := ct
      have HO : Hid (FnOk g) := HM.out.funcs g (List.mem_of_getElem? hg)
      have HRG : Hid (FnRoom g) := HR.out g (List.mem_of_getElem? hg)
      have HT : Hid (M.funcs[i]? = some g) := hg
      have hib : (i : Int) < (n1 : Int) := by omega
      obtain ⟨ab, hvb⟩ := ins_slice (ct _ HE.out.kp).2.1
      obtain ⟨nb, hnb⟩ : ∃ n, g.body.length = n := ⟨_, rfl⟩
      rw [hnb] at hvb
      have HNB : Hid (g.body.length = nb) := hnb
      have hb0 : 0 < nb := hnb ▸ HO.out.nb.1
      have hb96 : nb ≤ 96 := hnb ▸ HO.out.nb.2
      subst hvb
      have hG : (encFn g).length ≤ 1024 := Nat.le_trans (flat_mem (List.mem_of_getElem? hg)) HB1.out
      have hI : (encIn g).length ≤ 1024 := by
        unfold encFn at hG
        rw [List.length_append] at hG
        omega
      obtain ⟨af, nf, cf, hvf⟩ : ∃ a n c, vf1 = .slice a n c := by
        obtain ⟨a, c, e⟩ := HE.out.f.f.slice
        exact ⟨a, _, c, e⟩
      subst hvf
      have c0 := HL.out.c2 _ HE.out.kp
      rw [HN1.out] at c0
      have cF := HE.out.f.c
      have zF := HE.out.f.z
      have HE1 : Hid _ := HE.out.clearF
      have d1 := (HC.out _ HE1.out.kp).1.2.1
      have nl := HO.out.nl
      have hsl := fun W : World => wlocals_calls (w := W) (wb := fb) (v := .slice af 0 cf) (l := [])
      clear hg ct hnb HE hG
      go_wp2_with fail
      refine (wlocals_calls HE1.out.f g.locals (by omega) (vals128 HO.out.locals) (by simp)).mono ?_
      rintro en u2 ⟨rfl, v2, r2, e2⟩
      have HE2 : Hid _ := HE1.out.stepF r2 e2
      clear r2 e2 HE1 c0 cF zF d1 hsl
      go_wp2_with fail
      go_loopw [10] (fun jj u3 => ∃ (j : Nat) (vf2 : Value), j ≤ nb ∧ jj = .int .i64 j ∧ Hid (E3 w0 B u3 ob vo lo sb vs1 ((M.funcs.take i).flatMap encFn) fb vf2 (encLoc (natsOf g.locals) ++ (g.body.take j).flatMap (encX g.tabs)))) (fun jj _ => nb + 1 - (intOf jj).toNat)
      case atStart => exact ⟨0, v2, by omega, rfl, by show E3 _ _ _ _ _ _ _ _ _ _ _ _; simpa using HE2.out⟩
      case round =>
        clear HE2
        obtain ⟨j, vf2, hj, rfl, HE⟩ := hrel
        have hLj : (encLoc (natsOf g.locals) ++ (g.body.take j).flatMap (encX g.tabs)).length ≤ 1024 := by
          have h1 := flat_take_le (enc := encX g.tabs) (l := g.body) j
          unfold encIn at hI
          rw [List.length_append] at hI ⊢
          omega
        by_cases hjt : j < nb
        · obtain ⟨x, hx⟩ : ∃ x, g.body[j]? = some x := ⟨_, List.getElem?_eq_getElem (by rw [HNB.out]; exact hjt)⟩
          obtain ⟨⟨_, _, d2, d3⟩, hIA, hTA⟩ := HC.out _ HE.out.kp
          obtain ⟨kb, rfl, x0, x1, x2⟩ := ins_cell hIA HNB.out hx
          obtain ⟨at_, hvt⟩ := tab_slice hTA
          have HX : Hid (g.body[j]? = some x) := hx
          have hm := List.mem_of_getElem? hx
          have hjb : (j : Int) < (nb : Int) := by omega
          have hcc : ∀ W, Kp (fun _ => False) _ W → _ := fun W hk => ins_calls ((HE.out.quiet hk).f) x vt (mb + 1) g.tabs (fun u' v' he => (HC.out u' (kp_base (HE.out.quiet hk).kp he.kp HE.out.nf)).2.2) (HO.out.body x hm) (HRG.out.y1 x hm) HO.out.nt HO.out.tabs (by omega)
          unfold Ins.val at hcc
          have HVT : Hid (vt = .slice at_ g.tabs.length g.tabs.length) := hvt
          clear hx hm hIA hTA hvt
          go_wp2_with fail
          go_region_with (go_at_call 129; refine (hcc _ (Kp.refl _ _).drew).mono ?_; rintro en u4 ⟨rfl, v4, r4, e4⟩)
          all_goals
            have HE4 : Hid _ := (HE.out.quiet (Kp.refl _ _).drew).stepF r4 e4
            clear hcc r4 e4 d2 d3 x0 x1 x2 HE
            try go_wp2_with fail
            go_roundw
            case rel =>
              refine ⟨j + 1, v4, by omega, by go_num, ?_⟩
              show E3 _ _ _ _ _ _ _ _ _ _ _ _
              rw [flat_succ HX.out]
              simpa using HE4.out
            case measure => simp [intOf]; omega
        · have hjn : j = nb := by omega
          subst hjn
          have hjb : decide ((j : Int) < (j : Int)) = false := decide_eq_false (by omega)
          rw [flat_all HNB.out] at HE hLj
          have HE : Hid (E3 w0 B _ ob vo lo sb vs1 ((M.funcs.take i).flatMap encFn) fb vf2 (encIn g)) := HE.out
          have hne : encIn g ≠ [] := by
            unfold encIn encLoc
            intro h
            have := uLeb_pos (runs (natsOf g.locals) 0).length
            rw [(List.append_eq_nil_iff.1 (List.append_eq_nil_iff.1 h).1).1] at this
            simp at this
          obtain ⟨L, hLL⟩ : ∃ L, (encIn g).length = L := ⟨_, rfl⟩
          obtain ⟨bf, cf2, D, hvf2, hbf⟩ : ∃ b cap D, vf2 = .slice (some ⟨b, 0, none⟩) L cap ∧ (L ≤ cap ∧ ∀ W, Wr W fb (.slice (some ⟨b, 0, none⟩) L cap) (encIn g) → ∀ (j x : Nat), (encIn g)[j]? = some x → W.cell? ((⟨b, 0, none⟩ : Addr).add j) = some (.int .u8 x)) := by
            rcases HE.out.f.f with ⟨_, h2⟩ | ⟨b2, cap, D, h1, h2, h3, _⟩
            · exact absurd h2 hne
            · rw [hLL] at h1 h3
              refine ⟨b2, cap, D, h1, h3, fun W hW j x hx => ?_⟩
              rcases hW.f with ⟨_, h2⟩ | ⟨b2', cap', D', h1, _, h3, h4, h5⟩
              · exact absurd h2 hne
              · simp only [Value.slice.injEq, Option.some.injEq, Addr.mk.injEq] at h1
                obtain ⟨⟨rfl, _, _⟩, _, rfl⟩ := h1
                have hj := (List.getElem?_eq_some_iff.1 hx).1
                rw [add_none, Nat.zero_add, h4.cell (by omega), h5 j x hx]
          subst hvf2
          have HLL : Hid ((encIn g).length = L) := hLL
          have HBF : Hid _ := hbf
          have hLc : L ≤ 1024 := hLL ▸ hI
          have d2 := (HC.out _ HE.out.kp).1.2.2.1
          have cF := HE.out.f.c
          have l5 := uLeb_le 4 L (by simp; omega)
          clear hLL hbf hne
          go_wp2_with fail
          refine (wu_calls HE.out.s L (by omega) (by omega)).mono ?_
          rintro en u4 ⟨rfl, v4, r4, e4⟩
          have HE4 : Hid _ := HE.out.stepS r4 e4
          clear r4 e4 d2 cF HE
          have cF := HE4.out.f.c
          have hby := bytes_calls HE4.out.s ⟨bf, 0, none⟩ L cf2 HLL.out (HBF.out.2 _ HE4.out.f) (by rw [HLL.out]; simp only [List.length_append]; omega)
          go_wp2_with fail
          refine hby.mono ?_
          rintro en u5 ⟨rfl, v5, r5, e5⟩
          have HE5 : Hid _ := HE4.out.stepS r5 e5
          clear r5 e5 cF hby HE4
          go_wp2_with fail
          go_roundw
          case rel =>
            refine ⟨i + 1, v5, .slice (some ⟨bf, 0, none⟩) L cf2, encIn g, by omega, by go_num, ?_⟩
            · show E3 _ _ _ _ _ _ _ _ _ _ _ _
              rw [flat_succ HT.out]
              rw [show encFn g = uLeb (encIn g).length ++ encIn g from rfl, HLL.out, ← List.append_assoc]
              exact HE5.out
          case measure => simp [intOf]; omega
    · have hin : i = n1 := by omega
      subst hin
      rw [flat_all HN1.out] at HE hL
      have hib : decide ((i : Int) < (i : Int)) = false := decide_eq_false (by omega)
      have c0 := HL.out.c2 _ HE.out.kp
      rw [HN1.out] at c0
      go_wp2_with fail
      refine (HE.out.section_ 10 i (by decide) (by omega) (fun e => flat_ne (fun x => by unfold encFn; intro h; have := uLeb_pos (encIn x).length; rw [(List.append_eq_nil_iff.1 h).1] at this; simp at this) (by rw [HN1.out]; exact e)) (by have := HLO.out; omega) (by omega)).mono ?_
      rintro en u2 ⟨rfl, vo2, vs2, e2⟩
      have HE2 : Hid (E3 w0 B u2 ob vo2 (lo ++ secTx 10 M (M.funcs.map Fn.ty)) sb vs2 [] fb vf1 lf1) := by
        show E3 _ _ _ _ _ _ _ _ _ _ _ _
        rw [show secTx 10 M (M.funcs.map Fn.ty) = secT 10 M.funcs.length (M.funcs.flatMap encFn) from rfl, HN1.out]
        exact e2
      clear e2 c0 HE hL hib
      go_wp2_with fail
      go_loopw [11] (fun ii u1 => ∃ (i : Nat) (vs1 : Value), i ≤ n2 ∧ ii = .int .i64 i ∧ Hid (E3 w0 B u1 ob vo2 (lo ++ secTx 10 M (M.funcs.map Fn.ty)) sb vs1 ((M.datas.take i).flatMap encDat) fb vf1 lf1)) (fun ii _ => n2 + 1 - (intOf ii).toNat)
      case atStart => exact ⟨0, vs2, by omega, rfl, HE2.out⟩
      case round =>
        clear HE2
        obtain ⟨i, vs1, hi, rfl, HE⟩ := hrel
        have hL : ((M.datas.take i).flatMap encDat).length ≤ 1024 := Nat.le_trans (flat_take_le i) HB2.out
        by_cases hlt : i < n2
        · obtain ⟨g, hg⟩ : ∃ g, M.datas[i]? = some g := ⟨_, List.getElem?_eq_getElem (by rw [HN2.out]; exact hlt)⟩
          obtain ⟨k, rfl, ct⟩ := HL.out.dat i g hg
          have HC : Hid (∀ u, Kp B w0 u → u.cell? ⟨k, i * 4, none⟩ = some (.int .u8 g.off.op) ∧ u.cell? ⟨k, i * 4 + 1, none⟩ = some (.int .u32 g.off.x) ∧ u.cell? ⟨k, i * 4 + 2, none⟩ = some (.int .u64 g.off.y) ∧ u.cell? ⟨k, i * 4 + 3, none⟩ = some (.string g.bytes)) := ct
          have HO : Hid (DatOk g) := HM.out.datas g (List.mem_of_getElem? hg)
          have HT : Hid (M.datas[i]? = some g) := hg
          have hib : (i : Int) < (n2 : Int) := by omega
          have nq := HO.out.n
          have hcl := encCon_len g.off
          have c0 := HL.out.c11 _ HE.out.kp
          rw [HN2.out] at c0
          clear hg ct
          go_wp2_with fail
          refine (HE.out.s.byte (by omega) 0).mono ?_
          rintro en u3 ⟨rfl, v3, r3, e3⟩
          have HE3 : Hid _ := HE.out.stepS r3 e3
          clear r3 e3 HE c0
          have c0 := HL.out.c11 _ HE3.out.kp
          rw [HN2.out] at c0
          obtain ⟨d0, d1, d2, _⟩ := HC.out _ HE3.out.kp
          have hk := konst_calls HE3.out.s g.off HO.out.off (by simp only [List.length_append, List.length_cons, List.length_nil]; omega)
          unfold Ins.val at hk
          go_wp2_with fail
          refine hk.mono ?_
          rintro en u4 ⟨rfl, v4, r4, e4⟩
          have HE4 : Hid _ := HE3.out.stepS r4 e4
          clear r4 e4 HE3 c0 d0 d1 d2 hk
          have c0 := HL.out.c11 _ HE4.out.kp
          rw [HN2.out] at c0
          have d3 := (HC.out _ HE4.out.kp).2.2.2
          go_wp2_with fail
          refine (wraw_calls HE4.out.s g.bytes (by omega) (by simp only [List.length_append, List.length_cons, List.length_nil]; omega)).mono ?_
          rintro en u5 ⟨rfl, v5, r5, e5⟩
          have HE5 : Hid _ := HE4.out.stepS r5 e5
          clear r5 e5 HE4 c0 d3
          go_wp2_with fail
          go_roundw
          case rel =>
            refine ⟨i + 1, v5, by omega, by go_num, ?_⟩
            show E3 _ _ _ _ _ _ _ _ _ _ _ _
            rw [flat_succ HT.out]
            rw [show encDat g = 0 :: (encCon g.off ++ encStr g.bytes) from rfl]
            simpa using HE5.out
          case measure => simp [intOf]; omega
        · have hin : i = n2 := by omega
          subst hin
          rw [flat_all HN2.out] at HE hL
          have hib : decide ((i : Int) < (i : Int)) = false := decide_eq_false (by omega)
          have c0 := HL.out.c11 _ HE.out.kp
          rw [HN2.out] at c0
          go_wp2_with fail
          refine (HE.out.section_ 11 i (by decide) (by omega) (fun e => flat_ne (fun x => by simp [encDat]) (by rw [HN2.out]; exact e)) (by have := HLO.out; simp only [List.length_append]; omega) (by omega)).mono ?_
          rintro en u9 ⟨rfl, vo9, vs9, e9⟩
          have HE9 : Hid _ := e9
          clear e9 c0 HE
          go_wp2_with fail
          refine bodyPost_end (v := .tuple #[]) (by simp [results, Tryz.results69, go_sem]) rfl ?_
          refine ⟨rfl, vo9, vs9, vf1, lf1, ?_⟩
          have e := HE9.out
          unfold tailT
          rw [show secTx 11 M (M.funcs.map Fn.ty) = secT 11 M.datas.length (M.datas.flatMap encDat) from rfl, HN2.out]
          simpa only [List.append_assoc] using e
end
end Go.Proofs.Qxb6500275aGreatDoor
