import Derived.Test.Qxb6500275aGreatDoorBb1
import Derived.Deep.RegionLaw
set_option maxRecDepth 100000
set_option linter.unusedVariables false
set_option linter.unusedSimpArgs false
namespace Go.Proofs.Qxb6500275aGreatDoor
open Go Go.RowKit
def OneEnd (A : Act) (W' : World) : Exit → Act → World → Prop
  | .normal, a, w => a = A ∧ w = W'
  | _, _, _ => False
/- a region that comes to one end, whatever the order -/
theorem region_one {P : Program} {c : Code} {QQ : Exit → Act → World → Prop} {a : Act} {w : World} (A : Act) (W' : World) (walk : c.wp P (OneEnd A W') a w) (key : QQ .normal A W') : c.wp P QQ a w :=
  Code.wp_mono (fun e a' w' h => by cases e <;> first | (obtain ⟨h1, h2⟩ := (h : a' = A ∧ w' = W'); subst h1 h2; exact key) | exact (h : False).elim) walk
/- append, by what it comes to, as one step of a region that draws -/
theorem step_apq {P : Program} {ops : Array Oper} {o : Oper} {a : Act} {w w' : World} {K : Act → World → Prop} {Q : Exit → Act → World → Prop} {E : Prop} {v' : Value}
    (hg : o.guard = none) (s x : Operand) (t : TypeId) (hop : o.op = Op.call { callee := Callee.builtin Builtin.append, args := #[s, x], argTypes := #[t, t] })
    (hr : (Builtin.append_ #[t, t] o.type #[a.eval s, a.eval x]).run P w = .ok v' w') (hK : K (a.put o.dst v') w') :
    if Region.wanted o (yielded ops a.tmps) = true then Oper.wp P o a w K Q else E := by
  have hw : Region.wanted o (yielded ops a.tmps) = true := by simp [Region.wanted, hg]
  rw [if_pos hw]
  unfold Oper.wp execOp
  simp only [hop, resolve, invoke, builtin, Sem.run_bind, Sem.run_pure, Result.andThen_ok, List.map_toArray, List.map_cons, List.map_nil, hr]
  exact hK
section
variable {w w' : World} {b : Nat} {s : ByteArray} {p e : Nat} {er : Int} {a : Nat} {fb : Nat} {f : Fn} {vb vt : Value}
set_option maxHeartbeats 8000000 in
theorem body_m (h : Rc w b s p e er a) (hF : Fb w fb f vb vt) (hbf : ¬ FbB fb vb vt b) (h0 : f.body = [] ∧ f.tabs = []) : Calls Tryz.prog 243 #[.pointer (some ⟨b, 0, none⟩), .pointer (some ⟨fb, 0, none⟩)] w (Bd (bodyQ s e (e - p + 1) p [] [] []) b s e er a fb f vb vt w) := by
  obtain ⟨X, hX⟩ : ∃ X, bodyQ s e (e - p + 1) p [] [] [] = X := ⟨_, rfl⟩
  rw [hX]
  have HX : Hid _ := hX
  have HR : Hid _ := h
  have HB0 : Hid (Bs1 w w b s e fb f vb vt [] [] vb vt) := by
    refine ⟨?_, fun k hk => .inl hk, fun k hk => .inl hk, fun k hk e => hbf (by rw [← e]; exact hk), Kp.refl _ _⟩
    have e : ({ f with body := [], tabs := [] } : Fn) = f := by
      cases f
      obtain ⟨h1, h2⟩ := h0
      dsimp only at h1 h2
      subst h1 h2
      rfl
    rw [e]
    exact hF
  have hle := h.le
  have hes := h.es
  have hsz := h.sz
  clear h hX hF hbf h0
  go_enter Tryz.func243, Tryz.ntmps243
  go_wp2
  go_loopw [4] (fun tt w1 => ∃ (q1 a1 : Nat) (er1 : Int) (opn : List Nat) (ins : List Ins) (t : List Int) (vb1 vt1 : Value), opn.length ≤ 6 ∧ tt = .string (opnT opn) ∧ Rc w1 b s q1 e er1 a1 ∧ Bs1 w w1 b s e fb f vb vt ins t vb1 vt1 ∧ ins.length ≤ 96 ∧ t.length ≤ 24 ∧ Hid (∀ v2 q2 er2 a2, Cu (bodyQ s e (e - q1 + 1) q1 opn ins t) er1 a1 v2 q2 er2 a2 → Cu X er a v2 q2 er2 a2)) (fun _ w1 => e - posOf w1 b)
  case atStart => exact ⟨p, a, er, [], [], [], vb, vt, by simp, rfl, HR.out, HB0.out, by simp, by simp, fun v2 q2 er2 a2 hc => by rw [← HX.out]; exact hc⟩
  case round =>
    obtain ⟨q1, a1, er1, opn, ins, t, vb1, vt1, hopn, rfl, hR1, hB1, hil, htl, hZ1⟩ := hrel
    have c3 := hR1.c3
    have c1 := hR1.c1
    have hq1 : q1 ≤ 1024 := by have := hR1.le; have := hR1.es; have := hR1.sz; omega
    have hbl : b < wr.heap.size := lt_of_cell hR1.c0
    have HR1 : Hid _ := hR1
    have HB1 : Hid _ := hB1
    have hpos : Hid (posOf wr b = q1) := posOf_rc hR1
    clear HX HR HB0
    by_cases he1 : er1 = 0
    · subst he1
      have HI := ins_m hR1 hB1.fb_ (fun h => hB1.ne b h rfl) htl
      clear hR1 hB1
      go_wp2_with fail
      refine HI.mono ?_
      rintro en w2 ⟨x, t2, q2, er2, a2, vt2, rfl, hR2, hF2, hK2, hO2, htl2, hC2⟩
      have hB2 := HB1.out.read hbl hF2 hK2 hO2
      have HLT2 : Hid (∀ k, FbB fb vb1 vt2 k → k < w2.heap.size) := fun k hk => hF2.lt hk
      have hlt2 : b < w2.heap.size := lt_of_cell hR2.c0
      obtain ⟨W, hW⟩ : ∃ W, w2.alloc (.cells #[.int .u8 (x.op : Int), .int .u32 x.x, .int .u64 x.y] 129) = W := ⟨_, rfl⟩
      have hKW : Kp (fun _ => False) w2 W := by rw [← hW]; exact (Kp.refl _ _).alloc _
      have hRW := hR2.keep hKW (fun h => h)
      have hBW := hB2.new hKW
      have H6 : C3 W w2.heap.size (.int .u8 (x.op : Int)) (.int .u32 x.x) (.int .u64 x.y) := by rw [← hW]; exact C3.new w2 _ _ _ _
      have d3 := hRW.c3
      have HRW : Hid _ := hRW
      have HBW : Hid _ := hBW
      have H6' : Hid _ := H6
      clear hR2 hF2 hK2 hO2 hB2 hRW hKW c3 c1 HI
      unfold Ins.val
      by_cases he2 : er2 = 0
      · subst he2
        obtain ⟨nb, hnb⟩ : ∃ nb, ins.length = nb := ⟨_, rfl⟩
        have hbo := hBW.fb_.bo
        dsimp only at hbo
        rw [hnb] at hbo hil
        obtain ⟨ba, bc, hvb⟩ := hbo.slice
        have d2 := hBW.fb_.c2
        rw [hvb] at d2
        have HGood : Hid (insT s q1 e t = .ok ((x, t2), q2)) := hC2.out.le rfl
        have hg := insT_ok HGood.out htl
        have HG : Hid (q1 < q2 ∧ t2.length ≤ 24) := ⟨hg.1, hg.2.1⟩
        have hop := hg.2.2
        have hq1e : q1 < e := by have := HRW.out.le; omega
        have HZ2 : Hid (∀ v2 q3 er3 a3, Cu (mapE swapB (contL s e (e - q1) q1 x.op opn ins (x, q2, t2))) 0 a2 v2 q3 er3 a3 → Cu X er a v2 q3 er3 a3) := fun v2 q3 er3 a3 hc => hZ1.out _ _ _ _ (by
          rw [bodyQ_succ]
          exact hC2.out.trans hc)
        have HNB : Hid _ := hnb
        have HVB : Hid (vb1 = .slice ba nb bc) := hvb
        clear hbo hnb hvb hZ1 hC2 hg hBW htl
        by_cases h96 : 96 ≤ nb
        · have h96i : (96 : Int) ≤ (nb : Int) := by omega
          have HF := fail_m HRW.out 7 q1 hq1
          have HC : Hid (∀ er3 a3, Flq 0 a2 7 q1 er3 a3 → Cu X er a (ins, t2) q2 er3 a3) := fun er3 a3 hf => HZ2.out _ _ _ _ (by
            unfold contL
            rw [if_pos (by rw [HNB.out]; exact h96)]
            exact Cu.fail _ _ hf (by decide))
          clear H6 HZ2
          go_wp2_with fail
          clear hW
          refine HF.mono ?_
          rintro en w6 ⟨er6, a6, rfl, hR6, hK6, hF6⟩
          have hB6 := HBW.out.cur hK6
          go_wp2
          refine bodyPost_ret (results_none rfl _ _ _) rfl ?_
          exact ⟨ins, t2, q2, er6, a6, vb1, vt2, rfl, hR6, hB6.fb_, hB6.kp, hB6.ob, hB6.ot, by have := HNB.out; omega, by have := HG.out.2; omega, HC.out _ _ hF6.out⟩
        · have h96i : ¬ (96 : Int) ≤ (nb : Int) := by omega
          go_wp2_with fail
          clear hW
          have hD : Kp (fun _ => False) W W.drew := (Kp.refl _ _).drew
          have hBD := HBW.out.new hD
          obtain ⟨v', w6, r1, ⟨r2, r3⟩, ⟨ra, rn, rc, hvo⟩, r5, r6, r7⟩ := hBD.fb_.pushB (by have := HNB.out; show ins.length ≤ 1000; omega) x
          rw [HVB.out] at r1 r2
          subst hvo
          obtain ⟨n6, hn6⟩ : ∃ n, w2.heap.size = n := ⟨_, rfl⟩
          rw [hn6] at H6 H6' HLT2 ⊢
          obtain ⟨U, hU⟩ : ∃ U, W.drew.alloc (.cells #[.int .u8 (x.op : Int), .int .u32 x.x, .int .u64 x.y] 129) = U := ⟨_, rfl⟩
          have hKU : Kp (fun _ => False) W U := by rw [← hU]; exact hD.alloc _
          have d2U : U.cell? ⟨fb, 2, none⟩ = some (.slice ba nb bc) := by rw [hKU.cell (p := ⟨fb, 2, none⟩) (HBW.out.fb_.lt (.inl rfl)) (fun h => h)]; exact d2
          have H6U := H6.keep hKU (fun h => h)
          have H6D := H6.keep hD (fun h => h)
          have hn6f : ¬ FbB fb vb1 vt2 n6 := fun h => by have := HLT2.out n6 h; omega
          have hUU : (W.alloc (.cells #[.int .u8 (x.op : Int), .int .u32 x.x, .int .u64 x.y] 129)).drew = U := by rw [← hU]; rfl
          rw [hU] at r1
          have HF6 : Hid _ := r5
          have HK6 : Hid _ := r6
          have HO6 : Hid (OwnO W.drew vb1 (.slice ra rn rc)) := r7
          have HSx : Hid (∀ u, C3 u n6 (.int .u8 (x.op : Int)) (.int .u32 x.x) (.int .u64 x.y) → (u.cell? ⟨n6, 0, none⟩ = some (.int .u8 (x.op : Int)) ∧ u.cell? ⟨n6, 1, none⟩ = some (.int .u32 x.x) ∧ u.cell? ⟨n6, 2, none⟩ = some (.int .u64 x.y))) := fun u h => ⟨h.c0, h.c1, h.c2⟩
          have HR1 : Hid _ := r1
          clear r5 r6 r7 hBD hn6 hKU hD r1
          clear hU
          obtain ⟨x0, x1, x2, v0, v1, v2⟩ := H6
          obtain ⟨y0, y1, y2, z0, z1, z2⟩ := H6U
          apply region_one
          case walk =>
            go_region_law (refine step_apq rfl _ _ 102 rfl HR1.out ?_)
            all_goals exact ⟨rfl, rfl⟩
          case key =>
            skip
            have hk7 : Kp (FbB fb vb1 vt2) W.drew (w6.setCell ⟨fb, 2, none⟩ (.slice ra rn rc)) := HK6.out
            obtain ⟨w7, hw7⟩ : ∃ w7, w6.setCell ⟨fb, 2, none⟩ (.slice ra rn rc) = w7 := ⟨_, rfl⟩
            rw [hw7] at hk7 HF6 ⊢
            have hneb : ¬ FbB fb vb1 vt2 b := fun h => HBW.out.ne b h rfl
            have hRD : Rc W.drew b s q2 e 0 a2 := HRW.out.drew
            have HR7 : Hid (Rc w7 b s q2 e 0 a2) := hRD.keep hk7 hneb
            have HB7 : Hid (Bs1 w w7 b s e fb f vb vt (ins ++ [x]) t2 (.slice ra rn rc) vt2) := (HBW.out.new ((Kp.refl _ _).drew)).lay (lt_of_cell hRD.c0) HF6.out hk7 HO6.out
            have H67 : C3 w7 n6 (.int .u8 (x.op : Int)) (.int .u32 x.x) (.int .u64 x.y) := H6D.keep hk7 hn6f
            have HL7 : Hid ((ins ++ [x]).length ≤ 96) := by show (ins ++ [x]).length ≤ 96; rw [List.length_append, HNB.out]; simp; omega
            have HMs : Hid (e - posOf w7 b < e - posOf wr b) := by show _ < _; rw [hpos.out, posOf_rc HR7.out]; have := HG.out.1; omega
            have HFU : Hid (∀ opn' ins', bodyL s e (e - q1) q2 opn' ins' t2 = bodyL s e (e - q2 + 1) q2 opn' ins' t2) := fun opn' ins' => bodyL_fuel hq1e (by have := HG.out.1; omega) opn' ins' t2
            have HF11 := fail_m HR7.out 11 q1 hq1
            have hsz6 := opnT_size opn
            obtain ⟨g0, g1, g2, k0, k1, k2⟩ := H67
            clear hw7 hk7 hneb hRD x0 x1 x2 v0 v1 v2 y0 y1 y2 z0 z1 z2 r2 r3 d2 d2U d3 H6D HF6 HK6 HO6 hUU HR1
            have h96n : ¬ 96 ≤ ins.length := by rw [HNB.out]; exact h96
            have HC0 : Hid (∀ o, x.op = o → contL s e (e - q1) q1 x.op opn ins (x, q2, t2) = if o = 2 ∨ o = 3 ∨ o = 4 then (if 6 ≤ opn.length then .error (11, q1) else bodyL s e (e - q1) q2 (opn ++ [o]) (ins ++ [x]) t2) else if o = 5 then (if opn.getLast? = some 4 then bodyL s e (e - q1) q2 (opn.dropLast ++ [5]) (ins ++ [x]) t2 else .error (11, q1)) else if o = 11 then (if opn = [] then .ok (ins ++ [x], t2, q2) else bodyL s e (e - q1) q2 opn.dropLast (ins ++ [x]) t2) else bodyL s e (e - q1) q2 opn (ins ++ [x]) t2) := fun o ho => by
              subst ho
              unfold contL
              rw [if_neg h96n]
            clear h96n
            obtain ⟨op, hopx⟩ : ∃ op, x.op = op := ⟨_, rfl⟩
            rw [hopx] at g0 hop ⊢
            have HCo : Hid _ := HC0.out op hopx
            clear HC0
            have HOP : Hid _ := hopx
            clear hopx
            have HSZ : Hid _ := hsz6
            clear hsz6
            by_cases o2 : op = 2
            · subst o2
              by_cases h6 : 6 ≤ opn.length
              · have h6i : (6 : Int) ≤ ((opnT opn).size : Int) := by rw [HSZ.out]; omega
                go_wp2_with fail
                refine HF11.mono ?_
                rintro en w8 ⟨er6, a6, rfl, hR8, hK8, hF8⟩
                have hB8 := HB7.out.cur hK8
                go_wp2
                refine bodyPost_ret (results_none rfl _ _ _) rfl ?_
                exact ⟨ins ++ [x], t2, q2, er6, a6, .slice ra rn rc, vt2, rfl, hR8, hB8.fb_, hB8.kp, hB8.ob, hB8.ot, by have := HL7.out; omega, by have := HG.out.2; omega, HZ2.out _ _ _ _ (by rw [HCo.out, if_pos (by decide), if_pos h6]; exact Cu.fail _ _ hF8.out (by decide))⟩
              · have h6i : ¬ (6 : Int) ≤ ((opnT opn).size : Int) := by rw [HSZ.out]; omega
                have hsl : ¬ 9223372036854775807 < (opnT opn).size + 1 := by rw [HSZ.out]; omega
                go_wp2
                exact ⟨⟨q2, a2, 0, opn ++ [2], ins ++ [x], t2, .slice ra rn rc, vt2, (by rw [List.length_append]; simp; omega), (by rw [opnT_app]; rfl), HR7.out, HB7.out, HL7.out, HG.out.2, fun v2 q3 er3 a3 hc => HZ2.out _ _ _ _ (by rw [HCo.out, if_pos (by decide), if_neg h6, HFU.out]; exact hc)⟩, HMs.out⟩
            by_cases o3 : op = 3
            · subst o3
              by_cases h6 : 6 ≤ opn.length
              · have h6i : (6 : Int) ≤ ((opnT opn).size : Int) := by rw [HSZ.out]; omega
                go_wp2_with fail
                refine HF11.mono ?_
                rintro en w8 ⟨er6, a6, rfl, hR8, hK8, hF8⟩
                have hB8 := HB7.out.cur hK8
                go_wp2
                refine bodyPost_ret (results_none rfl _ _ _) rfl ?_
                exact ⟨ins ++ [x], t2, q2, er6, a6, .slice ra rn rc, vt2, rfl, hR8, hB8.fb_, hB8.kp, hB8.ob, hB8.ot, by have := HL7.out; omega, by have := HG.out.2; omega, HZ2.out _ _ _ _ (by rw [HCo.out, if_pos (by decide), if_pos h6]; exact Cu.fail _ _ hF8.out (by decide))⟩
              · have h6i : ¬ (6 : Int) ≤ ((opnT opn).size : Int) := by rw [HSZ.out]; omega
                have hsl : ¬ 9223372036854775807 < (opnT opn).size + 1 := by rw [HSZ.out]; omega
                go_wp2
                exact ⟨⟨q2, a2, 0, opn ++ [3], ins ++ [x], t2, .slice ra rn rc, vt2, (by rw [List.length_append]; simp; omega), (by rw [opnT_app]; rfl), HR7.out, HB7.out, HL7.out, HG.out.2, fun v2 q3 er3 a3 hc => HZ2.out _ _ _ _ (by rw [HCo.out, if_pos (by decide), if_neg h6, HFU.out]; exact hc)⟩, HMs.out⟩
            by_cases o4 : op = 4
            · subst o4
              by_cases h6 : 6 ≤ opn.length
              · have h6i : (6 : Int) ≤ ((opnT opn).size : Int) := by rw [HSZ.out]; omega
                go_wp2_with fail
                refine HF11.mono ?_
                rintro en w8 ⟨er6, a6, rfl, hR8, hK8, hF8⟩
                have hB8 := HB7.out.cur hK8
                go_wp2
                refine bodyPost_ret (results_none rfl _ _ _) rfl ?_
                exact ⟨ins ++ [x], t2, q2, er6, a6, .slice ra rn rc, vt2, rfl, hR8, hB8.fb_, hB8.kp, hB8.ob, hB8.ot, by have := HL7.out; omega, by have := HG.out.2; omega, HZ2.out _ _ _ _ (by rw [HCo.out, if_pos (by decide), if_pos h6]; exact Cu.fail _ _ hF8.out (by decide))⟩
              · have h6i : ¬ (6 : Int) ≤ ((opnT opn).size : Int) := by rw [HSZ.out]; omega
                have hsl : ¬ 9223372036854775807 < (opnT opn).size + 1 := by rw [HSZ.out]; omega
                go_wp2
                exact ⟨⟨q2, a2, 0, opn ++ [4], ins ++ [x], t2, .slice ra rn rc, vt2, (by rw [List.length_append]; simp; omega), (by rw [opnT_app]; rfl), HR7.out, HB7.out, HL7.out, HG.out.2, fun v2 q3 er3 a3 hc => HZ2.out _ _ _ _ (by rw [HCo.out, if_pos (by decide), if_neg h6, HFU.out]; exact hc)⟩, HMs.out⟩
            have q2' : ((op : Int) == 2) = false := by rw [beq_eq_false_iff_ne]; omega
            have q3' : ((op : Int) == 3) = false := by rw [beq_eq_false_iff_ne]; omega
            have q4' : ((op : Int) == 4) = false := by rw [beq_eq_false_iff_ne]; omega
            have n234 : ¬ (op = 2 ∨ op = 3 ∨ op = 4) := by omega
            by_cases o5 : op = 5
            · subst o5
              by_cases hnil : opn = []
              · have hz : ((opnT opn).size : Int) = 0 := by rw [HSZ.out, hnil]; rfl
                have hgl : ¬ opn.getLast? = some 4 := by rw [hnil]; simp
                go_wp2_with fail
                refine HF11.mono ?_
                rintro en w8 ⟨er6, a6, rfl, hR8, hK8, hF8⟩
                have hB8 := HB7.out.cur hK8
                go_wp2
                refine bodyPost_ret (results_none rfl _ _ _) rfl ?_
                exact ⟨ins ++ [x], t2, q2, er6, a6, .slice ra rn rc, vt2, rfl, hR8, hB8.fb_, hB8.kp, hB8.ob, hB8.ot, by have := HL7.out; omega, by have := HG.out.2; omega, HZ2.out _ _ _ _ (by rw [HCo.out, if_neg (by decide), if_pos (by trivial), if_neg hgl]; exact Cu.fail _ _ hF8.out (by decide))⟩
              · have hpos2 := List.length_pos_iff.2 hnil
                obtain ⟨m, hm⟩ : ∃ m, (opnT opn).size - 1 = m := ⟨_, rfl⟩
                have hml : m < (opnT opn).size := by rw [← hm, HSZ.out]; omega
                have hmi : ((opnT opn).size : Int) - 1 = (m : Int) := by omega
                have hmb : m ≤ 1000 := by have := HSZ.out; omega
                have hmbi : (m : Int) ≤ 1000 := by omega
                have hz : (((opnT opn).size : Int) == 0) = false := by rw [beq_eq_false_iff_ne]; omega
                have hla := opnT_last hnil (by omega)
                have HLA : Hid (((opnT opn)[m].toNat = 105 ↔ opn.getLast? = some 4) ∧ ((opnT opn)[m].toNat = 105 ∨ (opnT opn)[m].toNat = 98)) := by
                  subst hm
                  exact hla
                have HDR : Hid ((opnT opn).extract 0 m = opnT opn.dropLast) := by rw [opnT_drop, hm]; exact rfl
                clear hla hm
                by_cases hgl : opn.getLast? = some 4
                · have h105 : ((opnT opn)[m].toNat : Int) = 105 := by have := HLA.out.1.2 hgl; omega
                  have hsl : ¬ 9223372036854775807 < m + 1 := by have := HSZ.out; omega
                  go_wp2
                  exact ⟨⟨q2, a2, 0, opn.dropLast ++ [5], ins ++ [x], t2, .slice ra rn rc, vt2, (by rw [List.length_append, List.length_dropLast]; simp; omega), (by rw [opnT_app, ← HDR.out]; rfl), HR7.out, HB7.out, HL7.out, HG.out.2, fun v2 q3 er3 a3 hc => HZ2.out _ _ _ _ (by rw [HCo.out, if_neg (by decide), if_pos (by trivial), if_pos hgl, HFU.out]; exact hc)⟩, HMs.out⟩
                · have h105 : (((opnT opn)[m].toNat : Int) == 105) = false := by rw [beq_eq_false_iff_ne]; intro h; exact hgl (HLA.out.1.1 (by omega))
                  have h105b : (((opnT opn)[m].toNat : Int) != 105) = true := by simp only [bne, h105]; rfl
                  go_wp2_with fail
                  refine HF11.mono ?_
                  rintro en w8 ⟨er6, a6, rfl, hR8, hK8, hF8⟩
                  have hB8 := HB7.out.cur hK8
                  go_wp2
                  refine bodyPost_ret (results_none rfl _ _ _) rfl ?_
                  exact ⟨ins ++ [x], t2, q2, er6, a6, .slice ra rn rc, vt2, rfl, hR8, hB8.fb_, hB8.kp, hB8.ob, hB8.ot, by have := HL7.out; omega, by have := HG.out.2; omega, HZ2.out _ _ _ _ (by rw [HCo.out, if_neg (by decide), if_pos (by trivial), if_neg hgl]; exact Cu.fail _ _ hF8.out (by decide))⟩
            have q5' : ((op : Int) == 5) = false := by rw [beq_eq_false_iff_ne]; omega
            by_cases o11 : op = 11
            · subst o11
              by_cases hnil : opn = []
              · have hz : ((opnT opn).size : Int) = 0 := by rw [HSZ.out, hnil]; rfl
                go_wp2
                refine bodyPost_ret (results_none rfl _ _ _) rfl ?_
                exact ⟨ins ++ [x], t2, q2, 0, a2, .slice ra rn rc, vt2, rfl, HR7.out, HB7.out.fb_, HB7.out.kp, HB7.out.ob, HB7.out.ot, by have := HL7.out; omega, by have := HG.out.2; omega, HZ2.out _ _ _ _ (by rw [HCo.out, if_neg (by decide), if_neg (by decide), if_pos (by trivial), if_pos hnil]; exact Cu.pure _ _)⟩
              · have hpos2 := List.length_pos_iff.2 hnil
                obtain ⟨m, hm⟩ : ∃ m, (opnT opn).size - 1 = m := ⟨_, rfl⟩
                have hml : m < (opnT opn).size := by rw [← hm, HSZ.out]; omega
                have hmi : ((opnT opn).size : Int) - 1 = (m : Int) := by omega
                have hmb : m ≤ 1000 := by have := HSZ.out; omega
                have hmbi : (m : Int) ≤ 1000 := by omega
                have hz : (((opnT opn).size : Int) == 0) = false := by rw [beq_eq_false_iff_ne]; omega
                have HDR : Hid ((opnT opn).extract 0 m = opnT opn.dropLast) := by rw [opnT_drop, hm]; exact rfl
                clear hm
                go_wp2
                exact ⟨⟨q2, a2, 0, opn.dropLast, ins ++ [x], t2, .slice ra rn rc, vt2, (by rw [List.length_dropLast]; omega), (by rw [← HDR.out]), HR7.out, HB7.out, HL7.out, HG.out.2, fun v2 q3 er3 a3 hc => HZ2.out _ _ _ _ (by rw [HCo.out, if_neg (by decide), if_neg (by decide), if_pos (by trivial), if_neg hnil, HFU.out]; exact hc)⟩, HMs.out⟩
            have q11' : ((op : Int) == 11) = false := by rw [beq_eq_false_iff_ne]; omega
            go_wp2
            exact ⟨⟨q2, a2, 0, opn, ins ++ [x], t2, .slice ra rn rc, vt2, hopn, rfl, HR7.out, HB7.out, HL7.out, HG.out.2, fun v2 q3 er3 a3 hc => HZ2.out _ _ _ _ (by rw [HCo.out, if_neg n234, if_neg o5, if_neg o11, HFU.out]; exact hc)⟩, HMs.out⟩
      · have heb : (er2 == 0) = false := by rw [beq_eq_false_iff_ne]; exact he2
        have HC : Hid (Cu X er a (ins, t2) q2 er2 a2) := hZ1.out _ _ _ _ (by
          rw [bodyQ_succ]
          exact hC2.out.trans (Cu.stay _ _ he2))
        clear hZ1 hC2 H6 hBW
        go_wp2
        refine bodyPost_ret (results_none rfl _ _ _) rfl ?_
        exact ⟨ins, t2, q2, er2, a2, vb1, vt2, rfl, HRW.out, HBW.out.fb_, HBW.out.kp, HBW.out.ob, HBW.out.ot, by omega, htl2, HC.out⟩
    · have heb : (er1 == 0) = false := by rw [beq_eq_false_iff_ne]; exact he1
      have HC : Hid (Cu X er a (ins, t) q1 er1 a1) := hZ1.out _ _ _ _ (Cu.stay _ _ he1)
      clear hZ1 hR1 hB1
      go_wp2
      refine bodyPost_end (results_none rfl _ _ _) rfl ?_
      exact ⟨ins, t, q1, er1, a1, vb1, vt1, rfl, HR1.out, HB1.out.fb_, HB1.out.kp, HB1.out.ob, HB1.out.ot, by omega, by omega, HC.out⟩
end
end Go.Proofs.Qxb6500275aGreatDoor
