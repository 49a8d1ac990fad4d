import Derived.Test.Qxb6500275aGreatDoorMe6
import Derived.Test.Qxb6500275aGreatDoorAp2
import Derived.ArgAppend
set_option maxRecDepth 100000
set_option linter.unusedVariables false
set_option linter.unusedSimpArgs false
namespace Go.Proofs.Qxb6500275aGreatDoor
open Go Go.RowKit
/- a list laid over a block -/
theorem blk_lay {b n : Nat} : ∀ (vs : List Value) (o : Nat) (w : World) (D : Nat → Value), Blk w b n D → o + vs.length ≤ n → ∃ D', Blk (w.setCells b o vs) b n D' ∧ (∀ i, i < o → D' i = D i) ∧ (∀ i u, vs[i]? = some u → D' (o + i) = u) ∧ ∀ i, o + vs.length ≤ i → D' i = D i
  | [], o, w, D, h, hk => ⟨D, h, fun _ _ => rfl, fun i u h => by simp at h, fun _ _ => rfl⟩
  | v :: vs, o, w, D, h, hk => by
    simp at hk
    obtain ⟨D', h1, h2, h3, h4⟩ := blk_lay vs (o + 1) (w.setCell ⟨b, o, none⟩ v) (upd D o v) (h.set (by omega) v) (by omega)
    refine ⟨D', h1, fun i hi => ?_, fun i u hu => ?_, fun i hi => ?_⟩
    · rw [h2 i (by omega), upd_ne _ _ (by omega)]
    · cases i with
      | zero => simp at hu; subst hu; rw [Nat.add_zero, h2 o (by omega), upd_same]
      | succ i =>
        have := h3 i u (by simpa using hu)
        rw [show o + (i + 1) = o + 1 + i by omega]; exact this
    · simp at hi
      rw [h4 i (by omega), upd_ne _ _ (by omega)]
/- what an append comes to: the block b' of cap' cells holds the len old ones, then the news -/
structure Ap (W w' : World) (b len cap : Nat) (D : Nat → Value) (news : List Value) (b' cap' : Nat) : Prop where
  kp : Kp (fun k => k = b) W w'
  blk : ∃ D', Blk w' b' cap' D' ∧ (∀ i, i < len → D' i = D i) ∧ ∀ i u, news[i]? = some u → D' (len + i) = u
  capl : len + news.length ≤ cap'
  room : len + news.length ≤ cap → b' = b ∧ cap' = cap
  at_ : b' = b ∨ (W.heap.size ≤ b')
theorem kp_grown {w w' : World} {row : Option Nat} (h : w.grownBy w' row) {P : Nat → Prop} (hr : ∀ k, row = some k → P k) : Kp P w w' :=
  ⟨h.os, h.tape, h.output, h.size, fun k hk hp => h.block k hk (fun e => hp (hr k e.symm))⟩
section
variable {t e ty : TypeId} {i : TypeInfo} {z : Value}
theorem app_law (W : World) (ht : Tryz.prog.underlying t = some (.slice e)) (hi : Tryz.prog.info? e = some i) (hz : i.zero = some z) (hs : i.size = 1) (hzs : z.cells.size = 1) (hby : i.bytes ≤ 16)
    {b len cap : Nat} {D : Nat → Value} (hB : Blk W b cap D) (hlen : len ≤ cap) (a : Addr) (c : Nat) (news : List Value) (hn : ∀ j u, news[j]? = some u → W.cell? (a.add j) = some u) (h1 : ∀ u ∈ news, u.oneCell' = true) (hsm : len + news.length ≤ 1000000) :
    ∃ b' cap' w', (Builtin.append_ #[t, t] ty #[.slice (some ⟨b, 0, none⟩) len cap, .slice (some a) news.length c]).run Tryz.prog W = .ok (.slice (some ⟨b', 0, none⟩) (len + news.length) cap') w' ∧ Ap W w' b len cap D news b' cap' := by
  by_cases hroom : len + news.length ≤ cap
  · have hl := run_append_room_cells (P := Tryz.prog) W t ty e i ht hi b 0 len cap a news.length c news (by rw [hs, Nat.mul_one]) hn h1 hroom (fun j hj => by rw [hs, Nat.mul_one, Nat.zero_add, hB.cell (by omega)]; rfl) (fun j hj => by rw [hs, Nat.mul_one, Nat.zero_add]; exact hB.fz (by omega))
    rw [hs, Nat.mul_one, Nat.zero_add] at hl
    obtain ⟨D', d1, d2, d3, d4⟩ := blk_lay news len W D hB hroom
    exact ⟨b, cap, _, hl, kpS _ _ _ _, ⟨D', d1, d2, d3⟩, hroom, fun _ => ⟨rfl, rfl⟩, .inl rfl⟩
  · obtain ⟨v', w', h2, h3, h4⟩ := run_append_arg_grows (P := Tryz.prog) W t ty e i z 1 i.bytes ht hi hz hs rfl hzs (by decide) ⟨b, 0, none⟩ len cap ((List.range len).map D) (by simp) (fun j u hu => by
      rw [List.getElem?_map] at hu
      by_cases hj : j < len
      · rw [List.getElem?_range hj] at hu
        simp at hu
        rw [add_non, Nat.zero_add, hB.cell (by omega), hu]
      · rw [List.getElem?_eq_none (by simp; omega)] at hu
        simp at hu) a news.length c news (by simp) hn (by omega) (by simp only [maxLen]; omega) (by
        have := Nat.mul_le_mul hsm hby
        omega)
    obtain ⟨hl, hv⟩ := h3
    rcases hv with ⟨_, hv⟩ | ⟨g, cap', cur, hv, hg1, hg2, hg3, hg4, hg5, hg6⟩
    · omega
    · subst hv
      have hlt := (Array.getElem?_eq_some_iff.1 hg2).1
      have hblk : Blk w' g cap' (fun i => cur[i]!) := fun k hk => by
        have hkc : k < cur.size := by omega
        refine ⟨?_, ?_⟩
        · rw [cell_of_row w' g k cur e (0, 0) hg2]
          dsimp only
          rw [getElem!_pos cur k hkc]
          exact Array.getElem?_eq_getElem hkc
        · simp [World.frozen?, hg2]
      have hcur : ∀ k u, ((List.range len).map D ++ news)[k]? = some u → cur[k]! = u := fun k u hu => by
        rw [← hg6, List.getElem?_take] at hu
        split at hu
        · have hu2 : cur[k]? = some u := by simpa using hu
          have := (Array.getElem?_eq_some_iff.1 hu2)
          rw [getElem!_pos cur k this.1]; exact this.2
        · simp at hu
      refine ⟨g, cap', w', h2, kp_grown h4 (fun k hk => by simp at hk), ⟨_, hblk, fun k hk => ?_, fun k u hu => ?_⟩, hg3, fun h => absurd h hroom, .inr hg1⟩
      · refine hcur k (D k) ?_
        rw [List.getElem?_append_left (by simp; exact hk), List.getElem?_map, List.getElem?_range hk]
        rfl
      · refine hcur (len + k) u ?_
        rw [List.getElem?_append_right (by simp)]
        simpa using hu
end
theorem wpList_app {P : Program} {ops : Array Oper} {rest : List Oper} {o : Oper} {a : Act} {Q : Exit → Act → World → Prop} {w w' : World} {v' : Value} (hgd : o.guard = none) (s x : Operand) (t : TypeId)
    (ho : o.op = .call { callee := .builtin .append, args := #[s, x], argTypes := #[t, t] })
    (hr : (Builtin.append_ #[t, t] o.type #[a.eval s, a.eval x]).run P w = .ok v' w') (h : wpList P ops Q rest (a.put o.dst v') w') : wpList P ops Q (o :: rest) a w := by
  refine wpList_plain hgd fun K hK => ?_
  unfold Oper.wp execOp
  simp only [ho, resolve, invoke, builtin, Sem.run_bind, Sem.run_pure, Result.andThen_ok, List.map_toArray, List.map_cons, List.map_nil, hr]
  exact hK _ _ h
theorem u5 : Tryz.prog.underlying 104 = some (.slice 5) := by kernel_rfl
theorem i5 : ∃ i : TypeInfo, Tryz.prog.info? 5 = some i ∧ i.zero = some (.int .u8 0) ∧ i.size = 1 ∧ i.bytes = 1 := by
  have h0 : (Tryz.prog.info? 5).map (fun i => (i.zero, i.size, i.bytes)) = some (some (.int .u8 0), 1, 1) := by kernel_rfl
  cases h : Tryz.prog.info? 5 with
  | none => rw [h] at h0; simp at h0
  | some i =>
    rw [h] at h0
    simp at h0
    exact ⟨i, rfl, h0.1, h0.2.1, h0.2.2⟩
theorem app_u8 (W : World) (ty : TypeId) {b len cap : Nat} {D : Nat → Value} (hB : Blk W b cap D) (hlen : len ≤ cap) (a : Addr) (c : Nat) (news : List Value) (hn : ∀ j u, news[j]? = some u → W.cell? (a.add j) = some u) (h1 : ∀ u ∈ news, u.oneCell' = true) (hsm : len + news.length ≤ 1000000) :
    ∃ b' cap' w', (Builtin.append_ #[104, 104] ty #[.slice (some ⟨b, 0, none⟩) len cap, .slice (some a) news.length c]).run Tryz.prog W = .ok (.slice (some ⟨b', 0, none⟩) (len + news.length) cap') w' ∧ Ap W w' b len cap D news b' cap' := by
  obtain ⟨i, h2, h3, h4, h5⟩ := i5
  exact app_law W u5 h2 h3 h4 rfl (by omega) hB hlen a c news hn h1 hsm
/- one append, then another -/
theorem Ap.then {w w1 W1 w2 : World} {b len cap b1 cap1 b2 cap2 : Nat} {D D1 : Nat → Value} {n1 n2 : List Value} (hb : b < w.heap.size) (h1 : Ap w w1 b len cap D n1 b1 cap1) (hk : Kp (fun _ => False) w1 W1) (hD : ∀ i, i < len → D1 i = D i) (hD2 : ∀ i u, n1[i]? = some u → D1 (len + i) = u)
    (h2 : Ap W1 w2 b1 (len + n1.length) cap1 D1 n2 b2 cap2) : Ap w w2 b len cap D (n1 ++ n2) b2 cap2 := by
  have hs := hk.size
  have hs1 := h1.kp.size
  refine ⟨⟨h2.kp.os.trans (hk.os.trans h1.kp.os), h2.kp.tape.trans (hk.tape.trans h1.kp.tape), h2.kp.output.trans (hk.output.trans h1.kp.output), Nat.le_trans hs1 (Nat.le_trans hs h2.kp.size), fun k hk1 hne => ?_⟩, ?_, ?_, fun hr => ?_, ?_⟩
  · rw [h2.kp.block k (by omega) (fun e => by
      rcases h1.at_ with h | h
      · exact hne (e.trans h)
      · omega), hk.block k (by omega) (fun h => h), h1.kp.block k hk1 hne]
  · obtain ⟨D', d1, d2, d3⟩ := h2.blk
    refine ⟨D', d1, fun i hi => (d2 i (by omega)).trans (hD i hi), fun i u hu => ?_⟩
    by_cases e : i < n1.length
    · rw [List.getElem?_append_left e] at hu
      rw [d2 _ (by omega)]
      exact hD2 i u hu
    · rw [List.getElem?_append_right (by omega)] at hu
      have := d3 _ u hu
      rw [show len + n1.length + (i - n1.length) = len + i by omega] at this
      exact this
  · have := h2.capl
    rw [List.length_append]; omega
  · rw [List.length_append] at hr
    obtain ⟨e1, e2⟩ := h1.room (by omega)
    obtain ⟨e3, e4⟩ := h2.room (by omega)
    exact ⟨e3.trans e1, e4.trans e2⟩
  · rcases h2.at_ with h | h
    · rcases h1.at_ with h' | h'
      · exact .inl (h.trans h')
      · exact .inr (by omega)
    · exact .inr (by omega)
theorem Ap.refl {w : World} {b len cap : Nat} {D : Nat → Value} (hB : Blk w b cap D) (hl : len ≤ cap) : Ap w w b len cap D [] b cap :=
  ⟨Kp.refl _ _, ⟨D, hB, fun _ _ => rfl, fun i u h => by simp at h⟩, by simpa using hl, fun _ => ⟨rfl, rfl⟩, .inl rfl⟩
/- the digits, as cells -/
def hexC (v : Int) (n : Nat) : List Value := (hexL v.toNat n).map (fun c => Value.int .u8 (c.toNat : Int))
theorem hexC_len (v : Int) (n : Nat) : (hexC v n).length = n := by unfold hexC; rw [List.length_map, hexL_length]
theorem hexC_snoc (v : Nat) (t : Nat) (ht : t < 16) : hexC ((v / 16 ^ (15 - t) : Nat) : Int) (t + 1) = hexC ((v / 16 ^ (16 - t) : Nat) : Int) t ++ [.int .u8 ((hexD (v / 16 ^ (15 - t) % 16)).toNat : Int)] := by
  unfold hexC
  rw [Int.toNat_natCast, Int.toNat_natCast, hexL, List.map_append]
  have : v / 16 ^ (15 - t) / 16 = v / 16 ^ (16 - t) := by
    rw [Nat.div_div_eq_div_mul, ← Nat.pow_succ, show (15 - t).succ = 16 - t by omega]
  rw [this]
  rfl
end Go.Proofs.Qxb6500275aGreatDoor
