import Derived.Test.Qxb6500274aGreatWSxOps3
set_option linter.unusedSimpArgs false
namespace Go.Sx
open Go Go.RowKit

section
variable {P : Program} {E : Env} {cf : CallF} {f ρ : Operand → Value} {s : St} {L : List (Value × St)} {n0 : Base} {w0 w : World} {K : Kx}
  {dst : Option Tmp} {type : TypeId} {pos : String} {after : Array Edge} {guard : Option (Nat × Bool)}

/- a block that gets a new number -/
theorem Rep.moved (h : Rep n0 w0 K s w) {b : Nat} {x x' : Blk} {o : Obj} (tot es : Nat) (hx : find b s.heap = some x)
    (ho : BlkRep (K.grow (K.bl b) tot es) s.next x' (some o)) :
    Rep n0 w0 (K.grow (K.bl b) tot es) ((s.kill b).new x') { w with heap := w.heap.setIfInBounds (K.bl b) o } := by
  obtain ⟨hb, hlo, hhi, _⟩ := h.live b x hx
  have hle := Kx.le_grow K (K.bl b) tot es
  have hnew : (K.grow (K.bl b) tot es).bl s.next = K.bl b := by simp [Kx.grow, h.nx]
  refine ⟨⟨h.below.os, h.below.tape, h.below.output, by simpa using h.below.size, fun k hk => ?_⟩, by simpa using h.hn, by simp [Kx.grow, St.new, St.kill, h.nx], ?_, ?_, fun t b ht => (h.facts t b ht).mono hle.sy hle.pf, fun t v ht => ⟨(h.vals t v ht).1.mono hle.sy hle.pf, (h.vals t v ht).2⟩, fun i k n hi => h.syr i k n (hle.sy ▸ hi), hle.pf.trans h.pfq⟩
  · have hne : K.bl b ≠ k := by omega
    simp only [Array.getElem?_setIfInBounds_ne hne]
    exact h.below.block k hk
  · intro c y hy
    rw [find_new, show (s.kill b).next = s.next from rfl] at hy
    by_cases e : s.next = c
    · subst e
      simp at hy
      subst hy
      rw [hnew]
      refine ⟨by simp [Kx.grow, h.nx], hlo, by simpa using hhi, ?_⟩
      simpa [Array.getElem?_setIfInBounds, hhi] using ho
    · rw [if_neg e, find_kill] at hy
      by_cases e' : c = b
      · simp [e'] at hy
      · rw [if_neg e'] at hy
        obtain ⟨h1, h2, h3, h4⟩ := h.live c y hy
        rw [hle.bl c h1]
        refine ⟨Nat.lt_succ_of_lt h1, h2, by simpa using h3, ?_⟩
        have hne : K.bl b ≠ K.bl c := fun he => e' (h.inj b c x y hx hy he).symm
        simp only [Array.getElem?_setIfInBounds_ne hne]
        exact h4.mono hle h1
  · intro c c' y y' hy hy' hbl
    rw [find_new, show (s.kill b).next = s.next from rfl] at hy hy'
    by_cases e : s.next = c
    · by_cases e' : s.next = c'
      · rw [← e, ← e']
      · rw [if_neg e', find_kill] at hy'
        by_cases e2 : c' = b
        · simp [e2] at hy'
        · rw [if_neg e2] at hy'
          obtain ⟨h1, _, _, _⟩ := h.live c' y' hy'
          subst e
          rw [hnew, hle.bl c' h1] at hbl
          exact absurd (h.inj b c' x y' hx hy' hbl).symm e2
    · rw [if_neg e, find_kill] at hy
      by_cases e2 : c = b
      · simp [e2] at hy
      · rw [if_neg e2] at hy
        obtain ⟨h1, _, _, _⟩ := h.live c y hy
        by_cases e' : s.next = c'
        · subst e'
          rw [hnew, hle.bl c h1] at hbl
          exact absurd (h.inj c b y x hy hx hbl) e2
        · rw [if_neg e', find_kill] at hy'
          by_cases e3 : c' = b
          · simp [e3] at hy'
          · rw [if_neg e3] at hy'
            obtain ⟨h1', _, _, _⟩ := h.live c' y' hy'
            rw [hle.bl c h1, hle.bl c' h1'] at hbl
            exact h.inj c c' y y' hy hy' hbl

/- what is read off a slice or a string -/
theorem src_run (hR : Rep n0 w0 K s w) {y cy : Value} {sz n : Nat} {new : List Value} (hy : RV K y cy) (h : srcCells s sz n y = some new) :
    ∃ cs, All2 (C1 K) new cs ∧ (Builtin.firstCells sz n cy).run P w = .ok cs.toArray w := by
  unfold srcCells at h
  split at h
  · obtain ⟨_, _, k', e⟩ := RV_sliceAny hy
    subst e
    obtain ⟨cs, h1, h2, h3⟩ := hR.run_loadCells (P := P) h
    exact ⟨cs, h1, by simpa [Builtin.firstCells] using h3⟩
  · rw [RV_nilslice] at hy
    subst hy
    simp at h
    subst h
    exact ⟨[], trivial, by simp [Builtin.firstCells]⟩
  · rename_i b
    rw [RV_string] at hy
    subst hy
    simp only [Option.some.injEq] at h
    subst h
    refine ⟨(b.data.toList.take n).map byteVal, All2.refl _ (fun v hv => by
      obtain ⟨u, _, hu⟩ := List.mem_map.1 hv
      subst hu
      exact C1_plain (a := byteVal u) rfl), ?_⟩
    simp only [Builtin.firstCells, Sem.run_pure, extract_list]
    congr 1
    apply Array.ext'
    simp [byteVal]
    rfl
  · simp at h

theorem lenV_run {y cy : Value} {n : Nat} (hy : RV K y cy) (h : lenV y = some n) : (Builtin.lenOf cy).run P w = .ok n w := by
  unfold lenV at h
  split at h
  · rename_i a m c
    simp at h
    subst h
    cases a with
    | none => rw [RV_nilslice] at hy; subst hy; simp [Builtin.lenOf]
    | some a => obtain ⟨_, _, k', e⟩ := RV_sliceAny hy; subst e; simp [Builtin.lenOf]
  · rw [RV_string] at hy
    subst hy
    simp at h
    subst h
    simp [Builtin.lenOf]
  · simp at h

theorem one_arg {cs : Array Value} {x : Value} (hr : All2 (RV K) [x] cs.toList) : ∃ cx, cs = #[cx] ∧ RV K x cx := by
  have hl := hr.length
  cases hcs : cs.toList with
  | nil => rw [hcs] at hl; simp at hl
  | cons y ys =>
    cases ys with
    | nil => rw [hcs] at hr; exact ⟨y, by apply Array.ext'; rw [hcs], hr.1⟩
    | cons _ _ => rw [hcs] at hl; simp at hl
theorem two_args {cs : Array Value} {x y : Value} (hr : All2 (RV K) [x, y] cs.toList) : ∃ cx cy, cs = #[cx, cy] ∧ RV K x cx ∧ RV K y cy := by
  have hl := hr.length
  cases hcs : cs.toList with
  | nil => rw [hcs] at hl; simp at hl
  | cons u us =>
    cases us with
    | nil => rw [hcs] at hl; simp at hl
    | cons v vs =>
      cases vs with
      | nil => rw [hcs] at hr; exact ⟨u, v, by apply Array.ext'; rw [hcs], hr.1, hr.2.1⟩
      | cons _ _ => rw [hcs] at hl; simp at hl

theorem eff_copy (hE : EnvOK P E) {t : TypeId} {x y cx cy : Value} (ts : Array TypeId) (ty : TypeId) (hts : ts[0]? = some t) (hR : Rep n0 w0 K s w) (hx : RV K x cx) (hy : RV K y cy) (h : acopy E t x y s = some L) :
    ∃ c w', (Builtin.copy_ ts ty #[cx, cy]).run P w = .ok c w' ∧ LPost n0 w0 K L c w' := by
  unfold acopy at h
  split at h
  · rename_i i base dl dc sl hi hl
    split at h
    · rename_i e hd
      split at h
      · simp at h
      · rename_i sz hsz
        have hu := (hE.ti t i hi).run_und w
        rw [hd] at hu
        split at h
        · simp at h
        · rename_i c hc
          obtain ⟨cs, g1, g2⟩ := src_run (P := P) hR hy hc
          have hlen := lenV_run (P := P) (w := w) hy hl
          split at h
          · rw [RV_nilslice] at hx
            subst hx
            refine ⟨_, w, ?_, LPost.one h (Kx.le_refl _) (RV_plain rfl) hR⟩
            simp only [Builtin.copy_, hts, List.getElem?_toArray, List.getElem?_cons_zero, List.getElem?_cons_succ, Sem.run_bind, hu, Result.andThen_ok, hlen, sizeOfT_some hE hsz w, g2, Sem.run_pure, goInt]
            rfl
          · rename_i a
            obtain ⟨_, _, k', e'⟩ := RV_sliceAny hx
            subst e'
            split at h
            · rename_i s' hs
              obtain ⟨w', g3, g4⟩ := hR.stored (P := P) hs g1
              refine ⟨_, w', ?_, LPost.one h (Kx.le_refl _) (RV_plain rfl) g4⟩
              simp only [Builtin.copy_, hts, List.getElem?_toArray, List.getElem?_cons_zero, List.getElem?_cons_succ, Sem.run_bind, hu, Result.andThen_ok, hlen, sizeOfT_some hE hsz w, g2, g3, Sem.run_pure, goInt]
              rfl
            · simp at h
    · simp at h
  · simp at h

theorem eff_clear (hE : EnvOK P E) {t : TypeId} {x cx : Value} (ts : Array TypeId) (ty : TypeId) (hts : ts[0]? = some t) (hR : Rep n0 w0 K s w) (hx : RV K x cx) (h : aclear E t x s = some L) :
    ∃ c w', (Builtin.clear_ ts ty #[cx]).run P w = .ok c w' ∧ LPost n0 w0 K L c w' := by
  unfold aclear at h
  split at h
  · rename_i i a n cp hi
    have hu := (hE.ti t i hi).run_und w
    split at h
    · rw [RV_nilslice] at hx
      subst hx
      refine ⟨_, w, ?_, LPost.one h (Kx.le_refl _) (by rw [RV_tuple]; exact ⟨#[], rfl, trivial⟩) hR⟩
      simp only [Builtin.clear_, hts, List.getElem?_toArray, List.getElem?_cons_zero, Sem.run_bind, hu, Result.andThen_ok, Sem.run_pure]
    · rename_i a
      obtain ⟨_, _, k', e'⟩ := RV_sliceAny hx
      subst e'
      split at h
      · rename_i hn
        have hn0 : n = 0 := Nat.eq_of_beq_eq_true hn
        subst hn0
        refine ⟨_, w, ?_, LPost.one h (Kx.le_refl _) (by rw [RV_tuple]; exact ⟨#[], rfl, trivial⟩) hR⟩
        simp only [Builtin.clear_, hts, List.getElem?_toArray, List.getElem?_cons_zero, Sem.run_bind, hu, Result.andThen_ok, Sem.run_pure]
      · rename_i hn
        split at h
        · rename_i e hd
          rw [hd] at hu
          split at h
          · simp at h
          · rename_i j hj
            have htj := hE.ti e j hj
            split at h
            · rename_i s' hs
              obtain ⟨w', g3, g4⟩ := hR.stored (P := P) hs (All2.refl _ (fun v hv => C1_plain (rep_plain htj.zp n v hv)))
              refine ⟨_, w', ?_, LPost.one h (Kx.le_refl _) (by rw [RV_tuple]; exact ⟨#[], rfl, trivial⟩) g4⟩
              have hz : (Builtin.zeroCells (zeroVal j).cells n).toList = rep j.zero n := by rw [zeroCells_list, htj.zero_cells]
              obtain ⟨m, rfl⟩ : ∃ m, n = m + 1 := ⟨n - 1, by
                rcases Nat.eq_zero_or_pos n with h0 | h0
                · rw [h0] at hn; simp at hn
                · omega⟩
              simp only [Builtin.clear_, hts, List.getElem?_toArray, List.getElem?_cons_zero, Sem.run_bind, hu, Result.andThen_ok, htj.run_zero w, hz, g3, Sem.run_pure]
            · simp at h
        · simp at h
  · simp at h

theorem nextcap_le (need old : Nat) (h : old < need) : Builtin.nextslicecap need old ≤ 2 * need + 1000 := by
  unfold Builtin.nextslicecap
  split
  · omega
  · split
    · omega
    · have key : ∀ (r c : Nat), c ≤ 2 * need + 1000 → Builtin.growBy need r c ≤ 2 * need + 1000 := by
        intro r
        induction r with
        | zero => intro c hc; exact hc
        | succ r ih =>
          intro c hc
          simp only [Builtin.growBy]
          split
          · exact hc
          · exact ih _ (by omega)
      exact key 4 old (by omega)

section app
variable {t u e : TypeId} {d : TypeDesc} {j : TI} {cy : Value} {sl n : Nat} {cs : List Value}

theorem append_in (hu : (Go.underlying t).run P w = .ok (.slice e) w) (hu2 : (Go.underlying u).run P w = .ok d w) (hni : (∃ q, d = .slice q) ∨ d = .string) (htj : TIOK P e j)
    (hlen : (Builtin.lenOf cy).run P w = .ok n w) (g2 : (Builtin.firstCells j.size n cy).run P w = .ok cs.toArray w) (a : Addr) (cap : Nat) (hc : sl + n ≤ cap) (ty : TypeId) {w' : World}
    (hst : (Go.storeCells (a.add (sl * j.size)) cs).run P w = .ok () w') :
    (Builtin.append_ #[t, u] ty #[.slice (some a) sl cap, cy]).run P w = .ok (.slice (some a) (sl + n) cap) w' := by
  rcases hni with ⟨q, rfl⟩ | rfl <;>
    simp only [Builtin.append_, List.getElem?_toArray, List.getElem?_cons_zero, List.getElem?_cons_succ, Sem.run_bind, hu, Result.andThen_ok, htj.run_size w, hu2, Bool.false_eq_true, if_false, hlen, hc, if_true, Bool.not_false, g2, hst, Sem.run_pure]

theorem append_nil (hu : (Go.underlying t).run P w = .ok (.slice e) w) (hu2 : (Go.underlying u).run P w = .ok d w) (hni : (∃ q, d = .slice q) ∨ d = .string) (htj : TIOK P e j)
    (hlen : (Builtin.lenOf cy).run P w = .ok n w) (g2 : (Builtin.firstCells j.size n cy).run P w = .ok cs.toArray w) (cap : Nat) (hc : sl + n ≤ cap) (ty : TypeId) :
    (Builtin.append_ #[t, u] ty #[.slice none sl cap, cy]).run P w = .ok (.slice none (sl + n) cap) w := by
  rcases hni with ⟨q, rfl⟩ | rfl <;>
    simp only [Builtin.append_, List.getElem?_toArray, List.getElem?_cons_zero, List.getElem?_cons_succ, Sem.run_bind, hu, Result.andThen_ok, htj.run_size w, hu2, Bool.false_eq_true, if_false, hlen, hc, if_true, Bool.not_false, g2, Sem.run_pure]

theorem append_out (hu : (Go.underlying t).run P w = .ok (.slice e) w) (hu2 : (Go.underlying u).run P w = .ok d w) (hni : (∃ q, d = .slice q) ∨ d = .string) (htj : TIOK P e j)
    (hlen : (Builtin.lenOf cy).run P w = .ok n w) (base : Option Addr) (cap : Nat) (hc : cap < sl + n) (hsm : sl + n ≤ 65536) (ty : TypeId) {old : List Value}
    (g2 : (Builtin.firstCells j.size n cy).run P { w with drawn := w.drawn + 1 } = .ok cs.toArray { w with drawn := w.drawn + 1 })
    (g3 : (Builtin.firstCells j.size sl (.slice base sl cap)).run P { w with drawn := w.drawn + 1 } = .ok old.toArray { w with drawn := w.drawn + 1 }) :
    ∃ newCap, sl + n ≤ newCap ∧ (Builtin.append_ #[t, u] ty #[.slice base sl cap, cy]).run P w =
      .ok (.slice (some ⟨w.heap.size, 0, none⟩) (sl + n) newCap) { w with drawn := w.drawn + 1, heap := w.heap.push (.cells (old.toArray ++ cs.toArray ++ Builtin.zeroCells (zeroVal j).cells (newCap - (sl + n))) e) } := by
  obtain ⟨inf, hinf, _, _, hbytes⟩ := htj.run_info w
  obtain ⟨inf', hinf', _, _, hbytes'⟩ := htj.run_info { w with drawn := w.drawn + 1 }
  have h1 : ¬ (sl + n ≤ cap) := by omega
  have h2 : ¬ (((sl + n : Nat) : Int) > IntKind.i64.max) := by
    have : IntKind.i64.max = 9223372036854775807 := by decide
    omega
  have h3 : ¬ (Builtin.nextslicecap (sl + n) cap * inf.bytes > 2 ^ 48) := by
    have h4 := nextcap_le (sl + n) cap hc
    have : Builtin.nextslicecap (sl + n) cap * inf.bytes ≤ (2 * 65536 + 1000) * 1000000 := Nat.mul_le_mul (by omega) hbytes
    omega
  refine ⟨Question.cut (.appendCap (sl + n) cap e) (w.tape w.drawn (.appendCap (sl + n) cap e)), ?_, ?_⟩
  · simp only [Question.cut]; omega
  · rcases hni with ⟨q, rfl⟩ | rfl <;>
      simp only [Builtin.append_, List.getElem?_toArray, List.getElem?_cons_zero, List.getElem?_cons_succ, Sem.run_bind, hu, Result.andThen_ok, htj.run_size w, hu2, Bool.false_eq_true, if_false, hlen, h1, hinf, h2, false_and, h3, run_choose, Question.forced, hinf', run_askRoom, g3, Bool.not_false, if_true, g2, htj.run_zero, newRow, run_newObj, Sem.run_pure]
end app

end
end Go.Sx
