import Derived.Test.Qxb6500274aGreatWSxRun2
set_option linter.unusedSimpArgs false
namespace Go.Sx
open Go Go.RowKit

/- CALLS -/
def sameWorld (w w' : World) : Prop := w'.heap = w.heap ∧ w'.os = w.os ∧ w'.tape = w.tape ∧ w'.output = w.output

structure ProgOK (P : Program) (E : Env) (n0 : Base) (w0 : World) : Prop where
  env : EnvOK P E
  mixed : P.follows .mixedOrders = true
  body : ∀ g f c, E.fn g = some f → f.body = some c → slotsOK f.ntmps c = true ∧ drawsOK E g c = true
  calm : ∀ g, E.calm g = true → ∀ (cap args : Array Value) (w : World), ∃ f args', (invoke (.fn (.func g) cap) args).run P w = .ok (.enter f args') w ∧
    CallsD P f args' .returning w (fun e u' w' => (∃ v, e = .returned v) ∧ u' = .returning ∧ sameWorld w w')
  prim : ∀ g f, E.prim g = some f → CallSound P n0 w0 (fun h args s => if h = g then f args s else none)
  quiet : ∀ g, E.quiet g = true → ∃ f, E.prim g = some f ∧ QuietSound P E (fun h args s => if h = g then f args s else none)

section
variable {P : Program} {E : Env} {n0 : Base} {w0 : World} {nt : Nat} {K : Kx} {r : Rg} {s : St} {a : Act} {w : World}

theorem Rep.same {w' : World} (h : Rep n0 w0 K s w) (hs : sameWorld w w') : Rep n0 w0 K s w' := by
  obtain ⟨h1, h2, h3, h4⟩ := hs
  refine ⟨⟨by rw [h2]; exact h.below.os, by rw [h3]; exact h.below.tape, by rw [h4]; exact h.below.output, by rw [h1]; exact h.below.size, by rw [h1]; exact h.below.block⟩, by rw [h1]; exact h.hn, h.nx, by rw [h1]; exact h.live, h.inj, h.facts, h.vals, h.syr, h.pfq⟩

theorem resultOf_run (hE : EnvOK P E) (hr : RegRel K nt r a) (hR : Rep n0 w0 K s w) (F : ResultVar → Sem Value) (hF1 : ∀ t, F (.tmp t) = Pure.pure (a.tmps.getD t undef))
    (hF2 : ∀ q t, F (.cell q t) = (do loadVar t (← asAddr (a.tmps.getD q undef)))) {x : ResultVar} {v : Value} (h : resultOf E r s x = some v) : ∃ c, RV K v c ∧ (F x).run P w = .ok c w := by
  cases x with
  | tmp t =>
    simp [resultOf] at h
    subst h
    exact ⟨_, hr.slot t, by rw [hF1]; rfl⟩
  | cell q t =>
    simp only [resultOf] at h
    split at h
    · rename_i i p hi hq
      have hti := hE.ti t i hi
      have h1 := hr.slot q
      rw [hq, RV_ptr] at h1
      obtain ⟨_, _, h1⟩ := h1
      split at h
      · rename_i hag
        simp only [Option.map_eq_some_iff] at h
        obtain ⟨c, hc, hv⟩ := h
        subst hv
        obtain ⟨cs, g1, g2, g3⟩ := hR.run_loadCells (P := P) hc
        refine ⟨.agg cs.toArray, by rw [RV_agg]; exact ⟨_, rfl, by simpa using g1⟩, ?_⟩
        simp only [hF2, Sem.run_bind, h1, asAddr, Sem.run_pure, Result.andThen_ok, loadVar, hti.run_isAgg w, hag, if_true, hti.run_size w, g3]
      · rename_i hag
        split at h
        · rename_i u hu
          simp at h
          subst h
          obtain ⟨c, g1, g2⟩ := hR.run_load1 (P := P) hu
          refine ⟨c, g1.rv, ?_⟩
          simp only [hF2, Sem.run_bind, h1, asAddr, Sem.run_pure, Result.andThen_ok, loadVar, hti.run_isAgg w, hag, Bool.false_eq_true, if_false, g2]
        · simp at h
    · simp at h

theorem resultList_run (hE : EnvOK P E) (hr : RegRel K nt r a) (hR : Rep n0 w0 K s w) (F : ResultVar → Sem Value) (hF1 : ∀ t, F (.tmp t) = Pure.pure (a.tmps.getD t undef))
    (hF2 : ∀ q t, F (.cell q t) = (do loadVar t (← asAddr (a.tmps.getD q undef)))) : ∀ {xs : List ResultVar} {vs : List Value}, resultList E r s xs = some vs →
    ∃ cs, All2 (RV K) vs cs ∧ (xs.mapM F).run P w = .ok cs w
  | [], vs, h => by
    simp [resultList] at h
    subst h
    exact ⟨[], trivial, by simp⟩
  | x :: xs, vs, h => by
    simp only [resultList] at h
    split at h
    · rename_i v vs' hv hvs
      simp at h
      subst h
      obtain ⟨c, h1, h2⟩ := resultOf_run (P := P) hE hr hR F hF1 hF2 hv
      obtain ⟨cs, h3, h4⟩ := resultList_run hE hr hR F hF1 hF2 hvs
      refine ⟨c :: cs, ⟨h1, h3⟩, ?_⟩
      rw [List.mapM_cons]
      simp only [Sem.run_bind, h2, Result.andThen_ok, h4, Sem.run_pure]
    · simp at h

theorem RV.r0 {v c : Value} (h : RV K v c) (hn : noTuple v = true) : R0 K v c := by
  unfold RV at h
  split at h
  · simp [noTuple] at hn
  · exact h

theorem results_run (hE : EnvOK P E) (hr : RegRel K nt r a) (hR : Rep n0 w0 K s w) {f : Func} {v : Value} (h : resultsOf E r s f.results.toList = some v) :
    ∃ c, RV K v c ∧ (results f a.tmps).run P w = .ok c w := by
  have key : ∀ vs, resultList E r s f.results.toList = some vs → ∃ cs, All2 (RV K) vs cs ∧ (results f a.tmps).run P w = .ok (if h : cs.toArray.size = 1 then cs.toArray[0] else .tuple cs.toArray) w := by
    intro vs hvs
    obtain ⟨cs, h1, h2⟩ := resultList_run (P := P) hE hr hR (fun
      | .tmp t => pure (a.tmps.getD t undef)
      | .cell q t => do loadVar t (← asAddr (a.tmps.getD q undef))) (fun t => rfl) (fun q t => rfl) hvs
    refine ⟨cs, h1, ?_⟩
    unfold results
    rw [Array.mapM_eq_mapM_toList]
    simp only [Sem.run_bind, Sem.run_map]
    erw [h2]
    rfl
  unfold resultsOf at h
  split at h
  · rename_i u hu
    simp at h
    subst h
    obtain ⟨cs, h1, h2⟩ := key _ hu
    match cs, h1 with
    | [c], h1 => exact ⟨c, h1.1, by simpa using h2⟩
  · rename_i vs hne hvs
    split at h
    · rename_i hall
      simp at h
      subst h
      obtain ⟨cs, h1, h2⟩ := key _ hvs
      have hlen := h1.length
      have hsz : ¬ cs.toArray.size = 1 := by
        intro e
        match vs, hlen, hne with
        | [u], _, hne => exact hne u rfl
        | [], hlen, _ => simp at e hlen; omega
        | _ :: _ :: _, hlen, _ => simp at e hlen; omega
      rw [dif_neg hsz] at h2
      refine ⟨_, ?_, h2⟩
      rw [RV_tuple]
      refine ⟨_, rfl, ?_⟩
      have hup : ∀ (vs cs : List Value), All2 (RV K) vs cs → vs.all noTuple = true → All2 (R0 K) vs cs := by
        intro vs
        induction vs with
        | nil => intro cs h _; cases cs <;> exact h
        | cons u us ih =>
          intro cs h hall
          cases cs with
          | nil => exact h.elim
          | cons c cs =>
            simp only [List.all_cons, Bool.and_eq_true] at hall
            exact ⟨h.1.r0 hall.1, ih cs h.2 hall.2⟩
      exact hup vs cs h1 hall
    · simp at h
  · simp at h

theorem leave_mem {f : Func} : ∀ {l : List Leaf} {L : List (Value × St)}, leave E f l = some L → ∀ x, x ∈ l →
    (x.1 = .normal ∨ x.1 = .ret) ∧ allCalm E x.2.1.defers = true ∧ ∃ v, resultsOf E x.2.1 x.2.2 f.results.toList = some v ∧ (v, x.2.2) ∈ L
  | [], _, _, x, hx => by simp at hx
  | z :: zs, L, h, x, hx => by
    simp only [leave] at h
    split at h
    · rename_i hz hcalm
      split at h
      · rename_i v b hv hb
        simp at h
        subst h
        rcases List.mem_cons.1 hx with hx | hx
        · subst hx; exact ⟨.inl hz, hcalm, v, hv, by simp⟩
        · obtain ⟨h1, h2, u, h3, h4⟩ := leave_mem hb x hx
          exact ⟨h1, h2, u, h3, by simp [h4]⟩
      · simp at h
    · rename_i hz hcalm
      split at h
      · rename_i v b hv hb
        simp at h
        subst h
        rcases List.mem_cons.1 hx with hx | hx
        · subst hx; exact ⟨.inr hz, hcalm, v, hv, by simp⟩
        · obtain ⟨h1, h2, u, h3, h4⟩ := leave_mem hb x hx
          exact ⟨h1, h2, u, h3, by simp [h4]⟩
      · simp at h
    · simp at h

theorem leaves_calm (hP : ProgOK P E n0 w0) {f : Func} {R : Ending → World → Prop} (tmps : Array Value) : ∀ (vs : List Value) (ds : List Deferred) (w : World), All2 DefRel vs ds → allCalm E vs = true →
    (∀ w', sameWorld w w' → ∃ v, (results f tmps).run P w' = .ok v w' ∧ R (.returned v) w') → Leaves P f tmps R ds .returning w
  | [], [], w, _, _, h => by
    obtain ⟨v, h1, h2⟩ := h w ⟨rfl, rfl, rfl, rfl⟩
    exact ⟨v, h1, h2⟩
  | [], _ :: _, _, h, _, _ => h.elim
  | _ :: _, [], _, h, _, _ => h.elim
  | v :: vs, d :: ds, w, hrel, hcalm, h => by
    unfold allCalm at hcalm
    split at hcalm
    · rename_i heq; simp at heq
    · rename_i g x y l heq
      simp at heq
      obtain ⟨rfl, rfl⟩ := heq
      simp only [Bool.and_eq_true] at hcalm
      obtain ⟨cap, hcap⟩ := hrel.1
      obtain ⟨f', args', h1, h2⟩ := hP.calm g hcalm.1 cap d.args w
      refine ⟨by simp, .func g, cap, f', args', hcap, by rw [hcap]; exact h1, ?_⟩
      refine h2.mono ?_
      rintro e u' w' ⟨⟨v', rfl⟩, rfl, hs⟩
      refine leaves_calm hP tmps vs ds w' hrel.2 hcalm.2 (fun w'' hs' => h w'' ?_)
      obtain ⟨a1, a2, a3, a4⟩ := hs
      obtain ⟨b1, b2, b3, b4⟩ := hs'
      exact ⟨b1.trans a1, b2.trans a2, b3.trans a3, b4.trans a4⟩
    · simp at hcalm

theorem slotsOK_mono {m m' : Nat} (h : m ≤ m') : ∀ (c : Code), slotsOK m c = true → slotsOK m' c = true := by
  intro c
  induction c with
  | region id ops draw =>
    intro hs
    simp only [slotsOK] at hs ⊢
    refine List.all_eq_true.2 (fun o ho => ?_)
    have := List.all_eq_true.1 hs o ho
    cases hd : o.dst with
    | none => simp
    | some t =>
      rw [hd] at this
      have h2 : Nat.ble (t + 1) m = true := this
      have h3 := Nat.le_of_ble_eq_true h2
      exact Nat.ble_eq_true_of_le (Nat.le_trans h3 h)
  | seq x y ihx ihy =>
    intro hs
    simp only [slotsOK, Bool.and_eq_true] at hs ⊢
    exact ⟨ihx hs.1, ihy hs.2⟩
  | cond o x y ihx ihy =>
    intro hs
    simp only [slotsOK, Bool.and_eq_true] at hs ⊢
    exact ⟨ihx hs.1, ihy hs.2⟩
  | block id x ih => exact fun hs => ih hs
  | loop x ih => exact fun hs => ih hs
  | scope x ih => exact fun hs => ih hs
  | _ => exact fun _ => rfl

theorem pad_get : ∀ (n : Nat) (l : List Value) (t : Nat), getAt (pad n l) t = if t < n then some ((l[t]?).getD any) else none
  | 0, l, t => by simp [pad, getAt]
  | n + 1, [], 0 => by simp [pad, getAt]
  | n + 1, [], t + 1 => by
    simp only [pad, getAt, pad_get n [] t]
    by_cases h : t < n
    · simp [h]
    · simp [h]
  | n + 1, x :: l, 0 => by simp [pad, getAt]
  | n + 1, x :: l, t + 1 => by
    simp only [pad, getAt, pad_get n l t]
    by_cases h : t < n
    · simp [h]
    · simp [h]

theorem enter_rel {nv : Nat} {long : List Nat} {args cargs : List Value} {ntmps : Nat} (h : All2 (RV K) args cargs) :
    RegRel K (cargs.toArray ++ Array.replicate (ntmps - cargs.toArray.size) undef).size (enter nv long args) { tmps := cargs.toArray ++ Array.replicate (ntmps - cargs.toArray.size) undef, defers := [] } := by
  refine ⟨rfl, fun t => ?_, trivial⟩
  simp only [Rg.get, enter]
  split
  · have hlook : ∀ (l : List Nat), (∀ v, lookTmp t (l.map (fun q => (q, any))) = some v → v = any) := by
      intro l
      induction l with
      | nil => intro v hv; simp [lookTmp] at hv
      | cons q l ih =>
        intro v hv
        simp only [List.map_cons, lookTmp] at hv
        split at hv
        · simp at hv; exact hv.symm
        · exact ih v hv
    split
    · rename_i v hv
      rw [hlook long v hv]
      exact RV_any
    · simp only [lookTmp]
      exact RV_any
  · rw [pad_get]
    split
    · rename_i v hv
      split at hv
      · simp at hv
        subst hv
        cases ha : args[t]? with
        | none => simp; exact RV_any
        | some u =>
          obtain ⟨c, h1, h2⟩ := h.get t ha
          have hlt : t < cargs.length := (List.getElem?_eq_some_iff.1 h1).1
          have : (cargs.toArray ++ Array.replicate (ntmps - cargs.toArray.size) undef).getD t undef = c := by
            rw [Array.getD_eq_getD_getElem?, Array.getElem?_append_left (by simpa using hlt)]
            simp [h1]
          rw [this]
          exact h2
      · simp at hv
    · exact RV_any

theorem callFunc_run {g : FuncId} {f : Func} (h : P.funcs[g]? = some f) (hn : f.name ≠ "runtime.NumGoroutine") {c : Code} (hb : f.body = some c) (a : Array Value) (w : World) : (callFunc g a).run P w = .ok (.enter g a) w := by
  simp [callFunc, h, hn, hb]

theorem callF_sound (hP : ProgOK P E n0 w0) (n : Nat) : ∀ d, CallSound P n0 w0 (callF E n d) ∧ QuietSound P E (callF E n d)
  | 0 => ⟨fun g args s L h => by simp [callF] at h, fun g args s L _ h => by simp [callF] at h⟩
  | d + 1 => by
    obtain ⟨ih1, ih2⟩ := callF_sound hP n d
    constructor
    · intro g args s L h
      simp only [callF] at h
      split at h
      · rename_i f hf
        exact hP.prim g f hf g args s L (by simpa using h)
      · split at h
        · rename_i f hf
          split at h
          · rename_i c hb
            split at h
            · rename_i l hl
              obtain ⟨hfn, hname⟩ := hP.env.fn g f hf
              obtain ⟨hslots, hdraws⟩ := hP.body g f c hf hb
              refine ⟨callFunc_run hfn hname hb, fun K w cargs hR hargs => ?_⟩
              refine calls_of_wp_defers hfn hb ?_
              have hrel := enter_rel (nv := E.nv g) (long := E.long g) (ntmps := f.ntmps) hargs
              have hslots' := slotsOK_mono (m' := (cargs.toArray ++ Array.replicate (f.ntmps - cargs.toArray.size) undef).size) (by simp; omega) c hslots
              refine wp_mono ((evalCode_sound hP.env hP.mixed ih1 ih2 c hslots' hdraws).1 _ s l K _ w hl hR hrel) ?_
              rintro e a' w' ⟨x, K', h1, h2, h3, h4, h5⟩
              obtain ⟨q1, q2, v, q3, q4⟩ := leave_mem h x h1
              have hL : Leaves P f a'.tmps (fun e w' => ∃ c, e = .returned c ∧ LPost n0 w0 K L c w') a'.defers .returning w' := by
                refine leaves_calm hP a'.tmps x.2.1.defers a'.defers w' h4.defers q2 (fun w'' hs => ?_)
                obtain ⟨c, r1, r2⟩ := results_run (P := P) hP.env h4 (h5.same hs) q3
                exact ⟨c, r2, c, rfl, v, x.2.2, K', q4, h3, r1, h5.same hs⟩
              rcases q1 with q1 | q1
              · rw [q1] at h2; subst h2; exact hL
              · rw [q1] at h2; subst h2; exact hL
            · simp at h
          · simp at h
        · simp at h
    · intro g args s L hq h
      obtain ⟨f, hf, hs⟩ := hP.quiet g hq
      simp only [callF, hf] at h
      exact hs g args s L hq (by simpa using h)
end
end Go.Sx
