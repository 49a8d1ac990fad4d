import Derived.Test.Qxb6500274aGreatWSxCov
set_option linter.unusedSimpArgs false
namespace Go.Sx
open Go Go.RowKit

section
variable {K K2 : Kx} {Z s : St} {m : List Nat} {bd : List (Nat × List Value)}

theorem covL_sound {f : Value → Value → Bool} {R R' : Value → Value → Prop} (hf : ∀ a' a c, f a' a = true → R a c → R' a' c) :
    ∀ {x' x y : List Value}, covL f x' x = true → All2 R x y → All2 R' x' y
  | [], [], [], _, _ => trivial
  | [], [], _ :: _, _, h => h.elim
  | [], _ :: _, _, h, _ => by simp [covL] at h
  | _ :: _, [], _, h, _ => by simp [covL] at h
  | _ :: _, _ :: _, [], _, h => h.elim
  | a' :: x', a :: x, c :: y, h, hr => by
    simp only [covL] at h
    split at h
    · rename_i e
      exact ⟨hf _ _ _ e hr.1, covL_sound hf h hr.2⟩
    · simp at h

theorem covP_sound {f : Value → Value → Bool} {R R' : Value → Value → Prop} (hf : ∀ a' a c, f a' a = true → R a c → R' a' c) :
    ∀ {x' x y : List Value}, covP f x' x = true → All2 R x y → ∃ p q, y = p ++ q ∧ All2 R' x' p
  | [], _, y, _, _ => ⟨[], y, rfl, trivial⟩
  | _ :: _, [], _, h, _ => by simp [covP] at h
  | _ :: _, _ :: _, [], _, h => h.elim
  | a' :: x', a :: x, c :: y, h, hr => by
    simp only [covP] at h
    split at h
    · rename_i e
      obtain ⟨p, q, h1, h2⟩ := covP_sound hf h hr.2
      exact ⟨c :: p, q, by rw [h1]; rfl, hf _ _ _ e hr.1, h2⟩
    · simp at h

theorem CI_eq {a c : Value} (hp : plain a = true) (h : CI K a c) : c = a := by
  unfold CI at h
  split at h
  · simp [plain] at hp
  · simp [plain] at hp
  · unfold C0 at h
    split at h <;> simp_all [plain]

theorem CI_self {a : Value} (hp : plain a = true) : CI K a a := by
  unfold CI
  split
  · simp [plain] at hp
  · simp [plain] at hp
  · exact C0_plain hp

theorem covI_sound (hk : CovK K K2 Z s m bd) {a' a c : Value} (h : covI Z m a' a = true) (hc : CI K a c) : CI K2 a' c := by
  unfold covI at h
  split at h
  · simp at h
    obtain ⟨rfl, rfl⟩ := hc
    exact ⟨h.1, rfl⟩
  · simp at h
    obtain ⟨h1, h2, h3, h4, h5⟩ := h
    obtain ⟨rfl, rfl, rfl⟩ := hc
    subst h1
    exact ⟨h2, h3, rfl⟩
  · obtain ⟨e1, e2, e3, e4, e5⟩ := covA_sound h
    simp only [CI, C0] at hc ⊢
    exact ⟨e1, by rw [hk.nx]; exact e5, by rw [hc.2.2, hk.bl, e3, e4]⟩
  · obtain ⟨rfl, hp⟩ := eqPlain_eq h
    rw [CI_eq hp hc]
    exact CI_self hp

theorem covS_iface {t sh : List Value} {u : TypeId} {v : Value} : covS Z m bd t sh (.iface u v) = false := by
  unfold covS
  split
  · cases subT bd t <;> simp [kindI]
  · simp [bytesS]
  · split <;> rfl
  · rfl

theorem covS_func {t sh : List Value} {g : FuncId} {x y : Array Value} : covS Z m bd t sh (.func (.func g) x y) = false := by
  unfold covS
  split
  · cases subT bd t <;> simp [kindI]
  · simp [bytesS]
  · split <;> rfl
  · rfl

theorem cov1_sound (hk : CovK K K2 Z s m bd) {a' a c : Value} (h : cov1 Z s m bd a' a = true) (hc : C1 K a c) : C1 K2 a' c := by
  unfold cov1 at h
  split at h
  · simp only [C1, C0]; exact hc.one
  · simp only [Bool.and_eq_true] at h
    have h1 := Nat.eq_of_beq_eq_true h.1
    subst h1
    obtain ⟨v', rfl, h2⟩ := hc
    exact ⟨v', rfl, covI_sound hk h.2 h2⟩
  · simp only [Bool.and_eq_true] at h
    have h1 := Nat.eq_of_beq_eq_true h.1
    subst h1
    obtain ⟨x', y', rfl, h2, h3⟩ := hc
    exact ⟨x', y', rfl, covL_sound (R := C0 K) (R' := C0 K2) (fun _ _ _ h1 h2 => cov0_sound hk h1 h2) h.2.1 h2, covL_sound (R := C0 K) (R' := C0 K2) (fun _ _ _ h1 h2 => cov0_sound hk h1 h2) h.2.2 h3⟩
  · rename_i hn1 hn2 hn3
    have h0 : C0 K a c := by
      unfold C1 at hc
      split at hc
      · exfalso
        unfold cov0 at h
        split at h
        · exact hn1 rfl
        all_goals simp_all [eqPlain, covS_iface]
      · exfalso
        unfold cov0 at h
        split at h
        · exact hn1 rfl
        all_goals simp_all [eqPlain, covS_func]
      · exact hc
    have h1 := cov0_sound hk h h0
    unfold C1
    split
    · simp [C0, plain] at h1
    · simp [C0, plain] at h1
    · exact h1

theorem covB_sound (hk : CovK K K2 Z s m bd) {x' x : Blk} {b : Nat} {w : World} (h : covB Z s m bd x' x = true)
    (ht : ∀ cs T fr, w.heap[K.bl (rho m b)]? = some (.cells cs T fr) → K2.tot b = cs.size) (he : K2.es b = x'.kind - 3)
    (hr : BlkRep K (rho m b) x w.heap[K.bl (rho m b)]?) : BlkRep K2 b x' w.heap[K2.bl b]? := by
  rw [hk.bl]
  unfold covB at h
  unfold BlkRep at hr ⊢
  split at h
  · rename_i h3
    have h3 := Nat.le_of_ble_eq_true h3
    simp only [Bool.and_eq_true, Bool.or_eq_true] at h
    obtain ⟨h4, h5⟩ := h
    have hx : x.kind ≠ 2 := by
      rcases h4 with h4 | h4
      · have := Nat.le_of_ble_eq_true h4; omega
      · have := Nat.eq_of_beq_eq_true h4; omega
    rw [if_neg hx] at hr
    rw [if_neg (by omega)]
    obtain ⟨cs, T, fr, pre, tl, g1, g2, g3, g4, g5, g6⟩ := hr
    obtain ⟨p, q, e1, e2⟩ := covP_sound (R := C1 K) (R' := C1 K2) (fun _ _ _ h1 h2 => cov1_sound hk h1 h2) h5 g4
    exact ⟨cs, T, fr, p, q ++ tl, g1, g2, by rw [g3, e1, List.append_assoc], e2, fun hh => by omega, fun _ => ⟨(ht cs T fr g1).symm, he⟩⟩
  · rename_i h3
    simp only [Bool.and_eq_true] at h
    obtain ⟨h4, h5, h6⟩ := h
    have h4 := Nat.le_of_ble_eq_true h4
    have h5 := Nat.eq_of_beq_eq_true h5
    rw [if_neg (by omega)] at hr
    rw [if_neg (by omega)]
    obtain ⟨cs, T, fr, pre, tl, g1, g2, g3, g4, g5, g6⟩ := hr
    exact ⟨cs, T, fr, pre, tl, g1, g2, g3, covL_sound (R := C1 K) (R' := C1 K2) (fun _ _ _ h1 h2 => cov1_sound hk h1 h2) h6 g4, fun _ => g5 (by omega), fun hh => by omega⟩

theorem nodup_get : ∀ {l : List Nat} {i j a : Nat}, nodup l = true → rho.nthN i l = some a → rho.nthN j l = some a → i = j
  | [], i, j, a, _, h, _ => by cases i <;> simp [rho.nthN] at h
  | x :: l, 0, 0, a, _, _, _ => rfl
  | x :: l, 0, j + 1, a, hn, h1, h2 => by
    simp only [nodup, Bool.and_eq_true] at hn
    simp [rho.nthN] at h1
    subst h1
    have : x ∈ l := nthN_mem h2
    simp [this] at hn
  | x :: l, i + 1, 0, a, hn, h1, h2 => by
    simp only [nodup, Bool.and_eq_true] at hn
    simp [rho.nthN] at h2
    subst h2
    have : x ∈ l := nthN_mem h1
    simp [this] at hn
  | x :: l, i + 1, j + 1, a, hn, h1, h2 => by
    simp only [nodup, Bool.and_eq_true] at hn
    have h1 : rho.nthN i l = some a := by simpa [rho.nthN] using h1
    have h2 : rho.nthN j l = some a := by simpa [rho.nthN] using h2
    rw [nodup_get hn.2 h1 h2]
where
  nthN_mem : ∀ {l : List Nat} {i a : Nat}, rho.nthN i l = some a → a ∈ l
    | [], i, a, h => by cases i <;> simp [rho.nthN] at h
    | x :: l, 0, a, h => by simp [rho.nthN] at h; simp [h]
    | x :: l, i + 1, a, h => List.mem_cons_of_mem _ (nthN_mem (by simpa [rho.nthN] using h))

theorem nthN_some : ∀ {l : List Nat} {i : Nat}, i < l.length → ∃ a, rho.nthN i l = some a
  | [], i, h => by simp at h
  | x :: l, 0, _ => ⟨x, by simp [rho.nthN]⟩
  | x :: l, i + 1, h => by
    obtain ⟨a, ha⟩ := nthN_some (l := l) (i := i) (by simpa using h)
    exact ⟨a, by simpa [rho.nthN] using ha⟩

theorem rho_inj (h : injOK Z m = true) {b b' : Nat} (hb : b < Z.next) (hb' : b' < Z.next) (he : rho m b = rho m b') : b = b' := by
  cases m with
  | nil => simpa [rho] using he
  | cons c l =>
    simp only [injOK, Bool.and_eq_true] at h
    have hl := Nat.eq_of_beq_eq_true h.2
    obtain ⟨a, ha⟩ := nthN_some (l := c :: l) (i := b) (by omega)
    obtain ⟨a', ha'⟩ := nthN_some (l := c :: l) (i := b') (by omega)
    simp only [rho, ha, ha'] at he
    subst he
    exact nodup_get h.1 ha ha'

def tots (w : World) (b : Nat) : Nat := match w.heap[b]? with
  | some (.cells cs _ _) => cs.size
  | _ => 0
def ess (Z : St) (b : Nat) : Nat := match find b Z.heap with
  | some x => x.kind - 3
  | none => 0
def Kx.weak (K : Kx) (Z : St) (m : List Nat) (w : World) (sy : Nat → Value) : Kx := ⟨fun b => K.bl (rho m b), fun b => tots w (K.bl (rho m b)), ess Z, Z.next, sy, K.pf⟩

theorem covK_of {n0 : Base} {w0 w : World} (hR : Rep n0 w0 K s w) (sy : Nat → Value) (hsy : ∀ i t, row i bd = some t → Den K t (sy i)) : CovK K (K.weak Z m w sy) Z s m bd := by
  refine ⟨fun _ => rfl, rfl, fun b hb => ?_, hsy, rfl⟩
  unfold capOK at hb
  split at hb
  · rename_i x' x h1 h2
    simp only [Bool.and_eq_true] at hb
    have e1 := Nat.eq_of_beq_eq_true hb.1
    have e2 := Nat.le_of_ble_eq_true hb.2
    obtain ⟨_, _, _, hr⟩ := hR.live _ x h2
    unfold BlkRep at hr
    rw [if_neg (by omega)] at hr
    obtain ⟨cs, T, fr, pre, tl, g1, g2, g3, g4, g5, g6⟩ := hr
    obtain ⟨g7, g8⟩ := g6 e2
    refine ⟨?_, ?_⟩
    · simp only [Kx.weak, ess, h1]
      omega
    · simp only [Kx.weak, tots, g1]
      exact g7
  · simp at hb

theorem covers_sound {n0 : Base} {w0 w : World} (hR : Rep n0 w0 K s w) (h : covers Z s m bd = true) (sy : Nat → Value) (hsy : ∀ i t, row i bd = some t → Den K t (sy i))
    (F : List (List Value × Bool)) (V : List (List Value × Value)) (hF : ∀ t b, (t, b) ∈ F → Den (K.weak Z m w sy) t (.bool b)) (hV : ∀ t v, (t, v) ∈ V → Den (K.weak Z m w sy) t v ∧ plain v = true)
    (hr : ∀ i k n, sy i = .int k n → k.wrap n = n) : Rep n0 w0 (K.weak Z m w sy) ⟨Z.heap, Z.next, F, V⟩ w := by
  have hk := covK_of (Z := Z) (m := m) hR sy hsy
  unfold covers at h
  simp only [Bool.and_eq_true, List.all_eq_true] at h
  obtain ⟨hinj, hall⟩ := h
  have hone : ∀ b x', find b Z.heap = some x' → b < Z.next ∧ ∃ x, find (rho m b) s.heap = some x ∧ covB Z s m bd x' x = true := by
    intro b x' hf
    obtain ⟨l, hl, l', hl', hm⟩ := find_mem hf
    obtain ⟨h1, h2⟩ := hall l hl l' hl' (b, x') hm
    refine ⟨Nat.le_of_ble_eq_true h1, ?_⟩
    split at h2
    · rename_i x hx
      exact ⟨x, hx, h2⟩
    · simp at h2
  refine ⟨hR.below, hR.hn, rfl, ?_, ?_, hF, hV, hr, hR.pfq⟩
  · intro b x' hf
    obtain ⟨h1, x, h2, h3⟩ := hone b x' hf
    obtain ⟨_, h5, h6, h7⟩ := hR.live _ x h2
    refine ⟨h1, h5, h6, ?_⟩
    refine covB_sound hk h3 ?_ ?_ h7
    · intro cs T fr hcs
      simp only [Kx.weak, tots, hcs]
    · simp only [Kx.weak, ess, hf]
  · intro b b' x x' hf hf' hb
    obtain ⟨h1, y, h2, _⟩ := hone b x hf
    obtain ⟨h1', y', h2', _⟩ := hone b' x' hf'
    exact rho_inj hinj h1 h1' (hR.inj _ _ y y' h2 h2' hb)

end
end Go.Sx
