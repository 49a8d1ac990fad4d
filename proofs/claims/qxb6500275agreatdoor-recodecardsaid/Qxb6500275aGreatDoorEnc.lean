import Derived.Test.Qxb6500275aGreatDoorEnb
import Derived.Test.Qxb6500275aGreatDoorRe9
set_option maxRecDepth 100000
set_option linter.unusedVariables false
set_option linter.unusedSimpArgs false
namespace Go.Proofs.Qxb6500275aGreatDoor
open Go Go.RowKit
/- two writers apart -/
structure Apt (ob : Nat) (vo : Value) (rb : Nat) (vr : Value) : Prop where
  b : ob ≠ rb
  o : vo.ownBlock ≠ some rb
  r : vr.ownBlock ≠ some ob
  d : ∀ k, vr.ownBlock = some k → vo.ownBlock ≠ some k
section
variable {w w' : World} {ob rb : Nat} {vo vo' vr : Value} {lo lr : List Nat}
/- the other writer is kept -/
theorem Wr.apart (hr : Wr w rb vr lr) (ha : Apt ob vo rb vr) (he : We w w' ob vo vo') : Wr w' rb vr lr ∧ Apt ob vo' rb vr := by
  have hl := hr.lt
  refine ⟨hr.keep he.kp (fun e => ?_) (fun k hk e => ?_), ⟨ha.b, fun e => ?_, ha.r, fun k hk e => ?_⟩⟩
  · rcases e with e | e
    · exact ha.b e.symm
    · exact ha.o e
  · rcases e with e | e
    · exact ha.r (e ▸ hk)
    · exact ha.d k hk e
  · rcases he.ow rb e with h | h
    · exact ha.o h
    · omega
  · rcases he.ow k e with h | h
    · exact ha.d k hk h
    · have := hr.f.lt hk; omega
/- how a section ends: its text laid behind o's, the rows' writer emptied -/
def Sq (w : World) (ob : Nat) (vo : Value) (lo T : List Nat) (rb : Nat) (vr : Value) (en : Ending) (w' : World) : Prop :=
  en = .returned (.tuple #[]) ∧ ∃ vo' vr', Wr w' ob vo' (lo ++ T) ∧ Wr w' rb vr' [] ∧ vr'.ownBlock = vr.ownBlock ∧ Own2 w vo vo' ∧ Kp (fun k => k = ob ∨ vo.ownBlock = some k ∨ k = rb) w w'
set_option maxHeartbeats 8000000 in
theorem section_pos (ho : Wr w ob vo lo) (hr : Wr w rb vr lr) (ha : Apt ob vo rb vr) (id n : Nat) (hid : id < 256) (hn : 0 < n ∧ n ≤ 1000) (hlr : lr ≠ []) (hlo : lo.length ≤ 40000) (hll : lr.length ≤ 40000) :
    Calls Tryz.prog 122 #[.pointer (some ⟨ob, 0, none⟩), .int .u8 id, .int .i64 n, .pointer (some ⟨rb, 0, none⟩)] w (Sq w ob vo lo (secT id n lr) rb vr) := by
  obtain ⟨r, hrl⟩ : ∃ r, lr.length = r := ⟨_, rfl⟩
  obtain ⟨b2, cap, hvr⟩ : ∃ b2 cap, vr = .slice (some ⟨b2, 0, none⟩) r cap := by
    rcases hr.f with ⟨_, h2⟩ | ⟨b2, cap, D, h1, _⟩
    · exact absurd h2 hlr
    · exact ⟨b2, cap, by rw [h1, hrl]⟩
  subst hvr
  have l1 : (uLeb n).length ≤ 5 := uLeb_le 4 n (by simp; omega)
  have hul := ulen_calls w n (by omega) (by omega)
  obtain ⟨k, hk⟩ : ∃ k, (uLeb n).length = k := ⟨_, rfl⟩
  rw [hk] at hul l1
  have HO : Hid (Wr w ob vo lo) := ho
  have HRR : Hid (Wr w rb (.slice (some ⟨b2, 0, none⟩) r cap) lr) := hr
  have HA : Hid (Apt ob vo rb (.slice (some ⟨b2, 0, none⟩) r cap)) := ha
  have HRL : Hid (lr.length = r) := hrl
  have HK : Hid ((uLeb n).length = k) := hk
  have hnp : (0 : Int) < (n : Int) := by omega
  rw [hrl] at hll
  clear ho hr ha hrl hk
  go_enter Tryz.func122, Tryz.ntmps122
  go_wp2_with fail
  refine hul.mono ?_
  rintro en u0 ⟨rfl, k0⟩
  have hb1 := (HO.out.quiet k0).byte (by omega) id
  clear hul
  go_wp2_with fail
  refine hb1.mono ?_
  rintro en u1 ⟨rfl, v1, r1, e1⟩
  have HE1 : Hid (We w u1 ob vo v1) := We.before k0 e1
  have HR1 : Hid (Wr u1 ob v1 (lo ++ [id])) := r1
  have hap1 := HRR.out.apart HA.out HE1.out
  have HP1 : Hid (Wr u1 rb (.slice (some ⟨b2, 0, none⟩) r cap) lr ∧ Apt ob v1 rb (.slice (some ⟨b2, 0, none⟩) r cap)) := hap1
  have c1 := hap1.1.c
  have lk : (uLeb (k + r)).length ≤ 5 := uLeb_le 4 _ (by simp; omega)
  have HLK : Hid ((uLeb (k + r)).length ≤ 5) := lk
  have hu2 := wu_calls r1 (k + r) (by omega) (by rw [List.length_append]; simp; omega)
  clear r1 e1 hb1 k0 hap1 lk
  go_wp2_with fail
  rw [show (k : Int) + (r : Int) = ((k + r : Nat) : Int) by omega]
  refine hu2.mono ?_
  rintro en u2 ⟨rfl, v2, r2, e2⟩
  have HE2 : Hid (We w u2 ob vo v2) := HE1.out.trans e2
  have HR2 : Hid (Wr u2 ob v2 (lo ++ [id] ++ uLeb (k + r))) := r2
  have hap2 := HP1.out.1.apart HP1.out.2 e2
  have HP2 : Hid (Wr u2 rb (.slice (some ⟨b2, 0, none⟩) r cap) lr ∧ Apt ob v2 rb (.slice (some ⟨b2, 0, none⟩) r cap)) := hap2
  have hu3 := wu_calls r2 n (by omega) (by rw [List.length_append, List.length_append, HK.out]; have := HLK.out; simp; omega)
  clear r2 e2 hu2 hap2 c1
  go_wp2_with fail
  refine hu3.mono ?_
  rintro en u3 ⟨rfl, v3, r3, e3⟩
  have HE3 : Hid (We w u3 ob vo v3) := HE2.out.trans e3
  have hap3 := HP2.out.1.apart HP2.out.2 e3
  have HP3 : Hid (Wr u3 rb (.slice (some ⟨b2, 0, none⟩) r cap) lr ∧ Apt ob v3 rb (.slice (some ⟨b2, 0, none⟩) r cap)) := hap3
  have c3 := hap3.1.c
  have hcells : ∀ (j x : Nat), lr[j]? = some x → u3.cell? ((⟨b2, 0, none⟩ : Addr).add j) = some (.int .u8 x) := fun j x hx => by
    rcases hap3.1.f with ⟨_, h2⟩ | ⟨b2', cap', D, h1, _, h3, h4, h5⟩
    · exact absurd h2 hlr
    · simp only [Value.slice.injEq, Option.some.injEq, Addr.mk.injEq] at h1
      obtain ⟨⟨rfl, _, _⟩, _, rfl⟩ := h1
      have hj := (List.getElem?_eq_some_iff.1 hx).1
      rw [add_none, Nat.zero_add, h4.cell (by omega), h5 j x hx]
  have hu4 := bytes_calls r3 ⟨b2, 0, none⟩ r cap HRL.out hcells (by simp only [List.length_append, HK.out, HRL.out]; have := HLK.out; simp; omega)
  clear r3 e3 hu3 hap3 hcells
  go_wp2_with fail
  refine hu4.mono ?_
  rintro en u4 ⟨rfl, v4, r4, e4⟩
  have HE4 : Hid (We w u4 ob vo v4) := HE3.out.trans e4
  have HR4 : Hid (Wr u4 ob v4 _) := r4
  have hap4 := HP3.out.1.apart HP3.out.2 e4
  have HP4 : Hid (Wr u4 rb (.slice (some ⟨b2, 0, none⟩) r cap) lr ∧ Apt ob v4 rb (.slice (some ⟨b2, 0, none⟩) r cap)) := hap4
  have c4 := hap4.1.c
  have z4 := hap4.1.z
  have hrc : r ≤ cap := by
    rcases hap4.1.f with ⟨_, h2⟩ | ⟨b2', cap', D, h1, _, h3, _⟩
    · exact absurd h2 hlr
    · simp only [Value.slice.injEq] at h1
      have := HRL.out; omega
  clear r4 e4 hu4 hap4 c3
  go_wp2_with fail
  refine bodyPost_ret (v := .tuple #[]) (by simp [results, Tryz.results122, go_sem]) rfl ?_
  have hk4 : Kp (fun k => k = rb) u4 (u4.setCell ⟨rb, 0, none⟩ (.slice (some ⟨b2, 0, none⟩) 0 cap)) := (Kp.refl (fun k => k = rb) u4).setCell (p := ⟨rb, 0, none⟩) (.inl rfl) _
  have hB : Blk u4 rb 1 (fun _ => .slice (some ⟨b2, 0, none⟩) r cap) := fun i hi => by
    have : i = 0 := by omega
    subst this
    exact ⟨c4, z4⟩
  have hB2 := hB.set (i := 0) (by decide) (.slice (some ⟨b2, 0, none⟩) 0 cap)
  have hap := HP4.out.2
  refine ⟨rfl, v4, .slice (some ⟨b2, 0, none⟩) 0 cap, ?_, ⟨by have := hB2.cell (i := 0) (by decide); rwa [upd_same] at this, hB2.fz (i := 0) (by decide), ?_, HP4.out.1.n⟩, rfl, HE4.out.ow, ?_⟩
  · have h4 := HR4.out.keep hk4 hap.b (fun k hk e => hap.o (e ▸ hk))
    have es : secT id n lr = [id] ++ uLeb (k + r) ++ uLeb n ++ lr := by
      unfold secT
      rw [if_neg (by omega), HK.out, HRL.out]
      simp
    rw [es]
    simpa using h4
  · rcases HP4.out.1.f with ⟨h1, _⟩ | ⟨b2', cap', D, h1, h2, h3, h4, h5⟩
    · simp at h1
    · simp only [Value.slice.injEq, Option.some.injEq, Addr.mk.injEq] at h1
      obtain ⟨⟨rfl, _, _⟩, _, rfl⟩ := h1
      exact .inr ⟨b2, cap, D, rfl, Nat.lt_of_lt_of_le h2 hk4.size, by simp, h4.keep hk4 (fun e => HP4.out.1.n (by rw [← e]; rfl)), fun i x hx => by simp at hx⟩
  · exact (HE4.out.kp.mono (fun k e => by rcases e with e | e; exact .inl e; exact .inr (.inl e))).trans (hk4.mono (fun k e => .inr (.inr e)))
set_option maxHeartbeats 8000000 in
theorem section_zero (ho : Wr w ob vo lo) (hr : Wr w rb vr lr) (ha : Apt ob vo rb vr) (id : Nat) (hid : id < 256) :
    Calls Tryz.prog 122 #[.pointer (some ⟨ob, 0, none⟩), .int .u8 id, .int .i64 (0 : Nat), .pointer (some ⟨rb, 0, none⟩)] w (Sq w ob vo lo (secT id 0 lr) rb vr) := by
  have c4 := hr.c
  have z4 := hr.z
  have HO : Hid (Wr w ob vo lo) := ho
  have HRR : Hid (Wr w rb vr lr) := hr
  have HA : Hid (Apt ob vo rb vr) := ha
  obtain ⟨a2, n2, c2, hvr, hnc⟩ : ∃ a n c, vr = .slice a n c ∧ n ≤ c := by
    rcases hr.f with ⟨h1, _⟩ | ⟨b2, cap, D, h1, _, h3, _⟩
    · exact ⟨none, 0, 0, h1, Nat.le_refl _⟩
    · exact ⟨_, _, _, h1, h3⟩
  subst hvr
  clear ho hr ha
  go_enter Tryz.func122, Tryz.ntmps122
  go_wp2_with fail
  refine bodyPost_ret (v := .tuple #[]) (by simp [results, Tryz.results122, go_sem]) rfl ?_
  have hk4 : Kp (fun k => k = rb) w (w.setCell ⟨rb, 0, none⟩ (.slice a2 0 c2)) := (Kp.refl (fun k => k = rb) w).setCell (p := ⟨rb, 0, none⟩) (.inl rfl) _
  have hB : Blk w rb 1 (fun _ => .slice a2 n2 c2) := fun i hi => by
    have : i = 0 := by omega
    subst this
    exact ⟨c4, z4⟩
  have hB2 := hB.set (i := 0) (by decide) (.slice a2 0 c2)
  refine ⟨rfl, vo, .slice a2 0 c2, ?_, ⟨by have := hB2.cell (i := 0) (by decide); rwa [upd_same] at this, hB2.fz (i := 0) (by decide), ?_, ?_⟩, ?_, Own2.refl _ _, hk4.mono (fun k e => .inr (.inr e))⟩
  · rw [secT_zero, List.append_nil]
    exact HO.out.keep hk4 HA.out.b (fun k hk e => HA.out.o (e ▸ hk))
  · rcases HRR.out.f with ⟨h1, _⟩ | ⟨b2, cap, D, h1, h2, h3, h4, h5⟩
    · simp only [Value.slice.injEq] at h1
      obtain ⟨rfl, rfl, rfl⟩ := h1
      exact .inl ⟨rfl, rfl⟩
    · simp only [Value.slice.injEq] at h1
      obtain ⟨rfl, _, rfl⟩ := h1
      exact .inr ⟨b2, c2, D, rfl, Nat.lt_of_lt_of_le h2 hk4.size, by simp, h4.keep hk4 (fun e => HRR.out.n (by rw [← e]; rfl)), fun i x hx => by simp at hx⟩
  · have := HRR.out.n
    cases a2 <;> exact this
  · cases a2 <;> rfl
end
end Go.Proofs.Qxb6500275aGreatDoor
