import Derived.Test.Qxb6500275aGreatDoorVm4
import Derived.Test.Qxb6500275aGreatDoorSp9
set_option maxRecDepth 1000000
set_option linter.unusedVariables false
set_option linter.unusedSimpArgs false
namespace Go.Proofs.Qxb6500275aGreatDoor
open Go Go.RowKit
/- a function's first loop: what it goes round -/
def fstLoop : Code → Option Code
  | .loop c => some c
  | .seq a b => match fstLoop a with
    | some c => some c
    | none => fstLoop b
  | .block _ c => fstLoop c
  | .scope c => fstLoop c
  | .cond _ a b => match fstLoop a with
    | some c => some c
    | none => fstLoop b
  | _ => none
def fr189 (k0 k2 k3 k4 k5 : Value) (c u : Nat → Value) : Array Value := #[k0, u 1, k2, k3, k4, k5, c 6, c 7, c 8, c 9, c 10, c 11, u 12, u 13, u 14, u 15, u 16, u 17, u 18, u 19, u 20, u 21, u 22, u 23, u 24, u 25, u 26, u 27, u 28, u 29, u 30, u 31, u 32, u 33, u 34, u 35, u 36, u 37, u 38, u 39, u 40, u 41, u 42, u 43, u 44, u 45, u 46, u 47, u 48, u 49, u 50, u 51, u 52, u 53, u 54, u 55, u 56, u 57, u 58, u 59, u 60, u 61, u 62, u 63, u 64, u 65, u 66, u 67, u 68, u 69, u 70, u 71, u 72, u 73, u 74, u 75, u 76, u 77, u 78, u 79, u 80, u 81, u 82, u 83, u 84, u 85, u 86, u 87, u 88, u 89, u 90, u 91, u 92, u 93, u 94, u 95, u 96, u 97, u 98, u 99, u 100, u 101, u 102, u 103, u 104, u 105, u 106, u 107, u 108, u 109, u 110, u 111, u 112, u 113, u 114, u 115, u 116, u 117, u 118, u 119, u 120, u 121, u 122, u 123, u 124, u 125, u 126, u 127, u 128, u 129, u 130, u 131, u 132, u 133, u 134, u 135, u 136, u 137, u 138, u 139, u 140, u 141, u 142, u 143, u 144, u 145, u 146, u 147, u 148, u 149, u 150, u 151, u 152, u 153, u 154, u 155, u 156, u 157, u 158, u 159, u 160, u 161, u 162, u 163, u 164, u 165, u 166, u 167, u 168, u 169, u 170, u 171, u 172, u 173, u 174, u 175, u 176, u 177, u 178, u 179, u 180, u 181, u 182, u 183, u 184, u 185, u 186, u 187, u 188, u 189, u 190, u 191, u 192, u 193, u 194, u 195, u 196, u 197, u 198, u 199, u 200, u 201, u 202, u 203, u 204, u 205, u 206, u 207, u 208, u 209, u 210, u 211, u 212, u 213, u 214, u 215, u 216, u 217, u 218, u 219, u 220, u 221, u 222, u 223, u 224, u 225, u 226, u 227, u 228, u 229, u 230, u 231, u 232, u 233, u 234, u 235, u 236, u 237, u 238, u 239, u 240, u 241, u 242, u 243, u 244, u 245, u 246, u 247, u 248, u 249, u 250, u 251, u 252, u 253, u 254, u 255, u 256, u 257, u 258, u 259, u 260, u 261, u 262, u 263, u 264, u 265, u 266, u 267, u 268, u 269, u 270, u 271, u 272, u 273, u 274, u 275, u 276, u 277, u 278, u 279, u 280, u 281, u 282, u 283, u 284, u 285, u 286, u 287, u 288, u 289, u 290, u 291, u 292, u 293, u 294, u 295, u 296, u 297, u 298, u 299, u 300, u 301, u 302, u 303, u 304, u 305, u 306, u 307, u 308, u 309, u 310, u 311, u 312, u 313, u 314, u 315, u 316, u 317, u 318, u 319, u 320, u 321, u 322, u 323, u 324, u 325, u 326, u 327, u 328, u 329, u 330, u 331, u 332, u 333, u 334, u 335, u 336, u 337, u 338, u 339, u 340, u 341, u 342, u 343, u 344, u 345, u 346, u 347, u 348, u 349, u 350, u 351, u 352, u 353, u 354, u 355, u 356, u 357, u 358, u 359, u 360, u 361, u 362, u 363, u 364, u 365, u 366, u 367, u 368, u 369, u 370, u 371, u 372, u 373, u 374, u 375, u 376, u 377, u 378, u 379, u 380, u 381, u 382, u 383, u 384, u 385, u 386, u 387, u 388, u 389, u 390, u 391, u 392, u 393, u 394, u 395, u 396, u 397, u 398, u 399, u 400, u 401, u 402, u 403, u 404, u 405, u 406, u 407, u 408, u 409, u 410, u 411, u 412, u 413, u 414, u 415, u 416, u 417, u 418, u 419, u 420, u 421, u 422, u 423, u 424, u 425, u 426, u 427, u 428, u 429, u 430, u 431, u 432, u 433, u 434, u 435, u 436, u 437, u 438, u 439, u 440, u 441, u 442, u 443, u 444, u 445, u 446, u 447, u 448, u 449, u 450, u 451, u 452, u 453, u 454, u 455, u 456, u 457, u 458, u 459, u 460, u 461, u 462, u 463, u 464, u 465, u 466, u 467, u 468, u 469, u 470, u 471, u 472, u 473, u 474, u 475, u 476, u 477, u 478, u 479, u 480, u 481, u 482, u 483, u 484, u 485, u 486, u 487, u 488, u 489, u 490, u 491, u 492, u 493, u 494, u 495, u 496, u 497, u 498, u 499, u 500, u 501, u 502, u 503, u 504, u 505, u 506, u 507, u 508, u 509, u 510, u 511, u 512, u 513, u 514, u 515, u 516, u 517, u 518, u 519, u 520, u 521, u 522, u 523, u 524, u 525, u 526, u 527, u 528, u 529, u 530, u 531, u 532, u 533, u 534, u 535, u 536, u 537, u 538, u 539, u 540, u 541, u 542, u 543, u 544, u 545, u 546, u 547, u 548, u 549, u 550, u 551, u 552, u 553, u 554, u 555, u 556, u 557, u 558, u 559, u 560, u 561, u 562, u 563, u 564, u 565, u 566, u 567, u 568, u 569, u 570, u 571, u 572, u 573, u 574, u 575, u 576, u 577, u 578, u 579, u 580, u 581, u 582, u 583, u 584, u 585, u 586, u 587, u 588, u 589, u 590, u 591, u 592, u 593, u 594, u 595, u 596, u 597, u 598, u 599, u 600, u 601, u 602, u 603, u 604, u 605, u 606, u 607, u 608, u 609, u 610, u 611, u 612, u 613, u 614, u 615, u 616, u 617, u 618, u 619, u 620, u 621, u 622, u 623, u 624, u 625, u 626, u 627, u 628, u 629, u 630, u 631, u 632, u 633, u 634, u 635, u 636, u 637, u 638, u 639, u 640, u 641, u 642, u 643, u 644, u 645, u 646, u 647, u 648, u 649, u 650, u 651, u 652, u 653, u 654, u 655, u 656, u 657, u 658, u 659, u 660, u 661, u 662, u 663, u 664, u 665, u 666, u 667, u 668, u 669, u 670, u 671, u 672, u 673, u 674, u 675, c 676]
/- what stands amid 'seq': w the world ahead -/
structure Sq (w wr : World) (cb mb gf fo : Nat) (m : MT) (fn : Fn) (vb vt lv : Value) (labs : List ByteArray) (loc resF : ByteArray) (er : Int) (a : Nat) : Prop where
  ck : Ck wr cb mb ⟨gf, fo, none⟩ loc resF er a
  mw : Mw wr mb m
  fr : Fnr wr gf fo fn vb vt
  lb : Lb wr lv labs
  nc : ∀ k, (MwB mb m k ∨ FnrB gf vb vt k ∨ lv.ownBlock = some k) → k ≠ cb
  kp : Kp (· = cb) w wr
/- the function, the block, the whole's end: what does not change in a run of 'seq' -/
structure Env189 where
  w : World
  cb : Nat
  mb : Nat
  gf : Nat
  fo : Nat
  m : MT
  fn : Fn
  vb : Value
  vt : Value
  lv : Value
  labs : List ByteArray
  loc : ByteArray
  resF : ByteArray
  params : ByteArray
  res : ByteArray
  o : Nat
  rest : List Nat
  r : List VF
  lev : Nat
  X : VS × Nat × Int
abbrev Env189.sq (E : Env189) (wr : World) (er : Int) (a : Nat) : Prop := Sq E.w wr E.cb E.mb E.gf E.fo E.m E.fn E.vb E.vt E.lv E.labs E.loc E.resF er a
def Env189.v (E : Env189) (st : ByteArray) (p : Bool) : VS := mkV E.o (firstV E.res) st p E.rest E.r
structure Env189.run (E : Env189) (pc : Nat) (st : ByteArray) (p : Bool) : Prop where
  eq : bodyVL E.m.mod E.fn E.params (E.fn.body.drop pc) pc (E.v st p) = E.X
  vi : VI (E.v st p)
  mo : ModOk E.m.mod
  fo : FnOk E.fn
  pa : Vals E.params
  le : pc ≤ E.fn.body.length
def Env189.fr (E : Env189) (c u : Nat → Value) : Array Value := fr189 (.pointer (some ⟨E.cb, 0, none⟩)) E.lv (.string E.res) (.int .i64 (E.rest.length : Int)) (.int .i64 (E.lev : Int)) c u
structure Ok189 (E : Env189) : Prop where
  lab : LabR E.labs ((⟨E.o, firstV E.res, E.rest.length, false⟩ : VF) :: E.r)
  res : OneT E.res
  resF : OneT E.resF
  lev : E.lev + (E.r.length + 1) = 8 ∧ 1 ≤ E.lev
  mod : ModOk E.m.mod
  fnk : FnOk E.fn
  par : E.params.size ≤ 4 ∧ Vals E.params
  loc : E.loc = E.params ++ E.fn.locals
  bot : (E.r.getLastD ⟨E.o, firstV E.res, E.rest.length, false⟩).res = firstV E.resF
  rest : E.rest.length ≤ 10
/- how a round may end -/
def Next189 (E : Env189) (pc : Nat) (c : Nat → Value) (Q : Exit → Act → World → Prop) : Prop :=
  ∀ tmps w' (pc' : Nat) st' p' a', tmps = E.fr c (fun i => tmps.getD i undef) → tmps.getD 1 undef = .int .i64 (pc' : Int) → tmps.getD 14 undef = .string st' → tmps.getD 15 undef = .bool p' → E.sq w' 0 a' → pc < pc' → E.rest.length + st'.size ≤ 10 → E.run pc' st' p' → Q .normal ⟨tmps, []⟩ w'
def Nerr189 (E : Env189) (c : Nat → Value) (Q : Exit → Act → World → Prop) : Prop :=
  ∀ tmps w' (pc' : Nat) er a', tmps = E.fr c (fun i => tmps.getD i undef) → tmps.getD 1 undef = .int .i64 (pc' : Int) → E.sq w' er a' → er ≠ 0 → E.X.2 = (a', er) → Q .normal ⟨tmps, []⟩ w'
/- what 'seq' answers -/
def Ans189 (E : Env189) (pc pc' cl : Nat) (er : Int) (a : Nat) : Prop :=
  (er ≠ 0 ∧ E.X.2 = (a, er)) ∨ (er = 0 ∧ ∃ q st p x, pc' = q + 1 ∧ pc ≤ q ∧ E.fn.body[q]? = some x ∧ cl = x.op ∧ (cl = 5 ∨ cl = 11) ∧ E.rest.length + st.size ≤ 10 ∧ (popsS p (argsV E.res) st).2 = true ∧ (popsS p (argsV E.res) st).1.size = 0 ∧ E.run q st p)
def Home189 (E : Env189) (pc : Nat) (Q : Exit → Act → World → Prop) : Prop :=
  ∀ tmps w' (pc' cl : Nat) er a', tmps.getD 12 undef = .int .i64 (pc' : Int) → tmps.getD 13 undef = .int .u8 (cl : Int) → E.sq w' er a' → Ans189 E pc pc' cl er a' → Q .ret ⟨tmps, []⟩ w'
def Case189 (E : Env189) (pc : Nat) (st : ByteArray) (p : Bool) (x : Ins) : Prop :=
  ∀ (wr : World) (a : Nat) (c u : Nat → Value) (Q : Exit → Act → World → Prop), Ok189 E → E.sq wr 0 a → E.fn.body[pc]? = some x → u 1 = .int .i64 (pc : Int) → u 14 = .string st → u 15 = .bool p → E.rest.length + st.size ≤ 10 → E.run pc st p →
    Next189 E pc c Q → Nerr189 E c Q → Home189 E pc Q → Code.wp Tryz.prog ((Tryz.f189.body.bind fstLoop).getD .skip) Q ⟨E.fr c u, []⟩ wr
section
variable {w wr w' : World} {cb mb gf fo : Nat} {m : MT} {fn : Fn} {vb vt lv : Value} {labs : List ByteArray} {loc resF : ByteArray} {er : Int} {a : Nat} {E : Env189} {pc : Nat} {st : ByteArray} {p : Bool} {x : Ins}
theorem Sq.new (h : Sq w wr cb mb gf fo m fn vb vt lv labs loc resF er a) (hk : Kp (fun _ => False) wr w') : Sq w w' cb mb gf fo m fn vb vt lv labs loc resF er a :=
  ⟨h.ck.keep hk (fun h => h), h.mw.keep hk (fun _ _ h => h), h.fr.keep hk (fun _ _ h => h), OR.keep h.lb hk (fun _ _ h => h), h.nc, h.kp.trans (hk.mono (fun _ h => h.elim))⟩
theorem Sq.err (h : Sq w wr cb mb gf fo m fn vb vt lv labs loc resF er a) {er' : Int} {a' : Nat} (hk : Kp (· = cb) wr w') (hc : Ck w' cb mb ⟨gf, fo, none⟩ loc resF er' a') : Sq w w' cb mb gf fo m fn vb vt lv labs loc resF er' a' :=
  ⟨hc, h.mw.keep hk (fun k hk2 e => h.nc k (.inl hk2) e), h.fr.keep hk (fun k hk2 e => h.nc k (.inr (.inl hk2)) e), OR.keep h.lb hk (fun k hk2 e => h.nc k (.inr (.inr hk2)) e), h.nc, h.kp.trans hk⟩
theorem ba_nil (s : ByteArray) : s ++ (⟨#[]⟩ : ByteArray) = s := by
  apply ByteArray.ext
  rw [ByteArray.data_append]
  simp
/- one step on -/
theorem Env189.next (h : E.run pc st p) (hx : E.fn.body[pc]? = some x) {st' : ByteArray} {p' : Bool} (hs : stepV E.m.mod E.fn E.params pc (E.v st p) x = (E.v st' p', none)) : E.run (pc + 1) st' p' := by
  have hi := List.getElem?_eq_some_iff.1 hx
  have hk := VI.step h.mo h.fo h.pa h.vi (by unfold Env189.v mkV; simp) pc x (h.fo.body x (List.mem_of_getElem? hx))
  rw [hs] at hk
  have he := h.eq
  rw [List.drop_eq_getElem_cons hi.1, hi.2, bodyVL, hs] at he
  exact ⟨he, hk.vi, h.mo, h.fo, h.pa, hi.1⟩
theorem Env189.stop (h : E.run pc st p) (hx : E.fn.body[pc]? = some x) {v' : VS} {q : Nat} {e : Int} (hs : stepV E.m.mod E.fn E.params pc (E.v st p) x = (v', some (q, e))) : E.X.2 = (q, e) := by
  have he := h.eq
  have hi := List.getElem?_eq_some_iff.1 hx
  rw [List.drop_eq_getElem_cons hi.1, hi.2, bodyVL, hs] at he
  rw [← he]
/- no operand is an empty block's mark -/
theorem run_64 (h : E.run pc st p) : ∀ i, i < st.size → bAt st i ≠ 64 := fun i hi e => by
  have hm : bAt st i ∈ (E.v st p).ops := by
    unfold Env189.v mkV
    refine List.mem_append.2 (.inl ?_)
    unfold argsV
    refine List.mem_map.2 ⟨st[i], List.mem_reverse.2 (List.mem_of_getElem? (bAt_idx hi)), ?_⟩
    exact (bAt_get st i hi)
  rw [e] at hm
  rcases h.vi.ops 64 hm with h | h | h | h | h <;> omega
/- what stands at a round's head -/
structure Rd189 (E : Env189) (wr : World) (a pc kb nb bc : Nat) (x : Ins) : Prop where
  c1 : wr.cell? ⟨E.cb, 1, none⟩ = some (.pointer (some ⟨E.gf, E.fo, none⟩))
  c4 : wr.cell? ⟨E.cb, 4, none⟩ = some (.int .i64 0)
  f2 : wr.cell? ⟨E.gf, E.fo + 2, none⟩ = some (.slice (some ⟨kb, 0, none⟩) nb bc)
  d0 : wr.cell? ⟨kb, pc * 3, none⟩ = some (.int .u8 (x.op : Int))
  d1 : wr.cell? ⟨kb, pc * 3 + 1, none⟩ = some (.int .u32 x.x)
  d2 : wr.cell? ⟨kb, pc * 3 + 2, none⟩ = some (.int .u64 x.y)
  hpn : (pc : Int) < (nb : Int)
  hnb : nb ≤ 96 ∧ E.fn.body.length = nb
  hA : E.sq (wr.alloc (.cells #[.int .u8 (x.op : Int), .int .u32 x.x, .int .u64 x.y] 129)) 0 a
  hX : InsOk x
theorem rd189 (hO : Ok189 E) (h : E.sq wr 0 a) (hx : E.fn.body[pc]? = some x) : ∃ kb nb bc, Rd189 E wr a pc kb nb bc x := by
  have hi := List.getElem?_eq_some_iff.1 hx
  obtain ⟨kb, bc, hv, b1, b2, b3, b4, b5⟩ := h.fr.bo.ptr (by have := hi.1; omega)
  have hc := insC_at hx
  have f2 := h.fr.c2
  rw [hv] at f2
  have := hO.fnk.nb.2
  exact ⟨kb, E.fn.body.length, bc, h.ck.c1, h.ck.c4, f2, b4 _ _ hc.1, b4 _ _ hc.2.1, b4 _ _ hc.2.2, by have := hi.1; omega, ⟨this, rfl⟩, h.new ((Kp.refl _ _).alloc _), hO.fnk.body x (List.mem_of_getElem? hx)⟩
set_option maxHeartbeats 8000000 in
theorem c189_nop (ho : x.op = 1) : Case189 E pc st p x := by
  intro wr a c u Q hO hS hx hu1 hu14 hu15 hst hrun hN hNe hH
  obtain ⟨kb, nb, bc, hd⟩ := rd189 hO hS hx
  obtain ⟨c1, c4, f2, d0, d1, d2, hpn, ⟨hnb, hnbe⟩, hA, hX⟩ := hd
  have hlevp : ¬ ((E.lev : Int) ≤ 0) := by have := hO.lev.2; omega
  have HO : Hid _ := hO
  have HN : Hid (Next189 E pc c Q) := hN
  have HNe : Hid (Nerr189 E c Q) := hNe
  have HH : Hid (Home189 E pc Q) := hH
  have HA : Hid _ := hA
  have HX : Hid (E.fn.body[pc]? = some x) := hx
  have HRun : Hid (E.run pc st p) := hrun
  have HI : Hid _ := hX
  clear hO hN hNe hH hA hS hx hnbe hrun hX
  have HS : Hid (stepV E.m.mod E.fn E.params pc (E.v st p) x = (E.v st p, none)) := if_pos ho
  have HR2 : Hid (E.run (pc + 1) st p) := Env189.next HRun.out HX.out HS.out
  obtain ⟨op, X1, Y1⟩ := x
  dsimp only at ho d0 d1 d2
  subst ho
  have hszs : ((st ++ ByteArray.empty).size : Int) = (st.size : Int) := by simp
  have hdeep : ¬ ((10 : Int) < (E.rest.length : Int) + (st.size : Int)) := by omega
  have hsl : ¬ 9223372036854775807 < st.size + 0 := by omega
  unfold Env189.fr fr189
  rw [hu1, hu14, hu15]
  conv => arg 2; whnf
  go_wp2
  exact HN.out _ _ (pc + 1) (st ++ ⟨#[]⟩) p a (by kernel_rfl) rfl rfl rfl HA.out (by omega) (by rw [ba_nil]; exact hst) (by rw [ba_nil]; exact HR2.out)
set_option maxHeartbeats 8000000 in
theorem c189_unr (ho : x.op = 0) : Case189 E pc st p x := by
  intro wr a c u Q hO hS hx hu1 hu14 hu15 hst hrun hN hNe hH
  obtain ⟨kb, nb, bc, hd⟩ := rd189 hO hS hx
  obtain ⟨c1, c4, f2, d0, d1, d2, hpn, ⟨hnb, hnbe⟩, hA, hX⟩ := hd
  have hlevp : ¬ ((E.lev : Int) ≤ 0) := by have := hO.lev.2; omega
  have HO : Hid _ := hO
  have HN : Hid (Next189 E pc c Q) := hN
  have HNe : Hid (Nerr189 E c Q) := hNe
  have HH : Hid (Home189 E pc Q) := hH
  have HA : Hid _ := hA
  have HX : Hid (E.fn.body[pc]? = some x) := hx
  have HRun : Hid (E.run pc st p) := hrun
  have HI : Hid _ := hX
  clear hO hN hNe hH hA hS hx hnbe hrun hX
  have HS : Hid (stepV E.m.mod E.fn E.params pc (E.v st p) x = (E.v ByteArray.empty true, none)) := by
    show stepV E.m.mod E.fn E.params pc (E.v st p) x = _
    unfold stepV
    rw [if_neg (by omega), if_pos ho]
    exact congrArg (fun z => (z, none)) cut_mk
  have HR2 : Hid (E.run (pc + 1) ByteArray.empty true) := Env189.next HRun.out HX.out HS.out
  have hr10 := HO.out.rest
  obtain ⟨op, X1, Y1⟩ := x
  dsimp only at ho d0 d1 d2
  subst ho
  have hdeep : ¬ ((10 : Int) < (E.rest.length : Int)) := by omega
  unfold Env189.fr fr189
  rw [hu1, hu14, hu15]
  conv => arg 2; whnf
  go_wp2
  exact HN.out _ _ (pc + 1) (⟨#[]⟩ ++ ⟨#[]⟩) true a (by kernel_rfl) rfl rfl rfl HA.out (by omega) (by rw [ba_nil]; exact hr10) (by rw [ba_nil]; exact HR2.out)
end
end Go.Proofs.Qxb6500275aGreatDoor
