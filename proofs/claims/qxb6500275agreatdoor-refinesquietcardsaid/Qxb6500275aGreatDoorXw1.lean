import Derived.Test.Qxb6500275aGreatDoorXp5
import Derived.Test.Qxb6500275aGreatDoorHod
import Derived.Test.Qxb6500275aGreatDoorPpbX
import Derived.Test.Qxb6500275aGreatDoorCtl
import Derived.Test.Qxb6500275aGreatDoorVb2
import Derived.Test.Qxb6500275aGreatDoorNm7
set_option maxRecDepth 1000000
set_option linter.unusedVariables false
set_option linter.unusedSimpArgs false
namespace Go.Proofs.Qxb6500275aGreatDoor
open Go Go.RowKit
/- THE MACHINE IN MEMORY -/
structure Xn where
  xb : Nat
  kb : Nat
  sb : Nat
  rb : Nat
  hb : Nat
  bb : Nat
  tb : Nat
  mb : Nat
  kc : Nat
  kk : Nat
  cb : Nat
  gb : Nat
  qb : Nat
  lo : Nat
  sv : Value
  fv : Value
  z : Nat → Value
def Sx (N : Xn) (k : Nat) : Prop := k = N.xb ∨ k = N.kb ∨ k = N.sb ∨ k = N.rb ∨ k = N.hb ∨ k = N.tb
/- the blocks are apart -/
structure Dn (N : Xn) : Prop where
  xb_kb : N.xb ≠ N.kb
  xb_sb : N.xb ≠ N.sb
  xb_rb : N.xb ≠ N.rb
  xb_hb : N.xb ≠ N.hb
  xb_bb : N.xb ≠ N.bb
  xb_tb : N.xb ≠ N.tb
  kb_sb : N.kb ≠ N.sb
  kb_rb : N.kb ≠ N.rb
  kb_hb : N.kb ≠ N.hb
  kb_bb : N.kb ≠ N.bb
  kb_tb : N.kb ≠ N.tb
  sb_rb : N.sb ≠ N.rb
  sb_hb : N.sb ≠ N.hb
  sb_bb : N.sb ≠ N.bb
  sb_tb : N.sb ≠ N.tb
  rb_hb : N.rb ≠ N.hb
  rb_bb : N.rb ≠ N.bb
  rb_tb : N.rb ≠ N.tb
  hb_bb : N.hb ≠ N.bb
  hb_tb : N.hb ≠ N.tb
  bb_tb : N.bb ≠ N.tb
  lt : N.xb < N.lo ∧ N.kb < N.lo ∧ N.sb < N.lo ∧ N.rb < N.lo ∧ N.hb < N.lo ∧ N.bb < N.lo ∧ N.tb < N.lo
/- a function's code -/
structure Kf (w : World) (lo kk ci fn : Nat) (ff : FF) : Prop where
  lo : lo ≤ kk ∧ lo ≤ ci
  c0 : w.cell? ⟨kk, fn * 4, none⟩ = some (.int .i64 ff.params)
  c1 : w.cell? ⟨kk, fn * 4 + 1, none⟩ = some (.int .i64 ff.locals)
  c2 : w.cell? ⟨kk, fn * 4 + 2, none⟩ = some (.int .i64 ff.results)
  c3 : w.cell? ⟨kk, fn * 4 + 3, none⟩ = some (.slice (some ⟨ci, 0, none⟩) ff.cells.length ff.cells.length)
  cs : ∀ (j : Nat) (c : Ins), ff.cells[j]? = some c → w.cell? ⟨ci, j * 3, none⟩ = some (.int .u8 c.op) ∧ w.cell? ⟨ci, j * 3 + 1, none⟩ = some (.int .u32 c.x) ∧ w.cell? ⟨ci, j * 3 + 2, none⟩ = some (.int .u64 c.y)
theorem Kf.keep {S : Nat → Prop} {w w' : World} {lo kk ci fn : Nat} {ff : FF} (h : Kf w lo kk ci fn ff) (hk : Kp S w w') (hs : ∀ k, S k → k < lo) : Kf w' lo kk ci fn ff := by
  have n1 : ¬ S kk := fun e => by have := hs _ e; have := h.lo; omega
  have n2 : ¬ S ci := fun e => by have := hs _ e; have := h.lo; omega
  have l1 : kk < w.heap.size := lt_of_cell h.c0
  refine ⟨h.lo, ?_, ?_, ?_, ?_, fun j c hc => ?_⟩
  · rw [hk.cell (p := ⟨kk, _, none⟩) l1 n1]; exact h.c0
  · rw [hk.cell (p := ⟨kk, _, none⟩) l1 n1]; exact h.c1
  · rw [hk.cell (p := ⟨kk, _, none⟩) l1 n1]; exact h.c2
  · rw [hk.cell (p := ⟨kk, _, none⟩) l1 n1]; exact h.c3
  · obtain ⟨h1, h2, h3⟩ := h.cs j c hc
    have l2 : ci < w.heap.size := lt_of_cell h1
    exact ⟨by rw [hk.cell (p := ⟨ci, _, none⟩) l2 n2]; exact h1, by rw [hk.cell (p := ⟨ci, _, none⟩) l2 n2]; exact h2, by rw [hk.cell (p := ⟨ci, _, none⟩) l2 n2]; exact h3⟩
/- the packed types: v: a slice of n sigs -/
def Sg (w : World) (lo : Nat) (v : Value) (n : Nat) (g : Nat → List Nat → Prop) : Prop :=
  ∃ a cap, v = .slice a n cap ∧ ∀ i t, i < n → g i t → ∃ b, a = some ⟨b, 0, none⟩ ∧ lo ≤ b ∧ ∀ (j u : Nat), t[j]? = some u → w.cell? ⟨b, i * 6 + j, none⟩ = some (.int .u8 u)
theorem Sg.keep {S : Nat → Prop} {w w' : World} {lo : Nat} {v : Value} {n : Nat} {g : Nat → List Nat → Prop} (h : Sg w lo v n g) (hk : Kp S w w') (hs : ∀ k, S k → k < lo) : Sg w' lo v n g := by
  obtain ⟨a, cap, h1, h2⟩ := h
  refine ⟨a, cap, h1, fun i t hi ht => ?_⟩
  obtain ⟨b, h3, h4, h5⟩ := h2 i t hi ht
  refine ⟨b, h3, h4, fun j u hu => ?_⟩
  have h6 := h5 j u hu
  rw [hk.cell (p := ⟨b, _, none⟩) (lt_of_cell h6) (fun e => by have := hs _ e; dsimp only at this; omega)]
  exact h6
def gT (C : XC) (i : Nat) (g : List Nat) : Prop := ∃ t, C.M.types[i]? = some t ∧ g = packS t
def gF (C : XC) (f : Nat) (g : List Nat) : Prop := ∃ t, C.M.typeOf (f : Int) = some t ∧ g = packS t
structure Kx (w : World) (N : Xn) (C : XC) : Prop where
  code : ∀ (fn : Nat) (ff : FF), C.fs[fn]? = some ff → w.cell? ⟨N.kc, 0, none⟩ = some (.slice (some ⟨N.kk, 0, none⟩) C.fs.length C.fs.length) ∧ ∃ ci, Kf w N.lo N.kk ci fn ff
  kc : N.lo ≤ N.kc
  imp : ∃ a cap, w.cell? ⟨N.mb, 1, none⟩ = some (.slice a C.M.imports.length cap)
  mb : N.lo ≤ N.mb
  sg : Sg w N.lo N.sv C.M.types.length (gT C)
  fg : Sg w N.lo N.fv (C.M.imports.length + C.M.funcs.length) (gF C)
theorem Kx.keep {S : Nat → Prop} {w w' : World} {N : Xn} {C : XC} (h : Kx w N C) (hk : Kp S w w') (hs : ∀ k, S k → k < N.lo) : Kx w' N C := by
  refine ⟨fun fn ff hf => ?_, h.kc, ?_, h.mb, h.sg.keep hk hs, h.fg.keep hk hs⟩
  · obtain ⟨h1, ci, h2⟩ := h.code fn ff hf
    refine ⟨?_, ci, h2.keep hk hs⟩
    rw [hk.cell (p := ⟨N.kc, 0, none⟩) (lt_of_cell h1) (fun e => by have := hs _ e; have := h.kc; dsimp only at *; omega)]
    exact h1
  · obtain ⟨a, cap, h1⟩ := h.imp
    refine ⟨a, cap, ?_⟩
    rw [hk.cell (p := ⟨N.mb, 1, none⟩) (lt_of_cell h1) (fun e => by have := hs _ e; have := h.mb; dsimp only at *; omega)]
    exact h1
/- the machine's own cells; fr: the frames but the running one, innermost first -/
structure XK (F : Nat → Value) (N : Xn) : Prop where
  f3 : F 3 = .pointer (some ⟨N.sb, 0, none⟩)
  f4 : F 4 = .pointer (some ⟨N.hb, 0, none⟩)
  f5 : F 5 = .pointer (some ⟨N.mb, 0, none⟩)
  f6 : F 6 = .pointer (some ⟨N.kc, 0, none⟩)
  f7 : F 7 = N.sv
  f8 : F 8 = N.fv
  f9 : F 9 = .slice (some ⟨N.kb, 0, none⟩) 120 120
  fz : ∀ i, i < 3 → F i = N.z i
def XF (F : Nat → Value) (fr : List Fr) : Prop := ∀ (i : Nat) (f : Fr), fr.reverse[i]? = some f → F (10 + 3 * i) = .int .i64 f.fn ∧ F (10 + 3 * i + 1) = .int .i64 f.pc ∧ F (10 + 3 * i + 2) = .int .i64 f.base
/- the running frame: its place is not written yet -/
def XH (F : Nat → Value) (d fn base : Nat) : Prop := F (10 + 3 * d) = .int .i64 fn ∧ F (10 + 3 * d + 2) = .int .i64 base
/- amid a run: fr: the frames below; hd: the running one -/
structure Xr (w0 w : World) (N : Xn) (T : Nat → Prop) (ws : List Nat) (fr : List Fr) (hd : Option (Nat × Nat)) (S : Sm) (H : Hm) : Prop where
  kp : Kp (Sx N) w0 w
  x : ∃ F, Blk w N.xb 28 F ∧ XK F N ∧ XF F fr ∧ ∀ fn base, hd = some (fn, base) → XH F fr.length fn base
  st : ∃ K, Blk w N.kb 120 K ∧ ∀ (i v : Nat), ws[i]? = some v → K i = .int .u64 v
  cb : ∃ D, Blk w N.cb 3 D
  gb : ∃ D, Blk w N.gb 6 D
  qb : ∃ D, Blk w N.qb 3 D
  mm : Mm w N.sb N.rb S
  hw : Hw w N.hb N.bb N.tb T H
/- what stands still -/
structure Xq (w0 : World) (N : Xn) (C : XC) (T : Nat → Prop) : Prop where
  dn : Dn N
  kx : Kx w0 N C
  ok : CodeOk C
  new : w0.heap.size ≤ N.cb ∧ w0.heap.size ≤ N.gb ∧ w0.heap.size ≤ N.qb ∧ N.cb ≠ N.gb ∧ N.cb ≠ N.qb ∧ N.gb ≠ N.qb
  lo : N.lo ≤ w0.heap.size
  t : ∀ k, T k → k < w0.heap.size ∧ ¬ Sx N k ∧ k ≠ N.bb
  num : ∀ (o : Nat) (x y : Int), 69 ≤ o → o ≤ 191 → (0 ≤ x ∧ x < 18446744073709551616) → (0 ≤ y ∧ y < 18446744073709551616) → ∀ w, Calls Tryz.prog 104 #[.int .i64 o, .int .u64 x, .int .u64 y] w fun e' w' => e' = .returned (.tuple #[.int .u64 (C.num o x y).1, .int .i64 (C.num o x y).2]) ∧ sameWorld w w'
/- the frame of run -/
def fr42 (k0 k10 k11 k14 k15 k16 : Value) (u : Nat → Value) : Array Value := #[k0, u 1, u 2, u 3, u 4, u 5, u 6, u 7, u 8, u 9, k10, k11, u 12, u 13, k14, k15, k16, u 17, u 18, u 19, u 20, u 21, u 22, u 23, u 24, u 25, u 26, u 27, u 28, u 29, u 30, u 31, u 32, u 33, u 34, u 35, u 36, u 37, u 38, u 39, u 40, u 41, u 42, u 43, u 44, u 45, u 46, u 47, u 48, u 49, u 50, u 51, u 52, u 53, u 54, u 55, u 56, u 57, u 58, u 59, u 60, u 61, u 62, u 63, u 64, u 65, u 66, u 67, u 68, u 69, u 70, u 71, u 72, u 73, u 74, u 75, u 76, u 77, u 78, u 79, u 80, u 81, u 82, u 83, u 84, u 85, u 86, u 87, u 88, u 89, u 90, u 91, u 92, u 93, u 94, u 95, u 96, u 97, u 98, u 99, u 100, u 101, u 102, u 103, u 104, u 105, u 106, u 107, u 108, u 109, u 110, u 111, u 112, u 113, u 114, u 115, u 116, u 117, u 118, u 119, u 120, u 121, u 122, u 123, u 124, u 125, u 126, u 127, u 128, u 129, u 130, u 131, u 132, u 133, u 134, u 135, u 136, u 137, u 138, u 139, u 140, u 141, u 142, u 143, u 144, u 145, u 146, u 147, u 148, u 149, u 150, u 151, u 152, u 153, u 154, u 155, u 156, u 157, u 158, u 159, u 160, u 161, u 162, u 163, u 164, u 165, u 166, u 167, u 168, u 169, u 170, u 171, u 172, u 173, u 174, u 175, u 176, u 177, u 178, u 179, u 180, u 181, u 182, u 183, u 184, u 185, u 186, u 187, u 188, u 189, u 190, u 191, u 192, u 193, u 194, u 195, u 196, u 197, u 198, u 199, u 200, u 201, u 202, u 203, u 204, u 205, u 206, u 207, u 208, u 209, u 210, u 211, u 212, u 213, u 214, u 215, u 216, u 217, u 218, u 219, u 220, u 221, u 222, u 223, u 224, u 225, u 226, u 227, u 228, u 229, u 230, u 231, u 232, u 233, u 234, u 235, u 236, u 237, u 238, u 239, u 240, u 241, u 242, u 243, u 244, u 245, u 246, u 247, u 248, u 249, u 250, u 251, u 252, u 253, u 254, u 255, u 256, u 257, u 258, u 259, u 260, u 261, u 262, u 263, u 264, u 265, u 266, u 267, u 268, u 269, u 270, u 271, u 272, u 273, u 274, u 275, u 276, u 277, u 278, u 279, u 280, u 281, u 282, u 283, u 284, u 285, u 286, u 287, u 288, u 289, u 290, u 291, u 292, u 293, u 294, u 295, u 296, u 297, u 298, u 299, u 300, u 301, u 302, u 303, u 304, u 305, u 306, u 307, u 308, u 309, u 310, u 311, u 312, u 313, u 314, u 315, u 316, u 317, u 318, u 319, u 320, u 321, u 322, u 323, u 324, u 325, u 326, u 327, u 328, u 329, u 330, u 331, u 332, u 333, u 334, u 335, u 336, u 337, u 338, u 339, u 340, u 341, u 342, u 343, u 344, u 345, u 346, u 347, u 348, u 349, u 350, u 351, u 352, u 353, u 354, u 355, u 356, u 357, u 358, u 359, u 360, u 361, u 362, u 363, u 364, u 365, u 366, u 367, u 368, u 369, u 370, u 371, u 372, u 373, u 374, u 375, u 376, u 377, u 378, u 379, u 380, u 381, u 382, u 383, u 384, u 385, u 386, u 387, u 388, u 389, u 390, u 391, u 392, u 393, u 394, u 395, u 396, u 397, u 398, u 399, u 400, u 401, u 402, u 403, u 404, u 405, u 406, u 407, u 408, u 409, u 410, u 411, u 412, u 413, u 414, u 415, u 416, u 417, u 418, u 419, u 420, u 421, u 422, u 423, u 424, u 425, u 426, u 427, u 428, u 429, u 430, u 431, u 432, u 433, u 434, u 435, u 436, u 437, u 438, u 439, u 440, u 441, u 442, u 443, u 444, u 445, u 446, u 447, u 448, u 449, u 450, u 451, u 452, u 453, u 454, u 455, u 456, u 457, u 458, u 459, u 460, u 461, u 462, u 463, u 464, u 465, u 466, u 467, u 468, u 469, u 470, u 471, u 472, u 473, u 474, u 475, u 476, u 477, u 478, u 479, u 480, u 481, u 482, u 483, u 484, u 485, u 486, u 487, u 488, u 489, u 490, u 491, u 492, u 493, u 494, u 495, u 496, u 497, u 498, u 499, u 500, u 501, u 502, u 503, u 504, u 505, u 506, u 507, u 508, u 509, u 510, u 511, u 512, u 513, u 514, u 515, u 516, u 517, u 518, u 519, u 520, u 521, u 522, u 523, u 524, u 525, u 526, u 527, u 528, u 529, u 530, u 531, u 532, u 533, u 534, u 535, u 536, u 537, u 538, u 539, u 540, u 541, u 542, u 543, u 544, u 545, u 546, u 547, u 548, u 549, u 550, u 551, u 552, u 553, u 554, u 555, u 556, u 557, u 558, u 559, u 560, u 561, u 562, u 563, u 564, u 565, u 566, u 567, u 568, u 569, u 570, u 571, u 572, u 573, u 574, u 575, u 576, u 577, u 578, u 579, u 580, u 581, u 582, u 583, u 584, u 585, u 586, u 587, u 588, u 589, u 590, u 591, u 592, u 593, u 594, u 595, u 596, u 597, u 598, u 599, u 600, u 601, u 602, u 603, u 604, u 605, u 606, u 607, u 608, u 609, u 610, u 611, u 612, u 613, u 614, u 615, u 616, u 617, u 618, u 619, u 620, u 621, u 622, u 623, u 624, u 625, u 626, u 627, u 628]
def fx (N : Xn) (C : XC) (u : Nat → Value) : Array Value := fr42 (.pointer (some ⟨N.xb, 0, none⟩)) (.slice (some ⟨N.kb, 0, none⟩) 120 120) (.int .i64 C.M.imports.length) (.pointer (some ⟨N.cb, 0, none⟩)) (.pointer (some ⟨N.gb, 0, none⟩)) (.pointer (some ⟨N.qb, 0, none⟩)) u
/- what the slots hold: all but the place -/
structure Hf (w0 : World) (N : Xn) (C : XC) (u : Nat → Value) (fuel sp base fn d : Nat) (ff : FF) (ci : Nat) : Prop where
  u2 : u 2 = .int .i64 sp
  u3 : u 3 = .int .i64 fuel
  u12 : u 12 = .slice (some ⟨ci, 0, none⟩) ff.cells.length ff.cells.length
  u13 : u 13 = .pointer (some ⟨N.kk, fn * 4, none⟩)
  u20 : u 20 = .int .i64 base
  u21 : u 21 = .int .i64 ((base : Int) + (ff.locals : Int))
  u22 : u 22 = .int .i64 d
  kf : Kf w0 N.lo N.kk ci fn ff
end Go.Proofs.Qxb6500275aGreatDoor
