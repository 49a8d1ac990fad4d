import Derived.Test.Qxb6500275aGreatDoorNod
set_option maxRecDepth 100000
set_option linter.unusedVariables false
set_option linter.unusedSimpArgs false
namespace Go.Proofs.Qxb6500275aGreatDoor
open Go Go.RowKit
def spA (n b0 o x y : Nat) : Bool := if o = b0 then decide (x = 0) else icmpM n (o - (b0 + 1)) x y
def spE (n b0 o x y : Nat) : Nat × Nat := if o ≤ b0 + 2 then (iunM n (o - b0) x, 0) else ibinM n (o - (b0 + 3)) x y
def spG (F : Ieee.Format) (bi can b0 o x y : Nat) : Nat := if o ≤ b0 + 6 then funM F bi can (o - b0) x else fbinX F bi can (o - (b0 + 7)) x y
theorem rr32_all (o : Nat) (h1 : 69 ≤ o) (h2 : o ≤ 79) (a b : Nat) (ha : a < 4294967296) (hb : b < 4294967296) (w : World) : Calls Tryz.prog 168 #[.int .i64 (o : Int), .int .u32 (a : Int), .int .u32 (b : Int)] w fun e w' => e = .returned (.bool (spA 32 69 o a b)) ∧ w' = w := by
  have h : o = 69 ∨ o = 70 ∨ o = 71 ∨ o = 72 ∨ o = 73 ∨ o = 74 ∨ o = 75 ∨ o = 76 ∨ o = 77 ∨ o = 78 ∨ o = 79 := by omega
  rcases h with rfl | rfl | rfl | rfl | rfl | rfl | rfl | rfl | rfl | rfl | rfl
  · unfold spA
    rw [if_pos rfl]
    exact rr32_69 a b ha hb w
  · unfold spA
    rw [if_neg (by decide)]
    exact rr32_70 a b ha hb w
  · unfold spA
    rw [if_neg (by decide)]
    exact rr32_71 a b ha hb w
  · unfold spA
    rw [if_neg (by decide)]
    exact rr32_72 a b ha hb w
  · unfold spA
    rw [if_neg (by decide)]
    exact rr32_73 a b ha hb w
  · unfold spA
    rw [if_neg (by decide)]
    exact rr32_74 a b ha hb w
  · unfold spA
    rw [if_neg (by decide)]
    exact rr32_75 a b ha hb w
  · unfold spA
    rw [if_neg (by decide)]
    exact rr32_76 a b ha hb w
  · unfold spA
    rw [if_neg (by decide)]
    exact rr32_77 a b ha hb w
  · unfold spA
    rw [if_neg (by decide)]
    exact rr32_78 a b ha hb w
  · unfold spA
    rw [if_neg (by decide)]
    exact rr32_79 a b ha hb w
theorem rr64_all (o : Nat) (h1 : 80 ≤ o) (h2 : o ≤ 90) (a b : Nat) (ha : a < 18446744073709551616) (hb : b < 18446744073709551616) (w : World) : Calls Tryz.prog 169 #[.int .i64 (o : Int), .int .u64 (a : Int), .int .u64 (b : Int)] w fun e w' => e = .returned (.bool (spA 64 80 o a b)) ∧ w' = w := by
  have h : o = 80 ∨ o = 81 ∨ o = 82 ∨ o = 83 ∨ o = 84 ∨ o = 85 ∨ o = 86 ∨ o = 87 ∨ o = 88 ∨ o = 89 ∨ o = 90 := by omega
  rcases h with rfl | rfl | rfl | rfl | rfl | rfl | rfl | rfl | rfl | rfl | rfl
  · unfold spA
    rw [if_pos rfl]
    exact rr64_80 a b ha hb w
  · unfold spA
    rw [if_neg (by decide)]
    exact rr64_81 a b ha hb w
  · unfold spA
    rw [if_neg (by decide)]
    exact rr64_82 a b ha hb w
  · unfold spA
    rw [if_neg (by decide)]
    exact rr64_83 a b ha hb w
  · unfold spA
    rw [if_neg (by decide)]
    exact rr64_84 a b ha hb w
  · unfold spA
    rw [if_neg (by decide)]
    exact rr64_85 a b ha hb w
  · unfold spA
    rw [if_neg (by decide)]
    exact rr64_86 a b ha hb w
  · unfold spA
    rw [if_neg (by decide)]
    exact rr64_87 a b ha hb w
  · unfold spA
    rw [if_neg (by decide)]
    exact rr64_88 a b ha hb w
  · unfold spA
    rw [if_neg (by decide)]
    exact rr64_89 a b ha hb w
  · unfold spA
    rw [if_neg (by decide)]
    exact rr64_90 a b ha hb w
theorem rl32_all (o : Nat) (h1 : 91 ≤ o) (h2 : o ≤ 96) (a b : Nat) (ha : a < 4294967296) (hb : b < 4294967296) (w : World) : Calls Tryz.prog 170 #[.int .i64 (o : Int), .float .f32 a, .float .f32 b] w fun e w' => e = .returned (.bool (cmpM Ieee.single (o - 91) a b)) ∧ w' = w := by
  have h : o = 91 ∨ o = 92 ∨ o = 93 ∨ o = 94 ∨ o = 95 ∨ o = 96 := by omega
  rcases h with rfl | rfl | rfl | rfl | rfl | rfl
  · exact rl32_91 a b ha hb w
  · exact rl32_92 a b ha hb w
  · exact rl32_93 a b ha hb w
  · exact rl32_94 a b ha hb w
  · exact rl32_95 a b ha hb w
  · exact rl32_96 a b ha hb w
theorem rl64_all (o : Nat) (h1 : 97 ≤ o) (h2 : o ≤ 102) (a b : Nat) (ha : a < 18446744073709551616) (hb : b < 18446744073709551616) (w : World) : Calls Tryz.prog 172 #[.int .i64 (o : Int), .float .f64 a, .float .f64 b] w fun e w' => e = .returned (.bool (cmpM Ieee.double (o - 97) a b)) ∧ w' = w := by
  have h : o = 97 ∨ o = 98 ∨ o = 99 ∨ o = 100 ∨ o = 101 ∨ o = 102 := by omega
  rcases h with rfl | rfl | rfl | rfl | rfl | rfl
  · exact rl64_97 a b ha hb w
  · exact rl64_98 a b ha hb w
  · exact rl64_99 a b ha hb w
  · exact rl64_100 a b ha hb w
  · exact rl64_101 a b ha hb w
  · exact rl64_102 a b ha hb w
theorem ri32_all (o : Nat) (h1 : 103 ≤ o) (h2 : o ≤ 120) (a b : Nat) (ha : a < 4294967296) (hb : b < 4294967296) (w : World) : Calls Tryz.prog 174 #[.int .i64 (o : Int), .int .u32 (a : Int), .int .u32 (b : Int)] w fun e w' => e = .returned (.tuple #[.int .u32 (((spE 32 103 o a b).1 : Nat) : Int), .int .i64 (((spE 32 103 o a b).2 : Nat) : Int)]) ∧ w' = w := by
  have h : o = 103 ∨ o = 104 ∨ o = 105 ∨ o = 106 ∨ o = 107 ∨ o = 108 ∨ o = 109 ∨ o = 110 ∨ o = 111 ∨ o = 112 ∨ o = 113 ∨ o = 114 ∨ o = 115 ∨ o = 116 ∨ o = 117 ∨ o = 118 ∨ o = 119 ∨ o = 120 := by omega
  rcases h with rfl | rfl | rfl | rfl | rfl | rfl | rfl | rfl | rfl | rfl | rfl | rfl | rfl | rfl | rfl | rfl | rfl | rfl
  · unfold spE
    rw [if_pos (by decide)]
    exact ri32_103 a b ha hb w
  · unfold spE
    rw [if_pos (by decide)]
    exact ri32_104 a b ha hb w
  · unfold spE
    rw [if_pos (by decide)]
    exact ri32_105 a b ha hb w
  · unfold spE
    rw [if_neg (by decide)]
    exact ri32_106 a b ha hb w
  · unfold spE
    rw [if_neg (by decide)]
    exact ri32_107 a b ha hb w
  · unfold spE
    rw [if_neg (by decide)]
    exact ri32_108 a b ha hb w
  · unfold spE
    rw [if_neg (by decide)]
    exact ri32_109 a b ha hb w
  · unfold spE
    rw [if_neg (by decide)]
    exact ri32_110 a b ha hb w
  · unfold spE
    rw [if_neg (by decide)]
    exact ri32_111 a b ha hb w
  · unfold spE
    rw [if_neg (by decide)]
    exact ri32_112 a b ha hb w
  · unfold spE
    rw [if_neg (by decide)]
    exact ri32_113 a b ha hb w
  · unfold spE
    rw [if_neg (by decide)]
    exact ri32_114 a b ha hb w
  · unfold spE
    rw [if_neg (by decide)]
    exact ri32_115 a b ha hb w
  · unfold spE
    rw [if_neg (by decide)]
    exact ri32_116 a b ha hb w
  · unfold spE
    rw [if_neg (by decide)]
    exact ri32_117 a b ha hb w
  · unfold spE
    rw [if_neg (by decide)]
    exact ri32_118 a b ha hb w
  · unfold spE
    rw [if_neg (by decide)]
    exact ri32_119 a b ha hb w
  · unfold spE
    rw [if_neg (by decide)]
    exact ri32_120 a b ha hb w
theorem ri64_all (o : Nat) (h1 : 121 ≤ o) (h2 : o ≤ 138) (a b : Nat) (ha : a < 18446744073709551616) (hb : b < 18446744073709551616) (w : World) : Calls Tryz.prog 175 #[.int .i64 (o : Int), .int .u64 (a : Int), .int .u64 (b : Int)] w fun e w' => e = .returned (.tuple #[.int .u64 (((spE 64 121 o a b).1 : Nat) : Int), .int .i64 (((spE 64 121 o a b).2 : Nat) : Int)]) ∧ w' = w := by
  have h : o = 121 ∨ o = 122 ∨ o = 123 ∨ o = 124 ∨ o = 125 ∨ o = 126 ∨ o = 127 ∨ o = 128 ∨ o = 129 ∨ o = 130 ∨ o = 131 ∨ o = 132 ∨ o = 133 ∨ o = 134 ∨ o = 135 ∨ o = 136 ∨ o = 137 ∨ o = 138 := by omega
  rcases h with rfl | rfl | rfl | rfl | rfl | rfl | rfl | rfl | rfl | rfl | rfl | rfl | rfl | rfl | rfl | rfl | rfl | rfl
  · unfold spE
    rw [if_pos (by decide)]
    exact ri64_121 a b ha hb w
  · unfold spE
    rw [if_pos (by decide)]
    exact ri64_122 a b ha hb w
  · unfold spE
    rw [if_pos (by decide)]
    exact ri64_123 a b ha hb w
  · unfold spE
    rw [if_neg (by decide)]
    exact ri64_124 a b ha hb w
  · unfold spE
    rw [if_neg (by decide)]
    exact ri64_125 a b ha hb w
  · unfold spE
    rw [if_neg (by decide)]
    exact ri64_126 a b ha hb w
  · unfold spE
    rw [if_neg (by decide)]
    exact ri64_127 a b ha hb w
  · unfold spE
    rw [if_neg (by decide)]
    exact ri64_128 a b ha hb w
  · unfold spE
    rw [if_neg (by decide)]
    exact ri64_129 a b ha hb w
  · unfold spE
    rw [if_neg (by decide)]
    exact ri64_130 a b ha hb w
  · unfold spE
    rw [if_neg (by decide)]
    exact ri64_131 a b ha hb w
  · unfold spE
    rw [if_neg (by decide)]
    exact ri64_132 a b ha hb w
  · unfold spE
    rw [if_neg (by decide)]
    exact ri64_133 a b ha hb w
  · unfold spE
    rw [if_neg (by decide)]
    exact ri64_134 a b ha hb w
  · unfold spE
    rw [if_neg (by decide)]
    exact ri64_135 a b ha hb w
  · unfold spE
    rw [if_neg (by decide)]
    exact ri64_136 a b ha hb w
  · unfold spE
    rw [if_neg (by decide)]
    exact ri64_137 a b ha hb w
  · unfold spE
    rw [if_neg (by decide)]
    exact ri64_138 a b ha hb w
theorem rf32_all (o : Nat) (h1 : 139 ≤ o) (h2 : o ≤ 152) (a b : Nat) (ha : a < 4294967296) (hb : b < 4294967296) (w : World) : Calls Tryz.prog 176 #[.int .i64 (o : Int), .int .u32 (a : Int), .int .u32 (b : Int)] w fun e w' => e = .returned (.int .u32 ((spG Ieee.single 127 2143289344 139 o a b : Nat) : Int)) ∧ sameWorld w w' := by
  have h : o = 139 ∨ o = 140 ∨ o = 141 ∨ o = 142 ∨ o = 143 ∨ o = 144 ∨ o = 145 ∨ o = 146 ∨ o = 147 ∨ o = 148 ∨ o = 149 ∨ o = 150 ∨ o = 151 ∨ o = 152 := by omega
  rcases h with rfl | rfl | rfl | rfl | rfl | rfl | rfl | rfl | rfl | rfl | rfl | rfl | rfl | rfl
  · unfold spG
    rw [if_pos (by decide)]
    exact rf32_139 a b ha hb w
  · unfold spG
    rw [if_pos (by decide)]
    exact rf32_140 a b ha hb w
  · unfold spG
    rw [if_pos (by decide)]
    exact rf32_141 a b ha hb w
  · unfold spG
    rw [if_pos (by decide)]
    exact rf32_142 a b ha hb w
  · unfold spG
    rw [if_pos (by decide)]
    exact rf32_143 a b ha hb w
  · unfold spG
    rw [if_pos (by decide)]
    exact rf32_144 a b ha hb w
  · unfold spG
    rw [if_pos (by decide)]
    exact rf32_145 a b ha hb w
  · unfold spG
    rw [if_neg (by decide)]
    exact rf32_146 a b ha hb w
  · unfold spG
    rw [if_neg (by decide)]
    exact rf32_147 a b ha hb w
  · unfold spG
    rw [if_neg (by decide)]
    exact rf32_148 a b ha hb w
  · unfold spG
    rw [if_neg (by decide)]
    exact rf32_149 a b ha hb w
  · unfold spG
    rw [if_neg (by decide)]
    exact rf32_150 a b ha hb w
  · unfold spG
    rw [if_neg (by decide)]
    exact rf32_151 a b ha hb w
  · unfold spG
    rw [if_neg (by decide)]
    exact rf32_152 a b ha hb w
theorem rf64_all (o : Nat) (h1 : 153 ≤ o) (h2 : o ≤ 166) (a b : Nat) (ha : a < 18446744073709551616) (hb : b < 18446744073709551616) (w : World) : Calls Tryz.prog 177 #[.int .i64 (o : Int), .int .u64 (a : Int), .int .u64 (b : Int)] w fun e w' => e = .returned (.int .u64 ((spG Ieee.double 1023 9221120237041090560 153 o a b : Nat) : Int)) ∧ sameWorld w w' := by
  have h : o = 153 ∨ o = 154 ∨ o = 155 ∨ o = 156 ∨ o = 157 ∨ o = 158 ∨ o = 159 ∨ o = 160 ∨ o = 161 ∨ o = 162 ∨ o = 163 ∨ o = 164 ∨ o = 165 ∨ o = 166 := by omega
  rcases h with rfl | rfl | rfl | rfl | rfl | rfl | rfl | rfl | rfl | rfl | rfl | rfl | rfl | rfl
  · unfold spG
    rw [if_pos (by decide)]
    exact rf64_153 a b ha hb w
  · unfold spG
    rw [if_pos (by decide)]
    exact rf64_154 a b ha hb w
  · unfold spG
    rw [if_pos (by decide)]
    exact rf64_155 a b ha hb w
  · unfold spG
    rw [if_pos (by decide)]
    exact rf64_156 a b ha hb w
  · unfold spG
    rw [if_pos (by decide)]
    exact rf64_157 a b ha hb w
  · unfold spG
    rw [if_pos (by decide)]
    exact rf64_158 a b ha hb w
  · unfold spG
    rw [if_pos (by decide)]
    exact rf64_159 a b ha hb w
  · unfold spG
    rw [if_neg (by decide)]
    exact rf64_160 a b ha hb w
  · unfold spG
    rw [if_neg (by decide)]
    exact rf64_161 a b ha hb w
  · unfold spG
    rw [if_neg (by decide)]
    exact rf64_162 a b ha hb w
  · unfold spG
    rw [if_neg (by decide)]
    exact rf64_163 a b ha hb w
  · unfold spG
    rw [if_neg (by decide)]
    exact rf64_164 a b ha hb w
  · unfold spG
    rw [if_neg (by decide)]
    exact rf64_165 a b ha hb w
  · unfold spG
    rw [if_neg (by decide)]
    exact rf64_166 a b ha hb w
theorem rc_all (o : Nat) (h1 : 167 ≤ o) (h2 : o ≤ 191) (a : Nat) (ha : a < 18446744073709551616) (w : World) : Calls Tryz.prog 178 #[.int .i64 (o : Int), .int .u64 (a : Int)] w fun e' w' => e' = .returned (.tuple #[.int .u64 (((convM o (cut32 o a)).1 : Nat) : Int), .int .i64 (((convM o (cut32 o a)).2 : Nat) : Int)]) ∧ sameWorld w w' := by
  have h : o = 167 ∨ o = 168 ∨ o = 169 ∨ o = 170 ∨ o = 171 ∨ o = 172 ∨ o = 173 ∨ o = 174 ∨ o = 175 ∨ o = 176 ∨ o = 177 ∨ o = 178 ∨ o = 179 ∨ o = 180 ∨ o = 181 ∨ o = 182 ∨ o = 183 ∨ o = 184 ∨ o = 185 ∨ o = 186 ∨ o = 187 ∨ o = 188 ∨ o = 189 ∨ o = 190 ∨ o = 191 := by omega
  rcases h with rfl | rfl | rfl | rfl | rfl | rfl | rfl | rfl | rfl | rfl | rfl | rfl | rfl | rfl | rfl | rfl | rfl | rfl | rfl | rfl | rfl | rfl | rfl | rfl | rfl
  · exact rc_167 a ha w
  · exact rc_168 a ha w
  · exact rc_169 a ha w
  · exact rc_170 a ha w
  · exact rc_171 a ha w
  · exact rc_172 a ha w
  · exact rc_173 a ha w
  · exact rc_174 a ha w
  · exact rc_175 a ha w
  · exact rc_176 a ha w
  · exact rc_177 a ha w
  · exact rc_178 a ha w
  · exact rc_179 a ha w
  · exact rc_180 a ha w
  · exact rc_181 a ha w
  · exact rc_182 a ha w
  · exact rc_183 a ha w
  · exact rc_184 a ha w
  · exact rc_185 a ha w
  · exact rc_186 a ha w
  · exact rc_187 a ha w
  · exact rc_188 a ha w
  · exact rc_189 a ha w
  · exact rc_190 a ha w
  · exact rc_191 a ha w
end Go.Proofs.Qxb6500275aGreatDoor
