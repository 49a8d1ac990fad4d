import Derived.Test.Qxb6500274aGreatWEnv
import Derived.Test.Qxb6500274aGreatWSxEnv
namespace Go.Proofs.Qxb6500274aGreat
open Go Go.Sx
set_option maxRecDepth 100000

theorem ty3 : TRow Tryz.prog 3 ⟨Tryz.t3.desc, 1, false, [(.int .i64 0)]⟩ :=
  .make Tryz.t3 (by kernel_rfl) (by kernel_rfl) (by kernel_rfl) (by kernel_rfl) (by kernel_rfl) (by kernel_rfl)
theorem ty115 : TRow Tryz.prog 115 ⟨Tryz.t114.desc, 3, true, [(.int .u8 0), (.int .u32 0), (.int .u64 0)]⟩ :=
  .make Tryz.t115 (by kernel_rfl) (by kernel_rfl) (by kernel_rfl) (by kernel_rfl) (by kernel_rfl) (by kernel_rfl)
theorem ty80 : TRow Tryz.prog 80 ⟨Tryz.t79.desc, 4, true, [(.string ⟨⟨[]⟩⟩), (.int .i64 0), (.int .i64 0), (.pointer none)]⟩ :=
  .make Tryz.t80 (by kernel_rfl) (by kernel_rfl) (by kernel_rfl) (by kernel_rfl) (by kernel_rfl) (by kernel_rfl)
theorem ty92 : TRow Tryz.prog 92 ⟨Tryz.t92.desc, 1, false, [(.slice none 0 0)]⟩ :=
  .make Tryz.t92 (by kernel_rfl) (by kernel_rfl) (by kernel_rfl) (by kernel_rfl) (by kernel_rfl) (by kernel_rfl)
theorem ty5 : TRow Tryz.prog 5 ⟨Tryz.t5.desc, 1, false, [(.int .u8 0)]⟩ :=
  .make Tryz.t5 (by kernel_rfl) (by kernel_rfl) (by kernel_rfl) (by kernel_rfl) (by kernel_rfl) (by kernel_rfl)
theorem ty171 : TRow Tryz.prog 171 ⟨Tryz.t170.desc, 42, true, [(.int .u8 0), (.int .u8 0), (.int .u8 0), (.int .u8 0), (.int .u8 0), (.int .u8 0), (.int .u8 0), (.int .u8 0), (.int .u8 0), (.int .u8 0), (.int .u8 0), (.int .i64 0), (.int .u8 0), (.int .u8 0), (.int .i64 0), (.bool false), (.int .u8 0), (.int .u8 0), (.int .i64 0), (.bool false), (.int .u8 0), (.int .u8 0), (.int .i64 0), (.bool false), (.int .u8 0), (.int .u8 0), (.int .i64 0), (.bool false), (.int .u8 0), (.int .u8 0), (.int .i64 0), (.bool false), (.int .u8 0), (.int .u8 0), (.int .i64 0), (.bool false), (.int .u8 0), (.int .u8 0), (.int .i64 0), (.bool false), (.int .i64 0), (.int .i64 0)]⟩ :=
  .make Tryz.t171 (by kernel_rfl) (by kernel_rfl) (by kernel_rfl) (by kernel_rfl) (by kernel_rfl) (by kernel_rfl)
theorem ty9 : TRow Tryz.prog 9 ⟨Tryz.t9.desc, 1, false, [(.string ⟨⟨[]⟩⟩)]⟩ :=
  .make Tryz.t9 (by kernel_rfl) (by kernel_rfl) (by kernel_rfl) (by kernel_rfl) (by kernel_rfl) (by kernel_rfl)
theorem ty206 : TRow Tryz.prog 206 ⟨Tryz.t205.desc, 54, true, [(.slice none 0 0), (.int .i64 0), (.int .u8 0), (.int .i64 0), (.int .i64 0), (.int .i64 0), (.int .i64 0), (.int .i64 0), (.int .i64 0), (.int .u8 0), (.int .i64 0), (.int .i64 0), (.int .i64 0), (.int .i64 0), (.int .i64 0), (.int .i64 0), (.int .u8 0), (.int .i64 0), (.int .i64 0), (.int .i64 0), (.int .i64 0), (.int .i64 0), (.int .i64 0), (.int .u8 0), (.int .i64 0), (.int .i64 0), (.int .i64 0), (.int .i64 0), (.int .i64 0), (.int .i64 0), (.int .u8 0), (.int .i64 0), (.int .i64 0), (.int .i64 0), (.int .i64 0), (.int .i64 0), (.int .i64 0), (.int .u8 0), (.int .i64 0), (.int .i64 0), (.int .i64 0), (.int .i64 0), (.int .i64 0), (.int .i64 0), (.int .u8 0), (.int .i64 0), (.int .i64 0), (.int .i64 0), (.int .i64 0), (.int .i64 0), (.int .i64 0), (.int .i64 0), (.int .i64 0), (.int .i64 0)]⟩ :=
  .make Tryz.t206 (by kernel_rfl) (by kernel_rfl) (by kernel_rfl) (by kernel_rfl) (by kernel_rfl) (by kernel_rfl)
theorem ty108 : TRow Tryz.prog 108 ⟨Tryz.t107.desc, 4, true, [(.int .i64 0), (.string ⟨⟨[]⟩⟩), (.slice none 0 0), (.slice none 0 0)]⟩ :=
  .make Tryz.t108 (by kernel_rfl) (by kernel_rfl) (by kernel_rfl) (by kernel_rfl) (by kernel_rfl) (by kernel_rfl)
theorem ty96 : TRow Tryz.prog 96 ⟨Tryz.t95.desc, 23, true, [(.int .i64 0), (.int .i64 0), (.int .i64 0), (.int .i64 0), (.int .i64 0), (.int .i64 0), (.int .i64 0), (.int .i64 0), (.int .i64 0), (.int .u8 0), (.int .u8 0), (.int .u8 0), (.int .u8 0), (.int .u8 0), (.int .u8 0), (.int .i64 0), (.slice none 0 0), (.int .i64 0), (.slice none 0 0), (.int .i64 0), (.slice none 0 0), (.slice none 0 0), (.slice none 0 0)]⟩ :=
  .make Tryz.t96 (by kernel_rfl) (by kernel_rfl) (by kernel_rfl) (by kernel_rfl) (by kernel_rfl) (by kernel_rfl)
theorem ty89 : TRow Tryz.prog 89 ⟨Tryz.t88.desc, 12, true, [(.slice none 0 0), (.slice none 0 0), (.slice none 0 0), (.int .i64 0), (.int .i64 0), (.int .i64 0), (.int .i64 0), (.slice none 0 0), (.slice none 0 0), (.int .i64 0), (.slice none 0 0), (.slice none 0 0)]⟩ :=
  .make Tryz.t89 (by kernel_rfl) (by kernel_rfl) (by kernel_rfl) (by kernel_rfl) (by kernel_rfl) (by kernel_rfl)
theorem ty113 : TRow Tryz.prog 113 ⟨Tryz.t113.desc, 1, false, [(.int .u32 0)]⟩ :=
  .make Tryz.t113 (by kernel_rfl) (by kernel_rfl) (by kernel_rfl) (by kernel_rfl) (by kernel_rfl) (by kernel_rfl)
theorem ty203 : TRow Tryz.prog 203 ⟨Tryz.t202.desc, 7, true, [(.int .u8 0), (.int .i64 0), (.int .i64 0), (.int .i64 0), (.int .i64 0), (.int .i64 0), (.int .i64 0)]⟩ :=
  .make Tryz.t203 (by kernel_rfl) (by kernel_rfl) (by kernel_rfl) (by kernel_rfl) (by kernel_rfl) (by kernel_rfl)
theorem ty82 : TRow Tryz.prog 82 ⟨Tryz.t82.desc, 1, false, [(.slice none 0 0)]⟩ :=
  .make Tryz.t82 (by kernel_rfl) (by kernel_rfl) (by kernel_rfl) (by kernel_rfl) (by kernel_rfl) (by kernel_rfl)
theorem ty83 : TRow Tryz.prog 83 ⟨Tryz.t83.desc, 1, false, [(.slice none 0 0)]⟩ :=
  .make Tryz.t83 (by kernel_rfl) (by kernel_rfl) (by kernel_rfl) (by kernel_rfl) (by kernel_rfl) (by kernel_rfl)
theorem ty168 : TRow Tryz.prog 168 ⟨Tryz.t167.desc, 4, true, [(.int .u8 0), (.int .u8 0), (.int .i64 0), (.bool false)]⟩ :=
  .make Tryz.t168 (by kernel_rfl) (by kernel_rfl) (by kernel_rfl) (by kernel_rfl) (by kernel_rfl) (by kernel_rfl)
theorem ty81 : TRow Tryz.prog 81 ⟨Tryz.t81.desc, 1, false, [(.slice none 0 0)]⟩ :=
  .make Tryz.t81 (by kernel_rfl) (by kernel_rfl) (by kernel_rfl) (by kernel_rfl) (by kernel_rfl) (by kernel_rfl)
theorem ty47 : TRow Tryz.prog 47 ⟨Tryz.t47.desc, 1, false, [(.int .u64 0)]⟩ :=
  .make Tryz.t47 (by kernel_rfl) (by kernel_rfl) (by kernel_rfl) (by kernel_rfl) (by kernel_rfl) (by kernel_rfl)
theorem ty129 : TRow Tryz.prog 129 ⟨Tryz.t128.desc, 3, true, [(.string ⟨⟨[]⟩⟩), (.int .u8 0), (.int .u32 0)]⟩ :=
  .make Tryz.t129 (by kernel_rfl) (by kernel_rfl) (by kernel_rfl) (by kernel_rfl) (by kernel_rfl) (by kernel_rfl)
theorem ty164 : TRow Tryz.prog 164 ⟨Tryz.t91.desc, 6, true, [(.int .u8 0), (.int .u8 0), (.int .u8 0), (.int .u8 0), (.int .u8 0), (.int .u8 0)]⟩ :=
  .make Tryz.t164 (by kernel_rfl) (by kernel_rfl) (by kernel_rfl) (by kernel_rfl) (by kernel_rfl) (by kernel_rfl)
theorem ty166 : TRow Tryz.prog 166 ⟨Tryz.t166.desc, 11, true, [(.int .u8 0), (.int .u8 0), (.int .u8 0), (.int .u8 0), (.int .u8 0), (.int .u8 0), (.int .u8 0), (.int .u8 0), (.int .u8 0), (.int .u8 0), (.int .u8 0)]⟩ :=
  .make Tryz.t166 (by kernel_rfl) (by kernel_rfl) (by kernel_rfl) (by kernel_rfl) (by kernel_rfl) (by kernel_rfl)
theorem ty85 : TRow Tryz.prog 85 ⟨Tryz.t85.desc, 1, false, [(.slice none 0 0)]⟩ :=
  .make Tryz.t85 (by kernel_rfl) (by kernel_rfl) (by kernel_rfl) (by kernel_rfl) (by kernel_rfl) (by kernel_rfl)
theorem ty169 : TRow Tryz.prog 169 ⟨Tryz.t169.desc, 28, true, [(.int .u8 0), (.int .u8 0), (.int .i64 0), (.bool false), (.int .u8 0), (.int .u8 0), (.int .i64 0), (.bool false), (.int .u8 0), (.int .u8 0), (.int .i64 0), (.bool false), (.int .u8 0), (.int .u8 0), (.int .i64 0), (.bool false), (.int .u8 0), (.int .u8 0), (.int .i64 0), (.bool false), (.int .u8 0), (.int .u8 0), (.int .i64 0), (.bool false), (.int .u8 0), (.int .u8 0), (.int .i64 0), (.bool false)]⟩ :=
  .make Tryz.t169 (by kernel_rfl) (by kernel_rfl) (by kernel_rfl) (by kernel_rfl) (by kernel_rfl) (by kernel_rfl)
theorem ty147 : TRow Tryz.prog 147 ⟨Tryz.t147.desc, 1, false, [(.slice none 0 0)]⟩ :=
  .make Tryz.t147 (by kernel_rfl) (by kernel_rfl) (by kernel_rfl) (by kernel_rfl) (by kernel_rfl) (by kernel_rfl)
theorem ty204 : TRow Tryz.prog 204 ⟨Tryz.t204.desc, 49, true, [(.int .u8 0), (.int .i64 0), (.int .i64 0), (.int .i64 0), (.int .i64 0), (.int .i64 0), (.int .i64 0), (.int .u8 0), (.int .i64 0), (.int .i64 0), (.int .i64 0), (.int .i64 0), (.int .i64 0), (.int .i64 0), (.int .u8 0), (.int .i64 0), (.int .i64 0), (.int .i64 0), (.int .i64 0), (.int .i64 0), (.int .i64 0), (.int .u8 0), (.int .i64 0), (.int .i64 0), (.int .i64 0), (.int .i64 0), (.int .i64 0), (.int .i64 0), (.int .u8 0), (.int .i64 0), (.int .i64 0), (.int .i64 0), (.int .i64 0), (.int .i64 0), (.int .i64 0), (.int .u8 0), (.int .i64 0), (.int .i64 0), (.int .i64 0), (.int .i64 0), (.int .i64 0), (.int .i64 0), (.int .u8 0), (.int .i64 0), (.int .i64 0), (.int .i64 0), (.int .i64 0), (.int .i64 0), (.int .i64 0)]⟩ :=
  .make Tryz.t204 (by kernel_rfl) (by kernel_rfl) (by kernel_rfl) (by kernel_rfl) (by kernel_rfl) (by kernel_rfl)
theorem ty153 : TRow Tryz.prog 153 ⟨Tryz.t152.desc, 28, true, [(.pointer none), (.pointer none), (.pointer none), (.pointer none), (.pointer none), (.pointer none), (.pointer none), (.slice none 0 0), (.slice none 0 0), (.slice none 0 0), (.int .i64 0), (.int .i64 0), (.int .i64 0), (.int .i64 0), (.int .i64 0), (.int .i64 0), (.int .i64 0), (.int .i64 0), (.int .i64 0), (.int .i64 0), (.int .i64 0), (.int .i64 0), (.int .i64 0), (.int .i64 0), (.int .i64 0), (.int .i64 0), (.int .i64 0), (.int .i64 0)]⟩ :=
  .make Tryz.t153 (by kernel_rfl) (by kernel_rfl) (by kernel_rfl) (by kernel_rfl) (by kernel_rfl) (by kernel_rfl)
theorem ty84 : TRow Tryz.prog 84 ⟨Tryz.t84.desc, 1, false, [(.slice none 0 0)]⟩ :=
  .make Tryz.t84 (by kernel_rfl) (by kernel_rfl) (by kernel_rfl) (by kernel_rfl) (by kernel_rfl) (by kernel_rfl)
theorem ty110 : TRow Tryz.prog 110 ⟨Tryz.t109.desc, 3, true, [(.string ⟨⟨[]⟩⟩), (.string ⟨⟨[]⟩⟩), (.int .i64 0)]⟩ :=
  .make Tryz.t110 (by kernel_rfl) (by kernel_rfl) (by kernel_rfl) (by kernel_rfl) (by kernel_rfl) (by kernel_rfl)
theorem ty117 : TRow Tryz.prog 117 ⟨Tryz.t116.desc, 5, true, [(.int .u8 0), (.bool false), (.int .u8 0), (.int .u32 0), (.int .u64 0)]⟩ :=
  .make Tryz.t117 (by kernel_rfl) (by kernel_rfl) (by kernel_rfl) (by kernel_rfl) (by kernel_rfl) (by kernel_rfl)
theorem ty94 : TRow Tryz.prog 94 ⟨Tryz.t94.desc, 1, false, [(.slice none 0 0)]⟩ :=
  .make Tryz.t94 (by kernel_rfl) (by kernel_rfl) (by kernel_rfl) (by kernel_rfl) (by kernel_rfl) (by kernel_rfl)
theorem ty216 : TRow Tryz.prog 216 ⟨Tryz.t215.desc, 4, true, [(.int .i64 0), (.int .i64 0), (.int .i64 0), (.slice none 0 0)]⟩ :=
  .make Tryz.t216 (by kernel_rfl) (by kernel_rfl) (by kernel_rfl) (by kernel_rfl) (by kernel_rfl) (by kernel_rfl)
theorem ty87 : TRow Tryz.prog 87 ⟨Tryz.t87.desc, 1, false, [(.slice none 0 0)]⟩ :=
  .make Tryz.t87 (by kernel_rfl) (by kernel_rfl) (by kernel_rfl) (by kernel_rfl) (by kernel_rfl) (by kernel_rfl)
theorem ty25 : TRow Tryz.prog 25 ⟨Tryz.t25.desc, 1, false, [(.pointer none)]⟩ :=
  .make Tryz.t25 (by kernel_rfl) (by kernel_rfl) (by kernel_rfl) (by kernel_rfl) (by kernel_rfl) (by kernel_rfl)
theorem ty201 : TRow Tryz.prog 201 ⟨Tryz.t200.desc, 17, true, [(.slice none 0 0), (.bool false), (.slice none 0 0), (.int .i64 0), (.int .i64 0), (.int .i64 0), (.int .i64 0), (.int .i64 0), (.int .i64 0), (.int .i64 0), (.int .i64 0), (.int .i64 0), (.int .u64 0), (.int .u64 0), (.int .u64 0), (.int .u64 0), (.int .i64 0)]⟩ :=
  .make Tryz.t201 (by kernel_rfl) (by kernel_rfl) (by kernel_rfl) (by kernel_rfl) (by kernel_rfl) (by kernel_rfl)
theorem ty97 : TRow Tryz.prog 97 ⟨Tryz.t97.desc, 1, false, [.nilFunc]⟩ :=
  .make Tryz.t97 (by kernel_rfl) (by kernel_rfl) (by kernel_rfl) (by kernel_rfl) (by kernel_rfl) (by kernel_rfl)
theorem ty91 : TRow Tryz.prog 91 ⟨Tryz.t91.desc, 6, true, [(.int .u8 0), (.int .u8 0), (.int .u8 0), (.int .u8 0), (.int .u8 0), (.int .u8 0)]⟩ :=
  .make Tryz.t91 (by kernel_rfl) (by kernel_rfl) (by kernel_rfl) (by kernel_rfl) (by kernel_rfl) (by kernel_rfl)
theorem ty207 : TRow Tryz.prog 207 ⟨Tryz.t207.desc, 1, false, [(.slice none 0 0)]⟩ :=
  .make Tryz.t207 (by kernel_rfl) (by kernel_rfl) (by kernel_rfl) (by kernel_rfl) (by kernel_rfl) (by kernel_rfl)
theorem ty34 : TRow Tryz.prog 34 ⟨Tryz.t34.desc, 1, false, [(.pointer none)]⟩ :=
  .make Tryz.t34 (by kernel_rfl) (by kernel_rfl) (by kernel_rfl) (by kernel_rfl) (by kernel_rfl) (by kernel_rfl)
theorem ty211 : TRow Tryz.prog 211 ⟨Tryz.t211.desc, 1, false, [(.slice none 0 0)]⟩ :=
  .make Tryz.t211 (by kernel_rfl) (by kernel_rfl) (by kernel_rfl) (by kernel_rfl) (by kernel_rfl) (by kernel_rfl)
theorem ty2 : TRow Tryz.prog 2 ⟨Tryz.t2.desc, 1, false, [(.int .i64 0)]⟩ :=
  .make Tryz.t2 (by kernel_rfl) (by kernel_rfl) (by kernel_rfl) (by kernel_rfl) (by kernel_rfl) (by kernel_rfl)
theorem ty93 : TRow Tryz.prog 93 ⟨Tryz.t93.desc, 1, false, [(.slice none 0 0)]⟩ :=
  .make Tryz.t93 (by kernel_rfl) (by kernel_rfl) (by kernel_rfl) (by kernel_rfl) (by kernel_rfl) (by kernel_rfl)
theorem ty122 : TRow Tryz.prog 122 ⟨Tryz.t121.desc, 4, true, [(.int .u8 0), (.int .u32 0), (.int .u64 0), (.string ⟨⟨[]⟩⟩)]⟩ :=
  .make Tryz.t122 (by kernel_rfl) (by kernel_rfl) (by kernel_rfl) (by kernel_rfl) (by kernel_rfl) (by kernel_rfl)
theorem ty90 : TRow Tryz.prog 90 ⟨Tryz.t90.desc, 8, true, [(.int .i64 0), (.int .i64 0), (.int .i64 0), (.int .i64 0), (.int .i64 0), (.int .i64 0), (.int .i64 0), (.int .i64 0)]⟩ :=
  .make Tryz.t90 (by kernel_rfl) (by kernel_rfl) (by kernel_rfl) (by kernel_rfl) (by kernel_rfl) (by kernel_rfl)
theorem ty210 : TRow Tryz.prog 210 ⟨Tryz.t209.desc, 11, true, [(.slice none 0 0), (.int .u64 0), (.int .u64 0), (.int .u64 0), (.int .u64 0), (.int .u64 0), (.int .u64 0), (.int .i64 0), (.int .i64 0), (.slice none 0 0), (.int .i64 0)]⟩ :=
  .make Tryz.t210 (by kernel_rfl) (by kernel_rfl) (by kernel_rfl) (by kernel_rfl) (by kernel_rfl) (by kernel_rfl)
theorem ty99 : TRow Tryz.prog 99 ⟨Tryz.t99.desc, 12, true, [.nilFunc, .nilFunc, .nilFunc, .nilFunc, .nilFunc, .nilFunc, .nilFunc, .nilFunc, .nilFunc, .nilFunc, .nilFunc, .nilFunc]⟩ :=
  .make Tryz.t99 (by kernel_rfl) (by kernel_rfl) (by kernel_rfl) (by kernel_rfl) (by kernel_rfl) (by kernel_rfl)
theorem ty213 : TRow Tryz.prog 213 ⟨Tryz.t212.desc, 1, true, [(.slice none 0 0)]⟩ :=
  .make Tryz.t213 (by kernel_rfl) (by kernel_rfl) (by kernel_rfl) (by kernel_rfl) (by kernel_rfl) (by kernel_rfl)
theorem ty4 : TRow Tryz.prog 4 ⟨Tryz.t4.desc, 1, false, [(.bool false)]⟩ :=
  .make Tryz.t4 (by kernel_rfl) (by kernel_rfl) (by kernel_rfl) (by kernel_rfl) (by kernel_rfl) (by kernel_rfl)
theorem ty139 : TRow Tryz.prog 139 ⟨Tryz.t139.desc, 1, false, [(.pointer none)]⟩ :=
  .make Tryz.t139 (by kernel_rfl) (by kernel_rfl) (by kernel_rfl) (by kernel_rfl) (by kernel_rfl) (by kernel_rfl)
theorem ty290 : TRow Tryz.prog 290 ⟨Tryz.t290.desc, 4, true, [(.int .u8 0), (.int .u8 0), (.int .u8 0), (.int .u8 0)]⟩ :=
  .make Tryz.t290 (by kernel_rfl) (by kernel_rfl) (by kernel_rfl) (by kernel_rfl) (by kernel_rfl) (by kernel_rfl)
theorem ty148 : TRow Tryz.prog 148 ⟨Tryz.t148.desc, 1, false, [(.slice none 0 0)]⟩ :=
  .make Tryz.t148 (by kernel_rfl) (by kernel_rfl) (by kernel_rfl) (by kernel_rfl) (by kernel_rfl) (by kernel_rfl)
theorem ty86 : TRow Tryz.prog 86 ⟨Tryz.t86.desc, 1, false, [(.slice none 0 0)]⟩ :=
  .make Tryz.t86 (by kernel_rfl) (by kernel_rfl) (by kernel_rfl) (by kernel_rfl) (by kernel_rfl) (by kernel_rfl)
theorem ty218 : TRow Tryz.prog 218 ⟨Tryz.t217.desc, 1, false, [.nilIface]⟩ :=
  .make Tryz.t218 (by kernel_rfl) (by kernel_rfl) (by kernel_rfl) (by kernel_rfl) (by kernel_rfl) (by kernel_rfl)
theorem ty199 : TRow Tryz.prog 199 ⟨Tryz.t199.desc, 4, true, [(.int .u64 0), (.int .u64 0), (.int .u64 0), (.int .u64 0)]⟩ :=
  .make Tryz.t199 (by kernel_rfl) (by kernel_rfl) (by kernel_rfl) (by kernel_rfl) (by kernel_rfl) (by kernel_rfl)
theorem ty150 : TRow Tryz.prog 150 ⟨Tryz.t149.desc, 3, true, [(.int .i64 0), (.int .i64 0), (.int .i64 0)]⟩ :=
  .make Tryz.t150 (by kernel_rfl) (by kernel_rfl) (by kernel_rfl) (by kernel_rfl) (by kernel_rfl) (by kernel_rfl)
theorem ty143 : TRow Tryz.prog 143 ⟨Tryz.t143.desc, 1, false, [(.pointer none)]⟩ :=
  .make Tryz.t143 (by kernel_rfl) (by kernel_rfl) (by kernel_rfl) (by kernel_rfl) (by kernel_rfl) (by kernel_rfl)
theorem ty33 : TRow Tryz.prog 33 ⟨Tryz.t3.desc, 1, false, [(.int .i64 0)]⟩ :=
  .make Tryz.t33 (by kernel_rfl) (by kernel_rfl) (by kernel_rfl) (by kernel_rfl) (by kernel_rfl) (by kernel_rfl)
theorem ty146 : TRow Tryz.prog 146 ⟨Tryz.t146.desc, 1, false, [(.pointer none)]⟩ :=
  .make Tryz.t146 (by kernel_rfl) (by kernel_rfl) (by kernel_rfl) (by kernel_rfl) (by kernel_rfl) (by kernel_rfl)
theorem ty26 : TRow Tryz.prog 26 ⟨Tryz.t26.desc, 1, false, [(.pointer none)]⟩ :=
  .make Tryz.t26 (by kernel_rfl) (by kernel_rfl) (by kernel_rfl) (by kernel_rfl) (by kernel_rfl) (by kernel_rfl)
theorem ty141 : TRow Tryz.prog 141 ⟨Tryz.t141.desc, 1, false, [(.pointer none)]⟩ :=
  .make Tryz.t141 (by kernel_rfl) (by kernel_rfl) (by kernel_rfl) (by kernel_rfl) (by kernel_rfl) (by kernel_rfl)
theorem ty222 : TRow Tryz.prog 222 ⟨Tryz.t221.desc, 1, true, [.nilFunc]⟩ :=
  .make Tryz.t222 (by kernel_rfl) (by kernel_rfl) (by kernel_rfl) (by kernel_rfl) (by kernel_rfl) (by kernel_rfl)
theorem ty220 : TRow Tryz.prog 220 ⟨Tryz.t220.desc, 1, false, [.nilFunc]⟩ :=
  .make Tryz.t220 (by kernel_rfl) (by kernel_rfl) (by kernel_rfl) (by kernel_rfl) (by kernel_rfl) (by kernel_rfl)
theorem ty151 : TRow Tryz.prog 151 ⟨Tryz.t151.desc, 18, true, [(.int .i64 0), (.int .i64 0), (.int .i64 0), (.int .i64 0), (.int .i64 0), (.int .i64 0), (.int .i64 0), (.int .i64 0), (.int .i64 0), (.int .i64 0), (.int .i64 0), (.int .i64 0), (.int .i64 0), (.int .i64 0), (.int .i64 0), (.int .i64 0), (.int .i64 0), (.int .i64 0)]⟩ :=
  .make Tryz.t151 (by kernel_rfl) (by kernel_rfl) (by kernel_rfl) (by kernel_rfl) (by kernel_rfl) (by kernel_rfl)
theorem ty20 : TRow Tryz.prog 20 ⟨Tryz.t20.desc, 1, false, [.nilIface]⟩ :=
  .make Tryz.t20 (by kernel_rfl) (by kernel_rfl) (by kernel_rfl) (by kernel_rfl) (by kernel_rfl) (by kernel_rfl)
theorem ty21 : TRow Tryz.prog 21 ⟨Tryz.t21.desc, 1, false, [(.int .i32 0)]⟩ :=
  .make Tryz.t21 (by kernel_rfl) (by kernel_rfl) (by kernel_rfl) (by kernel_rfl) (by kernel_rfl) (by kernel_rfl)
theorem ty22 : TRow Tryz.prog 22 ⟨Tryz.t22.desc, 1, false, [(.slice none 0 0)]⟩ :=
  .make Tryz.t22 (by kernel_rfl) (by kernel_rfl) (by kernel_rfl) (by kernel_rfl) (by kernel_rfl) (by kernel_rfl)
theorem ty32 : TRow Tryz.prog 32 ⟨Tryz.t31.desc, 6, true, [(.int .i64 0), (.int .i64 0), (.int .i64 0), (.int .i64 0), (.string ⟨⟨[]⟩⟩), (.string ⟨⟨[]⟩⟩)]⟩ :=
  .make Tryz.t32 (by kernel_rfl) (by kernel_rfl) (by kernel_rfl) (by kernel_rfl) (by kernel_rfl) (by kernel_rfl)
theorem ty43 : TRow Tryz.prog 43 ⟨Tryz.t43.desc, 1, false, [(.pointer none)]⟩ :=
  .make Tryz.t43 (by kernel_rfl) (by kernel_rfl) (by kernel_rfl) (by kernel_rfl) (by kernel_rfl) (by kernel_rfl)
theorem ty46 : TRow Tryz.prog 46 ⟨Tryz.t46.desc, 1, false, [(.pointer none)]⟩ :=
  .make Tryz.t46 (by kernel_rfl) (by kernel_rfl) (by kernel_rfl) (by kernel_rfl) (by kernel_rfl) (by kernel_rfl)
theorem ty49 : TRow Tryz.prog 49 ⟨Tryz.t48.desc, 2, true, [(.int .u64 0), (.int .u64 0)]⟩ :=
  .make Tryz.t49 (by kernel_rfl) (by kernel_rfl) (by kernel_rfl) (by kernel_rfl) (by kernel_rfl) (by kernel_rfl)
theorem ty54 : TRow Tryz.prog 54 ⟨Tryz.t53.desc, 4, true, [(.int .i64 0), (.int .i64 0), (.int .i64 0), (.string ⟨⟨[]⟩⟩)]⟩ :=
  .make Tryz.t54 (by kernel_rfl) (by kernel_rfl) (by kernel_rfl) (by kernel_rfl) (by kernel_rfl) (by kernel_rfl)
theorem ty58 : TRow Tryz.prog 58 ⟨Tryz.t58.desc, 1, false, [(.pointer none)]⟩ :=
  .make Tryz.t58 (by kernel_rfl) (by kernel_rfl) (by kernel_rfl) (by kernel_rfl) (by kernel_rfl) (by kernel_rfl)
theorem ty60 : TRow Tryz.prog 60 ⟨Tryz.t59.desc, 2, true, [(.string ⟨⟨[]⟩⟩), (.string ⟨⟨[]⟩⟩)]⟩ :=
  .make Tryz.t60 (by kernel_rfl) (by kernel_rfl) (by kernel_rfl) (by kernel_rfl) (by kernel_rfl) (by kernel_rfl)
theorem ty76 : TRow Tryz.prog 76 ⟨Tryz.t75.desc, 2, true, [(.int .i64 0), (.int .i64 0)]⟩ :=
  .make Tryz.t76 (by kernel_rfl) (by kernel_rfl) (by kernel_rfl) (by kernel_rfl) (by kernel_rfl) (by kernel_rfl)
theorem ty78 : TRow Tryz.prog 78 ⟨Tryz.t78.desc, 1, false, [(.pointer none)]⟩ :=
  .make Tryz.t78 (by kernel_rfl) (by kernel_rfl) (by kernel_rfl) (by kernel_rfl) (by kernel_rfl) (by kernel_rfl)
theorem ty106 : TRow Tryz.prog 106 ⟨Tryz.t106.desc, 1, false, [(.pointer none)]⟩ :=
  .make Tryz.t106 (by kernel_rfl) (by kernel_rfl) (by kernel_rfl) (by kernel_rfl) (by kernel_rfl) (by kernel_rfl)
theorem ty119 : TRow Tryz.prog 119 ⟨Tryz.t118.desc, 4, true, [(.int .u8 0), (.int .u32 0), (.int .u64 0), (.slice none 0 0)]⟩ :=
  .make Tryz.t119 (by kernel_rfl) (by kernel_rfl) (by kernel_rfl) (by kernel_rfl) (by kernel_rfl) (by kernel_rfl)
theorem ty165 : TRow Tryz.prog 165 ⟨Tryz.t165.desc, 1, false, [(.int .u64 0)]⟩ :=
  .make Tryz.t165 (by kernel_rfl) (by kernel_rfl) (by kernel_rfl) (by kernel_rfl) (by kernel_rfl) (by kernel_rfl)
theorem ty172 : TRow Tryz.prog 172 ⟨Tryz.t172.desc, 1, false, [(.slice none 0 0)]⟩ :=
  .make Tryz.t172 (by kernel_rfl) (by kernel_rfl) (by kernel_rfl) (by kernel_rfl) (by kernel_rfl) (by kernel_rfl)
theorem ty198 : TRow Tryz.prog 198 ⟨Tryz.t198.desc, 16, true, [(.int .u8 0), (.int .u8 0), (.int .u8 0), (.int .u8 0), (.int .u8 0), (.int .u8 0), (.int .u8 0), (.int .u8 0), (.int .u8 0), (.int .u8 0), (.int .u8 0), (.int .u8 0), (.int .u8 0), (.int .u8 0), (.int .u8 0), (.int .u8 0)]⟩ :=
  .make Tryz.t198 (by kernel_rfl) (by kernel_rfl) (by kernel_rfl) (by kernel_rfl) (by kernel_rfl) (by kernel_rfl)
theorem ty208 : TRow Tryz.prog 208 ⟨Tryz.t208.desc, 6, true, [(.int .u64 0), (.int .u64 0), (.int .u64 0), (.int .u64 0), (.int .u64 0), (.int .u64 0)]⟩ :=
  .make Tryz.t208 (by kernel_rfl) (by kernel_rfl) (by kernel_rfl) (by kernel_rfl) (by kernel_rfl) (by kernel_rfl)
theorem ty223 : TRow Tryz.prog 223 ⟨Tryz.t223.desc, 1, false, [(.pointer none)]⟩ :=
  .make Tryz.t223 (by kernel_rfl) (by kernel_rfl) (by kernel_rfl) (by kernel_rfl) (by kernel_rfl) (by kernel_rfl)
theorem ty237 : TRow Tryz.prog 237 ⟨Tryz.t237.desc, 1, false, [(.float .f32 0)]⟩ :=
  .make Tryz.t237 (by kernel_rfl) (by kernel_rfl) (by kernel_rfl) (by kernel_rfl) (by kernel_rfl) (by kernel_rfl)
theorem ty240 : TRow Tryz.prog 240 ⟨Tryz.t240.desc, 1, false, [(.float .f64 0)]⟩ :=
  .make Tryz.t240 (by kernel_rfl) (by kernel_rfl) (by kernel_rfl) (by kernel_rfl) (by kernel_rfl) (by kernel_rfl)
theorem ty270 : TRow Tryz.prog 270 ⟨Tryz.t270.desc, 1, false, [(.map none)]⟩ :=
  .make Tryz.t270 (by kernel_rfl) (by kernel_rfl) (by kernel_rfl) (by kernel_rfl) (by kernel_rfl) (by kernel_rfl)
theorem ty276 : TRow Tryz.prog 276 ⟨Tryz.t275.desc, 0, true, []⟩ :=
  .make Tryz.t276 (by kernel_rfl) (by kernel_rfl) (by kernel_rfl) (by kernel_rfl) (by kernel_rfl) (by kernel_rfl)
theorem ty278 : TRow Tryz.prog 278 ⟨Tryz.t277.desc, 1, false, [.nilFunc]⟩ :=
  .make Tryz.t278 (by kernel_rfl) (by kernel_rfl) (by kernel_rfl) (by kernel_rfl) (by kernel_rfl) (by kernel_rfl)
theorem ty279 : TRow Tryz.prog 279 ⟨Tryz.t3.desc, 1, false, [(.int .i64 0)]⟩ :=
  .make Tryz.t279 (by kernel_rfl) (by kernel_rfl) (by kernel_rfl) (by kernel_rfl) (by kernel_rfl) (by kernel_rfl)
theorem ty282 : TRow Tryz.prog 282 ⟨Tryz.t282.desc, 1, false, [(.int .i8 0)]⟩ :=
  .make Tryz.t282 (by kernel_rfl) (by kernel_rfl) (by kernel_rfl) (by kernel_rfl) (by kernel_rfl) (by kernel_rfl)
theorem ty283 : TRow Tryz.prog 283 ⟨Tryz.t283.desc, 1, false, [(.int .u16 0)]⟩ :=
  .make Tryz.t283 (by kernel_rfl) (by kernel_rfl) (by kernel_rfl) (by kernel_rfl) (by kernel_rfl) (by kernel_rfl)
theorem ty285 : TRow Tryz.prog 285 ⟨Tryz.t285.desc, 1, false, [(.int .i16 0)]⟩ :=
  .make Tryz.t285 (by kernel_rfl) (by kernel_rfl) (by kernel_rfl) (by kernel_rfl) (by kernel_rfl) (by kernel_rfl)
theorem ty288 : TRow Tryz.prog 288 ⟨Tryz.t288.desc, 1, false, [(.pointer none)]⟩ :=
  .make Tryz.t288 (by kernel_rfl) (by kernel_rfl) (by kernel_rfl) (by kernel_rfl) (by kernel_rfl) (by kernel_rfl)
theorem ty291 : TRow Tryz.prog 291 ⟨Tryz.t291.desc, 8, true, [(.int .u8 0), (.int .u8 0), (.int .u8 0), (.int .u8 0), (.int .u8 0), (.int .u8 0), (.int .u8 0), (.int .u8 0)]⟩ :=
  .make Tryz.t291 (by kernel_rfl) (by kernel_rfl) (by kernel_rfl) (by kernel_rfl) (by kernel_rfl) (by kernel_rfl)
theorem ty293 : TRow Tryz.prog 293 ⟨Tryz.t292.desc, 1, false, [.nilIface]⟩ :=
  .make Tryz.t293 (by kernel_rfl) (by kernel_rfl) (by kernel_rfl) (by kernel_rfl) (by kernel_rfl) (by kernel_rfl)
theorem ty303 : TRow Tryz.prog 303 ⟨Tryz.t303.desc, 20, true, [(.int .u8 0), (.int .u8 0), (.int .u8 0), (.int .u8 0), (.int .u8 0), (.int .u8 0), (.int .u8 0), (.int .u8 0), (.int .u8 0), (.int .u8 0), (.int .u8 0), (.int .u8 0), (.int .u8 0), (.int .u8 0), (.int .u8 0), (.int .u8 0), (.int .u8 0), (.int .u8 0), (.int .u8 0), (.int .u8 0)]⟩ :=
  .make Tryz.t303 (by kernel_rfl) (by kernel_rfl) (by kernel_rfl) (by kernel_rfl) (by kernel_rfl) (by kernel_rfl)
theorem ty315 : TRow Tryz.prog 315 ⟨Tryz.t315.desc, 2, true, [(.int .u8 0), (.int .u8 0)]⟩ :=
  .make Tryz.t315 (by kernel_rfl) (by kernel_rfl) (by kernel_rfl) (by kernel_rfl) (by kernel_rfl) (by kernel_rfl)
theorem ty292 : TRow Tryz.prog 292 ⟨Tryz.t292.desc, 1, false, [.nilIface]⟩ :=
  .make Tryz.t292 (by kernel_rfl) (by kernel_rfl) (by kernel_rfl) (by kernel_rfl) (by kernel_rfl) (by kernel_rfl)
theorem ty273 : TRow Tryz.prog 273 ⟨Tryz.t272.desc, 1, false, [.nilFunc]⟩ :=
  .make Tryz.t273 (by kernel_rfl) (by kernel_rfl) (by kernel_rfl) (by kernel_rfl) (by kernel_rfl) (by kernel_rfl)
theorem tyAll : AllRows (TRow Tryz.prog) ((3, ⟨Tryz.t3.desc, 1, false, [(.int .i64 0)]⟩) ::
    (115, ⟨Tryz.t114.desc, 3, true, [(.int .u8 0), (.int .u32 0), (.int .u64 0)]⟩) ::
    (80, ⟨Tryz.t79.desc, 4, true, [(.string ⟨⟨[]⟩⟩), (.int .i64 0), (.int .i64 0), (.pointer none)]⟩) ::
    (92, ⟨Tryz.t92.desc, 1, false, [(.slice none 0 0)]⟩) ::
    (5, ⟨Tryz.t5.desc, 1, false, [(.int .u8 0)]⟩) ::
    (171, ⟨Tryz.t170.desc, 42, true, [(.int .u8 0), (.int .u8 0), (.int .u8 0), (.int .u8 0), (.int .u8 0), (.int .u8 0), (.int .u8 0), (.int .u8 0), (.int .u8 0), (.int .u8 0), (.int .u8 0), (.int .i64 0), (.int .u8 0), (.int .u8 0), (.int .i64 0), (.bool false), (.int .u8 0), (.int .u8 0), (.int .i64 0), (.bool false), (.int .u8 0), (.int .u8 0), (.int .i64 0), (.bool false), (.int .u8 0), (.int .u8 0), (.int .i64 0), (.bool false), (.int .u8 0), (.int .u8 0), (.int .i64 0), (.bool false), (.int .u8 0), (.int .u8 0), (.int .i64 0), (.bool false), (.int .u8 0), (.int .u8 0), (.int .i64 0), (.bool false), (.int .i64 0), (.int .i64 0)]⟩) ::
    (9, ⟨Tryz.t9.desc, 1, false, [(.string ⟨⟨[]⟩⟩)]⟩) ::
    (206, ⟨Tryz.t205.desc, 54, true, [(.slice none 0 0), (.int .i64 0), (.int .u8 0), (.int .i64 0), (.int .i64 0), (.int .i64 0), (.int .i64 0), (.int .i64 0), (.int .i64 0), (.int .u8 0), (.int .i64 0), (.int .i64 0), (.int .i64 0), (.int .i64 0), (.int .i64 0), (.int .i64 0), (.int .u8 0), (.int .i64 0), (.int .i64 0), (.int .i64 0), (.int .i64 0), (.int .i64 0), (.int .i64 0), (.int .u8 0), (.int .i64 0), (.int .i64 0), (.int .i64 0), (.int .i64 0), (.int .i64 0), (.int .i64 0), (.int .u8 0), (.int .i64 0), (.int .i64 0), (.int .i64 0), (.int .i64 0), (.int .i64 0), (.int .i64 0), (.int .u8 0), (.int .i64 0), (.int .i64 0), (.int .i64 0), (.int .i64 0), (.int .i64 0), (.int .i64 0), (.int .u8 0), (.int .i64 0), (.int .i64 0), (.int .i64 0), (.int .i64 0), (.int .i64 0), (.int .i64 0), (.int .i64 0), (.int .i64 0), (.int .i64 0)]⟩) ::
    (108, ⟨Tryz.t107.desc, 4, true, [(.int .i64 0), (.string ⟨⟨[]⟩⟩), (.slice none 0 0), (.slice none 0 0)]⟩) ::
    (96, ⟨Tryz.t95.desc, 23, true, [(.int .i64 0), (.int .i64 0), (.int .i64 0), (.int .i64 0), (.int .i64 0), (.int .i64 0), (.int .i64 0), (.int .i64 0), (.int .i64 0), (.int .u8 0), (.int .u8 0), (.int .u8 0), (.int .u8 0), (.int .u8 0), (.int .u8 0), (.int .i64 0), (.slice none 0 0), (.int .i64 0), (.slice none 0 0), (.int .i64 0), (.slice none 0 0), (.slice none 0 0), (.slice none 0 0)]⟩) ::
    (89, ⟨Tryz.t88.desc, 12, true, [(.slice none 0 0), (.slice none 0 0), (.slice none 0 0), (.int .i64 0), (.int .i64 0), (.int .i64 0), (.int .i64 0), (.slice none 0 0), (.slice none 0 0), (.int .i64 0), (.slice none 0 0), (.slice none 0 0)]⟩) ::
    (113, ⟨Tryz.t113.desc, 1, false, [(.int .u32 0)]⟩) ::
    (203, ⟨Tryz.t202.desc, 7, true, [(.int .u8 0), (.int .i64 0), (.int .i64 0), (.int .i64 0), (.int .i64 0), (.int .i64 0), (.int .i64 0)]⟩) ::
    (82, ⟨Tryz.t82.desc, 1, false, [(.slice none 0 0)]⟩) ::
    (83, ⟨Tryz.t83.desc, 1, false, [(.slice none 0 0)]⟩) ::
    (168, ⟨Tryz.t167.desc, 4, true, [(.int .u8 0), (.int .u8 0), (.int .i64 0), (.bool false)]⟩) ::
    (81, ⟨Tryz.t81.desc, 1, false, [(.slice none 0 0)]⟩) ::
    (47, ⟨Tryz.t47.desc, 1, false, [(.int .u64 0)]⟩) ::
    (129, ⟨Tryz.t128.desc, 3, true, [(.string ⟨⟨[]⟩⟩), (.int .u8 0), (.int .u32 0)]⟩) ::
    (164, ⟨Tryz.t91.desc, 6, true, [(.int .u8 0), (.int .u8 0), (.int .u8 0), (.int .u8 0), (.int .u8 0), (.int .u8 0)]⟩) ::
    (166, ⟨Tryz.t166.desc, 11, true, [(.int .u8 0), (.int .u8 0), (.int .u8 0), (.int .u8 0), (.int .u8 0), (.int .u8 0), (.int .u8 0), (.int .u8 0), (.int .u8 0), (.int .u8 0), (.int .u8 0)]⟩) ::
    (85, ⟨Tryz.t85.desc, 1, false, [(.slice none 0 0)]⟩) ::
    (169, ⟨Tryz.t169.desc, 28, true, [(.int .u8 0), (.int .u8 0), (.int .i64 0), (.bool false), (.int .u8 0), (.int .u8 0), (.int .i64 0), (.bool false), (.int .u8 0), (.int .u8 0), (.int .i64 0), (.bool false), (.int .u8 0), (.int .u8 0), (.int .i64 0), (.bool false), (.int .u8 0), (.int .u8 0), (.int .i64 0), (.bool false), (.int .u8 0), (.int .u8 0), (.int .i64 0), (.bool false), (.int .u8 0), (.int .u8 0), (.int .i64 0), (.bool false)]⟩) ::
    (147, ⟨Tryz.t147.desc, 1, false, [(.slice none 0 0)]⟩) ::
    (204, ⟨Tryz.t204.desc, 49, true, [(.int .u8 0), (.int .i64 0), (.int .i64 0), (.int .i64 0), (.int .i64 0), (.int .i64 0), (.int .i64 0), (.int .u8 0), (.int .i64 0), (.int .i64 0), (.int .i64 0), (.int .i64 0), (.int .i64 0), (.int .i64 0), (.int .u8 0), (.int .i64 0), (.int .i64 0), (.int .i64 0), (.int .i64 0), (.int .i64 0), (.int .i64 0), (.int .u8 0), (.int .i64 0), (.int .i64 0), (.int .i64 0), (.int .i64 0), (.int .i64 0), (.int .i64 0), (.int .u8 0), (.int .i64 0), (.int .i64 0), (.int .i64 0), (.int .i64 0), (.int .i64 0), (.int .i64 0), (.int .u8 0), (.int .i64 0), (.int .i64 0), (.int .i64 0), (.int .i64 0), (.int .i64 0), (.int .i64 0), (.int .u8 0), (.int .i64 0), (.int .i64 0), (.int .i64 0), (.int .i64 0), (.int .i64 0), (.int .i64 0)]⟩) ::
    (153, ⟨Tryz.t152.desc, 28, true, [(.pointer none), (.pointer none), (.pointer none), (.pointer none), (.pointer none), (.pointer none), (.pointer none), (.slice none 0 0), (.slice none 0 0), (.slice none 0 0), (.int .i64 0), (.int .i64 0), (.int .i64 0), (.int .i64 0), (.int .i64 0), (.int .i64 0), (.int .i64 0), (.int .i64 0), (.int .i64 0), (.int .i64 0), (.int .i64 0), (.int .i64 0), (.int .i64 0), (.int .i64 0), (.int .i64 0), (.int .i64 0), (.int .i64 0), (.int .i64 0)]⟩) ::
    (84, ⟨Tryz.t84.desc, 1, false, [(.slice none 0 0)]⟩) ::
    (110, ⟨Tryz.t109.desc, 3, true, [(.string ⟨⟨[]⟩⟩), (.string ⟨⟨[]⟩⟩), (.int .i64 0)]⟩) ::
    (117, ⟨Tryz.t116.desc, 5, true, [(.int .u8 0), (.bool false), (.int .u8 0), (.int .u32 0), (.int .u64 0)]⟩) ::
    (94, ⟨Tryz.t94.desc, 1, false, [(.slice none 0 0)]⟩) ::
    (216, ⟨Tryz.t215.desc, 4, true, [(.int .i64 0), (.int .i64 0), (.int .i64 0), (.slice none 0 0)]⟩) ::
    (87, ⟨Tryz.t87.desc, 1, false, [(.slice none 0 0)]⟩) ::
    (25, ⟨Tryz.t25.desc, 1, false, [(.pointer none)]⟩) ::
    (201, ⟨Tryz.t200.desc, 17, true, [(.slice none 0 0), (.bool false), (.slice none 0 0), (.int .i64 0), (.int .i64 0), (.int .i64 0), (.int .i64 0), (.int .i64 0), (.int .i64 0), (.int .i64 0), (.int .i64 0), (.int .i64 0), (.int .u64 0), (.int .u64 0), (.int .u64 0), (.int .u64 0), (.int .i64 0)]⟩) ::
    (97, ⟨Tryz.t97.desc, 1, false, [.nilFunc]⟩) ::
    (91, ⟨Tryz.t91.desc, 6, true, [(.int .u8 0), (.int .u8 0), (.int .u8 0), (.int .u8 0), (.int .u8 0), (.int .u8 0)]⟩) ::
    (207, ⟨Tryz.t207.desc, 1, false, [(.slice none 0 0)]⟩) ::
    (34, ⟨Tryz.t34.desc, 1, false, [(.pointer none)]⟩) ::
    (211, ⟨Tryz.t211.desc, 1, false, [(.slice none 0 0)]⟩) ::
    (2, ⟨Tryz.t2.desc, 1, false, [(.int .i64 0)]⟩) ::
    (93, ⟨Tryz.t93.desc, 1, false, [(.slice none 0 0)]⟩) ::
    (122, ⟨Tryz.t121.desc, 4, true, [(.int .u8 0), (.int .u32 0), (.int .u64 0), (.string ⟨⟨[]⟩⟩)]⟩) ::
    (90, ⟨Tryz.t90.desc, 8, true, [(.int .i64 0), (.int .i64 0), (.int .i64 0), (.int .i64 0), (.int .i64 0), (.int .i64 0), (.int .i64 0), (.int .i64 0)]⟩) ::
    (210, ⟨Tryz.t209.desc, 11, true, [(.slice none 0 0), (.int .u64 0), (.int .u64 0), (.int .u64 0), (.int .u64 0), (.int .u64 0), (.int .u64 0), (.int .i64 0), (.int .i64 0), (.slice none 0 0), (.int .i64 0)]⟩) ::
    (99, ⟨Tryz.t99.desc, 12, true, [.nilFunc, .nilFunc, .nilFunc, .nilFunc, .nilFunc, .nilFunc, .nilFunc, .nilFunc, .nilFunc, .nilFunc, .nilFunc, .nilFunc]⟩) ::
    (213, ⟨Tryz.t212.desc, 1, true, [(.slice none 0 0)]⟩) ::
    (4, ⟨Tryz.t4.desc, 1, false, [(.bool false)]⟩) ::
    (139, ⟨Tryz.t139.desc, 1, false, [(.pointer none)]⟩) ::
    (290, ⟨Tryz.t290.desc, 4, true, [(.int .u8 0), (.int .u8 0), (.int .u8 0), (.int .u8 0)]⟩) ::
    (148, ⟨Tryz.t148.desc, 1, false, [(.slice none 0 0)]⟩) ::
    (86, ⟨Tryz.t86.desc, 1, false, [(.slice none 0 0)]⟩) ::
    (218, ⟨Tryz.t217.desc, 1, false, [.nilIface]⟩) ::
    (199, ⟨Tryz.t199.desc, 4, true, [(.int .u64 0), (.int .u64 0), (.int .u64 0), (.int .u64 0)]⟩) ::
    (150, ⟨Tryz.t149.desc, 3, true, [(.int .i64 0), (.int .i64 0), (.int .i64 0)]⟩) ::
    (143, ⟨Tryz.t143.desc, 1, false, [(.pointer none)]⟩) ::
    (33, ⟨Tryz.t3.desc, 1, false, [(.int .i64 0)]⟩) ::
    (146, ⟨Tryz.t146.desc, 1, false, [(.pointer none)]⟩) ::
    (26, ⟨Tryz.t26.desc, 1, false, [(.pointer none)]⟩) ::
    (141, ⟨Tryz.t141.desc, 1, false, [(.pointer none)]⟩) ::
    (222, ⟨Tryz.t221.desc, 1, true, [.nilFunc]⟩) ::
    (220, ⟨Tryz.t220.desc, 1, false, [.nilFunc]⟩) ::
    (151, ⟨Tryz.t151.desc, 18, true, [(.int .i64 0), (.int .i64 0), (.int .i64 0), (.int .i64 0), (.int .i64 0), (.int .i64 0), (.int .i64 0), (.int .i64 0), (.int .i64 0), (.int .i64 0), (.int .i64 0), (.int .i64 0), (.int .i64 0), (.int .i64 0), (.int .i64 0), (.int .i64 0), (.int .i64 0), (.int .i64 0)]⟩) ::
    (20, ⟨Tryz.t20.desc, 1, false, [.nilIface]⟩) ::
    (21, ⟨Tryz.t21.desc, 1, false, [(.int .i32 0)]⟩) ::
    (22, ⟨Tryz.t22.desc, 1, false, [(.slice none 0 0)]⟩) ::
    (32, ⟨Tryz.t31.desc, 6, true, [(.int .i64 0), (.int .i64 0), (.int .i64 0), (.int .i64 0), (.string ⟨⟨[]⟩⟩), (.string ⟨⟨[]⟩⟩)]⟩) ::
    (43, ⟨Tryz.t43.desc, 1, false, [(.pointer none)]⟩) ::
    (46, ⟨Tryz.t46.desc, 1, false, [(.pointer none)]⟩) ::
    (49, ⟨Tryz.t48.desc, 2, true, [(.int .u64 0), (.int .u64 0)]⟩) ::
    (54, ⟨Tryz.t53.desc, 4, true, [(.int .i64 0), (.int .i64 0), (.int .i64 0), (.string ⟨⟨[]⟩⟩)]⟩) ::
    (58, ⟨Tryz.t58.desc, 1, false, [(.pointer none)]⟩) ::
    (60, ⟨Tryz.t59.desc, 2, true, [(.string ⟨⟨[]⟩⟩), (.string ⟨⟨[]⟩⟩)]⟩) ::
    (76, ⟨Tryz.t75.desc, 2, true, [(.int .i64 0), (.int .i64 0)]⟩) ::
    (78, ⟨Tryz.t78.desc, 1, false, [(.pointer none)]⟩) ::
    (106, ⟨Tryz.t106.desc, 1, false, [(.pointer none)]⟩) ::
    (119, ⟨Tryz.t118.desc, 4, true, [(.int .u8 0), (.int .u32 0), (.int .u64 0), (.slice none 0 0)]⟩) ::
    (165, ⟨Tryz.t165.desc, 1, false, [(.int .u64 0)]⟩) ::
    (172, ⟨Tryz.t172.desc, 1, false, [(.slice none 0 0)]⟩) ::
    (198, ⟨Tryz.t198.desc, 16, true, [(.int .u8 0), (.int .u8 0), (.int .u8 0), (.int .u8 0), (.int .u8 0), (.int .u8 0), (.int .u8 0), (.int .u8 0), (.int .u8 0), (.int .u8 0), (.int .u8 0), (.int .u8 0), (.int .u8 0), (.int .u8 0), (.int .u8 0), (.int .u8 0)]⟩) ::
    (208, ⟨Tryz.t208.desc, 6, true, [(.int .u64 0), (.int .u64 0), (.int .u64 0), (.int .u64 0), (.int .u64 0), (.int .u64 0)]⟩) ::
    (223, ⟨Tryz.t223.desc, 1, false, [(.pointer none)]⟩) ::
    (237, ⟨Tryz.t237.desc, 1, false, [(.float .f32 0)]⟩) ::
    (240, ⟨Tryz.t240.desc, 1, false, [(.float .f64 0)]⟩) ::
    (270, ⟨Tryz.t270.desc, 1, false, [(.map none)]⟩) ::
    (276, ⟨Tryz.t275.desc, 0, true, []⟩) ::
    (278, ⟨Tryz.t277.desc, 1, false, [.nilFunc]⟩) ::
    (279, ⟨Tryz.t3.desc, 1, false, [(.int .i64 0)]⟩) ::
    (282, ⟨Tryz.t282.desc, 1, false, [(.int .i8 0)]⟩) ::
    (283, ⟨Tryz.t283.desc, 1, false, [(.int .u16 0)]⟩) ::
    (285, ⟨Tryz.t285.desc, 1, false, [(.int .i16 0)]⟩) ::
    (288, ⟨Tryz.t288.desc, 1, false, [(.pointer none)]⟩) ::
    (291, ⟨Tryz.t291.desc, 8, true, [(.int .u8 0), (.int .u8 0), (.int .u8 0), (.int .u8 0), (.int .u8 0), (.int .u8 0), (.int .u8 0), (.int .u8 0)]⟩) ::
    (293, ⟨Tryz.t292.desc, 1, false, [.nilIface]⟩) ::
    (303, ⟨Tryz.t303.desc, 20, true, [(.int .u8 0), (.int .u8 0), (.int .u8 0), (.int .u8 0), (.int .u8 0), (.int .u8 0), (.int .u8 0), (.int .u8 0), (.int .u8 0), (.int .u8 0), (.int .u8 0), (.int .u8 0), (.int .u8 0), (.int .u8 0), (.int .u8 0), (.int .u8 0), (.int .u8 0), (.int .u8 0), (.int .u8 0), (.int .u8 0)]⟩) ::
    (315, ⟨Tryz.t315.desc, 2, true, [(.int .u8 0), (.int .u8 0)]⟩) ::
    (292, ⟨Tryz.t292.desc, 1, false, [.nilIface]⟩) ::
    (273, ⟨Tryz.t272.desc, 1, false, [.nilFunc]⟩) :: []) :=
  ⟨ty3, ty115, ty80, ty92, ty5, ty171, ty9, ty206, ty108, ty96, ty89, ty113, ty203, ty82, ty83, ty168, ty81, ty47, ty129, ty164, ty166, ty85, ty169, ty147, ty204, ty153, ty84, ty110, ty117, ty94, ty216, ty87, ty25, ty201, ty97, ty91, ty207, ty34, ty211, ty2, ty93, ty122, ty90, ty210, ty99, ty213, ty4, ty139, ty290, ty148, ty86, ty218, ty199, ty150, ty143, ty33, ty146, ty26, ty141, ty222, ty220, ty151, ty20, ty21, ty22, ty32, ty43, ty46, ty49, ty54, ty58, ty60, ty76, ty78, ty106, ty119, ty165, ty172, ty198, ty208, ty223, ty237, ty240, ty270, ty276, ty278, ty279, ty282, ty283, ty285, ty288, ty291, ty293, ty303, ty315, ty292, ty273, trivial⟩
end Go.Proofs.Qxb6500274aGreat
