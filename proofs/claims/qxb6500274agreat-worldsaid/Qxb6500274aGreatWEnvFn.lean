import Derived.Test.Qxb6500274aGreatWEnv
import Derived.Test.Qxb6500274aGreatWSxEnv
namespace Go.Proofs.Qxb6500274aGreat
open Go Go.Sx
set_option maxRecDepth 100000

theorem fn46 (E : Env) (h : IsEnv E) : FRow Tryz.prog E 46 Tryz.f46 :=
  ⟨Tryz.func46, of_decide_eq_true (by kernel_rfl), by unfold IsEnv at h; subst h; kernel_rfl⟩
theorem fn90 (E : Env) (h : IsEnv E) : FRow Tryz.prog E 90 Tryz.f90 :=
  ⟨Tryz.func90, of_decide_eq_true (by kernel_rfl), by unfold IsEnv at h; subst h; kernel_rfl⟩
theorem fn147 (E : Env) (h : IsEnv E) : FRow Tryz.prog E 147 Tryz.f147 :=
  ⟨Tryz.func147, of_decide_eq_true (by kernel_rfl), by unfold IsEnv at h; subst h; kernel_rfl⟩
theorem fn160 (E : Env) (h : IsEnv E) : FRow Tryz.prog E 160 Tryz.f160 :=
  ⟨Tryz.func160, of_decide_eq_true (by kernel_rfl), by unfold IsEnv at h; subst h; kernel_rfl⟩
theorem fn210 (E : Env) (h : IsEnv E) : FRow Tryz.prog E 210 Tryz.f210 :=
  ⟨Tryz.func210, of_decide_eq_true (by kernel_rfl), by unfold IsEnv at h; subst h; kernel_rfl⟩
theorem fn166 (E : Env) (h : IsEnv E) : FRow Tryz.prog E 166 Tryz.f166 :=
  ⟨Tryz.func166, of_decide_eq_true (by kernel_rfl), by unfold IsEnv at h; subst h; kernel_rfl⟩
theorem fn108 (E : Env) (h : IsEnv E) : FRow Tryz.prog E 108 Tryz.f108 :=
  ⟨Tryz.func108, of_decide_eq_true (by kernel_rfl), by unfold IsEnv at h; subst h; kernel_rfl⟩
theorem fn149 (E : Env) (h : IsEnv E) : FRow Tryz.prog E 149 Tryz.f149 :=
  ⟨Tryz.func149, of_decide_eq_true (by kernel_rfl), by unfold IsEnv at h; subst h; kernel_rfl⟩
theorem fn109 (E : Env) (h : IsEnv E) : FRow Tryz.prog E 109 Tryz.f109 :=
  ⟨Tryz.func109, of_decide_eq_true (by kernel_rfl), by unfold IsEnv at h; subst h; kernel_rfl⟩
theorem fn104 (E : Env) (h : IsEnv E) : FRow Tryz.prog E 104 Tryz.f104 :=
  ⟨Tryz.func104, of_decide_eq_true (by kernel_rfl), by unfold IsEnv at h; subst h; kernel_rfl⟩
theorem fn86 (E : Env) (h : IsEnv E) : FRow Tryz.prog E 86 Tryz.f86 :=
  ⟨Tryz.func86, of_decide_eq_true (by kernel_rfl), by unfold IsEnv at h; subst h; kernel_rfl⟩
theorem fn62 (E : Env) (h : IsEnv E) : FRow Tryz.prog E 62 Tryz.f62 :=
  ⟨Tryz.func62, of_decide_eq_true (by kernel_rfl), by unfold IsEnv at h; subst h; kernel_rfl⟩
theorem fn61 (E : Env) (h : IsEnv E) : FRow Tryz.prog E 61 Tryz.f61 :=
  ⟨Tryz.func61, of_decide_eq_true (by kernel_rfl), by unfold IsEnv at h; subst h; kernel_rfl⟩
theorem fn151 (E : Env) (h : IsEnv E) : FRow Tryz.prog E 151 Tryz.f151 :=
  ⟨Tryz.func151, of_decide_eq_true (by kernel_rfl), by unfold IsEnv at h; subst h; kernel_rfl⟩
theorem fn77 (E : Env) (h : IsEnv E) : FRow Tryz.prog E 77 Tryz.f77 :=
  ⟨Tryz.func77, of_decide_eq_true (by kernel_rfl), by unfold IsEnv at h; subst h; kernel_rfl⟩
theorem fn48 (E : Env) (h : IsEnv E) : FRow Tryz.prog E 48 Tryz.f48 :=
  ⟨Tryz.func48, of_decide_eq_true (by kernel_rfl), by unfold IsEnv at h; subst h; kernel_rfl⟩
theorem fn47 (E : Env) (h : IsEnv E) : FRow Tryz.prog E 47 Tryz.f47 :=
  ⟨Tryz.func47, of_decide_eq_true (by kernel_rfl), by unfold IsEnv at h; subst h; kernel_rfl⟩
theorem fn153 (E : Env) (h : IsEnv E) : FRow Tryz.prog E 153 Tryz.f153 :=
  ⟨Tryz.func153, of_decide_eq_true (by kernel_rfl), by unfold IsEnv at h; subst h; kernel_rfl⟩
theorem fn97 (E : Env) (h : IsEnv E) : FRow Tryz.prog E 97 Tryz.f97 :=
  ⟨Tryz.func97, of_decide_eq_true (by kernel_rfl), by unfold IsEnv at h; subst h; kernel_rfl⟩
theorem fn105 (E : Env) (h : IsEnv E) : FRow Tryz.prog E 105 Tryz.f105 :=
  ⟨Tryz.func105, of_decide_eq_true (by kernel_rfl), by unfold IsEnv at h; subst h; kernel_rfl⟩
theorem fn102 (E : Env) (h : IsEnv E) : FRow Tryz.prog E 102 Tryz.f102 :=
  ⟨Tryz.func102, of_decide_eq_true (by kernel_rfl), by unfold IsEnv at h; subst h; kernel_rfl⟩
theorem fn89 (E : Env) (h : IsEnv E) : FRow Tryz.prog E 89 Tryz.f89 :=
  ⟨Tryz.func89, of_decide_eq_true (by kernel_rfl), by unfold IsEnv at h; subst h; kernel_rfl⟩
theorem fn88 (E : Env) (h : IsEnv E) : FRow Tryz.prog E 88 Tryz.f88 :=
  ⟨Tryz.func88, of_decide_eq_true (by kernel_rfl), by unfold IsEnv at h; subst h; kernel_rfl⟩
theorem fn87 (E : Env) (h : IsEnv E) : FRow Tryz.prog E 87 Tryz.f87 :=
  ⟨Tryz.func87, of_decide_eq_true (by kernel_rfl), by unfold IsEnv at h; subst h; kernel_rfl⟩
theorem fn208 (E : Env) (h : IsEnv E) : FRow Tryz.prog E 208 Tryz.f208 :=
  ⟨Tryz.func208, of_decide_eq_true (by kernel_rfl), by unfold IsEnv at h; subst h; kernel_rfl⟩
theorem fn163 (E : Env) (h : IsEnv E) : FRow Tryz.prog E 163 Tryz.f163 :=
  ⟨Tryz.func163, of_decide_eq_true (by kernel_rfl), by unfold IsEnv at h; subst h; kernel_rfl⟩
theorem fn93 (E : Env) (h : IsEnv E) : FRow Tryz.prog E 93 Tryz.f93 :=
  ⟨Tryz.func93, of_decide_eq_true (by kernel_rfl), by unfold IsEnv at h; subst h; kernel_rfl⟩
theorem fn92 (E : Env) (h : IsEnv E) : FRow Tryz.prog E 92 Tryz.f92 :=
  ⟨Tryz.func92, of_decide_eq_true (by kernel_rfl), by unfold IsEnv at h; subst h; kernel_rfl⟩
theorem fn194 (E : Env) (h : IsEnv E) : FRow Tryz.prog E 194 Tryz.f194 :=
  ⟨Tryz.func194, of_decide_eq_true (by kernel_rfl), by unfold IsEnv at h; subst h; kernel_rfl⟩
theorem fn96 (E : Env) (h : IsEnv E) : FRow Tryz.prog E 96 Tryz.f96 :=
  ⟨Tryz.func96, of_decide_eq_true (by kernel_rfl), by unfold IsEnv at h; subst h; kernel_rfl⟩
theorem fn95 (E : Env) (h : IsEnv E) : FRow Tryz.prog E 95 Tryz.f95 :=
  ⟨Tryz.func95, of_decide_eq_true (by kernel_rfl), by unfold IsEnv at h; subst h; kernel_rfl⟩
theorem fn50 (E : Env) (h : IsEnv E) : FRow Tryz.prog E 50 Tryz.f50 :=
  ⟨Tryz.func50, of_decide_eq_true (by kernel_rfl), by unfold IsEnv at h; subst h; kernel_rfl⟩
theorem fn112 (E : Env) (h : IsEnv E) : FRow Tryz.prog E 112 Tryz.f112 :=
  ⟨Tryz.func112, of_decide_eq_true (by kernel_rfl), by unfold IsEnv at h; subst h; kernel_rfl⟩
theorem fn154 (E : Env) (h : IsEnv E) : FRow Tryz.prog E 154 Tryz.f154 :=
  ⟨Tryz.func154, of_decide_eq_true (by kernel_rfl), by unfold IsEnv at h; subst h; kernel_rfl⟩
theorem fn121 (E : Env) (h : IsEnv E) : FRow Tryz.prog E 121 Tryz.f121 :=
  ⟨Tryz.func121, of_decide_eq_true (by kernel_rfl), by unfold IsEnv at h; subst h; kernel_rfl⟩
theorem fn196 (E : Env) (h : IsEnv E) : FRow Tryz.prog E 196 Tryz.f196 :=
  ⟨Tryz.func196, of_decide_eq_true (by kernel_rfl), by unfold IsEnv at h; subst h; kernel_rfl⟩
theorem fn150 (E : Env) (h : IsEnv E) : FRow Tryz.prog E 150 Tryz.f150 :=
  ⟨Tryz.func150, of_decide_eq_true (by kernel_rfl), by unfold IsEnv at h; subst h; kernel_rfl⟩
theorem fn94 (E : Env) (h : IsEnv E) : FRow Tryz.prog E 94 Tryz.f94 :=
  ⟨Tryz.func94, of_decide_eq_true (by kernel_rfl), by unfold IsEnv at h; subst h; kernel_rfl⟩
theorem fn197 (E : Env) (h : IsEnv E) : FRow Tryz.prog E 197 Tryz.f197 :=
  ⟨Tryz.func197, of_decide_eq_true (by kernel_rfl), by unfold IsEnv at h; subst h; kernel_rfl⟩
theorem fn161 (E : Env) (h : IsEnv E) : FRow Tryz.prog E 161 Tryz.f161 :=
  ⟨Tryz.func161, of_decide_eq_true (by kernel_rfl), by unfold IsEnv at h; subst h; kernel_rfl⟩
theorem fn115 (E : Env) (h : IsEnv E) : FRow Tryz.prog E 115 Tryz.f115 :=
  ⟨Tryz.func115, of_decide_eq_true (by kernel_rfl), by unfold IsEnv at h; subst h; kernel_rfl⟩
theorem fn98 (E : Env) (h : IsEnv E) : FRow Tryz.prog E 98 Tryz.f98 :=
  ⟨Tryz.func98, of_decide_eq_true (by kernel_rfl), by unfold IsEnv at h; subst h; kernel_rfl⟩
theorem fn167 (E : Env) (h : IsEnv E) : FRow Tryz.prog E 167 Tryz.f167 :=
  ⟨Tryz.func167, of_decide_eq_true (by kernel_rfl), by unfold IsEnv at h; subst h; kernel_rfl⟩
theorem fn117 (E : Env) (h : IsEnv E) : FRow Tryz.prog E 117 Tryz.f117 :=
  ⟨Tryz.func117, of_decide_eq_true (by kernel_rfl), by unfold IsEnv at h; subst h; kernel_rfl⟩
theorem fn113 (E : Env) (h : IsEnv E) : FRow Tryz.prog E 113 Tryz.f113 :=
  ⟨Tryz.func113, of_decide_eq_true (by kernel_rfl), by unfold IsEnv at h; subst h; kernel_rfl⟩
theorem fn103 (E : Env) (h : IsEnv E) : FRow Tryz.prog E 103 Tryz.f103 :=
  ⟨Tryz.func103, of_decide_eq_true (by kernel_rfl), by unfold IsEnv at h; subst h; kernel_rfl⟩
theorem fn91 (E : Env) (h : IsEnv E) : FRow Tryz.prog E 91 Tryz.f91 :=
  ⟨Tryz.func91, of_decide_eq_true (by kernel_rfl), by unfold IsEnv at h; subst h; kernel_rfl⟩
theorem fn83 (E : Env) (h : IsEnv E) : FRow Tryz.prog E 83 Tryz.f83 :=
  ⟨Tryz.func83, of_decide_eq_true (by kernel_rfl), by unfold IsEnv at h; subst h; kernel_rfl⟩
theorem fn76 (E : Env) (h : IsEnv E) : FRow Tryz.prog E 76 Tryz.f76 :=
  ⟨Tryz.func76, of_decide_eq_true (by kernel_rfl), by unfold IsEnv at h; subst h; kernel_rfl⟩
theorem fn75 (E : Env) (h : IsEnv E) : FRow Tryz.prog E 75 Tryz.f75 :=
  ⟨Tryz.func75, of_decide_eq_true (by kernel_rfl), by unfold IsEnv at h; subst h; kernel_rfl⟩
theorem fn74 (E : Env) (h : IsEnv E) : FRow Tryz.prog E 74 Tryz.f74 :=
  ⟨Tryz.func74, of_decide_eq_true (by kernel_rfl), by unfold IsEnv at h; subst h; kernel_rfl⟩
theorem fn73 (E : Env) (h : IsEnv E) : FRow Tryz.prog E 73 Tryz.f73 :=
  ⟨Tryz.func73, of_decide_eq_true (by kernel_rfl), by unfold IsEnv at h; subst h; kernel_rfl⟩
theorem fn72 (E : Env) (h : IsEnv E) : FRow Tryz.prog E 72 Tryz.f72 :=
  ⟨Tryz.func72, of_decide_eq_true (by kernel_rfl), by unfold IsEnv at h; subst h; kernel_rfl⟩
theorem fn71 (E : Env) (h : IsEnv E) : FRow Tryz.prog E 71 Tryz.f71 :=
  ⟨Tryz.func71, of_decide_eq_true (by kernel_rfl), by unfold IsEnv at h; subst h; kernel_rfl⟩
theorem fn70 (E : Env) (h : IsEnv E) : FRow Tryz.prog E 70 Tryz.f70 :=
  ⟨Tryz.func70, of_decide_eq_true (by kernel_rfl), by unfold IsEnv at h; subst h; kernel_rfl⟩
theorem fn68 (E : Env) (h : IsEnv E) : FRow Tryz.prog E 68 Tryz.f68 :=
  ⟨Tryz.func68, of_decide_eq_true (by kernel_rfl), by unfold IsEnv at h; subst h; kernel_rfl⟩
theorem fn67 (E : Env) (h : IsEnv E) : FRow Tryz.prog E 67 Tryz.f67 :=
  ⟨Tryz.func67, of_decide_eq_true (by kernel_rfl), by unfold IsEnv at h; subst h; kernel_rfl⟩
theorem fn49 (E : Env) (h : IsEnv E) : FRow Tryz.prog E 49 Tryz.f49 :=
  ⟨Tryz.func49, of_decide_eq_true (by kernel_rfl), by unfold IsEnv at h; subst h; kernel_rfl⟩
theorem fn45 (E : Env) (h : IsEnv E) : FRow Tryz.prog E 45 Tryz.f45 :=
  ⟨Tryz.func45, of_decide_eq_true (by kernel_rfl), by unfold IsEnv at h; subst h; kernel_rfl⟩
theorem fn44 (E : Env) (h : IsEnv E) : FRow Tryz.prog E 44 Tryz.f44 :=
  ⟨Tryz.func44, of_decide_eq_true (by kernel_rfl), by unfold IsEnv at h; subst h; kernel_rfl⟩
theorem fn42 (E : Env) (h : IsEnv E) : FRow Tryz.prog E 42 Tryz.f42 :=
  ⟨Tryz.func42, of_decide_eq_true (by kernel_rfl), by unfold IsEnv at h; subst h; kernel_rfl⟩
theorem fn41 (E : Env) (h : IsEnv E) : FRow Tryz.prog E 41 Tryz.f41 :=
  ⟨Tryz.func41, of_decide_eq_true (by kernel_rfl), by unfold IsEnv at h; subst h; kernel_rfl⟩
theorem fn40 (E : Env) (h : IsEnv E) : FRow Tryz.prog E 40 Tryz.f40 :=
  ⟨Tryz.func40, of_decide_eq_true (by kernel_rfl), by unfold IsEnv at h; subst h; kernel_rfl⟩
theorem fn39 (E : Env) (h : IsEnv E) : FRow Tryz.prog E 39 Tryz.f39 :=
  ⟨Tryz.func39, of_decide_eq_true (by kernel_rfl), by unfold IsEnv at h; subst h; kernel_rfl⟩
theorem fn37 (E : Env) (h : IsEnv E) : FRow Tryz.prog E 37 Tryz.f37 :=
  ⟨Tryz.func37, of_decide_eq_true (by kernel_rfl), by unfold IsEnv at h; subst h; kernel_rfl⟩
theorem fn36 (E : Env) (h : IsEnv E) : FRow Tryz.prog E 36 Tryz.f36 :=
  ⟨Tryz.func36, of_decide_eq_true (by kernel_rfl), by unfold IsEnv at h; subst h; kernel_rfl⟩
theorem fn35 (E : Env) (h : IsEnv E) : FRow Tryz.prog E 35 Tryz.f35 :=
  ⟨Tryz.func35, of_decide_eq_true (by kernel_rfl), by unfold IsEnv at h; subst h; kernel_rfl⟩
theorem fn31 (E : Env) (h : IsEnv E) : FRow Tryz.prog E 31 Tryz.f31 :=
  ⟨Tryz.func31, of_decide_eq_true (by kernel_rfl), by unfold IsEnv at h; subst h; kernel_rfl⟩
theorem fn213 (E : Env) (h : IsEnv E) : FRow Tryz.prog E 213 Tryz.f213 :=
  ⟨Tryz.func213, of_decide_eq_true (by kernel_rfl), by unfold IsEnv at h; subst h; kernel_rfl⟩
theorem fn211 (E : Env) (h : IsEnv E) : FRow Tryz.prog E 211 Tryz.f211 :=
  ⟨Tryz.func211, of_decide_eq_true (by kernel_rfl), by unfold IsEnv at h; subst h; kernel_rfl⟩
theorem fn170 (E : Env) (h : IsEnv E) : FRow Tryz.prog E 170 Tryz.f170 :=
  ⟨Tryz.func170, of_decide_eq_true (by kernel_rfl), by unfold IsEnv at h; subst h; kernel_rfl⟩
theorem fn17 (E : Env) (h : IsEnv E) : FRow Tryz.prog E 17 Tryz.f17 :=
  ⟨Tryz.func17, of_decide_eq_true (by kernel_rfl), by unfold IsEnv at h; subst h; kernel_rfl⟩
theorem fn168 (E : Env) (h : IsEnv E) : FRow Tryz.prog E 168 Tryz.f168 :=
  ⟨Tryz.func168, of_decide_eq_true (by kernel_rfl), by unfold IsEnv at h; subst h; kernel_rfl⟩
theorem fn162 (E : Env) (h : IsEnv E) : FRow Tryz.prog E 162 Tryz.f162 :=
  ⟨Tryz.func162, of_decide_eq_true (by kernel_rfl), by unfold IsEnv at h; subst h; kernel_rfl⟩
theorem fn16 (E : Env) (h : IsEnv E) : FRow Tryz.prog E 16 Tryz.f16 :=
  ⟨Tryz.func16, of_decide_eq_true (by kernel_rfl), by unfold IsEnv at h; subst h; kernel_rfl⟩
theorem fn126 (E : Env) (h : IsEnv E) : FRow Tryz.prog E 126 Tryz.f126 :=
  ⟨Tryz.func126, of_decide_eq_true (by kernel_rfl), by unfold IsEnv at h; subst h; kernel_rfl⟩
theorem fn12 (E : Env) (h : IsEnv E) : FRow Tryz.prog E 12 Tryz.f12 :=
  ⟨Tryz.func12, of_decide_eq_true (by kernel_rfl), by unfold IsEnv at h; subst h; kernel_rfl⟩
theorem fn119 (E : Env) (h : IsEnv E) : FRow Tryz.prog E 119 Tryz.f119 :=
  ⟨Tryz.func119, of_decide_eq_true (by kernel_rfl), by unfold IsEnv at h; subst h; kernel_rfl⟩
theorem fn116 (E : Env) (h : IsEnv E) : FRow Tryz.prog E 116 Tryz.f116 :=
  ⟨Tryz.func116, of_decide_eq_true (by kernel_rfl), by unfold IsEnv at h; subst h; kernel_rfl⟩
theorem fn114 (E : Env) (h : IsEnv E) : FRow Tryz.prog E 114 Tryz.f114 :=
  ⟨Tryz.func114, of_decide_eq_true (by kernel_rfl), by unfold IsEnv at h; subst h; kernel_rfl⟩
theorem fn11 (E : Env) (h : IsEnv E) : FRow Tryz.prog E 11 Tryz.f11 :=
  ⟨Tryz.func11, of_decide_eq_true (by kernel_rfl), by unfold IsEnv at h; subst h; kernel_rfl⟩
theorem fn101 (E : Env) (h : IsEnv E) : FRow Tryz.prog E 101 Tryz.f101 :=
  ⟨Tryz.func101, of_decide_eq_true (by kernel_rfl), by unfold IsEnv at h; subst h; kernel_rfl⟩
theorem fn100 (E : Env) (h : IsEnv E) : FRow Tryz.prog E 100 Tryz.f100 :=
  ⟨Tryz.func100, of_decide_eq_true (by kernel_rfl), by unfold IsEnv at h; subst h; kernel_rfl⟩
theorem fn4 (E : Env) (h : IsEnv E) : FRow Tryz.prog E 4 Tryz.f4 :=
  ⟨Tryz.func4, of_decide_eq_true (by kernel_rfl), by unfold IsEnv at h; subst h; kernel_rfl⟩
theorem fn7 (E : Env) (h : IsEnv E) : FRow Tryz.prog E 7 Tryz.f7 :=
  ⟨Tryz.func7, of_decide_eq_true (by kernel_rfl), by unfold IsEnv at h; subst h; kernel_rfl⟩
theorem fn120 (E : Env) (h : IsEnv E) : FRow Tryz.prog E 120 Tryz.f120 :=
  ⟨Tryz.func120, of_decide_eq_true (by kernel_rfl), by unfold IsEnv at h; subst h; kernel_rfl⟩
theorem fn38 (E : Env) (h : IsEnv E) : FRow Tryz.prog E 38 Tryz.f38 :=
  ⟨Tryz.func38, of_decide_eq_true (by kernel_rfl), by unfold IsEnv at h; subst h; kernel_rfl⟩
theorem fn195 (E : Env) (h : IsEnv E) : FRow Tryz.prog E 195 Tryz.f195 :=
  ⟨Tryz.func195, of_decide_eq_true (by kernel_rfl), by unfold IsEnv at h; subst h; kernel_rfl⟩
theorem fn43 (E : Env) (h : IsEnv E) : FRow Tryz.prog E 43 Tryz.f43 :=
  ⟨Tryz.func43, of_decide_eq_true (by kernel_rfl), by unfold IsEnv at h; subst h; kernel_rfl⟩
theorem fn148 (E : Env) (h : IsEnv E) : FRow Tryz.prog E 148 Tryz.f148 :=
  ⟨Tryz.func148, of_decide_eq_true (by kernel_rfl), by unfold IsEnv at h; subst h; kernel_rfl⟩
theorem fn106 (E : Env) (h : IsEnv E) : FRow Tryz.prog E 106 Tryz.f106 :=
  ⟨Tryz.func106, of_decide_eq_true (by kernel_rfl), by unfold IsEnv at h; subst h; kernel_rfl⟩
theorem fn107 (E : Env) (h : IsEnv E) : FRow Tryz.prog E 107 Tryz.f107 :=
  ⟨Tryz.func107, of_decide_eq_true (by kernel_rfl), by unfold IsEnv at h; subst h; kernel_rfl⟩
theorem fn152 (E : Env) (h : IsEnv E) : FRow Tryz.prog E 152 Tryz.f152 :=
  ⟨Tryz.func152, of_decide_eq_true (by kernel_rfl), by unfold IsEnv at h; subst h; kernel_rfl⟩
theorem fn164 (E : Env) (h : IsEnv E) : FRow Tryz.prog E 164 Tryz.f164 :=
  ⟨Tryz.func164, of_decide_eq_true (by kernel_rfl), by unfold IsEnv at h; subst h; kernel_rfl⟩
theorem fn209 (E : Env) (h : IsEnv E) : FRow Tryz.prog E 209 Tryz.f209 :=
  ⟨Tryz.func209, of_decide_eq_true (by kernel_rfl), by unfold IsEnv at h; subst h; kernel_rfl⟩
theorem fn228 (E : Env) (h : IsEnv E) : FRow Tryz.prog E 228 Tryz.f228 :=
  ⟨Tryz.func228, of_decide_eq_true (by kernel_rfl), by unfold IsEnv at h; subst h; kernel_rfl⟩
theorem fn165 (E : Env) (h : IsEnv E) : FRow Tryz.prog E 165 Tryz.f165 :=
  ⟨Tryz.func165, of_decide_eq_true (by kernel_rfl), by unfold IsEnv at h; subst h; kernel_rfl⟩
theorem fn229 (E : Env) (h : IsEnv E) : FRow Tryz.prog E 229 Tryz.f229 :=
  ⟨Tryz.func229, of_decide_eq_true (by kernel_rfl), by unfold IsEnv at h; subst h; kernel_rfl⟩
theorem fn212 (E : Env) (h : IsEnv E) : FRow Tryz.prog E 212 Tryz.f212 :=
  ⟨Tryz.func212, of_decide_eq_true (by kernel_rfl), by unfold IsEnv at h; subst h; kernel_rfl⟩
theorem fn230 (E : Env) (h : IsEnv E) : FRow Tryz.prog E 230 Tryz.f230 :=
  ⟨Tryz.func230, of_decide_eq_true (by kernel_rfl), by unfold IsEnv at h; subst h; kernel_rfl⟩
theorem fn214 (E : Env) (h : IsEnv E) : FRow Tryz.prog E 214 Tryz.f214 :=
  ⟨Tryz.func214, of_decide_eq_true (by kernel_rfl), by unfold IsEnv at h; subst h; kernel_rfl⟩
theorem fn118 (E : Env) (h : IsEnv E) : FRow Tryz.prog E 118 Tryz.f118 :=
  ⟨Tryz.func118, of_decide_eq_true (by kernel_rfl), by unfold IsEnv at h; subst h; kernel_rfl⟩
theorem fn122 (E : Env) (h : IsEnv E) : FRow Tryz.prog E 122 Tryz.f122 :=
  ⟨Tryz.func122, of_decide_eq_true (by kernel_rfl), by unfold IsEnv at h; subst h; kernel_rfl⟩
theorem fn123 (E : Env) (h : IsEnv E) : FRow Tryz.prog E 123 Tryz.f123 :=
  ⟨Tryz.func123, of_decide_eq_true (by kernel_rfl), by unfold IsEnv at h; subst h; kernel_rfl⟩
theorem fn124 (E : Env) (h : IsEnv E) : FRow Tryz.prog E 124 Tryz.f124 :=
  ⟨Tryz.func124, of_decide_eq_true (by kernel_rfl), by unfold IsEnv at h; subst h; kernel_rfl⟩
theorem fn125 (E : Env) (h : IsEnv E) : FRow Tryz.prog E 125 Tryz.f125 :=
  ⟨Tryz.func125, of_decide_eq_true (by kernel_rfl), by unfold IsEnv at h; subst h; kernel_rfl⟩
theorem fn169 (E : Env) (h : IsEnv E) : FRow Tryz.prog E 169 Tryz.f169 :=
  ⟨Tryz.func169, of_decide_eq_true (by kernel_rfl), by unfold IsEnv at h; subst h; kernel_rfl⟩
theorem fn171 (E : Env) (h : IsEnv E) : FRow Tryz.prog E 171 Tryz.f171 :=
  ⟨Tryz.func171, of_decide_eq_true (by kernel_rfl), by unfold IsEnv at h; subst h; kernel_rfl⟩
theorem fn127 (E : Env) (h : IsEnv E) : FRow Tryz.prog E 127 Tryz.f127 :=
  ⟨Tryz.func127, of_decide_eq_true (by kernel_rfl), by unfold IsEnv at h; subst h; kernel_rfl⟩
theorem fn128 (E : Env) (h : IsEnv E) : FRow Tryz.prog E 128 Tryz.f128 :=
  ⟨Tryz.func128, of_decide_eq_true (by kernel_rfl), by unfold IsEnv at h; subst h; kernel_rfl⟩
theorem fn133 (E : Env) (h : IsEnv E) : FRow Tryz.prog E 133 Tryz.f133 :=
  ⟨Tryz.func133, of_decide_eq_true (by kernel_rfl), by unfold IsEnv at h; subst h; kernel_rfl⟩
theorem fn132 (E : Env) (h : IsEnv E) : FRow Tryz.prog E 132 Tryz.f132 :=
  ⟨Tryz.func132, of_decide_eq_true (by kernel_rfl), by unfold IsEnv at h; subst h; kernel_rfl⟩
theorem fn134 (E : Env) (h : IsEnv E) : FRow Tryz.prog E 134 Tryz.f134 :=
  ⟨Tryz.func134, of_decide_eq_true (by kernel_rfl), by unfold IsEnv at h; subst h; kernel_rfl⟩
theorem fn136 (E : Env) (h : IsEnv E) : FRow Tryz.prog E 136 Tryz.f136 :=
  ⟨Tryz.func136, of_decide_eq_true (by kernel_rfl), by unfold IsEnv at h; subst h; kernel_rfl⟩
theorem fn135 (E : Env) (h : IsEnv E) : FRow Tryz.prog E 135 Tryz.f135 :=
  ⟨Tryz.func135, of_decide_eq_true (by kernel_rfl), by unfold IsEnv at h; subst h; kernel_rfl⟩
theorem fn138 (E : Env) (h : IsEnv E) : FRow Tryz.prog E 138 Tryz.f138 :=
  ⟨Tryz.func138, of_decide_eq_true (by kernel_rfl), by unfold IsEnv at h; subst h; kernel_rfl⟩
theorem fn137 (E : Env) (h : IsEnv E) : FRow Tryz.prog E 137 Tryz.f137 :=
  ⟨Tryz.func137, of_decide_eq_true (by kernel_rfl), by unfold IsEnv at h; subst h; kernel_rfl⟩
theorem fn139 (E : Env) (h : IsEnv E) : FRow Tryz.prog E 139 Tryz.f139 :=
  ⟨Tryz.func139, of_decide_eq_true (by kernel_rfl), by unfold IsEnv at h; subst h; kernel_rfl⟩
theorem fn173 (E : Env) (h : IsEnv E) : FRow Tryz.prog E 173 Tryz.f173 :=
  ⟨Tryz.func173, of_decide_eq_true (by kernel_rfl), by unfold IsEnv at h; subst h; kernel_rfl⟩
theorem fn174 (E : Env) (h : IsEnv E) : FRow Tryz.prog E 174 Tryz.f174 :=
  ⟨Tryz.func174, of_decide_eq_true (by kernel_rfl), by unfold IsEnv at h; subst h; kernel_rfl⟩
theorem fn140 (E : Env) (h : IsEnv E) : FRow Tryz.prog E 140 Tryz.f140 :=
  ⟨Tryz.func140, of_decide_eq_true (by kernel_rfl), by unfold IsEnv at h; subst h; kernel_rfl⟩
theorem fn79 (E : Env) (h : IsEnv E) : FRow Tryz.prog E 79 Tryz.f79 :=
  ⟨Tryz.func79, of_decide_eq_true (by kernel_rfl), by unfold IsEnv at h; subst h; kernel_rfl⟩
theorem fn175 (E : Env) (h : IsEnv E) : FRow Tryz.prog E 175 Tryz.f175 :=
  ⟨Tryz.func175, of_decide_eq_true (by kernel_rfl), by unfold IsEnv at h; subst h; kernel_rfl⟩
theorem fn176 (E : Env) (h : IsEnv E) : FRow Tryz.prog E 176 Tryz.f176 :=
  ⟨Tryz.func176, of_decide_eq_true (by kernel_rfl), by unfold IsEnv at h; subst h; kernel_rfl⟩
theorem fn141 (E : Env) (h : IsEnv E) : FRow Tryz.prog E 141 Tryz.f141 :=
  ⟨Tryz.func141, of_decide_eq_true (by kernel_rfl), by unfold IsEnv at h; subst h; kernel_rfl⟩
theorem fn178 (E : Env) (h : IsEnv E) : FRow Tryz.prog E 178 Tryz.f178 :=
  ⟨Tryz.func178, of_decide_eq_true (by kernel_rfl), by unfold IsEnv at h; subst h; kernel_rfl⟩
theorem fn180 (E : Env) (h : IsEnv E) : FRow Tryz.prog E 180 Tryz.f180 :=
  ⟨Tryz.func180, of_decide_eq_true (by kernel_rfl), by unfold IsEnv at h; subst h; kernel_rfl⟩
theorem fn192 (E : Env) (h : IsEnv E) : FRow Tryz.prog E 192 Tryz.f192 :=
  ⟨Tryz.func192, of_decide_eq_true (by kernel_rfl), by unfold IsEnv at h; subst h; kernel_rfl⟩
theorem fn177 (E : Env) (h : IsEnv E) : FRow Tryz.prog E 177 Tryz.f177 :=
  ⟨Tryz.func177, of_decide_eq_true (by kernel_rfl), by unfold IsEnv at h; subst h; kernel_rfl⟩
theorem fn179 (E : Env) (h : IsEnv E) : FRow Tryz.prog E 179 Tryz.f179 :=
  ⟨Tryz.func179, of_decide_eq_true (by kernel_rfl), by unfold IsEnv at h; subst h; kernel_rfl⟩
theorem fn181 (E : Env) (h : IsEnv E) : FRow Tryz.prog E 181 Tryz.f181 :=
  ⟨Tryz.func181, of_decide_eq_true (by kernel_rfl), by unfold IsEnv at h; subst h; kernel_rfl⟩
theorem fn182 (E : Env) (h : IsEnv E) : FRow Tryz.prog E 182 Tryz.f182 :=
  ⟨Tryz.func182, of_decide_eq_true (by kernel_rfl), by unfold IsEnv at h; subst h; kernel_rfl⟩
theorem fn215 (E : Env) (h : IsEnv E) : FRow Tryz.prog E 215 Tryz.f215 :=
  ⟨Tryz.func215, of_decide_eq_true (by kernel_rfl), by unfold IsEnv at h; subst h; kernel_rfl⟩
theorem fn183 (E : Env) (h : IsEnv E) : FRow Tryz.prog E 183 Tryz.f183 :=
  ⟨Tryz.func183, of_decide_eq_true (by kernel_rfl), by unfold IsEnv at h; subst h; kernel_rfl⟩
theorem fn184 (E : Env) (h : IsEnv E) : FRow Tryz.prog E 184 Tryz.f184 :=
  ⟨Tryz.func184, of_decide_eq_true (by kernel_rfl), by unfold IsEnv at h; subst h; kernel_rfl⟩
theorem fn142 (E : Env) (h : IsEnv E) : FRow Tryz.prog E 142 Tryz.f142 :=
  ⟨Tryz.func142, of_decide_eq_true (by kernel_rfl), by unfold IsEnv at h; subst h; kernel_rfl⟩
theorem fn186 (E : Env) (h : IsEnv E) : FRow Tryz.prog E 186 Tryz.f186 :=
  ⟨Tryz.func186, of_decide_eq_true (by kernel_rfl), by unfold IsEnv at h; subst h; kernel_rfl⟩
theorem fn188 (E : Env) (h : IsEnv E) : FRow Tryz.prog E 188 Tryz.f188 :=
  ⟨Tryz.func188, of_decide_eq_true (by kernel_rfl), by unfold IsEnv at h; subst h; kernel_rfl⟩
theorem fn193 (E : Env) (h : IsEnv E) : FRow Tryz.prog E 193 Tryz.f193 :=
  ⟨Tryz.func193, of_decide_eq_true (by kernel_rfl), by unfold IsEnv at h; subst h; kernel_rfl⟩
theorem fn185 (E : Env) (h : IsEnv E) : FRow Tryz.prog E 185 Tryz.f185 :=
  ⟨Tryz.func185, of_decide_eq_true (by kernel_rfl), by unfold IsEnv at h; subst h; kernel_rfl⟩
theorem fn187 (E : Env) (h : IsEnv E) : FRow Tryz.prog E 187 Tryz.f187 :=
  ⟨Tryz.func187, of_decide_eq_true (by kernel_rfl), by unfold IsEnv at h; subst h; kernel_rfl⟩
theorem fn189 (E : Env) (h : IsEnv E) : FRow Tryz.prog E 189 Tryz.f189 :=
  ⟨Tryz.func189, of_decide_eq_true (by kernel_rfl), by unfold IsEnv at h; subst h; kernel_rfl⟩
theorem fn190 (E : Env) (h : IsEnv E) : FRow Tryz.prog E 190 Tryz.f190 :=
  ⟨Tryz.func190, of_decide_eq_true (by kernel_rfl), by unfold IsEnv at h; subst h; kernel_rfl⟩
theorem fn191 (E : Env) (h : IsEnv E) : FRow Tryz.prog E 191 Tryz.f191 :=
  ⟨Tryz.func191, of_decide_eq_true (by kernel_rfl), by unfold IsEnv at h; subst h; kernel_rfl⟩
theorem fn143 (E : Env) (h : IsEnv E) : FRow Tryz.prog E 143 Tryz.f143 :=
  ⟨Tryz.func143, of_decide_eq_true (by kernel_rfl), by unfold IsEnv at h; subst h; kernel_rfl⟩
theorem fn129 (E : Env) (h : IsEnv E) : FRow Tryz.prog E 129 Tryz.f129 :=
  ⟨Tryz.func129, of_decide_eq_true (by kernel_rfl), by unfold IsEnv at h; subst h; kernel_rfl⟩
theorem fn130 (E : Env) (h : IsEnv E) : FRow Tryz.prog E 130 Tryz.f130 :=
  ⟨Tryz.func130, of_decide_eq_true (by kernel_rfl), by unfold IsEnv at h; subst h; kernel_rfl⟩
theorem fn131 (E : Env) (h : IsEnv E) : FRow Tryz.prog E 131 Tryz.f131 :=
  ⟨Tryz.func131, of_decide_eq_true (by kernel_rfl), by unfold IsEnv at h; subst h; kernel_rfl⟩
theorem fn172 (E : Env) (h : IsEnv E) : FRow Tryz.prog E 172 Tryz.f172 :=
  ⟨Tryz.func172, of_decide_eq_true (by kernel_rfl), by unfold IsEnv at h; subst h; kernel_rfl⟩
theorem fn146 (E : Env) (h : IsEnv E) : FRow Tryz.prog E 146 Tryz.f146 :=
  ⟨Tryz.func146, of_decide_eq_true (by kernel_rfl), by unfold IsEnv at h; subst h; kernel_rfl⟩
theorem fn65 (E : Env) (h : IsEnv E) : FRow Tryz.prog E 65 Tryz.f65 :=
  ⟨Tryz.func65, of_decide_eq_true (by kernel_rfl), by unfold IsEnv at h; subst h; kernel_rfl⟩
theorem fn18 (E : Env) (h : IsEnv E) : FRow Tryz.prog E 18 Tryz.f18 :=
  ⟨Tryz.func18, of_decide_eq_true (by kernel_rfl), by unfold IsEnv at h; subst h; kernel_rfl⟩
theorem fn78 (E : Env) (h : IsEnv E) : FRow Tryz.prog E 78 Tryz.f78 :=
  ⟨Tryz.func78, of_decide_eq_true (by kernel_rfl), by unfold IsEnv at h; subst h; kernel_rfl⟩
theorem fn21 (E : Env) (h : IsEnv E) : FRow Tryz.prog E 21 Tryz.f21 :=
  ⟨Tryz.func21, of_decide_eq_true (by kernel_rfl), by unfold IsEnv at h; subst h; kernel_rfl⟩
theorem fn82 (E : Env) (h : IsEnv E) : FRow Tryz.prog E 82 Tryz.f82 :=
  ⟨Tryz.func82, of_decide_eq_true (by kernel_rfl), by unfold IsEnv at h; subst h; kernel_rfl⟩
theorem fn80 (E : Env) (h : IsEnv E) : FRow Tryz.prog E 80 Tryz.f80 :=
  ⟨Tryz.func80, of_decide_eq_true (by kernel_rfl), by unfold IsEnv at h; subst h; kernel_rfl⟩
theorem fn19 (E : Env) (h : IsEnv E) : FRow Tryz.prog E 19 Tryz.f19 :=
  ⟨Tryz.func19, of_decide_eq_true (by kernel_rfl), by unfold IsEnv at h; subst h; kernel_rfl⟩
theorem fn20 (E : Env) (h : IsEnv E) : FRow Tryz.prog E 20 Tryz.f20 :=
  ⟨Tryz.func20, of_decide_eq_true (by kernel_rfl), by unfold IsEnv at h; subst h; kernel_rfl⟩
theorem fn81 (E : Env) (h : IsEnv E) : FRow Tryz.prog E 81 Tryz.f81 :=
  ⟨Tryz.func81, of_decide_eq_true (by kernel_rfl), by unfold IsEnv at h; subst h; kernel_rfl⟩
theorem fn22 (E : Env) (h : IsEnv E) : FRow Tryz.prog E 22 Tryz.f22 :=
  ⟨Tryz.func22, of_decide_eq_true (by kernel_rfl), by unfold IsEnv at h; subst h; kernel_rfl⟩
theorem fn5 (E : Env) (h : IsEnv E) : FRow Tryz.prog E 5 Tryz.f5 :=
  ⟨Tryz.func5, of_decide_eq_true (by kernel_rfl), by unfold IsEnv at h; subst h; kernel_rfl⟩
theorem fn8 (E : Env) (h : IsEnv E) : FRow Tryz.prog E 8 Tryz.f8 :=
  ⟨Tryz.func8, of_decide_eq_true (by kernel_rfl), by unfold IsEnv at h; subst h; kernel_rfl⟩
theorem fn23 (E : Env) (h : IsEnv E) : FRow Tryz.prog E 23 Tryz.f23 :=
  ⟨Tryz.func23, of_decide_eq_true (by kernel_rfl), by unfold IsEnv at h; subst h; kernel_rfl⟩
theorem fn27 (E : Env) (h : IsEnv E) : FRow Tryz.prog E 27 Tryz.f27 :=
  ⟨Tryz.func27, of_decide_eq_true (by kernel_rfl), by unfold IsEnv at h; subst h; kernel_rfl⟩
theorem fn84 (E : Env) (h : IsEnv E) : FRow Tryz.prog E 84 Tryz.f84 :=
  ⟨Tryz.func84, of_decide_eq_true (by kernel_rfl), by unfold IsEnv at h; subst h; kernel_rfl⟩
theorem fn144 (E : Env) (h : IsEnv E) : FRow Tryz.prog E 144 Tryz.f144 :=
  ⟨Tryz.func144, of_decide_eq_true (by kernel_rfl), by unfold IsEnv at h; subst h; kernel_rfl⟩
theorem fn145 (E : Env) (h : IsEnv E) : FRow Tryz.prog E 145 Tryz.f145 :=
  ⟨Tryz.func145, of_decide_eq_true (by kernel_rfl), by unfold IsEnv at h; subst h; kernel_rfl⟩
theorem fn85 (E : Env) (h : IsEnv E) : FRow Tryz.prog E 85 Tryz.f85 :=
  ⟨Tryz.func85, of_decide_eq_true (by kernel_rfl), by unfold IsEnv at h; subst h; kernel_rfl⟩
theorem fn24 (E : Env) (h : IsEnv E) : FRow Tryz.prog E 24 Tryz.f24 :=
  ⟨Tryz.func24, of_decide_eq_true (by kernel_rfl), by unfold IsEnv at h; subst h; kernel_rfl⟩
theorem fn25 (E : Env) (h : IsEnv E) : FRow Tryz.prog E 25 Tryz.f25 :=
  ⟨Tryz.func25, of_decide_eq_true (by kernel_rfl), by unfold IsEnv at h; subst h; kernel_rfl⟩
theorem fn26 (E : Env) (h : IsEnv E) : FRow Tryz.prog E 26 Tryz.f26 :=
  ⟨Tryz.func26, of_decide_eq_true (by kernel_rfl), by unfold IsEnv at h; subst h; kernel_rfl⟩
theorem fn28 (E : Env) (h : IsEnv E) : FRow Tryz.prog E 28 Tryz.f28 :=
  ⟨Tryz.func28, of_decide_eq_true (by kernel_rfl), by unfold IsEnv at h; subst h; kernel_rfl⟩
theorem fn29 (E : Env) (h : IsEnv E) : FRow Tryz.prog E 29 Tryz.f29 :=
  ⟨Tryz.func29, of_decide_eq_true (by kernel_rfl), by unfold IsEnv at h; subst h; kernel_rfl⟩
theorem fn281 (E : Env) (h : IsEnv E) : FRow Tryz.prog E 281 Tryz.f281 :=
  ⟨Tryz.func281, of_decide_eq_true (by kernel_rfl), by unfold IsEnv at h; subst h; kernel_rfl⟩
theorem fn282 (E : Env) (h : IsEnv E) : FRow Tryz.prog E 282 Tryz.f282 :=
  ⟨Tryz.func282, of_decide_eq_true (by kernel_rfl), by unfold IsEnv at h; subst h; kernel_rfl⟩
theorem fn283 (E : Env) (h : IsEnv E) : FRow Tryz.prog E 283 Tryz.f283 :=
  ⟨Tryz.func283, of_decide_eq_true (by kernel_rfl), by unfold IsEnv at h; subst h; kernel_rfl⟩
theorem fn284 (E : Env) (h : IsEnv E) : FRow Tryz.prog E 284 Tryz.f284 :=
  ⟨Tryz.func284, of_decide_eq_true (by kernel_rfl), by unfold IsEnv at h; subst h; kernel_rfl⟩
theorem fn285 (E : Env) (h : IsEnv E) : FRow Tryz.prog E 285 Tryz.f285 :=
  ⟨Tryz.func285, of_decide_eq_true (by kernel_rfl), by unfold IsEnv at h; subst h; kernel_rfl⟩
theorem fnAll (E : Env) (h : IsEnv E) : AllRows (FRow Tryz.prog E) ((46, Tryz.f46) :: (90, Tryz.f90) :: (147, Tryz.f147) :: (160, Tryz.f160) :: (210, Tryz.f210) :: (166, Tryz.f166) :: (108, Tryz.f108) :: (149, Tryz.f149) :: (109, Tryz.f109) :: (104, Tryz.f104) :: (86, Tryz.f86) :: (62, Tryz.f62) :: (61, Tryz.f61) :: (151, Tryz.f151) :: (77, Tryz.f77) :: (48, Tryz.f48) :: (47, Tryz.f47) :: (153, Tryz.f153) :: (97, Tryz.f97) :: (105, Tryz.f105) :: (102, Tryz.f102) :: (89, Tryz.f89) :: (88, Tryz.f88) :: (87, Tryz.f87) :: (208, Tryz.f208) :: (163, Tryz.f163) :: (93, Tryz.f93) :: (92, Tryz.f92) :: (194, Tryz.f194) :: (96, Tryz.f96) :: (95, Tryz.f95) :: (50, Tryz.f50) :: (112, Tryz.f112) :: (154, Tryz.f154) :: (121, Tryz.f121) :: (196, Tryz.f196) :: (150, Tryz.f150) :: (94, Tryz.f94) :: (197, Tryz.f197) :: (161, Tryz.f161) :: (115, Tryz.f115) :: (98, Tryz.f98) :: (167, Tryz.f167) :: (117, Tryz.f117) :: (113, Tryz.f113) :: (103, Tryz.f103) :: (91, Tryz.f91) :: (83, Tryz.f83) :: (76, Tryz.f76) :: (75, Tryz.f75) :: (74, Tryz.f74) :: (73, Tryz.f73) :: (72, Tryz.f72) :: (71, Tryz.f71) :: (70, Tryz.f70) :: (68, Tryz.f68) :: (67, Tryz.f67) :: (49, Tryz.f49) :: (45, Tryz.f45) :: (44, Tryz.f44) :: (42, Tryz.f42) :: (41, Tryz.f41) :: (40, Tryz.f40) :: (39, Tryz.f39) :: (37, Tryz.f37) :: (36, Tryz.f36) :: (35, Tryz.f35) :: (31, Tryz.f31) :: (213, Tryz.f213) :: (211, Tryz.f211) :: (170, Tryz.f170) :: (17, Tryz.f17) :: (168, Tryz.f168) :: (162, Tryz.f162) :: (16, Tryz.f16) :: (126, Tryz.f126) :: (12, Tryz.f12) :: (119, Tryz.f119) :: (116, Tryz.f116) :: (114, Tryz.f114) :: (11, Tryz.f11) :: (101, Tryz.f101) :: (100, Tryz.f100) :: (4, Tryz.f4) :: (7, Tryz.f7) :: (120, Tryz.f120) :: (38, Tryz.f38) :: (195, Tryz.f195) :: (43, Tryz.f43) :: (148, Tryz.f148) :: (106, Tryz.f106) :: (107, Tryz.f107) :: (152, Tryz.f152) :: (164, Tryz.f164) :: (209, Tryz.f209) :: (228, Tryz.f228) :: (165, Tryz.f165) :: (229, Tryz.f229) :: (212, Tryz.f212) :: (230, Tryz.f230) :: (214, Tryz.f214) :: (118, Tryz.f118) :: (122, Tryz.f122) :: (123, Tryz.f123) :: (124, Tryz.f124) :: (125, Tryz.f125) :: (169, Tryz.f169) :: (171, Tryz.f171) :: (127, Tryz.f127) :: (128, Tryz.f128) :: (133, Tryz.f133) :: (132, Tryz.f132) :: (134, Tryz.f134) :: (136, Tryz.f136) :: (135, Tryz.f135) :: (138, Tryz.f138) :: (137, Tryz.f137) :: (139, Tryz.f139) :: (173, Tryz.f173) :: (174, Tryz.f174) :: (140, Tryz.f140) :: (79, Tryz.f79) :: (175, Tryz.f175) :: (176, Tryz.f176) :: (141, Tryz.f141) :: (178, Tryz.f178) :: (180, Tryz.f180) :: (192, Tryz.f192) :: (177, Tryz.f177) :: (179, Tryz.f179) :: (181, Tryz.f181) :: (182, Tryz.f182) :: (215, Tryz.f215) :: (183, Tryz.f183) :: (184, Tryz.f184) :: (142, Tryz.f142) :: (186, Tryz.f186) :: (188, Tryz.f188) :: (193, Tryz.f193) :: (185, Tryz.f185) :: (187, Tryz.f187) :: (189, Tryz.f189) :: (190, Tryz.f190) :: (191, Tryz.f191) :: (143, Tryz.f143) :: (129, Tryz.f129) :: (130, Tryz.f130) :: (131, Tryz.f131) :: (172, Tryz.f172) :: (146, Tryz.f146) :: (65, Tryz.f65) :: (18, Tryz.f18) :: (78, Tryz.f78) :: (21, Tryz.f21) :: (82, Tryz.f82) :: (80, Tryz.f80) :: (19, Tryz.f19) :: (20, Tryz.f20) :: (81, Tryz.f81) :: (22, Tryz.f22) :: (5, Tryz.f5) :: (8, Tryz.f8) :: (23, Tryz.f23) :: (27, Tryz.f27) :: (84, Tryz.f84) :: (144, Tryz.f144) :: (145, Tryz.f145) :: (85, Tryz.f85) :: (24, Tryz.f24) :: (25, Tryz.f25) :: (26, Tryz.f26) :: (28, Tryz.f28) :: (29, Tryz.f29) :: (281, Tryz.f281) :: (282, Tryz.f282) :: (283, Tryz.f283) :: (284, Tryz.f284) :: (285, Tryz.f285) :: []) :=
  ⟨fn46 E h, fn90 E h, fn147 E h, fn160 E h, fn210 E h, fn166 E h, fn108 E h, fn149 E h, fn109 E h, fn104 E h, fn86 E h, fn62 E h, fn61 E h, fn151 E h, fn77 E h, fn48 E h, fn47 E h, fn153 E h, fn97 E h, fn105 E h, fn102 E h, fn89 E h, fn88 E h, fn87 E h, fn208 E h, fn163 E h, fn93 E h, fn92 E h, fn194 E h, fn96 E h, fn95 E h, fn50 E h, fn112 E h, fn154 E h, fn121 E h, fn196 E h, fn150 E h, fn94 E h, fn197 E h, fn161 E h, fn115 E h, fn98 E h, fn167 E h, fn117 E h, fn113 E h, fn103 E h, fn91 E h, fn83 E h, fn76 E h, fn75 E h, fn74 E h, fn73 E h, fn72 E h, fn71 E h, fn70 E h, fn68 E h, fn67 E h, fn49 E h, fn45 E h, fn44 E h, fn42 E h, fn41 E h, fn40 E h, fn39 E h, fn37 E h, fn36 E h, fn35 E h, fn31 E h, fn213 E h, fn211 E h, fn170 E h, fn17 E h, fn168 E h, fn162 E h, fn16 E h, fn126 E h, fn12 E h, fn119 E h, fn116 E h, fn114 E h, fn11 E h, fn101 E h, fn100 E h, fn4 E h, fn7 E h, fn120 E h, fn38 E h, fn195 E h, fn43 E h, fn148 E h, fn106 E h, fn107 E h, fn152 E h, fn164 E h, fn209 E h, fn228 E h, fn165 E h, fn229 E h, fn212 E h, fn230 E h, fn214 E h, fn118 E h, fn122 E h, fn123 E h, fn124 E h, fn125 E h, fn169 E h, fn171 E h, fn127 E h, fn128 E h, fn133 E h, fn132 E h, fn134 E h, fn136 E h, fn135 E h, fn138 E h, fn137 E h, fn139 E h, fn173 E h, fn174 E h, fn140 E h, fn79 E h, fn175 E h, fn176 E h, fn141 E h, fn178 E h, fn180 E h, fn192 E h, fn177 E h, fn179 E h, fn181 E h, fn182 E h, fn215 E h, fn183 E h, fn184 E h, fn142 E h, fn186 E h, fn188 E h, fn193 E h, fn185 E h, fn187 E h, fn189 E h, fn190 E h, fn191 E h, fn143 E h, fn129 E h, fn130 E h, fn131 E h, fn172 E h, fn146 E h, fn65 E h, fn18 E h, fn78 E h, fn21 E h, fn82 E h, fn80 E h, fn19 E h, fn20 E h, fn81 E h, fn22 E h, fn5 E h, fn8 E h, fn23 E h, fn27 E h, fn84 E h, fn144 E h, fn145 E h, fn85 E h, fn24 E h, fn25 E h, fn26 E h, fn28 E h, fn29 E h, fn281 E h, fn282 E h, fn283 E h, fn284 E h, fn285 E h, trivial⟩
end Go.Proofs.Qxb6500274aGreat
