import Derived.Test.Qxb6500274aGreatK00
import Derived.Test.Qxb6500274aGreatK01
import Derived.Test.Qxb6500274aGreatK02
import Derived.Test.Qxb6500274aGreatK03
import Derived.Test.Qxb6500274aGreatK04
import Derived.Test.Qxb6500274aGreatK05
import Derived.Test.Qxb6500274aGreatK06
import Derived.Test.Qxb6500274aGreatK07
import Derived.Test.Qxb6500274aGreatK08
import Derived.Test.Qxb6500274aGreatK09
import Derived.Test.Qxb6500274aGreatK10
import Derived.Test.Qxb6500274aGreatK11
import Derived.Test.Qxb6500274aGreatK12
import Derived.Test.Qxb6500274aGreatK13
import Derived.Test.Qxb6500274aGreatK14
import Derived.Test.Qxb6500274aGreatK15
import Derived.Test.Qxb6500274aGreatK16
import Derived.Test.Qxb6500274aGreatK17
import Derived.Test.Qxb6500274aGreatK18
import Derived.Test.Qxb6500274aGreatK19
import Derived.Test.Qxb6500274aGreatK20
import Derived.Test.Qxb6500274aGreatK21
import Derived.Test.Qxb6500274aGreatK22
import Derived.Test.Qxb6500274aGreatK23
import Derived.Test.Qxb6500274aGreatK24
import Derived.Test.Qxb6500274aGreatK25
import Derived.Test.Qxb6500274aGreatK26
import Derived.Test.Qxb6500274aGreatLr
set_option maxRecDepth 100000
set_option linter.unusedVariables false
namespace Go.Proofs.Qxb6500274aGreat
open Go Go.Sx
theorem ko_70 (E : Env) (h : IsEnv E) (o : Int) (h1 : 70 ≤ o) (h2 : o ≤ 89) : Step E backBoth zBoth (kI 7) (kI o) [] [] [] := by
  have hc : o = 70 ∨ o = 71 ∨ o = 72 ∨ o = 73 ∨ o = 74 ∨ o = 75 ∨ o = 76 ∨ o = 77 ∨ o = 78 ∨ o = 79 ∨ o = 80 ∨ o = 81 ∨ o = 82 ∨ o = 83 ∨ o = 84 ∨ o = 85 ∨ o = 86 ∨ o = 87 ∨ o = 88 ∨ o = 89 := by omega
  rcases hc with rfl | rfl | rfl | rfl | rfl | rfl | rfl | rfl | rfl | rfl | rfl | rfl | rfl | rfl | rfl | rfl | rfl | rfl | rfl | rfl
  · exact ko70 E h
  · exact ko71 E h
  · exact ko72 E h
  · exact ko73 E h
  · exact ko74 E h
  · exact ko75 E h
  · exact ko76 E h
  · exact ko77 E h
  · exact ko78 E h
  · exact ko79 E h
  · exact ko80 E h
  · exact ko81 E h
  · exact ko82 E h
  · exact ko83 E h
  · exact ko84 E h
  · exact ko85 E h
  · exact ko86 E h
  · exact ko87 E h
  · exact ko88 E h
  · exact ko89 E h
theorem ko_90 (E : Env) (h : IsEnv E) (o : Int) (h1 : 90 ≤ o) (h2 : o ≤ 105) : Step E backBoth zBoth (kI 7) (kI o) [] [] [] := by
  have hc : o = 90 ∨ o = 91 ∨ o = 92 ∨ o = 93 ∨ o = 94 ∨ o = 95 ∨ o = 96 ∨ o = 97 ∨ o = 98 ∨ o = 99 ∨ o = 100 ∨ o = 101 ∨ o = 102 ∨ o = 103 ∨ o = 104 ∨ o = 105 := by omega
  rcases hc with rfl | rfl | rfl | rfl | rfl | rfl | rfl | rfl | rfl | rfl | rfl | rfl | rfl | rfl | rfl | rfl
  · exact ko90 E h
  · exact ko91 E h
  · exact ko92 E h
  · exact ko93 E h
  · exact ko94 E h
  · exact ko95 E h
  · exact ko96 E h
  · exact ko97 E h
  · exact ko98 E h
  · exact ko99 E h
  · exact ko100 E h
  · exact ko101 E h
  · exact ko102 E h
  · exact ko103 E h
  · exact ko104 E h
  · exact ko105 E h
theorem ko_107 (E : Env) (h : IsEnv E) (o : Int) (h1 : 107 ≤ o) (h2 : o ≤ 126) : Step E backBoth zBoth (kI 7) (kI o) [] [] [] := by
  have hc : o = 107 ∨ o = 108 ∨ o = 109 ∨ o = 110 ∨ o = 111 ∨ o = 112 ∨ o = 113 ∨ o = 114 ∨ o = 115 ∨ o = 116 ∨ o = 117 ∨ o = 118 ∨ o = 119 ∨ o = 120 ∨ o = 121 ∨ o = 122 ∨ o = 123 ∨ o = 124 ∨ o = 125 ∨ o = 126 := by omega
  rcases hc with rfl | rfl | rfl | rfl | rfl | rfl | rfl | rfl | rfl | rfl | rfl | rfl | rfl | rfl | rfl | rfl | rfl | rfl | rfl | rfl
  · exact ko107 E h
  · exact ko108 E h
  · exact ko109 E h
  · exact ko110 E h
  · exact ko111 E h
  · exact ko112 E h
  · exact ko113 E h
  · exact ko114 E h
  · exact ko115 E h
  · exact ko116 E h
  · exact ko117 E h
  · exact ko118 E h
  · exact ko119 E h
  · exact ko120 E h
  · exact ko121 E h
  · exact ko122 E h
  · exact ko123 E h
  · exact ko124 E h
  · exact ko125 E h
  · exact ko126 E h
theorem ko_127 (E : Env) (h : IsEnv E) (o : Int) (h1 : 127 ≤ o) (h2 : o ≤ 146) : Step E backBoth zBoth (kI 7) (kI o) [] [] [] := by
  have hc : o = 127 ∨ o = 128 ∨ o = 129 ∨ o = 130 ∨ o = 131 ∨ o = 132 ∨ o = 133 ∨ o = 134 ∨ o = 135 ∨ o = 136 ∨ o = 137 ∨ o = 138 ∨ o = 139 ∨ o = 140 ∨ o = 141 ∨ o = 142 ∨ o = 143 ∨ o = 144 ∨ o = 145 ∨ o = 146 := by omega
  rcases hc with rfl | rfl | rfl | rfl | rfl | rfl | rfl | rfl | rfl | rfl | rfl | rfl | rfl | rfl | rfl | rfl | rfl | rfl | rfl | rfl
  · exact ko127 E h
  · exact ko128 E h
  · exact ko129 E h
  · exact ko130 E h
  · exact ko131 E h
  · exact ko132 E h
  · exact ko133 E h
  · exact ko134 E h
  · exact ko135 E h
  · exact ko136 E h
  · exact ko137 E h
  · exact ko138 E h
  · exact ko139 E h
  · exact ko140 E h
  · exact ko141 E h
  · exact ko142 E h
  · exact ko143 E h
  · exact ko144 E h
  · exact ko145 E h
  · exact ko146 E h
theorem ko_147 (E : Env) (h : IsEnv E) (o : Int) (h1 : 147 ≤ o) (h2 : o ≤ 166) : Step E backBoth zBoth (kI 7) (kI o) [] [] [] := by
  have hc : o = 147 ∨ o = 148 ∨ o = 149 ∨ o = 150 ∨ o = 151 ∨ o = 152 ∨ o = 153 ∨ o = 154 ∨ o = 155 ∨ o = 156 ∨ o = 157 ∨ o = 158 ∨ o = 159 ∨ o = 160 ∨ o = 161 ∨ o = 162 ∨ o = 163 ∨ o = 164 ∨ o = 165 ∨ o = 166 := by omega
  rcases hc with rfl | rfl | rfl | rfl | rfl | rfl | rfl | rfl | rfl | rfl | rfl | rfl | rfl | rfl | rfl | rfl | rfl | rfl | rfl | rfl
  · exact ko147 E h
  · exact ko148 E h
  · exact ko149 E h
  · exact ko150 E h
  · exact ko151 E h
  · exact ko152 E h
  · exact ko153 E h
  · exact ko154 E h
  · exact ko155 E h
  · exact ko156 E h
  · exact ko157 E h
  · exact ko158 E h
  · exact ko159 E h
  · exact ko160 E h
  · exact ko161 E h
  · exact ko162 E h
  · exact ko163 E h
  · exact ko164 E h
  · exact ko165 E h
  · exact ko166 E h
theorem ko_167 (E : Env) (h : IsEnv E) (o : Int) (h1 : 167 ≤ o) (h2 : o ≤ 191) : Step E backBoth zBoth (kI 7) (kI o) [] [] [] := by
  have hc : o = 167 ∨ o = 168 ∨ o = 169 ∨ o = 170 ∨ o = 171 ∨ o = 172 ∨ o = 173 ∨ o = 174 ∨ o = 175 ∨ o = 176 ∨ o = 177 ∨ o = 178 ∨ o = 179 ∨ o = 180 ∨ o = 181 ∨ o = 182 ∨ o = 183 ∨ o = 184 ∨ o = 185 ∨ o = 186 ∨ o = 187 ∨ o = 188 ∨ o = 189 ∨ o = 190 ∨ o = 191 := by omega
  rcases hc with rfl | rfl | rfl | rfl | rfl | rfl | rfl | rfl | rfl | rfl | rfl | rfl | rfl | rfl | rfl | rfl | rfl | rfl | rfl | rfl | rfl | rfl | rfl | rfl | rfl
  · exact ko167 E h
  · exact ko168 E h
  · exact ko169 E h
  · exact ko170 E h
  · exact ko171 E h
  · exact ko172 E h
  · exact ko173 E h
  · exact ko174 E h
  · exact ko175 E h
  · exact ko176 E h
  · exact ko177 E h
  · exact ko178 E h
  · exact ko179 E h
  · exact ko180 E h
  · exact ko181 E h
  · exact ko182 E h
  · exact ko183 E h
  · exact ko184 E h
  · exact ko185 E h
  · exact ko186 E h
  · exact ko187 E h
  · exact ko188 E h
  · exact ko189 E h
  · exact ko190 E h
  · exact ko191 E h
theorem km1g_0 (E : Env) (h : IsEnv E) (a : Nat) (h1 : 0 ≤ a) (h2 : a ≤ 29) : Step E backOK zOne (kI 3) (svI 1) [] [(pgA, uI a)] badM := by
  have hc : a = 0 ∨ a = 1 ∨ a = 2 ∨ a = 3 ∨ a = 4 ∨ a = 5 ∨ a = 6 ∨ a = 7 ∨ a = 8 ∨ a = 9 ∨ a = 10 ∨ a = 11 ∨ a = 12 ∨ a = 13 ∨ a = 14 ∨ a = 15 ∨ a = 16 ∨ a = 17 ∨ a = 18 ∨ a = 19 ∨ a = 20 ∨ a = 21 ∨ a = 22 ∨ a = 23 ∨ a = 24 ∨ a = 25 ∨ a = 26 ∨ a = 27 ∨ a = 28 ∨ a = 29 := by omega
  rcases hc with rfl | rfl | rfl | rfl | rfl | rfl | rfl | rfl | rfl | rfl | rfl | rfl | rfl | rfl | rfl | rfl | rfl | rfl | rfl | rfl | rfl | rfl | rfl | rfl | rfl | rfl | rfl | rfl | rfl | rfl
  · exact km1_0 E h
  · exact km1_1 E h
  · exact km1_2 E h
  · exact km1_3 E h
  · exact km1_4 E h
  · exact km1_5 E h
  · exact km1_6 E h
  · exact km1_7 E h
  · exact km1_8 E h
  · exact km1_9 E h
  · exact km1_10 E h
  · exact km1_11 E h
  · exact km1_12 E h
  · exact km1_13 E h
  · exact km1_14 E h
  · exact km1_15 E h
  · exact km1_16 E h
  · exact km1_17 E h
  · exact km1_18 E h
  · exact km1_19 E h
  · exact km1_20 E h
  · exact km1_21 E h
  · exact km1_22 E h
  · exact km1_23 E h
  · exact km1_24 E h
  · exact km1_25 E h
  · exact km1_26 E h
  · exact km1_27 E h
  · exact km1_28 E h
  · exact km1_29 E h
theorem km1g_30 (E : Env) (h : IsEnv E) (a : Nat) (h1 : 30 ≤ a) (h2 : a ≤ 56) : Step E backOK zOne (kI 3) (svI 1) [] [(pgA, uI a)] badM := by
  have hc : a = 30 ∨ a = 31 ∨ a = 32 ∨ a = 33 ∨ a = 34 ∨ a = 35 ∨ a = 36 ∨ a = 37 ∨ a = 38 ∨ a = 39 ∨ a = 40 ∨ a = 41 ∨ a = 42 ∨ a = 43 ∨ a = 44 ∨ a = 45 ∨ a = 46 ∨ a = 47 ∨ a = 48 ∨ a = 49 ∨ a = 50 ∨ a = 51 ∨ a = 52 ∨ a = 53 ∨ a = 54 ∨ a = 55 ∨ a = 56 := by omega
  rcases hc with rfl | rfl | rfl | rfl | rfl | rfl | rfl | rfl | rfl | rfl | rfl | rfl | rfl | rfl | rfl | rfl | rfl | rfl | rfl | rfl | rfl | rfl | rfl | rfl | rfl | rfl | rfl
  · exact km1_30 E h
  · exact km1_31 E h
  · exact km1_32 E h
  · exact km1_33 E h
  · exact km1_34 E h
  · exact km1_35 E h
  · exact km1_36 E h
  · exact km1_37 E h
  · exact km1_38 E h
  · exact km1_39 E h
  · exact km1_40 E h
  · exact km1_41 E h
  · exact km1_42 E h
  · exact km1_43 E h
  · exact km1_44 E h
  · exact km1_45 E h
  · exact km1_46 E h
  · exact km1_47 E h
  · exact km1_48 E h
  · exact km1_49 E h
  · exact km1_50 E h
  · exact km1_51 E h
  · exact km1_52 E h
  · exact km1_53 E h
  · exact km1_54 E h
  · exact km1_55 E h
  · exact km1_56 E h
theorem km1_all (E : Env) (h : IsEnv E) (a : Nat) (h2 : a ≤ 56) : Step E backOK zOne (kI 3) (svI 1) [] [(pgA, uI a)] badM := by
  by_cases g0 : a ≤ 29
  · exact km1g_0 E h a (by omega) g0
  exact km1g_30 E h a (by omega) h2
theorem km2g_0 (E : Env) (h : IsEnv E) (a : Nat) (h1 : 0 ≤ a) (h2 : a ≤ 29) : Step E backOK zTwo (kI 3) (svI 1) [] [(pgA, uI a)] badM := by
  have hc : a = 0 ∨ a = 1 ∨ a = 2 ∨ a = 3 ∨ a = 4 ∨ a = 5 ∨ a = 6 ∨ a = 7 ∨ a = 8 ∨ a = 9 ∨ a = 10 ∨ a = 11 ∨ a = 12 ∨ a = 13 ∨ a = 14 ∨ a = 15 ∨ a = 16 ∨ a = 17 ∨ a = 18 ∨ a = 19 ∨ a = 20 ∨ a = 21 ∨ a = 22 ∨ a = 23 ∨ a = 24 ∨ a = 25 ∨ a = 26 ∨ a = 27 ∨ a = 28 ∨ a = 29 := by omega
  rcases hc with rfl | rfl | rfl | rfl | rfl | rfl | rfl | rfl | rfl | rfl | rfl | rfl | rfl | rfl | rfl | rfl | rfl | rfl | rfl | rfl | rfl | rfl | rfl | rfl | rfl | rfl | rfl | rfl | rfl | rfl
  · exact km2_0 E h
  · exact km2_1 E h
  · exact km2_2 E h
  · exact km2_3 E h
  · exact km2_4 E h
  · exact km2_5 E h
  · exact km2_6 E h
  · exact km2_7 E h
  · exact km2_8 E h
  · exact km2_9 E h
  · exact km2_10 E h
  · exact km2_11 E h
  · exact km2_12 E h
  · exact km2_13 E h
  · exact km2_14 E h
  · exact km2_15 E h
  · exact km2_16 E h
  · exact km2_17 E h
  · exact km2_18 E h
  · exact km2_19 E h
  · exact km2_20 E h
  · exact km2_21 E h
  · exact km2_22 E h
  · exact km2_23 E h
  · exact km2_24 E h
  · exact km2_25 E h
  · exact km2_26 E h
  · exact km2_27 E h
  · exact km2_28 E h
  · exact km2_29 E h
theorem km2g_30 (E : Env) (h : IsEnv E) (a : Nat) (h1 : 30 ≤ a) (h2 : a ≤ 59) : Step E backOK zTwo (kI 3) (svI 1) [] [(pgA, uI a)] badM := by
  have hc : a = 30 ∨ a = 31 ∨ a = 32 ∨ a = 33 ∨ a = 34 ∨ a = 35 ∨ a = 36 ∨ a = 37 ∨ a = 38 ∨ a = 39 ∨ a = 40 ∨ a = 41 ∨ a = 42 ∨ a = 43 ∨ a = 44 ∨ a = 45 ∨ a = 46 ∨ a = 47 ∨ a = 48 ∨ a = 49 ∨ a = 50 ∨ a = 51 ∨ a = 52 ∨ a = 53 ∨ a = 54 ∨ a = 55 ∨ a = 56 ∨ a = 57 ∨ a = 58 ∨ a = 59 := by omega
  rcases hc with rfl | rfl | rfl | rfl | rfl | rfl | rfl | rfl | rfl | rfl | rfl | rfl | rfl | rfl | rfl | rfl | rfl | rfl | rfl | rfl | rfl | rfl | rfl | rfl | rfl | rfl | rfl | rfl | rfl | rfl
  · exact km2_30 E h
  · exact km2_31 E h
  · exact km2_32 E h
  · exact km2_33 E h
  · exact km2_34 E h
  · exact km2_35 E h
  · exact km2_36 E h
  · exact km2_37 E h
  · exact km2_38 E h
  · exact km2_39 E h
  · exact km2_40 E h
  · exact km2_41 E h
  · exact km2_42 E h
  · exact km2_43 E h
  · exact km2_44 E h
  · exact km2_45 E h
  · exact km2_46 E h
  · exact km2_47 E h
  · exact km2_48 E h
  · exact km2_49 E h
  · exact km2_50 E h
  · exact km2_51 E h
  · exact km2_52 E h
  · exact km2_53 E h
  · exact km2_54 E h
  · exact km2_55 E h
  · exact km2_56 E h
  · exact km2_57 E h
  · exact km2_58 E h
  · exact km2_59 E h
theorem km2g_60 (E : Env) (h : IsEnv E) (a : Nat) (h1 : 60 ≤ a) (h2 : a ≤ 89) : Step E backOK zTwo (kI 3) (svI 1) [] [(pgA, uI a)] badM := by
  have hc : a = 60 ∨ a = 61 ∨ a = 62 ∨ a = 63 ∨ a = 64 ∨ a = 65 ∨ a = 66 ∨ a = 67 ∨ a = 68 ∨ a = 69 ∨ a = 70 ∨ a = 71 ∨ a = 72 ∨ a = 73 ∨ a = 74 ∨ a = 75 ∨ a = 76 ∨ a = 77 ∨ a = 78 ∨ a = 79 ∨ a = 80 ∨ a = 81 ∨ a = 82 ∨ a = 83 ∨ a = 84 ∨ a = 85 ∨ a = 86 ∨ a = 87 ∨ a = 88 ∨ a = 89 := by omega
  rcases hc with rfl | rfl | rfl | rfl | rfl | rfl | rfl | rfl | rfl | rfl | rfl | rfl | rfl | rfl | rfl | rfl | rfl | rfl | rfl | rfl | rfl | rfl | rfl | rfl | rfl | rfl | rfl | rfl | rfl | rfl
  · exact km2_60 E h
  · exact km2_61 E h
  · exact km2_62 E h
  · exact km2_63 E h
  · exact km2_64 E h
  · exact km2_65 E h
  · exact km2_66 E h
  · exact km2_67 E h
  · exact km2_68 E h
  · exact km2_69 E h
  · exact km2_70 E h
  · exact km2_71 E h
  · exact km2_72 E h
  · exact km2_73 E h
  · exact km2_74 E h
  · exact km2_75 E h
  · exact km2_76 E h
  · exact km2_77 E h
  · exact km2_78 E h
  · exact km2_79 E h
  · exact km2_80 E h
  · exact km2_81 E h
  · exact km2_82 E h
  · exact km2_83 E h
  · exact km2_84 E h
  · exact km2_85 E h
  · exact km2_86 E h
  · exact km2_87 E h
  · exact km2_88 E h
  · exact km2_89 E h
theorem km2g_90 (E : Env) (h : IsEnv E) (a : Nat) (h1 : 90 ≤ a) (h2 : a ≤ 119) : Step E backOK zTwo (kI 3) (svI 1) [] [(pgA, uI a)] badM := by
  have hc : a = 90 ∨ a = 91 ∨ a = 92 ∨ a = 93 ∨ a = 94 ∨ a = 95 ∨ a = 96 ∨ a = 97 ∨ a = 98 ∨ a = 99 ∨ a = 100 ∨ a = 101 ∨ a = 102 ∨ a = 103 ∨ a = 104 ∨ a = 105 ∨ a = 106 ∨ a = 107 ∨ a = 108 ∨ a = 109 ∨ a = 110 ∨ a = 111 ∨ a = 112 ∨ a = 113 ∨ a = 114 ∨ a = 115 ∨ a = 116 ∨ a = 117 ∨ a = 118 ∨ a = 119 := by omega
  rcases hc with rfl | rfl | rfl | rfl | rfl | rfl | rfl | rfl | rfl | rfl | rfl | rfl | rfl | rfl | rfl | rfl | rfl | rfl | rfl | rfl | rfl | rfl | rfl | rfl | rfl | rfl | rfl | rfl | rfl | rfl
  · exact km2_90 E h
  · exact km2_91 E h
  · exact km2_92 E h
  · exact km2_93 E h
  · exact km2_94 E h
  · exact km2_95 E h
  · exact km2_96 E h
  · exact km2_97 E h
  · exact km2_98 E h
  · exact km2_99 E h
  · exact km2_100 E h
  · exact km2_101 E h
  · exact km2_102 E h
  · exact km2_103 E h
  · exact km2_104 E h
  · exact km2_105 E h
  · exact km2_106 E h
  · exact km2_107 E h
  · exact km2_108 E h
  · exact km2_109 E h
  · exact km2_110 E h
  · exact km2_111 E h
  · exact km2_112 E h
  · exact km2_113 E h
  · exact km2_114 E h
  · exact km2_115 E h
  · exact km2_116 E h
  · exact km2_117 E h
  · exact km2_118 E h
  · exact km2_119 E h
theorem km2g_120 (E : Env) (h : IsEnv E) (a : Nat) (h1 : 120 ≤ a) (h2 : a ≤ 120) : Step E backOK zTwo (kI 3) (svI 1) [] [(pgA, uI a)] badM := by
  have hc : a = 120 := by omega
  rcases hc with rfl
  · exact km2_120 E h
theorem km2_all (E : Env) (h : IsEnv E) (a : Nat) (h2 : a ≤ 120) : Step E backOK zTwo (kI 3) (svI 1) [] [(pgA, uI a)] badM := by
  by_cases g0 : a ≤ 29
  · exact km2g_0 E h a (by omega) g0
  by_cases g30 : a ≤ 59
  · exact km2g_30 E h a (by omega) g30
  by_cases g60 : a ≤ 89
  · exact km2g_60 E h a (by omega) g60
  by_cases g90 : a ≤ 119
  · exact km2g_90 E h a (by omega) g90
  exact km2g_120 E h a (by omega) h2
theorem allSteps (E : Env) (h : IsEnv E) : AllSteps E where
  ko := by
    intro o h1 h2 h3 h4
    by_cases g1 : o ≤ 89
    · exact ko_70 E h o (by omega) g1
    by_cases g2 : o ≤ 105
    · exact ko_90 E h o (by omega) g2
    by_cases g3 : o ≤ 126
    · exact ko_107 E h o (by omega) g3
    by_cases g4 : o ≤ 146
    · exact ko_127 E h o (by omega) g4
    by_cases g5 : o ≤ 166
    · exact ko_147 E h o (by omega) g5
    exact ko_167 E h o (by omega) h2
  s0 := ks0 E h
  s1 := ks1 E h
  s2 := ks2 E h
  s3 := ks3 E h
  s4 := ks4 E h
  s5 := ks5 E h
  s6 := ks6 E h
  pick := kpick E h
  gadd := kgadd E h
  host := khost E h
  hostX := khostX E h
  low := klow E h
  high := khigh E h
  noLow := knoLow E h
  noHigh := knoHigh E h
  mem := by
    rintro p a (rfl | rfl) ha
    · exact km1_all E h a (by omega)
    · exact km2_all E h a (by omega)
  memX := by
    rintro p (rfl | rfl)
    · exact km1X E h
    · exact km2X E h
  grow := by
    rintro p a (rfl | rfl) ha
    · have : a = 0 ∨ a = 1 := by omega
      rcases this with rfl | rfl
      · exact kg1_0 E h
      · exact kg1_1 E h
    · have : a = 0 ∨ a = 1 := by omega
      rcases this with rfl | rfl
      · exact kg2_0 E h
      · exact kg2_1 E h
  growX := by
    rintro p (rfl | rfl)
    · exact kg1X E h
    · exact kg2X E h
end Go.Proofs.Qxb6500274aGreat
