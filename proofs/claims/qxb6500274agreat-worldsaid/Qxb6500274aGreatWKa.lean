import Derived.Test.Qxb6500274aGreatWRj
import Derived.Test.Qxb6500274aGreatWK00
import Derived.Test.Qxb6500274aGreatWK01
import Derived.Test.Qxb6500274aGreatWK02
import Derived.Test.Qxb6500274aGreatWK03
import Derived.Test.Qxb6500274aGreatWK04
import Derived.Test.Qxb6500274aGreatWK05
import Derived.Test.Qxb6500274aGreatWK06
import Derived.Test.Qxb6500274aGreatWK07
import Derived.Test.Qxb6500274aGreatWK08
import Derived.Test.Qxb6500274aGreatWK09
import Derived.Test.Qxb6500274aGreatWK10
import Derived.Test.Qxb6500274aGreatWK11
import Derived.Test.Qxb6500274aGreatWK12
import Derived.Test.Qxb6500274aGreatWK13
import Derived.Test.Qxb6500274aGreatWK14
import Derived.Test.Qxb6500274aGreatWK15
import Derived.Test.Qxb6500274aGreatWK16
import Derived.Test.Qxb6500274aGreatWK17
import Derived.Test.Qxb6500274aGreatWK18
import Derived.Test.Qxb6500274aGreatWK19
import Derived.Test.Qxb6500274aGreatWK20
import Derived.Test.Qxb6500274aGreatWK21
set_option maxRecDepth 20000
namespace Go.Proofs.Qxb6500274aGreat
open Go Go.Sx
theorem all_wshow_0 (E : Env) (hE : IsEnv E) (l h : Nat) (h1 : l + h ≤ 6) : ShowOK E l h 0 := by
  match l, h, h1 with
  | 0, 0, _ => exact wshow_0_0_0 E hE
  | 0, 1, _ => exact wshow_0_1_0 E hE
  | 0, 2, _ => exact wshow_0_2_0 E hE
  | 0, 3, _ => exact wshow_0_3_0 E hE
  | 0, 4, _ => exact wshow_0_4_0 E hE
  | 0, 5, _ => exact wshow_0_5_0 E hE
  | 0, 6, _ => exact wshow_0_6_0 E hE
  | 0, n + 7, h1 => exact absurd h1 (by omega)
  | 1, 0, _ => exact wshow_1_0_0 E hE
  | 1, 1, _ => exact wshow_1_1_0 E hE
  | 1, 2, _ => exact wshow_1_2_0 E hE
  | 1, 3, _ => exact wshow_1_3_0 E hE
  | 1, 4, _ => exact wshow_1_4_0 E hE
  | 1, 5, _ => exact wshow_1_5_0 E hE
  | 1, n + 6, h1 => exact absurd h1 (by omega)
  | 2, 0, _ => exact wshow_2_0_0 E hE
  | 2, 1, _ => exact wshow_2_1_0 E hE
  | 2, 2, _ => exact wshow_2_2_0 E hE
  | 2, 3, _ => exact wshow_2_3_0 E hE
  | 2, 4, _ => exact wshow_2_4_0 E hE
  | 2, n + 5, h1 => exact absurd h1 (by omega)
  | 3, 0, _ => exact wshow_3_0_0 E hE
  | 3, 1, _ => exact wshow_3_1_0 E hE
  | 3, 2, _ => exact wshow_3_2_0 E hE
  | 3, 3, _ => exact wshow_3_3_0 E hE
  | 3, n + 4, h1 => exact absurd h1 (by omega)
  | 4, 0, _ => exact wshow_4_0_0 E hE
  | 4, 1, _ => exact wshow_4_1_0 E hE
  | 4, 2, _ => exact wshow_4_2_0 E hE
  | 4, n + 3, h1 => exact absurd h1 (by omega)
  | 5, 0, _ => exact wshow_5_0_0 E hE
  | 5, 1, _ => exact wshow_5_1_0 E hE
  | 5, n + 2, h1 => exact absurd h1 (by omega)
  | 6, 0, _ => exact wshow_6_0_0 E hE
  | 6, n + 1, h1 => exact absurd h1 (by omega)
  | n + 7, h, h1 => exact absurd h1 (by omega)
theorem all_wshow_4 (E : Env) (hE : IsEnv E) (l h : Nat) (h1 : l + h ≤ 6) : ShowOK E l h 4 := by
  match l, h, h1 with
  | 0, 0, _ => exact wshow_0_0_4 E hE
  | 0, 1, _ => exact wshow_0_1_4 E hE
  | 0, 2, _ => exact wshow_0_2_4 E hE
  | 0, 3, _ => exact wshow_0_3_4 E hE
  | 0, 4, _ => exact wshow_0_4_4 E hE
  | 0, 5, _ => exact wshow_0_5_4 E hE
  | 0, 6, _ => exact wshow_0_6_4 E hE
  | 0, n + 7, h1 => exact absurd h1 (by omega)
  | 1, 0, _ => exact wshow_1_0_4 E hE
  | 1, 1, _ => exact wshow_1_1_4 E hE
  | 1, 2, _ => exact wshow_1_2_4 E hE
  | 1, 3, _ => exact wshow_1_3_4 E hE
  | 1, 4, _ => exact wshow_1_4_4 E hE
  | 1, 5, _ => exact wshow_1_5_4 E hE
  | 1, n + 6, h1 => exact absurd h1 (by omega)
  | 2, 0, _ => exact wshow_2_0_4 E hE
  | 2, 1, _ => exact wshow_2_1_4 E hE
  | 2, 2, _ => exact wshow_2_2_4 E hE
  | 2, 3, _ => exact wshow_2_3_4 E hE
  | 2, 4, _ => exact wshow_2_4_4 E hE
  | 2, n + 5, h1 => exact absurd h1 (by omega)
  | 3, 0, _ => exact wshow_3_0_4 E hE
  | 3, 1, _ => exact wshow_3_1_4 E hE
  | 3, 2, _ => exact wshow_3_2_4 E hE
  | 3, 3, _ => exact wshow_3_3_4 E hE
  | 3, n + 4, h1 => exact absurd h1 (by omega)
  | 4, 0, _ => exact wshow_4_0_4 E hE
  | 4, 1, _ => exact wshow_4_1_4 E hE
  | 4, 2, _ => exact wshow_4_2_4 E hE
  | 4, n + 3, h1 => exact absurd h1 (by omega)
  | 5, 0, _ => exact wshow_5_0_4 E hE
  | 5, 1, _ => exact wshow_5_1_4 E hE
  | 5, n + 2, h1 => exact absurd h1 (by omega)
  | 6, 0, _ => exact wshow_6_0_4 E hE
  | 6, n + 1, h1 => exact absurd h1 (by omega)
  | n + 7, h, h1 => exact absurd h1 (by omega)
theorem all_wshow_38 (E : Env) (hE : IsEnv E) (l h : Nat) (h1 : l + h ≤ 6) : ShowOK E l h 38 := by
  match l, h, h1 with
  | 0, 0, _ => exact wshow_0_0_38 E hE
  | 0, 1, _ => exact wshow_0_1_38 E hE
  | 0, 2, _ => exact wshow_0_2_38 E hE
  | 0, 3, _ => exact wshow_0_3_38 E hE
  | 0, 4, _ => exact wshow_0_4_38 E hE
  | 0, 5, _ => exact wshow_0_5_38 E hE
  | 0, 6, _ => exact wshow_0_6_38 E hE
  | 0, n + 7, h1 => exact absurd h1 (by omega)
  | 1, 0, _ => exact wshow_1_0_38 E hE
  | 1, 1, _ => exact wshow_1_1_38 E hE
  | 1, 2, _ => exact wshow_1_2_38 E hE
  | 1, 3, _ => exact wshow_1_3_38 E hE
  | 1, 4, _ => exact wshow_1_4_38 E hE
  | 1, 5, _ => exact wshow_1_5_38 E hE
  | 1, n + 6, h1 => exact absurd h1 (by omega)
  | 2, 0, _ => exact wshow_2_0_38 E hE
  | 2, 1, _ => exact wshow_2_1_38 E hE
  | 2, 2, _ => exact wshow_2_2_38 E hE
  | 2, 3, _ => exact wshow_2_3_38 E hE
  | 2, 4, _ => exact wshow_2_4_38 E hE
  | 2, n + 5, h1 => exact absurd h1 (by omega)
  | 3, 0, _ => exact wshow_3_0_38 E hE
  | 3, 1, _ => exact wshow_3_1_38 E hE
  | 3, 2, _ => exact wshow_3_2_38 E hE
  | 3, 3, _ => exact wshow_3_3_38 E hE
  | 3, n + 4, h1 => exact absurd h1 (by omega)
  | 4, 0, _ => exact wshow_4_0_38 E hE
  | 4, 1, _ => exact wshow_4_1_38 E hE
  | 4, 2, _ => exact wshow_4_2_38 E hE
  | 4, n + 3, h1 => exact absurd h1 (by omega)
  | 5, 0, _ => exact wshow_5_0_38 E hE
  | 5, 1, _ => exact wshow_5_1_38 E hE
  | 5, n + 2, h1 => exact absurd h1 (by omega)
  | 6, 0, _ => exact wshow_6_0_38 E hE
  | 6, n + 1, h1 => exact absurd h1 (by omega)
  | n + 7, h, h1 => exact absurd h1 (by omega)
theorem all_wstill_0 (E : Env) (hE : IsEnv E) (l h : Nat) (h1 : l + h ≤ 6) : StillOK E l h 0 := by
  match l, h, h1 with
  | 0, 0, _ => exact wstill_0_0_0 E hE
  | 0, 1, _ => exact wstill_0_1_0 E hE
  | 0, 2, _ => exact wstill_0_2_0 E hE
  | 0, 3, _ => exact wstill_0_3_0 E hE
  | 0, 4, _ => exact wstill_0_4_0 E hE
  | 0, 5, _ => exact wstill_0_5_0 E hE
  | 0, 6, _ => exact wstill_0_6_0 E hE
  | 0, n + 7, h1 => exact absurd h1 (by omega)
  | 1, 0, _ => exact wstill_1_0_0 E hE
  | 1, 1, _ => exact wstill_1_1_0 E hE
  | 1, 2, _ => exact wstill_1_2_0 E hE
  | 1, 3, _ => exact wstill_1_3_0 E hE
  | 1, 4, _ => exact wstill_1_4_0 E hE
  | 1, 5, _ => exact wstill_1_5_0 E hE
  | 1, n + 6, h1 => exact absurd h1 (by omega)
  | 2, 0, _ => exact wstill_2_0_0 E hE
  | 2, 1, _ => exact wstill_2_1_0 E hE
  | 2, 2, _ => exact wstill_2_2_0 E hE
  | 2, 3, _ => exact wstill_2_3_0 E hE
  | 2, 4, _ => exact wstill_2_4_0 E hE
  | 2, n + 5, h1 => exact absurd h1 (by omega)
  | 3, 0, _ => exact wstill_3_0_0 E hE
  | 3, 1, _ => exact wstill_3_1_0 E hE
  | 3, 2, _ => exact wstill_3_2_0 E hE
  | 3, 3, _ => exact wstill_3_3_0 E hE
  | 3, n + 4, h1 => exact absurd h1 (by omega)
  | 4, 0, _ => exact wstill_4_0_0 E hE
  | 4, 1, _ => exact wstill_4_1_0 E hE
  | 4, 2, _ => exact wstill_4_2_0 E hE
  | 4, n + 3, h1 => exact absurd h1 (by omega)
  | 5, 0, _ => exact wstill_5_0_0 E hE
  | 5, 1, _ => exact wstill_5_1_0 E hE
  | 5, n + 2, h1 => exact absurd h1 (by omega)
  | 6, 0, _ => exact wstill_6_0_0 E hE
  | 6, n + 1, h1 => exact absurd h1 (by omega)
  | n + 7, h, h1 => exact absurd h1 (by omega)
theorem all_wstill_4 (E : Env) (hE : IsEnv E) (l h : Nat) (h1 : l + h ≤ 6) : StillOK E l h 4 := by
  match l, h, h1 with
  | 0, 0, _ => exact wstill_0_0_4 E hE
  | 0, 1, _ => exact wstill_0_1_4 E hE
  | 0, 2, _ => exact wstill_0_2_4 E hE
  | 0, 3, _ => exact wstill_0_3_4 E hE
  | 0, 4, _ => exact wstill_0_4_4 E hE
  | 0, 5, _ => exact wstill_0_5_4 E hE
  | 0, 6, _ => exact wstill_0_6_4 E hE
  | 0, n + 7, h1 => exact absurd h1 (by omega)
  | 1, 0, _ => exact wstill_1_0_4 E hE
  | 1, 1, _ => exact wstill_1_1_4 E hE
  | 1, 2, _ => exact wstill_1_2_4 E hE
  | 1, 3, _ => exact wstill_1_3_4 E hE
  | 1, 4, _ => exact wstill_1_4_4 E hE
  | 1, 5, _ => exact wstill_1_5_4 E hE
  | 1, n + 6, h1 => exact absurd h1 (by omega)
  | 2, 0, _ => exact wstill_2_0_4 E hE
  | 2, 1, _ => exact wstill_2_1_4 E hE
  | 2, 2, _ => exact wstill_2_2_4 E hE
  | 2, 3, _ => exact wstill_2_3_4 E hE
  | 2, 4, _ => exact wstill_2_4_4 E hE
  | 2, n + 5, h1 => exact absurd h1 (by omega)
  | 3, 0, _ => exact wstill_3_0_4 E hE
  | 3, 1, _ => exact wstill_3_1_4 E hE
  | 3, 2, _ => exact wstill_3_2_4 E hE
  | 3, 3, _ => exact wstill_3_3_4 E hE
  | 3, n + 4, h1 => exact absurd h1 (by omega)
  | 4, 0, _ => exact wstill_4_0_4 E hE
  | 4, 1, _ => exact wstill_4_1_4 E hE
  | 4, 2, _ => exact wstill_4_2_4 E hE
  | 4, n + 3, h1 => exact absurd h1 (by omega)
  | 5, 0, _ => exact wstill_5_0_4 E hE
  | 5, 1, _ => exact wstill_5_1_4 E hE
  | 5, n + 2, h1 => exact absurd h1 (by omega)
  | 6, 0, _ => exact wstill_6_0_4 E hE
  | 6, n + 1, h1 => exact absurd h1 (by omega)
  | n + 7, h, h1 => exact absurd h1 (by omega)
theorem all_wstill_38 (E : Env) (hE : IsEnv E) (l h : Nat) (h1 : l + h ≤ 6) : StillOK E l h 38 := by
  match l, h, h1 with
  | 0, 0, _ => exact wstill_0_0_38 E hE
  | 0, 1, _ => exact wstill_0_1_38 E hE
  | 0, 2, _ => exact wstill_0_2_38 E hE
  | 0, 3, _ => exact wstill_0_3_38 E hE
  | 0, 4, _ => exact wstill_0_4_38 E hE
  | 0, 5, _ => exact wstill_0_5_38 E hE
  | 0, 6, _ => exact wstill_0_6_38 E hE
  | 0, n + 7, h1 => exact absurd h1 (by omega)
  | 1, 0, _ => exact wstill_1_0_38 E hE
  | 1, 1, _ => exact wstill_1_1_38 E hE
  | 1, 2, _ => exact wstill_1_2_38 E hE
  | 1, 3, _ => exact wstill_1_3_38 E hE
  | 1, 4, _ => exact wstill_1_4_38 E hE
  | 1, 5, _ => exact wstill_1_5_38 E hE
  | 1, n + 6, h1 => exact absurd h1 (by omega)
  | 2, 0, _ => exact wstill_2_0_38 E hE
  | 2, 1, _ => exact wstill_2_1_38 E hE
  | 2, 2, _ => exact wstill_2_2_38 E hE
  | 2, 3, _ => exact wstill_2_3_38 E hE
  | 2, 4, _ => exact wstill_2_4_38 E hE
  | 2, n + 5, h1 => exact absurd h1 (by omega)
  | 3, 0, _ => exact wstill_3_0_38 E hE
  | 3, 1, _ => exact wstill_3_1_38 E hE
  | 3, 2, _ => exact wstill_3_2_38 E hE
  | 3, 3, _ => exact wstill_3_3_38 E hE
  | 3, n + 4, h1 => exact absurd h1 (by omega)
  | 4, 0, _ => exact wstill_4_0_38 E hE
  | 4, 1, _ => exact wstill_4_1_38 E hE
  | 4, 2, _ => exact wstill_4_2_38 E hE
  | 4, n + 3, h1 => exact absurd h1 (by omega)
  | 5, 0, _ => exact wstill_5_0_38 E hE
  | 5, 1, _ => exact wstill_5_1_38 E hE
  | 5, n + 2, h1 => exact absurd h1 (by omega)
  | 6, 0, _ => exact wstill_6_0_38 E hE
  | 6, n + 1, h1 => exact absurd h1 (by omega)
  | n + 7, h, h1 => exact absurd h1 (by omega)
theorem all_wmove (E : Env) (hE : IsEnv E) (l h : Nat) (h1 : l + h ≤ 6) : MoveOK E l h := by
  match l, h, h1 with
  | 0, 0, _ => exact wmove_0_0 E hE
  | 0, 1, _ => exact wmove_0_1 E hE
  | 0, 2, _ => exact wmove_0_2 E hE
  | 0, 3, _ => exact wmove_0_3 E hE
  | 0, 4, _ => exact wmove_0_4 E hE
  | 0, 5, _ => exact wmove_0_5 E hE
  | 0, 6, _ => exact wmove_0_6 E hE
  | 0, n + 7, h1 => exact absurd h1 (by omega)
  | 1, 0, _ => exact wmove_1_0 E hE
  | 1, 1, _ => exact wmove_1_1 E hE
  | 1, 2, _ => exact wmove_1_2 E hE
  | 1, 3, _ => exact wmove_1_3 E hE
  | 1, 4, _ => exact wmove_1_4 E hE
  | 1, 5, _ => exact wmove_1_5 E hE
  | 1, n + 6, h1 => exact absurd h1 (by omega)
  | 2, 0, _ => exact wmove_2_0 E hE
  | 2, 1, _ => exact wmove_2_1 E hE
  | 2, 2, _ => exact wmove_2_2 E hE
  | 2, 3, _ => exact wmove_2_3 E hE
  | 2, 4, _ => exact wmove_2_4 E hE
  | 2, n + 5, h1 => exact absurd h1 (by omega)
  | 3, 0, _ => exact wmove_3_0 E hE
  | 3, 1, _ => exact wmove_3_1 E hE
  | 3, 2, _ => exact wmove_3_2 E hE
  | 3, 3, _ => exact wmove_3_3 E hE
  | 3, n + 4, h1 => exact absurd h1 (by omega)
  | 4, 0, _ => exact wmove_4_0 E hE
  | 4, 1, _ => exact wmove_4_1 E hE
  | 4, 2, _ => exact wmove_4_2 E hE
  | 4, n + 3, h1 => exact absurd h1 (by omega)
  | 5, 0, _ => exact wmove_5_0 E hE
  | 5, 1, _ => exact wmove_5_1 E hE
  | 5, n + 2, h1 => exact absurd h1 (by omega)
  | 6, 0, _ => exact wmove_6_0 E hE
  | 6, n + 1, h1 => exact absurd h1 (by omega)
  | n + 7, h, h1 => exact absurd h1 (by omega)
theorem all_wload (E : Env) (hE : IsEnv E) (l h : Nat) (h1 : l + h ≤ 6) : LoadOK E l h := by
  match l, h, h1 with
  | 0, 0, _ => exact wload_0_0 E hE
  | 0, 1, _ => exact wload_0_1 E hE
  | 0, 2, _ => exact wload_0_2 E hE
  | 0, 3, _ => exact wload_0_3 E hE
  | 0, 4, _ => exact wload_0_4 E hE
  | 0, 5, _ => exact wload_0_5 E hE
  | 0, 6, _ => exact wload_0_6 E hE
  | 0, n + 7, h1 => exact absurd h1 (by omega)
  | 1, 0, _ => exact wload_1_0 E hE
  | 1, 1, _ => exact wload_1_1 E hE
  | 1, 2, _ => exact wload_1_2 E hE
  | 1, 3, _ => exact wload_1_3 E hE
  | 1, 4, _ => exact wload_1_4 E hE
  | 1, 5, _ => exact wload_1_5 E hE
  | 1, n + 6, h1 => exact absurd h1 (by omega)
  | 2, 0, _ => exact wload_2_0 E hE
  | 2, 1, _ => exact wload_2_1 E hE
  | 2, 2, _ => exact wload_2_2 E hE
  | 2, 3, _ => exact wload_2_3 E hE
  | 2, 4, _ => exact wload_2_4 E hE
  | 2, n + 5, h1 => exact absurd h1 (by omega)
  | 3, 0, _ => exact wload_3_0 E hE
  | 3, 1, _ => exact wload_3_1 E hE
  | 3, 2, _ => exact wload_3_2 E hE
  | 3, 3, _ => exact wload_3_3 E hE
  | 3, n + 4, h1 => exact absurd h1 (by omega)
  | 4, 0, _ => exact wload_4_0 E hE
  | 4, 1, _ => exact wload_4_1 E hE
  | 4, 2, _ => exact wload_4_2 E hE
  | 4, n + 3, h1 => exact absurd h1 (by omega)
  | 5, 0, _ => exact wload_5_0 E hE
  | 5, 1, _ => exact wload_5_1 E hE
  | 5, n + 2, h1 => exact absurd h1 (by omega)
  | 6, 0, _ => exact wload_6_0 E hE
  | 6, n + 1, h1 => exact absurd h1 (by omega)
  | n + 7, h, h1 => exact absurd h1 (by omega)
theorem all_wtape_0 (E : Env) (hE : IsEnv E) (n : Nat) (h1 : n ≤ 6) : TapeOK E 0 n := by
  match n, h1 with
  | 0, _ => exact wtape_0_0 E hE
  | 1, _ => exact wtape_0_1 E hE
  | 2, _ => exact wtape_0_2 E hE
  | 3, _ => exact wtape_0_3 E hE
  | 4, _ => exact wtape_0_4 E hE
  | 5, _ => exact wtape_0_5 E hE
  | 6, _ => exact wtape_0_6 E hE
  | n + 7, h1 => exact absurd h1 (by omega)
theorem all_wtape_4 (E : Env) (hE : IsEnv E) (n : Nat) (h1 : n ≤ 6) : TapeOK E 4 n := by
  match n, h1 with
  | 0, _ => exact wtape_4_0 E hE
  | 1, _ => exact wtape_4_1 E hE
  | 2, _ => exact wtape_4_2 E hE
  | 3, _ => exact wtape_4_3 E hE
  | 4, _ => exact wtape_4_4 E hE
  | 5, _ => exact wtape_4_5 E hE
  | 6, _ => exact wtape_4_6 E hE
  | n + 7, h1 => exact absurd h1 (by omega)
theorem all_wtape_38 (E : Env) (hE : IsEnv E) (n : Nat) (h1 : n ≤ 6) : TapeOK E 38 n := by
  match n, h1 with
  | 0, _ => exact wtape_38_0 E hE
  | 1, _ => exact wtape_38_1 E hE
  | 2, _ => exact wtape_38_2 E hE
  | 3, _ => exact wtape_38_3 E hE
  | 4, _ => exact wtape_38_4 E hE
  | 5, _ => exact wtape_38_5 E hE
  | 6, _ => exact wtape_38_6 E hE
  | n + 7, h1 => exact absurd h1 (by omega)
theorem allW (E : Env) (hE : IsEnv E) : AllW E := by
  refine ⟨?_, ?_, all_wmove E hE, all_wload E hE, ?_⟩
  · intro l h t hk
    obtain ⟨h1, h2⟩ := ok3_le hk
    rcases h2 with rfl | rfl | rfl
    · exact all_wshow_0 E hE l h h1
    · exact all_wshow_4 E hE l h h1
    · exact all_wshow_38 E hE l h h1
  · intro l h t hk
    obtain ⟨h1, h2⟩ := ok3_le hk
    rcases h2 with rfl | rfl | rfl
    · exact all_wstill_0 E hE l h h1
    · exact all_wstill_4 E hE l h h1
    · exact all_wstill_38 E hE l h h1
  · intro t n ht hn
    rcases ht with rfl | rfl | rfl
    · exact all_wtape_0 E hE n hn
    · exact all_wtape_4 E hE n hn
    · exact all_wtape_38 E hE n hn
end Go.Proofs.Qxb6500274aGreat
