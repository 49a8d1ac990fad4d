import Derived.Test.Qxb6500274aGreatProg
import Derived.Test.Qxb6500274aGreatWPrim
namespace Go.Proofs.Qxb6500274aGreat
open Go Go.Sx
set_option maxRecDepth 100000

def IsEnv (E : Env) : Prop := E =
  ⟨fun t => row t ((3, ⟨Tryz.t3.desc, 1, false, [(.int .i64 0)]⟩) ::
    (115, ⟨Tryz.t114.desc, 3, true, [(.int .u8 0), (.int .u32 0), (.int .u64 0)]⟩) ::
    (80, ⟨Tryz.t79.desc, 4, true, [(.string ⟨⟨[]⟩⟩), (.int .i64 0), (.int .i64 0), (.pointer none)]⟩) ::
    (92, ⟨Tryz.t92.desc, 1, false, [(.slice none 0 0)]⟩) ::
    (5, ⟨Tryz.t5.desc, 1, false, [(.int .u8 0)]⟩) ::
    (171, ⟨Tryz.t170.desc, 42, true, [(.int .u8 0), (.int .u8 0), (.int .u8 0), (.int .u8 0), (.int .u8 0), (.int .u8 0), (.int .u8 0), (.int .u8 0), (.int .u8 0), (.int .u8 0), (.int .u8 0), (.int .i64 0), (.int .u8 0), (.int .u8 0), (.int .i64 0), (.bool false), (.int .u8 0), (.int .u8 0), (.int .i64 0), (.bool false), (.int .u8 0), (.int .u8 0), (.int .i64 0), (.bool false), (.int .u8 0), (.int .u8 0), (.int .i64 0), (.bool false), (.int .u8 0), (.int .u8 0), (.int .i64 0), (.bool false), (.int .u8 0), (.int .u8 0), (.int .i64 0), (.bool false), (.int .u8 0), (.int .u8 0), (.int .i64 0), (.bool false), (.int .i64 0), (.int .i64 0)]⟩) ::
    (9, ⟨Tryz.t9.desc, 1, false, [(.string ⟨⟨[]⟩⟩)]⟩) ::
    (206, ⟨Tryz.t205.desc, 54, true, [(.slice none 0 0), (.int .i64 0), (.int .u8 0), (.int .i64 0), (.int .i64 0), (.int .i64 0), (.int .i64 0), (.int .i64 0), (.int .i64 0), (.int .u8 0), (.int .i64 0), (.int .i64 0), (.int .i64 0), (.int .i64 0), (.int .i64 0), (.int .i64 0), (.int .u8 0), (.int .i64 0), (.int .i64 0), (.int .i64 0), (.int .i64 0), (.int .i64 0), (.int .i64 0), (.int .u8 0), (.int .i64 0), (.int .i64 0), (.int .i64 0), (.int .i64 0), (.int .i64 0), (.int .i64 0), (.int .u8 0), (.int .i64 0), (.int .i64 0), (.int .i64 0), (.int .i64 0), (.int .i64 0), (.int .i64 0), (.int .u8 0), (.int .i64 0), (.int .i64 0), (.int .i64 0), (.int .i64 0), (.int .i64 0), (.int .i64 0), (.int .u8 0), (.int .i64 0), (.int .i64 0), (.int .i64 0), (.int .i64 0), (.int .i64 0), (.int .i64 0), (.int .i64 0), (.int .i64 0), (.int .i64 0)]⟩) ::
    (108, ⟨Tryz.t107.desc, 4, true, [(.int .i64 0), (.string ⟨⟨[]⟩⟩), (.slice none 0 0), (.slice none 0 0)]⟩) ::
    (96, ⟨Tryz.t95.desc, 23, true, [(.int .i64 0), (.int .i64 0), (.int .i64 0), (.int .i64 0), (.int .i64 0), (.int .i64 0), (.int .i64 0), (.int .i64 0), (.int .i64 0), (.int .u8 0), (.int .u8 0), (.int .u8 0), (.int .u8 0), (.int .u8 0), (.int .u8 0), (.int .i64 0), (.slice none 0 0), (.int .i64 0), (.slice none 0 0), (.int .i64 0), (.slice none 0 0), (.slice none 0 0), (.slice none 0 0)]⟩) ::
    (89, ⟨Tryz.t88.desc, 12, true, [(.slice none 0 0), (.slice none 0 0), (.slice none 0 0), (.int .i64 0), (.int .i64 0), (.int .i64 0), (.int .i64 0), (.slice none 0 0), (.slice none 0 0), (.int .i64 0), (.slice none 0 0), (.slice none 0 0)]⟩) ::
    (113, ⟨Tryz.t113.desc, 1, false, [(.int .u32 0)]⟩) ::
    (203, ⟨Tryz.t202.desc, 7, true, [(.int .u8 0), (.int .i64 0), (.int .i64 0), (.int .i64 0), (.int .i64 0), (.int .i64 0), (.int .i64 0)]⟩) ::
    (82, ⟨Tryz.t82.desc, 1, false, [(.slice none 0 0)]⟩) ::
    (83, ⟨Tryz.t83.desc, 1, false, [(.slice none 0 0)]⟩) ::
    (168, ⟨Tryz.t167.desc, 4, true, [(.int .u8 0), (.int .u8 0), (.int .i64 0), (.bool false)]⟩) ::
    (81, ⟨Tryz.t81.desc, 1, false, [(.slice none 0 0)]⟩) ::
    (47, ⟨Tryz.t47.desc, 1, false, [(.int .u64 0)]⟩) ::
    (129, ⟨Tryz.t128.desc, 3, true, [(.string ⟨⟨[]⟩⟩), (.int .u8 0), (.int .u32 0)]⟩) ::
    (164, ⟨Tryz.t91.desc, 6, true, [(.int .u8 0), (.int .u8 0), (.int .u8 0), (.int .u8 0), (.int .u8 0), (.int .u8 0)]⟩) ::
    (166, ⟨Tryz.t166.desc, 11, true, [(.int .u8 0), (.int .u8 0), (.int .u8 0), (.int .u8 0), (.int .u8 0), (.int .u8 0), (.int .u8 0), (.int .u8 0), (.int .u8 0), (.int .u8 0), (.int .u8 0)]⟩) ::
    (85, ⟨Tryz.t85.desc, 1, false, [(.slice none 0 0)]⟩) ::
    (169, ⟨Tryz.t169.desc, 28, true, [(.int .u8 0), (.int .u8 0), (.int .i64 0), (.bool false), (.int .u8 0), (.int .u8 0), (.int .i64 0), (.bool false), (.int .u8 0), (.int .u8 0), (.int .i64 0), (.bool false), (.int .u8 0), (.int .u8 0), (.int .i64 0), (.bool false), (.int .u8 0), (.int .u8 0), (.int .i64 0), (.bool false), (.int .u8 0), (.int .u8 0), (.int .i64 0), (.bool false), (.int .u8 0), (.int .u8 0), (.int .i64 0), (.bool false)]⟩) ::
    (147, ⟨Tryz.t147.desc, 1, false, [(.slice none 0 0)]⟩) ::
    (204, ⟨Tryz.t204.desc, 49, true, [(.int .u8 0), (.int .i64 0), (.int .i64 0), (.int .i64 0), (.int .i64 0), (.int .i64 0), (.int .i64 0), (.int .u8 0), (.int .i64 0), (.int .i64 0), (.int .i64 0), (.int .i64 0), (.int .i64 0), (.int .i64 0), (.int .u8 0), (.int .i64 0), (.int .i64 0), (.int .i64 0), (.int .i64 0), (.int .i64 0), (.int .i64 0), (.int .u8 0), (.int .i64 0), (.int .i64 0), (.int .i64 0), (.int .i64 0), (.int .i64 0), (.int .i64 0), (.int .u8 0), (.int .i64 0), (.int .i64 0), (.int .i64 0), (.int .i64 0), (.int .i64 0), (.int .i64 0), (.int .u8 0), (.int .i64 0), (.int .i64 0), (.int .i64 0), (.int .i64 0), (.int .i64 0), (.int .i64 0), (.int .u8 0), (.int .i64 0), (.int .i64 0), (.int .i64 0), (.int .i64 0), (.int .i64 0), (.int .i64 0)]⟩) ::
    (153, ⟨Tryz.t152.desc, 28, true, [(.pointer none), (.pointer none), (.pointer none), (.pointer none), (.pointer none), (.pointer none), (.pointer none), (.slice none 0 0), (.slice none 0 0), (.slice none 0 0), (.int .i64 0), (.int .i64 0), (.int .i64 0), (.int .i64 0), (.int .i64 0), (.int .i64 0), (.int .i64 0), (.int .i64 0), (.int .i64 0), (.int .i64 0), (.int .i64 0), (.int .i64 0), (.int .i64 0), (.int .i64 0), (.int .i64 0), (.int .i64 0), (.int .i64 0), (.int .i64 0)]⟩) ::
    (84, ⟨Tryz.t84.desc, 1, false, [(.slice none 0 0)]⟩) ::
    (110, ⟨Tryz.t109.desc, 3, true, [(.string ⟨⟨[]⟩⟩), (.string ⟨⟨[]⟩⟩), (.int .i64 0)]⟩) ::
    (117, ⟨Tryz.t116.desc, 5, true, [(.int .u8 0), (.bool false), (.int .u8 0), (.int .u32 0), (.int .u64 0)]⟩) ::
    (94, ⟨Tryz.t94.desc, 1, false, [(.slice none 0 0)]⟩) ::
    (216, ⟨Tryz.t215.desc, 4, true, [(.int .i64 0), (.int .i64 0), (.int .i64 0), (.slice none 0 0)]⟩) ::
    (87, ⟨Tryz.t87.desc, 1, false, [(.slice none 0 0)]⟩) ::
    (25, ⟨Tryz.t25.desc, 1, false, [(.pointer none)]⟩) ::
    (201, ⟨Tryz.t200.desc, 17, true, [(.slice none 0 0), (.bool false), (.slice none 0 0), (.int .i64 0), (.int .i64 0), (.int .i64 0), (.int .i64 0), (.int .i64 0), (.int .i64 0), (.int .i64 0), (.int .i64 0), (.int .i64 0), (.int .u64 0), (.int .u64 0), (.int .u64 0), (.int .u64 0), (.int .i64 0)]⟩) ::
    (97, ⟨Tryz.t97.desc, 1, false, [.nilFunc]⟩) ::
    (91, ⟨Tryz.t91.desc, 6, true, [(.int .u8 0), (.int .u8 0), (.int .u8 0), (.int .u8 0), (.int .u8 0), (.int .u8 0)]⟩) ::
    (207, ⟨Tryz.t207.desc, 1, false, [(.slice none 0 0)]⟩) ::
    (34, ⟨Tryz.t34.desc, 1, false, [(.pointer none)]⟩) ::
    (211, ⟨Tryz.t211.desc, 1, false, [(.slice none 0 0)]⟩) ::
    (2, ⟨Tryz.t2.desc, 1, false, [(.int .i64 0)]⟩) ::
    (93, ⟨Tryz.t93.desc, 1, false, [(.slice none 0 0)]⟩) ::
    (122, ⟨Tryz.t121.desc, 4, true, [(.int .u8 0), (.int .u32 0), (.int .u64 0), (.string ⟨⟨[]⟩⟩)]⟩) ::
    (90, ⟨Tryz.t90.desc, 8, true, [(.int .i64 0), (.int .i64 0), (.int .i64 0), (.int .i64 0), (.int .i64 0), (.int .i64 0), (.int .i64 0), (.int .i64 0)]⟩) ::
    (210, ⟨Tryz.t209.desc, 11, true, [(.slice none 0 0), (.int .u64 0), (.int .u64 0), (.int .u64 0), (.int .u64 0), (.int .u64 0), (.int .u64 0), (.int .i64 0), (.int .i64 0), (.slice none 0 0), (.int .i64 0)]⟩) ::
    (99, ⟨Tryz.t99.desc, 12, true, [.nilFunc, .nilFunc, .nilFunc, .nilFunc, .nilFunc, .nilFunc, .nilFunc, .nilFunc, .nilFunc, .nilFunc, .nilFunc, .nilFunc]⟩) ::
    (213, ⟨Tryz.t212.desc, 1, true, [(.slice none 0 0)]⟩) ::
    (4, ⟨Tryz.t4.desc, 1, false, [(.bool false)]⟩) ::
    (139, ⟨Tryz.t139.desc, 1, false, [(.pointer none)]⟩) ::
    (290, ⟨Tryz.t290.desc, 4, true, [(.int .u8 0), (.int .u8 0), (.int .u8 0), (.int .u8 0)]⟩) ::
    (148, ⟨Tryz.t148.desc, 1, false, [(.slice none 0 0)]⟩) ::
    (86, ⟨Tryz.t86.desc, 1, false, [(.slice none 0 0)]⟩) ::
    (218, ⟨Tryz.t217.desc, 1, false, [.nilIface]⟩) ::
    (199, ⟨Tryz.t199.desc, 4, true, [(.int .u64 0), (.int .u64 0), (.int .u64 0), (.int .u64 0)]⟩) ::
    (150, ⟨Tryz.t149.desc, 3, true, [(.int .i64 0), (.int .i64 0), (.int .i64 0)]⟩) ::
    (143, ⟨Tryz.t143.desc, 1, false, [(.pointer none)]⟩) ::
    (33, ⟨Tryz.t3.desc, 1, false, [(.int .i64 0)]⟩) ::
    (146, ⟨Tryz.t146.desc, 1, false, [(.pointer none)]⟩) ::
    (26, ⟨Tryz.t26.desc, 1, false, [(.pointer none)]⟩) ::
    (141, ⟨Tryz.t141.desc, 1, false, [(.pointer none)]⟩) ::
    (222, ⟨Tryz.t221.desc, 1, true, [.nilFunc]⟩) ::
    (220, ⟨Tryz.t220.desc, 1, false, [.nilFunc]⟩) ::
    (151, ⟨Tryz.t151.desc, 18, true, [(.int .i64 0), (.int .i64 0), (.int .i64 0), (.int .i64 0), (.int .i64 0), (.int .i64 0), (.int .i64 0), (.int .i64 0), (.int .i64 0), (.int .i64 0), (.int .i64 0), (.int .i64 0), (.int .i64 0), (.int .i64 0), (.int .i64 0), (.int .i64 0), (.int .i64 0), (.int .i64 0)]⟩) ::
    (20, ⟨Tryz.t20.desc, 1, false, [.nilIface]⟩) ::
    (21, ⟨Tryz.t21.desc, 1, false, [(.int .i32 0)]⟩) ::
    (22, ⟨Tryz.t22.desc, 1, false, [(.slice none 0 0)]⟩) ::
    (32, ⟨Tryz.t31.desc, 6, true, [(.int .i64 0), (.int .i64 0), (.int .i64 0), (.int .i64 0), (.string ⟨⟨[]⟩⟩), (.string ⟨⟨[]⟩⟩)]⟩) ::
    (43, ⟨Tryz.t43.desc, 1, false, [(.pointer none)]⟩) ::
    (46, ⟨Tryz.t46.desc, 1, false, [(.pointer none)]⟩) ::
    (49, ⟨Tryz.t48.desc, 2, true, [(.int .u64 0), (.int .u64 0)]⟩) ::
    (54, ⟨Tryz.t53.desc, 4, true, [(.int .i64 0), (.int .i64 0), (.int .i64 0), (.string ⟨⟨[]⟩⟩)]⟩) ::
    (58, ⟨Tryz.t58.desc, 1, false, [(.pointer none)]⟩) ::
    (60, ⟨Tryz.t59.desc, 2, true, [(.string ⟨⟨[]⟩⟩), (.string ⟨⟨[]⟩⟩)]⟩) ::
    (76, ⟨Tryz.t75.desc, 2, true, [(.int .i64 0), (.int .i64 0)]⟩) ::
    (78, ⟨Tryz.t78.desc, 1, false, [(.pointer none)]⟩) ::
    (106, ⟨Tryz.t106.desc, 1, false, [(.pointer none)]⟩) ::
    (119, ⟨Tryz.t118.desc, 4, true, [(.int .u8 0), (.int .u32 0), (.int .u64 0), (.slice none 0 0)]⟩) ::
    (165, ⟨Tryz.t165.desc, 1, false, [(.int .u64 0)]⟩) ::
    (172, ⟨Tryz.t172.desc, 1, false, [(.slice none 0 0)]⟩) ::
    (198, ⟨Tryz.t198.desc, 16, true, [(.int .u8 0), (.int .u8 0), (.int .u8 0), (.int .u8 0), (.int .u8 0), (.int .u8 0), (.int .u8 0), (.int .u8 0), (.int .u8 0), (.int .u8 0), (.int .u8 0), (.int .u8 0), (.int .u8 0), (.int .u8 0), (.int .u8 0), (.int .u8 0)]⟩) ::
    (208, ⟨Tryz.t208.desc, 6, true, [(.int .u64 0), (.int .u64 0), (.int .u64 0), (.int .u64 0), (.int .u64 0), (.int .u64 0)]⟩) ::
    (223, ⟨Tryz.t223.desc, 1, false, [(.pointer none)]⟩) ::
    (237, ⟨Tryz.t237.desc, 1, false, [(.float .f32 0)]⟩) ::
    (240, ⟨Tryz.t240.desc, 1, false, [(.float .f64 0)]⟩) ::
    (270, ⟨Tryz.t270.desc, 1, false, [(.map none)]⟩) ::
    (276, ⟨Tryz.t275.desc, 0, true, []⟩) ::
    (278, ⟨Tryz.t277.desc, 1, false, [.nilFunc]⟩) ::
    (279, ⟨Tryz.t3.desc, 1, false, [(.int .i64 0)]⟩) ::
    (282, ⟨Tryz.t282.desc, 1, false, [(.int .i8 0)]⟩) ::
    (283, ⟨Tryz.t283.desc, 1, false, [(.int .u16 0)]⟩) ::
    (285, ⟨Tryz.t285.desc, 1, false, [(.int .i16 0)]⟩) ::
    (288, ⟨Tryz.t288.desc, 1, false, [(.pointer none)]⟩) ::
    (291, ⟨Tryz.t291.desc, 8, true, [(.int .u8 0), (.int .u8 0), (.int .u8 0), (.int .u8 0), (.int .u8 0), (.int .u8 0), (.int .u8 0), (.int .u8 0)]⟩) ::
    (293, ⟨Tryz.t292.desc, 1, false, [.nilIface]⟩) ::
    (303, ⟨Tryz.t303.desc, 20, true, [(.int .u8 0), (.int .u8 0), (.int .u8 0), (.int .u8 0), (.int .u8 0), (.int .u8 0), (.int .u8 0), (.int .u8 0), (.int .u8 0), (.int .u8 0), (.int .u8 0), (.int .u8 0), (.int .u8 0), (.int .u8 0), (.int .u8 0), (.int .u8 0), (.int .u8 0), (.int .u8 0), (.int .u8 0), (.int .u8 0)]⟩) ::
    (315, ⟨Tryz.t315.desc, 2, true, [(.int .u8 0), (.int .u8 0)]⟩) ::
    (292, ⟨Tryz.t292.desc, 1, false, [.nilIface]⟩) ::
    (273, ⟨Tryz.t272.desc, 1, false, [.nilFunc]⟩) :: []),
  fun g => row g ((46, Tryz.f46) ::
    (90, Tryz.f90) ::
    (147, Tryz.f147) ::
    (160, Tryz.f160) ::
    (210, Tryz.f210) ::
    (166, Tryz.f166) ::
    (108, Tryz.f108) ::
    (149, Tryz.f149) ::
    (109, Tryz.f109) ::
    (104, Tryz.f104) ::
    (86, Tryz.f86) ::
    (62, Tryz.f62) ::
    (61, Tryz.f61) ::
    (151, Tryz.f151) ::
    (77, Tryz.f77) ::
    (48, Tryz.f48) ::
    (47, Tryz.f47) ::
    (153, Tryz.f153) ::
    (97, Tryz.f97) ::
    (105, Tryz.f105) ::
    (102, Tryz.f102) ::
    (89, Tryz.f89) ::
    (88, Tryz.f88) ::
    (87, Tryz.f87) ::
    (208, Tryz.f208) ::
    (163, Tryz.f163) ::
    (93, Tryz.f93) ::
    (92, Tryz.f92) ::
    (194, Tryz.f194) ::
    (96, Tryz.f96) ::
    (95, Tryz.f95) ::
    (50, Tryz.f50) ::
    (112, Tryz.f112) ::
    (154, Tryz.f154) ::
    (121, Tryz.f121) ::
    (196, Tryz.f196) ::
    (150, Tryz.f150) ::
    (94, Tryz.f94) ::
    (197, Tryz.f197) ::
    (161, Tryz.f161) ::
    (115, Tryz.f115) ::
    (98, Tryz.f98) ::
    (167, Tryz.f167) ::
    (117, Tryz.f117) ::
    (113, Tryz.f113) ::
    (103, Tryz.f103) ::
    (91, Tryz.f91) ::
    (83, Tryz.f83) ::
    (76, Tryz.f76) ::
    (75, Tryz.f75) ::
    (74, Tryz.f74) ::
    (73, Tryz.f73) ::
    (72, Tryz.f72) ::
    (71, Tryz.f71) ::
    (70, Tryz.f70) ::
    (68, Tryz.f68) ::
    (67, Tryz.f67) ::
    (49, Tryz.f49) ::
    (45, Tryz.f45) ::
    (44, Tryz.f44) ::
    (42, Tryz.f42) ::
    (41, Tryz.f41) ::
    (40, Tryz.f40) ::
    (39, Tryz.f39) ::
    (37, Tryz.f37) ::
    (36, Tryz.f36) ::
    (35, Tryz.f35) ::
    (31, Tryz.f31) ::
    (213, Tryz.f213) ::
    (211, Tryz.f211) ::
    (170, Tryz.f170) ::
    (17, Tryz.f17) ::
    (168, Tryz.f168) ::
    (162, Tryz.f162) ::
    (16, Tryz.f16) ::
    (126, Tryz.f126) ::
    (12, Tryz.f12) ::
    (119, Tryz.f119) ::
    (116, Tryz.f116) ::
    (114, Tryz.f114) ::
    (11, Tryz.f11) ::
    (101, Tryz.f101) ::
    (100, Tryz.f100) ::
    (4, Tryz.f4) ::
    (7, Tryz.f7) ::
    (120, Tryz.f120) ::
    (38, Tryz.f38) ::
    (195, Tryz.f195) ::
    (43, Tryz.f43) ::
    (148, Tryz.f148) ::
    (106, Tryz.f106) ::
    (107, Tryz.f107) ::
    (152, Tryz.f152) ::
    (164, Tryz.f164) ::
    (209, Tryz.f209) ::
    (228, Tryz.f228) ::
    (165, Tryz.f165) ::
    (229, Tryz.f229) ::
    (212, Tryz.f212) ::
    (230, Tryz.f230) ::
    (214, Tryz.f214) ::
    (118, Tryz.f118) ::
    (122, Tryz.f122) ::
    (123, Tryz.f123) ::
    (124, Tryz.f124) ::
    (125, Tryz.f125) ::
    (169, Tryz.f169) ::
    (171, Tryz.f171) ::
    (127, Tryz.f127) ::
    (128, Tryz.f128) ::
    (133, Tryz.f133) ::
    (132, Tryz.f132) ::
    (134, Tryz.f134) ::
    (136, Tryz.f136) ::
    (135, Tryz.f135) ::
    (138, Tryz.f138) ::
    (137, Tryz.f137) ::
    (139, Tryz.f139) ::
    (173, Tryz.f173) ::
    (174, Tryz.f174) ::
    (140, Tryz.f140) ::
    (79, Tryz.f79) ::
    (175, Tryz.f175) ::
    (176, Tryz.f176) ::
    (141, Tryz.f141) ::
    (178, Tryz.f178) ::
    (180, Tryz.f180) ::
    (192, Tryz.f192) ::
    (177, Tryz.f177) ::
    (179, Tryz.f179) ::
    (181, Tryz.f181) ::
    (182, Tryz.f182) ::
    (215, Tryz.f215) ::
    (183, Tryz.f183) ::
    (184, Tryz.f184) ::
    (142, Tryz.f142) ::
    (186, Tryz.f186) ::
    (188, Tryz.f188) ::
    (193, Tryz.f193) ::
    (185, Tryz.f185) ::
    (187, Tryz.f187) ::
    (189, Tryz.f189) ::
    (190, Tryz.f190) ::
    (191, Tryz.f191) ::
    (143, Tryz.f143) ::
    (129, Tryz.f129) ::
    (130, Tryz.f130) ::
    (131, Tryz.f131) ::
    (172, Tryz.f172) ::
    (146, Tryz.f146) ::
    (65, Tryz.f65) ::
    (18, Tryz.f18) ::
    (78, Tryz.f78) ::
    (21, Tryz.f21) ::
    (82, Tryz.f82) ::
    (80, Tryz.f80) ::
    (19, Tryz.f19) ::
    (20, Tryz.f20) ::
    (81, Tryz.f81) ::
    (22, Tryz.f22) ::
    (5, Tryz.f5) ::
    (8, Tryz.f8) ::
    (23, Tryz.f23) ::
    (27, Tryz.f27) ::
    (84, Tryz.f84) ::
    (144, Tryz.f144) ::
    (145, Tryz.f145) ::
    (85, Tryz.f85) ::
    (24, Tryz.f24) ::
    (25, Tryz.f25) ::
    (26, Tryz.f26) ::
    (28, Tryz.f28) ::
    (29, Tryz.f29) ::
    (281, Tryz.f281) ::
    (282, Tryz.f282) ::
    (283, Tryz.f283) ::
    (284, Tryz.f284) ::
    (285, Tryz.f285) :: []),
  fun t name => cond (name == "Call") (cond (Nat.beq t 223) (some 281) (cond (Nat.beq t 276) (some 283) (cond (Nat.beq t 278) (some 284) (cond (Nat.beq t 279) (some 285) none))))
  (cond (name == "Wants") (cond (Nat.beq t 223) (some 282) none) none),
  fun t u => cond (Nat.beq t 293) (cond (Nat.beq u 223) (some true) (cond (Nat.beq u 276) (some false) (cond (Nat.beq u 278) (some false) (cond (Nat.beq u 279) (some false) none)))) none,
  fun g => rowD 0 g ((46, 4) ::
    (90, 8) ::
    (147, 14) ::
    (160, 5) ::
    (210, 16) ::
    (166, 11) ::
    (108, 24) ::
    (149, 8) ::
    (109, 5) ::
    (104, 7) ::
    (86, 7) ::
    (62, 5) ::
    (61, 7) ::
    (151, 3) ::
    (77, 5) ::
    (48, 6) ::
    (47, 5) ::
    (153, 9) ::
    (97, 5) ::
    (105, 4) ::
    (102, 3) ::
    (89, 4) ::
    (88, 8) ::
    (87, 6) ::
    (208, 7) ::
    (163, 6) ::
    (93, 7) ::
    (92, 5) ::
    (194, 12) ::
    (96, 8) ::
    (95, 10) ::
    (50, 21) ::
    (112, 13) ::
    (154, 14) ::
    (121, 7) ::
    (196, 8) ::
    (150, 14) ::
    (94, 7) ::
    (197, 5) ::
    (161, 7) ::
    (115, 7) ::
    (98, 7) ::
    (167, 1) ::
    (117, 7) ::
    (113, 9) ::
    (103, 3) ::
    (91, 7) ::
    (83, 2) ::
    (76, 25) ::
    (75, 10) ::
    (74, 4) ::
    (73, 19) ::
    (72, 18) ::
    (71, 2) ::
    (70, 11) ::
    (68, 2) ::
    (67, 1) ::
    (49, 13) ::
    (45, 8) ::
    (44, 10) ::
    (42, 5) ::
    (41, 7) ::
    (40, 8) ::
    (39, 5) ::
    (37, 7) ::
    (36, 8) ::
    (35, 9) ::
    (31, 1) ::
    (213, 3) ::
    (211, 3) ::
    (170, 6) ::
    (17, 18) ::
    (168, 11) ::
    (162, 5) ::
    (16, 6) ::
    (126, 14) ::
    (12, 12) ::
    (119, 7) ::
    (116, 3) ::
    (114, 13) ::
    (11, 14) ::
    (101, 10) ::
    (100, 10) ::
    (4, 3) ::
    (7, 16) ::
    (120, 3) ::
    (38, 5) ::
    (195, 9) ::
    (43, 10) ::
    (148, 3) ::
    (106, 6) ::
    (107, 7) ::
    (152, 7) ::
    (164, 5) ::
    (209, 10) ::
    (228, 5) ::
    (165, 10) ::
    (229, 5) ::
    (212, 3) ::
    (230, 3) ::
    (214, 3) ::
    (118, 7) ::
    (122, 6) ::
    (123, 6) ::
    (124, 3) ::
    (125, 7) ::
    (169, 6) ::
    (171, 5) ::
    (127, 20) ::
    (128, 3) ::
    (133, 7) ::
    (132, 3) ::
    (134, 7) ::
    (136, 0) ::
    (135, 7) ::
    (138, 0) ::
    (137, 7) ::
    (139, 9) ::
    (173, 4) ::
    (174, 3) ::
    (140, 9) ::
    (79, 10) ::
    (175, 3) ::
    (176, 3) ::
    (141, 9) ::
    (178, 4) ::
    (180, 4) ::
    (192, 0) ::
    (177, 3) ::
    (179, 4) ::
    (181, 5) ::
    (182, 3) ::
    (215, 0) ::
    (183, 7) ::
    (184, 7) ::
    (142, 9) ::
    (186, 4) ::
    (188, 4) ::
    (193, 0) ::
    (185, 3) ::
    (187, 4) ::
    (189, 5) ::
    (190, 7) ::
    (191, 7) ::
    (143, 9) ::
    (129, 3) ::
    (130, 3) ::
    (131, 18) ::
    (172, 4) ::
    (146, 6) ::
    (65, 5) ::
    (18, 18) ::
    (78, 11) ::
    (21, 20) ::
    (82, 6) ::
    (80, 12) ::
    (19, 4) ::
    (20, 5) ::
    (81, 6) ::
    (22, 12) ::
    (5, 3) ::
    (8, 12) ::
    (23, 17) ::
    (27, 5) ::
    (84, 12) ::
    (144, 8) ::
    (145, 5) ::
    (85, 9) ::
    (24, 5) ::
    (25, 6) ::
    (26, 13) ::
    (28, 7) ::
    (29, 3) ::
    (281, 10) ::
    (282, 3) ::
    (283, 8) ::
    (284, 9) ::
    (285, 8) :: []),
  fun g => rowD [] g ((147, [16]) ::
    (160, [10]) ::
    (210, [17]) ::
    (77, [95]) ::
    (96, [56]) ::
    (50, [65]) ::
    (112, [57]) ::
    (197, [5]) ::
    (76, [56]) ::
    (74, [7, 8, 9]) ::
    (126, [14, 43]) ::
    (114, [83, 84]) ::
    (120, [3]) ::
    (171, [5]) ::
    (127, [20, 44, 88, 109]) ::
    (133, [7]) ::
    (134, [7]) ::
    (135, [7]) ::
    (137, [7]) ::
    (139, [12]) ::
    (140, [12]) ::
    (141, [13]) ::
    (142, [13]) ::
    (143, [15]) ::
    (172, [4, 5, 6]) ::
    (19, [4]) ::
    (22, [48]) ::
    (84, [43, 44, 45, 65, 66, 67]) ::
    (85, [14, 15, 16, 47, 48, 49]) ::
    (25, [8]) :: []),
  fun g => Nat.beq g 34,
  fun t => Nat.beq t 115 || (Nat.beq t 54 || Nat.beq t 164),
  fun g id => Nat.beq g 147 && Nat.beq id 42,
  fun g => Nat.beq g 99,
  fun g => row g [(99, primConst), (64, primWord), (66, primHex), (30, primBin), (69, primHost)]⟩
end Go.Proofs.Qxb6500274aGreat
