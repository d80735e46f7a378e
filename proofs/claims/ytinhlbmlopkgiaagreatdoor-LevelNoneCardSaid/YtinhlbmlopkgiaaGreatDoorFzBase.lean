/-
  The table of a seat's functions, for the evaluator. Conditions: none.
-/
import Derived.Test.YtinhlbmlopkgiaaGreatDoorRows
import Derived.Test.YtinhlbmlopkgiaaGreatDoorFwI
namespace Go.Proofs.YtinhlbmlopkgiaaGreatDoor
open Go.Fv Go.Proofs
theorem mixed : Tryz.prog.follows .mixedOrders = true := by kernel_rfl
def plainL : List Nat := [47]
theorem plains : ∀ t ∈ plainL, plainTest Tryz.prog t = true := List.all_eq_true.1 (by kernel_rfl : plainL.all (plainTest Tryz.prog) = true)
instance : Plain Tryz.prog := Plain.ofList plainL plains

noncomputable def tbl : Tbl := [(3, Tryz.f3, bodyOf Tryz.f3), (4, Tryz.f4, bodyOf Tryz.f4), (5, Tryz.f5, bodyOf Tryz.f5), (6, Tryz.f6, bodyOf Tryz.f6), (7, Tryz.f7, bodyOf Tryz.f7), (8, Tryz.f8, bodyOf Tryz.f8), (9, Tryz.f9, bodyOf Tryz.f9), (10, Tryz.f10, bodyOf Tryz.f10), (11, Tryz.f11, bodyOf Tryz.f11), (12, Tryz.f12, bodyOf Tryz.f12), (13, Tryz.f13, bodyOf Tryz.f13), (14, Tryz.f14, bodyOf Tryz.f14), (15, Tryz.f15, bodyOf Tryz.f15), (16, Tryz.f16, bodyOf Tryz.f16), (17, Tryz.f17, bodyOf Tryz.f17), (18, Tryz.f18, bodyOf Tryz.f18), (19, Tryz.f19, bodyOf Tryz.f19), (20, Tryz.f20, bodyOf Tryz.f20), (21, Tryz.f21, bodyOf Tryz.f21), (22, Tryz.f22, bodyOf Tryz.f22), (23, Tryz.f23, bodyOf Tryz.f23), (24, Tryz.f24, bodyOf Tryz.f24), (25, Tryz.f25, bodyOf Tryz.f25), (26, Tryz.f26, bodyOf Tryz.f26), (27, Tryz.f27, bodyOf Tryz.f27), (28, Tryz.f28, bodyOf Tryz.f28), (29, Tryz.f29, bodyOf Tryz.f29), (30, Tryz.f30, bodyOf Tryz.f30), (31, Tryz.f31, bodyOf Tryz.f31), (32, Tryz.f32, bodyOf Tryz.f32), (33, Tryz.f33, bodyOf Tryz.f33), (34, Tryz.f34, bodyOf Tryz.f34), (35, Tryz.f35, bodyOf Tryz.f35), (36, Tryz.f36, bodyOf Tryz.f36), (37, Tryz.f37, bodyOf Tryz.f37), (38, Tryz.f38, bodyOf Tryz.f38), (39, Tryz.f39, bodyOf Tryz.f39), (40, Tryz.f40, bodyOf Tryz.f40), (41, Tryz.f41, bodyOf Tryz.f41), (42, Tryz.f42, bodyOf Tryz.f42), (43, Tryz.f43, bodyOf Tryz.f43), (44, Tryz.f44, bodyOf Tryz.f44), (45, Tryz.f45, bodyOf Tryz.f45), (46, Tryz.f46, bodyOf Tryz.f46), (47, Tryz.f47, bodyOf Tryz.f47), (48, Tryz.f48, bodyOf Tryz.f48), (49, Tryz.f49, bodyOf Tryz.f49), (50, Tryz.f50, bodyOf Tryz.f50), (51, Tryz.f51, bodyOf Tryz.f51), (52, Tryz.f52, bodyOf Tryz.f52), (53, Tryz.f53, bodyOf Tryz.f53), (54, Tryz.f54, bodyOf Tryz.f54), (55, Tryz.f55, bodyOf Tryz.f55), (56, Tryz.f56, bodyOf Tryz.f56), (57, Tryz.f57, bodyOf Tryz.f57), (58, Tryz.f58, bodyOf Tryz.f58), (60, Tryz.f60, bodyOf Tryz.f60), (61, Tryz.f61, bodyOf Tryz.f61), (62, Tryz.f62, bodyOf Tryz.f62), (63, Tryz.f63, bodyOf Tryz.f63), (64, Tryz.f64, bodyOf Tryz.f64), (65, Tryz.f65, bodyOf Tryz.f65), (66, Tryz.f66, bodyOf Tryz.f66), (67, Tryz.f67, bodyOf Tryz.f67), (69, Tryz.f69, bodyOf Tryz.f69), (70, Tryz.f70, bodyOf Tryz.f70), (71, Tryz.f71, bodyOf Tryz.f71), (72, Tryz.f72, bodyOf Tryz.f72), (73, Tryz.f73, bodyOf Tryz.f73), (74, Tryz.f74, bodyOf Tryz.f74), (75, Tryz.f75, bodyOf Tryz.f75), (76, Tryz.f76, bodyOf Tryz.f76), (77, Tryz.f77, bodyOf Tryz.f77), (78, Tryz.f78, bodyOf Tryz.f78), (79, Tryz.f79, bodyOf Tryz.f79), (80, Tryz.f80, bodyOf Tryz.f80), (81, Tryz.f81, bodyOf Tryz.f81), (82, Tryz.f82, bodyOf Tryz.f82), (83, Tryz.f83, bodyOf Tryz.f83), (84, Tryz.f84, bodyOf Tryz.f84), (85, Tryz.f85, bodyOf Tryz.f85), (86, Tryz.f86, bodyOf Tryz.f86), (87, Tryz.f87, bodyOf Tryz.f87), (88, Tryz.f88, bodyOf Tryz.f88), (89, Tryz.f89, bodyOf Tryz.f89), (90, Tryz.f90, bodyOf Tryz.f90), (91, Tryz.f91, bodyOf Tryz.f91), (92, Tryz.f92, bodyOf Tryz.f92), (93, Tryz.f93, bodyOf Tryz.f93), (94, Tryz.f94, bodyOf Tryz.f94), (95, Tryz.f95, bodyOf Tryz.f95), (96, Tryz.f96, bodyOf Tryz.f96), (97, Tryz.f97, bodyOf Tryz.f97), (98, Tryz.f98, bodyOf Tryz.f98), (99, Tryz.f99, bodyOf Tryz.f99), (100, Tryz.f100, bodyOf Tryz.f100), (101, Tryz.f101, bodyOf Tryz.f101), (102, Tryz.f102, bodyOf Tryz.f102), (103, Tryz.f103, bodyOf Tryz.f103), (104, Tryz.f104, bodyOf Tryz.f104), (105, Tryz.f105, bodyOf Tryz.f105), (106, Tryz.f106, bodyOf Tryz.f106), (107, Tryz.f107, bodyOf Tryz.f107), (108, Tryz.f108, bodyOf Tryz.f108), (109, Tryz.f109, bodyOf Tryz.f109), (110, Tryz.f110, bodyOf Tryz.f110), (111, Tryz.f111, bodyOf Tryz.f111), (112, Tryz.f112, bodyOf Tryz.f112), (113, Tryz.f113, bodyOf Tryz.f113), (114, Tryz.f114, bodyOf Tryz.f114), (115, Tryz.f115, bodyOf Tryz.f115), (116, Tryz.f116, bodyOf Tryz.f116), (117, Tryz.f117, bodyOf Tryz.f117), (118, Tryz.f118, bodyOf Tryz.f118), (119, Tryz.f119, bodyOf Tryz.f119), (120, Tryz.f120, bodyOf Tryz.f120), (121, Tryz.f121, bodyOf Tryz.f121), (122, Tryz.f122, bodyOf Tryz.f122), (123, Tryz.f123, bodyOf Tryz.f123), (124, Tryz.f124, bodyOf Tryz.f124), (125, Tryz.f125, bodyOf Tryz.f125), (126, Tryz.f126, bodyOf Tryz.f126), (127, Tryz.f127, bodyOf Tryz.f127), (128, Tryz.f128, bodyOf Tryz.f128), (129, Tryz.f129, bodyOf Tryz.f129), (130, Tryz.f130, bodyOf Tryz.f130), (131, Tryz.f131, bodyOf Tryz.f131), (132, Tryz.f132, bodyOf Tryz.f132), (133, Tryz.f133, bodyOf Tryz.f133), (134, Tryz.f134, bodyOf Tryz.f134), (135, Tryz.f135, bodyOf Tryz.f135), (136, Tryz.f136, bodyOf Tryz.f136), (137, Tryz.f137, bodyOf Tryz.f137), (138, Tryz.f138, bodyOf Tryz.f138), (139, Tryz.f139, bodyOf Tryz.f139), (140, Tryz.f140, bodyOf Tryz.f140)]
theorem tbl_ok : Tbl.ok Tryz.prog tbl := by
  unfold tbl
  refine Tbl.ok_cons Tryz.func3 (by kernel_rfl) ?_
  refine Tbl.ok_cons Tryz.func4 (by kernel_rfl) ?_
  refine Tbl.ok_cons Tryz.func5 (by kernel_rfl) ?_
  refine Tbl.ok_cons Tryz.func6 (by kernel_rfl) ?_
  refine Tbl.ok_cons Tryz.func7 (by kernel_rfl) ?_
  refine Tbl.ok_cons Tryz.func8 (by kernel_rfl) ?_
  refine Tbl.ok_cons Tryz.func9 (by kernel_rfl) ?_
  refine Tbl.ok_cons Tryz.func10 (by kernel_rfl) ?_
  refine Tbl.ok_cons Tryz.func11 (by kernel_rfl) ?_
  refine Tbl.ok_cons Tryz.func12 (by kernel_rfl) ?_
  refine Tbl.ok_cons Tryz.func13 (by kernel_rfl) ?_
  refine Tbl.ok_cons Tryz.func14 (by kernel_rfl) ?_
  refine Tbl.ok_cons Tryz.func15 (by kernel_rfl) ?_
  refine Tbl.ok_cons Tryz.func16 (by kernel_rfl) ?_
  refine Tbl.ok_cons Tryz.func17 (by kernel_rfl) ?_
  refine Tbl.ok_cons Tryz.func18 (by kernel_rfl) ?_
  refine Tbl.ok_cons Tryz.func19 (by kernel_rfl) ?_
  refine Tbl.ok_cons Tryz.func20 (by kernel_rfl) ?_
  refine Tbl.ok_cons Tryz.func21 (by kernel_rfl) ?_
  refine Tbl.ok_cons Tryz.func22 (by kernel_rfl) ?_
  refine Tbl.ok_cons Tryz.func23 (by kernel_rfl) ?_
  refine Tbl.ok_cons Tryz.func24 (by kernel_rfl) ?_
  refine Tbl.ok_cons Tryz.func25 (by kernel_rfl) ?_
  refine Tbl.ok_cons Tryz.func26 (by kernel_rfl) ?_
  refine Tbl.ok_cons Tryz.func27 (by kernel_rfl) ?_
  refine Tbl.ok_cons Tryz.func28 (by kernel_rfl) ?_
  refine Tbl.ok_cons Tryz.func29 (by kernel_rfl) ?_
  refine Tbl.ok_cons Tryz.func30 (by kernel_rfl) ?_
  refine Tbl.ok_cons Tryz.func31 (by kernel_rfl) ?_
  refine Tbl.ok_cons Tryz.func32 (by kernel_rfl) ?_
  refine Tbl.ok_cons Tryz.func33 (by kernel_rfl) ?_
  refine Tbl.ok_cons Tryz.func34 (by kernel_rfl) ?_
  refine Tbl.ok_cons Tryz.func35 (by kernel_rfl) ?_
  refine Tbl.ok_cons Tryz.func36 (by kernel_rfl) ?_
  refine Tbl.ok_cons Tryz.func37 (by kernel_rfl) ?_
  refine Tbl.ok_cons Tryz.func38 (by kernel_rfl) ?_
  refine Tbl.ok_cons Tryz.func39 (by kernel_rfl) ?_
  refine Tbl.ok_cons Tryz.func40 (by kernel_rfl) ?_
  refine Tbl.ok_cons Tryz.func41 (by kernel_rfl) ?_
  refine Tbl.ok_cons Tryz.func42 (by kernel_rfl) ?_
  refine Tbl.ok_cons Tryz.func43 (by kernel_rfl) ?_
  refine Tbl.ok_cons Tryz.func44 (by kernel_rfl) ?_
  refine Tbl.ok_cons Tryz.func45 (by kernel_rfl) ?_
  refine Tbl.ok_cons Tryz.func46 (by kernel_rfl) ?_
  refine Tbl.ok_cons Tryz.func47 (by kernel_rfl) ?_
  refine Tbl.ok_cons Tryz.func48 (by kernel_rfl) ?_
  refine Tbl.ok_cons Tryz.func49 (by kernel_rfl) ?_
  refine Tbl.ok_cons Tryz.func50 (by kernel_rfl) ?_
  refine Tbl.ok_cons Tryz.func51 (by kernel_rfl) ?_
  refine Tbl.ok_cons Tryz.func52 (by kernel_rfl) ?_
  refine Tbl.ok_cons Tryz.func53 (by kernel_rfl) ?_
  refine Tbl.ok_cons Tryz.func54 (by kernel_rfl) ?_
  refine Tbl.ok_cons Tryz.func55 (by kernel_rfl) ?_
  refine Tbl.ok_cons Tryz.func56 (by kernel_rfl) ?_
  refine Tbl.ok_cons Tryz.func57 (by kernel_rfl) ?_
  refine Tbl.ok_cons Tryz.func58 (by kernel_rfl) ?_
  refine Tbl.ok_cons Tryz.func60 (by kernel_rfl) ?_
  refine Tbl.ok_cons Tryz.func61 (by kernel_rfl) ?_
  refine Tbl.ok_cons Tryz.func62 (by kernel_rfl) ?_
  refine Tbl.ok_cons Tryz.func63 (by kernel_rfl) ?_
  refine Tbl.ok_cons Tryz.func64 (by kernel_rfl) ?_
  refine Tbl.ok_cons Tryz.func65 (by kernel_rfl) ?_
  refine Tbl.ok_cons Tryz.func66 (by kernel_rfl) ?_
  refine Tbl.ok_cons Tryz.func67 (by kernel_rfl) ?_
  refine Tbl.ok_cons Tryz.func69 (by kernel_rfl) ?_
  refine Tbl.ok_cons Tryz.func70 (by kernel_rfl) ?_
  refine Tbl.ok_cons Tryz.func71 (by kernel_rfl) ?_
  refine Tbl.ok_cons Tryz.func72 (by kernel_rfl) ?_
  refine Tbl.ok_cons Tryz.func73 (by kernel_rfl) ?_
  refine Tbl.ok_cons Tryz.func74 (by kernel_rfl) ?_
  refine Tbl.ok_cons Tryz.func75 (by kernel_rfl) ?_
  refine Tbl.ok_cons Tryz.func76 (by kernel_rfl) ?_
  refine Tbl.ok_cons Tryz.func77 (by kernel_rfl) ?_
  refine Tbl.ok_cons Tryz.func78 (by kernel_rfl) ?_
  refine Tbl.ok_cons Tryz.func79 (by kernel_rfl) ?_
  refine Tbl.ok_cons Tryz.func80 (by kernel_rfl) ?_
  refine Tbl.ok_cons Tryz.func81 (by kernel_rfl) ?_
  refine Tbl.ok_cons Tryz.func82 (by kernel_rfl) ?_
  refine Tbl.ok_cons Tryz.func83 (by kernel_rfl) ?_
  refine Tbl.ok_cons Tryz.func84 (by kernel_rfl) ?_
  refine Tbl.ok_cons Tryz.func85 (by kernel_rfl) ?_
  refine Tbl.ok_cons Tryz.func86 (by kernel_rfl) ?_
  refine Tbl.ok_cons Tryz.func87 (by kernel_rfl) ?_
  refine Tbl.ok_cons Tryz.func88 (by kernel_rfl) ?_
  refine Tbl.ok_cons Tryz.func89 (by kernel_rfl) ?_
  refine Tbl.ok_cons Tryz.func90 (by kernel_rfl) ?_
  refine Tbl.ok_cons Tryz.func91 (by kernel_rfl) ?_
  refine Tbl.ok_cons Tryz.func92 (by kernel_rfl) ?_
  refine Tbl.ok_cons Tryz.func93 (by kernel_rfl) ?_
  refine Tbl.ok_cons Tryz.func94 (by kernel_rfl) ?_
  refine Tbl.ok_cons Tryz.func95 (by kernel_rfl) ?_
  refine Tbl.ok_cons Tryz.func96 (by kernel_rfl) ?_
  refine Tbl.ok_cons Tryz.func97 (by kernel_rfl) ?_
  refine Tbl.ok_cons Tryz.func98 (by kernel_rfl) ?_
  refine Tbl.ok_cons Tryz.func99 (by kernel_rfl) ?_
  refine Tbl.ok_cons Tryz.func100 (by kernel_rfl) ?_
  refine Tbl.ok_cons Tryz.func101 (by kernel_rfl) ?_
  refine Tbl.ok_cons Tryz.func102 (by kernel_rfl) ?_
  refine Tbl.ok_cons Tryz.func103 (by kernel_rfl) ?_
  refine Tbl.ok_cons Tryz.func104 (by kernel_rfl) ?_
  refine Tbl.ok_cons Tryz.func105 (by kernel_rfl) ?_
  refine Tbl.ok_cons Tryz.func106 (by kernel_rfl) ?_
  refine Tbl.ok_cons Tryz.func107 (by kernel_rfl) ?_
  refine Tbl.ok_cons Tryz.func108 (by kernel_rfl) ?_
  refine Tbl.ok_cons Tryz.func109 (by kernel_rfl) ?_
  refine Tbl.ok_cons Tryz.func110 (by kernel_rfl) ?_
  refine Tbl.ok_cons Tryz.func111 (by kernel_rfl) ?_
  refine Tbl.ok_cons Tryz.func112 (by kernel_rfl) ?_
  refine Tbl.ok_cons Tryz.func113 (by kernel_rfl) ?_
  refine Tbl.ok_cons Tryz.func114 (by kernel_rfl) ?_
  refine Tbl.ok_cons Tryz.func115 (by kernel_rfl) ?_
  refine Tbl.ok_cons Tryz.func116 (by kernel_rfl) ?_
  refine Tbl.ok_cons Tryz.func117 (by kernel_rfl) ?_
  refine Tbl.ok_cons Tryz.func118 (by kernel_rfl) ?_
  refine Tbl.ok_cons Tryz.func119 (by kernel_rfl) ?_
  refine Tbl.ok_cons Tryz.func120 (by kernel_rfl) ?_
  refine Tbl.ok_cons Tryz.func121 (by kernel_rfl) ?_
  refine Tbl.ok_cons Tryz.func122 (by kernel_rfl) ?_
  refine Tbl.ok_cons Tryz.func123 (by kernel_rfl) ?_
  refine Tbl.ok_cons Tryz.func124 (by kernel_rfl) ?_
  refine Tbl.ok_cons Tryz.func125 (by kernel_rfl) ?_
  refine Tbl.ok_cons Tryz.func126 (by kernel_rfl) ?_
  refine Tbl.ok_cons Tryz.func127 (by kernel_rfl) ?_
  refine Tbl.ok_cons Tryz.func128 (by kernel_rfl) ?_
  refine Tbl.ok_cons Tryz.func129 (by kernel_rfl) ?_
  refine Tbl.ok_cons Tryz.func130 (by kernel_rfl) ?_
  refine Tbl.ok_cons Tryz.func131 (by kernel_rfl) ?_
  refine Tbl.ok_cons Tryz.func132 (by kernel_rfl) ?_
  refine Tbl.ok_cons Tryz.func133 (by kernel_rfl) ?_
  refine Tbl.ok_cons Tryz.func134 (by kernel_rfl) ?_
  refine Tbl.ok_cons Tryz.func135 (by kernel_rfl) ?_
  refine Tbl.ok_cons Tryz.func136 (by kernel_rfl) ?_
  refine Tbl.ok_cons Tryz.func137 (by kernel_rfl) ?_
  refine Tbl.ok_cons Tryz.func138 (by kernel_rfl) ?_
  refine Tbl.ok_cons Tryz.func139 (by kernel_rfl) ?_
  refine Tbl.ok_cons Tryz.func140 (by kernel_rfl) ?_
  exact Tbl.ok_nil
end Go.Proofs.YtinhlbmlopkgiaaGreatDoor
