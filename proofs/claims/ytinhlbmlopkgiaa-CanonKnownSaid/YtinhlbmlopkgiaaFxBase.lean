/-
  The table of a seat's functions, for the evaluator. Conditions: none.
-/
import Derived.Test.YtinhlbmlopkgiaaRows
import Derived.Test.YtinhlbmlopkgiaaFwD
namespace Go.Proofs.Ytinhlbmlopkgiaa
open Go.Fv Go.Proofs
theorem mixed : Try.prog.follows .mixedOrders = true := by kernel_rfl
def plainL : List Nat := [23,58,44]
theorem plains : ∀ t ∈ plainL, plainTest Try.prog t = true := List.all_eq_true.1 (by kernel_rfl : plainL.all (plainTest Try.prog) = true)
instance : Plain Try.prog := Plain.ofList plainL plains

noncomputable def tbl : Tbl := [(3, Try.f3, bodyOf Try.f3), (4, Try.f4, bodyOf Try.f4), (5, Try.f5, bodyOf Try.f5), (6, Try.f6, bodyOf Try.f6), (7, Try.f7, bodyOf Try.f7), (8, Try.f8, bodyOf Try.f8), (9, Try.f9, bodyOf Try.f9), (10, Try.f10, bodyOf Try.f10), (11, Try.f11, bodyOf Try.f11), (12, Try.f12, bodyOf Try.f12), (13, Try.f13, bodyOf Try.f13), (14, Try.f14, bodyOf Try.f14), (15, Try.f15, bodyOf Try.f15), (16, Try.f16, bodyOf Try.f16), (17, Try.f17, bodyOf Try.f17), (18, Try.f18, bodyOf Try.f18), (19, Try.f19, bodyOf Try.f19), (20, Try.f20, bodyOf Try.f20), (21, Try.f21, bodyOf Try.f21), (22, Try.f22, bodyOf Try.f22), (23, Try.f23, bodyOf Try.f23), (24, Try.f24, bodyOf Try.f24), (25, Try.f25, bodyOf Try.f25), (26, Try.f26, bodyOf Try.f26), (27, Try.f27, bodyOf Try.f27), (28, Try.f28, bodyOf Try.f28), (29, Try.f29, bodyOf Try.f29), (30, Try.f30, bodyOf Try.f30), (31, Try.f31, bodyOf Try.f31), (32, Try.f32, bodyOf Try.f32), (33, Try.f33, bodyOf Try.f33), (34, Try.f34, bodyOf Try.f34), (35, Try.f35, bodyOf Try.f35), (36, Try.f36, bodyOf Try.f36), (37, Try.f37, bodyOf Try.f37), (38, Try.f38, bodyOf Try.f38), (39, Try.f39, bodyOf Try.f39), (40, Try.f40, bodyOf Try.f40), (41, Try.f41, bodyOf Try.f41), (42, Try.f42, bodyOf Try.f42), (43, Try.f43, bodyOf Try.f43), (44, Try.f44, bodyOf Try.f44), (45, Try.f45, bodyOf Try.f45), (46, Try.f46, bodyOf Try.f46), (47, Try.f47, bodyOf Try.f47), (48, Try.f48, bodyOf Try.f48), (49, Try.f49, bodyOf Try.f49), (50, Try.f50, bodyOf Try.f50), (51, Try.f51, bodyOf Try.f51), (52, Try.f52, bodyOf Try.f52), (53, Try.f53, bodyOf Try.f53), (54, Try.f54, bodyOf Try.f54), (55, Try.f55, bodyOf Try.f55), (56, Try.f56, bodyOf Try.f56), (58, Try.f58, bodyOf Try.f58), (59, Try.f59, bodyOf Try.f59), (60, Try.f60, bodyOf Try.f60), (61, Try.f61, bodyOf Try.f61), (62, Try.f62, bodyOf Try.f62), (63, Try.f63, bodyOf Try.f63), (64, Try.f64, bodyOf Try.f64), (65, Try.f65, bodyOf Try.f65), (66, Try.f66, bodyOf Try.f66), (67, Try.f67, bodyOf Try.f67), (68, Try.f68, bodyOf Try.f68), (69, Try.f69, bodyOf Try.f69), (70, Try.f70, bodyOf Try.f70), (71, Try.f71, bodyOf Try.f71), (72, Try.f72, bodyOf Try.f72), (73, Try.f73, bodyOf Try.f73), (74, Try.f74, bodyOf Try.f74), (75, Try.f75, bodyOf Try.f75), (76, Try.f76, bodyOf Try.f76), (77, Try.f77, bodyOf Try.f77), (78, Try.f78, bodyOf Try.f78), (79, Try.f79, bodyOf Try.f79), (80, Try.f80, bodyOf Try.f80), (81, Try.f81, bodyOf Try.f81), (82, Try.f82, bodyOf Try.f82), (84, Try.f84, bodyOf Try.f84), (85, Try.f85, bodyOf Try.f85), (86, Try.f86, bodyOf Try.f86), (87, Try.f87, bodyOf Try.f87), (88, Try.f88, bodyOf Try.f88), (89, Try.f89, bodyOf Try.f89), (90, Try.f90, bodyOf Try.f90), (91, Try.f91, bodyOf Try.f91), (92, Try.f92, bodyOf Try.f92), (93, Try.f93, bodyOf Try.f93), (94, Try.f94, bodyOf Try.f94), (95, Try.f95, bodyOf Try.f95), (96, Try.f96, bodyOf Try.f96), (97, Try.f97, bodyOf Try.f97), (98, Try.f98, bodyOf Try.f98), (99, Try.f99, bodyOf Try.f99), (100, Try.f100, bodyOf Try.f100), (101, Try.f101, bodyOf Try.f101), (102, Try.f102, bodyOf Try.f102), (103, Try.f103, bodyOf Try.f103), (104, Try.f104, bodyOf Try.f104), (105, Try.f105, bodyOf Try.f105), (106, Try.f106, bodyOf Try.f106), (107, Try.f107, bodyOf Try.f107), (108, Try.f108, bodyOf Try.f108), (109, Try.f109, bodyOf Try.f109), (110, Try.f110, bodyOf Try.f110), (111, Try.f111, bodyOf Try.f111), (112, Try.f112, bodyOf Try.f112), (113, Try.f113, bodyOf Try.f113)]
theorem tbl_ok : Tbl.ok Try.prog tbl := by
  unfold tbl
  refine Tbl.ok_cons Try.func3 (by kernel_rfl) ?_
  refine Tbl.ok_cons Try.func4 (by kernel_rfl) ?_
  refine Tbl.ok_cons Try.func5 (by kernel_rfl) ?_
  refine Tbl.ok_cons Try.func6 (by kernel_rfl) ?_
  refine Tbl.ok_cons Try.func7 (by kernel_rfl) ?_
  refine Tbl.ok_cons Try.func8 (by kernel_rfl) ?_
  refine Tbl.ok_cons Try.func9 (by kernel_rfl) ?_
  refine Tbl.ok_cons Try.func10 (by kernel_rfl) ?_
  refine Tbl.ok_cons Try.func11 (by kernel_rfl) ?_
  refine Tbl.ok_cons Try.func12 (by kernel_rfl) ?_
  refine Tbl.ok_cons Try.func13 (by kernel_rfl) ?_
  refine Tbl.ok_cons Try.func14 (by kernel_rfl) ?_
  refine Tbl.ok_cons Try.func15 (by kernel_rfl) ?_
  refine Tbl.ok_cons Try.func16 (by kernel_rfl) ?_
  refine Tbl.ok_cons Try.func17 (by kernel_rfl) ?_
  refine Tbl.ok_cons Try.func18 (by kernel_rfl) ?_
  refine Tbl.ok_cons Try.func19 (by kernel_rfl) ?_
  refine Tbl.ok_cons Try.func20 (by kernel_rfl) ?_
  refine Tbl.ok_cons Try.func21 (by kernel_rfl) ?_
  refine Tbl.ok_cons Try.func22 (by kernel_rfl) ?_
  refine Tbl.ok_cons Try.func23 (by kernel_rfl) ?_
  refine Tbl.ok_cons Try.func24 (by kernel_rfl) ?_
  refine Tbl.ok_cons Try.func25 (by kernel_rfl) ?_
  refine Tbl.ok_cons Try.func26 (by kernel_rfl) ?_
  refine Tbl.ok_cons Try.func27 (by kernel_rfl) ?_
  refine Tbl.ok_cons Try.func28 (by kernel_rfl) ?_
  refine Tbl.ok_cons Try.func29 (by kernel_rfl) ?_
  refine Tbl.ok_cons Try.func30 (by kernel_rfl) ?_
  refine Tbl.ok_cons Try.func31 (by kernel_rfl) ?_
  refine Tbl.ok_cons Try.func32 (by kernel_rfl) ?_
  refine Tbl.ok_cons Try.func33 (by kernel_rfl) ?_
  refine Tbl.ok_cons Try.func34 (by kernel_rfl) ?_
  refine Tbl.ok_cons Try.func35 (by kernel_rfl) ?_
  refine Tbl.ok_cons Try.func36 (by kernel_rfl) ?_
  refine Tbl.ok_cons Try.func37 (by kernel_rfl) ?_
  refine Tbl.ok_cons Try.func38 (by kernel_rfl) ?_
  refine Tbl.ok_cons Try.func39 (by kernel_rfl) ?_
  refine Tbl.ok_cons Try.func40 (by kernel_rfl) ?_
  refine Tbl.ok_cons Try.func41 (by kernel_rfl) ?_
  refine Tbl.ok_cons Try.func42 (by kernel_rfl) ?_
  refine Tbl.ok_cons Try.func43 (by kernel_rfl) ?_
  refine Tbl.ok_cons Try.func44 (by kernel_rfl) ?_
  refine Tbl.ok_cons Try.func45 (by kernel_rfl) ?_
  refine Tbl.ok_cons Try.func46 (by kernel_rfl) ?_
  refine Tbl.ok_cons Try.func47 (by kernel_rfl) ?_
  refine Tbl.ok_cons Try.func48 (by kernel_rfl) ?_
  refine Tbl.ok_cons Try.func49 (by kernel_rfl) ?_
  refine Tbl.ok_cons Try.func50 (by kernel_rfl) ?_
  refine Tbl.ok_cons Try.func51 (by kernel_rfl) ?_
  refine Tbl.ok_cons Try.func52 (by kernel_rfl) ?_
  refine Tbl.ok_cons Try.func53 (by kernel_rfl) ?_
  refine Tbl.ok_cons Try.func54 (by kernel_rfl) ?_
  refine Tbl.ok_cons Try.func55 (by kernel_rfl) ?_
  refine Tbl.ok_cons Try.func56 (by kernel_rfl) ?_
  refine Tbl.ok_cons Try.func58 (by kernel_rfl) ?_
  refine Tbl.ok_cons Try.func59 (by kernel_rfl) ?_
  refine Tbl.ok_cons Try.func60 (by kernel_rfl) ?_
  refine Tbl.ok_cons Try.func61 (by kernel_rfl) ?_
  refine Tbl.ok_cons Try.func62 (by kernel_rfl) ?_
  refine Tbl.ok_cons Try.func63 (by kernel_rfl) ?_
  refine Tbl.ok_cons Try.func64 (by kernel_rfl) ?_
  refine Tbl.ok_cons Try.func65 (by kernel_rfl) ?_
  refine Tbl.ok_cons Try.func66 (by kernel_rfl) ?_
  refine Tbl.ok_cons Try.func67 (by kernel_rfl) ?_
  refine Tbl.ok_cons Try.func68 (by kernel_rfl) ?_
  refine Tbl.ok_cons Try.func69 (by kernel_rfl) ?_
  refine Tbl.ok_cons Try.func70 (by kernel_rfl) ?_
  refine Tbl.ok_cons Try.func71 (by kernel_rfl) ?_
  refine Tbl.ok_cons Try.func72 (by kernel_rfl) ?_
  refine Tbl.ok_cons Try.func73 (by kernel_rfl) ?_
  refine Tbl.ok_cons Try.func74 (by kernel_rfl) ?_
  refine Tbl.ok_cons Try.func75 (by kernel_rfl) ?_
  refine Tbl.ok_cons Try.func76 (by kernel_rfl) ?_
  refine Tbl.ok_cons Try.func77 (by kernel_rfl) ?_
  refine Tbl.ok_cons Try.func78 (by kernel_rfl) ?_
  refine Tbl.ok_cons Try.func79 (by kernel_rfl) ?_
  refine Tbl.ok_cons Try.func80 (by kernel_rfl) ?_
  refine Tbl.ok_cons Try.func81 (by kernel_rfl) ?_
  refine Tbl.ok_cons Try.func82 (by kernel_rfl) ?_
  refine Tbl.ok_cons Try.func84 (by kernel_rfl) ?_
  refine Tbl.ok_cons Try.func85 (by kernel_rfl) ?_
  refine Tbl.ok_cons Try.func86 (by kernel_rfl) ?_
  refine Tbl.ok_cons Try.func87 (by kernel_rfl) ?_
  refine Tbl.ok_cons Try.func88 (by kernel_rfl) ?_
  refine Tbl.ok_cons Try.func89 (by kernel_rfl) ?_
  refine Tbl.ok_cons Try.func90 (by kernel_rfl) ?_
  refine Tbl.ok_cons Try.func91 (by kernel_rfl) ?_
  refine Tbl.ok_cons Try.func92 (by kernel_rfl) ?_
  refine Tbl.ok_cons Try.func93 (by kernel_rfl) ?_
  refine Tbl.ok_cons Try.func94 (by kernel_rfl) ?_
  refine Tbl.ok_cons Try.func95 (by kernel_rfl) ?_
  refine Tbl.ok_cons Try.func96 (by kernel_rfl) ?_
  refine Tbl.ok_cons Try.func97 (by kernel_rfl) ?_
  refine Tbl.ok_cons Try.func98 (by kernel_rfl) ?_
  refine Tbl.ok_cons Try.func99 (by kernel_rfl) ?_
  refine Tbl.ok_cons Try.func100 (by kernel_rfl) ?_
  refine Tbl.ok_cons Try.func101 (by kernel_rfl) ?_
  refine Tbl.ok_cons Try.func102 (by kernel_rfl) ?_
  refine Tbl.ok_cons Try.func103 (by kernel_rfl) ?_
  refine Tbl.ok_cons Try.func104 (by kernel_rfl) ?_
  refine Tbl.ok_cons Try.func105 (by kernel_rfl) ?_
  refine Tbl.ok_cons Try.func106 (by kernel_rfl) ?_
  refine Tbl.ok_cons Try.func107 (by kernel_rfl) ?_
  refine Tbl.ok_cons Try.func108 (by kernel_rfl) ?_
  refine Tbl.ok_cons Try.func109 (by kernel_rfl) ?_
  refine Tbl.ok_cons Try.func110 (by kernel_rfl) ?_
  refine Tbl.ok_cons Try.func111 (by kernel_rfl) ?_
  refine Tbl.ok_cons Try.func112 (by kernel_rfl) ?_
  refine Tbl.ok_cons Try.func113 (by kernel_rfl) ?_
  exact Tbl.ok_nil
end Go.Proofs.Ytinhlbmlopkgiaa
