import Derived.Test.YtngpacdhpblpbaaRows
import Derived.Test.YtngpacdhpblpbaaE2
import Derived.KernelRfl
/- The facts on types that the walk over abstract values wants, in this seat's numbers. Written by facts.py. -/
section
namespace Go.Proofs.Ytngpacdhpblpbaa
open Go.Av

@[go_sem] theorem fact_ty1 : tyOf Try.prog 1 = some ⟨false, 1, [.nilFunc]⟩ := by kernel_rfl
@[go_sem] theorem fact_isint2 : isIntT Try.prog 2 = true := by kernel_rfl
@[go_sem] theorem fact_ty2 : tyOf Try.prog 2 = some ⟨false, 1, [.int .i64 0]⟩ := by kernel_rfl
@[go_sem] theorem fact_isint3 : isIntT Try.prog 3 = true := by kernel_rfl
@[go_sem] theorem fact_ty3 : tyOf Try.prog 3 = some ⟨false, 1, [.int .i64 0]⟩ := by kernel_rfl
@[go_sem] theorem fact_eq4 : eqT Try.prog 4 = .bool := by kernel_rfl
@[go_sem] theorem fact_ty4 : tyOf Try.prog 4 = some ⟨false, 1, [.bool false]⟩ := by kernel_rfl
@[go_sem] theorem fact_isint5 : isIntT Try.prog 5 = true := by kernel_rfl
@[go_sem] theorem fact_ty5 : tyOf Try.prog 5 = some ⟨false, 1, [.int .u8 0]⟩ := by kernel_rfl
@[go_sem] theorem fact_isint6 : isIntT Try.prog 6 = true := by kernel_rfl
@[go_sem] theorem fact_ty6 : tyOf Try.prog 6 = some ⟨false, 1, [.int .u8 0]⟩ := by kernel_rfl
@[go_sem] theorem fact_ty7 : tyOf Try.prog 7 = some ⟨true, 4, [.int .i64 0, .int .i64 0, .bool false, .int .u8 0]⟩ := by kernel_rfl
@[go_sem] theorem fact_fld7_0 : fldOf Try.prog 7 0 = some ⟨0, 1, false⟩ := by kernel_rfl
@[go_sem] theorem fact_fld7_1 : fldOf Try.prog 7 1 = some ⟨1, 1, false⟩ := by kernel_rfl
@[go_sem] theorem fact_fld7_2 : fldOf Try.prog 7 2 = some ⟨2, 1, false⟩ := by kernel_rfl
@[go_sem] theorem fact_fld7_3 : fldOf Try.prog 7 3 = some ⟨3, 1, false⟩ := by kernel_rfl
@[go_sem] theorem fact_bld7 : bldOf Try.prog 7 = some ⟨4, [.int .i64 0, .int .i64 0, .bool false, .int .u8 0], [(0, 1), (1, 1), (2, 1), (3, 1)]⟩ := by kernel_rfl
@[go_sem] theorem fact_ty8 : tyOf Try.prog 8 = some ⟨true, 4, [.int .i64 0, .int .i64 0, .bool false, .int .u8 0]⟩ := by kernel_rfl
@[go_sem] theorem fact_fld8_0 : fldOf Try.prog 8 0 = some ⟨0, 1, false⟩ := by kernel_rfl
@[go_sem] theorem fact_fld8_1 : fldOf Try.prog 8 1 = some ⟨1, 1, false⟩ := by kernel_rfl
@[go_sem] theorem fact_fld8_2 : fldOf Try.prog 8 2 = some ⟨2, 1, false⟩ := by kernel_rfl
@[go_sem] theorem fact_fld8_3 : fldOf Try.prog 8 3 = some ⟨3, 1, false⟩ := by kernel_rfl
@[go_sem] theorem fact_bld8 : bldOf Try.prog 8 = some ⟨4, [.int .i64 0, .int .i64 0, .bool false, .int .u8 0], [(0, 1), (1, 1), (2, 1), (3, 1)]⟩ := by kernel_rfl
@[go_sem] theorem fact_len9 : lenT Try.prog 9 = .str := by kernel_rfl
@[go_sem] theorem fact_st9 : isStr Try.prog 9 = true := by kernel_rfl
@[go_sem] theorem fact_sl9 : slT Try.prog 9 = .str := by kernel_rfl
@[go_sem] theorem fact_ty9 : tyOf Try.prog 9 = some ⟨false, 1, [.string ⟨#[]⟩]⟩ := by kernel_rfl
@[go_sem] theorem fact_len10 : lenT Try.prog 10 = .str := by kernel_rfl
@[go_sem] theorem fact_st10 : isStr Try.prog 10 = true := by kernel_rfl
@[go_sem] theorem fact_sl10 : slT Try.prog 10 = .str := by kernel_rfl
@[go_sem] theorem fact_ty10 : tyOf Try.prog 10 = some ⟨false, 1, [.string ⟨#[]⟩]⟩ := by kernel_rfl
@[go_sem] theorem fact_len11 : lenT Try.prog 11 = .str := by kernel_rfl
@[go_sem] theorem fact_st11 : isStr Try.prog 11 = true := by kernel_rfl
@[go_sem] theorem fact_sl11 : slT Try.prog 11 = .str := by kernel_rfl
@[go_sem] theorem fact_ty11 : tyOf Try.prog 11 = some ⟨false, 1, [.string ⟨#[]⟩]⟩ := by kernel_rfl
@[go_sem] theorem fact_isint12 : isIntT Try.prog 12 = true := by kernel_rfl
@[go_sem] theorem fact_ty12 : tyOf Try.prog 12 = some ⟨false, 1, [.int .u64 0]⟩ := by kernel_rfl
@[go_sem] theorem fact_ty13 : tyOf Try.prog 13 = some ⟨true, 2, [.string ⟨#[]⟩, .int .u64 0]⟩ := by kernel_rfl
@[go_sem] theorem fact_fld13_0 : fldOf Try.prog 13 0 = some ⟨0, 1, false⟩ := by kernel_rfl
@[go_sem] theorem fact_fld13_1 : fldOf Try.prog 13 1 = some ⟨1, 1, false⟩ := by kernel_rfl
@[go_sem] theorem fact_bld13 : bldOf Try.prog 13 = some ⟨2, [.string ⟨#[]⟩, .int .u64 0], [(0, 1), (1, 1)]⟩ := by kernel_rfl
@[go_sem] theorem fact_ty14 : tyOf Try.prog 14 = some ⟨true, 2, [.string ⟨#[]⟩, .int .u64 0]⟩ := by kernel_rfl
@[go_sem] theorem fact_fld14_0 : fldOf Try.prog 14 0 = some ⟨0, 1, false⟩ := by kernel_rfl
@[go_sem] theorem fact_fld14_1 : fldOf Try.prog 14 1 = some ⟨1, 1, false⟩ := by kernel_rfl
@[go_sem] theorem fact_bld14 : bldOf Try.prog 14 = some ⟨2, [.string ⟨#[]⟩, .int .u64 0], [(0, 1), (1, 1)]⟩ := by kernel_rfl
@[go_sem] theorem fact_eq15 : eqT Try.prog 15 = .ptr := by kernel_rfl
@[go_sem] theorem fact_ty15 : tyOf Try.prog 15 = some ⟨false, 1, [.pointer none]⟩ := by kernel_rfl
@[go_sem] theorem fact_eq16 : eqT Try.prog 16 = .ptr := by kernel_rfl
@[go_sem] theorem fact_ty16 : tyOf Try.prog 16 = some ⟨false, 1, [.pointer none]⟩ := by kernel_rfl
@[go_sem] theorem fact_eq17 : eqT Try.prog 17 = .ptr := by kernel_rfl
@[go_sem] theorem fact_ty17 : tyOf Try.prog 17 = some ⟨false, 1, [.pointer none]⟩ := by kernel_rfl
@[go_sem] theorem fact_ty18 : tyOf Try.prog 18 = some ⟨true, 1, [.pointer none]⟩ := by kernel_rfl
@[go_sem] theorem fact_fld18_0 : fldOf Try.prog 18 0 = some ⟨0, 1, false⟩ := by kernel_rfl
@[go_sem] theorem fact_bld18 : bldOf Try.prog 18 = some ⟨1, [.pointer none], [(0, 1)]⟩ := by kernel_rfl
@[go_sem] theorem fact_ty19 : tyOf Try.prog 19 = some ⟨true, 1, [.pointer none]⟩ := by kernel_rfl
@[go_sem] theorem fact_fld19_0 : fldOf Try.prog 19 0 = some ⟨0, 1, false⟩ := by kernel_rfl
@[go_sem] theorem fact_bld19 : bldOf Try.prog 19 = some ⟨1, [.pointer none], [(0, 1)]⟩ := by kernel_rfl
@[go_sem] theorem fact_isint21 : isIntT Try.prog 21 = true := by kernel_rfl
@[go_sem] theorem fact_ty21 : tyOf Try.prog 21 = some ⟨false, 1, [.int .i32 0]⟩ := by kernel_rfl
@[go_sem] theorem fact_sel22 : selOf Try.prog 22 = some ⟨5, 1, 1, [.int .u8 0]⟩ := by kernel_rfl
@[go_sem] theorem fact_ix22 : ixOf Try.prog 22 = some (.sl 1) := by kernel_rfl
@[go_sem] theorem fact_eq22 : eqT Try.prog 22 = .slice := by kernel_rfl
@[go_sem] theorem fact_len22 : lenT Try.prog 22 = .slice := by kernel_rfl
@[go_sem] theorem fact_sl22 : slT Try.prog 22 = .slice 1 := by kernel_rfl
@[go_sem] theorem fact_ty22 : tyOf Try.prog 22 = some ⟨false, 1, [.slice none 0 0]⟩ := by kernel_rfl
@[go_sem] theorem fact_ty23 : tyOf Try.prog 23 = some ⟨false, 1, [.nilFunc]⟩ := by kernel_rfl
@[go_sem] theorem fact_sel24 : selOf Try.prog 24 = some ⟨27, 1, 24, [.slice none 0 0]⟩ := by kernel_rfl
@[go_sem] theorem fact_ix24 : ixOf Try.prog 24 = some (.sl 1) := by kernel_rfl
@[go_sem] theorem fact_eq24 : eqT Try.prog 24 = .slice := by kernel_rfl
@[go_sem] theorem fact_len24 : lenT Try.prog 24 = .slice := by kernel_rfl
@[go_sem] theorem fact_sl24 : slT Try.prog 24 = .slice 1 := by kernel_rfl
@[go_sem] theorem fact_ty24 : tyOf Try.prog 24 = some ⟨false, 1, [.slice none 0 0]⟩ := by kernel_rfl
@[go_sem] theorem fact_ty25 : tyOf Try.prog 25 = some ⟨true, 3, [.int .i64 0, .string ⟨#[]⟩, .slice none 0 0]⟩ := by kernel_rfl
@[go_sem] theorem fact_fld25_0 : fldOf Try.prog 25 0 = some ⟨0, 1, false⟩ := by kernel_rfl
@[go_sem] theorem fact_fld25_1 : fldOf Try.prog 25 1 = some ⟨1, 1, false⟩ := by kernel_rfl
@[go_sem] theorem fact_fld25_2 : fldOf Try.prog 25 2 = some ⟨2, 1, false⟩ := by kernel_rfl
@[go_sem] theorem fact_bld25 : bldOf Try.prog 25 = some ⟨3, [.int .i64 0, .string ⟨#[]⟩, .slice none 0 0], [(0, 1), (1, 1), (2, 1)]⟩ := by kernel_rfl
@[go_sem] theorem fact_ty26 : tyOf Try.prog 26 = some ⟨true, 3, [.int .i64 0, .string ⟨#[]⟩, .slice none 0 0]⟩ := by kernel_rfl
@[go_sem] theorem fact_fld26_0 : fldOf Try.prog 26 0 = some ⟨0, 1, false⟩ := by kernel_rfl
@[go_sem] theorem fact_fld26_1 : fldOf Try.prog 26 1 = some ⟨1, 1, false⟩ := by kernel_rfl
@[go_sem] theorem fact_fld26_2 : fldOf Try.prog 26 2 = some ⟨2, 1, false⟩ := by kernel_rfl
@[go_sem] theorem fact_bld26 : bldOf Try.prog 26 = some ⟨3, [.int .i64 0, .string ⟨#[]⟩, .slice none 0 0], [(0, 1), (1, 1), (2, 1)]⟩ := by kernel_rfl
@[go_sem] theorem fact_sel27 : selOf Try.prog 27 = some ⟨2, 1, 8, [.int .i64 0]⟩ := by kernel_rfl
@[go_sem] theorem fact_ix27 : ixOf Try.prog 27 = some (.sl 1) := by kernel_rfl
@[go_sem] theorem fact_eq27 : eqT Try.prog 27 = .slice := by kernel_rfl
@[go_sem] theorem fact_len27 : lenT Try.prog 27 = .slice := by kernel_rfl
@[go_sem] theorem fact_sl27 : slT Try.prog 27 = .slice 1 := by kernel_rfl
@[go_sem] theorem fact_ty27 : tyOf Try.prog 27 = some ⟨false, 1, [.slice none 0 0]⟩ := by kernel_rfl
@[go_sem] theorem fact_ty29 : tyOf Try.prog 29 = some ⟨false, 1, [.nilFunc]⟩ := by kernel_rfl
@[go_sem] theorem fact_ty31 : tyOf Try.prog 31 = some ⟨false, 1, [.nilFunc]⟩ := by kernel_rfl
@[go_sem] theorem fact_ty32 : tyOf Try.prog 32 = some ⟨false, 1, [.nilFunc]⟩ := by kernel_rfl
@[go_sem] theorem fact_ty33 : tyOf Try.prog 33 = some ⟨false, 1, [.nilFunc]⟩ := by kernel_rfl
@[go_sem] theorem fact_ty34 : tyOf Try.prog 34 = some ⟨false, 1, [.nilFunc]⟩ := by kernel_rfl
@[go_sem] theorem fact_ty35 : tyOf Try.prog 35 = some ⟨false, 1, [.nilFunc]⟩ := by kernel_rfl
@[go_sem] theorem fact_ty36 : tyOf Try.prog 36 = some ⟨false, 1, [.nilFunc]⟩ := by kernel_rfl
@[go_sem] theorem fact_ty38 : tyOf Try.prog 38 = some ⟨false, 1, [.nilFunc]⟩ := by kernel_rfl
@[go_sem] theorem fact_ty39 : tyOf Try.prog 39 = some ⟨false, 1, [.nilFunc]⟩ := by kernel_rfl
@[go_sem] theorem fact_ty40 : tyOf Try.prog 40 = some ⟨false, 1, [.nilFunc]⟩ := by kernel_rfl
@[go_sem] theorem fact_ty41 : tyOf Try.prog 41 = some ⟨false, 1, [.nilFunc]⟩ := by kernel_rfl
@[go_sem] theorem fact_ty42 : tyOf Try.prog 42 = some ⟨false, 1, [.nilFunc]⟩ := by kernel_rfl
@[go_sem] theorem fact_ty44 : tyOf Try.prog 44 = some ⟨false, 1, [.nilFunc]⟩ := by kernel_rfl
@[go_sem] theorem fact_ty45 : tyOf Try.prog 45 = some ⟨false, 1, [.nilFunc]⟩ := by kernel_rfl
@[go_sem] theorem fact_eq46 : eqT Try.prog 46 = .ptr := by kernel_rfl
@[go_sem] theorem fact_ty46 : tyOf Try.prog 46 = some ⟨false, 1, [.pointer none]⟩ := by kernel_rfl
@[go_sem] theorem fact_ty47 : tyOf Try.prog 47 = some ⟨false, 1, [.nilFunc]⟩ := by kernel_rfl
@[go_sem] theorem fact_isint48 : isIntT Try.prog 48 = true := by kernel_rfl
@[go_sem] theorem fact_ty48 : tyOf Try.prog 48 = some ⟨false, 1, [.int .u64 0]⟩ := by kernel_rfl
@[go_sem] theorem fact_ty49 : tyOf Try.prog 49 = some ⟨false, 1, [.nilFunc]⟩ := by kernel_rfl
@[go_sem] theorem fact_ty50 : tyOf Try.prog 50 = some ⟨false, 1, [.nilFunc]⟩ := by kernel_rfl
@[go_sem] theorem fact_ty51 : tyOf Try.prog 51 = some ⟨false, 1, [.nilFunc]⟩ := by kernel_rfl
@[go_sem] theorem fact_sel52 : selOf Try.prog 52 = some ⟨24, 1, 24, [.slice none 0 0]⟩ := by kernel_rfl
@[go_sem] theorem fact_ix52 : ixOf Try.prog 52 = some (.sl 1) := by kernel_rfl
@[go_sem] theorem fact_eq52 : eqT Try.prog 52 = .slice := by kernel_rfl
@[go_sem] theorem fact_len52 : lenT Try.prog 52 = .slice := by kernel_rfl
@[go_sem] theorem fact_sl52 : slT Try.prog 52 = .slice 1 := by kernel_rfl
@[go_sem] theorem fact_ty52 : tyOf Try.prog 52 = some ⟨false, 1, [.slice none 0 0]⟩ := by kernel_rfl
@[go_sem] theorem fact_ty53 : tyOf Try.prog 53 = some ⟨false, 1, [.nilFunc]⟩ := by kernel_rfl
@[go_sem] theorem fact_ty55 : tyOf Try.prog 55 = some ⟨false, 1, [.nilFunc]⟩ := by kernel_rfl
@[go_sem] theorem fact_ty56 : tyOf Try.prog 56 = some ⟨false, 1, [.nilFunc]⟩ := by kernel_rfl
@[go_sem] theorem fact_ty58 : tyOf Try.prog 58 = some ⟨false, 1, [.nilFunc]⟩ := by kernel_rfl
@[go_sem] theorem fact_ty59 : tyOf Try.prog 59 = some ⟨false, 1, [.nilFunc]⟩ := by kernel_rfl
@[go_sem] theorem fact_ty60 : tyOf Try.prog 60 = some ⟨false, 1, [.nilFunc]⟩ := by kernel_rfl
@[go_sem] theorem fact_eq61 : eqT Try.prog 61 = .ptr := by kernel_rfl
@[go_sem] theorem fact_ty61 : tyOf Try.prog 61 = some ⟨false, 1, [.pointer none]⟩ := by kernel_rfl
@[go_sem] theorem fact_ty62 : tyOf Try.prog 62 = some ⟨false, 1, [.nilFunc]⟩ := by kernel_rfl
@[go_sem] theorem fact_ty64 : tyOf Try.prog 64 = some ⟨false, 1, [.nilFunc]⟩ := by kernel_rfl
@[go_sem] theorem fact_ty65 : tyOf Try.prog 65 = some ⟨false, 1, [.nilFunc]⟩ := by kernel_rfl
@[go_sem] theorem fact_ty66 : tyOf Try.prog 66 = some ⟨false, 1, [.nilFunc]⟩ := by kernel_rfl
@[go_sem] theorem fact_ty67 : tyOf Try.prog 67 = some ⟨false, 1, [.nilFunc]⟩ := by kernel_rfl
@[go_sem] theorem fact_ty68 : tyOf Try.prog 68 = some ⟨false, 1, [.nilFunc]⟩ := by kernel_rfl
@[go_sem] theorem fact_ty69 : tyOf Try.prog 69 = some ⟨false, 1, [.nilFunc]⟩ := by kernel_rfl
@[go_sem] theorem fact_ty70 : tyOf Try.prog 70 = some ⟨false, 1, [.nilFunc]⟩ := by kernel_rfl
@[go_sem] theorem fact_ty71 : tyOf Try.prog 71 = some ⟨false, 1, [.nilFunc]⟩ := by kernel_rfl
@[go_sem] theorem fact_eq72 : eqT Try.prog 72 = .ptr := by kernel_rfl
@[go_sem] theorem fact_ty72 : tyOf Try.prog 72 = some ⟨false, 1, [.pointer none]⟩ := by kernel_rfl
@[go_sem] theorem fact_ty73 : tyOf Try.prog 73 = some ⟨false, 1, [.nilFunc]⟩ := by kernel_rfl
@[go_sem] theorem fact_ty74 : tyOf Try.prog 74 = some ⟨false, 1, [.nilFunc]⟩ := by kernel_rfl
@[go_sem] theorem fact_ty75 : tyOf Try.prog 75 = some ⟨false, 1, [.nilFunc]⟩ := by kernel_rfl
@[go_sem] theorem fact_ty76 : tyOf Try.prog 76 = some ⟨false, 1, [.nilFunc]⟩ := by kernel_rfl
@[go_sem] theorem fact_ix77 : ixOf Try.prog 77 = some (.arr 20 1) := by kernel_rfl
@[go_sem] theorem fact_bld77 : bldOf Try.prog 77 = some ⟨20, [.bool false, .bool false, .bool false, .bool false, .bool false, .bool false, .bool false, .bool false, .bool false, .bool false, .bool false, .bool false, .bool false, .bool false, .bool false, .bool false, .bool false, .bool false, .bool false, .bool false], [(0, 1), (1, 1), (2, 1), (3, 1), (4, 1), (5, 1), (6, 1), (7, 1), (8, 1), (9, 1), (10, 1), (11, 1), (12, 1), (13, 1), (14, 1), (15, 1), (16, 1), (17, 1), (18, 1), (19, 1)]⟩ := by kernel_rfl
@[go_sem] theorem fact_ty77 : tyOf Try.prog 77 = some ⟨true, 20, [.bool false, .bool false, .bool false, .bool false, .bool false, .bool false, .bool false, .bool false, .bool false, .bool false, .bool false, .bool false, .bool false, .bool false, .bool false, .bool false, .bool false, .bool false, .bool false, .bool false]⟩ := by kernel_rfl
@[go_sem] theorem fact_ix78 : ixOf Try.prog 78 = some (.arr 20 20) := by kernel_rfl
@[go_sem] theorem fact_ty78 : tyOf Try.prog 78 = some ⟨true, 400, List.replicate 400 (.bool false)⟩ := by kernel_rfl
@[go_sem] theorem fact_ix79 : ixOf Try.prog 79 = some (.arr 2 1) := by kernel_rfl
@[go_sem] theorem fact_bld79 : bldOf Try.prog 79 = some ⟨2, [.int .i64 0, .int .i64 0], [(0, 1), (1, 1)]⟩ := by kernel_rfl
@[go_sem] theorem fact_ty79 : tyOf Try.prog 79 = some ⟨true, 2, [.int .i64 0, .int .i64 0]⟩ := by kernel_rfl
@[go_sem] theorem fact_sel80 : selOf Try.prog 80 = some ⟨79, 2, 16, [.int .i64 0, .int .i64 0]⟩ := by kernel_rfl
@[go_sem] theorem fact_ix80 : ixOf Try.prog 80 = some (.sl 2) := by kernel_rfl
@[go_sem] theorem fact_eq80 : eqT Try.prog 80 = .slice := by kernel_rfl
@[go_sem] theorem fact_len80 : lenT Try.prog 80 = .slice := by kernel_rfl
@[go_sem] theorem fact_sl80 : slT Try.prog 80 = .slice 2 := by kernel_rfl
@[go_sem] theorem fact_ty80 : tyOf Try.prog 80 = some ⟨false, 1, [.slice none 0 0]⟩ := by kernel_rfl
@[go_sem] theorem fact_ty81 : tyOf Try.prog 81 = some ⟨false, 1, [.nilFunc]⟩ := by kernel_rfl
@[go_sem] theorem fact_sel82 : selOf Try.prog 82 = some ⟨4, 1, 1, [.bool false]⟩ := by kernel_rfl
@[go_sem] theorem fact_ix82 : ixOf Try.prog 82 = some (.sl 1) := by kernel_rfl
@[go_sem] theorem fact_eq82 : eqT Try.prog 82 = .slice := by kernel_rfl
@[go_sem] theorem fact_len82 : lenT Try.prog 82 = .slice := by kernel_rfl
@[go_sem] theorem fact_sl82 : slT Try.prog 82 = .slice 1 := by kernel_rfl
@[go_sem] theorem fact_ty82 : tyOf Try.prog 82 = some ⟨false, 1, [.slice none 0 0]⟩ := by kernel_rfl
@[go_sem] theorem fact_ty83 : tyOf Try.prog 83 = some ⟨false, 1, [.nilFunc]⟩ := by kernel_rfl
@[go_sem] theorem fact_ty84 : tyOf Try.prog 84 = some ⟨false, 1, [.nilFunc]⟩ := by kernel_rfl
@[go_sem] theorem fact_ty85 : tyOf Try.prog 85 = some ⟨false, 1, [.nilFunc]⟩ := by kernel_rfl
@[go_sem] theorem fact_ty86 : tyOf Try.prog 86 = some ⟨true, 3, [.slice none 0 0, .int .i64 0, .int .u64 0]⟩ := by kernel_rfl
@[go_sem] theorem fact_fld86_0 : fldOf Try.prog 86 0 = some ⟨0, 1, false⟩ := by kernel_rfl
@[go_sem] theorem fact_fld86_1 : fldOf Try.prog 86 1 = some ⟨1, 1, false⟩ := by kernel_rfl
@[go_sem] theorem fact_fld86_2 : fldOf Try.prog 86 2 = some ⟨2, 1, false⟩ := by kernel_rfl
@[go_sem] theorem fact_bld86 : bldOf Try.prog 86 = some ⟨3, [.slice none 0 0, .int .i64 0, .int .u64 0], [(0, 1), (1, 1), (2, 1)]⟩ := by kernel_rfl
@[go_sem] theorem fact_ty87 : tyOf Try.prog 87 = some ⟨true, 3, [.slice none 0 0, .int .i64 0, .int .u64 0]⟩ := by kernel_rfl
@[go_sem] theorem fact_fld87_0 : fldOf Try.prog 87 0 = some ⟨0, 1, false⟩ := by kernel_rfl
@[go_sem] theorem fact_fld87_1 : fldOf Try.prog 87 1 = some ⟨1, 1, false⟩ := by kernel_rfl
@[go_sem] theorem fact_fld87_2 : fldOf Try.prog 87 2 = some ⟨2, 1, false⟩ := by kernel_rfl
@[go_sem] theorem fact_bld87 : bldOf Try.prog 87 = some ⟨3, [.slice none 0 0, .int .i64 0, .int .u64 0], [(0, 1), (1, 1), (2, 1)]⟩ := by kernel_rfl
@[go_sem] theorem fact_isint88 : isIntT Try.prog 88 = true := by kernel_rfl
@[go_sem] theorem fact_ty88 : tyOf Try.prog 88 = some ⟨false, 1, [.int .u64 0]⟩ := by kernel_rfl
@[go_sem] theorem fact_ty89 : tyOf Try.prog 89 = some ⟨false, 1, [.nilFunc]⟩ := by kernel_rfl
@[go_sem] theorem fact_ty90 : tyOf Try.prog 90 = some ⟨false, 1, [.nilFunc]⟩ := by kernel_rfl
@[go_sem] theorem fact_ty91 : tyOf Try.prog 91 = some ⟨false, 1, [.nilFunc]⟩ := by kernel_rfl
@[go_sem] theorem fact_ty92 : tyOf Try.prog 92 = some ⟨false, 1, [.nilFunc]⟩ := by kernel_rfl
@[go_sem] theorem fact_ty93 : tyOf Try.prog 93 = some ⟨false, 1, [.nilFunc]⟩ := by kernel_rfl
@[go_sem] theorem fact_ty94 : tyOf Try.prog 94 = some ⟨false, 1, [.nilFunc]⟩ := by kernel_rfl
@[go_sem] theorem fact_ty95 : tyOf Try.prog 95 = some ⟨false, 1, [.nilFunc]⟩ := by kernel_rfl
@[go_sem] theorem fact_ty96 : tyOf Try.prog 96 = some ⟨false, 1, [.nilFunc]⟩ := by kernel_rfl
@[go_sem] theorem fact_ty97 : tyOf Try.prog 97 = some ⟨false, 1, [.nilFunc]⟩ := by kernel_rfl
@[go_sem] theorem fact_ty98 : tyOf Try.prog 98 = some ⟨false, 1, [.nilFunc]⟩ := by kernel_rfl
@[go_sem] theorem fact_ty99 : tyOf Try.prog 99 = some ⟨false, 1, [.nilFunc]⟩ := by kernel_rfl
@[go_sem] theorem fact_eq100 : eqT Try.prog 100 = .ptr := by kernel_rfl
@[go_sem] theorem fact_ty100 : tyOf Try.prog 100 = some ⟨false, 1, [.pointer none]⟩ := by kernel_rfl
@[go_sem] theorem fact_ty101 : tyOf Try.prog 101 = some ⟨false, 1, [.nilFunc]⟩ := by kernel_rfl
@[go_sem] theorem fact_ty102 : tyOf Try.prog 102 = some ⟨false, 1, [.nilFunc]⟩ := by kernel_rfl
@[go_sem] theorem fact_ty103 : tyOf Try.prog 103 = some ⟨false, 1, [.nilFunc]⟩ := by kernel_rfl
@[go_sem] theorem fact_ty104 : tyOf Try.prog 104 = some ⟨false, 1, [.nilFunc]⟩ := by kernel_rfl
@[go_sem] theorem fact_ty105 : tyOf Try.prog 105 = some ⟨true, 3, [.slice none 0 0, .int .i64 0, .int .i64 0]⟩ := by kernel_rfl
@[go_sem] theorem fact_fld105_0 : fldOf Try.prog 105 0 = some ⟨0, 1, false⟩ := by kernel_rfl
@[go_sem] theorem fact_fld105_1 : fldOf Try.prog 105 1 = some ⟨1, 1, false⟩ := by kernel_rfl
@[go_sem] theorem fact_fld105_2 : fldOf Try.prog 105 2 = some ⟨2, 1, false⟩ := by kernel_rfl
@[go_sem] theorem fact_bld105 : bldOf Try.prog 105 = some ⟨3, [.slice none 0 0, .int .i64 0, .int .i64 0], [(0, 1), (1, 1), (2, 1)]⟩ := by kernel_rfl
@[go_sem] theorem fact_ty106 : tyOf Try.prog 106 = some ⟨true, 3, [.slice none 0 0, .int .i64 0, .int .i64 0]⟩ := by kernel_rfl
@[go_sem] theorem fact_fld106_0 : fldOf Try.prog 106 0 = some ⟨0, 1, false⟩ := by kernel_rfl
@[go_sem] theorem fact_fld106_1 : fldOf Try.prog 106 1 = some ⟨1, 1, false⟩ := by kernel_rfl
@[go_sem] theorem fact_fld106_2 : fldOf Try.prog 106 2 = some ⟨2, 1, false⟩ := by kernel_rfl
@[go_sem] theorem fact_bld106 : bldOf Try.prog 106 = some ⟨3, [.slice none 0 0, .int .i64 0, .int .i64 0], [(0, 1), (1, 1), (2, 1)]⟩ := by kernel_rfl
@[go_sem] theorem fact_ty107 : tyOf Try.prog 107 = some ⟨false, 1, [.nilFunc]⟩ := by kernel_rfl
@[go_sem] theorem fact_ty108 : tyOf Try.prog 108 = some ⟨false, 1, [.nilFunc]⟩ := by kernel_rfl
@[go_sem] theorem fact_ty109 : tyOf Try.prog 109 = some ⟨false, 1, [.nilFunc]⟩ := by kernel_rfl
@[go_sem] theorem fact_ty110 : tyOf Try.prog 110 = some ⟨false, 1, [.nilFunc]⟩ := by kernel_rfl
@[go_sem] theorem fact_ty111 : tyOf Try.prog 111 = some ⟨false, 1, [.nilFunc]⟩ := by kernel_rfl
@[go_sem] theorem fact_ty112 : tyOf Try.prog 112 = some ⟨false, 1, [.nilFunc]⟩ := by kernel_rfl
@[go_sem] theorem fact_ty113 : tyOf Try.prog 113 = some ⟨false, 1, [.nilFunc]⟩ := by kernel_rfl
@[go_sem] theorem fact_ty114 : tyOf Try.prog 114 = some ⟨false, 1, [.nilFunc]⟩ := by kernel_rfl
@[go_sem] theorem fact_ty115 : tyOf Try.prog 115 = some ⟨false, 1, [.nilFunc]⟩ := by kernel_rfl
@[go_sem] theorem fact_ty116 : tyOf Try.prog 116 = some ⟨false, 1, [.nilFunc]⟩ := by kernel_rfl
@[go_sem] theorem fact_ty117 : tyOf Try.prog 117 = some ⟨true, 3, [.int .i64 0, .slice none 0 0, .slice none 0 0]⟩ := by kernel_rfl
@[go_sem] theorem fact_fld117_0 : fldOf Try.prog 117 0 = some ⟨0, 1, false⟩ := by kernel_rfl
@[go_sem] theorem fact_fld117_1 : fldOf Try.prog 117 1 = some ⟨1, 1, false⟩ := by kernel_rfl
@[go_sem] theorem fact_fld117_2 : fldOf Try.prog 117 2 = some ⟨2, 1, false⟩ := by kernel_rfl
@[go_sem] theorem fact_bld117 : bldOf Try.prog 117 = some ⟨3, [.int .i64 0, .slice none 0 0, .slice none 0 0], [(0, 1), (1, 1), (2, 1)]⟩ := by kernel_rfl
@[go_sem] theorem fact_ty118 : tyOf Try.prog 118 = some ⟨true, 3, [.int .i64 0, .slice none 0 0, .slice none 0 0]⟩ := by kernel_rfl
@[go_sem] theorem fact_fld118_0 : fldOf Try.prog 118 0 = some ⟨0, 1, false⟩ := by kernel_rfl
@[go_sem] theorem fact_fld118_1 : fldOf Try.prog 118 1 = some ⟨1, 1, false⟩ := by kernel_rfl
@[go_sem] theorem fact_fld118_2 : fldOf Try.prog 118 2 = some ⟨2, 1, false⟩ := by kernel_rfl
@[go_sem] theorem fact_bld118 : bldOf Try.prog 118 = some ⟨3, [.int .i64 0, .slice none 0 0, .slice none 0 0], [(0, 1), (1, 1), (2, 1)]⟩ := by kernel_rfl
@[go_sem] theorem fact_ty119 : tyOf Try.prog 119 = some ⟨false, 1, [.nilFunc]⟩ := by kernel_rfl
@[go_sem] theorem fact_ty120 : tyOf Try.prog 120 = some ⟨false, 1, [.nilFunc]⟩ := by kernel_rfl
@[go_sem] theorem fact_ty121 : tyOf Try.prog 121 = some ⟨false, 1, [.nilFunc]⟩ := by kernel_rfl
@[go_sem] theorem fact_ty122 : tyOf Try.prog 122 = some ⟨false, 1, [.nilFunc]⟩ := by kernel_rfl
@[go_sem] theorem fact_ty123 : tyOf Try.prog 123 = some ⟨false, 1, [.nilFunc]⟩ := by kernel_rfl
@[go_sem] theorem fact_ty124 : tyOf Try.prog 124 = some ⟨false, 1, [.nilFunc]⟩ := by kernel_rfl
@[go_sem] theorem fact_map125 : mapOf Try.prog 125 = none := by kernel_rfl
@[go_sem] theorem fact_mapi125 : mapOfI Try.prog 125 = some (.int .i64 0) := by kernel_rfl
@[go_sem] theorem fact_ty125 : tyOf Try.prog 125 = some ⟨false, 1, [.map none]⟩ := by kernel_rfl
@[go_sem] theorem fact_ty127 : tyOf Try.prog 127 = some ⟨false, 1, [.nilFunc]⟩ := by kernel_rfl
@[go_sem] theorem fact_ty128 : tyOf Try.prog 128 = some ⟨false, 1, [.nilFunc]⟩ := by kernel_rfl
@[go_sem] theorem fact_ty129 : tyOf Try.prog 129 = some ⟨false, 1, [.nilFunc]⟩ := by kernel_rfl
@[go_sem] theorem fact_ty130 : tyOf Try.prog 130 = some ⟨false, 1, [.nilFunc]⟩ := by kernel_rfl
@[go_sem] theorem fact_ty131 : tyOf Try.prog 131 = some ⟨false, 1, [.nilFunc]⟩ := by kernel_rfl
@[go_sem] theorem fact_ty132 : tyOf Try.prog 132 = some ⟨false, 1, [.nilFunc]⟩ := by kernel_rfl
@[go_sem] theorem fact_ty134 : tyOf Try.prog 134 = some ⟨false, 1, [.nilFunc]⟩ := by kernel_rfl
@[go_sem] theorem fact_ty135 : tyOf Try.prog 135 = some ⟨false, 1, [.nilFunc]⟩ := by kernel_rfl
@[go_sem] theorem fact_ty136 : tyOf Try.prog 136 = some ⟨false, 1, [.nilFunc]⟩ := by kernel_rfl
@[go_sem] theorem fact_ty137 : tyOf Try.prog 137 = some ⟨false, 1, [.nilFunc]⟩ := by kernel_rfl
@[go_sem] theorem fact_ty138 : tyOf Try.prog 138 = some ⟨false, 1, [.nilFunc]⟩ := by kernel_rfl
@[go_sem] theorem fact_ty139 : tyOf Try.prog 139 = some ⟨false, 1, [.nilFunc]⟩ := by kernel_rfl
@[go_sem] theorem fact_ty140 : tyOf Try.prog 140 = some ⟨false, 1, [.nilFunc]⟩ := by kernel_rfl
@[go_sem] theorem fact_ty141 : tyOf Try.prog 141 = some ⟨false, 1, [.nilFunc]⟩ := by kernel_rfl
@[go_sem] theorem fact_ty142 : tyOf Try.prog 142 = some ⟨false, 1, [.nilFunc]⟩ := by kernel_rfl
@[go_sem] theorem fact_ty143 : tyOf Try.prog 143 = some ⟨false, 1, [.nilFunc]⟩ := by kernel_rfl
@[go_sem] theorem fact_ty145 : tyOf Try.prog 145 = some ⟨false, 1, [.nilFunc]⟩ := by kernel_rfl
@[go_sem] theorem fact_ty146 : tyOf Try.prog 146 = some ⟨false, 1, [.nilFunc]⟩ := by kernel_rfl
@[go_sem] theorem fact_ty147 : tyOf Try.prog 147 = some ⟨true, 3, [.int .i64 0, .slice none 0 0, .slice none 0 0]⟩ := by kernel_rfl
@[go_sem] theorem fact_fld147_0 : fldOf Try.prog 147 0 = some ⟨0, 1, false⟩ := by kernel_rfl
@[go_sem] theorem fact_fld147_1 : fldOf Try.prog 147 1 = some ⟨1, 1, false⟩ := by kernel_rfl
@[go_sem] theorem fact_fld147_2 : fldOf Try.prog 147 2 = some ⟨2, 1, false⟩ := by kernel_rfl
@[go_sem] theorem fact_bld147 : bldOf Try.prog 147 = some ⟨3, [.int .i64 0, .slice none 0 0, .slice none 0 0], [(0, 1), (1, 1), (2, 1)]⟩ := by kernel_rfl
@[go_sem] theorem fact_ty148 : tyOf Try.prog 148 = some ⟨true, 3, [.int .i64 0, .slice none 0 0, .slice none 0 0]⟩ := by kernel_rfl
@[go_sem] theorem fact_fld148_0 : fldOf Try.prog 148 0 = some ⟨0, 1, false⟩ := by kernel_rfl
@[go_sem] theorem fact_fld148_1 : fldOf Try.prog 148 1 = some ⟨1, 1, false⟩ := by kernel_rfl
@[go_sem] theorem fact_fld148_2 : fldOf Try.prog 148 2 = some ⟨2, 1, false⟩ := by kernel_rfl
@[go_sem] theorem fact_bld148 : bldOf Try.prog 148 = some ⟨3, [.int .i64 0, .slice none 0 0, .slice none 0 0], [(0, 1), (1, 1), (2, 1)]⟩ := by kernel_rfl
@[go_sem] theorem fact_ty149 : tyOf Try.prog 149 = some ⟨false, 1, [.nilFunc]⟩ := by kernel_rfl
@[go_sem] theorem fact_ty151 : tyOf Try.prog 151 = some ⟨false, 1, [.nilFunc]⟩ := by kernel_rfl
@[go_sem] theorem fact_ty152 : tyOf Try.prog 152 = some ⟨false, 1, [.nilFunc]⟩ := by kernel_rfl
@[go_sem] theorem fact_ty153 : tyOf Try.prog 153 = some ⟨false, 1, [.nilFunc]⟩ := by kernel_rfl
@[go_sem] theorem fact_ty154 : tyOf Try.prog 154 = some ⟨false, 1, [.nilFunc]⟩ := by kernel_rfl
@[go_sem] theorem fact_ty155 : tyOf Try.prog 155 = some ⟨false, 1, [.nilFunc]⟩ := by kernel_rfl
@[go_sem] theorem fact_ty156 : tyOf Try.prog 156 = some ⟨false, 1, [.nilFunc]⟩ := by kernel_rfl
@[go_sem] theorem fact_isint157 : isIntT Try.prog 157 = true := by kernel_rfl
@[go_sem] theorem fact_ty157 : tyOf Try.prog 157 = some ⟨false, 1, [.int .u32 0]⟩ := by kernel_rfl
@[go_sem] theorem fact_ty159 : tyOf Try.prog 159 = some ⟨false, 1, [.nilFunc]⟩ := by kernel_rfl
@[go_sem] theorem fact_ty161 : tyOf Try.prog 161 = some ⟨false, 1, [.nilFunc]⟩ := by kernel_rfl
@[go_sem] theorem fact_ty162 : tyOf Try.prog 162 = some ⟨false, 1, [.nilFunc]⟩ := by kernel_rfl
@[go_sem] theorem fact_isint163 : isIntT Try.prog 163 = true := by kernel_rfl
@[go_sem] theorem fact_ty163 : tyOf Try.prog 163 = some ⟨false, 1, [.int .i64 0]⟩ := by kernel_rfl
@[go_sem] theorem fact_ty165 : tyOf Try.prog 165 = some ⟨false, 1, [.nilFunc]⟩ := by kernel_rfl
@[go_sem] theorem fact_ty166 : tyOf Try.prog 166 = some ⟨false, 1, [.nilFunc]⟩ := by kernel_rfl
@[go_sem] theorem fact_ty167 : tyOf Try.prog 167 = some ⟨false, 1, [.nilFunc]⟩ := by kernel_rfl
@[go_sem] theorem fact_ty168 : tyOf Try.prog 168 = some ⟨false, 1, [.nilFunc]⟩ := by kernel_rfl
@[go_sem] theorem fact_ty169 : tyOf Try.prog 169 = some ⟨false, 1, [.nilFunc]⟩ := by kernel_rfl
@[go_sem] theorem fact_ty170 : tyOf Try.prog 170 = some ⟨false, 1, [.nilFunc]⟩ := by kernel_rfl
@[go_sem] theorem fact_sel171 : selOf Try.prog 171 = some ⟨9, 1, 16, [.string ⟨#[]⟩]⟩ := by kernel_rfl
@[go_sem] theorem fact_ix171 : ixOf Try.prog 171 = some (.sl 1) := by kernel_rfl
@[go_sem] theorem fact_eq171 : eqT Try.prog 171 = .slice := by kernel_rfl
@[go_sem] theorem fact_len171 : lenT Try.prog 171 = .slice := by kernel_rfl
@[go_sem] theorem fact_sl171 : slT Try.prog 171 = .slice 1 := by kernel_rfl
@[go_sem] theorem fact_ty171 : tyOf Try.prog 171 = some ⟨false, 1, [.slice none 0 0]⟩ := by kernel_rfl
@[go_sem] theorem fact_ty172 : tyOf Try.prog 172 = some ⟨false, 1, [.nilFunc]⟩ := by kernel_rfl
@[go_sem] theorem fact_isint173 : isIntT Try.prog 173 = true := by kernel_rfl
@[go_sem] theorem fact_ty173 : tyOf Try.prog 173 = some ⟨false, 1, [.int .u64 0]⟩ := by kernel_rfl
@[go_sem] theorem fact_ty174 : tyOf Try.prog 174 = some ⟨false, 1, [.nilFunc]⟩ := by kernel_rfl
@[go_sem] theorem fact_ty175 : tyOf Try.prog 175 = some ⟨false, 1, [.nilFunc]⟩ := by kernel_rfl
@[go_sem] theorem fact_ty176 : tyOf Try.prog 176 = some ⟨false, 1, [.nilFunc]⟩ := by kernel_rfl
@[go_sem] theorem fact_eq177 : eqT Try.prog 177 = .ptr := by kernel_rfl
@[go_sem] theorem fact_ty177 : tyOf Try.prog 177 = some ⟨false, 1, [.pointer none]⟩ := by kernel_rfl
@[go_sem] theorem fact_ty178 : tyOf Try.prog 178 = some ⟨false, 1, [.nilFunc]⟩ := by kernel_rfl
@[go_sem] theorem fact_ty179 : tyOf Try.prog 179 = some ⟨false, 1, [.nilFunc]⟩ := by kernel_rfl
@[go_sem] theorem fact_ty180 : tyOf Try.prog 180 = some ⟨false, 1, [.nilFunc]⟩ := by kernel_rfl
@[go_sem] theorem fact_ty181 : tyOf Try.prog 181 = some ⟨false, 1, [.nilFunc]⟩ := by kernel_rfl
@[go_sem] theorem fact_eq182 : eqT Try.prog 182 = .ptr := by kernel_rfl
@[go_sem] theorem fact_ty182 : tyOf Try.prog 182 = some ⟨false, 1, [.pointer none]⟩ := by kernel_rfl
@[go_sem] theorem fact_ty184 : tyOf Try.prog 184 = some ⟨false, 1, [.nilFunc]⟩ := by kernel_rfl
@[go_sem] theorem fact_ty186 : tyOf Try.prog 186 = some ⟨false, 1, [.nilFunc]⟩ := by kernel_rfl
@[go_sem] theorem fact_ty187 : tyOf Try.prog 187 = some ⟨false, 1, [.nilFunc]⟩ := by kernel_rfl
@[go_sem] theorem fact_ty188 : tyOf Try.prog 188 = some ⟨false, 1, [.nilFunc]⟩ := by kernel_rfl
@[go_sem] theorem fact_ty189 : tyOf Try.prog 189 = some ⟨false, 1, [.nilFunc]⟩ := by kernel_rfl
@[go_sem] theorem fact_ty190 : tyOf Try.prog 190 = some ⟨true, 4, [.pointer none, .pointer none, .pointer none, .string ⟨#[]⟩]⟩ := by kernel_rfl
@[go_sem] theorem fact_fld190_0 : fldOf Try.prog 190 0 = some ⟨0, 1, false⟩ := by kernel_rfl
@[go_sem] theorem fact_fld190_1 : fldOf Try.prog 190 1 = some ⟨1, 1, false⟩ := by kernel_rfl
@[go_sem] theorem fact_fld190_2 : fldOf Try.prog 190 2 = some ⟨2, 1, false⟩ := by kernel_rfl
@[go_sem] theorem fact_fld190_3 : fldOf Try.prog 190 3 = some ⟨3, 1, false⟩ := by kernel_rfl
@[go_sem] theorem fact_bld190 : bldOf Try.prog 190 = some ⟨4, [.pointer none, .pointer none, .pointer none, .string ⟨#[]⟩], [(0, 1), (1, 1), (2, 1), (3, 1)]⟩ := by kernel_rfl
@[go_sem] theorem fact_ty191 : tyOf Try.prog 191 = some ⟨true, 4, [.pointer none, .pointer none, .pointer none, .string ⟨#[]⟩]⟩ := by kernel_rfl
@[go_sem] theorem fact_fld191_0 : fldOf Try.prog 191 0 = some ⟨0, 1, false⟩ := by kernel_rfl
@[go_sem] theorem fact_fld191_1 : fldOf Try.prog 191 1 = some ⟨1, 1, false⟩ := by kernel_rfl
@[go_sem] theorem fact_fld191_2 : fldOf Try.prog 191 2 = some ⟨2, 1, false⟩ := by kernel_rfl
@[go_sem] theorem fact_fld191_3 : fldOf Try.prog 191 3 = some ⟨3, 1, false⟩ := by kernel_rfl
@[go_sem] theorem fact_bld191 : bldOf Try.prog 191 = some ⟨4, [.pointer none, .pointer none, .pointer none, .string ⟨#[]⟩], [(0, 1), (1, 1), (2, 1), (3, 1)]⟩ := by kernel_rfl
@[go_sem] theorem fact_ix192 : ixOf Try.prog 192 = some (.arr 0 1) := by kernel_rfl
@[go_sem] theorem fact_ty192 : tyOf Try.prog 192 = some ⟨true, 0, []⟩ := by kernel_rfl
@[go_sem] theorem fact_ty193 : tyOf Try.prog 193 = some ⟨true, 0, []⟩ := by kernel_rfl
@[go_sem] theorem fact_ty194 : tyOf Try.prog 194 = some ⟨true, 0, []⟩ := by kernel_rfl
@[go_sem] theorem fact_ty195 : tyOf Try.prog 195 = some ⟨false, 1, [.nilFunc]⟩ := by kernel_rfl
@[go_sem] theorem fact_isint196 : isIntT Try.prog 196 = true := by kernel_rfl
@[go_sem] theorem fact_ty196 : tyOf Try.prog 196 = some ⟨false, 1, [.int .u8 0]⟩ := by kernel_rfl
@[go_sem] theorem fact_isint197 : isIntT Try.prog 197 = true := by kernel_rfl
@[go_sem] theorem fact_ty197 : tyOf Try.prog 197 = some ⟨false, 1, [.int .u8 0]⟩ := by kernel_rfl
@[go_sem] theorem fact_ty198 : tyOf Try.prog 198 = some ⟨false, 1, [.nilFunc]⟩ := by kernel_rfl
@[go_sem] theorem fact_eq199 : eqT Try.prog 199 = .ptr := by kernel_rfl
@[go_sem] theorem fact_ty199 : tyOf Try.prog 199 = some ⟨false, 1, [.pointer none]⟩ := by kernel_rfl
@[go_sem] theorem fact_isint200 : isIntT Try.prog 200 = true := by kernel_rfl
@[go_sem] theorem fact_ty200 : tyOf Try.prog 200 = some ⟨false, 1, [.int .i32 0]⟩ := by kernel_rfl
@[go_sem] theorem fact_isint201 : isIntT Try.prog 201 = true := by kernel_rfl
@[go_sem] theorem fact_ty201 : tyOf Try.prog 201 = some ⟨false, 1, [.int .i32 0]⟩ := by kernel_rfl
@[go_sem] theorem fact_ty202 : tyOf Try.prog 202 = some ⟨true, 11, [.int .u64 0, .int .u64 0, .int .u32 0, .int .u8 0, .int .u8 0, .int .u8 0, .int .u8 0, .nilFunc, .pointer none, .int .i32 0, .int .i32 0]⟩ := by kernel_rfl
@[go_sem] theorem fact_fld202_0 : fldOf Try.prog 202 0 = some ⟨0, 1, false⟩ := by kernel_rfl
@[go_sem] theorem fact_fld202_1 : fldOf Try.prog 202 1 = some ⟨1, 1, false⟩ := by kernel_rfl
@[go_sem] theorem fact_fld202_2 : fldOf Try.prog 202 2 = some ⟨2, 1, false⟩ := by kernel_rfl
@[go_sem] theorem fact_fld202_3 : fldOf Try.prog 202 3 = some ⟨3, 1, false⟩ := by kernel_rfl
@[go_sem] theorem fact_fld202_4 : fldOf Try.prog 202 4 = some ⟨4, 1, false⟩ := by kernel_rfl
@[go_sem] theorem fact_fld202_5 : fldOf Try.prog 202 5 = some ⟨5, 1, false⟩ := by kernel_rfl
@[go_sem] theorem fact_fld202_6 : fldOf Try.prog 202 6 = some ⟨6, 1, false⟩ := by kernel_rfl
@[go_sem] theorem fact_fld202_7 : fldOf Try.prog 202 7 = some ⟨7, 1, false⟩ := by kernel_rfl
@[go_sem] theorem fact_fld202_8 : fldOf Try.prog 202 8 = some ⟨8, 1, false⟩ := by kernel_rfl
@[go_sem] theorem fact_fld202_9 : fldOf Try.prog 202 9 = some ⟨9, 1, false⟩ := by kernel_rfl
@[go_sem] theorem fact_fld202_10 : fldOf Try.prog 202 10 = some ⟨10, 1, false⟩ := by kernel_rfl
@[go_sem] theorem fact_bld202 : bldOf Try.prog 202 = some ⟨11, [.int .u64 0, .int .u64 0, .int .u32 0, .int .u8 0, .int .u8 0, .int .u8 0, .int .u8 0, .nilFunc, .pointer none, .int .i32 0, .int .i32 0], [(0, 1), (1, 1), (2, 1), (3, 1), (4, 1), (5, 1), (6, 1), (7, 1), (8, 1), (9, 1), (10, 1)]⟩ := by kernel_rfl
@[go_sem] theorem fact_ty203 : tyOf Try.prog 203 = some ⟨true, 11, [.int .u64 0, .int .u64 0, .int .u32 0, .int .u8 0, .int .u8 0, .int .u8 0, .int .u8 0, .nilFunc, .pointer none, .int .i32 0, .int .i32 0]⟩ := by kernel_rfl
@[go_sem] theorem fact_fld203_0 : fldOf Try.prog 203 0 = some ⟨0, 1, false⟩ := by kernel_rfl
@[go_sem] theorem fact_fld203_1 : fldOf Try.prog 203 1 = some ⟨1, 1, false⟩ := by kernel_rfl
@[go_sem] theorem fact_fld203_2 : fldOf Try.prog 203 2 = some ⟨2, 1, false⟩ := by kernel_rfl
@[go_sem] theorem fact_fld203_3 : fldOf Try.prog 203 3 = some ⟨3, 1, false⟩ := by kernel_rfl
@[go_sem] theorem fact_fld203_4 : fldOf Try.prog 203 4 = some ⟨4, 1, false⟩ := by kernel_rfl
@[go_sem] theorem fact_fld203_5 : fldOf Try.prog 203 5 = some ⟨5, 1, false⟩ := by kernel_rfl
@[go_sem] theorem fact_fld203_6 : fldOf Try.prog 203 6 = some ⟨6, 1, false⟩ := by kernel_rfl
@[go_sem] theorem fact_fld203_7 : fldOf Try.prog 203 7 = some ⟨7, 1, false⟩ := by kernel_rfl
@[go_sem] theorem fact_fld203_8 : fldOf Try.prog 203 8 = some ⟨8, 1, false⟩ := by kernel_rfl
@[go_sem] theorem fact_fld203_9 : fldOf Try.prog 203 9 = some ⟨9, 1, false⟩ := by kernel_rfl
@[go_sem] theorem fact_fld203_10 : fldOf Try.prog 203 10 = some ⟨10, 1, false⟩ := by kernel_rfl
@[go_sem] theorem fact_bld203 : bldOf Try.prog 203 = some ⟨11, [.int .u64 0, .int .u64 0, .int .u32 0, .int .u8 0, .int .u8 0, .int .u8 0, .int .u8 0, .nilFunc, .pointer none, .int .i32 0, .int .i32 0], [(0, 1), (1, 1), (2, 1), (3, 1), (4, 1), (5, 1), (6, 1), (7, 1), (8, 1), (9, 1), (10, 1)]⟩ := by kernel_rfl
@[go_sem] theorem fact_ty204 : tyOf Try.prog 204 = some ⟨false, 1, [.pointer none]⟩ := by kernel_rfl
@[go_sem] theorem fact_cv2_2 : cvT Try.prog 2 2 = .int .i64 := by kernel_rfl
@[go_sem] theorem fact_cv2_3 : cvT Try.prog 2 3 = .int .i64 := by kernel_rfl
@[go_sem] theorem fact_cv2_5 : cvT Try.prog 2 5 = .int .u8 := by kernel_rfl
@[go_sem] theorem fact_cv2_12 : cvT Try.prog 2 12 = .int .u64 := by kernel_rfl
@[go_sem] theorem fact_cv2_21 : cvT Try.prog 2 21 = .int .i32 := by kernel_rfl
@[go_sem] theorem fact_cv2_48 : cvT Try.prog 2 48 = .int .u64 := by kernel_rfl
@[go_sem] theorem fact_cv2_88 : cvT Try.prog 2 88 = .int .u64 := by kernel_rfl
@[go_sem] theorem fact_cv2_157 : cvT Try.prog 2 157 = .int .u32 := by kernel_rfl
@[go_sem] theorem fact_cv3_2 : cvT Try.prog 3 2 = .int .i64 := by kernel_rfl
@[go_sem] theorem fact_cv3_3 : cvT Try.prog 3 3 = .int .i64 := by kernel_rfl
@[go_sem] theorem fact_cv3_5 : cvT Try.prog 3 5 = .int .u8 := by kernel_rfl
@[go_sem] theorem fact_cv3_12 : cvT Try.prog 3 12 = .int .u64 := by kernel_rfl
@[go_sem] theorem fact_cv3_21 : cvT Try.prog 3 21 = .int .i32 := by kernel_rfl
@[go_sem] theorem fact_cv3_48 : cvT Try.prog 3 48 = .int .u64 := by kernel_rfl
@[go_sem] theorem fact_cv3_88 : cvT Try.prog 3 88 = .int .u64 := by kernel_rfl
@[go_sem] theorem fact_cv3_157 : cvT Try.prog 3 157 = .int .u32 := by kernel_rfl
@[go_sem] theorem fact_cv5_2 : cvT Try.prog 5 2 = .int .i64 := by kernel_rfl
@[go_sem] theorem fact_cv5_3 : cvT Try.prog 5 3 = .int .i64 := by kernel_rfl
@[go_sem] theorem fact_cv5_5 : cvT Try.prog 5 5 = .int .u8 := by kernel_rfl
@[go_sem] theorem fact_cv5_12 : cvT Try.prog 5 12 = .int .u64 := by kernel_rfl
@[go_sem] theorem fact_cv5_21 : cvT Try.prog 5 21 = .int .i32 := by kernel_rfl
@[go_sem] theorem fact_cv5_48 : cvT Try.prog 5 48 = .int .u64 := by kernel_rfl
@[go_sem] theorem fact_cv5_88 : cvT Try.prog 5 88 = .int .u64 := by kernel_rfl
@[go_sem] theorem fact_cv5_157 : cvT Try.prog 5 157 = .int .u32 := by kernel_rfl
@[go_sem] theorem fact_cv12_2 : cvT Try.prog 12 2 = .int .i64 := by kernel_rfl
@[go_sem] theorem fact_cv12_3 : cvT Try.prog 12 3 = .int .i64 := by kernel_rfl
@[go_sem] theorem fact_cv12_5 : cvT Try.prog 12 5 = .int .u8 := by kernel_rfl
@[go_sem] theorem fact_cv12_12 : cvT Try.prog 12 12 = .int .u64 := by kernel_rfl
@[go_sem] theorem fact_cv12_21 : cvT Try.prog 12 21 = .int .i32 := by kernel_rfl
@[go_sem] theorem fact_cv12_48 : cvT Try.prog 12 48 = .int .u64 := by kernel_rfl
@[go_sem] theorem fact_cv12_88 : cvT Try.prog 12 88 = .int .u64 := by kernel_rfl
@[go_sem] theorem fact_cv12_157 : cvT Try.prog 12 157 = .int .u32 := by kernel_rfl
@[go_sem] theorem fact_cv21_2 : cvT Try.prog 21 2 = .int .i64 := by kernel_rfl
@[go_sem] theorem fact_cv21_3 : cvT Try.prog 21 3 = .int .i64 := by kernel_rfl
@[go_sem] theorem fact_cv21_5 : cvT Try.prog 21 5 = .int .u8 := by kernel_rfl
@[go_sem] theorem fact_cv21_12 : cvT Try.prog 21 12 = .int .u64 := by kernel_rfl
@[go_sem] theorem fact_cv21_21 : cvT Try.prog 21 21 = .int .i32 := by kernel_rfl
@[go_sem] theorem fact_cv21_48 : cvT Try.prog 21 48 = .int .u64 := by kernel_rfl
@[go_sem] theorem fact_cv21_88 : cvT Try.prog 21 88 = .int .u64 := by kernel_rfl
@[go_sem] theorem fact_cv21_157 : cvT Try.prog 21 157 = .int .u32 := by kernel_rfl
@[go_sem] theorem fact_cv48_2 : cvT Try.prog 48 2 = .int .i64 := by kernel_rfl
@[go_sem] theorem fact_cv48_3 : cvT Try.prog 48 3 = .int .i64 := by kernel_rfl
@[go_sem] theorem fact_cv48_5 : cvT Try.prog 48 5 = .int .u8 := by kernel_rfl
@[go_sem] theorem fact_cv48_12 : cvT Try.prog 48 12 = .int .u64 := by kernel_rfl
@[go_sem] theorem fact_cv48_21 : cvT Try.prog 48 21 = .int .i32 := by kernel_rfl
@[go_sem] theorem fact_cv48_48 : cvT Try.prog 48 48 = .int .u64 := by kernel_rfl
@[go_sem] theorem fact_cv48_88 : cvT Try.prog 48 88 = .int .u64 := by kernel_rfl
@[go_sem] theorem fact_cv48_157 : cvT Try.prog 48 157 = .int .u32 := by kernel_rfl
@[go_sem] theorem fact_cv88_2 : cvT Try.prog 88 2 = .int .i64 := by kernel_rfl
@[go_sem] theorem fact_cv88_3 : cvT Try.prog 88 3 = .int .i64 := by kernel_rfl
@[go_sem] theorem fact_cv88_5 : cvT Try.prog 88 5 = .int .u8 := by kernel_rfl
@[go_sem] theorem fact_cv88_12 : cvT Try.prog 88 12 = .int .u64 := by kernel_rfl
@[go_sem] theorem fact_cv88_21 : cvT Try.prog 88 21 = .int .i32 := by kernel_rfl
@[go_sem] theorem fact_cv88_48 : cvT Try.prog 88 48 = .int .u64 := by kernel_rfl
@[go_sem] theorem fact_cv88_88 : cvT Try.prog 88 88 = .int .u64 := by kernel_rfl
@[go_sem] theorem fact_cv88_157 : cvT Try.prog 88 157 = .int .u32 := by kernel_rfl
@[go_sem] theorem fact_cv157_2 : cvT Try.prog 157 2 = .int .i64 := by kernel_rfl
@[go_sem] theorem fact_cv157_3 : cvT Try.prog 157 3 = .int .i64 := by kernel_rfl
@[go_sem] theorem fact_cv157_5 : cvT Try.prog 157 5 = .int .u8 := by kernel_rfl
@[go_sem] theorem fact_cv157_12 : cvT Try.prog 157 12 = .int .u64 := by kernel_rfl
@[go_sem] theorem fact_cv157_21 : cvT Try.prog 157 21 = .int .i32 := by kernel_rfl
@[go_sem] theorem fact_cv157_48 : cvT Try.prog 157 48 = .int .u64 := by kernel_rfl
@[go_sem] theorem fact_cv157_88 : cvT Try.prog 157 88 = .int .u64 := by kernel_rfl
@[go_sem] theorem fact_cv157_157 : cvT Try.prog 157 157 = .int .u32 := by kernel_rfl
@[go_sem] theorem fact_cv9_9 : cvT Try.prog 9 9 = .same := by kernel_rfl
@[go_sem] theorem fact_cv9_10 : cvT Try.prog 9 10 = .same := by kernel_rfl
@[go_sem] theorem fact_cv9_11 : cvT Try.prog 9 11 = .same := by kernel_rfl
@[go_sem] theorem fact_cv9_22 : cvT Try.prog 9 22 = .bytes 5 := by kernel_rfl
@[go_sem] theorem fact_cv22_9 : cvT Try.prog 22 9 = .str := by kernel_rfl
@[go_sem] theorem fact_cv10_9 : cvT Try.prog 10 9 = .same := by kernel_rfl
@[go_sem] theorem fact_cv10_10 : cvT Try.prog 10 10 = .same := by kernel_rfl
@[go_sem] theorem fact_cv10_11 : cvT Try.prog 10 11 = .same := by kernel_rfl
@[go_sem] theorem fact_cv10_22 : cvT Try.prog 10 22 = .bytes 5 := by kernel_rfl
@[go_sem] theorem fact_cv22_10 : cvT Try.prog 22 10 = .str := by kernel_rfl
@[go_sem] theorem fact_cv11_9 : cvT Try.prog 11 9 = .same := by kernel_rfl
@[go_sem] theorem fact_cv11_10 : cvT Try.prog 11 10 = .same := by kernel_rfl
@[go_sem] theorem fact_cv11_11 : cvT Try.prog 11 11 = .same := by kernel_rfl
@[go_sem] theorem fact_cv11_22 : cvT Try.prog 11 22 = .bytes 5 := by kernel_rfl
@[go_sem] theorem fact_cv22_11 : cvT Try.prog 22 11 = .str := by kernel_rfl

end Go.Proofs.Ytngpacdhpblpbaa
end
