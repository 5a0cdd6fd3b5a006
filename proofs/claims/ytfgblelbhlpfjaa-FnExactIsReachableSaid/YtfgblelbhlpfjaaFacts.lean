/- The facts on types that the walk over abstract values wants, in this seat's numbers. Written by facts.py. -/
import Derived.Test.YtfgblelbhlpfjaaRows
import Derived.Test.YtfgblelbhlpfjaaAv22
import Derived.KernelRfl
namespace Go.Proofs.Ytfgblelbhlpfjaa
open Go.Av

@[go_sem] theorem fact_ty1 : tyOf Try.prog 1 = some ⟨false, 1, [.nilFunc]⟩ := by kernel_rfl
@[go_sem] theorem fact_isint2 : isIntT Try.prog 2 = true := by kernel_rfl
@[go_sem] theorem fact_ty2 : tyOf Try.prog 2 = some ⟨false, 1, [.int .i64 0]⟩ := by kernel_rfl
@[go_sem] theorem fact_isint3 : isIntT Try.prog 3 = true := by kernel_rfl
@[go_sem] theorem fact_ty3 : tyOf Try.prog 3 = some ⟨false, 1, [.int .i64 0]⟩ := by kernel_rfl
@[go_sem] theorem fact_eq4 : eqT Try.prog 4 = .bool := by kernel_rfl
@[go_sem] theorem fact_ty4 : tyOf Try.prog 4 = some ⟨false, 1, [.bool false]⟩ := by kernel_rfl
@[go_sem] theorem fact_isint5 : isIntT Try.prog 5 = true := by kernel_rfl
@[go_sem] theorem fact_ty5 : tyOf Try.prog 5 = some ⟨false, 1, [.int .u8 0]⟩ := by kernel_rfl
@[go_sem] theorem fact_isint6 : isIntT Try.prog 6 = true := by kernel_rfl
@[go_sem] theorem fact_ty6 : tyOf Try.prog 6 = some ⟨false, 1, [.int .u8 0]⟩ := by kernel_rfl
@[go_sem] theorem fact_ty7 : tyOf Try.prog 7 = some ⟨true, 4, [.int .i64 0, .int .i64 0, .bool false, .int .u8 0]⟩ := by kernel_rfl
@[go_sem] theorem fact_fld7_0 : fldOf Try.prog 7 0 = some ⟨0, 1, false⟩ := by kernel_rfl
@[go_sem] theorem fact_fld7_1 : fldOf Try.prog 7 1 = some ⟨1, 1, false⟩ := by kernel_rfl
@[go_sem] theorem fact_fld7_2 : fldOf Try.prog 7 2 = some ⟨2, 1, false⟩ := by kernel_rfl
@[go_sem] theorem fact_fld7_3 : fldOf Try.prog 7 3 = some ⟨3, 1, false⟩ := by kernel_rfl
@[go_sem] theorem fact_bld7 : bldOf Try.prog 7 = some ⟨4, [.int .i64 0, .int .i64 0, .bool false, .int .u8 0], [(0, 1), (1, 1), (2, 1), (3, 1)]⟩ := by kernel_rfl
@[go_sem] theorem fact_ty8 : tyOf Try.prog 8 = some ⟨true, 4, [.int .i64 0, .int .i64 0, .bool false, .int .u8 0]⟩ := by kernel_rfl
@[go_sem] theorem fact_fld8_0 : fldOf Try.prog 8 0 = some ⟨0, 1, false⟩ := by kernel_rfl
@[go_sem] theorem fact_fld8_1 : fldOf Try.prog 8 1 = some ⟨1, 1, false⟩ := by kernel_rfl
@[go_sem] theorem fact_fld8_2 : fldOf Try.prog 8 2 = some ⟨2, 1, false⟩ := by kernel_rfl
@[go_sem] theorem fact_fld8_3 : fldOf Try.prog 8 3 = some ⟨3, 1, false⟩ := by kernel_rfl
@[go_sem] theorem fact_bld8 : bldOf Try.prog 8 = some ⟨4, [.int .i64 0, .int .i64 0, .bool false, .int .u8 0], [(0, 1), (1, 1), (2, 1), (3, 1)]⟩ := by kernel_rfl
@[go_sem] theorem fact_len9 : lenT Try.prog 9 = .str := by kernel_rfl
@[go_sem] theorem fact_st9 : isStr Try.prog 9 = true := by kernel_rfl
@[go_sem] theorem fact_sl9 : slT Try.prog 9 = .str := by kernel_rfl
@[go_sem] theorem fact_ty9 : tyOf Try.prog 9 = some ⟨false, 1, [.string ⟨#[]⟩]⟩ := by kernel_rfl
@[go_sem] theorem fact_len10 : lenT Try.prog 10 = .str := by kernel_rfl
@[go_sem] theorem fact_st10 : isStr Try.prog 10 = true := by kernel_rfl
@[go_sem] theorem fact_sl10 : slT Try.prog 10 = .str := by kernel_rfl
@[go_sem] theorem fact_ty10 : tyOf Try.prog 10 = some ⟨false, 1, [.string ⟨#[]⟩]⟩ := by kernel_rfl
@[go_sem] theorem fact_len11 : lenT Try.prog 11 = .str := by kernel_rfl
@[go_sem] theorem fact_st11 : isStr Try.prog 11 = true := by kernel_rfl
@[go_sem] theorem fact_sl11 : slT Try.prog 11 = .str := by kernel_rfl
@[go_sem] theorem fact_ty11 : tyOf Try.prog 11 = some ⟨false, 1, [.string ⟨#[]⟩]⟩ := by kernel_rfl
@[go_sem] theorem fact_isint12 : isIntT Try.prog 12 = true := by kernel_rfl
@[go_sem] theorem fact_ty12 : tyOf Try.prog 12 = some ⟨false, 1, [.int .u64 0]⟩ := by kernel_rfl
@[go_sem] theorem fact_ty13 : tyOf Try.prog 13 = some ⟨true, 2, [.string ⟨#[]⟩, .int .u64 0]⟩ := by kernel_rfl
@[go_sem] theorem fact_fld13_0 : fldOf Try.prog 13 0 = some ⟨0, 1, false⟩ := by kernel_rfl
@[go_sem] theorem fact_fld13_1 : fldOf Try.prog 13 1 = some ⟨1, 1, false⟩ := by kernel_rfl
@[go_sem] theorem fact_bld13 : bldOf Try.prog 13 = some ⟨2, [.string ⟨#[]⟩, .int .u64 0], [(0, 1), (1, 1)]⟩ := by kernel_rfl
@[go_sem] theorem fact_ty14 : tyOf Try.prog 14 = some ⟨true, 2, [.string ⟨#[]⟩, .int .u64 0]⟩ := by kernel_rfl
@[go_sem] theorem fact_fld14_0 : fldOf Try.prog 14 0 = some ⟨0, 1, false⟩ := by kernel_rfl
@[go_sem] theorem fact_fld14_1 : fldOf Try.prog 14 1 = some ⟨1, 1, false⟩ := by kernel_rfl
@[go_sem] theorem fact_bld14 : bldOf Try.prog 14 = some ⟨2, [.string ⟨#[]⟩, .int .u64 0], [(0, 1), (1, 1)]⟩ := by kernel_rfl
@[go_sem] theorem fact_eq15 : eqT Try.prog 15 = .ptr := by kernel_rfl
@[go_sem] theorem fact_ty15 : tyOf Try.prog 15 = some ⟨false, 1, [.pointer none]⟩ := by kernel_rfl
@[go_sem] theorem fact_eq16 : eqT Try.prog 16 = .ptr := by kernel_rfl
@[go_sem] theorem fact_ty16 : tyOf Try.prog 16 = some ⟨false, 1, [.pointer none]⟩ := by kernel_rfl
@[go_sem] theorem fact_eq17 : eqT Try.prog 17 = .ptr := by kernel_rfl
@[go_sem] theorem fact_ty17 : tyOf Try.prog 17 = some ⟨false, 1, [.pointer none]⟩ := by kernel_rfl
@[go_sem] theorem fact_ty18 : tyOf Try.prog 18 = some ⟨true, 1, [.pointer none]⟩ := by kernel_rfl
@[go_sem] theorem fact_fld18_0 : fldOf Try.prog 18 0 = some ⟨0, 1, false⟩ := by kernel_rfl
@[go_sem] theorem fact_bld18 : bldOf Try.prog 18 = some ⟨1, [.pointer none], [(0, 1)]⟩ := by kernel_rfl
@[go_sem] theorem fact_ty19 : tyOf Try.prog 19 = some ⟨true, 1, [.pointer none]⟩ := by kernel_rfl
@[go_sem] theorem fact_fld19_0 : fldOf Try.prog 19 0 = some ⟨0, 1, false⟩ := by kernel_rfl
@[go_sem] theorem fact_bld19 : bldOf Try.prog 19 = some ⟨1, [.pointer none], [(0, 1)]⟩ := by kernel_rfl
@[go_sem] theorem fact_isint21 : isIntT Try.prog 21 = true := by kernel_rfl
@[go_sem] theorem fact_ty21 : tyOf Try.prog 21 = some ⟨false, 1, [.int .i32 0]⟩ := by kernel_rfl
@[go_sem] theorem fact_sel22 : selOf Try.prog 22 = some ⟨2, 1, 8, [.int .i64 0]⟩ := by kernel_rfl
@[go_sem] theorem fact_eq22 : eqT Try.prog 22 = .slice := by kernel_rfl
@[go_sem] theorem fact_len22 : lenT Try.prog 22 = .slice := by kernel_rfl
@[go_sem] theorem fact_sl22 : slT Try.prog 22 = .slice 1 := by kernel_rfl
@[go_sem] theorem fact_ty22 : tyOf Try.prog 22 = some ⟨false, 1, [.slice none 0 0]⟩ := by kernel_rfl
@[go_sem] theorem fact_ty24 : tyOf Try.prog 24 = some ⟨false, 1, [.nilFunc]⟩ := by kernel_rfl
@[go_sem] theorem fact_ty25 : tyOf Try.prog 25 = some ⟨false, 1, [.nilFunc]⟩ := by kernel_rfl
@[go_sem] theorem fact_ty26 : tyOf Try.prog 26 = some ⟨false, 1, [.nilFunc]⟩ := by kernel_rfl
@[go_sem] theorem fact_ty27 : tyOf Try.prog 27 = some ⟨false, 1, [.nilFunc]⟩ := by kernel_rfl
@[go_sem] theorem fact_ty28 : tyOf Try.prog 28 = some ⟨false, 1, [.nilFunc]⟩ := by kernel_rfl
@[go_sem] theorem fact_sel29 : selOf Try.prog 29 = some ⟨82, 6, 64, [.int .i64 0, .int .i64 0, .int .i64 0, .int .i64 0, .int .i64 0, .slice none 0 0]⟩ := by kernel_rfl
@[go_sem] theorem fact_eq29 : eqT Try.prog 29 = .slice := by kernel_rfl
@[go_sem] theorem fact_len29 : lenT Try.prog 29 = .slice := by kernel_rfl
@[go_sem] theorem fact_sl29 : slT Try.prog 29 = .slice 6 := by kernel_rfl
@[go_sem] theorem fact_ty29 : tyOf Try.prog 29 = some ⟨false, 1, [.slice none 0 0]⟩ := by kernel_rfl
@[go_sem] theorem fact_ty30 : tyOf Try.prog 30 = some ⟨false, 1, [.nilFunc]⟩ := by kernel_rfl
@[go_sem] theorem fact_ty31 : tyOf Try.prog 31 = some ⟨false, 1, [.nilFunc]⟩ := by kernel_rfl
@[go_sem] theorem fact_sel32 : selOf Try.prog 32 = some ⟨84, 6, 64, [.int .i64 0, .int .i64 0, .int .i64 0, .int .i64 0, .int .i64 0, .slice none 0 0]⟩ := by kernel_rfl
@[go_sem] theorem fact_eq32 : eqT Try.prog 32 = .slice := by kernel_rfl
@[go_sem] theorem fact_len32 : lenT Try.prog 32 = .slice := by kernel_rfl
@[go_sem] theorem fact_sl32 : slT Try.prog 32 = .slice 6 := by kernel_rfl
@[go_sem] theorem fact_ty32 : tyOf Try.prog 32 = some ⟨false, 1, [.slice none 0 0]⟩ := by kernel_rfl
@[go_sem] theorem fact_ty33 : tyOf Try.prog 33 = some ⟨false, 1, [.nilFunc]⟩ := by kernel_rfl
@[go_sem] theorem fact_ty34 : tyOf Try.prog 34 = some ⟨false, 1, [.nilFunc]⟩ := by kernel_rfl
@[go_sem] theorem fact_ty35 : tyOf Try.prog 35 = some ⟨false, 1, [.nilFunc]⟩ := by kernel_rfl
@[go_sem] theorem fact_sel36 : selOf Try.prog 36 = some ⟨22, 1, 24, [.slice none 0 0]⟩ := by kernel_rfl
@[go_sem] theorem fact_eq36 : eqT Try.prog 36 = .slice := by kernel_rfl
@[go_sem] theorem fact_len36 : lenT Try.prog 36 = .slice := by kernel_rfl
@[go_sem] theorem fact_sl36 : slT Try.prog 36 = .slice 1 := by kernel_rfl
@[go_sem] theorem fact_ty36 : tyOf Try.prog 36 = some ⟨false, 1, [.slice none 0 0]⟩ := by kernel_rfl
@[go_sem] theorem fact_ty37 : tyOf Try.prog 37 = some ⟨true, 3, [.int .i64 0, .string ⟨#[]⟩, .slice none 0 0]⟩ := by kernel_rfl
@[go_sem] theorem fact_fld37_0 : fldOf Try.prog 37 0 = some ⟨0, 1, false⟩ := by kernel_rfl
@[go_sem] theorem fact_fld37_1 : fldOf Try.prog 37 1 = some ⟨1, 1, false⟩ := by kernel_rfl
@[go_sem] theorem fact_fld37_2 : fldOf Try.prog 37 2 = some ⟨2, 1, false⟩ := by kernel_rfl
@[go_sem] theorem fact_bld37 : bldOf Try.prog 37 = some ⟨3, [.int .i64 0, .string ⟨#[]⟩, .slice none 0 0], [(0, 1), (1, 1), (2, 1)]⟩ := by kernel_rfl
@[go_sem] theorem fact_ty38 : tyOf Try.prog 38 = some ⟨true, 3, [.int .i64 0, .string ⟨#[]⟩, .slice none 0 0]⟩ := by kernel_rfl
@[go_sem] theorem fact_fld38_0 : fldOf Try.prog 38 0 = some ⟨0, 1, false⟩ := by kernel_rfl
@[go_sem] theorem fact_fld38_1 : fldOf Try.prog 38 1 = some ⟨1, 1, false⟩ := by kernel_rfl
@[go_sem] theorem fact_fld38_2 : fldOf Try.prog 38 2 = some ⟨2, 1, false⟩ := by kernel_rfl
@[go_sem] theorem fact_bld38 : bldOf Try.prog 38 = some ⟨3, [.int .i64 0, .string ⟨#[]⟩, .slice none 0 0], [(0, 1), (1, 1), (2, 1)]⟩ := by kernel_rfl
@[go_sem] theorem fact_ty39 : tyOf Try.prog 39 = some ⟨false, 1, [.nilFunc]⟩ := by kernel_rfl
@[go_sem] theorem fact_ty40 : tyOf Try.prog 40 = some ⟨false, 1, [.nilFunc]⟩ := by kernel_rfl
@[go_sem] theorem fact_ty41 : tyOf Try.prog 41 = some ⟨true, 3, [.int .i64 0, .string ⟨#[]⟩, .slice none 0 0]⟩ := by kernel_rfl
@[go_sem] theorem fact_fld41_0 : fldOf Try.prog 41 0 = some ⟨0, 1, false⟩ := by kernel_rfl
@[go_sem] theorem fact_fld41_1 : fldOf Try.prog 41 1 = some ⟨1, 1, false⟩ := by kernel_rfl
@[go_sem] theorem fact_fld41_2 : fldOf Try.prog 41 2 = some ⟨2, 1, false⟩ := by kernel_rfl
@[go_sem] theorem fact_bld41 : bldOf Try.prog 41 = some ⟨3, [.int .i64 0, .string ⟨#[]⟩, .slice none 0 0], [(0, 1), (1, 1), (2, 1)]⟩ := by kernel_rfl
@[go_sem] theorem fact_ty42 : tyOf Try.prog 42 = some ⟨false, 1, [.nilFunc]⟩ := by kernel_rfl
@[go_sem] theorem fact_ty43 : tyOf Try.prog 43 = some ⟨false, 1, [.nilFunc]⟩ := by kernel_rfl
@[go_sem] theorem fact_ty44 : tyOf Try.prog 44 = some ⟨false, 1, [.nilFunc]⟩ := by kernel_rfl
@[go_sem] theorem fact_ty45 : tyOf Try.prog 45 = some ⟨false, 1, [.nilFunc]⟩ := by kernel_rfl
@[go_sem] theorem fact_ty46 : tyOf Try.prog 46 = some ⟨false, 1, [.nilFunc]⟩ := by kernel_rfl
@[go_sem] theorem fact_ty47 : tyOf Try.prog 47 = some ⟨false, 1, [.nilFunc]⟩ := by kernel_rfl
@[go_sem] theorem fact_ty48 : tyOf Try.prog 48 = some ⟨false, 1, [.nilFunc]⟩ := by kernel_rfl
@[go_sem] theorem fact_ty49 : tyOf Try.prog 49 = some ⟨false, 1, [.nilFunc]⟩ := by kernel_rfl
@[go_sem] theorem fact_ty50 : tyOf Try.prog 50 = some ⟨false, 1, [.nilFunc]⟩ := by kernel_rfl
@[go_sem] theorem fact_ty51 : tyOf Try.prog 51 = some ⟨false, 1, [.nilFunc]⟩ := by kernel_rfl
@[go_sem] theorem fact_sel52 : selOf Try.prog 52 = some ⟨5, 1, 1, [.int .u8 0]⟩ := by kernel_rfl
@[go_sem] theorem fact_eq52 : eqT Try.prog 52 = .slice := by kernel_rfl
@[go_sem] theorem fact_len52 : lenT Try.prog 52 = .slice := by kernel_rfl
@[go_sem] theorem fact_sl52 : slT Try.prog 52 = .slice 1 := by kernel_rfl
@[go_sem] theorem fact_ty52 : tyOf Try.prog 52 = some ⟨false, 1, [.slice none 0 0]⟩ := by kernel_rfl
@[go_sem] theorem fact_ty53 : tyOf Try.prog 53 = some ⟨false, 1, [.nilFunc]⟩ := by kernel_rfl
@[go_sem] theorem fact_ty54 : tyOf Try.prog 54 = some ⟨false, 1, [.nilFunc]⟩ := by kernel_rfl
@[go_sem] theorem fact_ty55 : tyOf Try.prog 55 = some ⟨false, 1, [.nilFunc]⟩ := by kernel_rfl
@[go_sem] theorem fact_ty56 : tyOf Try.prog 56 = some ⟨false, 1, [.nilFunc]⟩ := by kernel_rfl
@[go_sem] theorem fact_ty57 : tyOf Try.prog 57 = some ⟨false, 1, [.nilFunc]⟩ := by kernel_rfl
@[go_sem] theorem fact_ty58 : tyOf Try.prog 58 = some ⟨false, 1, [.nilFunc]⟩ := by kernel_rfl
@[go_sem] theorem fact_ty59 : tyOf Try.prog 59 = some ⟨false, 1, [.nilFunc]⟩ := by kernel_rfl
@[go_sem] theorem fact_ty60 : tyOf Try.prog 60 = some ⟨false, 1, [.nilFunc]⟩ := by kernel_rfl
@[go_sem] theorem fact_ty61 : tyOf Try.prog 61 = some ⟨false, 1, [.nilFunc]⟩ := by kernel_rfl
@[go_sem] theorem fact_ty62 : tyOf Try.prog 62 = some ⟨false, 1, [.nilFunc]⟩ := by kernel_rfl
@[go_sem] theorem fact_ty63 : tyOf Try.prog 63 = some ⟨false, 1, [.nilFunc]⟩ := by kernel_rfl
@[go_sem] theorem fact_ty64 : tyOf Try.prog 64 = some ⟨false, 1, [.nilFunc]⟩ := by kernel_rfl
@[go_sem] theorem fact_ty66 : tyOf Try.prog 66 = some ⟨false, 1, [.nilFunc]⟩ := by kernel_rfl
@[go_sem] theorem fact_ty68 : tyOf Try.prog 68 = some ⟨false, 1, [.nilFunc]⟩ := by kernel_rfl
@[go_sem] theorem fact_ty70 : tyOf Try.prog 70 = some ⟨false, 1, [.nilFunc]⟩ := by kernel_rfl
@[go_sem] theorem fact_ty71 : tyOf Try.prog 71 = some ⟨false, 1, [.nilFunc]⟩ := by kernel_rfl
@[go_sem] theorem fact_ty72 : tyOf Try.prog 72 = some ⟨false, 1, [.nilFunc]⟩ := by kernel_rfl
@[go_sem] theorem fact_ty74 : tyOf Try.prog 74 = some ⟨false, 1, [.nilFunc]⟩ := by kernel_rfl
@[go_sem] theorem fact_ty75 : tyOf Try.prog 75 = some ⟨false, 1, [.nilFunc]⟩ := by kernel_rfl
@[go_sem] theorem fact_ty76 : tyOf Try.prog 76 = some ⟨false, 1, [.nilFunc]⟩ := by kernel_rfl
@[go_sem] theorem fact_ty77 : tyOf Try.prog 77 = some ⟨false, 1, [.nilFunc]⟩ := by kernel_rfl
@[go_sem] theorem fact_ty78 : tyOf Try.prog 78 = some ⟨false, 1, [.nilFunc]⟩ := by kernel_rfl
@[go_sem] theorem fact_ty79 : tyOf Try.prog 79 = some ⟨false, 1, [.nilFunc]⟩ := by kernel_rfl
@[go_sem] theorem fact_ty80 : tyOf Try.prog 80 = some ⟨false, 1, [.nilFunc]⟩ := by kernel_rfl
@[go_sem] theorem fact_ty81 : tyOf Try.prog 81 = some ⟨true, 6, [.int .i64 0, .int .i64 0, .int .i64 0, .int .i64 0, .int .i64 0, .slice none 0 0]⟩ := by kernel_rfl
@[go_sem] theorem fact_fld81_0 : fldOf Try.prog 81 0 = some ⟨0, 1, false⟩ := by kernel_rfl
@[go_sem] theorem fact_fld81_1 : fldOf Try.prog 81 1 = some ⟨1, 1, false⟩ := by kernel_rfl
@[go_sem] theorem fact_fld81_2 : fldOf Try.prog 81 2 = some ⟨2, 1, false⟩ := by kernel_rfl
@[go_sem] theorem fact_fld81_3 : fldOf Try.prog 81 3 = some ⟨3, 1, false⟩ := by kernel_rfl
@[go_sem] theorem fact_fld81_4 : fldOf Try.prog 81 4 = some ⟨4, 1, false⟩ := by kernel_rfl
@[go_sem] theorem fact_fld81_5 : fldOf Try.prog 81 5 = some ⟨5, 1, false⟩ := by kernel_rfl
@[go_sem] theorem fact_bld81 : bldOf Try.prog 81 = some ⟨6, [.int .i64 0, .int .i64 0, .int .i64 0, .int .i64 0, .int .i64 0, .slice none 0 0], [(0, 1), (1, 1), (2, 1), (3, 1), (4, 1), (5, 1)]⟩ := by kernel_rfl
@[go_sem] theorem fact_ty82 : tyOf Try.prog 82 = some ⟨true, 6, [.int .i64 0, .int .i64 0, .int .i64 0, .int .i64 0, .int .i64 0, .slice none 0 0]⟩ := by kernel_rfl
@[go_sem] theorem fact_fld82_0 : fldOf Try.prog 82 0 = some ⟨0, 1, false⟩ := by kernel_rfl
@[go_sem] theorem fact_fld82_1 : fldOf Try.prog 82 1 = some ⟨1, 1, false⟩ := by kernel_rfl
@[go_sem] theorem fact_fld82_2 : fldOf Try.prog 82 2 = some ⟨2, 1, false⟩ := by kernel_rfl
@[go_sem] theorem fact_fld82_3 : fldOf Try.prog 82 3 = some ⟨3, 1, false⟩ := by kernel_rfl
@[go_sem] theorem fact_fld82_4 : fldOf Try.prog 82 4 = some ⟨4, 1, false⟩ := by kernel_rfl
@[go_sem] theorem fact_fld82_5 : fldOf Try.prog 82 5 = some ⟨5, 1, false⟩ := by kernel_rfl
@[go_sem] theorem fact_bld82 : bldOf Try.prog 82 = some ⟨6, [.int .i64 0, .int .i64 0, .int .i64 0, .int .i64 0, .int .i64 0, .slice none 0 0], [(0, 1), (1, 1), (2, 1), (3, 1), (4, 1), (5, 1)]⟩ := by kernel_rfl
@[go_sem] theorem fact_ty83 : tyOf Try.prog 83 = some ⟨false, 1, [.nilFunc]⟩ := by kernel_rfl
@[go_sem] theorem fact_ty84 : tyOf Try.prog 84 = some ⟨true, 6, [.int .i64 0, .int .i64 0, .int .i64 0, .int .i64 0, .int .i64 0, .slice none 0 0]⟩ := by kernel_rfl
@[go_sem] theorem fact_fld84_0 : fldOf Try.prog 84 0 = some ⟨0, 1, false⟩ := by kernel_rfl
@[go_sem] theorem fact_fld84_1 : fldOf Try.prog 84 1 = some ⟨1, 1, false⟩ := by kernel_rfl
@[go_sem] theorem fact_fld84_2 : fldOf Try.prog 84 2 = some ⟨2, 1, false⟩ := by kernel_rfl
@[go_sem] theorem fact_fld84_3 : fldOf Try.prog 84 3 = some ⟨3, 1, false⟩ := by kernel_rfl
@[go_sem] theorem fact_fld84_4 : fldOf Try.prog 84 4 = some ⟨4, 1, false⟩ := by kernel_rfl
@[go_sem] theorem fact_fld84_5 : fldOf Try.prog 84 5 = some ⟨5, 1, false⟩ := by kernel_rfl
@[go_sem] theorem fact_bld84 : bldOf Try.prog 84 = some ⟨6, [.int .i64 0, .int .i64 0, .int .i64 0, .int .i64 0, .int .i64 0, .slice none 0 0], [(0, 1), (1, 1), (2, 1), (3, 1), (4, 1), (5, 1)]⟩ := by kernel_rfl
@[go_sem] theorem fact_ty85 : tyOf Try.prog 85 = some ⟨false, 1, [.nilFunc]⟩ := by kernel_rfl
@[go_sem] theorem fact_ty86 : tyOf Try.prog 86 = some ⟨false, 1, [.nilFunc]⟩ := by kernel_rfl
@[go_sem] theorem fact_ty87 : tyOf Try.prog 87 = some ⟨false, 1, [.nilFunc]⟩ := by kernel_rfl
@[go_sem] theorem fact_ty88 : tyOf Try.prog 88 = some ⟨false, 1, [.nilFunc]⟩ := by kernel_rfl
@[go_sem] theorem fact_ty89 : tyOf Try.prog 89 = some ⟨false, 1, [.nilFunc]⟩ := by kernel_rfl
@[go_sem] theorem fact_ty90 : tyOf Try.prog 90 = some ⟨false, 1, [.nilFunc]⟩ := by kernel_rfl
@[go_sem] theorem fact_ty91 : tyOf Try.prog 91 = some ⟨false, 1, [.nilFunc]⟩ := by kernel_rfl
@[go_sem] theorem fact_ty92 : tyOf Try.prog 92 = some ⟨false, 1, [.nilFunc]⟩ := by kernel_rfl
@[go_sem] theorem fact_ty93 : tyOf Try.prog 93 = some ⟨false, 1, [.nilFunc]⟩ := by kernel_rfl
@[go_sem] theorem fact_ty94 : tyOf Try.prog 94 = some ⟨false, 1, [.nilFunc]⟩ := by kernel_rfl
@[go_sem] theorem fact_ty95 : tyOf Try.prog 95 = some ⟨false, 1, [.nilFunc]⟩ := by kernel_rfl
@[go_sem] theorem fact_ty96 : tyOf Try.prog 96 = some ⟨false, 1, [.nilFunc]⟩ := by kernel_rfl
@[go_sem] theorem fact_eq97 : eqT Try.prog 97 = .ptr := by kernel_rfl
@[go_sem] theorem fact_ty97 : tyOf Try.prog 97 = some ⟨false, 1, [.pointer none]⟩ := by kernel_rfl
@[go_sem] theorem fact_ty98 : tyOf Try.prog 98 = some ⟨false, 1, [.nilFunc]⟩ := by kernel_rfl
@[go_sem] theorem fact_ty99 : tyOf Try.prog 99 = some ⟨false, 1, [.nilFunc]⟩ := by kernel_rfl
@[go_sem] theorem fact_ty100 : tyOf Try.prog 100 = some ⟨false, 1, [.nilFunc]⟩ := by kernel_rfl
@[go_sem] theorem fact_ty101 : tyOf Try.prog 101 = some ⟨false, 1, [.nilFunc]⟩ := by kernel_rfl
@[go_sem] theorem fact_ty102 : tyOf Try.prog 102 = some ⟨false, 1, [.nilFunc]⟩ := by kernel_rfl
@[go_sem] theorem fact_ty103 : tyOf Try.prog 103 = some ⟨false, 1, [.nilFunc]⟩ := by kernel_rfl
@[go_sem] theorem fact_ty104 : tyOf Try.prog 104 = some ⟨false, 1, [.nilFunc]⟩ := by kernel_rfl
@[go_sem] theorem fact_ty105 : tyOf Try.prog 105 = some ⟨false, 1, [.nilFunc]⟩ := by kernel_rfl
@[go_sem] theorem fact_ty106 : tyOf Try.prog 106 = some ⟨false, 1, [.nilFunc]⟩ := by kernel_rfl
@[go_sem] theorem fact_ty107 : tyOf Try.prog 107 = some ⟨false, 1, [.nilFunc]⟩ := by kernel_rfl
@[go_sem] theorem fact_ty108 : tyOf Try.prog 108 = some ⟨false, 1, [.nilFunc]⟩ := by kernel_rfl
@[go_sem] theorem fact_ty109 : tyOf Try.prog 109 = some ⟨false, 1, [.nilFunc]⟩ := by kernel_rfl
@[go_sem] theorem fact_ty110 : tyOf Try.prog 110 = some ⟨false, 1, [.nilFunc]⟩ := by kernel_rfl
@[go_sem] theorem fact_ty111 : tyOf Try.prog 111 = some ⟨false, 1, [.nilFunc]⟩ := by kernel_rfl
@[go_sem] theorem fact_eq112 : eqT Try.prog 112 = .ptr := by kernel_rfl
@[go_sem] theorem fact_ty112 : tyOf Try.prog 112 = some ⟨false, 1, [.pointer none]⟩ := by kernel_rfl
@[go_sem] theorem fact_ty113 : tyOf Try.prog 113 = some ⟨false, 1, [.nilFunc]⟩ := by kernel_rfl
@[go_sem] theorem fact_ty114 : tyOf Try.prog 114 = some ⟨true, 5, [.string ⟨#[]⟩, .string ⟨#[]⟩, .int .i64 0, .slice none 0 0, .int .i64 0]⟩ := by kernel_rfl
@[go_sem] theorem fact_fld114_0 : fldOf Try.prog 114 0 = some ⟨0, 1, false⟩ := by kernel_rfl
@[go_sem] theorem fact_fld114_1 : fldOf Try.prog 114 1 = some ⟨1, 1, false⟩ := by kernel_rfl
@[go_sem] theorem fact_fld114_2 : fldOf Try.prog 114 2 = some ⟨2, 1, false⟩ := by kernel_rfl
@[go_sem] theorem fact_fld114_3 : fldOf Try.prog 114 3 = some ⟨3, 1, false⟩ := by kernel_rfl
@[go_sem] theorem fact_fld114_4 : fldOf Try.prog 114 4 = some ⟨4, 1, false⟩ := by kernel_rfl
@[go_sem] theorem fact_bld114 : bldOf Try.prog 114 = some ⟨5, [.string ⟨#[]⟩, .string ⟨#[]⟩, .int .i64 0, .slice none 0 0, .int .i64 0], [(0, 1), (1, 1), (2, 1), (3, 1), (4, 1)]⟩ := by kernel_rfl
@[go_sem] theorem fact_ty115 : tyOf Try.prog 115 = some ⟨true, 5, [.string ⟨#[]⟩, .string ⟨#[]⟩, .int .i64 0, .slice none 0 0, .int .i64 0]⟩ := by kernel_rfl
@[go_sem] theorem fact_fld115_0 : fldOf Try.prog 115 0 = some ⟨0, 1, false⟩ := by kernel_rfl
@[go_sem] theorem fact_fld115_1 : fldOf Try.prog 115 1 = some ⟨1, 1, false⟩ := by kernel_rfl
@[go_sem] theorem fact_fld115_2 : fldOf Try.prog 115 2 = some ⟨2, 1, false⟩ := by kernel_rfl
@[go_sem] theorem fact_fld115_3 : fldOf Try.prog 115 3 = some ⟨3, 1, false⟩ := by kernel_rfl
@[go_sem] theorem fact_fld115_4 : fldOf Try.prog 115 4 = some ⟨4, 1, false⟩ := by kernel_rfl
@[go_sem] theorem fact_bld115 : bldOf Try.prog 115 = some ⟨5, [.string ⟨#[]⟩, .string ⟨#[]⟩, .int .i64 0, .slice none 0 0, .int .i64 0], [(0, 1), (1, 1), (2, 1), (3, 1), (4, 1)]⟩ := by kernel_rfl
@[go_sem] theorem fact_ty117 : tyOf Try.prog 117 = some ⟨false, 1, [.nilFunc]⟩ := by kernel_rfl
@[go_sem] theorem fact_ty118 : tyOf Try.prog 118 = some ⟨false, 1, [.nilFunc]⟩ := by kernel_rfl
@[go_sem] theorem fact_eq119 : eqT Try.prog 119 = .ptr := by kernel_rfl
@[go_sem] theorem fact_ty119 : tyOf Try.prog 119 = some ⟨false, 1, [.pointer none]⟩ := by kernel_rfl
@[go_sem] theorem fact_ty120 : tyOf Try.prog 120 = some ⟨true, 5, [.string ⟨#[]⟩, .string ⟨#[]⟩, .int .i64 0, .bool false, .slice none 0 0]⟩ := by kernel_rfl
@[go_sem] theorem fact_fld120_0 : fldOf Try.prog 120 0 = some ⟨0, 1, false⟩ := by kernel_rfl
@[go_sem] theorem fact_fld120_1 : fldOf Try.prog 120 1 = some ⟨1, 1, false⟩ := by kernel_rfl
@[go_sem] theorem fact_fld120_2 : fldOf Try.prog 120 2 = some ⟨2, 1, false⟩ := by kernel_rfl
@[go_sem] theorem fact_fld120_3 : fldOf Try.prog 120 3 = some ⟨3, 1, false⟩ := by kernel_rfl
@[go_sem] theorem fact_fld120_4 : fldOf Try.prog 120 4 = some ⟨4, 1, false⟩ := by kernel_rfl
@[go_sem] theorem fact_bld120 : bldOf Try.prog 120 = some ⟨5, [.string ⟨#[]⟩, .string ⟨#[]⟩, .int .i64 0, .bool false, .slice none 0 0], [(0, 1), (1, 1), (2, 1), (3, 1), (4, 1)]⟩ := by kernel_rfl
@[go_sem] theorem fact_ty121 : tyOf Try.prog 121 = some ⟨true, 5, [.string ⟨#[]⟩, .string ⟨#[]⟩, .int .i64 0, .bool false, .slice none 0 0]⟩ := by kernel_rfl
@[go_sem] theorem fact_fld121_0 : fldOf Try.prog 121 0 = some ⟨0, 1, false⟩ := by kernel_rfl
@[go_sem] theorem fact_fld121_1 : fldOf Try.prog 121 1 = some ⟨1, 1, false⟩ := by kernel_rfl
@[go_sem] theorem fact_fld121_2 : fldOf Try.prog 121 2 = some ⟨2, 1, false⟩ := by kernel_rfl
@[go_sem] theorem fact_fld121_3 : fldOf Try.prog 121 3 = some ⟨3, 1, false⟩ := by kernel_rfl
@[go_sem] theorem fact_fld121_4 : fldOf Try.prog 121 4 = some ⟨4, 1, false⟩ := by kernel_rfl
@[go_sem] theorem fact_bld121 : bldOf Try.prog 121 = some ⟨5, [.string ⟨#[]⟩, .string ⟨#[]⟩, .int .i64 0, .bool false, .slice none 0 0], [(0, 1), (1, 1), (2, 1), (3, 1), (4, 1)]⟩ := by kernel_rfl
@[go_sem] theorem fact_ty122 : tyOf Try.prog 122 = some ⟨false, 1, [.nilFunc]⟩ := by kernel_rfl
@[go_sem] theorem fact_ty124 : tyOf Try.prog 124 = some ⟨false, 1, [.nilFunc]⟩ := by kernel_rfl
@[go_sem] theorem fact_ty125 : tyOf Try.prog 125 = some ⟨false, 1, [.nilFunc]⟩ := by kernel_rfl
@[go_sem] theorem fact_ty126 : tyOf Try.prog 126 = some ⟨false, 1, [.nilFunc]⟩ := by kernel_rfl
@[go_sem] theorem fact_ty127 : tyOf Try.prog 127 = some ⟨false, 1, [.nilFunc]⟩ := by kernel_rfl
@[go_sem] theorem fact_ty128 : tyOf Try.prog 128 = some ⟨false, 1, [.nilFunc]⟩ := by kernel_rfl
@[go_sem] theorem fact_ty129 : tyOf Try.prog 129 = some ⟨false, 1, [.nilFunc]⟩ := by kernel_rfl
@[go_sem] theorem fact_isint130 : isIntT Try.prog 130 = true := by kernel_rfl
@[go_sem] theorem fact_ty130 : tyOf Try.prog 130 = some ⟨false, 1, [.int .u64 0]⟩ := by kernel_rfl
@[go_sem] theorem fact_ty132 : tyOf Try.prog 132 = some ⟨false, 1, [.nilFunc]⟩ := by kernel_rfl
@[go_sem] theorem fact_ty133 : tyOf Try.prog 133 = some ⟨false, 1, [.nilFunc]⟩ := by kernel_rfl
@[go_sem] theorem fact_ty134 : tyOf Try.prog 134 = some ⟨false, 1, [.nilFunc]⟩ := by kernel_rfl
@[go_sem] theorem fact_ty135 : tyOf Try.prog 135 = some ⟨false, 1, [.nilFunc]⟩ := by kernel_rfl
@[go_sem] theorem fact_ty136 : tyOf Try.prog 136 = some ⟨true, 3, [.slice none 0 0, .int .i64 0, .int .i64 0]⟩ := by kernel_rfl
@[go_sem] theorem fact_fld136_0 : fldOf Try.prog 136 0 = some ⟨0, 1, false⟩ := by kernel_rfl
@[go_sem] theorem fact_fld136_1 : fldOf Try.prog 136 1 = some ⟨1, 1, false⟩ := by kernel_rfl
@[go_sem] theorem fact_fld136_2 : fldOf Try.prog 136 2 = some ⟨2, 1, false⟩ := by kernel_rfl
@[go_sem] theorem fact_bld136 : bldOf Try.prog 136 = some ⟨3, [.slice none 0 0, .int .i64 0, .int .i64 0], [(0, 1), (1, 1), (2, 1)]⟩ := by kernel_rfl
@[go_sem] theorem fact_ty137 : tyOf Try.prog 137 = some ⟨true, 3, [.slice none 0 0, .int .i64 0, .int .i64 0]⟩ := by kernel_rfl
@[go_sem] theorem fact_fld137_0 : fldOf Try.prog 137 0 = some ⟨0, 1, false⟩ := by kernel_rfl
@[go_sem] theorem fact_fld137_1 : fldOf Try.prog 137 1 = some ⟨1, 1, false⟩ := by kernel_rfl
@[go_sem] theorem fact_fld137_2 : fldOf Try.prog 137 2 = some ⟨2, 1, false⟩ := by kernel_rfl
@[go_sem] theorem fact_bld137 : bldOf Try.prog 137 = some ⟨3, [.slice none 0 0, .int .i64 0, .int .i64 0], [(0, 1), (1, 1), (2, 1)]⟩ := by kernel_rfl
@[go_sem] theorem fact_ty138 : tyOf Try.prog 138 = some ⟨false, 1, [.nilFunc]⟩ := by kernel_rfl
@[go_sem] theorem fact_ty139 : tyOf Try.prog 139 = some ⟨false, 1, [.nilFunc]⟩ := by kernel_rfl
@[go_sem] theorem fact_ty140 : tyOf Try.prog 140 = some ⟨false, 1, [.nilFunc]⟩ := by kernel_rfl
@[go_sem] theorem fact_ty141 : tyOf Try.prog 141 = some ⟨false, 1, [.nilFunc]⟩ := by kernel_rfl
@[go_sem] theorem fact_ty142 : tyOf Try.prog 142 = some ⟨false, 1, [.nilFunc]⟩ := by kernel_rfl
@[go_sem] theorem fact_ty143 : tyOf Try.prog 143 = some ⟨false, 1, [.nilFunc]⟩ := by kernel_rfl
@[go_sem] theorem fact_ty144 : tyOf Try.prog 144 = some ⟨false, 1, [.nilFunc]⟩ := by kernel_rfl
@[go_sem] theorem fact_ty145 : tyOf Try.prog 145 = some ⟨false, 1, [.nilFunc]⟩ := by kernel_rfl
@[go_sem] theorem fact_eq146 : eqT Try.prog 146 = .ptr := by kernel_rfl
@[go_sem] theorem fact_ty146 : tyOf Try.prog 146 = some ⟨false, 1, [.pointer none]⟩ := by kernel_rfl
@[go_sem] theorem fact_ty147 : tyOf Try.prog 147 = some ⟨false, 1, [.nilFunc]⟩ := by kernel_rfl
@[go_sem] theorem fact_sel148 : selOf Try.prog 148 = some ⟨36, 1, 24, [.slice none 0 0]⟩ := by kernel_rfl
@[go_sem] theorem fact_eq148 : eqT Try.prog 148 = .slice := by kernel_rfl
@[go_sem] theorem fact_len148 : lenT Try.prog 148 = .slice := by kernel_rfl
@[go_sem] theorem fact_sl148 : slT Try.prog 148 = .slice 1 := by kernel_rfl
@[go_sem] theorem fact_ty148 : tyOf Try.prog 148 = some ⟨false, 1, [.slice none 0 0]⟩ := by kernel_rfl
@[go_sem] theorem fact_ty149 : tyOf Try.prog 149 = some ⟨true, 3, [.int .i64 0, .slice none 0 0, .slice none 0 0]⟩ := by kernel_rfl
@[go_sem] theorem fact_fld149_0 : fldOf Try.prog 149 0 = some ⟨0, 1, false⟩ := by kernel_rfl
@[go_sem] theorem fact_fld149_1 : fldOf Try.prog 149 1 = some ⟨1, 1, false⟩ := by kernel_rfl
@[go_sem] theorem fact_fld149_2 : fldOf Try.prog 149 2 = some ⟨2, 1, false⟩ := by kernel_rfl
@[go_sem] theorem fact_bld149 : bldOf Try.prog 149 = some ⟨3, [.int .i64 0, .slice none 0 0, .slice none 0 0], [(0, 1), (1, 1), (2, 1)]⟩ := by kernel_rfl
@[go_sem] theorem fact_ty150 : tyOf Try.prog 150 = some ⟨true, 3, [.int .i64 0, .slice none 0 0, .slice none 0 0]⟩ := by kernel_rfl
@[go_sem] theorem fact_fld150_0 : fldOf Try.prog 150 0 = some ⟨0, 1, false⟩ := by kernel_rfl
@[go_sem] theorem fact_fld150_1 : fldOf Try.prog 150 1 = some ⟨1, 1, false⟩ := by kernel_rfl
@[go_sem] theorem fact_fld150_2 : fldOf Try.prog 150 2 = some ⟨2, 1, false⟩ := by kernel_rfl
@[go_sem] theorem fact_bld150 : bldOf Try.prog 150 = some ⟨3, [.int .i64 0, .slice none 0 0, .slice none 0 0], [(0, 1), (1, 1), (2, 1)]⟩ := by kernel_rfl
@[go_sem] theorem fact_ty151 : tyOf Try.prog 151 = some ⟨false, 1, [.nilFunc]⟩ := by kernel_rfl
@[go_sem] theorem fact_ty152 : tyOf Try.prog 152 = some ⟨false, 1, [.nilFunc]⟩ := by kernel_rfl
@[go_sem] theorem fact_ty153 : tyOf Try.prog 153 = some ⟨false, 1, [.nilFunc]⟩ := by kernel_rfl
@[go_sem] theorem fact_ty154 : tyOf Try.prog 154 = some ⟨false, 1, [.nilFunc]⟩ := by kernel_rfl
@[go_sem] theorem fact_ty155 : tyOf Try.prog 155 = some ⟨false, 1, [.nilFunc]⟩ := by kernel_rfl
@[go_sem] theorem fact_ty156 : tyOf Try.prog 156 = some ⟨false, 1, [.nilFunc]⟩ := by kernel_rfl
@[go_sem] theorem fact_ty157 : tyOf Try.prog 157 = some ⟨false, 1, [.nilFunc]⟩ := by kernel_rfl
@[go_sem] theorem fact_ty158 : tyOf Try.prog 158 = some ⟨false, 1, [.nilFunc]⟩ := by kernel_rfl
@[go_sem] theorem fact_ty159 : tyOf Try.prog 159 = some ⟨false, 1, [.nilFunc]⟩ := by kernel_rfl
@[go_sem] theorem fact_isint160 : isIntT Try.prog 160 = true := by kernel_rfl
@[go_sem] theorem fact_ty160 : tyOf Try.prog 160 = some ⟨false, 1, [.int .u32 0]⟩ := by kernel_rfl
@[go_sem] theorem fact_ty162 : tyOf Try.prog 162 = some ⟨false, 1, [.nilFunc]⟩ := by kernel_rfl
@[go_sem] theorem fact_isint163 : isIntT Try.prog 163 = true := by kernel_rfl
@[go_sem] theorem fact_ty163 : tyOf Try.prog 163 = some ⟨false, 1, [.int .u64 0]⟩ := by kernel_rfl
@[go_sem] theorem fact_ty165 : tyOf Try.prog 165 = some ⟨false, 1, [.nilFunc]⟩ := by kernel_rfl
@[go_sem] theorem fact_ty166 : tyOf Try.prog 166 = some ⟨false, 1, [.nilFunc]⟩ := by kernel_rfl
@[go_sem] theorem fact_ty167 : tyOf Try.prog 167 = some ⟨false, 1, [.nilFunc]⟩ := by kernel_rfl
@[go_sem] theorem fact_ty168 : tyOf Try.prog 168 = some ⟨false, 1, [.nilFunc]⟩ := by kernel_rfl
@[go_sem] theorem fact_ty169 : tyOf Try.prog 169 = some ⟨true, 3, [.int .i64 0, .slice none 0 0, .slice none 0 0]⟩ := by kernel_rfl
@[go_sem] theorem fact_fld169_0 : fldOf Try.prog 169 0 = some ⟨0, 1, false⟩ := by kernel_rfl
@[go_sem] theorem fact_fld169_1 : fldOf Try.prog 169 1 = some ⟨1, 1, false⟩ := by kernel_rfl
@[go_sem] theorem fact_fld169_2 : fldOf Try.prog 169 2 = some ⟨2, 1, false⟩ := by kernel_rfl
@[go_sem] theorem fact_bld169 : bldOf Try.prog 169 = some ⟨3, [.int .i64 0, .slice none 0 0, .slice none 0 0], [(0, 1), (1, 1), (2, 1)]⟩ := by kernel_rfl
@[go_sem] theorem fact_ty170 : tyOf Try.prog 170 = some ⟨true, 3, [.int .i64 0, .slice none 0 0, .slice none 0 0]⟩ := by kernel_rfl
@[go_sem] theorem fact_fld170_0 : fldOf Try.prog 170 0 = some ⟨0, 1, false⟩ := by kernel_rfl
@[go_sem] theorem fact_fld170_1 : fldOf Try.prog 170 1 = some ⟨1, 1, false⟩ := by kernel_rfl
@[go_sem] theorem fact_fld170_2 : fldOf Try.prog 170 2 = some ⟨2, 1, false⟩ := by kernel_rfl
@[go_sem] theorem fact_bld170 : bldOf Try.prog 170 = some ⟨3, [.int .i64 0, .slice none 0 0, .slice none 0 0], [(0, 1), (1, 1), (2, 1)]⟩ := by kernel_rfl
@[go_sem] theorem fact_ty171 : tyOf Try.prog 171 = some ⟨false, 1, [.nilFunc]⟩ := by kernel_rfl
@[go_sem] theorem fact_ty172 : tyOf Try.prog 172 = some ⟨false, 1, [.nilFunc]⟩ := by kernel_rfl
@[go_sem] theorem fact_ty173 : tyOf Try.prog 173 = some ⟨false, 1, [.nilFunc]⟩ := by kernel_rfl
@[go_sem] theorem fact_ty174 : tyOf Try.prog 174 = some ⟨false, 1, [.nilFunc]⟩ := by kernel_rfl
@[go_sem] theorem fact_ty175 : tyOf Try.prog 175 = some ⟨false, 1, [.nilFunc]⟩ := by kernel_rfl
@[go_sem] theorem fact_ty176 : tyOf Try.prog 176 = some ⟨false, 1, [.nilFunc]⟩ := by kernel_rfl
@[go_sem] theorem fact_ty177 : tyOf Try.prog 177 = some ⟨false, 1, [.nilFunc]⟩ := by kernel_rfl
@[go_sem] theorem fact_ty178 : tyOf Try.prog 178 = some ⟨false, 1, [.nilFunc]⟩ := by kernel_rfl
@[go_sem] theorem fact_ty179 : tyOf Try.prog 179 = some ⟨false, 1, [.nilFunc]⟩ := by kernel_rfl
@[go_sem] theorem fact_ty180 : tyOf Try.prog 180 = some ⟨false, 1, [.nilFunc]⟩ := by kernel_rfl
@[go_sem] theorem fact_ty181 : tyOf Try.prog 181 = some ⟨false, 1, [.nilFunc]⟩ := by kernel_rfl
@[go_sem] theorem fact_ty182 : tyOf Try.prog 182 = some ⟨false, 1, [.nilFunc]⟩ := by kernel_rfl
@[go_sem] theorem fact_ty183 : tyOf Try.prog 183 = some ⟨false, 1, [.nilFunc]⟩ := by kernel_rfl
@[go_sem] theorem fact_ty184 : tyOf Try.prog 184 = some ⟨true, 4, [.pointer none, .pointer none, .pointer none, .string ⟨#[]⟩]⟩ := by kernel_rfl
@[go_sem] theorem fact_fld184_0 : fldOf Try.prog 184 0 = some ⟨0, 1, false⟩ := by kernel_rfl
@[go_sem] theorem fact_fld184_1 : fldOf Try.prog 184 1 = some ⟨1, 1, false⟩ := by kernel_rfl
@[go_sem] theorem fact_fld184_2 : fldOf Try.prog 184 2 = some ⟨2, 1, false⟩ := by kernel_rfl
@[go_sem] theorem fact_fld184_3 : fldOf Try.prog 184 3 = some ⟨3, 1, false⟩ := by kernel_rfl
@[go_sem] theorem fact_bld184 : bldOf Try.prog 184 = some ⟨4, [.pointer none, .pointer none, .pointer none, .string ⟨#[]⟩], [(0, 1), (1, 1), (2, 1), (3, 1)]⟩ := by kernel_rfl
@[go_sem] theorem fact_ty185 : tyOf Try.prog 185 = some ⟨true, 4, [.pointer none, .pointer none, .pointer none, .string ⟨#[]⟩]⟩ := by kernel_rfl
@[go_sem] theorem fact_fld185_0 : fldOf Try.prog 185 0 = some ⟨0, 1, false⟩ := by kernel_rfl
@[go_sem] theorem fact_fld185_1 : fldOf Try.prog 185 1 = some ⟨1, 1, false⟩ := by kernel_rfl
@[go_sem] theorem fact_fld185_2 : fldOf Try.prog 185 2 = some ⟨2, 1, false⟩ := by kernel_rfl
@[go_sem] theorem fact_fld185_3 : fldOf Try.prog 185 3 = some ⟨3, 1, false⟩ := by kernel_rfl
@[go_sem] theorem fact_bld185 : bldOf Try.prog 185 = some ⟨4, [.pointer none, .pointer none, .pointer none, .string ⟨#[]⟩], [(0, 1), (1, 1), (2, 1), (3, 1)]⟩ := by kernel_rfl
@[go_sem] theorem fact_ty186 : tyOf Try.prog 186 = some ⟨true, 0, []⟩ := by kernel_rfl
@[go_sem] theorem fact_ty187 : tyOf Try.prog 187 = some ⟨true, 0, []⟩ := by kernel_rfl
@[go_sem] theorem fact_ty188 : tyOf Try.prog 188 = some ⟨true, 0, []⟩ := by kernel_rfl
@[go_sem] theorem fact_ty189 : tyOf Try.prog 189 = some ⟨false, 1, [.nilFunc]⟩ := by kernel_rfl
@[go_sem] theorem fact_isint190 : isIntT Try.prog 190 = true := by kernel_rfl
@[go_sem] theorem fact_ty190 : tyOf Try.prog 190 = some ⟨false, 1, [.int .u8 0]⟩ := by kernel_rfl
@[go_sem] theorem fact_isint191 : isIntT Try.prog 191 = true := by kernel_rfl
@[go_sem] theorem fact_ty191 : tyOf Try.prog 191 = some ⟨false, 1, [.int .u8 0]⟩ := by kernel_rfl
@[go_sem] theorem fact_ty192 : tyOf Try.prog 192 = some ⟨false, 1, [.nilFunc]⟩ := by kernel_rfl
@[go_sem] theorem fact_eq193 : eqT Try.prog 193 = .ptr := by kernel_rfl
@[go_sem] theorem fact_ty193 : tyOf Try.prog 193 = some ⟨false, 1, [.pointer none]⟩ := by kernel_rfl
@[go_sem] theorem fact_isint194 : isIntT Try.prog 194 = true := by kernel_rfl
@[go_sem] theorem fact_ty194 : tyOf Try.prog 194 = some ⟨false, 1, [.int .i32 0]⟩ := by kernel_rfl
@[go_sem] theorem fact_isint195 : isIntT Try.prog 195 = true := by kernel_rfl
@[go_sem] theorem fact_ty195 : tyOf Try.prog 195 = some ⟨false, 1, [.int .i32 0]⟩ := by kernel_rfl
@[go_sem] theorem fact_ty196 : tyOf Try.prog 196 = some ⟨true, 11, [.int .u64 0, .int .u64 0, .int .u32 0, .int .u8 0, .int .u8 0, .int .u8 0, .int .u8 0, .nilFunc, .pointer none, .int .i32 0, .int .i32 0]⟩ := by kernel_rfl
@[go_sem] theorem fact_fld196_0 : fldOf Try.prog 196 0 = some ⟨0, 1, false⟩ := by kernel_rfl
@[go_sem] theorem fact_fld196_1 : fldOf Try.prog 196 1 = some ⟨1, 1, false⟩ := by kernel_rfl
@[go_sem] theorem fact_fld196_2 : fldOf Try.prog 196 2 = some ⟨2, 1, false⟩ := by kernel_rfl
@[go_sem] theorem fact_fld196_3 : fldOf Try.prog 196 3 = some ⟨3, 1, false⟩ := by kernel_rfl
@[go_sem] theorem fact_fld196_4 : fldOf Try.prog 196 4 = some ⟨4, 1, false⟩ := by kernel_rfl
@[go_sem] theorem fact_fld196_5 : fldOf Try.prog 196 5 = some ⟨5, 1, false⟩ := by kernel_rfl
@[go_sem] theorem fact_fld196_6 : fldOf Try.prog 196 6 = some ⟨6, 1, false⟩ := by kernel_rfl
@[go_sem] theorem fact_fld196_7 : fldOf Try.prog 196 7 = some ⟨7, 1, false⟩ := by kernel_rfl
@[go_sem] theorem fact_fld196_8 : fldOf Try.prog 196 8 = some ⟨8, 1, false⟩ := by kernel_rfl
@[go_sem] theorem fact_fld196_9 : fldOf Try.prog 196 9 = some ⟨9, 1, false⟩ := by kernel_rfl
@[go_sem] theorem fact_fld196_10 : fldOf Try.prog 196 10 = some ⟨10, 1, false⟩ := by kernel_rfl
@[go_sem] theorem fact_bld196 : bldOf Try.prog 196 = some ⟨11, [.int .u64 0, .int .u64 0, .int .u32 0, .int .u8 0, .int .u8 0, .int .u8 0, .int .u8 0, .nilFunc, .pointer none, .int .i32 0, .int .i32 0], [(0, 1), (1, 1), (2, 1), (3, 1), (4, 1), (5, 1), (6, 1), (7, 1), (8, 1), (9, 1), (10, 1)]⟩ := by kernel_rfl
@[go_sem] theorem fact_ty197 : tyOf Try.prog 197 = some ⟨true, 11, [.int .u64 0, .int .u64 0, .int .u32 0, .int .u8 0, .int .u8 0, .int .u8 0, .int .u8 0, .nilFunc, .pointer none, .int .i32 0, .int .i32 0]⟩ := by kernel_rfl
@[go_sem] theorem fact_fld197_0 : fldOf Try.prog 197 0 = some ⟨0, 1, false⟩ := by kernel_rfl
@[go_sem] theorem fact_fld197_1 : fldOf Try.prog 197 1 = some ⟨1, 1, false⟩ := by kernel_rfl
@[go_sem] theorem fact_fld197_2 : fldOf Try.prog 197 2 = some ⟨2, 1, false⟩ := by kernel_rfl
@[go_sem] theorem fact_fld197_3 : fldOf Try.prog 197 3 = some ⟨3, 1, false⟩ := by kernel_rfl
@[go_sem] theorem fact_fld197_4 : fldOf Try.prog 197 4 = some ⟨4, 1, false⟩ := by kernel_rfl
@[go_sem] theorem fact_fld197_5 : fldOf Try.prog 197 5 = some ⟨5, 1, false⟩ := by kernel_rfl
@[go_sem] theorem fact_fld197_6 : fldOf Try.prog 197 6 = some ⟨6, 1, false⟩ := by kernel_rfl
@[go_sem] theorem fact_fld197_7 : fldOf Try.prog 197 7 = some ⟨7, 1, false⟩ := by kernel_rfl
@[go_sem] theorem fact_fld197_8 : fldOf Try.prog 197 8 = some ⟨8, 1, false⟩ := by kernel_rfl
@[go_sem] theorem fact_fld197_9 : fldOf Try.prog 197 9 = some ⟨9, 1, false⟩ := by kernel_rfl
@[go_sem] theorem fact_fld197_10 : fldOf Try.prog 197 10 = some ⟨10, 1, false⟩ := by kernel_rfl
@[go_sem] theorem fact_bld197 : bldOf Try.prog 197 = some ⟨11, [.int .u64 0, .int .u64 0, .int .u32 0, .int .u8 0, .int .u8 0, .int .u8 0, .int .u8 0, .nilFunc, .pointer none, .int .i32 0, .int .i32 0], [(0, 1), (1, 1), (2, 1), (3, 1), (4, 1), (5, 1), (6, 1), (7, 1), (8, 1), (9, 1), (10, 1)]⟩ := by kernel_rfl
@[go_sem] theorem fact_ty198 : tyOf Try.prog 198 = some ⟨false, 1, [.pointer none]⟩ := by kernel_rfl
@[go_sem] theorem fact_cv2_2 : cvT Try.prog 2 2 = .int .i64 := by kernel_rfl
@[go_sem] theorem fact_cv2_3 : cvT Try.prog 2 3 = .int .i64 := by kernel_rfl
@[go_sem] theorem fact_cv2_5 : cvT Try.prog 2 5 = .int .u8 := by kernel_rfl
@[go_sem] theorem fact_cv2_12 : cvT Try.prog 2 12 = .int .u64 := by kernel_rfl
@[go_sem] theorem fact_cv2_21 : cvT Try.prog 2 21 = .int .i32 := by kernel_rfl
@[go_sem] theorem fact_cv2_130 : cvT Try.prog 2 130 = .int .u64 := by kernel_rfl
@[go_sem] theorem fact_cv2_160 : cvT Try.prog 2 160 = .int .u32 := by kernel_rfl
@[go_sem] theorem fact_cv2_163 : cvT Try.prog 2 163 = .int .u64 := by kernel_rfl
@[go_sem] theorem fact_cv3_2 : cvT Try.prog 3 2 = .int .i64 := by kernel_rfl
@[go_sem] theorem fact_cv3_3 : cvT Try.prog 3 3 = .int .i64 := by kernel_rfl
@[go_sem] theorem fact_cv3_5 : cvT Try.prog 3 5 = .int .u8 := by kernel_rfl
@[go_sem] theorem fact_cv3_12 : cvT Try.prog 3 12 = .int .u64 := by kernel_rfl
@[go_sem] theorem fact_cv3_21 : cvT Try.prog 3 21 = .int .i32 := by kernel_rfl
@[go_sem] theorem fact_cv3_130 : cvT Try.prog 3 130 = .int .u64 := by kernel_rfl
@[go_sem] theorem fact_cv3_160 : cvT Try.prog 3 160 = .int .u32 := by kernel_rfl
@[go_sem] theorem fact_cv3_163 : cvT Try.prog 3 163 = .int .u64 := by kernel_rfl
@[go_sem] theorem fact_cv5_2 : cvT Try.prog 5 2 = .int .i64 := by kernel_rfl
@[go_sem] theorem fact_cv5_3 : cvT Try.prog 5 3 = .int .i64 := by kernel_rfl
@[go_sem] theorem fact_cv5_5 : cvT Try.prog 5 5 = .int .u8 := by kernel_rfl
@[go_sem] theorem fact_cv5_12 : cvT Try.prog 5 12 = .int .u64 := by kernel_rfl
@[go_sem] theorem fact_cv5_21 : cvT Try.prog 5 21 = .int .i32 := by kernel_rfl
@[go_sem] theorem fact_cv5_130 : cvT Try.prog 5 130 = .int .u64 := by kernel_rfl
@[go_sem] theorem fact_cv5_160 : cvT Try.prog 5 160 = .int .u32 := by kernel_rfl
@[go_sem] theorem fact_cv5_163 : cvT Try.prog 5 163 = .int .u64 := by kernel_rfl
@[go_sem] theorem fact_cv12_2 : cvT Try.prog 12 2 = .int .i64 := by kernel_rfl
@[go_sem] theorem fact_cv12_3 : cvT Try.prog 12 3 = .int .i64 := by kernel_rfl
@[go_sem] theorem fact_cv12_5 : cvT Try.prog 12 5 = .int .u8 := by kernel_rfl
@[go_sem] theorem fact_cv12_12 : cvT Try.prog 12 12 = .int .u64 := by kernel_rfl
@[go_sem] theorem fact_cv12_21 : cvT Try.prog 12 21 = .int .i32 := by kernel_rfl
@[go_sem] theorem fact_cv12_130 : cvT Try.prog 12 130 = .int .u64 := by kernel_rfl
@[go_sem] theorem fact_cv12_160 : cvT Try.prog 12 160 = .int .u32 := by kernel_rfl
@[go_sem] theorem fact_cv12_163 : cvT Try.prog 12 163 = .int .u64 := by kernel_rfl
@[go_sem] theorem fact_cv21_2 : cvT Try.prog 21 2 = .int .i64 := by kernel_rfl
@[go_sem] theorem fact_cv21_3 : cvT Try.prog 21 3 = .int .i64 := by kernel_rfl
@[go_sem] theorem fact_cv21_5 : cvT Try.prog 21 5 = .int .u8 := by kernel_rfl
@[go_sem] theorem fact_cv21_12 : cvT Try.prog 21 12 = .int .u64 := by kernel_rfl
@[go_sem] theorem fact_cv21_21 : cvT Try.prog 21 21 = .int .i32 := by kernel_rfl
@[go_sem] theorem fact_cv21_130 : cvT Try.prog 21 130 = .int .u64 := by kernel_rfl
@[go_sem] theorem fact_cv21_160 : cvT Try.prog 21 160 = .int .u32 := by kernel_rfl
@[go_sem] theorem fact_cv21_163 : cvT Try.prog 21 163 = .int .u64 := by kernel_rfl
@[go_sem] theorem fact_cv130_2 : cvT Try.prog 130 2 = .int .i64 := by kernel_rfl
@[go_sem] theorem fact_cv130_3 : cvT Try.prog 130 3 = .int .i64 := by kernel_rfl
@[go_sem] theorem fact_cv130_5 : cvT Try.prog 130 5 = .int .u8 := by kernel_rfl
@[go_sem] theorem fact_cv130_12 : cvT Try.prog 130 12 = .int .u64 := by kernel_rfl
@[go_sem] theorem fact_cv130_21 : cvT Try.prog 130 21 = .int .i32 := by kernel_rfl
@[go_sem] theorem fact_cv130_130 : cvT Try.prog 130 130 = .int .u64 := by kernel_rfl
@[go_sem] theorem fact_cv130_160 : cvT Try.prog 130 160 = .int .u32 := by kernel_rfl
@[go_sem] theorem fact_cv130_163 : cvT Try.prog 130 163 = .int .u64 := by kernel_rfl
@[go_sem] theorem fact_cv160_2 : cvT Try.prog 160 2 = .int .i64 := by kernel_rfl
@[go_sem] theorem fact_cv160_3 : cvT Try.prog 160 3 = .int .i64 := by kernel_rfl
@[go_sem] theorem fact_cv160_5 : cvT Try.prog 160 5 = .int .u8 := by kernel_rfl
@[go_sem] theorem fact_cv160_12 : cvT Try.prog 160 12 = .int .u64 := by kernel_rfl
@[go_sem] theorem fact_cv160_21 : cvT Try.prog 160 21 = .int .i32 := by kernel_rfl
@[go_sem] theorem fact_cv160_130 : cvT Try.prog 160 130 = .int .u64 := by kernel_rfl
@[go_sem] theorem fact_cv160_160 : cvT Try.prog 160 160 = .int .u32 := by kernel_rfl
@[go_sem] theorem fact_cv160_163 : cvT Try.prog 160 163 = .int .u64 := by kernel_rfl
@[go_sem] theorem fact_cv163_2 : cvT Try.prog 163 2 = .int .i64 := by kernel_rfl
@[go_sem] theorem fact_cv163_3 : cvT Try.prog 163 3 = .int .i64 := by kernel_rfl
@[go_sem] theorem fact_cv163_5 : cvT Try.prog 163 5 = .int .u8 := by kernel_rfl
@[go_sem] theorem fact_cv163_12 : cvT Try.prog 163 12 = .int .u64 := by kernel_rfl
@[go_sem] theorem fact_cv163_21 : cvT Try.prog 163 21 = .int .i32 := by kernel_rfl
@[go_sem] theorem fact_cv163_130 : cvT Try.prog 163 130 = .int .u64 := by kernel_rfl
@[go_sem] theorem fact_cv163_160 : cvT Try.prog 163 160 = .int .u32 := by kernel_rfl
@[go_sem] theorem fact_cv163_163 : cvT Try.prog 163 163 = .int .u64 := by kernel_rfl
@[go_sem] theorem fact_cv9_9 : cvT Try.prog 9 9 = .same := by kernel_rfl
@[go_sem] theorem fact_cv9_10 : cvT Try.prog 9 10 = .same := by kernel_rfl
@[go_sem] theorem fact_cv9_11 : cvT Try.prog 9 11 = .same := by kernel_rfl
@[go_sem] theorem fact_cv9_52 : cvT Try.prog 9 52 = .bytes 5 := by kernel_rfl
@[go_sem] theorem fact_cv52_9 : cvT Try.prog 52 9 = .str := by kernel_rfl
@[go_sem] theorem fact_cv10_9 : cvT Try.prog 10 9 = .same := by kernel_rfl
@[go_sem] theorem fact_cv10_10 : cvT Try.prog 10 10 = .same := by kernel_rfl
@[go_sem] theorem fact_cv10_11 : cvT Try.prog 10 11 = .same := by kernel_rfl
@[go_sem] theorem fact_cv10_52 : cvT Try.prog 10 52 = .bytes 5 := by kernel_rfl
@[go_sem] theorem fact_cv52_10 : cvT Try.prog 52 10 = .str := by kernel_rfl
@[go_sem] theorem fact_cv11_9 : cvT Try.prog 11 9 = .same := by kernel_rfl
@[go_sem] theorem fact_cv11_10 : cvT Try.prog 11 10 = .same := by kernel_rfl
@[go_sem] theorem fact_cv11_11 : cvT Try.prog 11 11 = .same := by kernel_rfl
@[go_sem] theorem fact_cv11_52 : cvT Try.prog 11 52 = .bytes 5 := by kernel_rfl
@[go_sem] theorem fact_cv52_11 : cvT Try.prog 52 11 = .str := by kernel_rfl

end Go.Proofs.Ytfgblelbhlpfjaa
