import Derived.Test.YtphpegemhnodcaaRows
import Derived.Test.YtphpegemhnodcaaQ2
import Derived.KernelRfl
/- The facts on types that the walk over abstract values wants, in this seat's numbers. Written by facts.py. -/
section
namespace Go.Proofs.Ytphpegemhnodcaa
open Go.Av

@[go_sem] theorem fact_ty1 : tyOf Try.prog 1 = some ⟨false, 1, [.nilFunc]⟩ := by kernel_rfl
@[go_sem] theorem fact_isint2 : isIntT Try.prog 2 = true := by kernel_rfl
@[go_sem] theorem fact_ty2 : tyOf Try.prog 2 = some ⟨false, 1, [.int .i64 0]⟩ := by kernel_rfl
@[go_sem] theorem fact_isint3 : isIntT Try.prog 3 = true := by kernel_rfl
@[go_sem] theorem fact_ty3 : tyOf Try.prog 3 = some ⟨false, 1, [.int .i64 0]⟩ := by kernel_rfl
@[go_sem] theorem fact_eq4 : eqT Try.prog 4 = .bool := by kernel_rfl
@[go_sem] theorem fact_ty4 : tyOf Try.prog 4 = some ⟨false, 1, [.bool false]⟩ := by kernel_rfl
@[go_sem] theorem fact_isint5 : isIntT Try.prog 5 = true := by kernel_rfl
@[go_sem] theorem fact_ty5 : tyOf Try.prog 5 = some ⟨false, 1, [.int .u8 0]⟩ := by kernel_rfl
@[go_sem] theorem fact_isint6 : isIntT Try.prog 6 = true := by kernel_rfl
@[go_sem] theorem fact_ty6 : tyOf Try.prog 6 = some ⟨false, 1, [.int .u8 0]⟩ := by kernel_rfl
@[go_sem] theorem fact_ty7 : tyOf Try.prog 7 = some ⟨true, 4, [.int .i64 0, .int .i64 0, .bool false, .int .u8 0]⟩ := by kernel_rfl
@[go_sem] theorem fact_fld7_0 : fldOf Try.prog 7 0 = some ⟨0, 1, false⟩ := by kernel_rfl
@[go_sem] theorem fact_fld7_1 : fldOf Try.prog 7 1 = some ⟨1, 1, false⟩ := by kernel_rfl
@[go_sem] theorem fact_fld7_2 : fldOf Try.prog 7 2 = some ⟨2, 1, false⟩ := by kernel_rfl
@[go_sem] theorem fact_fld7_3 : fldOf Try.prog 7 3 = some ⟨3, 1, false⟩ := by kernel_rfl
@[go_sem] theorem fact_bld7 : bldOf Try.prog 7 = some ⟨4, [.int .i64 0, .int .i64 0, .bool false, .int .u8 0], [(0, 1), (1, 1), (2, 1), (3, 1)]⟩ := by kernel_rfl
@[go_sem] theorem fact_ty8 : tyOf Try.prog 8 = some ⟨true, 4, [.int .i64 0, .int .i64 0, .bool false, .int .u8 0]⟩ := by kernel_rfl
@[go_sem] theorem fact_fld8_0 : fldOf Try.prog 8 0 = some ⟨0, 1, false⟩ := by kernel_rfl
@[go_sem] theorem fact_fld8_1 : fldOf Try.prog 8 1 = some ⟨1, 1, false⟩ := by kernel_rfl
@[go_sem] theorem fact_fld8_2 : fldOf Try.prog 8 2 = some ⟨2, 1, false⟩ := by kernel_rfl
@[go_sem] theorem fact_fld8_3 : fldOf Try.prog 8 3 = some ⟨3, 1, false⟩ := by kernel_rfl
@[go_sem] theorem fact_bld8 : bldOf Try.prog 8 = some ⟨4, [.int .i64 0, .int .i64 0, .bool false, .int .u8 0], [(0, 1), (1, 1), (2, 1), (3, 1)]⟩ := by kernel_rfl
@[go_sem] theorem fact_len9 : lenT Try.prog 9 = .str := by kernel_rfl
@[go_sem] theorem fact_st9 : isStr Try.prog 9 = true := by kernel_rfl
@[go_sem] theorem fact_sl9 : slT Try.prog 9 = .str := by kernel_rfl
@[go_sem] theorem fact_ty9 : tyOf Try.prog 9 = some ⟨false, 1, [.string ⟨#[]⟩]⟩ := by kernel_rfl
@[go_sem] theorem fact_len10 : lenT Try.prog 10 = .str := by kernel_rfl
@[go_sem] theorem fact_st10 : isStr Try.prog 10 = true := by kernel_rfl
@[go_sem] theorem fact_sl10 : slT Try.prog 10 = .str := by kernel_rfl
@[go_sem] theorem fact_ty10 : tyOf Try.prog 10 = some ⟨false, 1, [.string ⟨#[]⟩]⟩ := by kernel_rfl
@[go_sem] theorem fact_len11 : lenT Try.prog 11 = .str := by kernel_rfl
@[go_sem] theorem fact_st11 : isStr Try.prog 11 = true := by kernel_rfl
@[go_sem] theorem fact_sl11 : slT Try.prog 11 = .str := by kernel_rfl
@[go_sem] theorem fact_ty11 : tyOf Try.prog 11 = some ⟨false, 1, [.string ⟨#[]⟩]⟩ := by kernel_rfl
@[go_sem] theorem fact_isint12 : isIntT Try.prog 12 = true := by kernel_rfl
@[go_sem] theorem fact_ty12 : tyOf Try.prog 12 = some ⟨false, 1, [.int .u64 0]⟩ := by kernel_rfl
@[go_sem] theorem fact_ty13 : tyOf Try.prog 13 = some ⟨true, 2, [.string ⟨#[]⟩, .int .u64 0]⟩ := by kernel_rfl
@[go_sem] theorem fact_fld13_0 : fldOf Try.prog 13 0 = some ⟨0, 1, false⟩ := by kernel_rfl
@[go_sem] theorem fact_fld13_1 : fldOf Try.prog 13 1 = some ⟨1, 1, false⟩ := by kernel_rfl
@[go_sem] theorem fact_bld13 : bldOf Try.prog 13 = some ⟨2, [.string ⟨#[]⟩, .int .u64 0], [(0, 1), (1, 1)]⟩ := by kernel_rfl
@[go_sem] theorem fact_ty14 : tyOf Try.prog 14 = some ⟨true, 2, [.string ⟨#[]⟩, .int .u64 0]⟩ := by kernel_rfl
@[go_sem] theorem fact_fld14_0 : fldOf Try.prog 14 0 = some ⟨0, 1, false⟩ := by kernel_rfl
@[go_sem] theorem fact_fld14_1 : fldOf Try.prog 14 1 = some ⟨1, 1, false⟩ := by kernel_rfl
@[go_sem] theorem fact_bld14 : bldOf Try.prog 14 = some ⟨2, [.string ⟨#[]⟩, .int .u64 0], [(0, 1), (1, 1)]⟩ := by kernel_rfl
@[go_sem] theorem fact_eq15 : eqT Try.prog 15 = .ptr := by kernel_rfl
@[go_sem] theorem fact_ty15 : tyOf Try.prog 15 = some ⟨false, 1, [.pointer none]⟩ := by kernel_rfl
@[go_sem] theorem fact_eq16 : eqT Try.prog 16 = .ptr := by kernel_rfl
@[go_sem] theorem fact_ty16 : tyOf Try.prog 16 = some ⟨false, 1, [.pointer none]⟩ := by kernel_rfl
@[go_sem] theorem fact_eq17 : eqT Try.prog 17 = .ptr := by kernel_rfl
@[go_sem] theorem fact_ty17 : tyOf Try.prog 17 = some ⟨false, 1, [.pointer none]⟩ := by kernel_rfl
@[go_sem] theorem fact_ty18 : tyOf Try.prog 18 = some ⟨true, 1, [.pointer none]⟩ := by kernel_rfl
@[go_sem] theorem fact_fld18_0 : fldOf Try.prog 18 0 = some ⟨0, 1, false⟩ := by kernel_rfl
@[go_sem] theorem fact_bld18 : bldOf Try.prog 18 = some ⟨1, [.pointer none], [(0, 1)]⟩ := by kernel_rfl
@[go_sem] theorem fact_ty19 : tyOf Try.prog 19 = some ⟨true, 1, [.pointer none]⟩ := by kernel_rfl
@[go_sem] theorem fact_fld19_0 : fldOf Try.prog 19 0 = some ⟨0, 1, false⟩ := by kernel_rfl
@[go_sem] theorem fact_bld19 : bldOf Try.prog 19 = some ⟨1, [.pointer none], [(0, 1)]⟩ := by kernel_rfl
@[go_sem] theorem fact_isint21 : isIntT Try.prog 21 = true := by kernel_rfl
@[go_sem] theorem fact_ty21 : tyOf Try.prog 21 = some ⟨false, 1, [.int .i32 0]⟩ := by kernel_rfl
@[go_sem] theorem fact_sel22 : selOf Try.prog 22 = some ⟨80, 6, 64, [.int .i64 0, .int .i64 0, .int .i64 0, .int .i64 0, .int .i64 0, .slice none 0 0]⟩ := by kernel_rfl
@[go_sem] theorem fact_eq22 : eqT Try.prog 22 = .slice := by kernel_rfl
@[go_sem] theorem fact_len22 : lenT Try.prog 22 = .slice := by kernel_rfl
@[go_sem] theorem fact_sl22 : slT Try.prog 22 = .slice 6 := by kernel_rfl
@[go_sem] theorem fact_ty22 : tyOf Try.prog 22 = some ⟨false, 1, [.slice none 0 0]⟩ := by kernel_rfl
@[go_sem] theorem fact_ty23 : tyOf Try.prog 23 = some ⟨false, 1, [.nilFunc]⟩ := by kernel_rfl
@[go_sem] theorem fact_sel24 : selOf Try.prog 24 = some ⟨2, 1, 8, [.int .i64 0]⟩ := by kernel_rfl
@[go_sem] theorem fact_eq24 : eqT Try.prog 24 = .slice := by kernel_rfl
@[go_sem] theorem fact_len24 : lenT Try.prog 24 = .slice := by kernel_rfl
@[go_sem] theorem fact_sl24 : slT Try.prog 24 = .slice 1 := by kernel_rfl
@[go_sem] theorem fact_ty24 : tyOf Try.prog 24 = some ⟨false, 1, [.slice none 0 0]⟩ := by kernel_rfl
@[go_sem] theorem fact_ty26 : tyOf Try.prog 26 = some ⟨false, 1, [.nilFunc]⟩ := by kernel_rfl
@[go_sem] theorem fact_sel27 : selOf Try.prog 27 = some ⟨83, 6, 64, [.int .i64 0, .int .i64 0, .int .i64 0, .int .i64 0, .int .i64 0, .slice none 0 0]⟩ := by kernel_rfl
@[go_sem] theorem fact_eq27 : eqT Try.prog 27 = .slice := by kernel_rfl
@[go_sem] theorem fact_len27 : lenT Try.prog 27 = .slice := by kernel_rfl
@[go_sem] theorem fact_sl27 : slT Try.prog 27 = .slice 6 := by kernel_rfl
@[go_sem] theorem fact_ty27 : tyOf Try.prog 27 = some ⟨false, 1, [.slice none 0 0]⟩ := by kernel_rfl
@[go_sem] theorem fact_ty28 : tyOf Try.prog 28 = some ⟨false, 1, [.nilFunc]⟩ := by kernel_rfl
@[go_sem] theorem fact_ty29 : tyOf Try.prog 29 = some ⟨false, 1, [.nilFunc]⟩ := by kernel_rfl
@[go_sem] theorem fact_ty30 : tyOf Try.prog 30 = some ⟨false, 1, [.nilFunc]⟩ := by kernel_rfl
@[go_sem] theorem fact_ty31 : tyOf Try.prog 31 = some ⟨false, 1, [.nilFunc]⟩ := by kernel_rfl
@[go_sem] theorem fact_ty32 : tyOf Try.prog 32 = some ⟨false, 1, [.nilFunc]⟩ := by kernel_rfl
@[go_sem] theorem fact_ty33 : tyOf Try.prog 33 = some ⟨false, 1, [.nilFunc]⟩ := by kernel_rfl
@[go_sem] theorem fact_ty35 : tyOf Try.prog 35 = some ⟨false, 1, [.nilFunc]⟩ := by kernel_rfl
@[go_sem] theorem fact_ty36 : tyOf Try.prog 36 = some ⟨false, 1, [.nilFunc]⟩ := by kernel_rfl
@[go_sem] theorem fact_ty37 : tyOf Try.prog 37 = some ⟨false, 1, [.nilFunc]⟩ := by kernel_rfl
@[go_sem] theorem fact_sel38 : selOf Try.prog 38 = some ⟨5, 1, 1, [.int .u8 0]⟩ := by kernel_rfl
@[go_sem] theorem fact_eq38 : eqT Try.prog 38 = .slice := by kernel_rfl
@[go_sem] theorem fact_len38 : lenT Try.prog 38 = .slice := by kernel_rfl
@[go_sem] theorem fact_sl38 : slT Try.prog 38 = .slice 1 := by kernel_rfl
@[go_sem] theorem fact_ty38 : tyOf Try.prog 38 = some ⟨false, 1, [.slice none 0 0]⟩ := by kernel_rfl
@[go_sem] theorem fact_ty39 : tyOf Try.prog 39 = some ⟨false, 1, [.nilFunc]⟩ := by kernel_rfl
@[go_sem] theorem fact_sel40 : selOf Try.prog 40 = some ⟨24, 1, 24, [.slice none 0 0]⟩ := by kernel_rfl
@[go_sem] theorem fact_eq40 : eqT Try.prog 40 = .slice := by kernel_rfl
@[go_sem] theorem fact_len40 : lenT Try.prog 40 = .slice := by kernel_rfl
@[go_sem] theorem fact_sl40 : slT Try.prog 40 = .slice 1 := by kernel_rfl
@[go_sem] theorem fact_ty40 : tyOf Try.prog 40 = some ⟨false, 1, [.slice none 0 0]⟩ := by kernel_rfl
@[go_sem] theorem fact_ty41 : tyOf Try.prog 41 = some ⟨true, 3, [.int .i64 0, .string ⟨#[]⟩, .slice none 0 0]⟩ := by kernel_rfl
@[go_sem] theorem fact_fld41_0 : fldOf Try.prog 41 0 = some ⟨0, 1, false⟩ := by kernel_rfl
@[go_sem] theorem fact_fld41_1 : fldOf Try.prog 41 1 = some ⟨1, 1, false⟩ := by kernel_rfl
@[go_sem] theorem fact_fld41_2 : fldOf Try.prog 41 2 = some ⟨2, 1, false⟩ := by kernel_rfl
@[go_sem] theorem fact_bld41 : bldOf Try.prog 41 = some ⟨3, [.int .i64 0, .string ⟨#[]⟩, .slice none 0 0], [(0, 1), (1, 1), (2, 1)]⟩ := by kernel_rfl
@[go_sem] theorem fact_ty42 : tyOf Try.prog 42 = some ⟨true, 3, [.int .i64 0, .string ⟨#[]⟩, .slice none 0 0]⟩ := by kernel_rfl
@[go_sem] theorem fact_fld42_0 : fldOf Try.prog 42 0 = some ⟨0, 1, false⟩ := by kernel_rfl
@[go_sem] theorem fact_fld42_1 : fldOf Try.prog 42 1 = some ⟨1, 1, false⟩ := by kernel_rfl
@[go_sem] theorem fact_fld42_2 : fldOf Try.prog 42 2 = some ⟨2, 1, false⟩ := by kernel_rfl
@[go_sem] theorem fact_bld42 : bldOf Try.prog 42 = some ⟨3, [.int .i64 0, .string ⟨#[]⟩, .slice none 0 0], [(0, 1), (1, 1), (2, 1)]⟩ := by kernel_rfl
@[go_sem] theorem fact_ty44 : tyOf Try.prog 44 = some ⟨false, 1, [.nilFunc]⟩ := by kernel_rfl
@[go_sem] theorem fact_ty45 : tyOf Try.prog 45 = some ⟨false, 1, [.nilFunc]⟩ := by kernel_rfl
@[go_sem] theorem fact_ty46 : tyOf Try.prog 46 = some ⟨false, 1, [.nilFunc]⟩ := by kernel_rfl
@[go_sem] theorem fact_ty47 : tyOf Try.prog 47 = some ⟨false, 1, [.nilFunc]⟩ := by kernel_rfl
@[go_sem] theorem fact_ty48 : tyOf Try.prog 48 = some ⟨false, 1, [.nilFunc]⟩ := by kernel_rfl
@[go_sem] theorem fact_ty49 : tyOf Try.prog 49 = some ⟨false, 1, [.nilFunc]⟩ := by kernel_rfl
@[go_sem] theorem fact_ty51 : tyOf Try.prog 51 = some ⟨false, 1, [.nilFunc]⟩ := by kernel_rfl
@[go_sem] theorem fact_ty52 : tyOf Try.prog 52 = some ⟨false, 1, [.nilFunc]⟩ := by kernel_rfl
@[go_sem] theorem fact_ty53 : tyOf Try.prog 53 = some ⟨false, 1, [.nilFunc]⟩ := by kernel_rfl
@[go_sem] theorem fact_ty54 : tyOf Try.prog 54 = some ⟨false, 1, [.nilFunc]⟩ := by kernel_rfl
@[go_sem] theorem fact_ty55 : tyOf Try.prog 55 = some ⟨false, 1, [.nilFunc]⟩ := by kernel_rfl
@[go_sem] theorem fact_eq56 : eqT Try.prog 56 = .ptr := by kernel_rfl
@[go_sem] theorem fact_ty56 : tyOf Try.prog 56 = some ⟨false, 1, [.pointer none]⟩ := by kernel_rfl
@[go_sem] theorem fact_ty57 : tyOf Try.prog 57 = some ⟨false, 1, [.nilFunc]⟩ := by kernel_rfl
@[go_sem] theorem fact_isint58 : isIntT Try.prog 58 = true := by kernel_rfl
@[go_sem] theorem fact_ty58 : tyOf Try.prog 58 = some ⟨false, 1, [.int .u64 0]⟩ := by kernel_rfl
@[go_sem] theorem fact_ty59 : tyOf Try.prog 59 = some ⟨false, 1, [.nilFunc]⟩ := by kernel_rfl
@[go_sem] theorem fact_ty60 : tyOf Try.prog 60 = some ⟨false, 1, [.nilFunc]⟩ := by kernel_rfl
@[go_sem] theorem fact_ty61 : tyOf Try.prog 61 = some ⟨false, 1, [.nilFunc]⟩ := by kernel_rfl
@[go_sem] theorem fact_ty62 : tyOf Try.prog 62 = some ⟨false, 1, [.nilFunc]⟩ := by kernel_rfl
@[go_sem] theorem fact_ty63 : tyOf Try.prog 63 = some ⟨false, 1, [.nilFunc]⟩ := by kernel_rfl
@[go_sem] theorem fact_ty65 : tyOf Try.prog 65 = some ⟨false, 1, [.nilFunc]⟩ := by kernel_rfl
@[go_sem] theorem fact_ty66 : tyOf Try.prog 66 = some ⟨false, 1, [.nilFunc]⟩ := by kernel_rfl
@[go_sem] theorem fact_ty67 : tyOf Try.prog 67 = some ⟨false, 1, [.nilFunc]⟩ := by kernel_rfl
@[go_sem] theorem fact_ty68 : tyOf Try.prog 68 = some ⟨false, 1, [.nilFunc]⟩ := by kernel_rfl
@[go_sem] theorem fact_sel69 : selOf Try.prog 69 = some ⟨40, 1, 24, [.slice none 0 0]⟩ := by kernel_rfl
@[go_sem] theorem fact_eq69 : eqT Try.prog 69 = .slice := by kernel_rfl
@[go_sem] theorem fact_len69 : lenT Try.prog 69 = .slice := by kernel_rfl
@[go_sem] theorem fact_sl69 : slT Try.prog 69 = .slice 1 := by kernel_rfl
@[go_sem] theorem fact_ty69 : tyOf Try.prog 69 = some ⟨false, 1, [.slice none 0 0]⟩ := by kernel_rfl
@[go_sem] theorem fact_ty70 : tyOf Try.prog 70 = some ⟨false, 1, [.nilFunc]⟩ := by kernel_rfl
@[go_sem] theorem fact_ty72 : tyOf Try.prog 72 = some ⟨false, 1, [.nilFunc]⟩ := by kernel_rfl
@[go_sem] theorem fact_ty73 : tyOf Try.prog 73 = some ⟨false, 1, [.nilFunc]⟩ := by kernel_rfl
@[go_sem] theorem fact_ty75 : tyOf Try.prog 75 = some ⟨false, 1, [.nilFunc]⟩ := by kernel_rfl
@[go_sem] theorem fact_ty76 : tyOf Try.prog 76 = some ⟨false, 1, [.nilFunc]⟩ := by kernel_rfl
@[go_sem] theorem fact_ty77 : tyOf Try.prog 77 = some ⟨false, 1, [.nilFunc]⟩ := by kernel_rfl
@[go_sem] theorem fact_ty78 : tyOf Try.prog 78 = some ⟨false, 1, [.nilFunc]⟩ := by kernel_rfl
@[go_sem] theorem fact_ty79 : tyOf Try.prog 79 = some ⟨true, 6, [.int .i64 0, .int .i64 0, .int .i64 0, .int .i64 0, .int .i64 0, .slice none 0 0]⟩ := by kernel_rfl
@[go_sem] theorem fact_fld79_0 : fldOf Try.prog 79 0 = some ⟨0, 1, false⟩ := by kernel_rfl
@[go_sem] theorem fact_fld79_1 : fldOf Try.prog 79 1 = some ⟨1, 1, false⟩ := by kernel_rfl
@[go_sem] theorem fact_fld79_2 : fldOf Try.prog 79 2 = some ⟨2, 1, false⟩ := by kernel_rfl
@[go_sem] theorem fact_fld79_3 : fldOf Try.prog 79 3 = some ⟨3, 1, false⟩ := by kernel_rfl
@[go_sem] theorem fact_fld79_4 : fldOf Try.prog 79 4 = some ⟨4, 1, false⟩ := by kernel_rfl
@[go_sem] theorem fact_fld79_5 : fldOf Try.prog 79 5 = some ⟨5, 1, false⟩ := by kernel_rfl
@[go_sem] theorem fact_bld79 : bldOf Try.prog 79 = some ⟨6, [.int .i64 0, .int .i64 0, .int .i64 0, .int .i64 0, .int .i64 0, .slice none 0 0], [(0, 1), (1, 1), (2, 1), (3, 1), (4, 1), (5, 1)]⟩ := by kernel_rfl
@[go_sem] theorem fact_ty80 : tyOf Try.prog 80 = some ⟨true, 6, [.int .i64 0, .int .i64 0, .int .i64 0, .int .i64 0, .int .i64 0, .slice none 0 0]⟩ := by kernel_rfl
@[go_sem] theorem fact_fld80_0 : fldOf Try.prog 80 0 = some ⟨0, 1, false⟩ := by kernel_rfl
@[go_sem] theorem fact_fld80_1 : fldOf Try.prog 80 1 = some ⟨1, 1, false⟩ := by kernel_rfl
@[go_sem] theorem fact_fld80_2 : fldOf Try.prog 80 2 = some ⟨2, 1, false⟩ := by kernel_rfl
@[go_sem] theorem fact_fld80_3 : fldOf Try.prog 80 3 = some ⟨3, 1, false⟩ := by kernel_rfl
@[go_sem] theorem fact_fld80_4 : fldOf Try.prog 80 4 = some ⟨4, 1, false⟩ := by kernel_rfl
@[go_sem] theorem fact_fld80_5 : fldOf Try.prog 80 5 = some ⟨5, 1, false⟩ := by kernel_rfl
@[go_sem] theorem fact_bld80 : bldOf Try.prog 80 = some ⟨6, [.int .i64 0, .int .i64 0, .int .i64 0, .int .i64 0, .int .i64 0, .slice none 0 0], [(0, 1), (1, 1), (2, 1), (3, 1), (4, 1), (5, 1)]⟩ := by kernel_rfl
@[go_sem] theorem fact_ty81 : tyOf Try.prog 81 = some ⟨false, 1, [.nilFunc]⟩ := by kernel_rfl
@[go_sem] theorem fact_ty82 : tyOf Try.prog 82 = some ⟨false, 1, [.nilFunc]⟩ := by kernel_rfl
@[go_sem] theorem fact_ty83 : tyOf Try.prog 83 = some ⟨true, 6, [.int .i64 0, .int .i64 0, .int .i64 0, .int .i64 0, .int .i64 0, .slice none 0 0]⟩ := by kernel_rfl
@[go_sem] theorem fact_fld83_0 : fldOf Try.prog 83 0 = some ⟨0, 1, false⟩ := by kernel_rfl
@[go_sem] theorem fact_fld83_1 : fldOf Try.prog 83 1 = some ⟨1, 1, false⟩ := by kernel_rfl
@[go_sem] theorem fact_fld83_2 : fldOf Try.prog 83 2 = some ⟨2, 1, false⟩ := by kernel_rfl
@[go_sem] theorem fact_fld83_3 : fldOf Try.prog 83 3 = some ⟨3, 1, false⟩ := by kernel_rfl
@[go_sem] theorem fact_fld83_4 : fldOf Try.prog 83 4 = some ⟨4, 1, false⟩ := by kernel_rfl
@[go_sem] theorem fact_fld83_5 : fldOf Try.prog 83 5 = some ⟨5, 1, false⟩ := by kernel_rfl
@[go_sem] theorem fact_bld83 : bldOf Try.prog 83 = some ⟨6, [.int .i64 0, .int .i64 0, .int .i64 0, .int .i64 0, .int .i64 0, .slice none 0 0], [(0, 1), (1, 1), (2, 1), (3, 1), (4, 1), (5, 1)]⟩ := by kernel_rfl
@[go_sem] theorem fact_ty84 : tyOf Try.prog 84 = some ⟨false, 1, [.nilFunc]⟩ := by kernel_rfl
@[go_sem] theorem fact_ty85 : tyOf Try.prog 85 = some ⟨false, 1, [.nilFunc]⟩ := by kernel_rfl
@[go_sem] theorem fact_ty86 : tyOf Try.prog 86 = some ⟨false, 1, [.nilFunc]⟩ := by kernel_rfl
@[go_sem] theorem fact_ty87 : tyOf Try.prog 87 = some ⟨false, 1, [.nilFunc]⟩ := by kernel_rfl
@[go_sem] theorem fact_ty88 : tyOf Try.prog 88 = some ⟨false, 1, [.nilFunc]⟩ := by kernel_rfl
@[go_sem] theorem fact_ty89 : tyOf Try.prog 89 = some ⟨true, 5, [.string ⟨#[]⟩, .string ⟨#[]⟩, .int .i64 0, .slice none 0 0, .int .i64 0]⟩ := by kernel_rfl
@[go_sem] theorem fact_fld89_0 : fldOf Try.prog 89 0 = some ⟨0, 1, false⟩ := by kernel_rfl
@[go_sem] theorem fact_fld89_1 : fldOf Try.prog 89 1 = some ⟨1, 1, false⟩ := by kernel_rfl
@[go_sem] theorem fact_fld89_2 : fldOf Try.prog 89 2 = some ⟨2, 1, false⟩ := by kernel_rfl
@[go_sem] theorem fact_fld89_3 : fldOf Try.prog 89 3 = some ⟨3, 1, false⟩ := by kernel_rfl
@[go_sem] theorem fact_fld89_4 : fldOf Try.prog 89 4 = some ⟨4, 1, false⟩ := by kernel_rfl
@[go_sem] theorem fact_bld89 : bldOf Try.prog 89 = some ⟨5, [.string ⟨#[]⟩, .string ⟨#[]⟩, .int .i64 0, .slice none 0 0, .int .i64 0], [(0, 1), (1, 1), (2, 1), (3, 1), (4, 1)]⟩ := by kernel_rfl
@[go_sem] theorem fact_ty90 : tyOf Try.prog 90 = some ⟨true, 5, [.string ⟨#[]⟩, .string ⟨#[]⟩, .int .i64 0, .slice none 0 0, .int .i64 0]⟩ := by kernel_rfl
@[go_sem] theorem fact_fld90_0 : fldOf Try.prog 90 0 = some ⟨0, 1, false⟩ := by kernel_rfl
@[go_sem] theorem fact_fld90_1 : fldOf Try.prog 90 1 = some ⟨1, 1, false⟩ := by kernel_rfl
@[go_sem] theorem fact_fld90_2 : fldOf Try.prog 90 2 = some ⟨2, 1, false⟩ := by kernel_rfl
@[go_sem] theorem fact_fld90_3 : fldOf Try.prog 90 3 = some ⟨3, 1, false⟩ := by kernel_rfl
@[go_sem] theorem fact_fld90_4 : fldOf Try.prog 90 4 = some ⟨4, 1, false⟩ := by kernel_rfl
@[go_sem] theorem fact_bld90 : bldOf Try.prog 90 = some ⟨5, [.string ⟨#[]⟩, .string ⟨#[]⟩, .int .i64 0, .slice none 0 0, .int .i64 0], [(0, 1), (1, 1), (2, 1), (3, 1), (4, 1)]⟩ := by kernel_rfl
@[go_sem] theorem fact_ty92 : tyOf Try.prog 92 = some ⟨false, 1, [.nilFunc]⟩ := by kernel_rfl
@[go_sem] theorem fact_ty93 : tyOf Try.prog 93 = some ⟨false, 1, [.nilFunc]⟩ := by kernel_rfl
@[go_sem] theorem fact_eq94 : eqT Try.prog 94 = .ptr := by kernel_rfl
@[go_sem] theorem fact_ty94 : tyOf Try.prog 94 = some ⟨false, 1, [.pointer none]⟩ := by kernel_rfl
@[go_sem] theorem fact_ty95 : tyOf Try.prog 95 = some ⟨true, 5, [.string ⟨#[]⟩, .string ⟨#[]⟩, .int .i64 0, .bool false, .slice none 0 0]⟩ := by kernel_rfl
@[go_sem] theorem fact_fld95_0 : fldOf Try.prog 95 0 = some ⟨0, 1, false⟩ := by kernel_rfl
@[go_sem] theorem fact_fld95_1 : fldOf Try.prog 95 1 = some ⟨1, 1, false⟩ := by kernel_rfl
@[go_sem] theorem fact_fld95_2 : fldOf Try.prog 95 2 = some ⟨2, 1, false⟩ := by kernel_rfl
@[go_sem] theorem fact_fld95_3 : fldOf Try.prog 95 3 = some ⟨3, 1, false⟩ := by kernel_rfl
@[go_sem] theorem fact_fld95_4 : fldOf Try.prog 95 4 = some ⟨4, 1, false⟩ := by kernel_rfl
@[go_sem] theorem fact_bld95 : bldOf Try.prog 95 = some ⟨5, [.string ⟨#[]⟩, .string ⟨#[]⟩, .int .i64 0, .bool false, .slice none 0 0], [(0, 1), (1, 1), (2, 1), (3, 1), (4, 1)]⟩ := by kernel_rfl
@[go_sem] theorem fact_ty96 : tyOf Try.prog 96 = some ⟨true, 5, [.string ⟨#[]⟩, .string ⟨#[]⟩, .int .i64 0, .bool false, .slice none 0 0]⟩ := by kernel_rfl
@[go_sem] theorem fact_fld96_0 : fldOf Try.prog 96 0 = some ⟨0, 1, false⟩ := by kernel_rfl
@[go_sem] theorem fact_fld96_1 : fldOf Try.prog 96 1 = some ⟨1, 1, false⟩ := by kernel_rfl
@[go_sem] theorem fact_fld96_2 : fldOf Try.prog 96 2 = some ⟨2, 1, false⟩ := by kernel_rfl
@[go_sem] theorem fact_fld96_3 : fldOf Try.prog 96 3 = some ⟨3, 1, false⟩ := by kernel_rfl
@[go_sem] theorem fact_fld96_4 : fldOf Try.prog 96 4 = some ⟨4, 1, false⟩ := by kernel_rfl
@[go_sem] theorem fact_bld96 : bldOf Try.prog 96 = some ⟨5, [.string ⟨#[]⟩, .string ⟨#[]⟩, .int .i64 0, .bool false, .slice none 0 0], [(0, 1), (1, 1), (2, 1), (3, 1), (4, 1)]⟩ := by kernel_rfl
@[go_sem] theorem fact_ty97 : tyOf Try.prog 97 = some ⟨false, 1, [.nilFunc]⟩ := by kernel_rfl
@[go_sem] theorem fact_eq98 : eqT Try.prog 98 = .ptr := by kernel_rfl
@[go_sem] theorem fact_ty98 : tyOf Try.prog 98 = some ⟨false, 1, [.pointer none]⟩ := by kernel_rfl
@[go_sem] theorem fact_ty99 : tyOf Try.prog 99 = some ⟨false, 1, [.nilFunc]⟩ := by kernel_rfl
@[go_sem] theorem fact_ty101 : tyOf Try.prog 101 = some ⟨false, 1, [.nilFunc]⟩ := by kernel_rfl
@[go_sem] theorem fact_ty102 : tyOf Try.prog 102 = some ⟨false, 1, [.nilFunc]⟩ := by kernel_rfl
@[go_sem] theorem fact_ty103 : tyOf Try.prog 103 = some ⟨false, 1, [.nilFunc]⟩ := by kernel_rfl
@[go_sem] theorem fact_ty104 : tyOf Try.prog 104 = some ⟨false, 1, [.nilFunc]⟩ := by kernel_rfl
@[go_sem] theorem fact_ty105 : tyOf Try.prog 105 = some ⟨false, 1, [.nilFunc]⟩ := by kernel_rfl
@[go_sem] theorem fact_ty106 : tyOf Try.prog 106 = some ⟨false, 1, [.nilFunc]⟩ := by kernel_rfl
@[go_sem] theorem fact_ty107 : tyOf Try.prog 107 = some ⟨false, 1, [.nilFunc]⟩ := by kernel_rfl
@[go_sem] theorem fact_ty108 : tyOf Try.prog 108 = some ⟨false, 1, [.nilFunc]⟩ := by kernel_rfl
@[go_sem] theorem fact_eq109 : eqT Try.prog 109 = .ptr := by kernel_rfl
@[go_sem] theorem fact_ty109 : tyOf Try.prog 109 = some ⟨false, 1, [.pointer none]⟩ := by kernel_rfl
@[go_sem] theorem fact_ty110 : tyOf Try.prog 110 = some ⟨false, 1, [.nilFunc]⟩ := by kernel_rfl
@[go_sem] theorem fact_ty111 : tyOf Try.prog 111 = some ⟨false, 1, [.nilFunc]⟩ := by kernel_rfl
@[go_sem] theorem fact_ty112 : tyOf Try.prog 112 = some ⟨false, 1, [.nilFunc]⟩ := by kernel_rfl
@[go_sem] theorem fact_ty113 : tyOf Try.prog 113 = some ⟨false, 1, [.nilFunc]⟩ := by kernel_rfl
@[go_sem] theorem fact_ty114 : tyOf Try.prog 114 = some ⟨true, 20, [.bool false, .bool false, .bool false, .bool false, .bool false, .bool false, .bool false, .bool false, .bool false, .bool false, .bool false, .bool false, .bool false, .bool false, .bool false, .bool false, .bool false, .bool false, .bool false, .bool false]⟩ := by kernel_rfl
@[go_sem] theorem fact_ty116 : tyOf Try.prog 116 = some ⟨true, 2, [.int .i64 0, .int .i64 0]⟩ := by kernel_rfl
@[go_sem] theorem fact_sel117 : selOf Try.prog 117 = some ⟨116, 2, 16, [.int .i64 0, .int .i64 0]⟩ := by kernel_rfl
@[go_sem] theorem fact_eq117 : eqT Try.prog 117 = .slice := by kernel_rfl
@[go_sem] theorem fact_len117 : lenT Try.prog 117 = .slice := by kernel_rfl
@[go_sem] theorem fact_sl117 : slT Try.prog 117 = .slice 2 := by kernel_rfl
@[go_sem] theorem fact_ty117 : tyOf Try.prog 117 = some ⟨false, 1, [.slice none 0 0]⟩ := by kernel_rfl
@[go_sem] theorem fact_ty118 : tyOf Try.prog 118 = some ⟨false, 1, [.nilFunc]⟩ := by kernel_rfl
@[go_sem] theorem fact_sel119 : selOf Try.prog 119 = some ⟨4, 1, 1, [.bool false]⟩ := by kernel_rfl
@[go_sem] theorem fact_eq119 : eqT Try.prog 119 = .slice := by kernel_rfl
@[go_sem] theorem fact_len119 : lenT Try.prog 119 = .slice := by kernel_rfl
@[go_sem] theorem fact_sl119 : slT Try.prog 119 = .slice 1 := by kernel_rfl
@[go_sem] theorem fact_ty119 : tyOf Try.prog 119 = some ⟨false, 1, [.slice none 0 0]⟩ := by kernel_rfl
@[go_sem] theorem fact_ty120 : tyOf Try.prog 120 = some ⟨false, 1, [.nilFunc]⟩ := by kernel_rfl
@[go_sem] theorem fact_ty121 : tyOf Try.prog 121 = some ⟨true, 3, [.slice none 0 0, .int .i64 0, .int .u64 0]⟩ := by kernel_rfl
@[go_sem] theorem fact_fld121_0 : fldOf Try.prog 121 0 = some ⟨0, 1, false⟩ := by kernel_rfl
@[go_sem] theorem fact_fld121_1 : fldOf Try.prog 121 1 = some ⟨1, 1, false⟩ := by kernel_rfl
@[go_sem] theorem fact_fld121_2 : fldOf Try.prog 121 2 = some ⟨2, 1, false⟩ := by kernel_rfl
@[go_sem] theorem fact_bld121 : bldOf Try.prog 121 = some ⟨3, [.slice none 0 0, .int .i64 0, .int .u64 0], [(0, 1), (1, 1), (2, 1)]⟩ := by kernel_rfl
@[go_sem] theorem fact_ty122 : tyOf Try.prog 122 = some ⟨true, 3, [.slice none 0 0, .int .i64 0, .int .u64 0]⟩ := by kernel_rfl
@[go_sem] theorem fact_fld122_0 : fldOf Try.prog 122 0 = some ⟨0, 1, false⟩ := by kernel_rfl
@[go_sem] theorem fact_fld122_1 : fldOf Try.prog 122 1 = some ⟨1, 1, false⟩ := by kernel_rfl
@[go_sem] theorem fact_fld122_2 : fldOf Try.prog 122 2 = some ⟨2, 1, false⟩ := by kernel_rfl
@[go_sem] theorem fact_bld122 : bldOf Try.prog 122 = some ⟨3, [.slice none 0 0, .int .i64 0, .int .u64 0], [(0, 1), (1, 1), (2, 1)]⟩ := by kernel_rfl
@[go_sem] theorem fact_isint123 : isIntT Try.prog 123 = true := by kernel_rfl
@[go_sem] theorem fact_ty123 : tyOf Try.prog 123 = some ⟨false, 1, [.int .u64 0]⟩ := by kernel_rfl
@[go_sem] theorem fact_ty124 : tyOf Try.prog 124 = some ⟨false, 1, [.nilFunc]⟩ := by kernel_rfl
@[go_sem] theorem fact_ty125 : tyOf Try.prog 125 = some ⟨false, 1, [.nilFunc]⟩ := by kernel_rfl
@[go_sem] theorem fact_ty126 : tyOf Try.prog 126 = some ⟨false, 1, [.nilFunc]⟩ := by kernel_rfl
@[go_sem] theorem fact_ty127 : tyOf Try.prog 127 = some ⟨false, 1, [.nilFunc]⟩ := by kernel_rfl
@[go_sem] theorem fact_ty128 : tyOf Try.prog 128 = some ⟨false, 1, [.nilFunc]⟩ := by kernel_rfl
@[go_sem] theorem fact_ty129 : tyOf Try.prog 129 = some ⟨false, 1, [.nilFunc]⟩ := by kernel_rfl
@[go_sem] theorem fact_ty130 : tyOf Try.prog 130 = some ⟨false, 1, [.nilFunc]⟩ := by kernel_rfl
@[go_sem] theorem fact_ty131 : tyOf Try.prog 131 = some ⟨false, 1, [.nilFunc]⟩ := by kernel_rfl
@[go_sem] theorem fact_ty132 : tyOf Try.prog 132 = some ⟨false, 1, [.nilFunc]⟩ := by kernel_rfl
@[go_sem] theorem fact_ty133 : tyOf Try.prog 133 = some ⟨false, 1, [.nilFunc]⟩ := by kernel_rfl
@[go_sem] theorem fact_ty134 : tyOf Try.prog 134 = some ⟨false, 1, [.nilFunc]⟩ := by kernel_rfl
@[go_sem] theorem fact_ty135 : tyOf Try.prog 135 = some ⟨false, 1, [.nilFunc]⟩ := by kernel_rfl
@[go_sem] theorem fact_ty136 : tyOf Try.prog 136 = some ⟨false, 1, [.nilFunc]⟩ := by kernel_rfl
@[go_sem] theorem fact_ty137 : tyOf Try.prog 137 = some ⟨false, 1, [.nilFunc]⟩ := by kernel_rfl
@[go_sem] theorem fact_ty138 : tyOf Try.prog 138 = some ⟨false, 1, [.nilFunc]⟩ := by kernel_rfl
@[go_sem] theorem fact_eq139 : eqT Try.prog 139 = .ptr := by kernel_rfl
@[go_sem] theorem fact_ty139 : tyOf Try.prog 139 = some ⟨false, 1, [.pointer none]⟩ := by kernel_rfl
@[go_sem] theorem fact_ty140 : tyOf Try.prog 140 = some ⟨false, 1, [.nilFunc]⟩ := by kernel_rfl
@[go_sem] theorem fact_ty141 : tyOf Try.prog 141 = some ⟨false, 1, [.nilFunc]⟩ := by kernel_rfl
@[go_sem] theorem fact_ty142 : tyOf Try.prog 142 = some ⟨false, 1, [.nilFunc]⟩ := by kernel_rfl
@[go_sem] theorem fact_ty143 : tyOf Try.prog 143 = some ⟨false, 1, [.nilFunc]⟩ := by kernel_rfl
@[go_sem] theorem fact_ty144 : tyOf Try.prog 144 = some ⟨false, 1, [.nilFunc]⟩ := by kernel_rfl
@[go_sem] theorem fact_ty145 : tyOf Try.prog 145 = some ⟨false, 1, [.nilFunc]⟩ := by kernel_rfl
@[go_sem] theorem fact_ty146 : tyOf Try.prog 146 = some ⟨false, 1, [.nilFunc]⟩ := by kernel_rfl
@[go_sem] theorem fact_ty147 : tyOf Try.prog 147 = some ⟨false, 1, [.nilFunc]⟩ := by kernel_rfl
@[go_sem] theorem fact_ty148 : tyOf Try.prog 148 = some ⟨false, 1, [.nilFunc]⟩ := by kernel_rfl
@[go_sem] theorem fact_ty149 : tyOf Try.prog 149 = some ⟨false, 1, [.nilFunc]⟩ := by kernel_rfl
@[go_sem] theorem fact_ty150 : tyOf Try.prog 150 = some ⟨false, 1, [.nilFunc]⟩ := by kernel_rfl
@[go_sem] theorem fact_ty151 : tyOf Try.prog 151 = some ⟨false, 1, [.nilFunc]⟩ := by kernel_rfl
@[go_sem] theorem fact_ty152 : tyOf Try.prog 152 = some ⟨false, 1, [.nilFunc]⟩ := by kernel_rfl
@[go_sem] theorem fact_ty153 : tyOf Try.prog 153 = some ⟨true, 3, [.slice none 0 0, .int .i64 0, .int .i64 0]⟩ := by kernel_rfl
@[go_sem] theorem fact_fld153_0 : fldOf Try.prog 153 0 = some ⟨0, 1, false⟩ := by kernel_rfl
@[go_sem] theorem fact_fld153_1 : fldOf Try.prog 153 1 = some ⟨1, 1, false⟩ := by kernel_rfl
@[go_sem] theorem fact_fld153_2 : fldOf Try.prog 153 2 = some ⟨2, 1, false⟩ := by kernel_rfl
@[go_sem] theorem fact_bld153 : bldOf Try.prog 153 = some ⟨3, [.slice none 0 0, .int .i64 0, .int .i64 0], [(0, 1), (1, 1), (2, 1)]⟩ := by kernel_rfl
@[go_sem] theorem fact_ty154 : tyOf Try.prog 154 = some ⟨true, 3, [.slice none 0 0, .int .i64 0, .int .i64 0]⟩ := by kernel_rfl
@[go_sem] theorem fact_fld154_0 : fldOf Try.prog 154 0 = some ⟨0, 1, false⟩ := by kernel_rfl
@[go_sem] theorem fact_fld154_1 : fldOf Try.prog 154 1 = some ⟨1, 1, false⟩ := by kernel_rfl
@[go_sem] theorem fact_fld154_2 : fldOf Try.prog 154 2 = some ⟨2, 1, false⟩ := by kernel_rfl
@[go_sem] theorem fact_bld154 : bldOf Try.prog 154 = some ⟨3, [.slice none 0 0, .int .i64 0, .int .i64 0], [(0, 1), (1, 1), (2, 1)]⟩ := by kernel_rfl
@[go_sem] theorem fact_ty155 : tyOf Try.prog 155 = some ⟨false, 1, [.nilFunc]⟩ := by kernel_rfl
@[go_sem] theorem fact_ty156 : tyOf Try.prog 156 = some ⟨false, 1, [.nilFunc]⟩ := by kernel_rfl
@[go_sem] theorem fact_ty157 : tyOf Try.prog 157 = some ⟨false, 1, [.nilFunc]⟩ := by kernel_rfl
@[go_sem] theorem fact_ty158 : tyOf Try.prog 158 = some ⟨false, 1, [.nilFunc]⟩ := by kernel_rfl
@[go_sem] theorem fact_ty159 : tyOf Try.prog 159 = some ⟨false, 1, [.nilFunc]⟩ := by kernel_rfl
@[go_sem] theorem fact_ty160 : tyOf Try.prog 160 = some ⟨false, 1, [.nilFunc]⟩ := by kernel_rfl
@[go_sem] theorem fact_ty161 : tyOf Try.prog 161 = some ⟨false, 1, [.nilFunc]⟩ := by kernel_rfl
@[go_sem] theorem fact_ty162 : tyOf Try.prog 162 = some ⟨false, 1, [.nilFunc]⟩ := by kernel_rfl
@[go_sem] theorem fact_ty163 : tyOf Try.prog 163 = some ⟨true, 3, [.int .i64 0, .slice none 0 0, .slice none 0 0]⟩ := by kernel_rfl
@[go_sem] theorem fact_fld163_0 : fldOf Try.prog 163 0 = some ⟨0, 1, false⟩ := by kernel_rfl
@[go_sem] theorem fact_fld163_1 : fldOf Try.prog 163 1 = some ⟨1, 1, false⟩ := by kernel_rfl
@[go_sem] theorem fact_fld163_2 : fldOf Try.prog 163 2 = some ⟨2, 1, false⟩ := by kernel_rfl
@[go_sem] theorem fact_bld163 : bldOf Try.prog 163 = some ⟨3, [.int .i64 0, .slice none 0 0, .slice none 0 0], [(0, 1), (1, 1), (2, 1)]⟩ := by kernel_rfl
@[go_sem] theorem fact_ty164 : tyOf Try.prog 164 = some ⟨true, 3, [.int .i64 0, .slice none 0 0, .slice none 0 0]⟩ := by kernel_rfl
@[go_sem] theorem fact_fld164_0 : fldOf Try.prog 164 0 = some ⟨0, 1, false⟩ := by kernel_rfl
@[go_sem] theorem fact_fld164_1 : fldOf Try.prog 164 1 = some ⟨1, 1, false⟩ := by kernel_rfl
@[go_sem] theorem fact_fld164_2 : fldOf Try.prog 164 2 = some ⟨2, 1, false⟩ := by kernel_rfl
@[go_sem] theorem fact_bld164 : bldOf Try.prog 164 = some ⟨3, [.int .i64 0, .slice none 0 0, .slice none 0 0], [(0, 1), (1, 1), (2, 1)]⟩ := by kernel_rfl
@[go_sem] theorem fact_ty165 : tyOf Try.prog 165 = some ⟨false, 1, [.nilFunc]⟩ := by kernel_rfl
@[go_sem] theorem fact_ty166 : tyOf Try.prog 166 = some ⟨false, 1, [.nilFunc]⟩ := by kernel_rfl
@[go_sem] theorem fact_ty167 : tyOf Try.prog 167 = some ⟨false, 1, [.nilFunc]⟩ := by kernel_rfl
@[go_sem] theorem fact_ty168 : tyOf Try.prog 168 = some ⟨false, 1, [.nilFunc]⟩ := by kernel_rfl
@[go_sem] theorem fact_ty169 : tyOf Try.prog 169 = some ⟨false, 1, [.nilFunc]⟩ := by kernel_rfl
@[go_sem] theorem fact_ty170 : tyOf Try.prog 170 = some ⟨false, 1, [.nilFunc]⟩ := by kernel_rfl
@[go_sem] theorem fact_map171 : mapOf Try.prog 171 = none := by kernel_rfl
@[go_sem] theorem fact_mapi171 : mapOfI Try.prog 171 = some (.int .i64 0) := by kernel_rfl
@[go_sem] theorem fact_ty171 : tyOf Try.prog 171 = some ⟨false, 1, [.map none]⟩ := by kernel_rfl
@[go_sem] theorem fact_ty173 : tyOf Try.prog 173 = some ⟨false, 1, [.nilFunc]⟩ := by kernel_rfl
@[go_sem] theorem fact_ty174 : tyOf Try.prog 174 = some ⟨false, 1, [.nilFunc]⟩ := by kernel_rfl
@[go_sem] theorem fact_ty175 : tyOf Try.prog 175 = some ⟨false, 1, [.nilFunc]⟩ := by kernel_rfl
@[go_sem] theorem fact_ty176 : tyOf Try.prog 176 = some ⟨false, 1, [.nilFunc]⟩ := by kernel_rfl
@[go_sem] theorem fact_ty177 : tyOf Try.prog 177 = some ⟨false, 1, [.nilFunc]⟩ := by kernel_rfl
@[go_sem] theorem fact_ty178 : tyOf Try.prog 178 = some ⟨false, 1, [.nilFunc]⟩ := by kernel_rfl
@[go_sem] theorem fact_ty180 : tyOf Try.prog 180 = some ⟨false, 1, [.nilFunc]⟩ := by kernel_rfl
@[go_sem] theorem fact_ty181 : tyOf Try.prog 181 = some ⟨false, 1, [.nilFunc]⟩ := by kernel_rfl
@[go_sem] theorem fact_ty182 : tyOf Try.prog 182 = some ⟨false, 1, [.nilFunc]⟩ := by kernel_rfl
@[go_sem] theorem fact_ty183 : tyOf Try.prog 183 = some ⟨false, 1, [.nilFunc]⟩ := by kernel_rfl
@[go_sem] theorem fact_ty184 : tyOf Try.prog 184 = some ⟨false, 1, [.nilFunc]⟩ := by kernel_rfl
@[go_sem] theorem fact_ty186 : tyOf Try.prog 186 = some ⟨false, 1, [.nilFunc]⟩ := by kernel_rfl
@[go_sem] theorem fact_ty187 : tyOf Try.prog 187 = some ⟨false, 1, [.nilFunc]⟩ := by kernel_rfl
@[go_sem] theorem fact_ty188 : tyOf Try.prog 188 = some ⟨false, 1, [.nilFunc]⟩ := by kernel_rfl
@[go_sem] theorem fact_ty189 : tyOf Try.prog 189 = some ⟨false, 1, [.nilFunc]⟩ := by kernel_rfl
@[go_sem] theorem fact_ty190 : tyOf Try.prog 190 = some ⟨false, 1, [.nilFunc]⟩ := by kernel_rfl
@[go_sem] theorem fact_ty191 : tyOf Try.prog 191 = some ⟨false, 1, [.nilFunc]⟩ := by kernel_rfl
@[go_sem] theorem fact_ty192 : tyOf Try.prog 192 = some ⟨false, 1, [.nilFunc]⟩ := by kernel_rfl
@[go_sem] theorem fact_ty193 : tyOf Try.prog 193 = some ⟨false, 1, [.nilFunc]⟩ := by kernel_rfl
@[go_sem] theorem fact_ty194 : tyOf Try.prog 194 = some ⟨true, 3, [.int .i64 0, .slice none 0 0, .slice none 0 0]⟩ := by kernel_rfl
@[go_sem] theorem fact_fld194_0 : fldOf Try.prog 194 0 = some ⟨0, 1, false⟩ := by kernel_rfl
@[go_sem] theorem fact_fld194_1 : fldOf Try.prog 194 1 = some ⟨1, 1, false⟩ := by kernel_rfl
@[go_sem] theorem fact_fld194_2 : fldOf Try.prog 194 2 = some ⟨2, 1, false⟩ := by kernel_rfl
@[go_sem] theorem fact_bld194 : bldOf Try.prog 194 = some ⟨3, [.int .i64 0, .slice none 0 0, .slice none 0 0], [(0, 1), (1, 1), (2, 1)]⟩ := by kernel_rfl
@[go_sem] theorem fact_ty195 : tyOf Try.prog 195 = some ⟨true, 3, [.int .i64 0, .slice none 0 0, .slice none 0 0]⟩ := by kernel_rfl
@[go_sem] theorem fact_fld195_0 : fldOf Try.prog 195 0 = some ⟨0, 1, false⟩ := by kernel_rfl
@[go_sem] theorem fact_fld195_1 : fldOf Try.prog 195 1 = some ⟨1, 1, false⟩ := by kernel_rfl
@[go_sem] theorem fact_fld195_2 : fldOf Try.prog 195 2 = some ⟨2, 1, false⟩ := by kernel_rfl
@[go_sem] theorem fact_bld195 : bldOf Try.prog 195 = some ⟨3, [.int .i64 0, .slice none 0 0, .slice none 0 0], [(0, 1), (1, 1), (2, 1)]⟩ := by kernel_rfl
@[go_sem] theorem fact_ty196 : tyOf Try.prog 196 = some ⟨false, 1, [.nilFunc]⟩ := by kernel_rfl
@[go_sem] theorem fact_ty198 : tyOf Try.prog 198 = some ⟨false, 1, [.nilFunc]⟩ := by kernel_rfl
@[go_sem] theorem fact_ty199 : tyOf Try.prog 199 = some ⟨false, 1, [.nilFunc]⟩ := by kernel_rfl
@[go_sem] theorem fact_ty200 : tyOf Try.prog 200 = some ⟨false, 1, [.nilFunc]⟩ := by kernel_rfl
@[go_sem] theorem fact_isint201 : isIntT Try.prog 201 = true := by kernel_rfl
@[go_sem] theorem fact_ty201 : tyOf Try.prog 201 = some ⟨false, 1, [.int .u32 0]⟩ := by kernel_rfl
@[go_sem] theorem fact_ty203 : tyOf Try.prog 203 = some ⟨false, 1, [.nilFunc]⟩ := by kernel_rfl
@[go_sem] theorem fact_ty205 : tyOf Try.prog 205 = some ⟨false, 1, [.nilFunc]⟩ := by kernel_rfl
@[go_sem] theorem fact_ty206 : tyOf Try.prog 206 = some ⟨false, 1, [.nilFunc]⟩ := by kernel_rfl
@[go_sem] theorem fact_ty207 : tyOf Try.prog 207 = some ⟨false, 1, [.nilFunc]⟩ := by kernel_rfl
@[go_sem] theorem fact_ty208 : tyOf Try.prog 208 = some ⟨false, 1, [.nilFunc]⟩ := by kernel_rfl
@[go_sem] theorem fact_ty209 : tyOf Try.prog 209 = some ⟨false, 1, [.nilFunc]⟩ := by kernel_rfl
@[go_sem] theorem fact_ty210 : tyOf Try.prog 210 = some ⟨false, 1, [.nilFunc]⟩ := by kernel_rfl
@[go_sem] theorem fact_ty211 : tyOf Try.prog 211 = some ⟨false, 1, [.nilFunc]⟩ := by kernel_rfl
@[go_sem] theorem fact_ty212 : tyOf Try.prog 212 = some ⟨false, 1, [.nilFunc]⟩ := by kernel_rfl
@[go_sem] theorem fact_isint213 : isIntT Try.prog 213 = true := by kernel_rfl
@[go_sem] theorem fact_ty213 : tyOf Try.prog 213 = some ⟨false, 1, [.int .i64 0]⟩ := by kernel_rfl
@[go_sem] theorem fact_ty215 : tyOf Try.prog 215 = some ⟨false, 1, [.nilFunc]⟩ := by kernel_rfl
@[go_sem] theorem fact_ty216 : tyOf Try.prog 216 = some ⟨false, 1, [.nilFunc]⟩ := by kernel_rfl
@[go_sem] theorem fact_ty217 : tyOf Try.prog 217 = some ⟨false, 1, [.nilFunc]⟩ := by kernel_rfl
@[go_sem] theorem fact_ty218 : tyOf Try.prog 218 = some ⟨false, 1, [.nilFunc]⟩ := by kernel_rfl
@[go_sem] theorem fact_ty219 : tyOf Try.prog 219 = some ⟨false, 1, [.nilFunc]⟩ := by kernel_rfl
@[go_sem] theorem fact_ty220 : tyOf Try.prog 220 = some ⟨false, 1, [.nilFunc]⟩ := by kernel_rfl
@[go_sem] theorem fact_sel221 : selOf Try.prog 221 = some ⟨9, 1, 16, [.string ⟨#[]⟩]⟩ := by kernel_rfl
@[go_sem] theorem fact_eq221 : eqT Try.prog 221 = .slice := by kernel_rfl
@[go_sem] theorem fact_len221 : lenT Try.prog 221 = .slice := by kernel_rfl
@[go_sem] theorem fact_sl221 : slT Try.prog 221 = .slice 1 := by kernel_rfl
@[go_sem] theorem fact_ty221 : tyOf Try.prog 221 = some ⟨false, 1, [.slice none 0 0]⟩ := by kernel_rfl
@[go_sem] theorem fact_ty222 : tyOf Try.prog 222 = some ⟨false, 1, [.nilFunc]⟩ := by kernel_rfl
@[go_sem] theorem fact_isint223 : isIntT Try.prog 223 = true := by kernel_rfl
@[go_sem] theorem fact_ty223 : tyOf Try.prog 223 = some ⟨false, 1, [.int .u64 0]⟩ := by kernel_rfl
@[go_sem] theorem fact_ty224 : tyOf Try.prog 224 = some ⟨false, 1, [.nilFunc]⟩ := by kernel_rfl
@[go_sem] theorem fact_ty225 : tyOf Try.prog 225 = some ⟨false, 1, [.nilFunc]⟩ := by kernel_rfl
@[go_sem] theorem fact_ty226 : tyOf Try.prog 226 = some ⟨false, 1, [.nilFunc]⟩ := by kernel_rfl
@[go_sem] theorem fact_eq227 : eqT Try.prog 227 = .ptr := by kernel_rfl
@[go_sem] theorem fact_ty227 : tyOf Try.prog 227 = some ⟨false, 1, [.pointer none]⟩ := by kernel_rfl
@[go_sem] theorem fact_ty228 : tyOf Try.prog 228 = some ⟨false, 1, [.nilFunc]⟩ := by kernel_rfl
@[go_sem] theorem fact_ty229 : tyOf Try.prog 229 = some ⟨false, 1, [.nilFunc]⟩ := by kernel_rfl
@[go_sem] theorem fact_ty230 : tyOf Try.prog 230 = some ⟨false, 1, [.nilFunc]⟩ := by kernel_rfl
@[go_sem] theorem fact_ty231 : tyOf Try.prog 231 = some ⟨false, 1, [.nilFunc]⟩ := by kernel_rfl
@[go_sem] theorem fact_eq232 : eqT Try.prog 232 = .ptr := by kernel_rfl
@[go_sem] theorem fact_ty232 : tyOf Try.prog 232 = some ⟨false, 1, [.pointer none]⟩ := by kernel_rfl
@[go_sem] theorem fact_ty234 : tyOf Try.prog 234 = some ⟨false, 1, [.nilFunc]⟩ := by kernel_rfl
@[go_sem] theorem fact_ty236 : tyOf Try.prog 236 = some ⟨false, 1, [.nilFunc]⟩ := by kernel_rfl
@[go_sem] theorem fact_ty237 : tyOf Try.prog 237 = some ⟨false, 1, [.nilFunc]⟩ := by kernel_rfl
@[go_sem] theorem fact_ty238 : tyOf Try.prog 238 = some ⟨false, 1, [.nilFunc]⟩ := by kernel_rfl
@[go_sem] theorem fact_ty239 : tyOf Try.prog 239 = some ⟨false, 1, [.nilFunc]⟩ := by kernel_rfl
@[go_sem] theorem fact_ty240 : tyOf Try.prog 240 = some ⟨true, 4, [.pointer none, .pointer none, .pointer none, .string ⟨#[]⟩]⟩ := by kernel_rfl
@[go_sem] theorem fact_fld240_0 : fldOf Try.prog 240 0 = some ⟨0, 1, false⟩ := by kernel_rfl
@[go_sem] theorem fact_fld240_1 : fldOf Try.prog 240 1 = some ⟨1, 1, false⟩ := by kernel_rfl
@[go_sem] theorem fact_fld240_2 : fldOf Try.prog 240 2 = some ⟨2, 1, false⟩ := by kernel_rfl
@[go_sem] theorem fact_fld240_3 : fldOf Try.prog 240 3 = some ⟨3, 1, false⟩ := by kernel_rfl
@[go_sem] theorem fact_bld240 : bldOf Try.prog 240 = some ⟨4, [.pointer none, .pointer none, .pointer none, .string ⟨#[]⟩], [(0, 1), (1, 1), (2, 1), (3, 1)]⟩ := by kernel_rfl
@[go_sem] theorem fact_ty241 : tyOf Try.prog 241 = some ⟨true, 4, [.pointer none, .pointer none, .pointer none, .string ⟨#[]⟩]⟩ := by kernel_rfl
@[go_sem] theorem fact_fld241_0 : fldOf Try.prog 241 0 = some ⟨0, 1, false⟩ := by kernel_rfl
@[go_sem] theorem fact_fld241_1 : fldOf Try.prog 241 1 = some ⟨1, 1, false⟩ := by kernel_rfl
@[go_sem] theorem fact_fld241_2 : fldOf Try.prog 241 2 = some ⟨2, 1, false⟩ := by kernel_rfl
@[go_sem] theorem fact_fld241_3 : fldOf Try.prog 241 3 = some ⟨3, 1, false⟩ := by kernel_rfl
@[go_sem] theorem fact_bld241 : bldOf Try.prog 241 = some ⟨4, [.pointer none, .pointer none, .pointer none, .string ⟨#[]⟩], [(0, 1), (1, 1), (2, 1), (3, 1)]⟩ := by kernel_rfl
@[go_sem] theorem fact_ty242 : tyOf Try.prog 242 = some ⟨true, 0, []⟩ := by kernel_rfl
@[go_sem] theorem fact_ty243 : tyOf Try.prog 243 = some ⟨true, 0, []⟩ := by kernel_rfl
@[go_sem] theorem fact_ty244 : tyOf Try.prog 244 = some ⟨true, 0, []⟩ := by kernel_rfl
@[go_sem] theorem fact_ty245 : tyOf Try.prog 245 = some ⟨false, 1, [.nilFunc]⟩ := by kernel_rfl
@[go_sem] theorem fact_isint246 : isIntT Try.prog 246 = true := by kernel_rfl
@[go_sem] theorem fact_ty246 : tyOf Try.prog 246 = some ⟨false, 1, [.int .u8 0]⟩ := by kernel_rfl
@[go_sem] theorem fact_isint247 : isIntT Try.prog 247 = true := by kernel_rfl
@[go_sem] theorem fact_ty247 : tyOf Try.prog 247 = some ⟨false, 1, [.int .u8 0]⟩ := by kernel_rfl
@[go_sem] theorem fact_ty248 : tyOf Try.prog 248 = some ⟨false, 1, [.nilFunc]⟩ := by kernel_rfl
@[go_sem] theorem fact_eq249 : eqT Try.prog 249 = .ptr := by kernel_rfl
@[go_sem] theorem fact_ty249 : tyOf Try.prog 249 = some ⟨false, 1, [.pointer none]⟩ := by kernel_rfl
@[go_sem] theorem fact_isint250 : isIntT Try.prog 250 = true := by kernel_rfl
@[go_sem] theorem fact_ty250 : tyOf Try.prog 250 = some ⟨false, 1, [.int .i32 0]⟩ := by kernel_rfl
@[go_sem] theorem fact_isint251 : isIntT Try.prog 251 = true := by kernel_rfl
@[go_sem] theorem fact_ty251 : tyOf Try.prog 251 = some ⟨false, 1, [.int .i32 0]⟩ := by kernel_rfl
@[go_sem] theorem fact_ty252 : tyOf Try.prog 252 = some ⟨true, 11, [.int .u64 0, .int .u64 0, .int .u32 0, .int .u8 0, .int .u8 0, .int .u8 0, .int .u8 0, .nilFunc, .pointer none, .int .i32 0, .int .i32 0]⟩ := by kernel_rfl
@[go_sem] theorem fact_fld252_0 : fldOf Try.prog 252 0 = some ⟨0, 1, false⟩ := by kernel_rfl
@[go_sem] theorem fact_fld252_1 : fldOf Try.prog 252 1 = some ⟨1, 1, false⟩ := by kernel_rfl
@[go_sem] theorem fact_fld252_2 : fldOf Try.prog 252 2 = some ⟨2, 1, false⟩ := by kernel_rfl
@[go_sem] theorem fact_fld252_3 : fldOf Try.prog 252 3 = some ⟨3, 1, false⟩ := by kernel_rfl
@[go_sem] theorem fact_fld252_4 : fldOf Try.prog 252 4 = some ⟨4, 1, false⟩ := by kernel_rfl
@[go_sem] theorem fact_fld252_5 : fldOf Try.prog 252 5 = some ⟨5, 1, false⟩ := by kernel_rfl
@[go_sem] theorem fact_fld252_6 : fldOf Try.prog 252 6 = some ⟨6, 1, false⟩ := by kernel_rfl
@[go_sem] theorem fact_fld252_7 : fldOf Try.prog 252 7 = some ⟨7, 1, false⟩ := by kernel_rfl
@[go_sem] theorem fact_fld252_8 : fldOf Try.prog 252 8 = some ⟨8, 1, false⟩ := by kernel_rfl
@[go_sem] theorem fact_fld252_9 : fldOf Try.prog 252 9 = some ⟨9, 1, false⟩ := by kernel_rfl
@[go_sem] theorem fact_fld252_10 : fldOf Try.prog 252 10 = some ⟨10, 1, false⟩ := by kernel_rfl
@[go_sem] theorem fact_bld252 : bldOf Try.prog 252 = some ⟨11, [.int .u64 0, .int .u64 0, .int .u32 0, .int .u8 0, .int .u8 0, .int .u8 0, .int .u8 0, .nilFunc, .pointer none, .int .i32 0, .int .i32 0], [(0, 1), (1, 1), (2, 1), (3, 1), (4, 1), (5, 1), (6, 1), (7, 1), (8, 1), (9, 1), (10, 1)]⟩ := by kernel_rfl
@[go_sem] theorem fact_ty253 : tyOf Try.prog 253 = some ⟨true, 11, [.int .u64 0, .int .u64 0, .int .u32 0, .int .u8 0, .int .u8 0, .int .u8 0, .int .u8 0, .nilFunc, .pointer none, .int .i32 0, .int .i32 0]⟩ := by kernel_rfl
@[go_sem] theorem fact_fld253_0 : fldOf Try.prog 253 0 = some ⟨0, 1, false⟩ := by kernel_rfl
@[go_sem] theorem fact_fld253_1 : fldOf Try.prog 253 1 = some ⟨1, 1, false⟩ := by kernel_rfl
@[go_sem] theorem fact_fld253_2 : fldOf Try.prog 253 2 = some ⟨2, 1, false⟩ := by kernel_rfl
@[go_sem] theorem fact_fld253_3 : fldOf Try.prog 253 3 = some ⟨3, 1, false⟩ := by kernel_rfl
@[go_sem] theorem fact_fld253_4 : fldOf Try.prog 253 4 = some ⟨4, 1, false⟩ := by kernel_rfl
@[go_sem] theorem fact_fld253_5 : fldOf Try.prog 253 5 = some ⟨5, 1, false⟩ := by kernel_rfl
@[go_sem] theorem fact_fld253_6 : fldOf Try.prog 253 6 = some ⟨6, 1, false⟩ := by kernel_rfl
@[go_sem] theorem fact_fld253_7 : fldOf Try.prog 253 7 = some ⟨7, 1, false⟩ := by kernel_rfl
@[go_sem] theorem fact_fld253_8 : fldOf Try.prog 253 8 = some ⟨8, 1, false⟩ := by kernel_rfl
@[go_sem] theorem fact_fld253_9 : fldOf Try.prog 253 9 = some ⟨9, 1, false⟩ := by kernel_rfl
@[go_sem] theorem fact_fld253_10 : fldOf Try.prog 253 10 = some ⟨10, 1, false⟩ := by kernel_rfl
@[go_sem] theorem fact_bld253 : bldOf Try.prog 253 = some ⟨11, [.int .u64 0, .int .u64 0, .int .u32 0, .int .u8 0, .int .u8 0, .int .u8 0, .int .u8 0, .nilFunc, .pointer none, .int .i32 0, .int .i32 0], [(0, 1), (1, 1), (2, 1), (3, 1), (4, 1), (5, 1), (6, 1), (7, 1), (8, 1), (9, 1), (10, 1)]⟩ := by kernel_rfl
@[go_sem] theorem fact_ty254 : tyOf Try.prog 254 = some ⟨false, 1, [.pointer none]⟩ := by kernel_rfl
@[go_sem] theorem fact_cv2_2 : cvT Try.prog 2 2 = .int .i64 := by kernel_rfl
@[go_sem] theorem fact_cv2_3 : cvT Try.prog 2 3 = .int .i64 := by kernel_rfl
@[go_sem] theorem fact_cv2_5 : cvT Try.prog 2 5 = .int .u8 := by kernel_rfl
@[go_sem] theorem fact_cv2_12 : cvT Try.prog 2 12 = .int .u64 := by kernel_rfl
@[go_sem] theorem fact_cv2_21 : cvT Try.prog 2 21 = .int .i32 := by kernel_rfl
@[go_sem] theorem fact_cv2_58 : cvT Try.prog 2 58 = .int .u64 := by kernel_rfl
@[go_sem] theorem fact_cv2_123 : cvT Try.prog 2 123 = .int .u64 := by kernel_rfl
@[go_sem] theorem fact_cv2_201 : cvT Try.prog 2 201 = .int .u32 := by kernel_rfl
@[go_sem] theorem fact_cv3_2 : cvT Try.prog 3 2 = .int .i64 := by kernel_rfl
@[go_sem] theorem fact_cv3_3 : cvT Try.prog 3 3 = .int .i64 := by kernel_rfl
@[go_sem] theorem fact_cv3_5 : cvT Try.prog 3 5 = .int .u8 := by kernel_rfl
@[go_sem] theorem fact_cv3_12 : cvT Try.prog 3 12 = .int .u64 := by kernel_rfl
@[go_sem] theorem fact_cv3_21 : cvT Try.prog 3 21 = .int .i32 := by kernel_rfl
@[go_sem] theorem fact_cv3_58 : cvT Try.prog 3 58 = .int .u64 := by kernel_rfl
@[go_sem] theorem fact_cv3_123 : cvT Try.prog 3 123 = .int .u64 := by kernel_rfl
@[go_sem] theorem fact_cv3_201 : cvT Try.prog 3 201 = .int .u32 := by kernel_rfl
@[go_sem] theorem fact_cv5_2 : cvT Try.prog 5 2 = .int .i64 := by kernel_rfl
@[go_sem] theorem fact_cv5_3 : cvT Try.prog 5 3 = .int .i64 := by kernel_rfl
@[go_sem] theorem fact_cv5_5 : cvT Try.prog 5 5 = .int .u8 := by kernel_rfl
@[go_sem] theorem fact_cv5_12 : cvT Try.prog 5 12 = .int .u64 := by kernel_rfl
@[go_sem] theorem fact_cv5_21 : cvT Try.prog 5 21 = .int .i32 := by kernel_rfl
@[go_sem] theorem fact_cv5_58 : cvT Try.prog 5 58 = .int .u64 := by kernel_rfl
@[go_sem] theorem fact_cv5_123 : cvT Try.prog 5 123 = .int .u64 := by kernel_rfl
@[go_sem] theorem fact_cv5_201 : cvT Try.prog 5 201 = .int .u32 := by kernel_rfl
@[go_sem] theorem fact_cv12_2 : cvT Try.prog 12 2 = .int .i64 := by kernel_rfl
@[go_sem] theorem fact_cv12_3 : cvT Try.prog 12 3 = .int .i64 := by kernel_rfl
@[go_sem] theorem fact_cv12_5 : cvT Try.prog 12 5 = .int .u8 := by kernel_rfl
@[go_sem] theorem fact_cv12_12 : cvT Try.prog 12 12 = .int .u64 := by kernel_rfl
@[go_sem] theorem fact_cv12_21 : cvT Try.prog 12 21 = .int .i32 := by kernel_rfl
@[go_sem] theorem fact_cv12_58 : cvT Try.prog 12 58 = .int .u64 := by kernel_rfl
@[go_sem] theorem fact_cv12_123 : cvT Try.prog 12 123 = .int .u64 := by kernel_rfl
@[go_sem] theorem fact_cv12_201 : cvT Try.prog 12 201 = .int .u32 := by kernel_rfl
@[go_sem] theorem fact_cv21_2 : cvT Try.prog 21 2 = .int .i64 := by kernel_rfl
@[go_sem] theorem fact_cv21_3 : cvT Try.prog 21 3 = .int .i64 := by kernel_rfl
@[go_sem] theorem fact_cv21_5 : cvT Try.prog 21 5 = .int .u8 := by kernel_rfl
@[go_sem] theorem fact_cv21_12 : cvT Try.prog 21 12 = .int .u64 := by kernel_rfl
@[go_sem] theorem fact_cv21_21 : cvT Try.prog 21 21 = .int .i32 := by kernel_rfl
@[go_sem] theorem fact_cv21_58 : cvT Try.prog 21 58 = .int .u64 := by kernel_rfl
@[go_sem] theorem fact_cv21_123 : cvT Try.prog 21 123 = .int .u64 := by kernel_rfl
@[go_sem] theorem fact_cv21_201 : cvT Try.prog 21 201 = .int .u32 := by kernel_rfl
@[go_sem] theorem fact_cv58_2 : cvT Try.prog 58 2 = .int .i64 := by kernel_rfl
@[go_sem] theorem fact_cv58_3 : cvT Try.prog 58 3 = .int .i64 := by kernel_rfl
@[go_sem] theorem fact_cv58_5 : cvT Try.prog 58 5 = .int .u8 := by kernel_rfl
@[go_sem] theorem fact_cv58_12 : cvT Try.prog 58 12 = .int .u64 := by kernel_rfl
@[go_sem] theorem fact_cv58_21 : cvT Try.prog 58 21 = .int .i32 := by kernel_rfl
@[go_sem] theorem fact_cv58_58 : cvT Try.prog 58 58 = .int .u64 := by kernel_rfl
@[go_sem] theorem fact_cv58_123 : cvT Try.prog 58 123 = .int .u64 := by kernel_rfl
@[go_sem] theorem fact_cv58_201 : cvT Try.prog 58 201 = .int .u32 := by kernel_rfl
@[go_sem] theorem fact_cv123_2 : cvT Try.prog 123 2 = .int .i64 := by kernel_rfl
@[go_sem] theorem fact_cv123_3 : cvT Try.prog 123 3 = .int .i64 := by kernel_rfl
@[go_sem] theorem fact_cv123_5 : cvT Try.prog 123 5 = .int .u8 := by kernel_rfl
@[go_sem] theorem fact_cv123_12 : cvT Try.prog 123 12 = .int .u64 := by kernel_rfl
@[go_sem] theorem fact_cv123_21 : cvT Try.prog 123 21 = .int .i32 := by kernel_rfl
@[go_sem] theorem fact_cv123_58 : cvT Try.prog 123 58 = .int .u64 := by kernel_rfl
@[go_sem] theorem fact_cv123_123 : cvT Try.prog 123 123 = .int .u64 := by kernel_rfl
@[go_sem] theorem fact_cv123_201 : cvT Try.prog 123 201 = .int .u32 := by kernel_rfl
@[go_sem] theorem fact_cv201_2 : cvT Try.prog 201 2 = .int .i64 := by kernel_rfl
@[go_sem] theorem fact_cv201_3 : cvT Try.prog 201 3 = .int .i64 := by kernel_rfl
@[go_sem] theorem fact_cv201_5 : cvT Try.prog 201 5 = .int .u8 := by kernel_rfl
@[go_sem] theorem fact_cv201_12 : cvT Try.prog 201 12 = .int .u64 := by kernel_rfl
@[go_sem] theorem fact_cv201_21 : cvT Try.prog 201 21 = .int .i32 := by kernel_rfl
@[go_sem] theorem fact_cv201_58 : cvT Try.prog 201 58 = .int .u64 := by kernel_rfl
@[go_sem] theorem fact_cv201_123 : cvT Try.prog 201 123 = .int .u64 := by kernel_rfl
@[go_sem] theorem fact_cv201_201 : cvT Try.prog 201 201 = .int .u32 := by kernel_rfl
@[go_sem] theorem fact_cv9_9 : cvT Try.prog 9 9 = .same := by kernel_rfl
@[go_sem] theorem fact_cv9_10 : cvT Try.prog 9 10 = .same := by kernel_rfl
@[go_sem] theorem fact_cv9_11 : cvT Try.prog 9 11 = .same := by kernel_rfl
@[go_sem] theorem fact_cv9_38 : cvT Try.prog 9 38 = .bytes 5 := by kernel_rfl
@[go_sem] theorem fact_cv38_9 : cvT Try.prog 38 9 = .str := by kernel_rfl
@[go_sem] theorem fact_cv10_9 : cvT Try.prog 10 9 = .same := by kernel_rfl
@[go_sem] theorem fact_cv10_10 : cvT Try.prog 10 10 = .same := by kernel_rfl
@[go_sem] theorem fact_cv10_11 : cvT Try.prog 10 11 = .same := by kernel_rfl
@[go_sem] theorem fact_cv10_38 : cvT Try.prog 10 38 = .bytes 5 := by kernel_rfl
@[go_sem] theorem fact_cv38_10 : cvT Try.prog 38 10 = .str := by kernel_rfl
@[go_sem] theorem fact_cv11_9 : cvT Try.prog 11 9 = .same := by kernel_rfl
@[go_sem] theorem fact_cv11_10 : cvT Try.prog 11 10 = .same := by kernel_rfl
@[go_sem] theorem fact_cv11_11 : cvT Try.prog 11 11 = .same := by kernel_rfl
@[go_sem] theorem fact_cv11_38 : cvT Try.prog 11 38 = .bytes 5 := by kernel_rfl
@[go_sem] theorem fact_cv38_11 : cvT Try.prog 38 11 = .str := by kernel_rfl

end Go.Proofs.Ytphpegemhnodcaa
end
