import Derived.Test.YtiihgbobdipikaaRows
import Derived.Test.YtiihgbobdipikaaK2
import Derived.KernelRfl
/- The facts on types that the walk over abstract values wants, in this seat's numbers. Written by facts.py. -/
section
namespace Go.Proofs.Ytiihgbobdipikaa
open Go.Av

@[go_sem] theorem fact_ty1 : tyOf Try.prog 1 = some ⟨false, 1, [.nilFunc]⟩ := by kernel_rfl
@[go_sem] theorem fact_isint2 : isIntT Try.prog 2 = true := by kernel_rfl
@[go_sem] theorem fact_ty2 : tyOf Try.prog 2 = some ⟨false, 1, [.int .i64 0]⟩ := by kernel_rfl
@[go_sem] theorem fact_isint3 : isIntT Try.prog 3 = true := by kernel_rfl
@[go_sem] theorem fact_ty3 : tyOf Try.prog 3 = some ⟨false, 1, [.int .i64 0]⟩ := by kernel_rfl
@[go_sem] theorem fact_eq4 : eqT Try.prog 4 = .bool := by kernel_rfl
@[go_sem] theorem fact_ty4 : tyOf Try.prog 4 = some ⟨false, 1, [.bool false]⟩ := by kernel_rfl
@[go_sem] theorem fact_isint5 : isIntT Try.prog 5 = true := by kernel_rfl
@[go_sem] theorem fact_ty5 : tyOf Try.prog 5 = some ⟨false, 1, [.int .u8 0]⟩ := by kernel_rfl
@[go_sem] theorem fact_isint6 : isIntT Try.prog 6 = true := by kernel_rfl
@[go_sem] theorem fact_ty6 : tyOf Try.prog 6 = some ⟨false, 1, [.int .u8 0]⟩ := by kernel_rfl
@[go_sem] theorem fact_ty7 : tyOf Try.prog 7 = some ⟨true, 4, [.int .i64 0, .int .i64 0, .bool false, .int .u8 0]⟩ := by kernel_rfl
@[go_sem] theorem fact_fld7_0 : fldOf Try.prog 7 0 = some ⟨0, 1, false⟩ := by kernel_rfl
@[go_sem] theorem fact_fld7_1 : fldOf Try.prog 7 1 = some ⟨1, 1, false⟩ := by kernel_rfl
@[go_sem] theorem fact_fld7_2 : fldOf Try.prog 7 2 = some ⟨2, 1, false⟩ := by kernel_rfl
@[go_sem] theorem fact_fld7_3 : fldOf Try.prog 7 3 = some ⟨3, 1, false⟩ := by kernel_rfl
@[go_sem] theorem fact_bld7 : bldOf Try.prog 7 = some ⟨4, [.int .i64 0, .int .i64 0, .bool false, .int .u8 0], [(0, 1), (1, 1), (2, 1), (3, 1)]⟩ := by kernel_rfl
@[go_sem] theorem fact_ty8 : tyOf Try.prog 8 = some ⟨true, 4, [.int .i64 0, .int .i64 0, .bool false, .int .u8 0]⟩ := by kernel_rfl
@[go_sem] theorem fact_fld8_0 : fldOf Try.prog 8 0 = some ⟨0, 1, false⟩ := by kernel_rfl
@[go_sem] theorem fact_fld8_1 : fldOf Try.prog 8 1 = some ⟨1, 1, false⟩ := by kernel_rfl
@[go_sem] theorem fact_fld8_2 : fldOf Try.prog 8 2 = some ⟨2, 1, false⟩ := by kernel_rfl
@[go_sem] theorem fact_fld8_3 : fldOf Try.prog 8 3 = some ⟨3, 1, false⟩ := by kernel_rfl
@[go_sem] theorem fact_bld8 : bldOf Try.prog 8 = some ⟨4, [.int .i64 0, .int .i64 0, .bool false, .int .u8 0], [(0, 1), (1, 1), (2, 1), (3, 1)]⟩ := by kernel_rfl
@[go_sem] theorem fact_len9 : lenT Try.prog 9 = .str := by kernel_rfl
@[go_sem] theorem fact_st9 : isStr Try.prog 9 = true := by kernel_rfl
@[go_sem] theorem fact_sl9 : slT Try.prog 9 = .str := by kernel_rfl
@[go_sem] theorem fact_ty9 : tyOf Try.prog 9 = some ⟨false, 1, [.string ⟨#[]⟩]⟩ := by kernel_rfl
@[go_sem] theorem fact_len10 : lenT Try.prog 10 = .str := by kernel_rfl
@[go_sem] theorem fact_st10 : isStr Try.prog 10 = true := by kernel_rfl
@[go_sem] theorem fact_sl10 : slT Try.prog 10 = .str := by kernel_rfl
@[go_sem] theorem fact_ty10 : tyOf Try.prog 10 = some ⟨false, 1, [.string ⟨#[]⟩]⟩ := by kernel_rfl
@[go_sem] theorem fact_len11 : lenT Try.prog 11 = .str := by kernel_rfl
@[go_sem] theorem fact_st11 : isStr Try.prog 11 = true := by kernel_rfl
@[go_sem] theorem fact_sl11 : slT Try.prog 11 = .str := by kernel_rfl
@[go_sem] theorem fact_ty11 : tyOf Try.prog 11 = some ⟨false, 1, [.string ⟨#[]⟩]⟩ := by kernel_rfl
@[go_sem] theorem fact_isint12 : isIntT Try.prog 12 = true := by kernel_rfl
@[go_sem] theorem fact_ty12 : tyOf Try.prog 12 = some ⟨false, 1, [.int .u64 0]⟩ := by kernel_rfl
@[go_sem] theorem fact_ty13 : tyOf Try.prog 13 = some ⟨true, 2, [.string ⟨#[]⟩, .int .u64 0]⟩ := by kernel_rfl
@[go_sem] theorem fact_fld13_0 : fldOf Try.prog 13 0 = some ⟨0, 1, false⟩ := by kernel_rfl
@[go_sem] theorem fact_fld13_1 : fldOf Try.prog 13 1 = some ⟨1, 1, false⟩ := by kernel_rfl
@[go_sem] theorem fact_bld13 : bldOf Try.prog 13 = some ⟨2, [.string ⟨#[]⟩, .int .u64 0], [(0, 1), (1, 1)]⟩ := by kernel_rfl
@[go_sem] theorem fact_ty14 : tyOf Try.prog 14 = some ⟨true, 2, [.string ⟨#[]⟩, .int .u64 0]⟩ := by kernel_rfl
@[go_sem] theorem fact_fld14_0 : fldOf Try.prog 14 0 = some ⟨0, 1, false⟩ := by kernel_rfl
@[go_sem] theorem fact_fld14_1 : fldOf Try.prog 14 1 = some ⟨1, 1, false⟩ := by kernel_rfl
@[go_sem] theorem fact_bld14 : bldOf Try.prog 14 = some ⟨2, [.string ⟨#[]⟩, .int .u64 0], [(0, 1), (1, 1)]⟩ := by kernel_rfl
@[go_sem] theorem fact_eq15 : eqT Try.prog 15 = .ptr := by kernel_rfl
@[go_sem] theorem fact_ty15 : tyOf Try.prog 15 = some ⟨false, 1, [.pointer none]⟩ := by kernel_rfl
@[go_sem] theorem fact_eq16 : eqT Try.prog 16 = .ptr := by kernel_rfl
@[go_sem] theorem fact_ty16 : tyOf Try.prog 16 = some ⟨false, 1, [.pointer none]⟩ := by kernel_rfl
@[go_sem] theorem fact_eq17 : eqT Try.prog 17 = .ptr := by kernel_rfl
@[go_sem] theorem fact_ty17 : tyOf Try.prog 17 = some ⟨false, 1, [.pointer none]⟩ := by kernel_rfl
@[go_sem] theorem fact_ty18 : tyOf Try.prog 18 = some ⟨true, 1, [.pointer none]⟩ := by kernel_rfl
@[go_sem] theorem fact_fld18_0 : fldOf Try.prog 18 0 = some ⟨0, 1, false⟩ := by kernel_rfl
@[go_sem] theorem fact_bld18 : bldOf Try.prog 18 = some ⟨1, [.pointer none], [(0, 1)]⟩ := by kernel_rfl
@[go_sem] theorem fact_ty19 : tyOf Try.prog 19 = some ⟨true, 1, [.pointer none]⟩ := by kernel_rfl
@[go_sem] theorem fact_fld19_0 : fldOf Try.prog 19 0 = some ⟨0, 1, false⟩ := by kernel_rfl
@[go_sem] theorem fact_bld19 : bldOf Try.prog 19 = some ⟨1, [.pointer none], [(0, 1)]⟩ := by kernel_rfl
@[go_sem] theorem fact_isint21 : isIntT Try.prog 21 = true := by kernel_rfl
@[go_sem] theorem fact_ty21 : tyOf Try.prog 21 = some ⟨false, 1, [.int .i32 0]⟩ := by kernel_rfl
@[go_sem] theorem fact_sel22 : selOf Try.prog 22 = some ⟨5, 1, 1, [.int .u8 0]⟩ := by kernel_rfl
@[go_sem] theorem fact_eq22 : eqT Try.prog 22 = .slice := by kernel_rfl
@[go_sem] theorem fact_len22 : lenT Try.prog 22 = .slice := by kernel_rfl
@[go_sem] theorem fact_sl22 : slT Try.prog 22 = .slice 1 := by kernel_rfl
@[go_sem] theorem fact_ty22 : tyOf Try.prog 22 = some ⟨false, 1, [.slice none 0 0]⟩ := by kernel_rfl
@[go_sem] theorem fact_ty23 : tyOf Try.prog 23 = some ⟨false, 1, [.nilFunc]⟩ := by kernel_rfl
@[go_sem] theorem fact_eq24 : eqT Try.prog 24 = .ptr := by kernel_rfl
@[go_sem] theorem fact_ty24 : tyOf Try.prog 24 = some ⟨false, 1, [.pointer none]⟩ := by kernel_rfl
@[go_sem] theorem fact_ty25 : tyOf Try.prog 25 = some ⟨false, 1, [.nilFunc]⟩ := by kernel_rfl
@[go_sem] theorem fact_isint26 : isIntT Try.prog 26 = true := by kernel_rfl
@[go_sem] theorem fact_ty26 : tyOf Try.prog 26 = some ⟨false, 1, [.int .u64 0]⟩ := by kernel_rfl
@[go_sem] theorem fact_sel27 : selOf Try.prog 27 = some ⟨31, 1, 24, [.slice none 0 0]⟩ := by kernel_rfl
@[go_sem] theorem fact_eq27 : eqT Try.prog 27 = .slice := by kernel_rfl
@[go_sem] theorem fact_len27 : lenT Try.prog 27 = .slice := by kernel_rfl
@[go_sem] theorem fact_sl27 : slT Try.prog 27 = .slice 1 := by kernel_rfl
@[go_sem] theorem fact_ty27 : tyOf Try.prog 27 = some ⟨false, 1, [.slice none 0 0]⟩ := by kernel_rfl
@[go_sem] theorem fact_ty28 : tyOf Try.prog 28 = some ⟨true, 3, [.int .i64 0, .string ⟨#[]⟩, .slice none 0 0]⟩ := by kernel_rfl
@[go_sem] theorem fact_fld28_0 : fldOf Try.prog 28 0 = some ⟨0, 1, false⟩ := by kernel_rfl
@[go_sem] theorem fact_fld28_1 : fldOf Try.prog 28 1 = some ⟨1, 1, false⟩ := by kernel_rfl
@[go_sem] theorem fact_fld28_2 : fldOf Try.prog 28 2 = some ⟨2, 1, false⟩ := by kernel_rfl
@[go_sem] theorem fact_bld28 : bldOf Try.prog 28 = some ⟨3, [.int .i64 0, .string ⟨#[]⟩, .slice none 0 0], [(0, 1), (1, 1), (2, 1)]⟩ := by kernel_rfl
@[go_sem] theorem fact_ty29 : tyOf Try.prog 29 = some ⟨true, 3, [.int .i64 0, .string ⟨#[]⟩, .slice none 0 0]⟩ := by kernel_rfl
@[go_sem] theorem fact_fld29_0 : fldOf Try.prog 29 0 = some ⟨0, 1, false⟩ := by kernel_rfl
@[go_sem] theorem fact_fld29_1 : fldOf Try.prog 29 1 = some ⟨1, 1, false⟩ := by kernel_rfl
@[go_sem] theorem fact_fld29_2 : fldOf Try.prog 29 2 = some ⟨2, 1, false⟩ := by kernel_rfl
@[go_sem] theorem fact_bld29 : bldOf Try.prog 29 = some ⟨3, [.int .i64 0, .string ⟨#[]⟩, .slice none 0 0], [(0, 1), (1, 1), (2, 1)]⟩ := by kernel_rfl
@[go_sem] theorem fact_ty30 : tyOf Try.prog 30 = some ⟨false, 1, [.nilFunc]⟩ := by kernel_rfl
@[go_sem] theorem fact_sel31 : selOf Try.prog 31 = some ⟨2, 1, 8, [.int .i64 0]⟩ := by kernel_rfl
@[go_sem] theorem fact_eq31 : eqT Try.prog 31 = .slice := by kernel_rfl
@[go_sem] theorem fact_len31 : lenT Try.prog 31 = .slice := by kernel_rfl
@[go_sem] theorem fact_sl31 : slT Try.prog 31 = .slice 1 := by kernel_rfl
@[go_sem] theorem fact_ty31 : tyOf Try.prog 31 = some ⟨false, 1, [.slice none 0 0]⟩ := by kernel_rfl
@[go_sem] theorem fact_ty32 : tyOf Try.prog 32 = some ⟨false, 1, [.nilFunc]⟩ := by kernel_rfl
@[go_sem] theorem fact_ty33 : tyOf Try.prog 33 = some ⟨false, 1, [.nilFunc]⟩ := by kernel_rfl
@[go_sem] theorem fact_ty35 : tyOf Try.prog 35 = some ⟨false, 1, [.nilFunc]⟩ := by kernel_rfl
@[go_sem] theorem fact_ty36 : tyOf Try.prog 36 = some ⟨false, 1, [.nilFunc]⟩ := by kernel_rfl
@[go_sem] theorem fact_ty37 : tyOf Try.prog 37 = some ⟨false, 1, [.nilFunc]⟩ := by kernel_rfl
@[go_sem] theorem fact_ty38 : tyOf Try.prog 38 = some ⟨false, 1, [.nilFunc]⟩ := by kernel_rfl
@[go_sem] theorem fact_ty39 : tyOf Try.prog 39 = some ⟨false, 1, [.nilFunc]⟩ := by kernel_rfl
@[go_sem] theorem fact_ty40 : tyOf Try.prog 40 = some ⟨false, 1, [.nilFunc]⟩ := by kernel_rfl
@[go_sem] theorem fact_ty41 : tyOf Try.prog 41 = some ⟨false, 1, [.nilFunc]⟩ := by kernel_rfl
@[go_sem] theorem fact_ty42 : tyOf Try.prog 42 = some ⟨false, 1, [.nilFunc]⟩ := by kernel_rfl
@[go_sem] theorem fact_ty43 : tyOf Try.prog 43 = some ⟨false, 1, [.nilFunc]⟩ := by kernel_rfl
@[go_sem] theorem fact_ty45 : tyOf Try.prog 45 = some ⟨false, 1, [.nilFunc]⟩ := by kernel_rfl
@[go_sem] theorem fact_ty46 : tyOf Try.prog 46 = some ⟨false, 1, [.nilFunc]⟩ := by kernel_rfl
@[go_sem] theorem fact_ty47 : tyOf Try.prog 47 = some ⟨false, 1, [.nilFunc]⟩ := by kernel_rfl
@[go_sem] theorem fact_ty48 : tyOf Try.prog 48 = some ⟨false, 1, [.nilFunc]⟩ := by kernel_rfl
@[go_sem] theorem fact_ty49 : tyOf Try.prog 49 = some ⟨false, 1, [.nilFunc]⟩ := by kernel_rfl
@[go_sem] theorem fact_ty50 : tyOf Try.prog 50 = some ⟨false, 1, [.nilFunc]⟩ := by kernel_rfl
@[go_sem] theorem fact_ty52 : tyOf Try.prog 52 = some ⟨false, 1, [.nilFunc]⟩ := by kernel_rfl
@[go_sem] theorem fact_ty53 : tyOf Try.prog 53 = some ⟨false, 1, [.nilFunc]⟩ := by kernel_rfl
@[go_sem] theorem fact_ty54 : tyOf Try.prog 54 = some ⟨false, 1, [.nilFunc]⟩ := by kernel_rfl
@[go_sem] theorem fact_ty55 : tyOf Try.prog 55 = some ⟨true, 3, [.slice none 0 0, .int .i64 0, .int .u64 0]⟩ := by kernel_rfl
@[go_sem] theorem fact_fld55_0 : fldOf Try.prog 55 0 = some ⟨0, 1, false⟩ := by kernel_rfl
@[go_sem] theorem fact_fld55_1 : fldOf Try.prog 55 1 = some ⟨1, 1, false⟩ := by kernel_rfl
@[go_sem] theorem fact_fld55_2 : fldOf Try.prog 55 2 = some ⟨2, 1, false⟩ := by kernel_rfl
@[go_sem] theorem fact_bld55 : bldOf Try.prog 55 = some ⟨3, [.slice none 0 0, .int .i64 0, .int .u64 0], [(0, 1), (1, 1), (2, 1)]⟩ := by kernel_rfl
@[go_sem] theorem fact_ty56 : tyOf Try.prog 56 = some ⟨true, 3, [.slice none 0 0, .int .i64 0, .int .u64 0]⟩ := by kernel_rfl
@[go_sem] theorem fact_fld56_0 : fldOf Try.prog 56 0 = some ⟨0, 1, false⟩ := by kernel_rfl
@[go_sem] theorem fact_fld56_1 : fldOf Try.prog 56 1 = some ⟨1, 1, false⟩ := by kernel_rfl
@[go_sem] theorem fact_fld56_2 : fldOf Try.prog 56 2 = some ⟨2, 1, false⟩ := by kernel_rfl
@[go_sem] theorem fact_bld56 : bldOf Try.prog 56 = some ⟨3, [.slice none 0 0, .int .i64 0, .int .u64 0], [(0, 1), (1, 1), (2, 1)]⟩ := by kernel_rfl
@[go_sem] theorem fact_eq57 : eqT Try.prog 57 = .ptr := by kernel_rfl
@[go_sem] theorem fact_ty57 : tyOf Try.prog 57 = some ⟨false, 1, [.pointer none]⟩ := by kernel_rfl
@[go_sem] theorem fact_ty59 : tyOf Try.prog 59 = some ⟨false, 1, [.nilFunc]⟩ := by kernel_rfl
@[go_sem] theorem fact_map60 : mapOf Try.prog 60 = some (.int .i64 0) := by kernel_rfl
@[go_sem] theorem fact_ty60 : tyOf Try.prog 60 = some ⟨false, 1, [.map none]⟩ := by kernel_rfl
@[go_sem] theorem fact_ty61 : tyOf Try.prog 61 = some ⟨true, 9, [.int .i64 0, .string ⟨#[]⟩, .slice none 0 0, .slice none 0 0, .slice none 0 0, .map none, .slice none 0 0, .slice none 0 0, .slice none 0 0]⟩ := by kernel_rfl
@[go_sem] theorem fact_fld61_0 : fldOf Try.prog 61 0 = some ⟨0, 3, true⟩ := by kernel_rfl
@[go_sem] theorem fact_fld61_1 : fldOf Try.prog 61 1 = some ⟨3, 1, false⟩ := by kernel_rfl
@[go_sem] theorem fact_fld61_2 : fldOf Try.prog 61 2 = some ⟨4, 1, false⟩ := by kernel_rfl
@[go_sem] theorem fact_fld61_3 : fldOf Try.prog 61 3 = some ⟨5, 1, false⟩ := by kernel_rfl
@[go_sem] theorem fact_fld61_4 : fldOf Try.prog 61 4 = some ⟨6, 1, false⟩ := by kernel_rfl
@[go_sem] theorem fact_fld61_5 : fldOf Try.prog 61 5 = some ⟨7, 1, false⟩ := by kernel_rfl
@[go_sem] theorem fact_fld61_6 : fldOf Try.prog 61 6 = some ⟨8, 1, false⟩ := by kernel_rfl
@[go_sem] theorem fact_bld61 : bldOf Try.prog 61 = some ⟨9, [.int .i64 0, .string ⟨#[]⟩, .slice none 0 0, .slice none 0 0, .slice none 0 0, .map none, .slice none 0 0, .slice none 0 0, .slice none 0 0], [(0, 3), (3, 1), (4, 1), (5, 1), (6, 1), (7, 1), (8, 1)]⟩ := by kernel_rfl
@[go_sem] theorem fact_ty62 : tyOf Try.prog 62 = some ⟨true, 9, [.int .i64 0, .string ⟨#[]⟩, .slice none 0 0, .slice none 0 0, .slice none 0 0, .map none, .slice none 0 0, .slice none 0 0, .slice none 0 0]⟩ := by kernel_rfl
@[go_sem] theorem fact_fld62_0 : fldOf Try.prog 62 0 = some ⟨0, 3, true⟩ := by kernel_rfl
@[go_sem] theorem fact_fld62_1 : fldOf Try.prog 62 1 = some ⟨3, 1, false⟩ := by kernel_rfl
@[go_sem] theorem fact_fld62_2 : fldOf Try.prog 62 2 = some ⟨4, 1, false⟩ := by kernel_rfl
@[go_sem] theorem fact_fld62_3 : fldOf Try.prog 62 3 = some ⟨5, 1, false⟩ := by kernel_rfl
@[go_sem] theorem fact_fld62_4 : fldOf Try.prog 62 4 = some ⟨6, 1, false⟩ := by kernel_rfl
@[go_sem] theorem fact_fld62_5 : fldOf Try.prog 62 5 = some ⟨7, 1, false⟩ := by kernel_rfl
@[go_sem] theorem fact_fld62_6 : fldOf Try.prog 62 6 = some ⟨8, 1, false⟩ := by kernel_rfl
@[go_sem] theorem fact_bld62 : bldOf Try.prog 62 = some ⟨9, [.int .i64 0, .string ⟨#[]⟩, .slice none 0 0, .slice none 0 0, .slice none 0 0, .map none, .slice none 0 0, .slice none 0 0, .slice none 0 0], [(0, 3), (3, 1), (4, 1), (5, 1), (6, 1), (7, 1), (8, 1)]⟩ := by kernel_rfl
@[go_sem] theorem fact_ty63 : tyOf Try.prog 63 = some ⟨false, 1, [.nilFunc]⟩ := by kernel_rfl
@[go_sem] theorem fact_ty64 : tyOf Try.prog 64 = some ⟨false, 1, [.nilFunc]⟩ := by kernel_rfl
@[go_sem] theorem fact_ty65 : tyOf Try.prog 65 = some ⟨false, 1, [.nilFunc]⟩ := by kernel_rfl
@[go_sem] theorem fact_ty66 : tyOf Try.prog 66 = some ⟨false, 1, [.nilFunc]⟩ := by kernel_rfl
@[go_sem] theorem fact_ty67 : tyOf Try.prog 67 = some ⟨false, 1, [.nilFunc]⟩ := by kernel_rfl
@[go_sem] theorem fact_ty68 : tyOf Try.prog 68 = some ⟨false, 1, [.nilFunc]⟩ := by kernel_rfl
@[go_sem] theorem fact_ty69 : tyOf Try.prog 69 = some ⟨false, 1, [.nilFunc]⟩ := by kernel_rfl
@[go_sem] theorem fact_ty71 : tyOf Try.prog 71 = some ⟨false, 1, [.nilFunc]⟩ := by kernel_rfl
@[go_sem] theorem fact_ty72 : tyOf Try.prog 72 = some ⟨false, 1, [.nilFunc]⟩ := by kernel_rfl
@[go_sem] theorem fact_ty74 : tyOf Try.prog 74 = some ⟨false, 1, [.nilFunc]⟩ := by kernel_rfl
@[go_sem] theorem fact_ty75 : tyOf Try.prog 75 = some ⟨false, 1, [.nilFunc]⟩ := by kernel_rfl
@[go_sem] theorem fact_ty76 : tyOf Try.prog 76 = some ⟨false, 1, [.nilFunc]⟩ := by kernel_rfl
@[go_sem] theorem fact_isint77 : isIntT Try.prog 77 = true := by kernel_rfl
@[go_sem] theorem fact_ty77 : tyOf Try.prog 77 = some ⟨false, 1, [.int .u64 0]⟩ := by kernel_rfl
@[go_sem] theorem fact_ty79 : tyOf Try.prog 79 = some ⟨false, 1, [.nilFunc]⟩ := by kernel_rfl
@[go_sem] theorem fact_ty80 : tyOf Try.prog 80 = some ⟨false, 1, [.nilFunc]⟩ := by kernel_rfl
@[go_sem] theorem fact_sel81 : selOf Try.prog 81 = some ⟨3, 1, 8, [.int .i64 0]⟩ := by kernel_rfl
@[go_sem] theorem fact_eq81 : eqT Try.prog 81 = .slice := by kernel_rfl
@[go_sem] theorem fact_len81 : lenT Try.prog 81 = .slice := by kernel_rfl
@[go_sem] theorem fact_sl81 : slT Try.prog 81 = .slice 1 := by kernel_rfl
@[go_sem] theorem fact_ty81 : tyOf Try.prog 81 = some ⟨false, 1, [.slice none 0 0]⟩ := by kernel_rfl
@[go_sem] theorem fact_ty82 : tyOf Try.prog 82 = some ⟨true, 4, [.slice none 0 0, .slice none 0 0, .slice none 0 0, .bool false]⟩ := by kernel_rfl
@[go_sem] theorem fact_fld82_0 : fldOf Try.prog 82 0 = some ⟨0, 1, false⟩ := by kernel_rfl
@[go_sem] theorem fact_fld82_1 : fldOf Try.prog 82 1 = some ⟨1, 1, false⟩ := by kernel_rfl
@[go_sem] theorem fact_fld82_2 : fldOf Try.prog 82 2 = some ⟨2, 1, false⟩ := by kernel_rfl
@[go_sem] theorem fact_fld82_3 : fldOf Try.prog 82 3 = some ⟨3, 1, false⟩ := by kernel_rfl
@[go_sem] theorem fact_bld82 : bldOf Try.prog 82 = some ⟨4, [.slice none 0 0, .slice none 0 0, .slice none 0 0, .bool false], [(0, 1), (1, 1), (2, 1), (3, 1)]⟩ := by kernel_rfl
@[go_sem] theorem fact_ty83 : tyOf Try.prog 83 = some ⟨true, 4, [.slice none 0 0, .slice none 0 0, .slice none 0 0, .bool false]⟩ := by kernel_rfl
@[go_sem] theorem fact_fld83_0 : fldOf Try.prog 83 0 = some ⟨0, 1, false⟩ := by kernel_rfl
@[go_sem] theorem fact_fld83_1 : fldOf Try.prog 83 1 = some ⟨1, 1, false⟩ := by kernel_rfl
@[go_sem] theorem fact_fld83_2 : fldOf Try.prog 83 2 = some ⟨2, 1, false⟩ := by kernel_rfl
@[go_sem] theorem fact_fld83_3 : fldOf Try.prog 83 3 = some ⟨3, 1, false⟩ := by kernel_rfl
@[go_sem] theorem fact_bld83 : bldOf Try.prog 83 = some ⟨4, [.slice none 0 0, .slice none 0 0, .slice none 0 0, .bool false], [(0, 1), (1, 1), (2, 1), (3, 1)]⟩ := by kernel_rfl
@[go_sem] theorem fact_ty85 : tyOf Try.prog 85 = some ⟨false, 1, [.nilFunc]⟩ := by kernel_rfl
@[go_sem] theorem fact_ty86 : tyOf Try.prog 86 = some ⟨false, 1, [.nilFunc]⟩ := by kernel_rfl
@[go_sem] theorem fact_ty87 : tyOf Try.prog 87 = some ⟨false, 1, [.nilFunc]⟩ := by kernel_rfl
@[go_sem] theorem fact_ty88 : tyOf Try.prog 88 = some ⟨false, 1, [.nilFunc]⟩ := by kernel_rfl
@[go_sem] theorem fact_ty89 : tyOf Try.prog 89 = some ⟨false, 1, [.nilFunc]⟩ := by kernel_rfl
@[go_sem] theorem fact_ty91 : tyOf Try.prog 91 = some ⟨false, 1, [.nilFunc]⟩ := by kernel_rfl
@[go_sem] theorem fact_eq92 : eqT Try.prog 92 = .ptr := by kernel_rfl
@[go_sem] theorem fact_ty92 : tyOf Try.prog 92 = some ⟨false, 1, [.pointer none]⟩ := by kernel_rfl
@[go_sem] theorem fact_ty93 : tyOf Try.prog 93 = some ⟨false, 1, [.nilFunc]⟩ := by kernel_rfl
@[go_sem] theorem fact_ty95 : tyOf Try.prog 95 = some ⟨false, 1, [.nilFunc]⟩ := by kernel_rfl
@[go_sem] theorem fact_ty96 : tyOf Try.prog 96 = some ⟨false, 1, [.nilFunc]⟩ := by kernel_rfl
@[go_sem] theorem fact_ty97 : tyOf Try.prog 97 = some ⟨false, 1, [.nilFunc]⟩ := by kernel_rfl
@[go_sem] theorem fact_ty98 : tyOf Try.prog 98 = some ⟨false, 1, [.nilFunc]⟩ := by kernel_rfl
@[go_sem] theorem fact_eq99 : eqT Try.prog 99 = .ptr := by kernel_rfl
@[go_sem] theorem fact_ty99 : tyOf Try.prog 99 = some ⟨false, 1, [.pointer none]⟩ := by kernel_rfl
@[go_sem] theorem fact_ty100 : tyOf Try.prog 100 = some ⟨false, 1, [.nilFunc]⟩ := by kernel_rfl
@[go_sem] theorem fact_ty101 : tyOf Try.prog 101 = some ⟨false, 1, [.nilFunc]⟩ := by kernel_rfl
@[go_sem] theorem fact_ty102 : tyOf Try.prog 102 = some ⟨false, 1, [.nilFunc]⟩ := by kernel_rfl
@[go_sem] theorem fact_ty103 : tyOf Try.prog 103 = some ⟨false, 1, [.nilFunc]⟩ := by kernel_rfl
@[go_sem] theorem fact_ty104 : tyOf Try.prog 104 = some ⟨false, 1, [.nilFunc]⟩ := by kernel_rfl
@[go_sem] theorem fact_ty105 : tyOf Try.prog 105 = some ⟨false, 1, [.nilFunc]⟩ := by kernel_rfl
@[go_sem] theorem fact_ty106 : tyOf Try.prog 106 = some ⟨false, 1, [.nilFunc]⟩ := by kernel_rfl
@[go_sem] theorem fact_ty107 : tyOf Try.prog 107 = some ⟨false, 1, [.nilFunc]⟩ := by kernel_rfl
@[go_sem] theorem fact_ty108 : tyOf Try.prog 108 = some ⟨false, 1, [.nilFunc]⟩ := by kernel_rfl
@[go_sem] theorem fact_eq109 : eqT Try.prog 109 = .ptr := by kernel_rfl
@[go_sem] theorem fact_ty109 : tyOf Try.prog 109 = some ⟨false, 1, [.pointer none]⟩ := by kernel_rfl
@[go_sem] theorem fact_ty110 : tyOf Try.prog 110 = some ⟨false, 1, [.nilFunc]⟩ := by kernel_rfl
@[go_sem] theorem fact_ty111 : tyOf Try.prog 111 = some ⟨false, 1, [.nilFunc]⟩ := by kernel_rfl
@[go_sem] theorem fact_ty112 : tyOf Try.prog 112 = some ⟨false, 1, [.nilFunc]⟩ := by kernel_rfl
@[go_sem] theorem fact_ty113 : tyOf Try.prog 113 = some ⟨false, 1, [.nilFunc]⟩ := by kernel_rfl
@[go_sem] theorem fact_ty114 : tyOf Try.prog 114 = some ⟨false, 1, [.nilFunc]⟩ := by kernel_rfl
@[go_sem] theorem fact_ty115 : tyOf Try.prog 115 = some ⟨true, 3, [.slice none 0 0, .int .i64 0, .int .i64 0]⟩ := by kernel_rfl
@[go_sem] theorem fact_fld115_0 : fldOf Try.prog 115 0 = some ⟨0, 1, false⟩ := by kernel_rfl
@[go_sem] theorem fact_fld115_1 : fldOf Try.prog 115 1 = some ⟨1, 1, false⟩ := by kernel_rfl
@[go_sem] theorem fact_fld115_2 : fldOf Try.prog 115 2 = some ⟨2, 1, false⟩ := by kernel_rfl
@[go_sem] theorem fact_bld115 : bldOf Try.prog 115 = some ⟨3, [.slice none 0 0, .int .i64 0, .int .i64 0], [(0, 1), (1, 1), (2, 1)]⟩ := by kernel_rfl
@[go_sem] theorem fact_ty116 : tyOf Try.prog 116 = some ⟨true, 3, [.slice none 0 0, .int .i64 0, .int .i64 0]⟩ := by kernel_rfl
@[go_sem] theorem fact_fld116_0 : fldOf Try.prog 116 0 = some ⟨0, 1, false⟩ := by kernel_rfl
@[go_sem] theorem fact_fld116_1 : fldOf Try.prog 116 1 = some ⟨1, 1, false⟩ := by kernel_rfl
@[go_sem] theorem fact_fld116_2 : fldOf Try.prog 116 2 = some ⟨2, 1, false⟩ := by kernel_rfl
@[go_sem] theorem fact_bld116 : bldOf Try.prog 116 = some ⟨3, [.slice none 0 0, .int .i64 0, .int .i64 0], [(0, 1), (1, 1), (2, 1)]⟩ := by kernel_rfl
@[go_sem] theorem fact_ty117 : tyOf Try.prog 117 = some ⟨false, 1, [.nilFunc]⟩ := by kernel_rfl
@[go_sem] theorem fact_ty118 : tyOf Try.prog 118 = some ⟨false, 1, [.nilFunc]⟩ := by kernel_rfl
@[go_sem] theorem fact_ty119 : tyOf Try.prog 119 = some ⟨false, 1, [.nilFunc]⟩ := by kernel_rfl
@[go_sem] theorem fact_ty120 : tyOf Try.prog 120 = some ⟨false, 1, [.nilFunc]⟩ := by kernel_rfl
@[go_sem] theorem fact_ty121 : tyOf Try.prog 121 = some ⟨false, 1, [.nilFunc]⟩ := by kernel_rfl
@[go_sem] theorem fact_ty122 : tyOf Try.prog 122 = some ⟨false, 1, [.nilFunc]⟩ := by kernel_rfl
@[go_sem] theorem fact_ty123 : tyOf Try.prog 123 = some ⟨false, 1, [.nilFunc]⟩ := by kernel_rfl
@[go_sem] theorem fact_ty124 : tyOf Try.prog 124 = some ⟨false, 1, [.nilFunc]⟩ := by kernel_rfl
@[go_sem] theorem fact_sel125 : selOf Try.prog 125 = some ⟨27, 1, 24, [.slice none 0 0]⟩ := by kernel_rfl
@[go_sem] theorem fact_eq125 : eqT Try.prog 125 = .slice := by kernel_rfl
@[go_sem] theorem fact_len125 : lenT Try.prog 125 = .slice := by kernel_rfl
@[go_sem] theorem fact_sl125 : slT Try.prog 125 = .slice 1 := by kernel_rfl
@[go_sem] theorem fact_ty125 : tyOf Try.prog 125 = some ⟨false, 1, [.slice none 0 0]⟩ := by kernel_rfl
@[go_sem] theorem fact_ty126 : tyOf Try.prog 126 = some ⟨true, 3, [.int .i64 0, .slice none 0 0, .slice none 0 0]⟩ := by kernel_rfl
@[go_sem] theorem fact_fld126_0 : fldOf Try.prog 126 0 = some ⟨0, 1, false⟩ := by kernel_rfl
@[go_sem] theorem fact_fld126_1 : fldOf Try.prog 126 1 = some ⟨1, 1, false⟩ := by kernel_rfl
@[go_sem] theorem fact_fld126_2 : fldOf Try.prog 126 2 = some ⟨2, 1, false⟩ := by kernel_rfl
@[go_sem] theorem fact_bld126 : bldOf Try.prog 126 = some ⟨3, [.int .i64 0, .slice none 0 0, .slice none 0 0], [(0, 1), (1, 1), (2, 1)]⟩ := by kernel_rfl
@[go_sem] theorem fact_ty127 : tyOf Try.prog 127 = some ⟨true, 3, [.int .i64 0, .slice none 0 0, .slice none 0 0]⟩ := by kernel_rfl
@[go_sem] theorem fact_fld127_0 : fldOf Try.prog 127 0 = some ⟨0, 1, false⟩ := by kernel_rfl
@[go_sem] theorem fact_fld127_1 : fldOf Try.prog 127 1 = some ⟨1, 1, false⟩ := by kernel_rfl
@[go_sem] theorem fact_fld127_2 : fldOf Try.prog 127 2 = some ⟨2, 1, false⟩ := by kernel_rfl
@[go_sem] theorem fact_bld127 : bldOf Try.prog 127 = some ⟨3, [.int .i64 0, .slice none 0 0, .slice none 0 0], [(0, 1), (1, 1), (2, 1)]⟩ := by kernel_rfl
@[go_sem] theorem fact_ty128 : tyOf Try.prog 128 = some ⟨false, 1, [.nilFunc]⟩ := by kernel_rfl
@[go_sem] theorem fact_ty129 : tyOf Try.prog 129 = some ⟨false, 1, [.nilFunc]⟩ := by kernel_rfl
@[go_sem] theorem fact_ty130 : tyOf Try.prog 130 = some ⟨false, 1, [.nilFunc]⟩ := by kernel_rfl
@[go_sem] theorem fact_ty131 : tyOf Try.prog 131 = some ⟨false, 1, [.nilFunc]⟩ := by kernel_rfl
@[go_sem] theorem fact_ty132 : tyOf Try.prog 132 = some ⟨false, 1, [.nilFunc]⟩ := by kernel_rfl
@[go_sem] theorem fact_ty133 : tyOf Try.prog 133 = some ⟨false, 1, [.nilFunc]⟩ := by kernel_rfl
@[go_sem] theorem fact_ty134 : tyOf Try.prog 134 = some ⟨false, 1, [.nilFunc]⟩ := by kernel_rfl
@[go_sem] theorem fact_ty136 : tyOf Try.prog 136 = some ⟨false, 1, [.nilFunc]⟩ := by kernel_rfl
@[go_sem] theorem fact_ty137 : tyOf Try.prog 137 = some ⟨true, 3, [.int .i64 0, .slice none 0 0, .slice none 0 0]⟩ := by kernel_rfl
@[go_sem] theorem fact_fld137_0 : fldOf Try.prog 137 0 = some ⟨0, 1, false⟩ := by kernel_rfl
@[go_sem] theorem fact_fld137_1 : fldOf Try.prog 137 1 = some ⟨1, 1, false⟩ := by kernel_rfl
@[go_sem] theorem fact_fld137_2 : fldOf Try.prog 137 2 = some ⟨2, 1, false⟩ := by kernel_rfl
@[go_sem] theorem fact_bld137 : bldOf Try.prog 137 = some ⟨3, [.int .i64 0, .slice none 0 0, .slice none 0 0], [(0, 1), (1, 1), (2, 1)]⟩ := by kernel_rfl
@[go_sem] theorem fact_ty138 : tyOf Try.prog 138 = some ⟨true, 3, [.int .i64 0, .slice none 0 0, .slice none 0 0]⟩ := by kernel_rfl
@[go_sem] theorem fact_fld138_0 : fldOf Try.prog 138 0 = some ⟨0, 1, false⟩ := by kernel_rfl
@[go_sem] theorem fact_fld138_1 : fldOf Try.prog 138 1 = some ⟨1, 1, false⟩ := by kernel_rfl
@[go_sem] theorem fact_fld138_2 : fldOf Try.prog 138 2 = some ⟨2, 1, false⟩ := by kernel_rfl
@[go_sem] theorem fact_bld138 : bldOf Try.prog 138 = some ⟨3, [.int .i64 0, .slice none 0 0, .slice none 0 0], [(0, 1), (1, 1), (2, 1)]⟩ := by kernel_rfl
@[go_sem] theorem fact_ty139 : tyOf Try.prog 139 = some ⟨false, 1, [.nilFunc]⟩ := by kernel_rfl
@[go_sem] theorem fact_ty140 : tyOf Try.prog 140 = some ⟨false, 1, [.nilFunc]⟩ := by kernel_rfl
@[go_sem] theorem fact_ty142 : tyOf Try.prog 142 = some ⟨false, 1, [.nilFunc]⟩ := by kernel_rfl
@[go_sem] theorem fact_ty143 : tyOf Try.prog 143 = some ⟨false, 1, [.nilFunc]⟩ := by kernel_rfl
@[go_sem] theorem fact_ty144 : tyOf Try.prog 144 = some ⟨false, 1, [.nilFunc]⟩ := by kernel_rfl
@[go_sem] theorem fact_ty145 : tyOf Try.prog 145 = some ⟨false, 1, [.nilFunc]⟩ := by kernel_rfl
@[go_sem] theorem fact_ty146 : tyOf Try.prog 146 = some ⟨false, 1, [.nilFunc]⟩ := by kernel_rfl
@[go_sem] theorem fact_ty147 : tyOf Try.prog 147 = some ⟨false, 1, [.nilFunc]⟩ := by kernel_rfl
@[go_sem] theorem fact_ty148 : tyOf Try.prog 148 = some ⟨false, 1, [.nilFunc]⟩ := by kernel_rfl
@[go_sem] theorem fact_ty149 : tyOf Try.prog 149 = some ⟨false, 1, [.nilFunc]⟩ := by kernel_rfl
@[go_sem] theorem fact_ty150 : tyOf Try.prog 150 = some ⟨false, 1, [.nilFunc]⟩ := by kernel_rfl
@[go_sem] theorem fact_ty151 : tyOf Try.prog 151 = some ⟨false, 1, [.nilFunc]⟩ := by kernel_rfl
@[go_sem] theorem fact_sel152 : selOf Try.prog 152 = some ⟨9, 1, 16, [.string ⟨#[]⟩]⟩ := by kernel_rfl
@[go_sem] theorem fact_eq152 : eqT Try.prog 152 = .slice := by kernel_rfl
@[go_sem] theorem fact_len152 : lenT Try.prog 152 = .slice := by kernel_rfl
@[go_sem] theorem fact_sl152 : slT Try.prog 152 = .slice 1 := by kernel_rfl
@[go_sem] theorem fact_ty152 : tyOf Try.prog 152 = some ⟨false, 1, [.slice none 0 0]⟩ := by kernel_rfl
@[go_sem] theorem fact_ty153 : tyOf Try.prog 153 = some ⟨false, 1, [.nilFunc]⟩ := by kernel_rfl
@[go_sem] theorem fact_ty154 : tyOf Try.prog 154 = some ⟨false, 1, [.nilFunc]⟩ := by kernel_rfl
@[go_sem] theorem fact_ty155 : tyOf Try.prog 155 = some ⟨false, 1, [.nilFunc]⟩ := by kernel_rfl
@[go_sem] theorem fact_ty156 : tyOf Try.prog 156 = some ⟨false, 1, [.nilFunc]⟩ := by kernel_rfl
@[go_sem] theorem fact_ty157 : tyOf Try.prog 157 = some ⟨false, 1, [.nilFunc]⟩ := by kernel_rfl
@[go_sem] theorem fact_ty158 : tyOf Try.prog 158 = some ⟨false, 1, [.nilFunc]⟩ := by kernel_rfl
@[go_sem] theorem fact_ty159 : tyOf Try.prog 159 = some ⟨false, 1, [.nilFunc]⟩ := by kernel_rfl
@[go_sem] theorem fact_ty160 : tyOf Try.prog 160 = some ⟨false, 1, [.nilFunc]⟩ := by kernel_rfl
@[go_sem] theorem fact_ty161 : tyOf Try.prog 161 = some ⟨true, 4, [.pointer none, .pointer none, .pointer none, .string ⟨#[]⟩]⟩ := by kernel_rfl
@[go_sem] theorem fact_fld161_0 : fldOf Try.prog 161 0 = some ⟨0, 1, false⟩ := by kernel_rfl
@[go_sem] theorem fact_fld161_1 : fldOf Try.prog 161 1 = some ⟨1, 1, false⟩ := by kernel_rfl
@[go_sem] theorem fact_fld161_2 : fldOf Try.prog 161 2 = some ⟨2, 1, false⟩ := by kernel_rfl
@[go_sem] theorem fact_fld161_3 : fldOf Try.prog 161 3 = some ⟨3, 1, false⟩ := by kernel_rfl
@[go_sem] theorem fact_bld161 : bldOf Try.prog 161 = some ⟨4, [.pointer none, .pointer none, .pointer none, .string ⟨#[]⟩], [(0, 1), (1, 1), (2, 1), (3, 1)]⟩ := by kernel_rfl
@[go_sem] theorem fact_ty162 : tyOf Try.prog 162 = some ⟨true, 4, [.pointer none, .pointer none, .pointer none, .string ⟨#[]⟩]⟩ := by kernel_rfl
@[go_sem] theorem fact_fld162_0 : fldOf Try.prog 162 0 = some ⟨0, 1, false⟩ := by kernel_rfl
@[go_sem] theorem fact_fld162_1 : fldOf Try.prog 162 1 = some ⟨1, 1, false⟩ := by kernel_rfl
@[go_sem] theorem fact_fld162_2 : fldOf Try.prog 162 2 = some ⟨2, 1, false⟩ := by kernel_rfl
@[go_sem] theorem fact_fld162_3 : fldOf Try.prog 162 3 = some ⟨3, 1, false⟩ := by kernel_rfl
@[go_sem] theorem fact_bld162 : bldOf Try.prog 162 = some ⟨4, [.pointer none, .pointer none, .pointer none, .string ⟨#[]⟩], [(0, 1), (1, 1), (2, 1), (3, 1)]⟩ := by kernel_rfl
@[go_sem] theorem fact_ty163 : tyOf Try.prog 163 = some ⟨true, 0, []⟩ := by kernel_rfl
@[go_sem] theorem fact_ty164 : tyOf Try.prog 164 = some ⟨true, 0, []⟩ := by kernel_rfl
@[go_sem] theorem fact_ty165 : tyOf Try.prog 165 = some ⟨true, 0, []⟩ := by kernel_rfl
@[go_sem] theorem fact_ty166 : tyOf Try.prog 166 = some ⟨false, 1, [.nilFunc]⟩ := by kernel_rfl
@[go_sem] theorem fact_isint167 : isIntT Try.prog 167 = true := by kernel_rfl
@[go_sem] theorem fact_ty167 : tyOf Try.prog 167 = some ⟨false, 1, [.int .u32 0]⟩ := by kernel_rfl
@[go_sem] theorem fact_isint168 : isIntT Try.prog 168 = true := by kernel_rfl
@[go_sem] theorem fact_ty168 : tyOf Try.prog 168 = some ⟨false, 1, [.int .u8 0]⟩ := by kernel_rfl
@[go_sem] theorem fact_isint169 : isIntT Try.prog 169 = true := by kernel_rfl
@[go_sem] theorem fact_ty169 : tyOf Try.prog 169 = some ⟨false, 1, [.int .u8 0]⟩ := by kernel_rfl
@[go_sem] theorem fact_ty170 : tyOf Try.prog 170 = some ⟨false, 1, [.nilFunc]⟩ := by kernel_rfl
@[go_sem] theorem fact_eq171 : eqT Try.prog 171 = .ptr := by kernel_rfl
@[go_sem] theorem fact_ty171 : tyOf Try.prog 171 = some ⟨false, 1, [.pointer none]⟩ := by kernel_rfl
@[go_sem] theorem fact_isint172 : isIntT Try.prog 172 = true := by kernel_rfl
@[go_sem] theorem fact_ty172 : tyOf Try.prog 172 = some ⟨false, 1, [.int .i32 0]⟩ := by kernel_rfl
@[go_sem] theorem fact_isint173 : isIntT Try.prog 173 = true := by kernel_rfl
@[go_sem] theorem fact_ty173 : tyOf Try.prog 173 = some ⟨false, 1, [.int .i32 0]⟩ := by kernel_rfl
@[go_sem] theorem fact_ty174 : tyOf Try.prog 174 = some ⟨true, 11, [.int .u64 0, .int .u64 0, .int .u32 0, .int .u8 0, .int .u8 0, .int .u8 0, .int .u8 0, .nilFunc, .pointer none, .int .i32 0, .int .i32 0]⟩ := by kernel_rfl
@[go_sem] theorem fact_fld174_0 : fldOf Try.prog 174 0 = some ⟨0, 1, false⟩ := by kernel_rfl
@[go_sem] theorem fact_fld174_1 : fldOf Try.prog 174 1 = some ⟨1, 1, false⟩ := by kernel_rfl
@[go_sem] theorem fact_fld174_2 : fldOf Try.prog 174 2 = some ⟨2, 1, false⟩ := by kernel_rfl
@[go_sem] theorem fact_fld174_3 : fldOf Try.prog 174 3 = some ⟨3, 1, false⟩ := by kernel_rfl
@[go_sem] theorem fact_fld174_4 : fldOf Try.prog 174 4 = some ⟨4, 1, false⟩ := by kernel_rfl
@[go_sem] theorem fact_fld174_5 : fldOf Try.prog 174 5 = some ⟨5, 1, false⟩ := by kernel_rfl
@[go_sem] theorem fact_fld174_6 : fldOf Try.prog 174 6 = some ⟨6, 1, false⟩ := by kernel_rfl
@[go_sem] theorem fact_fld174_7 : fldOf Try.prog 174 7 = some ⟨7, 1, false⟩ := by kernel_rfl
@[go_sem] theorem fact_fld174_8 : fldOf Try.prog 174 8 = some ⟨8, 1, false⟩ := by kernel_rfl
@[go_sem] theorem fact_fld174_9 : fldOf Try.prog 174 9 = some ⟨9, 1, false⟩ := by kernel_rfl
@[go_sem] theorem fact_fld174_10 : fldOf Try.prog 174 10 = some ⟨10, 1, false⟩ := by kernel_rfl
@[go_sem] theorem fact_bld174 : bldOf Try.prog 174 = some ⟨11, [.int .u64 0, .int .u64 0, .int .u32 0, .int .u8 0, .int .u8 0, .int .u8 0, .int .u8 0, .nilFunc, .pointer none, .int .i32 0, .int .i32 0], [(0, 1), (1, 1), (2, 1), (3, 1), (4, 1), (5, 1), (6, 1), (7, 1), (8, 1), (9, 1), (10, 1)]⟩ := by kernel_rfl
@[go_sem] theorem fact_ty175 : tyOf Try.prog 175 = some ⟨true, 11, [.int .u64 0, .int .u64 0, .int .u32 0, .int .u8 0, .int .u8 0, .int .u8 0, .int .u8 0, .nilFunc, .pointer none, .int .i32 0, .int .i32 0]⟩ := by kernel_rfl
@[go_sem] theorem fact_fld175_0 : fldOf Try.prog 175 0 = some ⟨0, 1, false⟩ := by kernel_rfl
@[go_sem] theorem fact_fld175_1 : fldOf Try.prog 175 1 = some ⟨1, 1, false⟩ := by kernel_rfl
@[go_sem] theorem fact_fld175_2 : fldOf Try.prog 175 2 = some ⟨2, 1, false⟩ := by kernel_rfl
@[go_sem] theorem fact_fld175_3 : fldOf Try.prog 175 3 = some ⟨3, 1, false⟩ := by kernel_rfl
@[go_sem] theorem fact_fld175_4 : fldOf Try.prog 175 4 = some ⟨4, 1, false⟩ := by kernel_rfl
@[go_sem] theorem fact_fld175_5 : fldOf Try.prog 175 5 = some ⟨5, 1, false⟩ := by kernel_rfl
@[go_sem] theorem fact_fld175_6 : fldOf Try.prog 175 6 = some ⟨6, 1, false⟩ := by kernel_rfl
@[go_sem] theorem fact_fld175_7 : fldOf Try.prog 175 7 = some ⟨7, 1, false⟩ := by kernel_rfl
@[go_sem] theorem fact_fld175_8 : fldOf Try.prog 175 8 = some ⟨8, 1, false⟩ := by kernel_rfl
@[go_sem] theorem fact_fld175_9 : fldOf Try.prog 175 9 = some ⟨9, 1, false⟩ := by kernel_rfl
@[go_sem] theorem fact_fld175_10 : fldOf Try.prog 175 10 = some ⟨10, 1, false⟩ := by kernel_rfl
@[go_sem] theorem fact_bld175 : bldOf Try.prog 175 = some ⟨11, [.int .u64 0, .int .u64 0, .int .u32 0, .int .u8 0, .int .u8 0, .int .u8 0, .int .u8 0, .nilFunc, .pointer none, .int .i32 0, .int .i32 0], [(0, 1), (1, 1), (2, 1), (3, 1), (4, 1), (5, 1), (6, 1), (7, 1), (8, 1), (9, 1), (10, 1)]⟩ := by kernel_rfl
@[go_sem] theorem fact_ty176 : tyOf Try.prog 176 = some ⟨false, 1, [.pointer none]⟩ := by kernel_rfl
@[go_sem] theorem fact_cv2_2 : cvT Try.prog 2 2 = .int .i64 := by kernel_rfl
@[go_sem] theorem fact_cv2_3 : cvT Try.prog 2 3 = .int .i64 := by kernel_rfl
@[go_sem] theorem fact_cv2_5 : cvT Try.prog 2 5 = .int .u8 := by kernel_rfl
@[go_sem] theorem fact_cv2_12 : cvT Try.prog 2 12 = .int .u64 := by kernel_rfl
@[go_sem] theorem fact_cv2_21 : cvT Try.prog 2 21 = .int .i32 := by kernel_rfl
@[go_sem] theorem fact_cv2_26 : cvT Try.prog 2 26 = .int .u64 := by kernel_rfl
@[go_sem] theorem fact_cv2_77 : cvT Try.prog 2 77 = .int .u64 := by kernel_rfl
@[go_sem] theorem fact_cv2_167 : cvT Try.prog 2 167 = .int .u32 := by kernel_rfl
@[go_sem] theorem fact_cv3_2 : cvT Try.prog 3 2 = .int .i64 := by kernel_rfl
@[go_sem] theorem fact_cv3_3 : cvT Try.prog 3 3 = .int .i64 := by kernel_rfl
@[go_sem] theorem fact_cv3_5 : cvT Try.prog 3 5 = .int .u8 := by kernel_rfl
@[go_sem] theorem fact_cv3_12 : cvT Try.prog 3 12 = .int .u64 := by kernel_rfl
@[go_sem] theorem fact_cv3_21 : cvT Try.prog 3 21 = .int .i32 := by kernel_rfl
@[go_sem] theorem fact_cv3_26 : cvT Try.prog 3 26 = .int .u64 := by kernel_rfl
@[go_sem] theorem fact_cv3_77 : cvT Try.prog 3 77 = .int .u64 := by kernel_rfl
@[go_sem] theorem fact_cv3_167 : cvT Try.prog 3 167 = .int .u32 := by kernel_rfl
@[go_sem] theorem fact_cv5_2 : cvT Try.prog 5 2 = .int .i64 := by kernel_rfl
@[go_sem] theorem fact_cv5_3 : cvT Try.prog 5 3 = .int .i64 := by kernel_rfl
@[go_sem] theorem fact_cv5_5 : cvT Try.prog 5 5 = .int .u8 := by kernel_rfl
@[go_sem] theorem fact_cv5_12 : cvT Try.prog 5 12 = .int .u64 := by kernel_rfl
@[go_sem] theorem fact_cv5_21 : cvT Try.prog 5 21 = .int .i32 := by kernel_rfl
@[go_sem] theorem fact_cv5_26 : cvT Try.prog 5 26 = .int .u64 := by kernel_rfl
@[go_sem] theorem fact_cv5_77 : cvT Try.prog 5 77 = .int .u64 := by kernel_rfl
@[go_sem] theorem fact_cv5_167 : cvT Try.prog 5 167 = .int .u32 := by kernel_rfl
@[go_sem] theorem fact_cv12_2 : cvT Try.prog 12 2 = .int .i64 := by kernel_rfl
@[go_sem] theorem fact_cv12_3 : cvT Try.prog 12 3 = .int .i64 := by kernel_rfl
@[go_sem] theorem fact_cv12_5 : cvT Try.prog 12 5 = .int .u8 := by kernel_rfl
@[go_sem] theorem fact_cv12_12 : cvT Try.prog 12 12 = .int .u64 := by kernel_rfl
@[go_sem] theorem fact_cv12_21 : cvT Try.prog 12 21 = .int .i32 := by kernel_rfl
@[go_sem] theorem fact_cv12_26 : cvT Try.prog 12 26 = .int .u64 := by kernel_rfl
@[go_sem] theorem fact_cv12_77 : cvT Try.prog 12 77 = .int .u64 := by kernel_rfl
@[go_sem] theorem fact_cv12_167 : cvT Try.prog 12 167 = .int .u32 := by kernel_rfl
@[go_sem] theorem fact_cv21_2 : cvT Try.prog 21 2 = .int .i64 := by kernel_rfl
@[go_sem] theorem fact_cv21_3 : cvT Try.prog 21 3 = .int .i64 := by kernel_rfl
@[go_sem] theorem fact_cv21_5 : cvT Try.prog 21 5 = .int .u8 := by kernel_rfl
@[go_sem] theorem fact_cv21_12 : cvT Try.prog 21 12 = .int .u64 := by kernel_rfl
@[go_sem] theorem fact_cv21_21 : cvT Try.prog 21 21 = .int .i32 := by kernel_rfl
@[go_sem] theorem fact_cv21_26 : cvT Try.prog 21 26 = .int .u64 := by kernel_rfl
@[go_sem] theorem fact_cv21_77 : cvT Try.prog 21 77 = .int .u64 := by kernel_rfl
@[go_sem] theorem fact_cv21_167 : cvT Try.prog 21 167 = .int .u32 := by kernel_rfl
@[go_sem] theorem fact_cv26_2 : cvT Try.prog 26 2 = .int .i64 := by kernel_rfl
@[go_sem] theorem fact_cv26_3 : cvT Try.prog 26 3 = .int .i64 := by kernel_rfl
@[go_sem] theorem fact_cv26_5 : cvT Try.prog 26 5 = .int .u8 := by kernel_rfl
@[go_sem] theorem fact_cv26_12 : cvT Try.prog 26 12 = .int .u64 := by kernel_rfl
@[go_sem] theorem fact_cv26_21 : cvT Try.prog 26 21 = .int .i32 := by kernel_rfl
@[go_sem] theorem fact_cv26_26 : cvT Try.prog 26 26 = .int .u64 := by kernel_rfl
@[go_sem] theorem fact_cv26_77 : cvT Try.prog 26 77 = .int .u64 := by kernel_rfl
@[go_sem] theorem fact_cv26_167 : cvT Try.prog 26 167 = .int .u32 := by kernel_rfl
@[go_sem] theorem fact_cv77_2 : cvT Try.prog 77 2 = .int .i64 := by kernel_rfl
@[go_sem] theorem fact_cv77_3 : cvT Try.prog 77 3 = .int .i64 := by kernel_rfl
@[go_sem] theorem fact_cv77_5 : cvT Try.prog 77 5 = .int .u8 := by kernel_rfl
@[go_sem] theorem fact_cv77_12 : cvT Try.prog 77 12 = .int .u64 := by kernel_rfl
@[go_sem] theorem fact_cv77_21 : cvT Try.prog 77 21 = .int .i32 := by kernel_rfl
@[go_sem] theorem fact_cv77_26 : cvT Try.prog 77 26 = .int .u64 := by kernel_rfl
@[go_sem] theorem fact_cv77_77 : cvT Try.prog 77 77 = .int .u64 := by kernel_rfl
@[go_sem] theorem fact_cv77_167 : cvT Try.prog 77 167 = .int .u32 := by kernel_rfl
@[go_sem] theorem fact_cv167_2 : cvT Try.prog 167 2 = .int .i64 := by kernel_rfl
@[go_sem] theorem fact_cv167_3 : cvT Try.prog 167 3 = .int .i64 := by kernel_rfl
@[go_sem] theorem fact_cv167_5 : cvT Try.prog 167 5 = .int .u8 := by kernel_rfl
@[go_sem] theorem fact_cv167_12 : cvT Try.prog 167 12 = .int .u64 := by kernel_rfl
@[go_sem] theorem fact_cv167_21 : cvT Try.prog 167 21 = .int .i32 := by kernel_rfl
@[go_sem] theorem fact_cv167_26 : cvT Try.prog 167 26 = .int .u64 := by kernel_rfl
@[go_sem] theorem fact_cv167_77 : cvT Try.prog 167 77 = .int .u64 := by kernel_rfl
@[go_sem] theorem fact_cv167_167 : cvT Try.prog 167 167 = .int .u32 := by kernel_rfl
@[go_sem] theorem fact_cv9_9 : cvT Try.prog 9 9 = .same := by kernel_rfl
@[go_sem] theorem fact_cv9_10 : cvT Try.prog 9 10 = .same := by kernel_rfl
@[go_sem] theorem fact_cv9_11 : cvT Try.prog 9 11 = .same := by kernel_rfl
@[go_sem] theorem fact_cv9_22 : cvT Try.prog 9 22 = .bytes 5 := by kernel_rfl
@[go_sem] theorem fact_cv22_9 : cvT Try.prog 22 9 = .str := by kernel_rfl
@[go_sem] theorem fact_cv10_9 : cvT Try.prog 10 9 = .same := by kernel_rfl
@[go_sem] theorem fact_cv10_10 : cvT Try.prog 10 10 = .same := by kernel_rfl
@[go_sem] theorem fact_cv10_11 : cvT Try.prog 10 11 = .same := by kernel_rfl
@[go_sem] theorem fact_cv10_22 : cvT Try.prog 10 22 = .bytes 5 := by kernel_rfl
@[go_sem] theorem fact_cv22_10 : cvT Try.prog 22 10 = .str := by kernel_rfl
@[go_sem] theorem fact_cv11_9 : cvT Try.prog 11 9 = .same := by kernel_rfl
@[go_sem] theorem fact_cv11_10 : cvT Try.prog 11 10 = .same := by kernel_rfl
@[go_sem] theorem fact_cv11_11 : cvT Try.prog 11 11 = .same := by kernel_rfl
@[go_sem] theorem fact_cv11_22 : cvT Try.prog 11 22 = .bytes 5 := by kernel_rfl
@[go_sem] theorem fact_cv22_11 : cvT Try.prog 22 11 = .str := by kernel_rfl

end Go.Proofs.Ytiihgbobdipikaa
end
