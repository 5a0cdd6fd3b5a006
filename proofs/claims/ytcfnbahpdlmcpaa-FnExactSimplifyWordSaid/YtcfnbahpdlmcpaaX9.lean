import Derived.Test.YtcfnbahpdlmcpaaRows
import Derived.Test.YtcfnbahpdlmcpaaX2
import Derived.KernelRfl
/- The facts on types that the walk over abstract values wants, in this seat's numbers. Written by facts.py. -/
section
namespace Go.Proofs.Ytcfnbahpdlmcpaa
open Go.Av

@[go_sem] theorem fact_ty1 : tyOf Try.prog 1 = some ⟨false, 1, [.nilFunc]⟩ := by kernel_rfl
@[go_sem] theorem fact_isint2 : isIntT Try.prog 2 = true := by kernel_rfl
@[go_sem] theorem fact_ty2 : tyOf Try.prog 2 = some ⟨false, 1, [.int .i64 0]⟩ := by kernel_rfl
@[go_sem] theorem fact_isint3 : isIntT Try.prog 3 = true := by kernel_rfl
@[go_sem] theorem fact_ty3 : tyOf Try.prog 3 = some ⟨false, 1, [.int .i64 0]⟩ := by kernel_rfl
@[go_sem] theorem fact_eq4 : eqT Try.prog 4 = .bool := by kernel_rfl
@[go_sem] theorem fact_ty4 : tyOf Try.prog 4 = some ⟨false, 1, [.bool false]⟩ := by kernel_rfl
@[go_sem] theorem fact_isint5 : isIntT Try.prog 5 = true := by kernel_rfl
@[go_sem] theorem fact_ty5 : tyOf Try.prog 5 = some ⟨false, 1, [.int .u8 0]⟩ := by kernel_rfl
@[go_sem] theorem fact_isint6 : isIntT Try.prog 6 = true := by kernel_rfl
@[go_sem] theorem fact_ty6 : tyOf Try.prog 6 = some ⟨false, 1, [.int .u8 0]⟩ := by kernel_rfl
@[go_sem] theorem fact_ty7 : tyOf Try.prog 7 = some ⟨true, 4, [.int .i64 0, .int .i64 0, .bool false, .int .u8 0]⟩ := by kernel_rfl
@[go_sem] theorem fact_fld7_0 : fldOf Try.prog 7 0 = some ⟨0, 1, false⟩ := by kernel_rfl
@[go_sem] theorem fact_fld7_1 : fldOf Try.prog 7 1 = some ⟨1, 1, false⟩ := by kernel_rfl
@[go_sem] theorem fact_fld7_2 : fldOf Try.prog 7 2 = some ⟨2, 1, false⟩ := by kernel_rfl
@[go_sem] theorem fact_fld7_3 : fldOf Try.prog 7 3 = some ⟨3, 1, false⟩ := by kernel_rfl
@[go_sem] theorem fact_bld7 : bldOf Try.prog 7 = some ⟨4, [.int .i64 0, .int .i64 0, .bool false, .int .u8 0], [(0, 1), (1, 1), (2, 1), (3, 1)]⟩ := by kernel_rfl
@[go_sem] theorem fact_ty8 : tyOf Try.prog 8 = some ⟨true, 4, [.int .i64 0, .int .i64 0, .bool false, .int .u8 0]⟩ := by kernel_rfl
@[go_sem] theorem fact_fld8_0 : fldOf Try.prog 8 0 = some ⟨0, 1, false⟩ := by kernel_rfl
@[go_sem] theorem fact_fld8_1 : fldOf Try.prog 8 1 = some ⟨1, 1, false⟩ := by kernel_rfl
@[go_sem] theorem fact_fld8_2 : fldOf Try.prog 8 2 = some ⟨2, 1, false⟩ := by kernel_rfl
@[go_sem] theorem fact_fld8_3 : fldOf Try.prog 8 3 = some ⟨3, 1, false⟩ := by kernel_rfl
@[go_sem] theorem fact_bld8 : bldOf Try.prog 8 = some ⟨4, [.int .i64 0, .int .i64 0, .bool false, .int .u8 0], [(0, 1), (1, 1), (2, 1), (3, 1)]⟩ := by kernel_rfl
@[go_sem] theorem fact_len9 : lenT Try.prog 9 = .str := by kernel_rfl
@[go_sem] theorem fact_st9 : isStr Try.prog 9 = true := by kernel_rfl
@[go_sem] theorem fact_sl9 : slT Try.prog 9 = .str := by kernel_rfl
@[go_sem] theorem fact_ty9 : tyOf Try.prog 9 = some ⟨false, 1, [.string ⟨#[]⟩]⟩ := by kernel_rfl
@[go_sem] theorem fact_len10 : lenT Try.prog 10 = .str := by kernel_rfl
@[go_sem] theorem fact_st10 : isStr Try.prog 10 = true := by kernel_rfl
@[go_sem] theorem fact_sl10 : slT Try.prog 10 = .str := by kernel_rfl
@[go_sem] theorem fact_ty10 : tyOf Try.prog 10 = some ⟨false, 1, [.string ⟨#[]⟩]⟩ := by kernel_rfl
@[go_sem] theorem fact_len11 : lenT Try.prog 11 = .str := by kernel_rfl
@[go_sem] theorem fact_st11 : isStr Try.prog 11 = true := by kernel_rfl
@[go_sem] theorem fact_sl11 : slT Try.prog 11 = .str := by kernel_rfl
@[go_sem] theorem fact_ty11 : tyOf Try.prog 11 = some ⟨false, 1, [.string ⟨#[]⟩]⟩ := by kernel_rfl
@[go_sem] theorem fact_isint12 : isIntT Try.prog 12 = true := by kernel_rfl
@[go_sem] theorem fact_ty12 : tyOf Try.prog 12 = some ⟨false, 1, [.int .u64 0]⟩ := by kernel_rfl
@[go_sem] theorem fact_ty13 : tyOf Try.prog 13 = some ⟨true, 2, [.string ⟨#[]⟩, .int .u64 0]⟩ := by kernel_rfl
@[go_sem] theorem fact_fld13_0 : fldOf Try.prog 13 0 = some ⟨0, 1, false⟩ := by kernel_rfl
@[go_sem] theorem fact_fld13_1 : fldOf Try.prog 13 1 = some ⟨1, 1, false⟩ := by kernel_rfl
@[go_sem] theorem fact_bld13 : bldOf Try.prog 13 = some ⟨2, [.string ⟨#[]⟩, .int .u64 0], [(0, 1), (1, 1)]⟩ := by kernel_rfl
@[go_sem] theorem fact_ty14 : tyOf Try.prog 14 = some ⟨true, 2, [.string ⟨#[]⟩, .int .u64 0]⟩ := by kernel_rfl
@[go_sem] theorem fact_fld14_0 : fldOf Try.prog 14 0 = some ⟨0, 1, false⟩ := by kernel_rfl
@[go_sem] theorem fact_fld14_1 : fldOf Try.prog 14 1 = some ⟨1, 1, false⟩ := by kernel_rfl
@[go_sem] theorem fact_bld14 : bldOf Try.prog 14 = some ⟨2, [.string ⟨#[]⟩, .int .u64 0], [(0, 1), (1, 1)]⟩ := by kernel_rfl
@[go_sem] theorem fact_eq15 : eqT Try.prog 15 = .ptr := by kernel_rfl
@[go_sem] theorem fact_ty15 : tyOf Try.prog 15 = some ⟨false, 1, [.pointer none]⟩ := by kernel_rfl
@[go_sem] theorem fact_eq16 : eqT Try.prog 16 = .ptr := by kernel_rfl
@[go_sem] theorem fact_ty16 : tyOf Try.prog 16 = some ⟨false, 1, [.pointer none]⟩ := by kernel_rfl
@[go_sem] theorem fact_eq17 : eqT Try.prog 17 = .ptr := by kernel_rfl
@[go_sem] theorem fact_ty17 : tyOf Try.prog 17 = some ⟨false, 1, [.pointer none]⟩ := by kernel_rfl
@[go_sem] theorem fact_ty18 : tyOf Try.prog 18 = some ⟨true, 1, [.pointer none]⟩ := by kernel_rfl
@[go_sem] theorem fact_fld18_0 : fldOf Try.prog 18 0 = some ⟨0, 1, false⟩ := by kernel_rfl
@[go_sem] theorem fact_bld18 : bldOf Try.prog 18 = some ⟨1, [.pointer none], [(0, 1)]⟩ := by kernel_rfl
@[go_sem] theorem fact_ty19 : tyOf Try.prog 19 = some ⟨true, 1, [.pointer none]⟩ := by kernel_rfl
@[go_sem] theorem fact_fld19_0 : fldOf Try.prog 19 0 = some ⟨0, 1, false⟩ := by kernel_rfl
@[go_sem] theorem fact_bld19 : bldOf Try.prog 19 = some ⟨1, [.pointer none], [(0, 1)]⟩ := by kernel_rfl
@[go_sem] theorem fact_isint21 : isIntT Try.prog 21 = true := by kernel_rfl
@[go_sem] theorem fact_ty21 : tyOf Try.prog 21 = some ⟨false, 1, [.int .i32 0]⟩ := by kernel_rfl
@[go_sem] theorem fact_sel22 : selOf Try.prog 22 = some ⟨5, 1, 1, [.int .u8 0]⟩ := by kernel_rfl
@[go_sem] theorem fact_eq22 : eqT Try.prog 22 = .slice := by kernel_rfl
@[go_sem] theorem fact_len22 : lenT Try.prog 22 = .slice := by kernel_rfl
@[go_sem] theorem fact_sl22 : slT Try.prog 22 = .slice 1 := by kernel_rfl
@[go_sem] theorem fact_ty22 : tyOf Try.prog 22 = some ⟨false, 1, [.slice none 0 0]⟩ := by kernel_rfl
@[go_sem] theorem fact_ty23 : tyOf Try.prog 23 = some ⟨false, 1, [.nilFunc]⟩ := by kernel_rfl
@[go_sem] theorem fact_sel24 : selOf Try.prog 24 = some ⟨2, 1, 8, [.int .i64 0]⟩ := by kernel_rfl
@[go_sem] theorem fact_eq24 : eqT Try.prog 24 = .slice := by kernel_rfl
@[go_sem] theorem fact_len24 : lenT Try.prog 24 = .slice := by kernel_rfl
@[go_sem] theorem fact_sl24 : slT Try.prog 24 = .slice 1 := by kernel_rfl
@[go_sem] theorem fact_ty24 : tyOf Try.prog 24 = some ⟨false, 1, [.slice none 0 0]⟩ := by kernel_rfl
@[go_sem] theorem fact_ty25 : tyOf Try.prog 25 = some ⟨false, 1, [.nilFunc]⟩ := by kernel_rfl
@[go_sem] theorem fact_ty26 : tyOf Try.prog 26 = some ⟨false, 1, [.nilFunc]⟩ := by kernel_rfl
@[go_sem] theorem fact_ty27 : tyOf Try.prog 27 = some ⟨false, 1, [.nilFunc]⟩ := by kernel_rfl
@[go_sem] theorem fact_ty29 : tyOf Try.prog 29 = some ⟨false, 1, [.nilFunc]⟩ := by kernel_rfl
@[go_sem] theorem fact_ty30 : tyOf Try.prog 30 = some ⟨false, 1, [.nilFunc]⟩ := by kernel_rfl
@[go_sem] theorem fact_ty31 : tyOf Try.prog 31 = some ⟨false, 1, [.nilFunc]⟩ := by kernel_rfl
@[go_sem] theorem fact_ty33 : tyOf Try.prog 33 = some ⟨false, 1, [.nilFunc]⟩ := by kernel_rfl
@[go_sem] theorem fact_ty35 : tyOf Try.prog 35 = some ⟨false, 1, [.nilFunc]⟩ := by kernel_rfl
@[go_sem] theorem fact_ty36 : tyOf Try.prog 36 = some ⟨false, 1, [.nilFunc]⟩ := by kernel_rfl
@[go_sem] theorem fact_sel37 : selOf Try.prog 37 = some ⟨24, 1, 24, [.slice none 0 0]⟩ := by kernel_rfl
@[go_sem] theorem fact_eq37 : eqT Try.prog 37 = .slice := by kernel_rfl
@[go_sem] theorem fact_len37 : lenT Try.prog 37 = .slice := by kernel_rfl
@[go_sem] theorem fact_sl37 : slT Try.prog 37 = .slice 1 := by kernel_rfl
@[go_sem] theorem fact_ty37 : tyOf Try.prog 37 = some ⟨false, 1, [.slice none 0 0]⟩ := by kernel_rfl
@[go_sem] theorem fact_ty39 : tyOf Try.prog 39 = some ⟨false, 1, [.nilFunc]⟩ := by kernel_rfl
@[go_sem] theorem fact_ty40 : tyOf Try.prog 40 = some ⟨false, 1, [.nilFunc]⟩ := by kernel_rfl
@[go_sem] theorem fact_ty41 : tyOf Try.prog 41 = some ⟨true, 3, [.int .i64 0, .string ⟨#[]⟩, .slice none 0 0]⟩ := by kernel_rfl
@[go_sem] theorem fact_fld41_0 : fldOf Try.prog 41 0 = some ⟨0, 1, false⟩ := by kernel_rfl
@[go_sem] theorem fact_fld41_1 : fldOf Try.prog 41 1 = some ⟨1, 1, false⟩ := by kernel_rfl
@[go_sem] theorem fact_fld41_2 : fldOf Try.prog 41 2 = some ⟨2, 1, false⟩ := by kernel_rfl
@[go_sem] theorem fact_bld41 : bldOf Try.prog 41 = some ⟨3, [.int .i64 0, .string ⟨#[]⟩, .slice none 0 0], [(0, 1), (1, 1), (2, 1)]⟩ := by kernel_rfl
@[go_sem] theorem fact_ty42 : tyOf Try.prog 42 = some ⟨true, 3, [.int .i64 0, .string ⟨#[]⟩, .slice none 0 0]⟩ := by kernel_rfl
@[go_sem] theorem fact_fld42_0 : fldOf Try.prog 42 0 = some ⟨0, 1, false⟩ := by kernel_rfl
@[go_sem] theorem fact_fld42_1 : fldOf Try.prog 42 1 = some ⟨1, 1, false⟩ := by kernel_rfl
@[go_sem] theorem fact_fld42_2 : fldOf Try.prog 42 2 = some ⟨2, 1, false⟩ := by kernel_rfl
@[go_sem] theorem fact_bld42 : bldOf Try.prog 42 = some ⟨3, [.int .i64 0, .string ⟨#[]⟩, .slice none 0 0], [(0, 1), (1, 1), (2, 1)]⟩ := by kernel_rfl
@[go_sem] theorem fact_ty43 : tyOf Try.prog 43 = some ⟨false, 1, [.nilFunc]⟩ := by kernel_rfl
@[go_sem] theorem fact_ty44 : tyOf Try.prog 44 = some ⟨false, 1, [.nilFunc]⟩ := by kernel_rfl
@[go_sem] theorem fact_ty45 : tyOf Try.prog 45 = some ⟨true, 3, [.int .i64 0, .string ⟨#[]⟩, .slice none 0 0]⟩ := by kernel_rfl
@[go_sem] theorem fact_fld45_0 : fldOf Try.prog 45 0 = some ⟨0, 1, false⟩ := by kernel_rfl
@[go_sem] theorem fact_fld45_1 : fldOf Try.prog 45 1 = some ⟨1, 1, false⟩ := by kernel_rfl
@[go_sem] theorem fact_fld45_2 : fldOf Try.prog 45 2 = some ⟨2, 1, false⟩ := by kernel_rfl
@[go_sem] theorem fact_bld45 : bldOf Try.prog 45 = some ⟨3, [.int .i64 0, .string ⟨#[]⟩, .slice none 0 0], [(0, 1), (1, 1), (2, 1)]⟩ := by kernel_rfl
@[go_sem] theorem fact_ty46 : tyOf Try.prog 46 = some ⟨false, 1, [.nilFunc]⟩ := by kernel_rfl
@[go_sem] theorem fact_ty47 : tyOf Try.prog 47 = some ⟨false, 1, [.nilFunc]⟩ := by kernel_rfl
@[go_sem] theorem fact_ty48 : tyOf Try.prog 48 = some ⟨false, 1, [.nilFunc]⟩ := by kernel_rfl
@[go_sem] theorem fact_ty49 : tyOf Try.prog 49 = some ⟨false, 1, [.nilFunc]⟩ := by kernel_rfl
@[go_sem] theorem fact_ty50 : tyOf Try.prog 50 = some ⟨false, 1, [.nilFunc]⟩ := by kernel_rfl
@[go_sem] theorem fact_sel51 : selOf Try.prog 51 = some ⟨116, 6, 64, [.int .i64 0, .int .i64 0, .int .i64 0, .int .i64 0, .int .i64 0, .slice none 0 0]⟩ := by kernel_rfl
@[go_sem] theorem fact_eq51 : eqT Try.prog 51 = .slice := by kernel_rfl
@[go_sem] theorem fact_len51 : lenT Try.prog 51 = .slice := by kernel_rfl
@[go_sem] theorem fact_sl51 : slT Try.prog 51 = .slice 6 := by kernel_rfl
@[go_sem] theorem fact_ty51 : tyOf Try.prog 51 = some ⟨false, 1, [.slice none 0 0]⟩ := by kernel_rfl
@[go_sem] theorem fact_ty52 : tyOf Try.prog 52 = some ⟨false, 1, [.nilFunc]⟩ := by kernel_rfl
@[go_sem] theorem fact_ty53 : tyOf Try.prog 53 = some ⟨false, 1, [.nilFunc]⟩ := by kernel_rfl
@[go_sem] theorem fact_sel54 : selOf Try.prog 54 = some ⟨118, 6, 64, [.int .i64 0, .int .i64 0, .int .i64 0, .int .i64 0, .int .i64 0, .slice none 0 0]⟩ := by kernel_rfl
@[go_sem] theorem fact_eq54 : eqT Try.prog 54 = .slice := by kernel_rfl
@[go_sem] theorem fact_len54 : lenT Try.prog 54 = .slice := by kernel_rfl
@[go_sem] theorem fact_sl54 : slT Try.prog 54 = .slice 6 := by kernel_rfl
@[go_sem] theorem fact_ty54 : tyOf Try.prog 54 = some ⟨false, 1, [.slice none 0 0]⟩ := by kernel_rfl
@[go_sem] theorem fact_ty55 : tyOf Try.prog 55 = some ⟨false, 1, [.nilFunc]⟩ := by kernel_rfl
@[go_sem] theorem fact_ty56 : tyOf Try.prog 56 = some ⟨false, 1, [.nilFunc]⟩ := by kernel_rfl
@[go_sem] theorem fact_ty57 : tyOf Try.prog 57 = some ⟨false, 1, [.nilFunc]⟩ := by kernel_rfl
@[go_sem] theorem fact_ty58 : tyOf Try.prog 58 = some ⟨false, 1, [.nilFunc]⟩ := by kernel_rfl
@[go_sem] theorem fact_ty59 : tyOf Try.prog 59 = some ⟨false, 1, [.nilFunc]⟩ := by kernel_rfl
@[go_sem] theorem fact_ty60 : tyOf Try.prog 60 = some ⟨false, 1, [.nilFunc]⟩ := by kernel_rfl
@[go_sem] theorem fact_ty62 : tyOf Try.prog 62 = some ⟨false, 1, [.nilFunc]⟩ := by kernel_rfl
@[go_sem] theorem fact_ty63 : tyOf Try.prog 63 = some ⟨false, 1, [.nilFunc]⟩ := by kernel_rfl
@[go_sem] theorem fact_ty64 : tyOf Try.prog 64 = some ⟨false, 1, [.nilFunc]⟩ := by kernel_rfl
@[go_sem] theorem fact_ty66 : tyOf Try.prog 66 = some ⟨false, 1, [.nilFunc]⟩ := by kernel_rfl
@[go_sem] theorem fact_ty67 : tyOf Try.prog 67 = some ⟨false, 1, [.nilFunc]⟩ := by kernel_rfl
@[go_sem] theorem fact_ty68 : tyOf Try.prog 68 = some ⟨false, 1, [.nilFunc]⟩ := by kernel_rfl
@[go_sem] theorem fact_ty69 : tyOf Try.prog 69 = some ⟨false, 1, [.nilFunc]⟩ := by kernel_rfl
@[go_sem] theorem fact_ty70 : tyOf Try.prog 70 = some ⟨false, 1, [.nilFunc]⟩ := by kernel_rfl
@[go_sem] theorem fact_ty72 : tyOf Try.prog 72 = some ⟨false, 1, [.nilFunc]⟩ := by kernel_rfl
@[go_sem] theorem fact_ty73 : tyOf Try.prog 73 = some ⟨false, 1, [.nilFunc]⟩ := by kernel_rfl
@[go_sem] theorem fact_ty74 : tyOf Try.prog 74 = some ⟨false, 1, [.nilFunc]⟩ := by kernel_rfl
@[go_sem] theorem fact_ty75 : tyOf Try.prog 75 = some ⟨false, 1, [.nilFunc]⟩ := by kernel_rfl
@[go_sem] theorem fact_ty76 : tyOf Try.prog 76 = some ⟨false, 1, [.nilFunc]⟩ := by kernel_rfl
@[go_sem] theorem fact_eq77 : eqT Try.prog 77 = .ptr := by kernel_rfl
@[go_sem] theorem fact_ty77 : tyOf Try.prog 77 = some ⟨false, 1, [.pointer none]⟩ := by kernel_rfl
@[go_sem] theorem fact_ty78 : tyOf Try.prog 78 = some ⟨false, 1, [.nilFunc]⟩ := by kernel_rfl
@[go_sem] theorem fact_isint79 : isIntT Try.prog 79 = true := by kernel_rfl
@[go_sem] theorem fact_ty79 : tyOf Try.prog 79 = some ⟨false, 1, [.int .u64 0]⟩ := by kernel_rfl
@[go_sem] theorem fact_ty80 : tyOf Try.prog 80 = some ⟨false, 1, [.nilFunc]⟩ := by kernel_rfl
@[go_sem] theorem fact_ty81 : tyOf Try.prog 81 = some ⟨false, 1, [.nilFunc]⟩ := by kernel_rfl
@[go_sem] theorem fact_ty82 : tyOf Try.prog 82 = some ⟨false, 1, [.nilFunc]⟩ := by kernel_rfl
@[go_sem] theorem fact_ty83 : tyOf Try.prog 83 = some ⟨false, 1, [.nilFunc]⟩ := by kernel_rfl
@[go_sem] theorem fact_ty85 : tyOf Try.prog 85 = some ⟨false, 1, [.nilFunc]⟩ := by kernel_rfl
@[go_sem] theorem fact_ty86 : tyOf Try.prog 86 = some ⟨false, 1, [.nilFunc]⟩ := by kernel_rfl
@[go_sem] theorem fact_ty87 : tyOf Try.prog 87 = some ⟨false, 1, [.nilFunc]⟩ := by kernel_rfl
@[go_sem] theorem fact_ty88 : tyOf Try.prog 88 = some ⟨false, 1, [.nilFunc]⟩ := by kernel_rfl
@[go_sem] theorem fact_sel89 : selOf Try.prog 89 = some ⟨37, 1, 24, [.slice none 0 0]⟩ := by kernel_rfl
@[go_sem] theorem fact_eq89 : eqT Try.prog 89 = .slice := by kernel_rfl
@[go_sem] theorem fact_len89 : lenT Try.prog 89 = .slice := by kernel_rfl
@[go_sem] theorem fact_sl89 : slT Try.prog 89 = .slice 1 := by kernel_rfl
@[go_sem] theorem fact_ty89 : tyOf Try.prog 89 = some ⟨false, 1, [.slice none 0 0]⟩ := by kernel_rfl
@[go_sem] theorem fact_ty90 : tyOf Try.prog 90 = some ⟨false, 1, [.nilFunc]⟩ := by kernel_rfl
@[go_sem] theorem fact_ty92 : tyOf Try.prog 92 = some ⟨false, 1, [.nilFunc]⟩ := by kernel_rfl
@[go_sem] theorem fact_ty93 : tyOf Try.prog 93 = some ⟨false, 1, [.nilFunc]⟩ := by kernel_rfl
@[go_sem] theorem fact_ty94 : tyOf Try.prog 94 = some ⟨false, 1, [.nilFunc]⟩ := by kernel_rfl
@[go_sem] theorem fact_eq95 : eqT Try.prog 95 = .ptr := by kernel_rfl
@[go_sem] theorem fact_ty95 : tyOf Try.prog 95 = some ⟨false, 1, [.pointer none]⟩ := by kernel_rfl
@[go_sem] theorem fact_ty96 : tyOf Try.prog 96 = some ⟨false, 1, [.nilFunc]⟩ := by kernel_rfl
@[go_sem] theorem fact_ty97 : tyOf Try.prog 97 = some ⟨false, 1, [.nilFunc]⟩ := by kernel_rfl
@[go_sem] theorem fact_ty98 : tyOf Try.prog 98 = some ⟨false, 1, [.nilFunc]⟩ := by kernel_rfl
@[go_sem] theorem fact_ty99 : tyOf Try.prog 99 = some ⟨false, 1, [.nilFunc]⟩ := by kernel_rfl
@[go_sem] theorem fact_ty100 : tyOf Try.prog 100 = some ⟨false, 1, [.nilFunc]⟩ := by kernel_rfl
@[go_sem] theorem fact_ty101 : tyOf Try.prog 101 = some ⟨false, 1, [.nilFunc]⟩ := by kernel_rfl
@[go_sem] theorem fact_ty102 : tyOf Try.prog 102 = some ⟨false, 1, [.nilFunc]⟩ := by kernel_rfl
@[go_sem] theorem fact_ty103 : tyOf Try.prog 103 = some ⟨false, 1, [.nilFunc]⟩ := by kernel_rfl
@[go_sem] theorem fact_ty104 : tyOf Try.prog 104 = some ⟨false, 1, [.nilFunc]⟩ := by kernel_rfl
@[go_sem] theorem fact_ty105 : tyOf Try.prog 105 = some ⟨false, 1, [.nilFunc]⟩ := by kernel_rfl
@[go_sem] theorem fact_ty106 : tyOf Try.prog 106 = some ⟨false, 1, [.nilFunc]⟩ := by kernel_rfl
@[go_sem] theorem fact_ty107 : tyOf Try.prog 107 = some ⟨false, 1, [.nilFunc]⟩ := by kernel_rfl
@[go_sem] theorem fact_ty108 : tyOf Try.prog 108 = some ⟨false, 1, [.nilFunc]⟩ := by kernel_rfl
@[go_sem] theorem fact_ty109 : tyOf Try.prog 109 = some ⟨false, 1, [.nilFunc]⟩ := by kernel_rfl
@[go_sem] theorem fact_ty110 : tyOf Try.prog 110 = some ⟨false, 1, [.nilFunc]⟩ := by kernel_rfl
@[go_sem] theorem fact_ty111 : tyOf Try.prog 111 = some ⟨false, 1, [.nilFunc]⟩ := by kernel_rfl
@[go_sem] theorem fact_ty112 : tyOf Try.prog 112 = some ⟨false, 1, [.nilFunc]⟩ := by kernel_rfl
@[go_sem] theorem fact_ty113 : tyOf Try.prog 113 = some ⟨false, 1, [.nilFunc]⟩ := by kernel_rfl
@[go_sem] theorem fact_ty114 : tyOf Try.prog 114 = some ⟨false, 1, [.nilFunc]⟩ := by kernel_rfl
@[go_sem] theorem fact_ty115 : tyOf Try.prog 115 = some ⟨true, 6, [.int .i64 0, .int .i64 0, .int .i64 0, .int .i64 0, .int .i64 0, .slice none 0 0]⟩ := by kernel_rfl
@[go_sem] theorem fact_fld115_0 : fldOf Try.prog 115 0 = some ⟨0, 1, false⟩ := by kernel_rfl
@[go_sem] theorem fact_fld115_1 : fldOf Try.prog 115 1 = some ⟨1, 1, false⟩ := by kernel_rfl
@[go_sem] theorem fact_fld115_2 : fldOf Try.prog 115 2 = some ⟨2, 1, false⟩ := by kernel_rfl
@[go_sem] theorem fact_fld115_3 : fldOf Try.prog 115 3 = some ⟨3, 1, false⟩ := by kernel_rfl
@[go_sem] theorem fact_fld115_4 : fldOf Try.prog 115 4 = some ⟨4, 1, false⟩ := by kernel_rfl
@[go_sem] theorem fact_fld115_5 : fldOf Try.prog 115 5 = some ⟨5, 1, false⟩ := by kernel_rfl
@[go_sem] theorem fact_bld115 : bldOf Try.prog 115 = some ⟨6, [.int .i64 0, .int .i64 0, .int .i64 0, .int .i64 0, .int .i64 0, .slice none 0 0], [(0, 1), (1, 1), (2, 1), (3, 1), (4, 1), (5, 1)]⟩ := by kernel_rfl
@[go_sem] theorem fact_ty116 : tyOf Try.prog 116 = some ⟨true, 6, [.int .i64 0, .int .i64 0, .int .i64 0, .int .i64 0, .int .i64 0, .slice none 0 0]⟩ := by kernel_rfl
@[go_sem] theorem fact_fld116_0 : fldOf Try.prog 116 0 = some ⟨0, 1, false⟩ := by kernel_rfl
@[go_sem] theorem fact_fld116_1 : fldOf Try.prog 116 1 = some ⟨1, 1, false⟩ := by kernel_rfl
@[go_sem] theorem fact_fld116_2 : fldOf Try.prog 116 2 = some ⟨2, 1, false⟩ := by kernel_rfl
@[go_sem] theorem fact_fld116_3 : fldOf Try.prog 116 3 = some ⟨3, 1, false⟩ := by kernel_rfl
@[go_sem] theorem fact_fld116_4 : fldOf Try.prog 116 4 = some ⟨4, 1, false⟩ := by kernel_rfl
@[go_sem] theorem fact_fld116_5 : fldOf Try.prog 116 5 = some ⟨5, 1, false⟩ := by kernel_rfl
@[go_sem] theorem fact_bld116 : bldOf Try.prog 116 = some ⟨6, [.int .i64 0, .int .i64 0, .int .i64 0, .int .i64 0, .int .i64 0, .slice none 0 0], [(0, 1), (1, 1), (2, 1), (3, 1), (4, 1), (5, 1)]⟩ := by kernel_rfl
@[go_sem] theorem fact_ty117 : tyOf Try.prog 117 = some ⟨false, 1, [.nilFunc]⟩ := by kernel_rfl
@[go_sem] theorem fact_ty118 : tyOf Try.prog 118 = some ⟨true, 6, [.int .i64 0, .int .i64 0, .int .i64 0, .int .i64 0, .int .i64 0, .slice none 0 0]⟩ := by kernel_rfl
@[go_sem] theorem fact_fld118_0 : fldOf Try.prog 118 0 = some ⟨0, 1, false⟩ := by kernel_rfl
@[go_sem] theorem fact_fld118_1 : fldOf Try.prog 118 1 = some ⟨1, 1, false⟩ := by kernel_rfl
@[go_sem] theorem fact_fld118_2 : fldOf Try.prog 118 2 = some ⟨2, 1, false⟩ := by kernel_rfl
@[go_sem] theorem fact_fld118_3 : fldOf Try.prog 118 3 = some ⟨3, 1, false⟩ := by kernel_rfl
@[go_sem] theorem fact_fld118_4 : fldOf Try.prog 118 4 = some ⟨4, 1, false⟩ := by kernel_rfl
@[go_sem] theorem fact_fld118_5 : fldOf Try.prog 118 5 = some ⟨5, 1, false⟩ := by kernel_rfl
@[go_sem] theorem fact_bld118 : bldOf Try.prog 118 = some ⟨6, [.int .i64 0, .int .i64 0, .int .i64 0, .int .i64 0, .int .i64 0, .slice none 0 0], [(0, 1), (1, 1), (2, 1), (3, 1), (4, 1), (5, 1)]⟩ := by kernel_rfl
@[go_sem] theorem fact_ty119 : tyOf Try.prog 119 = some ⟨false, 1, [.nilFunc]⟩ := by kernel_rfl
@[go_sem] theorem fact_ty120 : tyOf Try.prog 120 = some ⟨false, 1, [.nilFunc]⟩ := by kernel_rfl
@[go_sem] theorem fact_ty121 : tyOf Try.prog 121 = some ⟨false, 1, [.nilFunc]⟩ := by kernel_rfl
@[go_sem] theorem fact_ty122 : tyOf Try.prog 122 = some ⟨false, 1, [.nilFunc]⟩ := by kernel_rfl
@[go_sem] theorem fact_ty123 : tyOf Try.prog 123 = some ⟨false, 1, [.nilFunc]⟩ := by kernel_rfl
@[go_sem] theorem fact_ty124 : tyOf Try.prog 124 = some ⟨false, 1, [.nilFunc]⟩ := by kernel_rfl
@[go_sem] theorem fact_ty125 : tyOf Try.prog 125 = some ⟨false, 1, [.nilFunc]⟩ := by kernel_rfl
@[go_sem] theorem fact_ty126 : tyOf Try.prog 126 = some ⟨false, 1, [.nilFunc]⟩ := by kernel_rfl
@[go_sem] theorem fact_ty127 : tyOf Try.prog 127 = some ⟨true, 5, [.string ⟨#[]⟩, .string ⟨#[]⟩, .int .i64 0, .slice none 0 0, .int .i64 0]⟩ := by kernel_rfl
@[go_sem] theorem fact_fld127_0 : fldOf Try.prog 127 0 = some ⟨0, 1, false⟩ := by kernel_rfl
@[go_sem] theorem fact_fld127_1 : fldOf Try.prog 127 1 = some ⟨1, 1, false⟩ := by kernel_rfl
@[go_sem] theorem fact_fld127_2 : fldOf Try.prog 127 2 = some ⟨2, 1, false⟩ := by kernel_rfl
@[go_sem] theorem fact_fld127_3 : fldOf Try.prog 127 3 = some ⟨3, 1, false⟩ := by kernel_rfl
@[go_sem] theorem fact_fld127_4 : fldOf Try.prog 127 4 = some ⟨4, 1, false⟩ := by kernel_rfl
@[go_sem] theorem fact_bld127 : bldOf Try.prog 127 = some ⟨5, [.string ⟨#[]⟩, .string ⟨#[]⟩, .int .i64 0, .slice none 0 0, .int .i64 0], [(0, 1), (1, 1), (2, 1), (3, 1), (4, 1)]⟩ := by kernel_rfl
@[go_sem] theorem fact_ty128 : tyOf Try.prog 128 = some ⟨true, 5, [.string ⟨#[]⟩, .string ⟨#[]⟩, .int .i64 0, .slice none 0 0, .int .i64 0]⟩ := by kernel_rfl
@[go_sem] theorem fact_fld128_0 : fldOf Try.prog 128 0 = some ⟨0, 1, false⟩ := by kernel_rfl
@[go_sem] theorem fact_fld128_1 : fldOf Try.prog 128 1 = some ⟨1, 1, false⟩ := by kernel_rfl
@[go_sem] theorem fact_fld128_2 : fldOf Try.prog 128 2 = some ⟨2, 1, false⟩ := by kernel_rfl
@[go_sem] theorem fact_fld128_3 : fldOf Try.prog 128 3 = some ⟨3, 1, false⟩ := by kernel_rfl
@[go_sem] theorem fact_fld128_4 : fldOf Try.prog 128 4 = some ⟨4, 1, false⟩ := by kernel_rfl
@[go_sem] theorem fact_bld128 : bldOf Try.prog 128 = some ⟨5, [.string ⟨#[]⟩, .string ⟨#[]⟩, .int .i64 0, .slice none 0 0, .int .i64 0], [(0, 1), (1, 1), (2, 1), (3, 1), (4, 1)]⟩ := by kernel_rfl
@[go_sem] theorem fact_ty130 : tyOf Try.prog 130 = some ⟨false, 1, [.nilFunc]⟩ := by kernel_rfl
@[go_sem] theorem fact_ty131 : tyOf Try.prog 131 = some ⟨false, 1, [.nilFunc]⟩ := by kernel_rfl
@[go_sem] theorem fact_eq132 : eqT Try.prog 132 = .ptr := by kernel_rfl
@[go_sem] theorem fact_ty132 : tyOf Try.prog 132 = some ⟨false, 1, [.pointer none]⟩ := by kernel_rfl
@[go_sem] theorem fact_ty133 : tyOf Try.prog 133 = some ⟨true, 5, [.string ⟨#[]⟩, .string ⟨#[]⟩, .int .i64 0, .bool false, .slice none 0 0]⟩ := by kernel_rfl
@[go_sem] theorem fact_fld133_0 : fldOf Try.prog 133 0 = some ⟨0, 1, false⟩ := by kernel_rfl
@[go_sem] theorem fact_fld133_1 : fldOf Try.prog 133 1 = some ⟨1, 1, false⟩ := by kernel_rfl
@[go_sem] theorem fact_fld133_2 : fldOf Try.prog 133 2 = some ⟨2, 1, false⟩ := by kernel_rfl
@[go_sem] theorem fact_fld133_3 : fldOf Try.prog 133 3 = some ⟨3, 1, false⟩ := by kernel_rfl
@[go_sem] theorem fact_fld133_4 : fldOf Try.prog 133 4 = some ⟨4, 1, false⟩ := by kernel_rfl
@[go_sem] theorem fact_bld133 : bldOf Try.prog 133 = some ⟨5, [.string ⟨#[]⟩, .string ⟨#[]⟩, .int .i64 0, .bool false, .slice none 0 0], [(0, 1), (1, 1), (2, 1), (3, 1), (4, 1)]⟩ := by kernel_rfl
@[go_sem] theorem fact_ty134 : tyOf Try.prog 134 = some ⟨true, 5, [.string ⟨#[]⟩, .string ⟨#[]⟩, .int .i64 0, .bool false, .slice none 0 0]⟩ := by kernel_rfl
@[go_sem] theorem fact_fld134_0 : fldOf Try.prog 134 0 = some ⟨0, 1, false⟩ := by kernel_rfl
@[go_sem] theorem fact_fld134_1 : fldOf Try.prog 134 1 = some ⟨1, 1, false⟩ := by kernel_rfl
@[go_sem] theorem fact_fld134_2 : fldOf Try.prog 134 2 = some ⟨2, 1, false⟩ := by kernel_rfl
@[go_sem] theorem fact_fld134_3 : fldOf Try.prog 134 3 = some ⟨3, 1, false⟩ := by kernel_rfl
@[go_sem] theorem fact_fld134_4 : fldOf Try.prog 134 4 = some ⟨4, 1, false⟩ := by kernel_rfl
@[go_sem] theorem fact_bld134 : bldOf Try.prog 134 = some ⟨5, [.string ⟨#[]⟩, .string ⟨#[]⟩, .int .i64 0, .bool false, .slice none 0 0], [(0, 1), (1, 1), (2, 1), (3, 1), (4, 1)]⟩ := by kernel_rfl
@[go_sem] theorem fact_ty135 : tyOf Try.prog 135 = some ⟨false, 1, [.nilFunc]⟩ := by kernel_rfl
@[go_sem] theorem fact_ty137 : tyOf Try.prog 137 = some ⟨false, 1, [.nilFunc]⟩ := by kernel_rfl
@[go_sem] theorem fact_eq138 : eqT Try.prog 138 = .ptr := by kernel_rfl
@[go_sem] theorem fact_ty138 : tyOf Try.prog 138 = some ⟨false, 1, [.pointer none]⟩ := by kernel_rfl
@[go_sem] theorem fact_ty139 : tyOf Try.prog 139 = some ⟨false, 1, [.nilFunc]⟩ := by kernel_rfl
@[go_sem] theorem fact_ty140 : tyOf Try.prog 140 = some ⟨true, 20, [.bool false, .bool false, .bool false, .bool false, .bool false, .bool false, .bool false, .bool false, .bool false, .bool false, .bool false, .bool false, .bool false, .bool false, .bool false, .bool false, .bool false, .bool false, .bool false, .bool false]⟩ := by kernel_rfl
@[go_sem] theorem fact_ty142 : tyOf Try.prog 142 = some ⟨true, 2, [.int .i64 0, .int .i64 0]⟩ := by kernel_rfl
@[go_sem] theorem fact_sel143 : selOf Try.prog 143 = some ⟨142, 2, 16, [.int .i64 0, .int .i64 0]⟩ := by kernel_rfl
@[go_sem] theorem fact_eq143 : eqT Try.prog 143 = .slice := by kernel_rfl
@[go_sem] theorem fact_len143 : lenT Try.prog 143 = .slice := by kernel_rfl
@[go_sem] theorem fact_sl143 : slT Try.prog 143 = .slice 2 := by kernel_rfl
@[go_sem] theorem fact_ty143 : tyOf Try.prog 143 = some ⟨false, 1, [.slice none 0 0]⟩ := by kernel_rfl
@[go_sem] theorem fact_sel144 : selOf Try.prog 144 = some ⟨4, 1, 1, [.bool false]⟩ := by kernel_rfl
@[go_sem] theorem fact_eq144 : eqT Try.prog 144 = .slice := by kernel_rfl
@[go_sem] theorem fact_len144 : lenT Try.prog 144 = .slice := by kernel_rfl
@[go_sem] theorem fact_sl144 : slT Try.prog 144 = .slice 1 := by kernel_rfl
@[go_sem] theorem fact_ty144 : tyOf Try.prog 144 = some ⟨false, 1, [.slice none 0 0]⟩ := by kernel_rfl
@[go_sem] theorem fact_ty145 : tyOf Try.prog 145 = some ⟨false, 1, [.nilFunc]⟩ := by kernel_rfl
@[go_sem] theorem fact_ty146 : tyOf Try.prog 146 = some ⟨true, 3, [.slice none 0 0, .int .i64 0, .int .u64 0]⟩ := by kernel_rfl
@[go_sem] theorem fact_fld146_0 : fldOf Try.prog 146 0 = some ⟨0, 1, false⟩ := by kernel_rfl
@[go_sem] theorem fact_fld146_1 : fldOf Try.prog 146 1 = some ⟨1, 1, false⟩ := by kernel_rfl
@[go_sem] theorem fact_fld146_2 : fldOf Try.prog 146 2 = some ⟨2, 1, false⟩ := by kernel_rfl
@[go_sem] theorem fact_bld146 : bldOf Try.prog 146 = some ⟨3, [.slice none 0 0, .int .i64 0, .int .u64 0], [(0, 1), (1, 1), (2, 1)]⟩ := by kernel_rfl
@[go_sem] theorem fact_ty147 : tyOf Try.prog 147 = some ⟨true, 3, [.slice none 0 0, .int .i64 0, .int .u64 0]⟩ := by kernel_rfl
@[go_sem] theorem fact_fld147_0 : fldOf Try.prog 147 0 = some ⟨0, 1, false⟩ := by kernel_rfl
@[go_sem] theorem fact_fld147_1 : fldOf Try.prog 147 1 = some ⟨1, 1, false⟩ := by kernel_rfl
@[go_sem] theorem fact_fld147_2 : fldOf Try.prog 147 2 = some ⟨2, 1, false⟩ := by kernel_rfl
@[go_sem] theorem fact_bld147 : bldOf Try.prog 147 = some ⟨3, [.slice none 0 0, .int .i64 0, .int .u64 0], [(0, 1), (1, 1), (2, 1)]⟩ := by kernel_rfl
@[go_sem] theorem fact_isint148 : isIntT Try.prog 148 = true := by kernel_rfl
@[go_sem] theorem fact_ty148 : tyOf Try.prog 148 = some ⟨false, 1, [.int .u64 0]⟩ := by kernel_rfl
@[go_sem] theorem fact_ty149 : tyOf Try.prog 149 = some ⟨false, 1, [.nilFunc]⟩ := by kernel_rfl
@[go_sem] theorem fact_ty150 : tyOf Try.prog 150 = some ⟨false, 1, [.nilFunc]⟩ := by kernel_rfl
@[go_sem] theorem fact_ty151 : tyOf Try.prog 151 = some ⟨false, 1, [.nilFunc]⟩ := by kernel_rfl
@[go_sem] theorem fact_ty152 : tyOf Try.prog 152 = some ⟨false, 1, [.nilFunc]⟩ := by kernel_rfl
@[go_sem] theorem fact_ty153 : tyOf Try.prog 153 = some ⟨false, 1, [.nilFunc]⟩ := by kernel_rfl
@[go_sem] theorem fact_ty154 : tyOf Try.prog 154 = some ⟨false, 1, [.nilFunc]⟩ := by kernel_rfl
@[go_sem] theorem fact_ty155 : tyOf Try.prog 155 = some ⟨false, 1, [.nilFunc]⟩ := by kernel_rfl
@[go_sem] theorem fact_ty156 : tyOf Try.prog 156 = some ⟨false, 1, [.nilFunc]⟩ := by kernel_rfl
@[go_sem] theorem fact_ty157 : tyOf Try.prog 157 = some ⟨false, 1, [.nilFunc]⟩ := by kernel_rfl
@[go_sem] theorem fact_ty158 : tyOf Try.prog 158 = some ⟨false, 1, [.nilFunc]⟩ := by kernel_rfl
@[go_sem] theorem fact_ty159 : tyOf Try.prog 159 = some ⟨false, 1, [.nilFunc]⟩ := by kernel_rfl
@[go_sem] theorem fact_ty160 : tyOf Try.prog 160 = some ⟨false, 1, [.nilFunc]⟩ := by kernel_rfl
@[go_sem] theorem fact_ty161 : tyOf Try.prog 161 = some ⟨false, 1, [.nilFunc]⟩ := by kernel_rfl
@[go_sem] theorem fact_ty162 : tyOf Try.prog 162 = some ⟨false, 1, [.nilFunc]⟩ := by kernel_rfl
@[go_sem] theorem fact_eq163 : eqT Try.prog 163 = .ptr := by kernel_rfl
@[go_sem] theorem fact_ty163 : tyOf Try.prog 163 = some ⟨false, 1, [.pointer none]⟩ := by kernel_rfl
@[go_sem] theorem fact_ty164 : tyOf Try.prog 164 = some ⟨false, 1, [.nilFunc]⟩ := by kernel_rfl
@[go_sem] theorem fact_ty165 : tyOf Try.prog 165 = some ⟨false, 1, [.nilFunc]⟩ := by kernel_rfl
@[go_sem] theorem fact_ty166 : tyOf Try.prog 166 = some ⟨false, 1, [.nilFunc]⟩ := by kernel_rfl
@[go_sem] theorem fact_ty167 : tyOf Try.prog 167 = some ⟨true, 3, [.slice none 0 0, .int .i64 0, .int .i64 0]⟩ := by kernel_rfl
@[go_sem] theorem fact_fld167_0 : fldOf Try.prog 167 0 = some ⟨0, 1, false⟩ := by kernel_rfl
@[go_sem] theorem fact_fld167_1 : fldOf Try.prog 167 1 = some ⟨1, 1, false⟩ := by kernel_rfl
@[go_sem] theorem fact_fld167_2 : fldOf Try.prog 167 2 = some ⟨2, 1, false⟩ := by kernel_rfl
@[go_sem] theorem fact_bld167 : bldOf Try.prog 167 = some ⟨3, [.slice none 0 0, .int .i64 0, .int .i64 0], [(0, 1), (1, 1), (2, 1)]⟩ := by kernel_rfl
@[go_sem] theorem fact_ty168 : tyOf Try.prog 168 = some ⟨true, 3, [.slice none 0 0, .int .i64 0, .int .i64 0]⟩ := by kernel_rfl
@[go_sem] theorem fact_fld168_0 : fldOf Try.prog 168 0 = some ⟨0, 1, false⟩ := by kernel_rfl
@[go_sem] theorem fact_fld168_1 : fldOf Try.prog 168 1 = some ⟨1, 1, false⟩ := by kernel_rfl
@[go_sem] theorem fact_fld168_2 : fldOf Try.prog 168 2 = some ⟨2, 1, false⟩ := by kernel_rfl
@[go_sem] theorem fact_bld168 : bldOf Try.prog 168 = some ⟨3, [.slice none 0 0, .int .i64 0, .int .i64 0], [(0, 1), (1, 1), (2, 1)]⟩ := by kernel_rfl
@[go_sem] theorem fact_ty169 : tyOf Try.prog 169 = some ⟨false, 1, [.nilFunc]⟩ := by kernel_rfl
@[go_sem] theorem fact_ty170 : tyOf Try.prog 170 = some ⟨false, 1, [.nilFunc]⟩ := by kernel_rfl
@[go_sem] theorem fact_ty171 : tyOf Try.prog 171 = some ⟨false, 1, [.nilFunc]⟩ := by kernel_rfl
@[go_sem] theorem fact_ty172 : tyOf Try.prog 172 = some ⟨false, 1, [.nilFunc]⟩ := by kernel_rfl
@[go_sem] theorem fact_ty173 : tyOf Try.prog 173 = some ⟨false, 1, [.nilFunc]⟩ := by kernel_rfl
@[go_sem] theorem fact_ty174 : tyOf Try.prog 174 = some ⟨false, 1, [.nilFunc]⟩ := by kernel_rfl
@[go_sem] theorem fact_ty176 : tyOf Try.prog 176 = some ⟨false, 1, [.nilFunc]⟩ := by kernel_rfl
@[go_sem] theorem fact_ty177 : tyOf Try.prog 177 = some ⟨false, 1, [.nilFunc]⟩ := by kernel_rfl
@[go_sem] theorem fact_ty178 : tyOf Try.prog 178 = some ⟨false, 1, [.nilFunc]⟩ := by kernel_rfl
@[go_sem] theorem fact_ty179 : tyOf Try.prog 179 = some ⟨false, 1, [.nilFunc]⟩ := by kernel_rfl
@[go_sem] theorem fact_ty180 : tyOf Try.prog 180 = some ⟨false, 1, [.nilFunc]⟩ := by kernel_rfl
@[go_sem] theorem fact_ty181 : tyOf Try.prog 181 = some ⟨false, 1, [.nilFunc]⟩ := by kernel_rfl
@[go_sem] theorem fact_ty182 : tyOf Try.prog 182 = some ⟨false, 1, [.nilFunc]⟩ := by kernel_rfl
@[go_sem] theorem fact_ty183 : tyOf Try.prog 183 = some ⟨false, 1, [.nilFunc]⟩ := by kernel_rfl
@[go_sem] theorem fact_ty184 : tyOf Try.prog 184 = some ⟨false, 1, [.nilFunc]⟩ := by kernel_rfl
@[go_sem] theorem fact_ty185 : tyOf Try.prog 185 = some ⟨false, 1, [.nilFunc]⟩ := by kernel_rfl
@[go_sem] theorem fact_ty186 : tyOf Try.prog 186 = some ⟨false, 1, [.nilFunc]⟩ := by kernel_rfl
@[go_sem] theorem fact_ty187 : tyOf Try.prog 187 = some ⟨false, 1, [.nilFunc]⟩ := by kernel_rfl
@[go_sem] theorem fact_ty188 : tyOf Try.prog 188 = some ⟨false, 1, [.nilFunc]⟩ := by kernel_rfl
@[go_sem] theorem fact_ty189 : tyOf Try.prog 189 = some ⟨false, 1, [.nilFunc]⟩ := by kernel_rfl
@[go_sem] theorem fact_ty190 : tyOf Try.prog 190 = some ⟨false, 1, [.nilFunc]⟩ := by kernel_rfl
@[go_sem] theorem fact_ty191 : tyOf Try.prog 191 = some ⟨true, 3, [.int .i64 0, .slice none 0 0, .slice none 0 0]⟩ := by kernel_rfl
@[go_sem] theorem fact_fld191_0 : fldOf Try.prog 191 0 = some ⟨0, 1, false⟩ := by kernel_rfl
@[go_sem] theorem fact_fld191_1 : fldOf Try.prog 191 1 = some ⟨1, 1, false⟩ := by kernel_rfl
@[go_sem] theorem fact_fld191_2 : fldOf Try.prog 191 2 = some ⟨2, 1, false⟩ := by kernel_rfl
@[go_sem] theorem fact_bld191 : bldOf Try.prog 191 = some ⟨3, [.int .i64 0, .slice none 0 0, .slice none 0 0], [(0, 1), (1, 1), (2, 1)]⟩ := by kernel_rfl
@[go_sem] theorem fact_ty192 : tyOf Try.prog 192 = some ⟨true, 3, [.int .i64 0, .slice none 0 0, .slice none 0 0]⟩ := by kernel_rfl
@[go_sem] theorem fact_fld192_0 : fldOf Try.prog 192 0 = some ⟨0, 1, false⟩ := by kernel_rfl
@[go_sem] theorem fact_fld192_1 : fldOf Try.prog 192 1 = some ⟨1, 1, false⟩ := by kernel_rfl
@[go_sem] theorem fact_fld192_2 : fldOf Try.prog 192 2 = some ⟨2, 1, false⟩ := by kernel_rfl
@[go_sem] theorem fact_bld192 : bldOf Try.prog 192 = some ⟨3, [.int .i64 0, .slice none 0 0, .slice none 0 0], [(0, 1), (1, 1), (2, 1)]⟩ := by kernel_rfl
@[go_sem] theorem fact_ty193 : tyOf Try.prog 193 = some ⟨false, 1, [.nilFunc]⟩ := by kernel_rfl
@[go_sem] theorem fact_ty194 : tyOf Try.prog 194 = some ⟨false, 1, [.nilFunc]⟩ := by kernel_rfl
@[go_sem] theorem fact_ty195 : tyOf Try.prog 195 = some ⟨false, 1, [.nilFunc]⟩ := by kernel_rfl
@[go_sem] theorem fact_ty196 : tyOf Try.prog 196 = some ⟨false, 1, [.nilFunc]⟩ := by kernel_rfl
@[go_sem] theorem fact_ty197 : tyOf Try.prog 197 = some ⟨false, 1, [.nilFunc]⟩ := by kernel_rfl
@[go_sem] theorem fact_ty198 : tyOf Try.prog 198 = some ⟨false, 1, [.map none]⟩ := by kernel_rfl
@[go_sem] theorem fact_ty200 : tyOf Try.prog 200 = some ⟨false, 1, [.nilFunc]⟩ := by kernel_rfl
@[go_sem] theorem fact_ty201 : tyOf Try.prog 201 = some ⟨false, 1, [.nilFunc]⟩ := by kernel_rfl
@[go_sem] theorem fact_ty202 : tyOf Try.prog 202 = some ⟨false, 1, [.nilFunc]⟩ := by kernel_rfl
@[go_sem] theorem fact_ty203 : tyOf Try.prog 203 = some ⟨false, 1, [.nilFunc]⟩ := by kernel_rfl
@[go_sem] theorem fact_ty204 : tyOf Try.prog 204 = some ⟨false, 1, [.nilFunc]⟩ := by kernel_rfl
@[go_sem] theorem fact_ty205 : tyOf Try.prog 205 = some ⟨false, 1, [.nilFunc]⟩ := by kernel_rfl
@[go_sem] theorem fact_ty206 : tyOf Try.prog 206 = some ⟨false, 1, [.nilFunc]⟩ := by kernel_rfl
@[go_sem] theorem fact_isint207 : isIntT Try.prog 207 = true := by kernel_rfl
@[go_sem] theorem fact_ty207 : tyOf Try.prog 207 = some ⟨false, 1, [.int .u32 0]⟩ := by kernel_rfl
@[go_sem] theorem fact_ty209 : tyOf Try.prog 209 = some ⟨false, 1, [.nilFunc]⟩ := by kernel_rfl
@[go_sem] theorem fact_ty211 : tyOf Try.prog 211 = some ⟨false, 1, [.nilFunc]⟩ := by kernel_rfl
@[go_sem] theorem fact_ty212 : tyOf Try.prog 212 = some ⟨false, 1, [.nilFunc]⟩ := by kernel_rfl
@[go_sem] theorem fact_ty213 : tyOf Try.prog 213 = some ⟨false, 1, [.nilFunc]⟩ := by kernel_rfl
@[go_sem] theorem fact_ty214 : tyOf Try.prog 214 = some ⟨false, 1, [.nilFunc]⟩ := by kernel_rfl
@[go_sem] theorem fact_ty215 : tyOf Try.prog 215 = some ⟨false, 1, [.nilFunc]⟩ := by kernel_rfl
@[go_sem] theorem fact_ty216 : tyOf Try.prog 216 = some ⟨false, 1, [.nilFunc]⟩ := by kernel_rfl
@[go_sem] theorem fact_ty218 : tyOf Try.prog 218 = some ⟨false, 1, [.nilFunc]⟩ := by kernel_rfl
@[go_sem] theorem fact_ty219 : tyOf Try.prog 219 = some ⟨false, 1, [.nilFunc]⟩ := by kernel_rfl
@[go_sem] theorem fact_ty220 : tyOf Try.prog 220 = some ⟨false, 1, [.nilFunc]⟩ := by kernel_rfl
@[go_sem] theorem fact_ty221 : tyOf Try.prog 221 = some ⟨false, 1, [.nilFunc]⟩ := by kernel_rfl
@[go_sem] theorem fact_ty222 : tyOf Try.prog 222 = some ⟨false, 1, [.nilFunc]⟩ := by kernel_rfl
@[go_sem] theorem fact_ty223 : tyOf Try.prog 223 = some ⟨true, 3, [.int .i64 0, .slice none 0 0, .slice none 0 0]⟩ := by kernel_rfl
@[go_sem] theorem fact_fld223_0 : fldOf Try.prog 223 0 = some ⟨0, 1, false⟩ := by kernel_rfl
@[go_sem] theorem fact_fld223_1 : fldOf Try.prog 223 1 = some ⟨1, 1, false⟩ := by kernel_rfl
@[go_sem] theorem fact_fld223_2 : fldOf Try.prog 223 2 = some ⟨2, 1, false⟩ := by kernel_rfl
@[go_sem] theorem fact_bld223 : bldOf Try.prog 223 = some ⟨3, [.int .i64 0, .slice none 0 0, .slice none 0 0], [(0, 1), (1, 1), (2, 1)]⟩ := by kernel_rfl
@[go_sem] theorem fact_ty224 : tyOf Try.prog 224 = some ⟨true, 3, [.int .i64 0, .slice none 0 0, .slice none 0 0]⟩ := by kernel_rfl
@[go_sem] theorem fact_fld224_0 : fldOf Try.prog 224 0 = some ⟨0, 1, false⟩ := by kernel_rfl
@[go_sem] theorem fact_fld224_1 : fldOf Try.prog 224 1 = some ⟨1, 1, false⟩ := by kernel_rfl
@[go_sem] theorem fact_fld224_2 : fldOf Try.prog 224 2 = some ⟨2, 1, false⟩ := by kernel_rfl
@[go_sem] theorem fact_bld224 : bldOf Try.prog 224 = some ⟨3, [.int .i64 0, .slice none 0 0, .slice none 0 0], [(0, 1), (1, 1), (2, 1)]⟩ := by kernel_rfl
@[go_sem] theorem fact_ty225 : tyOf Try.prog 225 = some ⟨false, 1, [.nilFunc]⟩ := by kernel_rfl
@[go_sem] theorem fact_ty226 : tyOf Try.prog 226 = some ⟨false, 1, [.nilFunc]⟩ := by kernel_rfl
@[go_sem] theorem fact_ty227 : tyOf Try.prog 227 = some ⟨false, 1, [.nilFunc]⟩ := by kernel_rfl
@[go_sem] theorem fact_ty228 : tyOf Try.prog 228 = some ⟨false, 1, [.nilFunc]⟩ := by kernel_rfl
@[go_sem] theorem fact_ty229 : tyOf Try.prog 229 = some ⟨false, 1, [.nilFunc]⟩ := by kernel_rfl
@[go_sem] theorem fact_ty230 : tyOf Try.prog 230 = some ⟨false, 1, [.nilFunc]⟩ := by kernel_rfl
@[go_sem] theorem fact_ty231 : tyOf Try.prog 231 = some ⟨false, 1, [.nilFunc]⟩ := by kernel_rfl
@[go_sem] theorem fact_ty232 : tyOf Try.prog 232 = some ⟨false, 1, [.nilFunc]⟩ := by kernel_rfl
@[go_sem] theorem fact_ty233 : tyOf Try.prog 233 = some ⟨false, 1, [.nilFunc]⟩ := by kernel_rfl
@[go_sem] theorem fact_ty234 : tyOf Try.prog 234 = some ⟨false, 1, [.nilFunc]⟩ := by kernel_rfl
@[go_sem] theorem fact_isint235 : isIntT Try.prog 235 = true := by kernel_rfl
@[go_sem] theorem fact_ty235 : tyOf Try.prog 235 = some ⟨false, 1, [.int .i64 0]⟩ := by kernel_rfl
@[go_sem] theorem fact_ty237 : tyOf Try.prog 237 = some ⟨false, 1, [.nilFunc]⟩ := by kernel_rfl
@[go_sem] theorem fact_ty238 : tyOf Try.prog 238 = some ⟨false, 1, [.nilFunc]⟩ := by kernel_rfl
@[go_sem] theorem fact_ty239 : tyOf Try.prog 239 = some ⟨false, 1, [.nilFunc]⟩ := by kernel_rfl
@[go_sem] theorem fact_ty240 : tyOf Try.prog 240 = some ⟨false, 1, [.nilFunc]⟩ := by kernel_rfl
@[go_sem] theorem fact_ty241 : tyOf Try.prog 241 = some ⟨false, 1, [.nilFunc]⟩ := by kernel_rfl
@[go_sem] theorem fact_ty242 : tyOf Try.prog 242 = some ⟨false, 1, [.nilFunc]⟩ := by kernel_rfl
@[go_sem] theorem fact_sel243 : selOf Try.prog 243 = some ⟨9, 1, 16, [.string ⟨#[]⟩]⟩ := by kernel_rfl
@[go_sem] theorem fact_eq243 : eqT Try.prog 243 = .slice := by kernel_rfl
@[go_sem] theorem fact_len243 : lenT Try.prog 243 = .slice := by kernel_rfl
@[go_sem] theorem fact_sl243 : slT Try.prog 243 = .slice 1 := by kernel_rfl
@[go_sem] theorem fact_ty243 : tyOf Try.prog 243 = some ⟨false, 1, [.slice none 0 0]⟩ := by kernel_rfl
@[go_sem] theorem fact_ty244 : tyOf Try.prog 244 = some ⟨false, 1, [.nilFunc]⟩ := by kernel_rfl
@[go_sem] theorem fact_isint245 : isIntT Try.prog 245 = true := by kernel_rfl
@[go_sem] theorem fact_ty245 : tyOf Try.prog 245 = some ⟨false, 1, [.int .u64 0]⟩ := by kernel_rfl
@[go_sem] theorem fact_ty246 : tyOf Try.prog 246 = some ⟨false, 1, [.nilFunc]⟩ := by kernel_rfl
@[go_sem] theorem fact_ty247 : tyOf Try.prog 247 = some ⟨false, 1, [.nilFunc]⟩ := by kernel_rfl
@[go_sem] theorem fact_ty248 : tyOf Try.prog 248 = some ⟨false, 1, [.nilFunc]⟩ := by kernel_rfl
@[go_sem] theorem fact_eq249 : eqT Try.prog 249 = .ptr := by kernel_rfl
@[go_sem] theorem fact_ty249 : tyOf Try.prog 249 = some ⟨false, 1, [.pointer none]⟩ := by kernel_rfl
@[go_sem] theorem fact_ty250 : tyOf Try.prog 250 = some ⟨false, 1, [.nilFunc]⟩ := by kernel_rfl
@[go_sem] theorem fact_ty251 : tyOf Try.prog 251 = some ⟨false, 1, [.nilFunc]⟩ := by kernel_rfl
@[go_sem] theorem fact_ty252 : tyOf Try.prog 252 = some ⟨false, 1, [.nilFunc]⟩ := by kernel_rfl
@[go_sem] theorem fact_ty253 : tyOf Try.prog 253 = some ⟨false, 1, [.nilFunc]⟩ := by kernel_rfl
@[go_sem] theorem fact_eq254 : eqT Try.prog 254 = .ptr := by kernel_rfl
@[go_sem] theorem fact_ty254 : tyOf Try.prog 254 = some ⟨false, 1, [.pointer none]⟩ := by kernel_rfl
@[go_sem] theorem fact_ty256 : tyOf Try.prog 256 = some ⟨false, 1, [.nilFunc]⟩ := by kernel_rfl
@[go_sem] theorem fact_ty258 : tyOf Try.prog 258 = some ⟨false, 1, [.nilFunc]⟩ := by kernel_rfl
@[go_sem] theorem fact_ty259 : tyOf Try.prog 259 = some ⟨false, 1, [.nilFunc]⟩ := by kernel_rfl
@[go_sem] theorem fact_ty260 : tyOf Try.prog 260 = some ⟨false, 1, [.nilFunc]⟩ := by kernel_rfl
@[go_sem] theorem fact_ty261 : tyOf Try.prog 261 = some ⟨false, 1, [.nilFunc]⟩ := by kernel_rfl
@[go_sem] theorem fact_ty262 : tyOf Try.prog 262 = some ⟨true, 4, [.pointer none, .pointer none, .pointer none, .string ⟨#[]⟩]⟩ := by kernel_rfl
@[go_sem] theorem fact_fld262_0 : fldOf Try.prog 262 0 = some ⟨0, 1, false⟩ := by kernel_rfl
@[go_sem] theorem fact_fld262_1 : fldOf Try.prog 262 1 = some ⟨1, 1, false⟩ := by kernel_rfl
@[go_sem] theorem fact_fld262_2 : fldOf Try.prog 262 2 = some ⟨2, 1, false⟩ := by kernel_rfl
@[go_sem] theorem fact_fld262_3 : fldOf Try.prog 262 3 = some ⟨3, 1, false⟩ := by kernel_rfl
@[go_sem] theorem fact_bld262 : bldOf Try.prog 262 = some ⟨4, [.pointer none, .pointer none, .pointer none, .string ⟨#[]⟩], [(0, 1), (1, 1), (2, 1), (3, 1)]⟩ := by kernel_rfl
@[go_sem] theorem fact_ty263 : tyOf Try.prog 263 = some ⟨true, 4, [.pointer none, .pointer none, .pointer none, .string ⟨#[]⟩]⟩ := by kernel_rfl
@[go_sem] theorem fact_fld263_0 : fldOf Try.prog 263 0 = some ⟨0, 1, false⟩ := by kernel_rfl
@[go_sem] theorem fact_fld263_1 : fldOf Try.prog 263 1 = some ⟨1, 1, false⟩ := by kernel_rfl
@[go_sem] theorem fact_fld263_2 : fldOf Try.prog 263 2 = some ⟨2, 1, false⟩ := by kernel_rfl
@[go_sem] theorem fact_fld263_3 : fldOf Try.prog 263 3 = some ⟨3, 1, false⟩ := by kernel_rfl
@[go_sem] theorem fact_bld263 : bldOf Try.prog 263 = some ⟨4, [.pointer none, .pointer none, .pointer none, .string ⟨#[]⟩], [(0, 1), (1, 1), (2, 1), (3, 1)]⟩ := by kernel_rfl
@[go_sem] theorem fact_ty264 : tyOf Try.prog 264 = some ⟨true, 0, []⟩ := by kernel_rfl
@[go_sem] theorem fact_ty265 : tyOf Try.prog 265 = some ⟨true, 0, []⟩ := by kernel_rfl
@[go_sem] theorem fact_ty266 : tyOf Try.prog 266 = some ⟨true, 0, []⟩ := by kernel_rfl
@[go_sem] theorem fact_ty267 : tyOf Try.prog 267 = some ⟨false, 1, [.nilFunc]⟩ := by kernel_rfl
@[go_sem] theorem fact_isint268 : isIntT Try.prog 268 = true := by kernel_rfl
@[go_sem] theorem fact_ty268 : tyOf Try.prog 268 = some ⟨false, 1, [.int .u8 0]⟩ := by kernel_rfl
@[go_sem] theorem fact_isint269 : isIntT Try.prog 269 = true := by kernel_rfl
@[go_sem] theorem fact_ty269 : tyOf Try.prog 269 = some ⟨false, 1, [.int .u8 0]⟩ := by kernel_rfl
@[go_sem] theorem fact_ty270 : tyOf Try.prog 270 = some ⟨false, 1, [.nilFunc]⟩ := by kernel_rfl
@[go_sem] theorem fact_eq271 : eqT Try.prog 271 = .ptr := by kernel_rfl
@[go_sem] theorem fact_ty271 : tyOf Try.prog 271 = some ⟨false, 1, [.pointer none]⟩ := by kernel_rfl
@[go_sem] theorem fact_isint272 : isIntT Try.prog 272 = true := by kernel_rfl
@[go_sem] theorem fact_ty272 : tyOf Try.prog 272 = some ⟨false, 1, [.int .i32 0]⟩ := by kernel_rfl
@[go_sem] theorem fact_isint273 : isIntT Try.prog 273 = true := by kernel_rfl
@[go_sem] theorem fact_ty273 : tyOf Try.prog 273 = some ⟨false, 1, [.int .i32 0]⟩ := by kernel_rfl
@[go_sem] theorem fact_ty274 : tyOf Try.prog 274 = some ⟨true, 11, [.int .u64 0, .int .u64 0, .int .u32 0, .int .u8 0, .int .u8 0, .int .u8 0, .int .u8 0, .nilFunc, .pointer none, .int .i32 0, .int .i32 0]⟩ := by kernel_rfl
@[go_sem] theorem fact_fld274_0 : fldOf Try.prog 274 0 = some ⟨0, 1, false⟩ := by kernel_rfl
@[go_sem] theorem fact_fld274_1 : fldOf Try.prog 274 1 = some ⟨1, 1, false⟩ := by kernel_rfl
@[go_sem] theorem fact_fld274_2 : fldOf Try.prog 274 2 = some ⟨2, 1, false⟩ := by kernel_rfl
@[go_sem] theorem fact_fld274_3 : fldOf Try.prog 274 3 = some ⟨3, 1, false⟩ := by kernel_rfl
@[go_sem] theorem fact_fld274_4 : fldOf Try.prog 274 4 = some ⟨4, 1, false⟩ := by kernel_rfl
@[go_sem] theorem fact_fld274_5 : fldOf Try.prog 274 5 = some ⟨5, 1, false⟩ := by kernel_rfl
@[go_sem] theorem fact_fld274_6 : fldOf Try.prog 274 6 = some ⟨6, 1, false⟩ := by kernel_rfl
@[go_sem] theorem fact_fld274_7 : fldOf Try.prog 274 7 = some ⟨7, 1, false⟩ := by kernel_rfl
@[go_sem] theorem fact_fld274_8 : fldOf Try.prog 274 8 = some ⟨8, 1, false⟩ := by kernel_rfl
@[go_sem] theorem fact_fld274_9 : fldOf Try.prog 274 9 = some ⟨9, 1, false⟩ := by kernel_rfl
@[go_sem] theorem fact_fld274_10 : fldOf Try.prog 274 10 = some ⟨10, 1, false⟩ := by kernel_rfl
@[go_sem] theorem fact_bld274 : bldOf Try.prog 274 = some ⟨11, [.int .u64 0, .int .u64 0, .int .u32 0, .int .u8 0, .int .u8 0, .int .u8 0, .int .u8 0, .nilFunc, .pointer none, .int .i32 0, .int .i32 0], [(0, 1), (1, 1), (2, 1), (3, 1), (4, 1), (5, 1), (6, 1), (7, 1), (8, 1), (9, 1), (10, 1)]⟩ := by kernel_rfl
@[go_sem] theorem fact_ty275 : tyOf Try.prog 275 = some ⟨true, 11, [.int .u64 0, .int .u64 0, .int .u32 0, .int .u8 0, .int .u8 0, .int .u8 0, .int .u8 0, .nilFunc, .pointer none, .int .i32 0, .int .i32 0]⟩ := by kernel_rfl
@[go_sem] theorem fact_fld275_0 : fldOf Try.prog 275 0 = some ⟨0, 1, false⟩ := by kernel_rfl
@[go_sem] theorem fact_fld275_1 : fldOf Try.prog 275 1 = some ⟨1, 1, false⟩ := by kernel_rfl
@[go_sem] theorem fact_fld275_2 : fldOf Try.prog 275 2 = some ⟨2, 1, false⟩ := by kernel_rfl
@[go_sem] theorem fact_fld275_3 : fldOf Try.prog 275 3 = some ⟨3, 1, false⟩ := by kernel_rfl
@[go_sem] theorem fact_fld275_4 : fldOf Try.prog 275 4 = some ⟨4, 1, false⟩ := by kernel_rfl
@[go_sem] theorem fact_fld275_5 : fldOf Try.prog 275 5 = some ⟨5, 1, false⟩ := by kernel_rfl
@[go_sem] theorem fact_fld275_6 : fldOf Try.prog 275 6 = some ⟨6, 1, false⟩ := by kernel_rfl
@[go_sem] theorem fact_fld275_7 : fldOf Try.prog 275 7 = some ⟨7, 1, false⟩ := by kernel_rfl
@[go_sem] theorem fact_fld275_8 : fldOf Try.prog 275 8 = some ⟨8, 1, false⟩ := by kernel_rfl
@[go_sem] theorem fact_fld275_9 : fldOf Try.prog 275 9 = some ⟨9, 1, false⟩ := by kernel_rfl
@[go_sem] theorem fact_fld275_10 : fldOf Try.prog 275 10 = some ⟨10, 1, false⟩ := by kernel_rfl
@[go_sem] theorem fact_bld275 : bldOf Try.prog 275 = some ⟨11, [.int .u64 0, .int .u64 0, .int .u32 0, .int .u8 0, .int .u8 0, .int .u8 0, .int .u8 0, .nilFunc, .pointer none, .int .i32 0, .int .i32 0], [(0, 1), (1, 1), (2, 1), (3, 1), (4, 1), (5, 1), (6, 1), (7, 1), (8, 1), (9, 1), (10, 1)]⟩ := by kernel_rfl
@[go_sem] theorem fact_ty276 : tyOf Try.prog 276 = some ⟨false, 1, [.pointer none]⟩ := by kernel_rfl
@[go_sem] theorem fact_cv2_2 : cvT Try.prog 2 2 = .int .i64 := by kernel_rfl
@[go_sem] theorem fact_cv2_3 : cvT Try.prog 2 3 = .int .i64 := by kernel_rfl
@[go_sem] theorem fact_cv2_5 : cvT Try.prog 2 5 = .int .u8 := by kernel_rfl
@[go_sem] theorem fact_cv2_12 : cvT Try.prog 2 12 = .int .u64 := by kernel_rfl
@[go_sem] theorem fact_cv2_21 : cvT Try.prog 2 21 = .int .i32 := by kernel_rfl
@[go_sem] theorem fact_cv2_79 : cvT Try.prog 2 79 = .int .u64 := by kernel_rfl
@[go_sem] theorem fact_cv2_148 : cvT Try.prog 2 148 = .int .u64 := by kernel_rfl
@[go_sem] theorem fact_cv2_207 : cvT Try.prog 2 207 = .int .u32 := by kernel_rfl
@[go_sem] theorem fact_cv3_2 : cvT Try.prog 3 2 = .int .i64 := by kernel_rfl
@[go_sem] theorem fact_cv3_3 : cvT Try.prog 3 3 = .int .i64 := by kernel_rfl
@[go_sem] theorem fact_cv3_5 : cvT Try.prog 3 5 = .int .u8 := by kernel_rfl
@[go_sem] theorem fact_cv3_12 : cvT Try.prog 3 12 = .int .u64 := by kernel_rfl
@[go_sem] theorem fact_cv3_21 : cvT Try.prog 3 21 = .int .i32 := by kernel_rfl
@[go_sem] theorem fact_cv3_79 : cvT Try.prog 3 79 = .int .u64 := by kernel_rfl
@[go_sem] theorem fact_cv3_148 : cvT Try.prog 3 148 = .int .u64 := by kernel_rfl
@[go_sem] theorem fact_cv3_207 : cvT Try.prog 3 207 = .int .u32 := by kernel_rfl
@[go_sem] theorem fact_cv5_2 : cvT Try.prog 5 2 = .int .i64 := by kernel_rfl
@[go_sem] theorem fact_cv5_3 : cvT Try.prog 5 3 = .int .i64 := by kernel_rfl
@[go_sem] theorem fact_cv5_5 : cvT Try.prog 5 5 = .int .u8 := by kernel_rfl
@[go_sem] theorem fact_cv5_12 : cvT Try.prog 5 12 = .int .u64 := by kernel_rfl
@[go_sem] theorem fact_cv5_21 : cvT Try.prog 5 21 = .int .i32 := by kernel_rfl
@[go_sem] theorem fact_cv5_79 : cvT Try.prog 5 79 = .int .u64 := by kernel_rfl
@[go_sem] theorem fact_cv5_148 : cvT Try.prog 5 148 = .int .u64 := by kernel_rfl
@[go_sem] theorem fact_cv5_207 : cvT Try.prog 5 207 = .int .u32 := by kernel_rfl
@[go_sem] theorem fact_cv12_2 : cvT Try.prog 12 2 = .int .i64 := by kernel_rfl
@[go_sem] theorem fact_cv12_3 : cvT Try.prog 12 3 = .int .i64 := by kernel_rfl
@[go_sem] theorem fact_cv12_5 : cvT Try.prog 12 5 = .int .u8 := by kernel_rfl
@[go_sem] theorem fact_cv12_12 : cvT Try.prog 12 12 = .int .u64 := by kernel_rfl
@[go_sem] theorem fact_cv12_21 : cvT Try.prog 12 21 = .int .i32 := by kernel_rfl
@[go_sem] theorem fact_cv12_79 : cvT Try.prog 12 79 = .int .u64 := by kernel_rfl
@[go_sem] theorem fact_cv12_148 : cvT Try.prog 12 148 = .int .u64 := by kernel_rfl
@[go_sem] theorem fact_cv12_207 : cvT Try.prog 12 207 = .int .u32 := by kernel_rfl
@[go_sem] theorem fact_cv21_2 : cvT Try.prog 21 2 = .int .i64 := by kernel_rfl
@[go_sem] theorem fact_cv21_3 : cvT Try.prog 21 3 = .int .i64 := by kernel_rfl
@[go_sem] theorem fact_cv21_5 : cvT Try.prog 21 5 = .int .u8 := by kernel_rfl
@[go_sem] theorem fact_cv21_12 : cvT Try.prog 21 12 = .int .u64 := by kernel_rfl
@[go_sem] theorem fact_cv21_21 : cvT Try.prog 21 21 = .int .i32 := by kernel_rfl
@[go_sem] theorem fact_cv21_79 : cvT Try.prog 21 79 = .int .u64 := by kernel_rfl
@[go_sem] theorem fact_cv21_148 : cvT Try.prog 21 148 = .int .u64 := by kernel_rfl
@[go_sem] theorem fact_cv21_207 : cvT Try.prog 21 207 = .int .u32 := by kernel_rfl
@[go_sem] theorem fact_cv79_2 : cvT Try.prog 79 2 = .int .i64 := by kernel_rfl
@[go_sem] theorem fact_cv79_3 : cvT Try.prog 79 3 = .int .i64 := by kernel_rfl
@[go_sem] theorem fact_cv79_5 : cvT Try.prog 79 5 = .int .u8 := by kernel_rfl
@[go_sem] theorem fact_cv79_12 : cvT Try.prog 79 12 = .int .u64 := by kernel_rfl
@[go_sem] theorem fact_cv79_21 : cvT Try.prog 79 21 = .int .i32 := by kernel_rfl
@[go_sem] theorem fact_cv79_79 : cvT Try.prog 79 79 = .int .u64 := by kernel_rfl
@[go_sem] theorem fact_cv79_148 : cvT Try.prog 79 148 = .int .u64 := by kernel_rfl
@[go_sem] theorem fact_cv79_207 : cvT Try.prog 79 207 = .int .u32 := by kernel_rfl
@[go_sem] theorem fact_cv148_2 : cvT Try.prog 148 2 = .int .i64 := by kernel_rfl
@[go_sem] theorem fact_cv148_3 : cvT Try.prog 148 3 = .int .i64 := by kernel_rfl
@[go_sem] theorem fact_cv148_5 : cvT Try.prog 148 5 = .int .u8 := by kernel_rfl
@[go_sem] theorem fact_cv148_12 : cvT Try.prog 148 12 = .int .u64 := by kernel_rfl
@[go_sem] theorem fact_cv148_21 : cvT Try.prog 148 21 = .int .i32 := by kernel_rfl
@[go_sem] theorem fact_cv148_79 : cvT Try.prog 148 79 = .int .u64 := by kernel_rfl
@[go_sem] theorem fact_cv148_148 : cvT Try.prog 148 148 = .int .u64 := by kernel_rfl
@[go_sem] theorem fact_cv148_207 : cvT Try.prog 148 207 = .int .u32 := by kernel_rfl
@[go_sem] theorem fact_cv207_2 : cvT Try.prog 207 2 = .int .i64 := by kernel_rfl
@[go_sem] theorem fact_cv207_3 : cvT Try.prog 207 3 = .int .i64 := by kernel_rfl
@[go_sem] theorem fact_cv207_5 : cvT Try.prog 207 5 = .int .u8 := by kernel_rfl
@[go_sem] theorem fact_cv207_12 : cvT Try.prog 207 12 = .int .u64 := by kernel_rfl
@[go_sem] theorem fact_cv207_21 : cvT Try.prog 207 21 = .int .i32 := by kernel_rfl
@[go_sem] theorem fact_cv207_79 : cvT Try.prog 207 79 = .int .u64 := by kernel_rfl
@[go_sem] theorem fact_cv207_148 : cvT Try.prog 207 148 = .int .u64 := by kernel_rfl
@[go_sem] theorem fact_cv207_207 : cvT Try.prog 207 207 = .int .u32 := by kernel_rfl
@[go_sem] theorem fact_cv9_9 : cvT Try.prog 9 9 = .same := by kernel_rfl
@[go_sem] theorem fact_cv9_10 : cvT Try.prog 9 10 = .same := by kernel_rfl
@[go_sem] theorem fact_cv9_11 : cvT Try.prog 9 11 = .same := by kernel_rfl
@[go_sem] theorem fact_cv9_22 : cvT Try.prog 9 22 = .bytes 5 := by kernel_rfl
@[go_sem] theorem fact_cv22_9 : cvT Try.prog 22 9 = .str := by kernel_rfl
@[go_sem] theorem fact_cv10_9 : cvT Try.prog 10 9 = .same := by kernel_rfl
@[go_sem] theorem fact_cv10_10 : cvT Try.prog 10 10 = .same := by kernel_rfl
@[go_sem] theorem fact_cv10_11 : cvT Try.prog 10 11 = .same := by kernel_rfl
@[go_sem] theorem fact_cv10_22 : cvT Try.prog 10 22 = .bytes 5 := by kernel_rfl
@[go_sem] theorem fact_cv22_10 : cvT Try.prog 22 10 = .str := by kernel_rfl
@[go_sem] theorem fact_cv11_9 : cvT Try.prog 11 9 = .same := by kernel_rfl
@[go_sem] theorem fact_cv11_10 : cvT Try.prog 11 10 = .same := by kernel_rfl
@[go_sem] theorem fact_cv11_11 : cvT Try.prog 11 11 = .same := by kernel_rfl
@[go_sem] theorem fact_cv11_22 : cvT Try.prog 11 22 = .bytes 5 := by kernel_rfl
@[go_sem] theorem fact_cv22_11 : cvT Try.prog 22 11 = .str := by kernel_rfl

end Go.Proofs.Ytcfnbahpdlmcpaa
end
