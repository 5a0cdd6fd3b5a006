import Derived.Test.YtpffmolibjimgaaRows
import Derived.Test.YtpffmolibjimgaaJ2
import Derived.KernelRfl
/- The facts on types that the walk over abstract values wants, in this seat's numbers. Written by facts.py. -/
section
namespace Go.Proofs.Ytpffmolibjimgaa
open Go.Av

@[go_sem] theorem fact_ty1 : tyOf Try.prog 1 = some ⟨false, 1, [.nilFunc]⟩ := by kernel_rfl
@[go_sem] theorem fact_isint2 : isIntT Try.prog 2 = true := by kernel_rfl
@[go_sem] theorem fact_ty2 : tyOf Try.prog 2 = some ⟨false, 1, [.int .i64 0]⟩ := by kernel_rfl
@[go_sem] theorem fact_isint3 : isIntT Try.prog 3 = true := by kernel_rfl
@[go_sem] theorem fact_ty3 : tyOf Try.prog 3 = some ⟨false, 1, [.int .i64 0]⟩ := by kernel_rfl
@[go_sem] theorem fact_eq4 : eqT Try.prog 4 = .bool := by kernel_rfl
@[go_sem] theorem fact_ty4 : tyOf Try.prog 4 = some ⟨false, 1, [.bool false]⟩ := by kernel_rfl
@[go_sem] theorem fact_isint5 : isIntT Try.prog 5 = true := by kernel_rfl
@[go_sem] theorem fact_ty5 : tyOf Try.prog 5 = some ⟨false, 1, [.int .u8 0]⟩ := by kernel_rfl
@[go_sem] theorem fact_isint6 : isIntT Try.prog 6 = true := by kernel_rfl
@[go_sem] theorem fact_ty6 : tyOf Try.prog 6 = some ⟨false, 1, [.int .u8 0]⟩ := by kernel_rfl
@[go_sem] theorem fact_ty7 : tyOf Try.prog 7 = some ⟨true, 4, [.int .i64 0, .int .i64 0, .bool false, .int .u8 0]⟩ := by kernel_rfl
@[go_sem] theorem fact_fld7_0 : fldOf Try.prog 7 0 = some ⟨0, 1, false⟩ := by kernel_rfl
@[go_sem] theorem fact_fld7_1 : fldOf Try.prog 7 1 = some ⟨1, 1, false⟩ := by kernel_rfl
@[go_sem] theorem fact_fld7_2 : fldOf Try.prog 7 2 = some ⟨2, 1, false⟩ := by kernel_rfl
@[go_sem] theorem fact_fld7_3 : fldOf Try.prog 7 3 = some ⟨3, 1, false⟩ := by kernel_rfl
@[go_sem] theorem fact_bld7 : bldOf Try.prog 7 = some ⟨4, [.int .i64 0, .int .i64 0, .bool false, .int .u8 0], [(0, 1), (1, 1), (2, 1), (3, 1)]⟩ := by kernel_rfl
@[go_sem] theorem fact_ty8 : tyOf Try.prog 8 = some ⟨true, 4, [.int .i64 0, .int .i64 0, .bool false, .int .u8 0]⟩ := by kernel_rfl
@[go_sem] theorem fact_fld8_0 : fldOf Try.prog 8 0 = some ⟨0, 1, false⟩ := by kernel_rfl
@[go_sem] theorem fact_fld8_1 : fldOf Try.prog 8 1 = some ⟨1, 1, false⟩ := by kernel_rfl
@[go_sem] theorem fact_fld8_2 : fldOf Try.prog 8 2 = some ⟨2, 1, false⟩ := by kernel_rfl
@[go_sem] theorem fact_fld8_3 : fldOf Try.prog 8 3 = some ⟨3, 1, false⟩ := by kernel_rfl
@[go_sem] theorem fact_bld8 : bldOf Try.prog 8 = some ⟨4, [.int .i64 0, .int .i64 0, .bool false, .int .u8 0], [(0, 1), (1, 1), (2, 1), (3, 1)]⟩ := by kernel_rfl
@[go_sem] theorem fact_len9 : lenT Try.prog 9 = .str := by kernel_rfl
@[go_sem] theorem fact_st9 : isStr Try.prog 9 = true := by kernel_rfl
@[go_sem] theorem fact_sl9 : slT Try.prog 9 = .str := by kernel_rfl
@[go_sem] theorem fact_ty9 : tyOf Try.prog 9 = some ⟨false, 1, [.string ⟨#[]⟩]⟩ := by kernel_rfl
@[go_sem] theorem fact_len10 : lenT Try.prog 10 = .str := by kernel_rfl
@[go_sem] theorem fact_st10 : isStr Try.prog 10 = true := by kernel_rfl
@[go_sem] theorem fact_sl10 : slT Try.prog 10 = .str := by kernel_rfl
@[go_sem] theorem fact_ty10 : tyOf Try.prog 10 = some ⟨false, 1, [.string ⟨#[]⟩]⟩ := by kernel_rfl
@[go_sem] theorem fact_len11 : lenT Try.prog 11 = .str := by kernel_rfl
@[go_sem] theorem fact_st11 : isStr Try.prog 11 = true := by kernel_rfl
@[go_sem] theorem fact_sl11 : slT Try.prog 11 = .str := by kernel_rfl
@[go_sem] theorem fact_ty11 : tyOf Try.prog 11 = some ⟨false, 1, [.string ⟨#[]⟩]⟩ := by kernel_rfl
@[go_sem] theorem fact_isint12 : isIntT Try.prog 12 = true := by kernel_rfl
@[go_sem] theorem fact_ty12 : tyOf Try.prog 12 = some ⟨false, 1, [.int .u64 0]⟩ := by kernel_rfl
@[go_sem] theorem fact_ty13 : tyOf Try.prog 13 = some ⟨true, 2, [.string ⟨#[]⟩, .int .u64 0]⟩ := by kernel_rfl
@[go_sem] theorem fact_fld13_0 : fldOf Try.prog 13 0 = some ⟨0, 1, false⟩ := by kernel_rfl
@[go_sem] theorem fact_fld13_1 : fldOf Try.prog 13 1 = some ⟨1, 1, false⟩ := by kernel_rfl
@[go_sem] theorem fact_bld13 : bldOf Try.prog 13 = some ⟨2, [.string ⟨#[]⟩, .int .u64 0], [(0, 1), (1, 1)]⟩ := by kernel_rfl
@[go_sem] theorem fact_ty14 : tyOf Try.prog 14 = some ⟨true, 2, [.string ⟨#[]⟩, .int .u64 0]⟩ := by kernel_rfl
@[go_sem] theorem fact_fld14_0 : fldOf Try.prog 14 0 = some ⟨0, 1, false⟩ := by kernel_rfl
@[go_sem] theorem fact_fld14_1 : fldOf Try.prog 14 1 = some ⟨1, 1, false⟩ := by kernel_rfl
@[go_sem] theorem fact_bld14 : bldOf Try.prog 14 = some ⟨2, [.string ⟨#[]⟩, .int .u64 0], [(0, 1), (1, 1)]⟩ := by kernel_rfl
@[go_sem] theorem fact_eq15 : eqT Try.prog 15 = .ptr := by kernel_rfl
@[go_sem] theorem fact_ty15 : tyOf Try.prog 15 = some ⟨false, 1, [.pointer none]⟩ := by kernel_rfl
@[go_sem] theorem fact_eq16 : eqT Try.prog 16 = .ptr := by kernel_rfl
@[go_sem] theorem fact_ty16 : tyOf Try.prog 16 = some ⟨false, 1, [.pointer none]⟩ := by kernel_rfl
@[go_sem] theorem fact_eq17 : eqT Try.prog 17 = .ptr := by kernel_rfl
@[go_sem] theorem fact_ty17 : tyOf Try.prog 17 = some ⟨false, 1, [.pointer none]⟩ := by kernel_rfl
@[go_sem] theorem fact_ty18 : tyOf Try.prog 18 = some ⟨true, 1, [.pointer none]⟩ := by kernel_rfl
@[go_sem] theorem fact_fld18_0 : fldOf Try.prog 18 0 = some ⟨0, 1, false⟩ := by kernel_rfl
@[go_sem] theorem fact_bld18 : bldOf Try.prog 18 = some ⟨1, [.pointer none], [(0, 1)]⟩ := by kernel_rfl
@[go_sem] theorem fact_ty19 : tyOf Try.prog 19 = some ⟨true, 1, [.pointer none]⟩ := by kernel_rfl
@[go_sem] theorem fact_fld19_0 : fldOf Try.prog 19 0 = some ⟨0, 1, false⟩ := by kernel_rfl
@[go_sem] theorem fact_bld19 : bldOf Try.prog 19 = some ⟨1, [.pointer none], [(0, 1)]⟩ := by kernel_rfl
@[go_sem] theorem fact_isint21 : isIntT Try.prog 21 = true := by kernel_rfl
@[go_sem] theorem fact_ty21 : tyOf Try.prog 21 = some ⟨false, 1, [.int .i32 0]⟩ := by kernel_rfl
@[go_sem] theorem fact_sel22 : selOf Try.prog 22 = some ⟨5, 1, 1, [.int .u8 0]⟩ := by kernel_rfl
@[go_sem] theorem fact_ix22 : ixOf Try.prog 22 = some (.sl 1) := by kernel_rfl
@[go_sem] theorem fact_eq22 : eqT Try.prog 22 = .slice := by kernel_rfl
@[go_sem] theorem fact_len22 : lenT Try.prog 22 = .slice := by kernel_rfl
@[go_sem] theorem fact_sl22 : slT Try.prog 22 = .slice 1 := by kernel_rfl
@[go_sem] theorem fact_ty22 : tyOf Try.prog 22 = some ⟨false, 1, [.slice none 0 0]⟩ := by kernel_rfl
@[go_sem] theorem fact_ty23 : tyOf Try.prog 23 = some ⟨false, 1, [.nilFunc]⟩ := by kernel_rfl
@[go_sem] theorem fact_sel24 : selOf Try.prog 24 = some ⟨2, 1, 8, [.int .i64 0]⟩ := by kernel_rfl
@[go_sem] theorem fact_ix24 : ixOf Try.prog 24 = some (.sl 1) := by kernel_rfl
@[go_sem] theorem fact_eq24 : eqT Try.prog 24 = .slice := by kernel_rfl
@[go_sem] theorem fact_len24 : lenT Try.prog 24 = .slice := by kernel_rfl
@[go_sem] theorem fact_sl24 : slT Try.prog 24 = .slice 1 := by kernel_rfl
@[go_sem] theorem fact_ty24 : tyOf Try.prog 24 = some ⟨false, 1, [.slice none 0 0]⟩ := by kernel_rfl
@[go_sem] theorem fact_ty26 : tyOf Try.prog 26 = some ⟨false, 1, [.nilFunc]⟩ := by kernel_rfl
@[go_sem] theorem fact_ty27 : tyOf Try.prog 27 = some ⟨false, 1, [.nilFunc]⟩ := by kernel_rfl
@[go_sem] theorem fact_ty29 : tyOf Try.prog 29 = some ⟨false, 1, [.nilFunc]⟩ := by kernel_rfl
@[go_sem] theorem fact_ty30 : tyOf Try.prog 30 = some ⟨false, 1, [.nilFunc]⟩ := by kernel_rfl
@[go_sem] theorem fact_ty31 : tyOf Try.prog 31 = some ⟨false, 1, [.nilFunc]⟩ := by kernel_rfl
@[go_sem] theorem fact_eq32 : eqT Try.prog 32 = .ptr := by kernel_rfl
@[go_sem] theorem fact_ty32 : tyOf Try.prog 32 = some ⟨false, 1, [.pointer none]⟩ := by kernel_rfl
@[go_sem] theorem fact_ty33 : tyOf Try.prog 33 = some ⟨false, 1, [.nilFunc]⟩ := by kernel_rfl
@[go_sem] theorem fact_ty34 : tyOf Try.prog 34 = some ⟨false, 1, [.nilFunc]⟩ := by kernel_rfl
@[go_sem] theorem fact_ty35 : tyOf Try.prog 35 = some ⟨false, 1, [.nilFunc]⟩ := by kernel_rfl
@[go_sem] theorem fact_ty36 : tyOf Try.prog 36 = some ⟨false, 1, [.nilFunc]⟩ := by kernel_rfl
@[go_sem] theorem fact_ty37 : tyOf Try.prog 37 = some ⟨false, 1, [.nilFunc]⟩ := by kernel_rfl
@[go_sem] theorem fact_ty38 : tyOf Try.prog 38 = some ⟨false, 1, [.nilFunc]⟩ := by kernel_rfl
@[go_sem] theorem fact_ty39 : tyOf Try.prog 39 = some ⟨false, 1, [.nilFunc]⟩ := by kernel_rfl
@[go_sem] theorem fact_ty40 : tyOf Try.prog 40 = some ⟨false, 1, [.nilFunc]⟩ := by kernel_rfl
@[go_sem] theorem fact_ty41 : tyOf Try.prog 41 = some ⟨false, 1, [.nilFunc]⟩ := by kernel_rfl
@[go_sem] theorem fact_ty42 : tyOf Try.prog 42 = some ⟨false, 1, [.nilFunc]⟩ := by kernel_rfl
@[go_sem] theorem fact_ty43 : tyOf Try.prog 43 = some ⟨true, 3, [.slice none 0 0, .int .i64 0, .int .i64 0]⟩ := by kernel_rfl
@[go_sem] theorem fact_fld43_0 : fldOf Try.prog 43 0 = some ⟨0, 1, false⟩ := by kernel_rfl
@[go_sem] theorem fact_fld43_1 : fldOf Try.prog 43 1 = some ⟨1, 1, false⟩ := by kernel_rfl
@[go_sem] theorem fact_fld43_2 : fldOf Try.prog 43 2 = some ⟨2, 1, false⟩ := by kernel_rfl
@[go_sem] theorem fact_bld43 : bldOf Try.prog 43 = some ⟨3, [.slice none 0 0, .int .i64 0, .int .i64 0], [(0, 1), (1, 1), (2, 1)]⟩ := by kernel_rfl
@[go_sem] theorem fact_ty44 : tyOf Try.prog 44 = some ⟨true, 3, [.slice none 0 0, .int .i64 0, .int .i64 0]⟩ := by kernel_rfl
@[go_sem] theorem fact_fld44_0 : fldOf Try.prog 44 0 = some ⟨0, 1, false⟩ := by kernel_rfl
@[go_sem] theorem fact_fld44_1 : fldOf Try.prog 44 1 = some ⟨1, 1, false⟩ := by kernel_rfl
@[go_sem] theorem fact_fld44_2 : fldOf Try.prog 44 2 = some ⟨2, 1, false⟩ := by kernel_rfl
@[go_sem] theorem fact_bld44 : bldOf Try.prog 44 = some ⟨3, [.slice none 0 0, .int .i64 0, .int .i64 0], [(0, 1), (1, 1), (2, 1)]⟩ := by kernel_rfl
@[go_sem] theorem fact_ty45 : tyOf Try.prog 45 = some ⟨false, 1, [.nilFunc]⟩ := by kernel_rfl
@[go_sem] theorem fact_sel46 : selOf Try.prog 46 = some ⟨24, 1, 24, [.slice none 0 0]⟩ := by kernel_rfl
@[go_sem] theorem fact_ix46 : ixOf Try.prog 46 = some (.sl 1) := by kernel_rfl
@[go_sem] theorem fact_eq46 : eqT Try.prog 46 = .slice := by kernel_rfl
@[go_sem] theorem fact_len46 : lenT Try.prog 46 = .slice := by kernel_rfl
@[go_sem] theorem fact_sl46 : slT Try.prog 46 = .slice 1 := by kernel_rfl
@[go_sem] theorem fact_ty46 : tyOf Try.prog 46 = some ⟨false, 1, [.slice none 0 0]⟩ := by kernel_rfl
@[go_sem] theorem fact_ty47 : tyOf Try.prog 47 = some ⟨false, 1, [.nilFunc]⟩ := by kernel_rfl
@[go_sem] theorem fact_ty48 : tyOf Try.prog 48 = some ⟨false, 1, [.nilFunc]⟩ := by kernel_rfl
@[go_sem] theorem fact_ty49 : tyOf Try.prog 49 = some ⟨false, 1, [.nilFunc]⟩ := by kernel_rfl
@[go_sem] theorem fact_sel50 : selOf Try.prog 50 = some ⟨4, 1, 1, [.bool false]⟩ := by kernel_rfl
@[go_sem] theorem fact_ix50 : ixOf Try.prog 50 = some (.sl 1) := by kernel_rfl
@[go_sem] theorem fact_eq50 : eqT Try.prog 50 = .slice := by kernel_rfl
@[go_sem] theorem fact_len50 : lenT Try.prog 50 = .slice := by kernel_rfl
@[go_sem] theorem fact_sl50 : slT Try.prog 50 = .slice 1 := by kernel_rfl
@[go_sem] theorem fact_ty50 : tyOf Try.prog 50 = some ⟨false, 1, [.slice none 0 0]⟩ := by kernel_rfl
@[go_sem] theorem fact_ty51 : tyOf Try.prog 51 = some ⟨false, 1, [.nilFunc]⟩ := by kernel_rfl
@[go_sem] theorem fact_ty52 : tyOf Try.prog 52 = some ⟨false, 1, [.nilFunc]⟩ := by kernel_rfl
@[go_sem] theorem fact_isint53 : isIntT Try.prog 53 = true := by kernel_rfl
@[go_sem] theorem fact_ty53 : tyOf Try.prog 53 = some ⟨false, 1, [.int .u64 0]⟩ := by kernel_rfl
@[go_sem] theorem fact_ty54 : tyOf Try.prog 54 = some ⟨false, 1, [.nilFunc]⟩ := by kernel_rfl
@[go_sem] theorem fact_ty55 : tyOf Try.prog 55 = some ⟨false, 1, [.nilFunc]⟩ := by kernel_rfl
@[go_sem] theorem fact_isint56 : isIntT Try.prog 56 = true := by kernel_rfl
@[go_sem] theorem fact_ty56 : tyOf Try.prog 56 = some ⟨false, 1, [.int .i64 0]⟩ := by kernel_rfl
@[go_sem] theorem fact_ty58 : tyOf Try.prog 58 = some ⟨false, 1, [.nilFunc]⟩ := by kernel_rfl
@[go_sem] theorem fact_ty59 : tyOf Try.prog 59 = some ⟨false, 1, [.nilFunc]⟩ := by kernel_rfl
@[go_sem] theorem fact_ty60 : tyOf Try.prog 60 = some ⟨false, 1, [.nilFunc]⟩ := by kernel_rfl
@[go_sem] theorem fact_ty61 : tyOf Try.prog 61 = some ⟨false, 1, [.nilFunc]⟩ := by kernel_rfl
@[go_sem] theorem fact_ty63 : tyOf Try.prog 63 = some ⟨false, 1, [.nilFunc]⟩ := by kernel_rfl
@[go_sem] theorem fact_ty64 : tyOf Try.prog 64 = some ⟨false, 1, [.nilFunc]⟩ := by kernel_rfl
@[go_sem] theorem fact_isint65 : isIntT Try.prog 65 = true := by kernel_rfl
@[go_sem] theorem fact_ty65 : tyOf Try.prog 65 = some ⟨false, 1, [.int .u32 0]⟩ := by kernel_rfl
@[go_sem] theorem fact_ty66 : tyOf Try.prog 66 = some ⟨false, 1, [.nilFunc]⟩ := by kernel_rfl
@[go_sem] theorem fact_isint67 : isIntT Try.prog 67 = true := by kernel_rfl
@[go_sem] theorem fact_ty67 : tyOf Try.prog 67 = some ⟨false, 1, [.int .u64 0]⟩ := by kernel_rfl
@[go_sem] theorem fact_isint68 : isIntT Try.prog 68 = true := by kernel_rfl
@[go_sem] theorem fact_ty68 : tyOf Try.prog 68 = some ⟨false, 1, [.int .u64 0]⟩ := by kernel_rfl
@[go_sem] theorem fact_ty69 : tyOf Try.prog 69 = some ⟨false, 1, [.nilFunc]⟩ := by kernel_rfl
@[go_sem] theorem fact_ty70 : tyOf Try.prog 70 = some ⟨false, 1, [.nilFunc]⟩ := by kernel_rfl
@[go_sem] theorem fact_ty71 : tyOf Try.prog 71 = some ⟨false, 1, [.nilFunc]⟩ := by kernel_rfl
@[go_sem] theorem fact_eq72 : eqT Try.prog 72 = .ptr := by kernel_rfl
@[go_sem] theorem fact_ty72 : tyOf Try.prog 72 = some ⟨false, 1, [.pointer none]⟩ := by kernel_rfl
@[go_sem] theorem fact_ty73 : tyOf Try.prog 73 = some ⟨false, 1, [.nilFunc]⟩ := by kernel_rfl
@[go_sem] theorem fact_ty74 : tyOf Try.prog 74 = some ⟨false, 1, [.nilFunc]⟩ := by kernel_rfl
@[go_sem] theorem fact_eq75 : eqT Try.prog 75 = .ptr := by kernel_rfl
@[go_sem] theorem fact_ty75 : tyOf Try.prog 75 = some ⟨false, 1, [.pointer none]⟩ := by kernel_rfl
@[go_sem] theorem fact_ty77 : tyOf Try.prog 77 = some ⟨false, 1, [.nilFunc]⟩ := by kernel_rfl
@[go_sem] theorem fact_ty78 : tyOf Try.prog 78 = some ⟨false, 1, [.nilFunc]⟩ := by kernel_rfl
@[go_sem] theorem fact_ty79 : tyOf Try.prog 79 = some ⟨true, 4, [.pointer none, .pointer none, .pointer none, .string ⟨#[]⟩]⟩ := by kernel_rfl
@[go_sem] theorem fact_fld79_0 : fldOf Try.prog 79 0 = some ⟨0, 1, false⟩ := by kernel_rfl
@[go_sem] theorem fact_fld79_1 : fldOf Try.prog 79 1 = some ⟨1, 1, false⟩ := by kernel_rfl
@[go_sem] theorem fact_fld79_2 : fldOf Try.prog 79 2 = some ⟨2, 1, false⟩ := by kernel_rfl
@[go_sem] theorem fact_fld79_3 : fldOf Try.prog 79 3 = some ⟨3, 1, false⟩ := by kernel_rfl
@[go_sem] theorem fact_bld79 : bldOf Try.prog 79 = some ⟨4, [.pointer none, .pointer none, .pointer none, .string ⟨#[]⟩], [(0, 1), (1, 1), (2, 1), (3, 1)]⟩ := by kernel_rfl
@[go_sem] theorem fact_ty80 : tyOf Try.prog 80 = some ⟨true, 4, [.pointer none, .pointer none, .pointer none, .string ⟨#[]⟩]⟩ := by kernel_rfl
@[go_sem] theorem fact_fld80_0 : fldOf Try.prog 80 0 = some ⟨0, 1, false⟩ := by kernel_rfl
@[go_sem] theorem fact_fld80_1 : fldOf Try.prog 80 1 = some ⟨1, 1, false⟩ := by kernel_rfl
@[go_sem] theorem fact_fld80_2 : fldOf Try.prog 80 2 = some ⟨2, 1, false⟩ := by kernel_rfl
@[go_sem] theorem fact_fld80_3 : fldOf Try.prog 80 3 = some ⟨3, 1, false⟩ := by kernel_rfl
@[go_sem] theorem fact_bld80 : bldOf Try.prog 80 = some ⟨4, [.pointer none, .pointer none, .pointer none, .string ⟨#[]⟩], [(0, 1), (1, 1), (2, 1), (3, 1)]⟩ := by kernel_rfl
@[go_sem] theorem fact_ix81 : ixOf Try.prog 81 = some (.arr 0 1) := by kernel_rfl
@[go_sem] theorem fact_ty81 : tyOf Try.prog 81 = some ⟨true, 0, []⟩ := by kernel_rfl
@[go_sem] theorem fact_ty82 : tyOf Try.prog 82 = some ⟨true, 0, []⟩ := by kernel_rfl
@[go_sem] theorem fact_ty83 : tyOf Try.prog 83 = some ⟨true, 0, []⟩ := by kernel_rfl
@[go_sem] theorem fact_ty84 : tyOf Try.prog 84 = some ⟨false, 1, [.nilFunc]⟩ := by kernel_rfl
@[go_sem] theorem fact_isint85 : isIntT Try.prog 85 = true := by kernel_rfl
@[go_sem] theorem fact_ty85 : tyOf Try.prog 85 = some ⟨false, 1, [.int .u8 0]⟩ := by kernel_rfl
@[go_sem] theorem fact_isint86 : isIntT Try.prog 86 = true := by kernel_rfl
@[go_sem] theorem fact_ty86 : tyOf Try.prog 86 = some ⟨false, 1, [.int .u8 0]⟩ := by kernel_rfl
@[go_sem] theorem fact_ty87 : tyOf Try.prog 87 = some ⟨false, 1, [.nilFunc]⟩ := by kernel_rfl
@[go_sem] theorem fact_eq88 : eqT Try.prog 88 = .ptr := by kernel_rfl
@[go_sem] theorem fact_ty88 : tyOf Try.prog 88 = some ⟨false, 1, [.pointer none]⟩ := by kernel_rfl
@[go_sem] theorem fact_isint89 : isIntT Try.prog 89 = true := by kernel_rfl
@[go_sem] theorem fact_ty89 : tyOf Try.prog 89 = some ⟨false, 1, [.int .i32 0]⟩ := by kernel_rfl
@[go_sem] theorem fact_isint90 : isIntT Try.prog 90 = true := by kernel_rfl
@[go_sem] theorem fact_ty90 : tyOf Try.prog 90 = some ⟨false, 1, [.int .i32 0]⟩ := by kernel_rfl
@[go_sem] theorem fact_ty91 : tyOf Try.prog 91 = some ⟨true, 11, [.int .u64 0, .int .u64 0, .int .u32 0, .int .u8 0, .int .u8 0, .int .u8 0, .int .u8 0, .nilFunc, .pointer none, .int .i32 0, .int .i32 0]⟩ := by kernel_rfl
@[go_sem] theorem fact_fld91_0 : fldOf Try.prog 91 0 = some ⟨0, 1, false⟩ := by kernel_rfl
@[go_sem] theorem fact_fld91_1 : fldOf Try.prog 91 1 = some ⟨1, 1, false⟩ := by kernel_rfl
@[go_sem] theorem fact_fld91_2 : fldOf Try.prog 91 2 = some ⟨2, 1, false⟩ := by kernel_rfl
@[go_sem] theorem fact_fld91_3 : fldOf Try.prog 91 3 = some ⟨3, 1, false⟩ := by kernel_rfl
@[go_sem] theorem fact_fld91_4 : fldOf Try.prog 91 4 = some ⟨4, 1, false⟩ := by kernel_rfl
@[go_sem] theorem fact_fld91_5 : fldOf Try.prog 91 5 = some ⟨5, 1, false⟩ := by kernel_rfl
@[go_sem] theorem fact_fld91_6 : fldOf Try.prog 91 6 = some ⟨6, 1, false⟩ := by kernel_rfl
@[go_sem] theorem fact_fld91_7 : fldOf Try.prog 91 7 = some ⟨7, 1, false⟩ := by kernel_rfl
@[go_sem] theorem fact_fld91_8 : fldOf Try.prog 91 8 = some ⟨8, 1, false⟩ := by kernel_rfl
@[go_sem] theorem fact_fld91_9 : fldOf Try.prog 91 9 = some ⟨9, 1, false⟩ := by kernel_rfl
@[go_sem] theorem fact_fld91_10 : fldOf Try.prog 91 10 = some ⟨10, 1, false⟩ := by kernel_rfl
@[go_sem] theorem fact_bld91 : bldOf Try.prog 91 = some ⟨11, [.int .u64 0, .int .u64 0, .int .u32 0, .int .u8 0, .int .u8 0, .int .u8 0, .int .u8 0, .nilFunc, .pointer none, .int .i32 0, .int .i32 0], [(0, 1), (1, 1), (2, 1), (3, 1), (4, 1), (5, 1), (6, 1), (7, 1), (8, 1), (9, 1), (10, 1)]⟩ := by kernel_rfl
@[go_sem] theorem fact_ty92 : tyOf Try.prog 92 = some ⟨true, 11, [.int .u64 0, .int .u64 0, .int .u32 0, .int .u8 0, .int .u8 0, .int .u8 0, .int .u8 0, .nilFunc, .pointer none, .int .i32 0, .int .i32 0]⟩ := by kernel_rfl
@[go_sem] theorem fact_fld92_0 : fldOf Try.prog 92 0 = some ⟨0, 1, false⟩ := by kernel_rfl
@[go_sem] theorem fact_fld92_1 : fldOf Try.prog 92 1 = some ⟨1, 1, false⟩ := by kernel_rfl
@[go_sem] theorem fact_fld92_2 : fldOf Try.prog 92 2 = some ⟨2, 1, false⟩ := by kernel_rfl
@[go_sem] theorem fact_fld92_3 : fldOf Try.prog 92 3 = some ⟨3, 1, false⟩ := by kernel_rfl
@[go_sem] theorem fact_fld92_4 : fldOf Try.prog 92 4 = some ⟨4, 1, false⟩ := by kernel_rfl
@[go_sem] theorem fact_fld92_5 : fldOf Try.prog 92 5 = some ⟨5, 1, false⟩ := by kernel_rfl
@[go_sem] theorem fact_fld92_6 : fldOf Try.prog 92 6 = some ⟨6, 1, false⟩ := by kernel_rfl
@[go_sem] theorem fact_fld92_7 : fldOf Try.prog 92 7 = some ⟨7, 1, false⟩ := by kernel_rfl
@[go_sem] theorem fact_fld92_8 : fldOf Try.prog 92 8 = some ⟨8, 1, false⟩ := by kernel_rfl
@[go_sem] theorem fact_fld92_9 : fldOf Try.prog 92 9 = some ⟨9, 1, false⟩ := by kernel_rfl
@[go_sem] theorem fact_fld92_10 : fldOf Try.prog 92 10 = some ⟨10, 1, false⟩ := by kernel_rfl
@[go_sem] theorem fact_bld92 : bldOf Try.prog 92 = some ⟨11, [.int .u64 0, .int .u64 0, .int .u32 0, .int .u8 0, .int .u8 0, .int .u8 0, .int .u8 0, .nilFunc, .pointer none, .int .i32 0, .int .i32 0], [(0, 1), (1, 1), (2, 1), (3, 1), (4, 1), (5, 1), (6, 1), (7, 1), (8, 1), (9, 1), (10, 1)]⟩ := by kernel_rfl
@[go_sem] theorem fact_ty93 : tyOf Try.prog 93 = some ⟨false, 1, [.pointer none]⟩ := by kernel_rfl
@[go_sem] theorem fact_cv2_2 : cvT Try.prog 2 2 = .int .i64 := by kernel_rfl
@[go_sem] theorem fact_cv2_3 : cvT Try.prog 2 3 = .int .i64 := by kernel_rfl
@[go_sem] theorem fact_cv2_5 : cvT Try.prog 2 5 = .int .u8 := by kernel_rfl
@[go_sem] theorem fact_cv2_12 : cvT Try.prog 2 12 = .int .u64 := by kernel_rfl
@[go_sem] theorem fact_cv2_21 : cvT Try.prog 2 21 = .int .i32 := by kernel_rfl
@[go_sem] theorem fact_cv2_53 : cvT Try.prog 2 53 = .int .u64 := by kernel_rfl
@[go_sem] theorem fact_cv2_65 : cvT Try.prog 2 65 = .int .u32 := by kernel_rfl
@[go_sem] theorem fact_cv2_67 : cvT Try.prog 2 67 = .int .u64 := by kernel_rfl
@[go_sem] theorem fact_cv3_2 : cvT Try.prog 3 2 = .int .i64 := by kernel_rfl
@[go_sem] theorem fact_cv3_3 : cvT Try.prog 3 3 = .int .i64 := by kernel_rfl
@[go_sem] theorem fact_cv3_5 : cvT Try.prog 3 5 = .int .u8 := by kernel_rfl
@[go_sem] theorem fact_cv3_12 : cvT Try.prog 3 12 = .int .u64 := by kernel_rfl
@[go_sem] theorem fact_cv3_21 : cvT Try.prog 3 21 = .int .i32 := by kernel_rfl
@[go_sem] theorem fact_cv3_53 : cvT Try.prog 3 53 = .int .u64 := by kernel_rfl
@[go_sem] theorem fact_cv3_65 : cvT Try.prog 3 65 = .int .u32 := by kernel_rfl
@[go_sem] theorem fact_cv3_67 : cvT Try.prog 3 67 = .int .u64 := by kernel_rfl
@[go_sem] theorem fact_cv5_2 : cvT Try.prog 5 2 = .int .i64 := by kernel_rfl
@[go_sem] theorem fact_cv5_3 : cvT Try.prog 5 3 = .int .i64 := by kernel_rfl
@[go_sem] theorem fact_cv5_5 : cvT Try.prog 5 5 = .int .u8 := by kernel_rfl
@[go_sem] theorem fact_cv5_12 : cvT Try.prog 5 12 = .int .u64 := by kernel_rfl
@[go_sem] theorem fact_cv5_21 : cvT Try.prog 5 21 = .int .i32 := by kernel_rfl
@[go_sem] theorem fact_cv5_53 : cvT Try.prog 5 53 = .int .u64 := by kernel_rfl
@[go_sem] theorem fact_cv5_65 : cvT Try.prog 5 65 = .int .u32 := by kernel_rfl
@[go_sem] theorem fact_cv5_67 : cvT Try.prog 5 67 = .int .u64 := by kernel_rfl
@[go_sem] theorem fact_cv12_2 : cvT Try.prog 12 2 = .int .i64 := by kernel_rfl
@[go_sem] theorem fact_cv12_3 : cvT Try.prog 12 3 = .int .i64 := by kernel_rfl
@[go_sem] theorem fact_cv12_5 : cvT Try.prog 12 5 = .int .u8 := by kernel_rfl
@[go_sem] theorem fact_cv12_12 : cvT Try.prog 12 12 = .int .u64 := by kernel_rfl
@[go_sem] theorem fact_cv12_21 : cvT Try.prog 12 21 = .int .i32 := by kernel_rfl
@[go_sem] theorem fact_cv12_53 : cvT Try.prog 12 53 = .int .u64 := by kernel_rfl
@[go_sem] theorem fact_cv12_65 : cvT Try.prog 12 65 = .int .u32 := by kernel_rfl
@[go_sem] theorem fact_cv12_67 : cvT Try.prog 12 67 = .int .u64 := by kernel_rfl
@[go_sem] theorem fact_cv21_2 : cvT Try.prog 21 2 = .int .i64 := by kernel_rfl
@[go_sem] theorem fact_cv21_3 : cvT Try.prog 21 3 = .int .i64 := by kernel_rfl
@[go_sem] theorem fact_cv21_5 : cvT Try.prog 21 5 = .int .u8 := by kernel_rfl
@[go_sem] theorem fact_cv21_12 : cvT Try.prog 21 12 = .int .u64 := by kernel_rfl
@[go_sem] theorem fact_cv21_21 : cvT Try.prog 21 21 = .int .i32 := by kernel_rfl
@[go_sem] theorem fact_cv21_53 : cvT Try.prog 21 53 = .int .u64 := by kernel_rfl
@[go_sem] theorem fact_cv21_65 : cvT Try.prog 21 65 = .int .u32 := by kernel_rfl
@[go_sem] theorem fact_cv21_67 : cvT Try.prog 21 67 = .int .u64 := by kernel_rfl
@[go_sem] theorem fact_cv53_2 : cvT Try.prog 53 2 = .int .i64 := by kernel_rfl
@[go_sem] theorem fact_cv53_3 : cvT Try.prog 53 3 = .int .i64 := by kernel_rfl
@[go_sem] theorem fact_cv53_5 : cvT Try.prog 53 5 = .int .u8 := by kernel_rfl
@[go_sem] theorem fact_cv53_12 : cvT Try.prog 53 12 = .int .u64 := by kernel_rfl
@[go_sem] theorem fact_cv53_21 : cvT Try.prog 53 21 = .int .i32 := by kernel_rfl
@[go_sem] theorem fact_cv53_53 : cvT Try.prog 53 53 = .int .u64 := by kernel_rfl
@[go_sem] theorem fact_cv53_65 : cvT Try.prog 53 65 = .int .u32 := by kernel_rfl
@[go_sem] theorem fact_cv53_67 : cvT Try.prog 53 67 = .int .u64 := by kernel_rfl
@[go_sem] theorem fact_cv65_2 : cvT Try.prog 65 2 = .int .i64 := by kernel_rfl
@[go_sem] theorem fact_cv65_3 : cvT Try.prog 65 3 = .int .i64 := by kernel_rfl
@[go_sem] theorem fact_cv65_5 : cvT Try.prog 65 5 = .int .u8 := by kernel_rfl
@[go_sem] theorem fact_cv65_12 : cvT Try.prog 65 12 = .int .u64 := by kernel_rfl
@[go_sem] theorem fact_cv65_21 : cvT Try.prog 65 21 = .int .i32 := by kernel_rfl
@[go_sem] theorem fact_cv65_53 : cvT Try.prog 65 53 = .int .u64 := by kernel_rfl
@[go_sem] theorem fact_cv65_65 : cvT Try.prog 65 65 = .int .u32 := by kernel_rfl
@[go_sem] theorem fact_cv65_67 : cvT Try.prog 65 67 = .int .u64 := by kernel_rfl
@[go_sem] theorem fact_cv67_2 : cvT Try.prog 67 2 = .int .i64 := by kernel_rfl
@[go_sem] theorem fact_cv67_3 : cvT Try.prog 67 3 = .int .i64 := by kernel_rfl
@[go_sem] theorem fact_cv67_5 : cvT Try.prog 67 5 = .int .u8 := by kernel_rfl
@[go_sem] theorem fact_cv67_12 : cvT Try.prog 67 12 = .int .u64 := by kernel_rfl
@[go_sem] theorem fact_cv67_21 : cvT Try.prog 67 21 = .int .i32 := by kernel_rfl
@[go_sem] theorem fact_cv67_53 : cvT Try.prog 67 53 = .int .u64 := by kernel_rfl
@[go_sem] theorem fact_cv67_65 : cvT Try.prog 67 65 = .int .u32 := by kernel_rfl
@[go_sem] theorem fact_cv67_67 : cvT Try.prog 67 67 = .int .u64 := by kernel_rfl
@[go_sem] theorem fact_cv9_9 : cvT Try.prog 9 9 = .same := by kernel_rfl
@[go_sem] theorem fact_cv9_10 : cvT Try.prog 9 10 = .same := by kernel_rfl
@[go_sem] theorem fact_cv9_11 : cvT Try.prog 9 11 = .same := by kernel_rfl
@[go_sem] theorem fact_cv9_22 : cvT Try.prog 9 22 = .bytes 5 := by kernel_rfl
@[go_sem] theorem fact_cv22_9 : cvT Try.prog 22 9 = .str := by kernel_rfl
@[go_sem] theorem fact_cv10_9 : cvT Try.prog 10 9 = .same := by kernel_rfl
@[go_sem] theorem fact_cv10_10 : cvT Try.prog 10 10 = .same := by kernel_rfl
@[go_sem] theorem fact_cv10_11 : cvT Try.prog 10 11 = .same := by kernel_rfl
@[go_sem] theorem fact_cv10_22 : cvT Try.prog 10 22 = .bytes 5 := by kernel_rfl
@[go_sem] theorem fact_cv22_10 : cvT Try.prog 22 10 = .str := by kernel_rfl
@[go_sem] theorem fact_cv11_9 : cvT Try.prog 11 9 = .same := by kernel_rfl
@[go_sem] theorem fact_cv11_10 : cvT Try.prog 11 10 = .same := by kernel_rfl
@[go_sem] theorem fact_cv11_11 : cvT Try.prog 11 11 = .same := by kernel_rfl
@[go_sem] theorem fact_cv11_22 : cvT Try.prog 11 22 = .bytes 5 := by kernel_rfl
@[go_sem] theorem fact_cv22_11 : cvT Try.prog 22 11 = .str := by kernel_rfl

end Go.Proofs.Ytpffmolibjimgaa
end
