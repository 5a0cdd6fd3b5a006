import Derived.Test.YtdllbnchcjgcdaaRows
import Derived.Test.YtdllbnchcjgcdaaI2
import Derived.KernelRfl
/- The facts on types that the walk over abstract values wants, in this seat's numbers. Written by facts.py. -/
section
namespace Go.Proofs.Ytdllbnchcjgcdaa
open Go.Av

@[go_sem] theorem fact_ty1 : tyOf Try.prog 1 = some ⟨false, 1, [.nilFunc]⟩ := by kernel_rfl
@[go_sem] theorem fact_isint2 : isIntT Try.prog 2 = true := by kernel_rfl
@[go_sem] theorem fact_ty2 : tyOf Try.prog 2 = some ⟨false, 1, [.int .i64 0]⟩ := by kernel_rfl
@[go_sem] theorem fact_isint3 : isIntT Try.prog 3 = true := by kernel_rfl
@[go_sem] theorem fact_ty3 : tyOf Try.prog 3 = some ⟨false, 1, [.int .i64 0]⟩ := by kernel_rfl
@[go_sem] theorem fact_eq4 : eqT Try.prog 4 = .bool := by kernel_rfl
@[go_sem] theorem fact_ty4 : tyOf Try.prog 4 = some ⟨false, 1, [.bool false]⟩ := by kernel_rfl
@[go_sem] theorem fact_isint5 : isIntT Try.prog 5 = true := by kernel_rfl
@[go_sem] theorem fact_ty5 : tyOf Try.prog 5 = some ⟨false, 1, [.int .u8 0]⟩ := by kernel_rfl
@[go_sem] theorem fact_isint6 : isIntT Try.prog 6 = true := by kernel_rfl
@[go_sem] theorem fact_ty6 : tyOf Try.prog 6 = some ⟨false, 1, [.int .u8 0]⟩ := by kernel_rfl
@[go_sem] theorem fact_ty7 : tyOf Try.prog 7 = some ⟨true, 4, [.int .i64 0, .int .i64 0, .bool false, .int .u8 0]⟩ := by kernel_rfl
@[go_sem] theorem fact_fld7_0 : fldOf Try.prog 7 0 = some ⟨0, 1, false⟩ := by kernel_rfl
@[go_sem] theorem fact_fld7_1 : fldOf Try.prog 7 1 = some ⟨1, 1, false⟩ := by kernel_rfl
@[go_sem] theorem fact_fld7_2 : fldOf Try.prog 7 2 = some ⟨2, 1, false⟩ := by kernel_rfl
@[go_sem] theorem fact_fld7_3 : fldOf Try.prog 7 3 = some ⟨3, 1, false⟩ := by kernel_rfl
@[go_sem] theorem fact_bld7 : bldOf Try.prog 7 = some ⟨4, [.int .i64 0, .int .i64 0, .bool false, .int .u8 0], [(0, 1), (1, 1), (2, 1), (3, 1)]⟩ := by kernel_rfl
@[go_sem] theorem fact_ty8 : tyOf Try.prog 8 = some ⟨true, 4, [.int .i64 0, .int .i64 0, .bool false, .int .u8 0]⟩ := by kernel_rfl
@[go_sem] theorem fact_fld8_0 : fldOf Try.prog 8 0 = some ⟨0, 1, false⟩ := by kernel_rfl
@[go_sem] theorem fact_fld8_1 : fldOf Try.prog 8 1 = some ⟨1, 1, false⟩ := by kernel_rfl
@[go_sem] theorem fact_fld8_2 : fldOf Try.prog 8 2 = some ⟨2, 1, false⟩ := by kernel_rfl
@[go_sem] theorem fact_fld8_3 : fldOf Try.prog 8 3 = some ⟨3, 1, false⟩ := by kernel_rfl
@[go_sem] theorem fact_bld8 : bldOf Try.prog 8 = some ⟨4, [.int .i64 0, .int .i64 0, .bool false, .int .u8 0], [(0, 1), (1, 1), (2, 1), (3, 1)]⟩ := by kernel_rfl
@[go_sem] theorem fact_len9 : lenT Try.prog 9 = .str := by kernel_rfl
@[go_sem] theorem fact_st9 : isStr Try.prog 9 = true := by kernel_rfl
@[go_sem] theorem fact_sl9 : slT Try.prog 9 = .str := by kernel_rfl
@[go_sem] theorem fact_ty9 : tyOf Try.prog 9 = some ⟨false, 1, [.string ⟨#[]⟩]⟩ := by kernel_rfl
@[go_sem] theorem fact_len10 : lenT Try.prog 10 = .str := by kernel_rfl
@[go_sem] theorem fact_st10 : isStr Try.prog 10 = true := by kernel_rfl
@[go_sem] theorem fact_sl10 : slT Try.prog 10 = .str := by kernel_rfl
@[go_sem] theorem fact_ty10 : tyOf Try.prog 10 = some ⟨false, 1, [.string ⟨#[]⟩]⟩ := by kernel_rfl
@[go_sem] theorem fact_len11 : lenT Try.prog 11 = .str := by kernel_rfl
@[go_sem] theorem fact_st11 : isStr Try.prog 11 = true := by kernel_rfl
@[go_sem] theorem fact_sl11 : slT Try.prog 11 = .str := by kernel_rfl
@[go_sem] theorem fact_ty11 : tyOf Try.prog 11 = some ⟨false, 1, [.string ⟨#[]⟩]⟩ := by kernel_rfl
@[go_sem] theorem fact_isint12 : isIntT Try.prog 12 = true := by kernel_rfl
@[go_sem] theorem fact_ty12 : tyOf Try.prog 12 = some ⟨false, 1, [.int .u64 0]⟩ := by kernel_rfl
@[go_sem] theorem fact_ty13 : tyOf Try.prog 13 = some ⟨true, 2, [.string ⟨#[]⟩, .int .u64 0]⟩ := by kernel_rfl
@[go_sem] theorem fact_fld13_0 : fldOf Try.prog 13 0 = some ⟨0, 1, false⟩ := by kernel_rfl
@[go_sem] theorem fact_fld13_1 : fldOf Try.prog 13 1 = some ⟨1, 1, false⟩ := by kernel_rfl
@[go_sem] theorem fact_bld13 : bldOf Try.prog 13 = some ⟨2, [.string ⟨#[]⟩, .int .u64 0], [(0, 1), (1, 1)]⟩ := by kernel_rfl
@[go_sem] theorem fact_ty14 : tyOf Try.prog 14 = some ⟨true, 2, [.string ⟨#[]⟩, .int .u64 0]⟩ := by kernel_rfl
@[go_sem] theorem fact_fld14_0 : fldOf Try.prog 14 0 = some ⟨0, 1, false⟩ := by kernel_rfl
@[go_sem] theorem fact_fld14_1 : fldOf Try.prog 14 1 = some ⟨1, 1, false⟩ := by kernel_rfl
@[go_sem] theorem fact_bld14 : bldOf Try.prog 14 = some ⟨2, [.string ⟨#[]⟩, .int .u64 0], [(0, 1), (1, 1)]⟩ := by kernel_rfl
@[go_sem] theorem fact_eq15 : eqT Try.prog 15 = .ptr := by kernel_rfl
@[go_sem] theorem fact_ty15 : tyOf Try.prog 15 = some ⟨false, 1, [.pointer none]⟩ := by kernel_rfl
@[go_sem] theorem fact_eq16 : eqT Try.prog 16 = .ptr := by kernel_rfl
@[go_sem] theorem fact_ty16 : tyOf Try.prog 16 = some ⟨false, 1, [.pointer none]⟩ := by kernel_rfl
@[go_sem] theorem fact_eq17 : eqT Try.prog 17 = .ptr := by kernel_rfl
@[go_sem] theorem fact_ty17 : tyOf Try.prog 17 = some ⟨false, 1, [.pointer none]⟩ := by kernel_rfl
@[go_sem] theorem fact_ty18 : tyOf Try.prog 18 = some ⟨true, 1, [.pointer none]⟩ := by kernel_rfl
@[go_sem] theorem fact_fld18_0 : fldOf Try.prog 18 0 = some ⟨0, 1, false⟩ := by kernel_rfl
@[go_sem] theorem fact_bld18 : bldOf Try.prog 18 = some ⟨1, [.pointer none], [(0, 1)]⟩ := by kernel_rfl
@[go_sem] theorem fact_ty19 : tyOf Try.prog 19 = some ⟨true, 1, [.pointer none]⟩ := by kernel_rfl
@[go_sem] theorem fact_fld19_0 : fldOf Try.prog 19 0 = some ⟨0, 1, false⟩ := by kernel_rfl
@[go_sem] theorem fact_bld19 : bldOf Try.prog 19 = some ⟨1, [.pointer none], [(0, 1)]⟩ := by kernel_rfl
@[go_sem] theorem fact_isint21 : isIntT Try.prog 21 = true := by kernel_rfl
@[go_sem] theorem fact_ty21 : tyOf Try.prog 21 = some ⟨false, 1, [.int .i32 0]⟩ := by kernel_rfl
@[go_sem] theorem fact_sel22 : selOf Try.prog 22 = some ⟨25, 1, 24, [.slice none 0 0]⟩ := by kernel_rfl
@[go_sem] theorem fact_eq22 : eqT Try.prog 22 = .slice := by kernel_rfl
@[go_sem] theorem fact_len22 : lenT Try.prog 22 = .slice := by kernel_rfl
@[go_sem] theorem fact_sl22 : slT Try.prog 22 = .slice 1 := by kernel_rfl
@[go_sem] theorem fact_ty22 : tyOf Try.prog 22 = some ⟨false, 1, [.slice none 0 0]⟩ := by kernel_rfl
@[go_sem] theorem fact_ty23 : tyOf Try.prog 23 = some ⟨true, 3, [.int .i64 0, .string ⟨#[]⟩, .slice none 0 0]⟩ := by kernel_rfl
@[go_sem] theorem fact_fld23_0 : fldOf Try.prog 23 0 = some ⟨0, 1, false⟩ := by kernel_rfl
@[go_sem] theorem fact_fld23_1 : fldOf Try.prog 23 1 = some ⟨1, 1, false⟩ := by kernel_rfl
@[go_sem] theorem fact_fld23_2 : fldOf Try.prog 23 2 = some ⟨2, 1, false⟩ := by kernel_rfl
@[go_sem] theorem fact_bld23 : bldOf Try.prog 23 = some ⟨3, [.int .i64 0, .string ⟨#[]⟩, .slice none 0 0], [(0, 1), (1, 1), (2, 1)]⟩ := by kernel_rfl
@[go_sem] theorem fact_ty24 : tyOf Try.prog 24 = some ⟨true, 3, [.int .i64 0, .string ⟨#[]⟩, .slice none 0 0]⟩ := by kernel_rfl
@[go_sem] theorem fact_fld24_0 : fldOf Try.prog 24 0 = some ⟨0, 1, false⟩ := by kernel_rfl
@[go_sem] theorem fact_fld24_1 : fldOf Try.prog 24 1 = some ⟨1, 1, false⟩ := by kernel_rfl
@[go_sem] theorem fact_fld24_2 : fldOf Try.prog 24 2 = some ⟨2, 1, false⟩ := by kernel_rfl
@[go_sem] theorem fact_bld24 : bldOf Try.prog 24 = some ⟨3, [.int .i64 0, .string ⟨#[]⟩, .slice none 0 0], [(0, 1), (1, 1), (2, 1)]⟩ := by kernel_rfl
@[go_sem] theorem fact_sel25 : selOf Try.prog 25 = some ⟨2, 1, 8, [.int .i64 0]⟩ := by kernel_rfl
@[go_sem] theorem fact_eq25 : eqT Try.prog 25 = .slice := by kernel_rfl
@[go_sem] theorem fact_len25 : lenT Try.prog 25 = .slice := by kernel_rfl
@[go_sem] theorem fact_sl25 : slT Try.prog 25 = .slice 1 := by kernel_rfl
@[go_sem] theorem fact_ty25 : tyOf Try.prog 25 = some ⟨false, 1, [.slice none 0 0]⟩ := by kernel_rfl
@[go_sem] theorem fact_ty26 : tyOf Try.prog 26 = some ⟨false, 1, [.nilFunc]⟩ := by kernel_rfl
@[go_sem] theorem fact_ty28 : tyOf Try.prog 28 = some ⟨false, 1, [.nilFunc]⟩ := by kernel_rfl
@[go_sem] theorem fact_ty29 : tyOf Try.prog 29 = some ⟨true, 3, [.int .i64 0, .string ⟨#[]⟩, .slice none 0 0]⟩ := by kernel_rfl
@[go_sem] theorem fact_fld29_0 : fldOf Try.prog 29 0 = some ⟨0, 1, false⟩ := by kernel_rfl
@[go_sem] theorem fact_fld29_1 : fldOf Try.prog 29 1 = some ⟨1, 1, false⟩ := by kernel_rfl
@[go_sem] theorem fact_fld29_2 : fldOf Try.prog 29 2 = some ⟨2, 1, false⟩ := by kernel_rfl
@[go_sem] theorem fact_bld29 : bldOf Try.prog 29 = some ⟨3, [.int .i64 0, .string ⟨#[]⟩, .slice none 0 0], [(0, 1), (1, 1), (2, 1)]⟩ := by kernel_rfl
@[go_sem] theorem fact_ty30 : tyOf Try.prog 30 = some ⟨false, 1, [.nilFunc]⟩ := by kernel_rfl
@[go_sem] theorem fact_ty31 : tyOf Try.prog 31 = some ⟨false, 1, [.nilFunc]⟩ := by kernel_rfl
@[go_sem] theorem fact_ty32 : tyOf Try.prog 32 = some ⟨false, 1, [.nilFunc]⟩ := by kernel_rfl
@[go_sem] theorem fact_ty33 : tyOf Try.prog 33 = some ⟨false, 1, [.nilFunc]⟩ := by kernel_rfl
@[go_sem] theorem fact_ty34 : tyOf Try.prog 34 = some ⟨false, 1, [.nilFunc]⟩ := by kernel_rfl
@[go_sem] theorem fact_ty35 : tyOf Try.prog 35 = some ⟨false, 1, [.nilFunc]⟩ := by kernel_rfl
@[go_sem] theorem fact_ty36 : tyOf Try.prog 36 = some ⟨false, 1, [.nilFunc]⟩ := by kernel_rfl
@[go_sem] theorem fact_ty37 : tyOf Try.prog 37 = some ⟨false, 1, [.nilFunc]⟩ := by kernel_rfl
@[go_sem] theorem fact_ty38 : tyOf Try.prog 38 = some ⟨false, 1, [.nilFunc]⟩ := by kernel_rfl
@[go_sem] theorem fact_ty39 : tyOf Try.prog 39 = some ⟨false, 1, [.nilFunc]⟩ := by kernel_rfl
@[go_sem] theorem fact_ty40 : tyOf Try.prog 40 = some ⟨false, 1, [.nilFunc]⟩ := by kernel_rfl
@[go_sem] theorem fact_ty41 : tyOf Try.prog 41 = some ⟨false, 1, [.nilFunc]⟩ := by kernel_rfl
@[go_sem] theorem fact_ty43 : tyOf Try.prog 43 = some ⟨false, 1, [.nilFunc]⟩ := by kernel_rfl
@[go_sem] theorem fact_ty44 : tyOf Try.prog 44 = some ⟨false, 1, [.nilFunc]⟩ := by kernel_rfl
@[go_sem] theorem fact_ty45 : tyOf Try.prog 45 = some ⟨false, 1, [.nilFunc]⟩ := by kernel_rfl
@[go_sem] theorem fact_ty46 : tyOf Try.prog 46 = some ⟨false, 1, [.nilFunc]⟩ := by kernel_rfl
@[go_sem] theorem fact_ty47 : tyOf Try.prog 47 = some ⟨false, 1, [.nilFunc]⟩ := by kernel_rfl
@[go_sem] theorem fact_ty48 : tyOf Try.prog 48 = some ⟨false, 1, [.nilFunc]⟩ := by kernel_rfl
@[go_sem] theorem fact_ty49 : tyOf Try.prog 49 = some ⟨false, 1, [.nilFunc]⟩ := by kernel_rfl
@[go_sem] theorem fact_ty50 : tyOf Try.prog 50 = some ⟨false, 1, [.nilFunc]⟩ := by kernel_rfl
@[go_sem] theorem fact_ty51 : tyOf Try.prog 51 = some ⟨false, 1, [.nilFunc]⟩ := by kernel_rfl
@[go_sem] theorem fact_ty52 : tyOf Try.prog 52 = some ⟨false, 1, [.nilFunc]⟩ := by kernel_rfl
@[go_sem] theorem fact_ty53 : tyOf Try.prog 53 = some ⟨false, 1, [.nilFunc]⟩ := by kernel_rfl
@[go_sem] theorem fact_ty54 : tyOf Try.prog 54 = some ⟨false, 1, [.nilFunc]⟩ := by kernel_rfl
@[go_sem] theorem fact_ty55 : tyOf Try.prog 55 = some ⟨false, 1, [.nilFunc]⟩ := by kernel_rfl
@[go_sem] theorem fact_ty56 : tyOf Try.prog 56 = some ⟨false, 1, [.nilFunc]⟩ := by kernel_rfl
@[go_sem] theorem fact_ty57 : tyOf Try.prog 57 = some ⟨false, 1, [.nilFunc]⟩ := by kernel_rfl
@[go_sem] theorem fact_ty58 : tyOf Try.prog 58 = some ⟨false, 1, [.nilFunc]⟩ := by kernel_rfl
@[go_sem] theorem fact_ty59 : tyOf Try.prog 59 = some ⟨false, 1, [.nilFunc]⟩ := by kernel_rfl
@[go_sem] theorem fact_ty60 : tyOf Try.prog 60 = some ⟨false, 1, [.nilFunc]⟩ := by kernel_rfl
@[go_sem] theorem fact_ty61 : tyOf Try.prog 61 = some ⟨false, 1, [.nilFunc]⟩ := by kernel_rfl
@[go_sem] theorem fact_ty62 : tyOf Try.prog 62 = some ⟨false, 1, [.nilFunc]⟩ := by kernel_rfl
@[go_sem] theorem fact_ty63 : tyOf Try.prog 63 = some ⟨false, 1, [.nilFunc]⟩ := by kernel_rfl
@[go_sem] theorem fact_ty64 : tyOf Try.prog 64 = some ⟨false, 1, [.nilFunc]⟩ := by kernel_rfl
@[go_sem] theorem fact_ty65 : tyOf Try.prog 65 = some ⟨false, 1, [.nilFunc]⟩ := by kernel_rfl
@[go_sem] theorem fact_eq66 : eqT Try.prog 66 = .ptr := by kernel_rfl
@[go_sem] theorem fact_ty66 : tyOf Try.prog 66 = some ⟨false, 1, [.pointer none]⟩ := by kernel_rfl
@[go_sem] theorem fact_ty67 : tyOf Try.prog 67 = some ⟨false, 1, [.nilFunc]⟩ := by kernel_rfl
@[go_sem] theorem fact_ty68 : tyOf Try.prog 68 = some ⟨false, 1, [.nilFunc]⟩ := by kernel_rfl
@[go_sem] theorem fact_ty69 : tyOf Try.prog 69 = some ⟨false, 1, [.nilFunc]⟩ := by kernel_rfl
@[go_sem] theorem fact_sel70 : selOf Try.prog 70 = some ⟨3, 1, 8, [.int .i64 0]⟩ := by kernel_rfl
@[go_sem] theorem fact_eq70 : eqT Try.prog 70 = .slice := by kernel_rfl
@[go_sem] theorem fact_len70 : lenT Try.prog 70 = .slice := by kernel_rfl
@[go_sem] theorem fact_sl70 : slT Try.prog 70 = .slice 1 := by kernel_rfl
@[go_sem] theorem fact_ty70 : tyOf Try.prog 70 = some ⟨false, 1, [.slice none 0 0]⟩ := by kernel_rfl
@[go_sem] theorem fact_ty71 : tyOf Try.prog 71 = some ⟨true, 4, [.slice none 0 0, .slice none 0 0, .slice none 0 0, .bool false]⟩ := by kernel_rfl
@[go_sem] theorem fact_fld71_0 : fldOf Try.prog 71 0 = some ⟨0, 1, false⟩ := by kernel_rfl
@[go_sem] theorem fact_fld71_1 : fldOf Try.prog 71 1 = some ⟨1, 1, false⟩ := by kernel_rfl
@[go_sem] theorem fact_fld71_2 : fldOf Try.prog 71 2 = some ⟨2, 1, false⟩ := by kernel_rfl
@[go_sem] theorem fact_fld71_3 : fldOf Try.prog 71 3 = some ⟨3, 1, false⟩ := by kernel_rfl
@[go_sem] theorem fact_bld71 : bldOf Try.prog 71 = some ⟨4, [.slice none 0 0, .slice none 0 0, .slice none 0 0, .bool false], [(0, 1), (1, 1), (2, 1), (3, 1)]⟩ := by kernel_rfl
@[go_sem] theorem fact_ty72 : tyOf Try.prog 72 = some ⟨true, 4, [.slice none 0 0, .slice none 0 0, .slice none 0 0, .bool false]⟩ := by kernel_rfl
@[go_sem] theorem fact_fld72_0 : fldOf Try.prog 72 0 = some ⟨0, 1, false⟩ := by kernel_rfl
@[go_sem] theorem fact_fld72_1 : fldOf Try.prog 72 1 = some ⟨1, 1, false⟩ := by kernel_rfl
@[go_sem] theorem fact_fld72_2 : fldOf Try.prog 72 2 = some ⟨2, 1, false⟩ := by kernel_rfl
@[go_sem] theorem fact_fld72_3 : fldOf Try.prog 72 3 = some ⟨3, 1, false⟩ := by kernel_rfl
@[go_sem] theorem fact_bld72 : bldOf Try.prog 72 = some ⟨4, [.slice none 0 0, .slice none 0 0, .slice none 0 0, .bool false], [(0, 1), (1, 1), (2, 1), (3, 1)]⟩ := by kernel_rfl
@[go_sem] theorem fact_ty74 : tyOf Try.prog 74 = some ⟨false, 1, [.nilFunc]⟩ := by kernel_rfl
@[go_sem] theorem fact_ty75 : tyOf Try.prog 75 = some ⟨false, 1, [.nilFunc]⟩ := by kernel_rfl
@[go_sem] theorem fact_ty76 : tyOf Try.prog 76 = some ⟨false, 1, [.nilFunc]⟩ := by kernel_rfl
@[go_sem] theorem fact_ty77 : tyOf Try.prog 77 = some ⟨false, 1, [.nilFunc]⟩ := by kernel_rfl
@[go_sem] theorem fact_eq78 : eqT Try.prog 78 = .ptr := by kernel_rfl
@[go_sem] theorem fact_ty78 : tyOf Try.prog 78 = some ⟨false, 1, [.pointer none]⟩ := by kernel_rfl
@[go_sem] theorem fact_ty80 : tyOf Try.prog 80 = some ⟨false, 1, [.nilFunc]⟩ := by kernel_rfl
@[go_sem] theorem fact_ty81 : tyOf Try.prog 81 = some ⟨false, 1, [.nilFunc]⟩ := by kernel_rfl
@[go_sem] theorem fact_ty82 : tyOf Try.prog 82 = some ⟨false, 1, [.nilFunc]⟩ := by kernel_rfl
@[go_sem] theorem fact_ty83 : tyOf Try.prog 83 = some ⟨false, 1, [.nilFunc]⟩ := by kernel_rfl
@[go_sem] theorem fact_ty85 : tyOf Try.prog 85 = some ⟨false, 1, [.nilFunc]⟩ := by kernel_rfl
@[go_sem] theorem fact_ty87 : tyOf Try.prog 87 = some ⟨false, 1, [.nilFunc]⟩ := by kernel_rfl
@[go_sem] theorem fact_ty89 : tyOf Try.prog 89 = some ⟨false, 1, [.nilFunc]⟩ := by kernel_rfl
@[go_sem] theorem fact_map90 : mapOf Try.prog 90 = some (.int .i64 0) := by kernel_rfl
@[go_sem] theorem fact_ty90 : tyOf Try.prog 90 = some ⟨false, 1, [.map none]⟩ := by kernel_rfl
@[go_sem] theorem fact_ty91 : tyOf Try.prog 91 = some ⟨true, 9, [.int .i64 0, .string ⟨#[]⟩, .slice none 0 0, .slice none 0 0, .slice none 0 0, .map none, .slice none 0 0, .slice none 0 0, .slice none 0 0]⟩ := by kernel_rfl
@[go_sem] theorem fact_fld91_0 : fldOf Try.prog 91 0 = some ⟨0, 3, true⟩ := by kernel_rfl
@[go_sem] theorem fact_fld91_1 : fldOf Try.prog 91 1 = some ⟨3, 1, false⟩ := by kernel_rfl
@[go_sem] theorem fact_fld91_2 : fldOf Try.prog 91 2 = some ⟨4, 1, false⟩ := by kernel_rfl
@[go_sem] theorem fact_fld91_3 : fldOf Try.prog 91 3 = some ⟨5, 1, false⟩ := by kernel_rfl
@[go_sem] theorem fact_fld91_4 : fldOf Try.prog 91 4 = some ⟨6, 1, false⟩ := by kernel_rfl
@[go_sem] theorem fact_fld91_5 : fldOf Try.prog 91 5 = some ⟨7, 1, false⟩ := by kernel_rfl
@[go_sem] theorem fact_fld91_6 : fldOf Try.prog 91 6 = some ⟨8, 1, false⟩ := by kernel_rfl
@[go_sem] theorem fact_bld91 : bldOf Try.prog 91 = some ⟨9, [.int .i64 0, .string ⟨#[]⟩, .slice none 0 0, .slice none 0 0, .slice none 0 0, .map none, .slice none 0 0, .slice none 0 0, .slice none 0 0], [(0, 3), (3, 1), (4, 1), (5, 1), (6, 1), (7, 1), (8, 1)]⟩ := by kernel_rfl
@[go_sem] theorem fact_ty92 : tyOf Try.prog 92 = some ⟨true, 9, [.int .i64 0, .string ⟨#[]⟩, .slice none 0 0, .slice none 0 0, .slice none 0 0, .map none, .slice none 0 0, .slice none 0 0, .slice none 0 0]⟩ := by kernel_rfl
@[go_sem] theorem fact_fld92_0 : fldOf Try.prog 92 0 = some ⟨0, 3, true⟩ := by kernel_rfl
@[go_sem] theorem fact_fld92_1 : fldOf Try.prog 92 1 = some ⟨3, 1, false⟩ := by kernel_rfl
@[go_sem] theorem fact_fld92_2 : fldOf Try.prog 92 2 = some ⟨4, 1, false⟩ := by kernel_rfl
@[go_sem] theorem fact_fld92_3 : fldOf Try.prog 92 3 = some ⟨5, 1, false⟩ := by kernel_rfl
@[go_sem] theorem fact_fld92_4 : fldOf Try.prog 92 4 = some ⟨6, 1, false⟩ := by kernel_rfl
@[go_sem] theorem fact_fld92_5 : fldOf Try.prog 92 5 = some ⟨7, 1, false⟩ := by kernel_rfl
@[go_sem] theorem fact_fld92_6 : fldOf Try.prog 92 6 = some ⟨8, 1, false⟩ := by kernel_rfl
@[go_sem] theorem fact_bld92 : bldOf Try.prog 92 = some ⟨9, [.int .i64 0, .string ⟨#[]⟩, .slice none 0 0, .slice none 0 0, .slice none 0 0, .map none, .slice none 0 0, .slice none 0 0, .slice none 0 0], [(0, 3), (3, 1), (4, 1), (5, 1), (6, 1), (7, 1), (8, 1)]⟩ := by kernel_rfl
@[go_sem] theorem fact_ty93 : tyOf Try.prog 93 = some ⟨false, 1, [.nilFunc]⟩ := by kernel_rfl
@[go_sem] theorem fact_ty94 : tyOf Try.prog 94 = some ⟨false, 1, [.nilFunc]⟩ := by kernel_rfl
@[go_sem] theorem fact_ty95 : tyOf Try.prog 95 = some ⟨false, 1, [.nilFunc]⟩ := by kernel_rfl
@[go_sem] theorem fact_ty96 : tyOf Try.prog 96 = some ⟨false, 1, [.nilFunc]⟩ := by kernel_rfl
@[go_sem] theorem fact_ty97 : tyOf Try.prog 97 = some ⟨false, 1, [.nilFunc]⟩ := by kernel_rfl
@[go_sem] theorem fact_ty99 : tyOf Try.prog 99 = some ⟨false, 1, [.nilFunc]⟩ := by kernel_rfl
@[go_sem] theorem fact_ty100 : tyOf Try.prog 100 = some ⟨false, 1, [.nilFunc]⟩ := by kernel_rfl
@[go_sem] theorem fact_ty101 : tyOf Try.prog 101 = some ⟨false, 1, [.nilFunc]⟩ := by kernel_rfl
@[go_sem] theorem fact_ty102 : tyOf Try.prog 102 = some ⟨false, 1, [.nilFunc]⟩ := by kernel_rfl
@[go_sem] theorem fact_ty103 : tyOf Try.prog 103 = some ⟨false, 1, [.nilFunc]⟩ := by kernel_rfl
@[go_sem] theorem fact_ty104 : tyOf Try.prog 104 = some ⟨false, 1, [.nilFunc]⟩ := by kernel_rfl
@[go_sem] theorem fact_ty105 : tyOf Try.prog 105 = some ⟨false, 1, [.nilFunc]⟩ := by kernel_rfl
@[go_sem] theorem fact_ty106 : tyOf Try.prog 106 = some ⟨false, 1, [.nilFunc]⟩ := by kernel_rfl
@[go_sem] theorem fact_ty107 : tyOf Try.prog 107 = some ⟨false, 1, [.nilFunc]⟩ := by kernel_rfl
@[go_sem] theorem fact_ty108 : tyOf Try.prog 108 = some ⟨false, 1, [.nilFunc]⟩ := by kernel_rfl
@[go_sem] theorem fact_ty109 : tyOf Try.prog 109 = some ⟨false, 1, [.nilFunc]⟩ := by kernel_rfl
@[go_sem] theorem fact_eq110 : eqT Try.prog 110 = .ptr := by kernel_rfl
@[go_sem] theorem fact_ty110 : tyOf Try.prog 110 = some ⟨false, 1, [.pointer none]⟩ := by kernel_rfl
@[go_sem] theorem fact_ty111 : tyOf Try.prog 111 = some ⟨false, 1, [.nilFunc]⟩ := by kernel_rfl
@[go_sem] theorem fact_ty112 : tyOf Try.prog 112 = some ⟨false, 1, [.nilFunc]⟩ := by kernel_rfl
@[go_sem] theorem fact_sel113 : selOf Try.prog 113 = some ⟨22, 1, 24, [.slice none 0 0]⟩ := by kernel_rfl
@[go_sem] theorem fact_eq113 : eqT Try.prog 113 = .slice := by kernel_rfl
@[go_sem] theorem fact_len113 : lenT Try.prog 113 = .slice := by kernel_rfl
@[go_sem] theorem fact_sl113 : slT Try.prog 113 = .slice 1 := by kernel_rfl
@[go_sem] theorem fact_ty113 : tyOf Try.prog 113 = some ⟨false, 1, [.slice none 0 0]⟩ := by kernel_rfl
@[go_sem] theorem fact_ty114 : tyOf Try.prog 114 = some ⟨true, 3, [.int .i64 0, .slice none 0 0, .slice none 0 0]⟩ := by kernel_rfl
@[go_sem] theorem fact_fld114_0 : fldOf Try.prog 114 0 = some ⟨0, 1, false⟩ := by kernel_rfl
@[go_sem] theorem fact_fld114_1 : fldOf Try.prog 114 1 = some ⟨1, 1, false⟩ := by kernel_rfl
@[go_sem] theorem fact_fld114_2 : fldOf Try.prog 114 2 = some ⟨2, 1, false⟩ := by kernel_rfl
@[go_sem] theorem fact_bld114 : bldOf Try.prog 114 = some ⟨3, [.int .i64 0, .slice none 0 0, .slice none 0 0], [(0, 1), (1, 1), (2, 1)]⟩ := by kernel_rfl
@[go_sem] theorem fact_ty115 : tyOf Try.prog 115 = some ⟨true, 3, [.int .i64 0, .slice none 0 0, .slice none 0 0]⟩ := by kernel_rfl
@[go_sem] theorem fact_fld115_0 : fldOf Try.prog 115 0 = some ⟨0, 1, false⟩ := by kernel_rfl
@[go_sem] theorem fact_fld115_1 : fldOf Try.prog 115 1 = some ⟨1, 1, false⟩ := by kernel_rfl
@[go_sem] theorem fact_fld115_2 : fldOf Try.prog 115 2 = some ⟨2, 1, false⟩ := by kernel_rfl
@[go_sem] theorem fact_bld115 : bldOf Try.prog 115 = some ⟨3, [.int .i64 0, .slice none 0 0, .slice none 0 0], [(0, 1), (1, 1), (2, 1)]⟩ := by kernel_rfl
@[go_sem] theorem fact_ty116 : tyOf Try.prog 116 = some ⟨false, 1, [.nilFunc]⟩ := by kernel_rfl
@[go_sem] theorem fact_ty117 : tyOf Try.prog 117 = some ⟨false, 1, [.nilFunc]⟩ := by kernel_rfl
@[go_sem] theorem fact_ty118 : tyOf Try.prog 118 = some ⟨false, 1, [.nilFunc]⟩ := by kernel_rfl
@[go_sem] theorem fact_ty119 : tyOf Try.prog 119 = some ⟨false, 1, [.nilFunc]⟩ := by kernel_rfl
@[go_sem] theorem fact_ty120 : tyOf Try.prog 120 = some ⟨false, 1, [.nilFunc]⟩ := by kernel_rfl
@[go_sem] theorem fact_map121 : mapOf Try.prog 121 = some (.bool false) := by kernel_rfl
@[go_sem] theorem fact_ty121 : tyOf Try.prog 121 = some ⟨false, 1, [.map none]⟩ := by kernel_rfl
@[go_sem] theorem fact_ty122 : tyOf Try.prog 122 = some ⟨false, 1, [.nilFunc]⟩ := by kernel_rfl
@[go_sem] theorem fact_ty123 : tyOf Try.prog 123 = some ⟨false, 1, [.nilFunc]⟩ := by kernel_rfl
@[go_sem] theorem fact_ty124 : tyOf Try.prog 124 = some ⟨false, 1, [.nilFunc]⟩ := by kernel_rfl
@[go_sem] theorem fact_ty125 : tyOf Try.prog 125 = some ⟨false, 1, [.nilFunc]⟩ := by kernel_rfl
@[go_sem] theorem fact_ty126 : tyOf Try.prog 126 = some ⟨false, 1, [.nilFunc]⟩ := by kernel_rfl
@[go_sem] theorem fact_ty127 : tyOf Try.prog 127 = some ⟨false, 1, [.nilFunc]⟩ := by kernel_rfl
@[go_sem] theorem fact_ty128 : tyOf Try.prog 128 = some ⟨false, 1, [.nilFunc]⟩ := by kernel_rfl
@[go_sem] theorem fact_ty129 : tyOf Try.prog 129 = some ⟨false, 1, [.nilFunc]⟩ := by kernel_rfl
@[go_sem] theorem fact_ty130 : tyOf Try.prog 130 = some ⟨false, 1, [.nilFunc]⟩ := by kernel_rfl
@[go_sem] theorem fact_ty131 : tyOf Try.prog 131 = some ⟨false, 1, [.nilFunc]⟩ := by kernel_rfl
@[go_sem] theorem fact_ty132 : tyOf Try.prog 132 = some ⟨false, 1, [.nilFunc]⟩ := by kernel_rfl
@[go_sem] theorem fact_ty133 : tyOf Try.prog 133 = some ⟨false, 1, [.nilFunc]⟩ := by kernel_rfl
@[go_sem] theorem fact_ty134 : tyOf Try.prog 134 = some ⟨false, 1, [.nilFunc]⟩ := by kernel_rfl
@[go_sem] theorem fact_ty136 : tyOf Try.prog 136 = some ⟨false, 1, [.nilFunc]⟩ := by kernel_rfl
@[go_sem] theorem fact_ty137 : tyOf Try.prog 137 = some ⟨true, 3, [.int .i64 0, .slice none 0 0, .slice none 0 0]⟩ := by kernel_rfl
@[go_sem] theorem fact_fld137_0 : fldOf Try.prog 137 0 = some ⟨0, 1, false⟩ := by kernel_rfl
@[go_sem] theorem fact_fld137_1 : fldOf Try.prog 137 1 = some ⟨1, 1, false⟩ := by kernel_rfl
@[go_sem] theorem fact_fld137_2 : fldOf Try.prog 137 2 = some ⟨2, 1, false⟩ := by kernel_rfl
@[go_sem] theorem fact_bld137 : bldOf Try.prog 137 = some ⟨3, [.int .i64 0, .slice none 0 0, .slice none 0 0], [(0, 1), (1, 1), (2, 1)]⟩ := by kernel_rfl
@[go_sem] theorem fact_ty138 : tyOf Try.prog 138 = some ⟨true, 3, [.int .i64 0, .slice none 0 0, .slice none 0 0]⟩ := by kernel_rfl
@[go_sem] theorem fact_fld138_0 : fldOf Try.prog 138 0 = some ⟨0, 1, false⟩ := by kernel_rfl
@[go_sem] theorem fact_fld138_1 : fldOf Try.prog 138 1 = some ⟨1, 1, false⟩ := by kernel_rfl
@[go_sem] theorem fact_fld138_2 : fldOf Try.prog 138 2 = some ⟨2, 1, false⟩ := by kernel_rfl
@[go_sem] theorem fact_bld138 : bldOf Try.prog 138 = some ⟨3, [.int .i64 0, .slice none 0 0, .slice none 0 0], [(0, 1), (1, 1), (2, 1)]⟩ := by kernel_rfl
@[go_sem] theorem fact_ty139 : tyOf Try.prog 139 = some ⟨false, 1, [.nilFunc]⟩ := by kernel_rfl
@[go_sem] theorem fact_sel140 : selOf Try.prog 140 = some ⟨5, 1, 1, [.int .u8 0]⟩ := by kernel_rfl
@[go_sem] theorem fact_eq140 : eqT Try.prog 140 = .slice := by kernel_rfl
@[go_sem] theorem fact_len140 : lenT Try.prog 140 = .slice := by kernel_rfl
@[go_sem] theorem fact_sl140 : slT Try.prog 140 = .slice 1 := by kernel_rfl
@[go_sem] theorem fact_ty140 : tyOf Try.prog 140 = some ⟨false, 1, [.slice none 0 0]⟩ := by kernel_rfl
@[go_sem] theorem fact_ty141 : tyOf Try.prog 141 = some ⟨false, 1, [.nilFunc]⟩ := by kernel_rfl
@[go_sem] theorem fact_ty142 : tyOf Try.prog 142 = some ⟨false, 1, [.nilFunc]⟩ := by kernel_rfl
@[go_sem] theorem fact_ty143 : tyOf Try.prog 143 = some ⟨false, 1, [.nilFunc]⟩ := by kernel_rfl
@[go_sem] theorem fact_ty144 : tyOf Try.prog 144 = some ⟨true, 4, [.pointer none, .pointer none, .pointer none, .string ⟨#[]⟩]⟩ := by kernel_rfl
@[go_sem] theorem fact_fld144_0 : fldOf Try.prog 144 0 = some ⟨0, 1, false⟩ := by kernel_rfl
@[go_sem] theorem fact_fld144_1 : fldOf Try.prog 144 1 = some ⟨1, 1, false⟩ := by kernel_rfl
@[go_sem] theorem fact_fld144_2 : fldOf Try.prog 144 2 = some ⟨2, 1, false⟩ := by kernel_rfl
@[go_sem] theorem fact_fld144_3 : fldOf Try.prog 144 3 = some ⟨3, 1, false⟩ := by kernel_rfl
@[go_sem] theorem fact_bld144 : bldOf Try.prog 144 = some ⟨4, [.pointer none, .pointer none, .pointer none, .string ⟨#[]⟩], [(0, 1), (1, 1), (2, 1), (3, 1)]⟩ := by kernel_rfl
@[go_sem] theorem fact_ty145 : tyOf Try.prog 145 = some ⟨true, 4, [.pointer none, .pointer none, .pointer none, .string ⟨#[]⟩]⟩ := by kernel_rfl
@[go_sem] theorem fact_fld145_0 : fldOf Try.prog 145 0 = some ⟨0, 1, false⟩ := by kernel_rfl
@[go_sem] theorem fact_fld145_1 : fldOf Try.prog 145 1 = some ⟨1, 1, false⟩ := by kernel_rfl
@[go_sem] theorem fact_fld145_2 : fldOf Try.prog 145 2 = some ⟨2, 1, false⟩ := by kernel_rfl
@[go_sem] theorem fact_fld145_3 : fldOf Try.prog 145 3 = some ⟨3, 1, false⟩ := by kernel_rfl
@[go_sem] theorem fact_bld145 : bldOf Try.prog 145 = some ⟨4, [.pointer none, .pointer none, .pointer none, .string ⟨#[]⟩], [(0, 1), (1, 1), (2, 1), (3, 1)]⟩ := by kernel_rfl
@[go_sem] theorem fact_ty146 : tyOf Try.prog 146 = some ⟨true, 0, []⟩ := by kernel_rfl
@[go_sem] theorem fact_ty147 : tyOf Try.prog 147 = some ⟨true, 0, []⟩ := by kernel_rfl
@[go_sem] theorem fact_ty148 : tyOf Try.prog 148 = some ⟨true, 0, []⟩ := by kernel_rfl
@[go_sem] theorem fact_ty149 : tyOf Try.prog 149 = some ⟨false, 1, [.nilFunc]⟩ := by kernel_rfl
@[go_sem] theorem fact_isint150 : isIntT Try.prog 150 = true := by kernel_rfl
@[go_sem] theorem fact_ty150 : tyOf Try.prog 150 = some ⟨false, 1, [.int .u32 0]⟩ := by kernel_rfl
@[go_sem] theorem fact_isint151 : isIntT Try.prog 151 = true := by kernel_rfl
@[go_sem] theorem fact_ty151 : tyOf Try.prog 151 = some ⟨false, 1, [.int .u8 0]⟩ := by kernel_rfl
@[go_sem] theorem fact_isint152 : isIntT Try.prog 152 = true := by kernel_rfl
@[go_sem] theorem fact_ty152 : tyOf Try.prog 152 = some ⟨false, 1, [.int .u8 0]⟩ := by kernel_rfl
@[go_sem] theorem fact_ty153 : tyOf Try.prog 153 = some ⟨false, 1, [.nilFunc]⟩ := by kernel_rfl
@[go_sem] theorem fact_eq154 : eqT Try.prog 154 = .ptr := by kernel_rfl
@[go_sem] theorem fact_ty154 : tyOf Try.prog 154 = some ⟨false, 1, [.pointer none]⟩ := by kernel_rfl
@[go_sem] theorem fact_isint155 : isIntT Try.prog 155 = true := by kernel_rfl
@[go_sem] theorem fact_ty155 : tyOf Try.prog 155 = some ⟨false, 1, [.int .i32 0]⟩ := by kernel_rfl
@[go_sem] theorem fact_isint156 : isIntT Try.prog 156 = true := by kernel_rfl
@[go_sem] theorem fact_ty156 : tyOf Try.prog 156 = some ⟨false, 1, [.int .i32 0]⟩ := by kernel_rfl
@[go_sem] theorem fact_ty157 : tyOf Try.prog 157 = some ⟨true, 11, [.int .u64 0, .int .u64 0, .int .u32 0, .int .u8 0, .int .u8 0, .int .u8 0, .int .u8 0, .nilFunc, .pointer none, .int .i32 0, .int .i32 0]⟩ := by kernel_rfl
@[go_sem] theorem fact_fld157_0 : fldOf Try.prog 157 0 = some ⟨0, 1, false⟩ := by kernel_rfl
@[go_sem] theorem fact_fld157_1 : fldOf Try.prog 157 1 = some ⟨1, 1, false⟩ := by kernel_rfl
@[go_sem] theorem fact_fld157_2 : fldOf Try.prog 157 2 = some ⟨2, 1, false⟩ := by kernel_rfl
@[go_sem] theorem fact_fld157_3 : fldOf Try.prog 157 3 = some ⟨3, 1, false⟩ := by kernel_rfl
@[go_sem] theorem fact_fld157_4 : fldOf Try.prog 157 4 = some ⟨4, 1, false⟩ := by kernel_rfl
@[go_sem] theorem fact_fld157_5 : fldOf Try.prog 157 5 = some ⟨5, 1, false⟩ := by kernel_rfl
@[go_sem] theorem fact_fld157_6 : fldOf Try.prog 157 6 = some ⟨6, 1, false⟩ := by kernel_rfl
@[go_sem] theorem fact_fld157_7 : fldOf Try.prog 157 7 = some ⟨7, 1, false⟩ := by kernel_rfl
@[go_sem] theorem fact_fld157_8 : fldOf Try.prog 157 8 = some ⟨8, 1, false⟩ := by kernel_rfl
@[go_sem] theorem fact_fld157_9 : fldOf Try.prog 157 9 = some ⟨9, 1, false⟩ := by kernel_rfl
@[go_sem] theorem fact_fld157_10 : fldOf Try.prog 157 10 = some ⟨10, 1, false⟩ := by kernel_rfl
@[go_sem] theorem fact_bld157 : bldOf Try.prog 157 = some ⟨11, [.int .u64 0, .int .u64 0, .int .u32 0, .int .u8 0, .int .u8 0, .int .u8 0, .int .u8 0, .nilFunc, .pointer none, .int .i32 0, .int .i32 0], [(0, 1), (1, 1), (2, 1), (3, 1), (4, 1), (5, 1), (6, 1), (7, 1), (8, 1), (9, 1), (10, 1)]⟩ := by kernel_rfl
@[go_sem] theorem fact_ty158 : tyOf Try.prog 158 = some ⟨true, 11, [.int .u64 0, .int .u64 0, .int .u32 0, .int .u8 0, .int .u8 0, .int .u8 0, .int .u8 0, .nilFunc, .pointer none, .int .i32 0, .int .i32 0]⟩ := by kernel_rfl
@[go_sem] theorem fact_fld158_0 : fldOf Try.prog 158 0 = some ⟨0, 1, false⟩ := by kernel_rfl
@[go_sem] theorem fact_fld158_1 : fldOf Try.prog 158 1 = some ⟨1, 1, false⟩ := by kernel_rfl
@[go_sem] theorem fact_fld158_2 : fldOf Try.prog 158 2 = some ⟨2, 1, false⟩ := by kernel_rfl
@[go_sem] theorem fact_fld158_3 : fldOf Try.prog 158 3 = some ⟨3, 1, false⟩ := by kernel_rfl
@[go_sem] theorem fact_fld158_4 : fldOf Try.prog 158 4 = some ⟨4, 1, false⟩ := by kernel_rfl
@[go_sem] theorem fact_fld158_5 : fldOf Try.prog 158 5 = some ⟨5, 1, false⟩ := by kernel_rfl
@[go_sem] theorem fact_fld158_6 : fldOf Try.prog 158 6 = some ⟨6, 1, false⟩ := by kernel_rfl
@[go_sem] theorem fact_fld158_7 : fldOf Try.prog 158 7 = some ⟨7, 1, false⟩ := by kernel_rfl
@[go_sem] theorem fact_fld158_8 : fldOf Try.prog 158 8 = some ⟨8, 1, false⟩ := by kernel_rfl
@[go_sem] theorem fact_fld158_9 : fldOf Try.prog 158 9 = some ⟨9, 1, false⟩ := by kernel_rfl
@[go_sem] theorem fact_fld158_10 : fldOf Try.prog 158 10 = some ⟨10, 1, false⟩ := by kernel_rfl
@[go_sem] theorem fact_bld158 : bldOf Try.prog 158 = some ⟨11, [.int .u64 0, .int .u64 0, .int .u32 0, .int .u8 0, .int .u8 0, .int .u8 0, .int .u8 0, .nilFunc, .pointer none, .int .i32 0, .int .i32 0], [(0, 1), (1, 1), (2, 1), (3, 1), (4, 1), (5, 1), (6, 1), (7, 1), (8, 1), (9, 1), (10, 1)]⟩ := by kernel_rfl
@[go_sem] theorem fact_ty159 : tyOf Try.prog 159 = some ⟨false, 1, [.pointer none]⟩ := by kernel_rfl
@[go_sem] theorem fact_cv2_2 : cvT Try.prog 2 2 = .int .i64 := by kernel_rfl
@[go_sem] theorem fact_cv2_3 : cvT Try.prog 2 3 = .int .i64 := by kernel_rfl
@[go_sem] theorem fact_cv2_5 : cvT Try.prog 2 5 = .int .u8 := by kernel_rfl
@[go_sem] theorem fact_cv2_12 : cvT Try.prog 2 12 = .int .u64 := by kernel_rfl
@[go_sem] theorem fact_cv2_21 : cvT Try.prog 2 21 = .int .i32 := by kernel_rfl
@[go_sem] theorem fact_cv2_150 : cvT Try.prog 2 150 = .int .u32 := by kernel_rfl
@[go_sem] theorem fact_cv3_2 : cvT Try.prog 3 2 = .int .i64 := by kernel_rfl
@[go_sem] theorem fact_cv3_3 : cvT Try.prog 3 3 = .int .i64 := by kernel_rfl
@[go_sem] theorem fact_cv3_5 : cvT Try.prog 3 5 = .int .u8 := by kernel_rfl
@[go_sem] theorem fact_cv3_12 : cvT Try.prog 3 12 = .int .u64 := by kernel_rfl
@[go_sem] theorem fact_cv3_21 : cvT Try.prog 3 21 = .int .i32 := by kernel_rfl
@[go_sem] theorem fact_cv3_150 : cvT Try.prog 3 150 = .int .u32 := by kernel_rfl
@[go_sem] theorem fact_cv5_2 : cvT Try.prog 5 2 = .int .i64 := by kernel_rfl
@[go_sem] theorem fact_cv5_3 : cvT Try.prog 5 3 = .int .i64 := by kernel_rfl
@[go_sem] theorem fact_cv5_5 : cvT Try.prog 5 5 = .int .u8 := by kernel_rfl
@[go_sem] theorem fact_cv5_12 : cvT Try.prog 5 12 = .int .u64 := by kernel_rfl
@[go_sem] theorem fact_cv5_21 : cvT Try.prog 5 21 = .int .i32 := by kernel_rfl
@[go_sem] theorem fact_cv5_150 : cvT Try.prog 5 150 = .int .u32 := by kernel_rfl
@[go_sem] theorem fact_cv12_2 : cvT Try.prog 12 2 = .int .i64 := by kernel_rfl
@[go_sem] theorem fact_cv12_3 : cvT Try.prog 12 3 = .int .i64 := by kernel_rfl
@[go_sem] theorem fact_cv12_5 : cvT Try.prog 12 5 = .int .u8 := by kernel_rfl
@[go_sem] theorem fact_cv12_12 : cvT Try.prog 12 12 = .int .u64 := by kernel_rfl
@[go_sem] theorem fact_cv12_21 : cvT Try.prog 12 21 = .int .i32 := by kernel_rfl
@[go_sem] theorem fact_cv12_150 : cvT Try.prog 12 150 = .int .u32 := by kernel_rfl
@[go_sem] theorem fact_cv21_2 : cvT Try.prog 21 2 = .int .i64 := by kernel_rfl
@[go_sem] theorem fact_cv21_3 : cvT Try.prog 21 3 = .int .i64 := by kernel_rfl
@[go_sem] theorem fact_cv21_5 : cvT Try.prog 21 5 = .int .u8 := by kernel_rfl
@[go_sem] theorem fact_cv21_12 : cvT Try.prog 21 12 = .int .u64 := by kernel_rfl
@[go_sem] theorem fact_cv21_21 : cvT Try.prog 21 21 = .int .i32 := by kernel_rfl
@[go_sem] theorem fact_cv21_150 : cvT Try.prog 21 150 = .int .u32 := by kernel_rfl
@[go_sem] theorem fact_cv150_2 : cvT Try.prog 150 2 = .int .i64 := by kernel_rfl
@[go_sem] theorem fact_cv150_3 : cvT Try.prog 150 3 = .int .i64 := by kernel_rfl
@[go_sem] theorem fact_cv150_5 : cvT Try.prog 150 5 = .int .u8 := by kernel_rfl
@[go_sem] theorem fact_cv150_12 : cvT Try.prog 150 12 = .int .u64 := by kernel_rfl
@[go_sem] theorem fact_cv150_21 : cvT Try.prog 150 21 = .int .i32 := by kernel_rfl
@[go_sem] theorem fact_cv150_150 : cvT Try.prog 150 150 = .int .u32 := by kernel_rfl
@[go_sem] theorem fact_cv9_9 : cvT Try.prog 9 9 = .same := by kernel_rfl
@[go_sem] theorem fact_cv9_10 : cvT Try.prog 9 10 = .same := by kernel_rfl
@[go_sem] theorem fact_cv9_11 : cvT Try.prog 9 11 = .same := by kernel_rfl
@[go_sem] theorem fact_cv9_140 : cvT Try.prog 9 140 = .bytes 5 := by kernel_rfl
@[go_sem] theorem fact_cv140_9 : cvT Try.prog 140 9 = .str := by kernel_rfl
@[go_sem] theorem fact_cv10_9 : cvT Try.prog 10 9 = .same := by kernel_rfl
@[go_sem] theorem fact_cv10_10 : cvT Try.prog 10 10 = .same := by kernel_rfl
@[go_sem] theorem fact_cv10_11 : cvT Try.prog 10 11 = .same := by kernel_rfl
@[go_sem] theorem fact_cv10_140 : cvT Try.prog 10 140 = .bytes 5 := by kernel_rfl
@[go_sem] theorem fact_cv140_10 : cvT Try.prog 140 10 = .str := by kernel_rfl
@[go_sem] theorem fact_cv11_9 : cvT Try.prog 11 9 = .same := by kernel_rfl
@[go_sem] theorem fact_cv11_10 : cvT Try.prog 11 10 = .same := by kernel_rfl
@[go_sem] theorem fact_cv11_11 : cvT Try.prog 11 11 = .same := by kernel_rfl
@[go_sem] theorem fact_cv11_140 : cvT Try.prog 11 140 = .bytes 5 := by kernel_rfl
@[go_sem] theorem fact_cv140_11 : cvT Try.prog 140 11 = .str := by kernel_rfl

end Go.Proofs.Ytdllbnchcjgcdaa
end
