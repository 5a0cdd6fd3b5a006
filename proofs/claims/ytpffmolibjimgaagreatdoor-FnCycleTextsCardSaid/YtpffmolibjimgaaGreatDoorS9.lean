import Derived.Test.YtpffmolibjimgaaGreatDoorRows
import Derived.Test.YtpffmolibjimgaaGreatDoorS2
import Derived.KernelRfl
/- The facts on types that the walk over abstract values wants, in this seat's numbers. Written by facts.py. -/
section
namespace Go.Proofs.YtpffmolibjimgaaGreatDoor
open Go.Av

@[go_sem] theorem fact_ty1 : tyOf Tryz.prog 1 = some ⟨false, 1, [.nilFunc]⟩ := by kernel_rfl
@[go_sem] theorem fact_isint2 : isIntT Tryz.prog 2 = true := by kernel_rfl
@[go_sem] theorem fact_ty2 : tyOf Tryz.prog 2 = some ⟨false, 1, [.int .i64 0]⟩ := by kernel_rfl
@[go_sem] theorem fact_isint3 : isIntT Tryz.prog 3 = true := by kernel_rfl
@[go_sem] theorem fact_ty3 : tyOf Tryz.prog 3 = some ⟨false, 1, [.int .i64 0]⟩ := by kernel_rfl
@[go_sem] theorem fact_eq4 : eqT Tryz.prog 4 = .bool := by kernel_rfl
@[go_sem] theorem fact_ty4 : tyOf Tryz.prog 4 = some ⟨false, 1, [.bool false]⟩ := by kernel_rfl
@[go_sem] theorem fact_isint5 : isIntT Tryz.prog 5 = true := by kernel_rfl
@[go_sem] theorem fact_ty5 : tyOf Tryz.prog 5 = some ⟨false, 1, [.int .u8 0]⟩ := by kernel_rfl
@[go_sem] theorem fact_isint6 : isIntT Tryz.prog 6 = true := by kernel_rfl
@[go_sem] theorem fact_ty6 : tyOf Tryz.prog 6 = some ⟨false, 1, [.int .u8 0]⟩ := by kernel_rfl
@[go_sem] theorem fact_ty7 : tyOf Tryz.prog 7 = some ⟨true, 4, [.int .i64 0, .int .i64 0, .bool false, .int .u8 0]⟩ := by kernel_rfl
@[go_sem] theorem fact_fld7_0 : fldOf Tryz.prog 7 0 = some ⟨0, 1, false⟩ := by kernel_rfl
@[go_sem] theorem fact_fld7_1 : fldOf Tryz.prog 7 1 = some ⟨1, 1, false⟩ := by kernel_rfl
@[go_sem] theorem fact_fld7_2 : fldOf Tryz.prog 7 2 = some ⟨2, 1, false⟩ := by kernel_rfl
@[go_sem] theorem fact_fld7_3 : fldOf Tryz.prog 7 3 = some ⟨3, 1, false⟩ := by kernel_rfl
@[go_sem] theorem fact_bld7 : bldOf Tryz.prog 7 = some ⟨4, [.int .i64 0, .int .i64 0, .bool false, .int .u8 0], [(0, 1), (1, 1), (2, 1), (3, 1)]⟩ := by kernel_rfl
@[go_sem] theorem fact_ty8 : tyOf Tryz.prog 8 = some ⟨true, 4, [.int .i64 0, .int .i64 0, .bool false, .int .u8 0]⟩ := by kernel_rfl
@[go_sem] theorem fact_fld8_0 : fldOf Tryz.prog 8 0 = some ⟨0, 1, false⟩ := by kernel_rfl
@[go_sem] theorem fact_fld8_1 : fldOf Tryz.prog 8 1 = some ⟨1, 1, false⟩ := by kernel_rfl
@[go_sem] theorem fact_fld8_2 : fldOf Tryz.prog 8 2 = some ⟨2, 1, false⟩ := by kernel_rfl
@[go_sem] theorem fact_fld8_3 : fldOf Tryz.prog 8 3 = some ⟨3, 1, false⟩ := by kernel_rfl
@[go_sem] theorem fact_bld8 : bldOf Tryz.prog 8 = some ⟨4, [.int .i64 0, .int .i64 0, .bool false, .int .u8 0], [(0, 1), (1, 1), (2, 1), (3, 1)]⟩ := by kernel_rfl
@[go_sem] theorem fact_len9 : lenT Tryz.prog 9 = .str := by kernel_rfl
@[go_sem] theorem fact_st9 : isStr Tryz.prog 9 = true := by kernel_rfl
@[go_sem] theorem fact_sl9 : slT Tryz.prog 9 = .str := by kernel_rfl
@[go_sem] theorem fact_ty9 : tyOf Tryz.prog 9 = some ⟨false, 1, [.string ⟨#[]⟩]⟩ := by kernel_rfl
@[go_sem] theorem fact_len10 : lenT Tryz.prog 10 = .str := by kernel_rfl
@[go_sem] theorem fact_st10 : isStr Tryz.prog 10 = true := by kernel_rfl
@[go_sem] theorem fact_sl10 : slT Tryz.prog 10 = .str := by kernel_rfl
@[go_sem] theorem fact_ty10 : tyOf Tryz.prog 10 = some ⟨false, 1, [.string ⟨#[]⟩]⟩ := by kernel_rfl
@[go_sem] theorem fact_len11 : lenT Tryz.prog 11 = .str := by kernel_rfl
@[go_sem] theorem fact_st11 : isStr Tryz.prog 11 = true := by kernel_rfl
@[go_sem] theorem fact_sl11 : slT Tryz.prog 11 = .str := by kernel_rfl
@[go_sem] theorem fact_ty11 : tyOf Tryz.prog 11 = some ⟨false, 1, [.string ⟨#[]⟩]⟩ := by kernel_rfl
@[go_sem] theorem fact_isint12 : isIntT Tryz.prog 12 = true := by kernel_rfl
@[go_sem] theorem fact_ty12 : tyOf Tryz.prog 12 = some ⟨false, 1, [.int .u64 0]⟩ := by kernel_rfl
@[go_sem] theorem fact_ty13 : tyOf Tryz.prog 13 = some ⟨true, 2, [.string ⟨#[]⟩, .int .u64 0]⟩ := by kernel_rfl
@[go_sem] theorem fact_fld13_0 : fldOf Tryz.prog 13 0 = some ⟨0, 1, false⟩ := by kernel_rfl
@[go_sem] theorem fact_fld13_1 : fldOf Tryz.prog 13 1 = some ⟨1, 1, false⟩ := by kernel_rfl
@[go_sem] theorem fact_bld13 : bldOf Tryz.prog 13 = some ⟨2, [.string ⟨#[]⟩, .int .u64 0], [(0, 1), (1, 1)]⟩ := by kernel_rfl
@[go_sem] theorem fact_ty14 : tyOf Tryz.prog 14 = some ⟨true, 2, [.string ⟨#[]⟩, .int .u64 0]⟩ := by kernel_rfl
@[go_sem] theorem fact_fld14_0 : fldOf Tryz.prog 14 0 = some ⟨0, 1, false⟩ := by kernel_rfl
@[go_sem] theorem fact_fld14_1 : fldOf Tryz.prog 14 1 = some ⟨1, 1, false⟩ := by kernel_rfl
@[go_sem] theorem fact_bld14 : bldOf Tryz.prog 14 = some ⟨2, [.string ⟨#[]⟩, .int .u64 0], [(0, 1), (1, 1)]⟩ := by kernel_rfl
@[go_sem] theorem fact_eq15 : eqT Tryz.prog 15 = .ptr := by kernel_rfl
@[go_sem] theorem fact_ty15 : tyOf Tryz.prog 15 = some ⟨false, 1, [.pointer none]⟩ := by kernel_rfl
@[go_sem] theorem fact_eq16 : eqT Tryz.prog 16 = .ptr := by kernel_rfl
@[go_sem] theorem fact_ty16 : tyOf Tryz.prog 16 = some ⟨false, 1, [.pointer none]⟩ := by kernel_rfl
@[go_sem] theorem fact_eq17 : eqT Tryz.prog 17 = .ptr := by kernel_rfl
@[go_sem] theorem fact_ty17 : tyOf Tryz.prog 17 = some ⟨false, 1, [.pointer none]⟩ := by kernel_rfl
@[go_sem] theorem fact_ty18 : tyOf Tryz.prog 18 = some ⟨true, 1, [.pointer none]⟩ := by kernel_rfl
@[go_sem] theorem fact_fld18_0 : fldOf Tryz.prog 18 0 = some ⟨0, 1, false⟩ := by kernel_rfl
@[go_sem] theorem fact_bld18 : bldOf Tryz.prog 18 = some ⟨1, [.pointer none], [(0, 1)]⟩ := by kernel_rfl
@[go_sem] theorem fact_ty19 : tyOf Tryz.prog 19 = some ⟨true, 1, [.pointer none]⟩ := by kernel_rfl
@[go_sem] theorem fact_fld19_0 : fldOf Tryz.prog 19 0 = some ⟨0, 1, false⟩ := by kernel_rfl
@[go_sem] theorem fact_bld19 : bldOf Tryz.prog 19 = some ⟨1, [.pointer none], [(0, 1)]⟩ := by kernel_rfl
@[go_sem] theorem fact_if20 : ifT Tryz.prog 20 = true := by kernel_rfl
@[go_sem] theorem fact_isint21 : isIntT Tryz.prog 21 = true := by kernel_rfl
@[go_sem] theorem fact_ty21 : tyOf Tryz.prog 21 = some ⟨false, 1, [.int .i32 0]⟩ := by kernel_rfl
@[go_sem] theorem fact_sel22 : selOf Tryz.prog 22 = some ⟨32, 1, 24, [.slice none 0 0]⟩ := by kernel_rfl
@[go_sem] theorem fact_ix22 : ixOf Tryz.prog 22 = some (.sl 1) := by kernel_rfl
@[go_sem] theorem fact_eq22 : eqT Tryz.prog 22 = .slice := by kernel_rfl
@[go_sem] theorem fact_len22 : lenT Tryz.prog 22 = .slice := by kernel_rfl
@[go_sem] theorem fact_sl22 : slT Tryz.prog 22 = .slice 1 := by kernel_rfl
@[go_sem] theorem fact_ty22 : tyOf Tryz.prog 22 = some ⟨false, 1, [.slice none 0 0]⟩ := by kernel_rfl
@[go_sem] theorem fact_ty23 : tyOf Tryz.prog 23 = some ⟨true, 3, [.int .i64 0, .string ⟨#[]⟩, .slice none 0 0]⟩ := by kernel_rfl
@[go_sem] theorem fact_fld23_0 : fldOf Tryz.prog 23 0 = some ⟨0, 1, false⟩ := by kernel_rfl
@[go_sem] theorem fact_fld23_1 : fldOf Tryz.prog 23 1 = some ⟨1, 1, false⟩ := by kernel_rfl
@[go_sem] theorem fact_fld23_2 : fldOf Tryz.prog 23 2 = some ⟨2, 1, false⟩ := by kernel_rfl
@[go_sem] theorem fact_bld23 : bldOf Tryz.prog 23 = some ⟨3, [.int .i64 0, .string ⟨#[]⟩, .slice none 0 0], [(0, 1), (1, 1), (2, 1)]⟩ := by kernel_rfl
@[go_sem] theorem fact_ty24 : tyOf Tryz.prog 24 = some ⟨true, 3, [.int .i64 0, .string ⟨#[]⟩, .slice none 0 0]⟩ := by kernel_rfl
@[go_sem] theorem fact_fld24_0 : fldOf Tryz.prog 24 0 = some ⟨0, 1, false⟩ := by kernel_rfl
@[go_sem] theorem fact_fld24_1 : fldOf Tryz.prog 24 1 = some ⟨1, 1, false⟩ := by kernel_rfl
@[go_sem] theorem fact_fld24_2 : fldOf Tryz.prog 24 2 = some ⟨2, 1, false⟩ := by kernel_rfl
@[go_sem] theorem fact_bld24 : bldOf Tryz.prog 24 = some ⟨3, [.int .i64 0, .string ⟨#[]⟩, .slice none 0 0], [(0, 1), (1, 1), (2, 1)]⟩ := by kernel_rfl
@[go_sem] theorem fact_ty26 : tyOf Tryz.prog 26 = some ⟨false, 1, [.nilFunc]⟩ := by kernel_rfl
@[go_sem] theorem fact_ty27 : tyOf Tryz.prog 27 = some ⟨false, 1, [.nilFunc]⟩ := by kernel_rfl
@[go_sem] theorem fact_ty28 : tyOf Tryz.prog 28 = some ⟨false, 1, [.nilFunc]⟩ := by kernel_rfl
@[go_sem] theorem fact_ty29 : tyOf Tryz.prog 29 = some ⟨false, 1, [.nilFunc]⟩ := by kernel_rfl
@[go_sem] theorem fact_sel30 : selOf Tryz.prog 30 = some ⟨5, 1, 1, [.int .u8 0]⟩ := by kernel_rfl
@[go_sem] theorem fact_ix30 : ixOf Tryz.prog 30 = some (.sl 1) := by kernel_rfl
@[go_sem] theorem fact_eq30 : eqT Tryz.prog 30 = .slice := by kernel_rfl
@[go_sem] theorem fact_len30 : lenT Tryz.prog 30 = .slice := by kernel_rfl
@[go_sem] theorem fact_sl30 : slT Tryz.prog 30 = .slice 1 := by kernel_rfl
@[go_sem] theorem fact_ty30 : tyOf Tryz.prog 30 = some ⟨false, 1, [.slice none 0 0]⟩ := by kernel_rfl
@[go_sem] theorem fact_ty31 : tyOf Tryz.prog 31 = some ⟨false, 1, [.nilFunc]⟩ := by kernel_rfl
@[go_sem] theorem fact_sel32 : selOf Tryz.prog 32 = some ⟨2, 1, 8, [.int .i64 0]⟩ := by kernel_rfl
@[go_sem] theorem fact_ix32 : ixOf Tryz.prog 32 = some (.sl 1) := by kernel_rfl
@[go_sem] theorem fact_eq32 : eqT Tryz.prog 32 = .slice := by kernel_rfl
@[go_sem] theorem fact_len32 : lenT Tryz.prog 32 = .slice := by kernel_rfl
@[go_sem] theorem fact_sl32 : slT Tryz.prog 32 = .slice 1 := by kernel_rfl
@[go_sem] theorem fact_ty32 : tyOf Tryz.prog 32 = some ⟨false, 1, [.slice none 0 0]⟩ := by kernel_rfl
@[go_sem] theorem fact_ty33 : tyOf Tryz.prog 33 = some ⟨false, 1, [.nilFunc]⟩ := by kernel_rfl
@[go_sem] theorem fact_ty34 : tyOf Tryz.prog 34 = some ⟨false, 1, [.nilFunc]⟩ := by kernel_rfl
@[go_sem] theorem fact_ty36 : tyOf Tryz.prog 36 = some ⟨false, 1, [.nilFunc]⟩ := by kernel_rfl
@[go_sem] theorem fact_ty37 : tyOf Tryz.prog 37 = some ⟨false, 1, [.nilFunc]⟩ := by kernel_rfl
@[go_sem] theorem fact_ty38 : tyOf Tryz.prog 38 = some ⟨false, 1, [.nilFunc]⟩ := by kernel_rfl
@[go_sem] theorem fact_ty40 : tyOf Tryz.prog 40 = some ⟨false, 1, [.nilFunc]⟩ := by kernel_rfl
@[go_sem] theorem fact_eq41 : eqT Tryz.prog 41 = .ptr := by kernel_rfl
@[go_sem] theorem fact_ty41 : tyOf Tryz.prog 41 = some ⟨false, 1, [.pointer none]⟩ := by kernel_rfl
@[go_sem] theorem fact_ty42 : tyOf Tryz.prog 42 = some ⟨false, 1, [.nilFunc]⟩ := by kernel_rfl
@[go_sem] theorem fact_isint43 : isIntT Tryz.prog 43 = true := by kernel_rfl
@[go_sem] theorem fact_ty43 : tyOf Tryz.prog 43 = some ⟨false, 1, [.int .u64 0]⟩ := by kernel_rfl
@[go_sem] theorem fact_ty44 : tyOf Tryz.prog 44 = some ⟨false, 1, [.nilFunc]⟩ := by kernel_rfl
@[go_sem] theorem fact_ty45 : tyOf Tryz.prog 45 = some ⟨false, 1, [.nilFunc]⟩ := by kernel_rfl
@[go_sem] theorem fact_ty46 : tyOf Tryz.prog 46 = some ⟨false, 1, [.nilFunc]⟩ := by kernel_rfl
@[go_sem] theorem fact_ty47 : tyOf Tryz.prog 47 = some ⟨false, 1, [.nilFunc]⟩ := by kernel_rfl
@[go_sem] theorem fact_ty48 : tyOf Tryz.prog 48 = some ⟨false, 1, [.nilFunc]⟩ := by kernel_rfl
@[go_sem] theorem fact_ty49 : tyOf Tryz.prog 49 = some ⟨false, 1, [.nilFunc]⟩ := by kernel_rfl
@[go_sem] theorem fact_sel50 : selOf Tryz.prog 50 = some ⟨9, 1, 16, [.string ⟨#[]⟩]⟩ := by kernel_rfl
@[go_sem] theorem fact_ix50 : ixOf Tryz.prog 50 = some (.sl 1) := by kernel_rfl
@[go_sem] theorem fact_eq50 : eqT Tryz.prog 50 = .slice := by kernel_rfl
@[go_sem] theorem fact_len50 : lenT Tryz.prog 50 = .slice := by kernel_rfl
@[go_sem] theorem fact_sl50 : slT Tryz.prog 50 = .slice 1 := by kernel_rfl
@[go_sem] theorem fact_ty50 : tyOf Tryz.prog 50 = some ⟨false, 1, [.slice none 0 0]⟩ := by kernel_rfl
@[go_sem] theorem fact_ty51 : tyOf Tryz.prog 51 = some ⟨true, 2, [.int .i64 0, .slice none 0 0]⟩ := by kernel_rfl
@[go_sem] theorem fact_fld51_0 : fldOf Tryz.prog 51 0 = some ⟨0, 1, false⟩ := by kernel_rfl
@[go_sem] theorem fact_fld51_1 : fldOf Tryz.prog 51 1 = some ⟨1, 1, false⟩ := by kernel_rfl
@[go_sem] theorem fact_bld51 : bldOf Tryz.prog 51 = some ⟨2, [.int .i64 0, .slice none 0 0], [(0, 1), (1, 1)]⟩ := by kernel_rfl
@[go_sem] theorem fact_sel52 : selOf Tryz.prog 52 = some ⟨51, 2, 32, [.int .i64 0, .slice none 0 0]⟩ := by kernel_rfl
@[go_sem] theorem fact_ix52 : ixOf Tryz.prog 52 = some (.sl 2) := by kernel_rfl
@[go_sem] theorem fact_eq52 : eqT Tryz.prog 52 = .slice := by kernel_rfl
@[go_sem] theorem fact_len52 : lenT Tryz.prog 52 = .slice := by kernel_rfl
@[go_sem] theorem fact_sl52 : slT Tryz.prog 52 = .slice 2 := by kernel_rfl
@[go_sem] theorem fact_ty52 : tyOf Tryz.prog 52 = some ⟨false, 1, [.slice none 0 0]⟩ := by kernel_rfl
@[go_sem] theorem fact_ty53 : tyOf Tryz.prog 53 = some ⟨false, 1, [.nilFunc]⟩ := by kernel_rfl
@[go_sem] theorem fact_ty54 : tyOf Tryz.prog 54 = some ⟨false, 1, [.nilFunc]⟩ := by kernel_rfl
@[go_sem] theorem fact_ty55 : tyOf Tryz.prog 55 = some ⟨false, 1, [.nilFunc]⟩ := by kernel_rfl
@[go_sem] theorem fact_ty56 : tyOf Tryz.prog 56 = some ⟨false, 1, [.nilFunc]⟩ := by kernel_rfl
@[go_sem] theorem fact_eq57 : eqT Tryz.prog 57 = .ptr := by kernel_rfl
@[go_sem] theorem fact_ty57 : tyOf Tryz.prog 57 = some ⟨false, 1, [.pointer none]⟩ := by kernel_rfl
@[go_sem] theorem fact_ty58 : tyOf Tryz.prog 58 = some ⟨false, 1, [.nilFunc]⟩ := by kernel_rfl
@[go_sem] theorem fact_ty59 : tyOf Tryz.prog 59 = some ⟨false, 1, [.nilFunc]⟩ := by kernel_rfl
@[go_sem] theorem fact_ty60 : tyOf Tryz.prog 60 = some ⟨false, 1, [.nilFunc]⟩ := by kernel_rfl
@[go_sem] theorem fact_ty61 : tyOf Tryz.prog 61 = some ⟨false, 1, [.nilFunc]⟩ := by kernel_rfl
@[go_sem] theorem fact_ty62 : tyOf Tryz.prog 62 = some ⟨false, 1, [.nilFunc]⟩ := by kernel_rfl
@[go_sem] theorem fact_ty63 : tyOf Tryz.prog 63 = some ⟨false, 1, [.nilFunc]⟩ := by kernel_rfl
@[go_sem] theorem fact_ty64 : tyOf Tryz.prog 64 = some ⟨false, 1, [.nilFunc]⟩ := by kernel_rfl
@[go_sem] theorem fact_ty65 : tyOf Tryz.prog 65 = some ⟨false, 1, [.nilFunc]⟩ := by kernel_rfl
@[go_sem] theorem fact_ty66 : tyOf Tryz.prog 66 = some ⟨false, 1, [.nilFunc]⟩ := by kernel_rfl
@[go_sem] theorem fact_ty67 : tyOf Tryz.prog 67 = some ⟨false, 1, [.nilFunc]⟩ := by kernel_rfl
@[go_sem] theorem fact_ty68 : tyOf Tryz.prog 68 = some ⟨false, 1, [.nilFunc]⟩ := by kernel_rfl
@[go_sem] theorem fact_ty69 : tyOf Tryz.prog 69 = some ⟨false, 1, [.nilFunc]⟩ := by kernel_rfl
@[go_sem] theorem fact_ty70 : tyOf Tryz.prog 70 = some ⟨false, 1, [.nilFunc]⟩ := by kernel_rfl
@[go_sem] theorem fact_ty71 : tyOf Tryz.prog 71 = some ⟨false, 1, [.nilFunc]⟩ := by kernel_rfl
@[go_sem] theorem fact_ty72 : tyOf Tryz.prog 72 = some ⟨false, 1, [.nilFunc]⟩ := by kernel_rfl
@[go_sem] theorem fact_ty73 : tyOf Tryz.prog 73 = some ⟨false, 1, [.nilFunc]⟩ := by kernel_rfl
@[go_sem] theorem fact_ty74 : tyOf Tryz.prog 74 = some ⟨true, 3, [.slice none 0 0, .int .i64 0, .int .u64 0]⟩ := by kernel_rfl
@[go_sem] theorem fact_fld74_0 : fldOf Tryz.prog 74 0 = some ⟨0, 1, false⟩ := by kernel_rfl
@[go_sem] theorem fact_fld74_1 : fldOf Tryz.prog 74 1 = some ⟨1, 1, false⟩ := by kernel_rfl
@[go_sem] theorem fact_fld74_2 : fldOf Tryz.prog 74 2 = some ⟨2, 1, false⟩ := by kernel_rfl
@[go_sem] theorem fact_bld74 : bldOf Tryz.prog 74 = some ⟨3, [.slice none 0 0, .int .i64 0, .int .u64 0], [(0, 1), (1, 1), (2, 1)]⟩ := by kernel_rfl
@[go_sem] theorem fact_ty75 : tyOf Tryz.prog 75 = some ⟨true, 3, [.slice none 0 0, .int .i64 0, .int .u64 0]⟩ := by kernel_rfl
@[go_sem] theorem fact_fld75_0 : fldOf Tryz.prog 75 0 = some ⟨0, 1, false⟩ := by kernel_rfl
@[go_sem] theorem fact_fld75_1 : fldOf Tryz.prog 75 1 = some ⟨1, 1, false⟩ := by kernel_rfl
@[go_sem] theorem fact_fld75_2 : fldOf Tryz.prog 75 2 = some ⟨2, 1, false⟩ := by kernel_rfl
@[go_sem] theorem fact_bld75 : bldOf Tryz.prog 75 = some ⟨3, [.slice none 0 0, .int .i64 0, .int .u64 0], [(0, 1), (1, 1), (2, 1)]⟩ := by kernel_rfl
@[go_sem] theorem fact_isint76 : isIntT Tryz.prog 76 = true := by kernel_rfl
@[go_sem] theorem fact_ty76 : tyOf Tryz.prog 76 = some ⟨false, 1, [.int .u64 0]⟩ := by kernel_rfl
@[go_sem] theorem fact_ty77 : tyOf Tryz.prog 77 = some ⟨false, 1, [.nilFunc]⟩ := by kernel_rfl
@[go_sem] theorem fact_ty78 : tyOf Tryz.prog 78 = some ⟨false, 1, [.nilFunc]⟩ := by kernel_rfl
@[go_sem] theorem fact_ty79 : tyOf Tryz.prog 79 = some ⟨false, 1, [.nilFunc]⟩ := by kernel_rfl
@[go_sem] theorem fact_eq80 : eqT Tryz.prog 80 = .ptr := by kernel_rfl
@[go_sem] theorem fact_ty80 : tyOf Tryz.prog 80 = some ⟨false, 1, [.pointer none]⟩ := by kernel_rfl
@[go_sem] theorem fact_ty81 : tyOf Tryz.prog 81 = some ⟨false, 1, [.nilFunc]⟩ := by kernel_rfl
@[go_sem] theorem fact_ty82 : tyOf Tryz.prog 82 = some ⟨false, 1, [.nilFunc]⟩ := by kernel_rfl
@[go_sem] theorem fact_ty83 : tyOf Tryz.prog 83 = some ⟨true, 3, [.slice none 0 0, .int .i64 0, .int .i64 0]⟩ := by kernel_rfl
@[go_sem] theorem fact_fld83_0 : fldOf Tryz.prog 83 0 = some ⟨0, 1, false⟩ := by kernel_rfl
@[go_sem] theorem fact_fld83_1 : fldOf Tryz.prog 83 1 = some ⟨1, 1, false⟩ := by kernel_rfl
@[go_sem] theorem fact_fld83_2 : fldOf Tryz.prog 83 2 = some ⟨2, 1, false⟩ := by kernel_rfl
@[go_sem] theorem fact_bld83 : bldOf Tryz.prog 83 = some ⟨3, [.slice none 0 0, .int .i64 0, .int .i64 0], [(0, 1), (1, 1), (2, 1)]⟩ := by kernel_rfl
@[go_sem] theorem fact_ty84 : tyOf Tryz.prog 84 = some ⟨true, 3, [.slice none 0 0, .int .i64 0, .int .i64 0]⟩ := by kernel_rfl
@[go_sem] theorem fact_fld84_0 : fldOf Tryz.prog 84 0 = some ⟨0, 1, false⟩ := by kernel_rfl
@[go_sem] theorem fact_fld84_1 : fldOf Tryz.prog 84 1 = some ⟨1, 1, false⟩ := by kernel_rfl
@[go_sem] theorem fact_fld84_2 : fldOf Tryz.prog 84 2 = some ⟨2, 1, false⟩ := by kernel_rfl
@[go_sem] theorem fact_bld84 : bldOf Tryz.prog 84 = some ⟨3, [.slice none 0 0, .int .i64 0, .int .i64 0], [(0, 1), (1, 1), (2, 1)]⟩ := by kernel_rfl
@[go_sem] theorem fact_ty85 : tyOf Tryz.prog 85 = some ⟨false, 1, [.nilFunc]⟩ := by kernel_rfl
@[go_sem] theorem fact_ty86 : tyOf Tryz.prog 86 = some ⟨false, 1, [.nilFunc]⟩ := by kernel_rfl
@[go_sem] theorem fact_ty87 : tyOf Tryz.prog 87 = some ⟨false, 1, [.nilFunc]⟩ := by kernel_rfl
@[go_sem] theorem fact_ty88 : tyOf Tryz.prog 88 = some ⟨false, 1, [.nilFunc]⟩ := by kernel_rfl
@[go_sem] theorem fact_ty89 : tyOf Tryz.prog 89 = some ⟨false, 1, [.nilFunc]⟩ := by kernel_rfl
@[go_sem] theorem fact_ty90 : tyOf Tryz.prog 90 = some ⟨false, 1, [.nilFunc]⟩ := by kernel_rfl
@[go_sem] theorem fact_ty92 : tyOf Tryz.prog 92 = some ⟨false, 1, [.nilFunc]⟩ := by kernel_rfl
@[go_sem] theorem fact_ty93 : tyOf Tryz.prog 93 = some ⟨false, 1, [.nilFunc]⟩ := by kernel_rfl
@[go_sem] theorem fact_ty94 : tyOf Tryz.prog 94 = some ⟨false, 1, [.nilFunc]⟩ := by kernel_rfl
@[go_sem] theorem fact_ty95 : tyOf Tryz.prog 95 = some ⟨false, 1, [.nilFunc]⟩ := by kernel_rfl
@[go_sem] theorem fact_ty96 : tyOf Tryz.prog 96 = some ⟨false, 1, [.nilFunc]⟩ := by kernel_rfl
@[go_sem] theorem fact_sel97 : selOf Tryz.prog 97 = some ⟨22, 1, 24, [.slice none 0 0]⟩ := by kernel_rfl
@[go_sem] theorem fact_ix97 : ixOf Tryz.prog 97 = some (.sl 1) := by kernel_rfl
@[go_sem] theorem fact_eq97 : eqT Tryz.prog 97 = .slice := by kernel_rfl
@[go_sem] theorem fact_len97 : lenT Tryz.prog 97 = .slice := by kernel_rfl
@[go_sem] theorem fact_sl97 : slT Tryz.prog 97 = .slice 1 := by kernel_rfl
@[go_sem] theorem fact_ty97 : tyOf Tryz.prog 97 = some ⟨false, 1, [.slice none 0 0]⟩ := by kernel_rfl
@[go_sem] theorem fact_ty98 : tyOf Tryz.prog 98 = some ⟨true, 3, [.int .i64 0, .slice none 0 0, .slice none 0 0]⟩ := by kernel_rfl
@[go_sem] theorem fact_fld98_0 : fldOf Tryz.prog 98 0 = some ⟨0, 1, false⟩ := by kernel_rfl
@[go_sem] theorem fact_fld98_1 : fldOf Tryz.prog 98 1 = some ⟨1, 1, false⟩ := by kernel_rfl
@[go_sem] theorem fact_fld98_2 : fldOf Tryz.prog 98 2 = some ⟨2, 1, false⟩ := by kernel_rfl
@[go_sem] theorem fact_bld98 : bldOf Tryz.prog 98 = some ⟨3, [.int .i64 0, .slice none 0 0, .slice none 0 0], [(0, 1), (1, 1), (2, 1)]⟩ := by kernel_rfl
@[go_sem] theorem fact_ty99 : tyOf Tryz.prog 99 = some ⟨true, 3, [.int .i64 0, .slice none 0 0, .slice none 0 0]⟩ := by kernel_rfl
@[go_sem] theorem fact_fld99_0 : fldOf Tryz.prog 99 0 = some ⟨0, 1, false⟩ := by kernel_rfl
@[go_sem] theorem fact_fld99_1 : fldOf Tryz.prog 99 1 = some ⟨1, 1, false⟩ := by kernel_rfl
@[go_sem] theorem fact_fld99_2 : fldOf Tryz.prog 99 2 = some ⟨2, 1, false⟩ := by kernel_rfl
@[go_sem] theorem fact_bld99 : bldOf Tryz.prog 99 = some ⟨3, [.int .i64 0, .slice none 0 0, .slice none 0 0], [(0, 1), (1, 1), (2, 1)]⟩ := by kernel_rfl
@[go_sem] theorem fact_ty100 : tyOf Tryz.prog 100 = some ⟨false, 1, [.nilFunc]⟩ := by kernel_rfl
@[go_sem] theorem fact_ty101 : tyOf Tryz.prog 101 = some ⟨false, 1, [.nilFunc]⟩ := by kernel_rfl
@[go_sem] theorem fact_ty102 : tyOf Tryz.prog 102 = some ⟨false, 1, [.nilFunc]⟩ := by kernel_rfl
@[go_sem] theorem fact_sel103 : selOf Tryz.prog 103 = some ⟨4, 1, 1, [.bool false]⟩ := by kernel_rfl
@[go_sem] theorem fact_ix103 : ixOf Tryz.prog 103 = some (.sl 1) := by kernel_rfl
@[go_sem] theorem fact_eq103 : eqT Tryz.prog 103 = .slice := by kernel_rfl
@[go_sem] theorem fact_len103 : lenT Tryz.prog 103 = .slice := by kernel_rfl
@[go_sem] theorem fact_sl103 : slT Tryz.prog 103 = .slice 1 := by kernel_rfl
@[go_sem] theorem fact_ty103 : tyOf Tryz.prog 103 = some ⟨false, 1, [.slice none 0 0]⟩ := by kernel_rfl
@[go_sem] theorem fact_ty104 : tyOf Tryz.prog 104 = some ⟨false, 1, [.nilFunc]⟩ := by kernel_rfl
@[go_sem] theorem fact_eq105 : eqT Tryz.prog 105 = .ptr := by kernel_rfl
@[go_sem] theorem fact_ty105 : tyOf Tryz.prog 105 = some ⟨false, 1, [.pointer none]⟩ := by kernel_rfl
@[go_sem] theorem fact_ty106 : tyOf Tryz.prog 106 = some ⟨true, 2, [.pointer none, .slice none 0 0]⟩ := by kernel_rfl
@[go_sem] theorem fact_fld106_0 : fldOf Tryz.prog 106 0 = some ⟨0, 1, false⟩ := by kernel_rfl
@[go_sem] theorem fact_fld106_1 : fldOf Tryz.prog 106 1 = some ⟨1, 1, false⟩ := by kernel_rfl
@[go_sem] theorem fact_bld106 : bldOf Tryz.prog 106 = some ⟨2, [.pointer none, .slice none 0 0], [(0, 1), (1, 1)]⟩ := by kernel_rfl
@[go_sem] theorem fact_ty107 : tyOf Tryz.prog 107 = some ⟨true, 2, [.pointer none, .slice none 0 0]⟩ := by kernel_rfl
@[go_sem] theorem fact_fld107_0 : fldOf Tryz.prog 107 0 = some ⟨0, 1, false⟩ := by kernel_rfl
@[go_sem] theorem fact_fld107_1 : fldOf Tryz.prog 107 1 = some ⟨1, 1, false⟩ := by kernel_rfl
@[go_sem] theorem fact_bld107 : bldOf Tryz.prog 107 = some ⟨2, [.pointer none, .slice none 0 0], [(0, 1), (1, 1)]⟩ := by kernel_rfl
@[go_sem] theorem fact_ty108 : tyOf Tryz.prog 108 = some ⟨false, 1, [.nilFunc]⟩ := by kernel_rfl
@[go_sem] theorem fact_if109 : ifT Tryz.prog 109 = true := by kernel_rfl
@[go_sem] theorem fact_if110 : ifT Tryz.prog 110 = true := by kernel_rfl
@[go_sem] theorem fact_ty112 : tyOf Tryz.prog 112 = some ⟨false, 1, [.nilFunc]⟩ := by kernel_rfl
@[go_sem] theorem fact_ty113 : tyOf Tryz.prog 113 = some ⟨false, 1, [.nilFunc]⟩ := by kernel_rfl
@[go_sem] theorem fact_ty114 : tyOf Tryz.prog 114 = some ⟨false, 1, [.nilFunc]⟩ := by kernel_rfl
@[go_sem] theorem fact_ty115 : tyOf Tryz.prog 115 = some ⟨false, 1, [.nilFunc]⟩ := by kernel_rfl
@[go_sem] theorem fact_ty116 : tyOf Tryz.prog 116 = some ⟨false, 1, [.nilFunc]⟩ := by kernel_rfl
@[go_sem] theorem fact_ty117 : tyOf Tryz.prog 117 = some ⟨false, 1, [.nilFunc]⟩ := by kernel_rfl
@[go_sem] theorem fact_ty119 : tyOf Tryz.prog 119 = some ⟨false, 1, [.nilFunc]⟩ := by kernel_rfl
@[go_sem] theorem fact_ty120 : tyOf Tryz.prog 120 = some ⟨false, 1, [.nilFunc]⟩ := by kernel_rfl
@[go_sem] theorem fact_ty121 : tyOf Tryz.prog 121 = some ⟨false, 1, [.nilFunc]⟩ := by kernel_rfl
@[go_sem] theorem fact_ty122 : tyOf Tryz.prog 122 = some ⟨false, 1, [.nilFunc]⟩ := by kernel_rfl
@[go_sem] theorem fact_eq123 : eqT Tryz.prog 123 = .ptr := by kernel_rfl
@[go_sem] theorem fact_ty123 : tyOf Tryz.prog 123 = some ⟨false, 1, [.pointer none]⟩ := by kernel_rfl
@[go_sem] theorem fact_ty124 : tyOf Tryz.prog 124 = some ⟨false, 1, [.nilFunc]⟩ := by kernel_rfl
@[go_sem] theorem fact_ty126 : tyOf Tryz.prog 126 = some ⟨false, 1, [.nilFunc]⟩ := by kernel_rfl
@[go_sem] theorem fact_ty127 : tyOf Tryz.prog 127 = some ⟨false, 1, [.nilFunc]⟩ := by kernel_rfl
@[go_sem] theorem fact_ty128 : tyOf Tryz.prog 128 = some ⟨false, 1, [.nilFunc]⟩ := by kernel_rfl
@[go_sem] theorem fact_ty129 : tyOf Tryz.prog 129 = some ⟨false, 1, [.nilFunc]⟩ := by kernel_rfl
@[go_sem] theorem fact_ix130 : ixOf Tryz.prog 130 = some (.arr 24 1) := by kernel_rfl
@[go_sem] theorem fact_bld130 : bldOf Tryz.prog 130 = some ⟨24, [.int .u8 0, .int .u8 0, .int .u8 0, .int .u8 0, .int .u8 0, .int .u8 0, .int .u8 0, .int .u8 0, .int .u8 0, .int .u8 0, .int .u8 0, .int .u8 0, .int .u8 0, .int .u8 0, .int .u8 0, .int .u8 0, .int .u8 0, .int .u8 0, .int .u8 0, .int .u8 0, .int .u8 0, .int .u8 0, .int .u8 0, .int .u8 0], [(0, 1), (1, 1), (2, 1), (3, 1), (4, 1), (5, 1), (6, 1), (7, 1), (8, 1), (9, 1), (10, 1), (11, 1), (12, 1), (13, 1), (14, 1), (15, 1), (16, 1), (17, 1), (18, 1), (19, 1), (20, 1), (21, 1), (22, 1), (23, 1)]⟩ := by kernel_rfl
@[go_sem] theorem fact_ty130 : tyOf Tryz.prog 130 = some ⟨true, 24, [.int .u8 0, .int .u8 0, .int .u8 0, .int .u8 0, .int .u8 0, .int .u8 0, .int .u8 0, .int .u8 0, .int .u8 0, .int .u8 0, .int .u8 0, .int .u8 0, .int .u8 0, .int .u8 0, .int .u8 0, .int .u8 0, .int .u8 0, .int .u8 0, .int .u8 0, .int .u8 0, .int .u8 0, .int .u8 0, .int .u8 0, .int .u8 0]⟩ := by kernel_rfl
@[go_sem] theorem fact_ty131 : tyOf Tryz.prog 131 = some ⟨false, 1, [.nilFunc]⟩ := by kernel_rfl
@[go_sem] theorem fact_ty132 : tyOf Tryz.prog 132 = some ⟨false, 1, [.nilFunc]⟩ := by kernel_rfl
@[go_sem] theorem fact_ty134 : tyOf Tryz.prog 134 = some ⟨false, 1, [.nilFunc]⟩ := by kernel_rfl
@[go_sem] theorem fact_ty135 : tyOf Tryz.prog 135 = some ⟨false, 1, [.pointer none]⟩ := by kernel_rfl
@[go_sem] theorem fact_ty136 : tyOf Tryz.prog 136 = some ⟨false, 1, [.nilFunc]⟩ := by kernel_rfl
@[go_sem] theorem fact_ty137 : tyOf Tryz.prog 137 = some ⟨false, 1, [.nilFunc]⟩ := by kernel_rfl
@[go_sem] theorem fact_ty138 : tyOf Tryz.prog 138 = some ⟨false, 1, [.nilFunc]⟩ := by kernel_rfl
@[go_sem] theorem fact_isint139 : isIntT Tryz.prog 139 = true := by kernel_rfl
@[go_sem] theorem fact_ty139 : tyOf Tryz.prog 139 = some ⟨false, 1, [.int .i64 0]⟩ := by kernel_rfl
@[go_sem] theorem fact_ty141 : tyOf Tryz.prog 141 = some ⟨false, 1, [.nilFunc]⟩ := by kernel_rfl
@[go_sem] theorem fact_eq142 : eqT Tryz.prog 142 = .ptr := by kernel_rfl
@[go_sem] theorem fact_ty142 : tyOf Tryz.prog 142 = some ⟨false, 1, [.pointer none]⟩ := by kernel_rfl
@[go_sem] theorem fact_ty143 : tyOf Tryz.prog 143 = some ⟨false, 1, [.nilFunc]⟩ := by kernel_rfl
@[go_sem] theorem fact_ty144 : tyOf Tryz.prog 144 = some ⟨false, 1, [.nilFunc]⟩ := by kernel_rfl
@[go_sem] theorem fact_ty145 : tyOf Tryz.prog 145 = some ⟨false, 1, [.nilFunc]⟩ := by kernel_rfl
@[go_sem] theorem fact_ix146 : ixOf Tryz.prog 146 = some (.arr 20 1) := by kernel_rfl
@[go_sem] theorem fact_bld146 : bldOf Tryz.prog 146 = some ⟨20, [.int .u64 0, .int .u64 0, .int .u64 0, .int .u64 0, .int .u64 0, .int .u64 0, .int .u64 0, .int .u64 0, .int .u64 0, .int .u64 0, .int .u64 0, .int .u64 0, .int .u64 0, .int .u64 0, .int .u64 0, .int .u64 0, .int .u64 0, .int .u64 0, .int .u64 0, .int .u64 0], [(0, 1), (1, 1), (2, 1), (3, 1), (4, 1), (5, 1), (6, 1), (7, 1), (8, 1), (9, 1), (10, 1), (11, 1), (12, 1), (13, 1), (14, 1), (15, 1), (16, 1), (17, 1), (18, 1), (19, 1)]⟩ := by kernel_rfl
@[go_sem] theorem fact_ty146 : tyOf Tryz.prog 146 = some ⟨true, 20, [.int .u64 0, .int .u64 0, .int .u64 0, .int .u64 0, .int .u64 0, .int .u64 0, .int .u64 0, .int .u64 0, .int .u64 0, .int .u64 0, .int .u64 0, .int .u64 0, .int .u64 0, .int .u64 0, .int .u64 0, .int .u64 0, .int .u64 0, .int .u64 0, .int .u64 0, .int .u64 0]⟩ := by kernel_rfl
@[go_sem] theorem fact_isint147 : isIntT Tryz.prog 147 = true := by kernel_rfl
@[go_sem] theorem fact_ty147 : tyOf Tryz.prog 147 = some ⟨false, 1, [.int .u32 0]⟩ := by kernel_rfl
@[go_sem] theorem fact_ix148 : ixOf Tryz.prog 148 = some (.arr 65 1) := by kernel_rfl
@[go_sem] theorem fact_ty148 : tyOf Tryz.prog 148 = some ⟨true, 65, List.replicate 65 (.int .u8 0)⟩ := by kernel_rfl
@[go_sem] theorem fact_ty149 : tyOf Tryz.prog 149 = some ⟨false, 1, [.nilFunc]⟩ := by kernel_rfl
@[go_sem] theorem fact_ty150 : tyOf Tryz.prog 150 = some ⟨false, 1, [.nilFunc]⟩ := by kernel_rfl
@[go_sem] theorem fact_ix151 : ixOf Tryz.prog 151 = some (.arr 256 1) := by kernel_rfl
@[go_sem] theorem fact_ty151 : tyOf Tryz.prog 151 = some ⟨true, 256, List.replicate 256 (.int .u8 0)⟩ := by kernel_rfl
@[go_sem] theorem fact_ty152 : tyOf Tryz.prog 152 = some ⟨true, 2, [.int .u8 0, .int .u8 0]⟩ := by kernel_rfl
@[go_sem] theorem fact_fld152_0 : fldOf Tryz.prog 152 0 = some ⟨0, 1, false⟩ := by kernel_rfl
@[go_sem] theorem fact_fld152_1 : fldOf Tryz.prog 152 1 = some ⟨1, 1, false⟩ := by kernel_rfl
@[go_sem] theorem fact_bld152 : bldOf Tryz.prog 152 = some ⟨2, [.int .u8 0, .int .u8 0], [(0, 1), (1, 1)]⟩ := by kernel_rfl
@[go_sem] theorem fact_ty153 : tyOf Tryz.prog 153 = some ⟨true, 2, [.int .u8 0, .int .u8 0]⟩ := by kernel_rfl
@[go_sem] theorem fact_fld153_0 : fldOf Tryz.prog 153 0 = some ⟨0, 1, false⟩ := by kernel_rfl
@[go_sem] theorem fact_fld153_1 : fldOf Tryz.prog 153 1 = some ⟨1, 1, false⟩ := by kernel_rfl
@[go_sem] theorem fact_bld153 : bldOf Tryz.prog 153 = some ⟨2, [.int .u8 0, .int .u8 0], [(0, 1), (1, 1)]⟩ := by kernel_rfl
@[go_sem] theorem fact_ix154 : ixOf Tryz.prog 154 = some (.arr 16 2) := by kernel_rfl
@[go_sem] theorem fact_bld154 : bldOf Tryz.prog 154 = some ⟨32, [.int .u8 0, .int .u8 0, .int .u8 0, .int .u8 0, .int .u8 0, .int .u8 0, .int .u8 0, .int .u8 0, .int .u8 0, .int .u8 0, .int .u8 0, .int .u8 0, .int .u8 0, .int .u8 0, .int .u8 0, .int .u8 0, .int .u8 0, .int .u8 0, .int .u8 0, .int .u8 0, .int .u8 0, .int .u8 0, .int .u8 0, .int .u8 0, .int .u8 0, .int .u8 0, .int .u8 0, .int .u8 0, .int .u8 0, .int .u8 0, .int .u8 0, .int .u8 0], [(0, 2), (2, 2), (4, 2), (6, 2), (8, 2), (10, 2), (12, 2), (14, 2), (16, 2), (18, 2), (20, 2), (22, 2), (24, 2), (26, 2), (28, 2), (30, 2)]⟩ := by kernel_rfl
@[go_sem] theorem fact_ty154 : tyOf Tryz.prog 154 = some ⟨true, 32, [.int .u8 0, .int .u8 0, .int .u8 0, .int .u8 0, .int .u8 0, .int .u8 0, .int .u8 0, .int .u8 0, .int .u8 0, .int .u8 0, .int .u8 0, .int .u8 0, .int .u8 0, .int .u8 0, .int .u8 0, .int .u8 0, .int .u8 0, .int .u8 0, .int .u8 0, .int .u8 0, .int .u8 0, .int .u8 0, .int .u8 0, .int .u8 0, .int .u8 0, .int .u8 0, .int .u8 0, .int .u8 0, .int .u8 0, .int .u8 0, .int .u8 0, .int .u8 0]⟩ := by kernel_rfl
@[go_sem] theorem fact_ty156 : tyOf Tryz.prog 156 = some ⟨false, 1, [.nilFunc]⟩ := by kernel_rfl
@[go_sem] theorem fact_ty157 : tyOf Tryz.prog 157 = some ⟨false, 1, [.nilFunc]⟩ := by kernel_rfl
@[go_sem] theorem fact_ty158 : tyOf Tryz.prog 158 = some ⟨false, 1, [.nilFunc]⟩ := by kernel_rfl
@[go_sem] theorem fact_ty159 : tyOf Tryz.prog 159 = some ⟨true, 3, [.string ⟨#[]⟩, .string ⟨#[]⟩, .nilIface]⟩ := by kernel_rfl
@[go_sem] theorem fact_fld159_0 : fldOf Tryz.prog 159 0 = some ⟨0, 1, false⟩ := by kernel_rfl
@[go_sem] theorem fact_fld159_1 : fldOf Tryz.prog 159 1 = some ⟨1, 1, false⟩ := by kernel_rfl
@[go_sem] theorem fact_fld159_2 : fldOf Tryz.prog 159 2 = some ⟨2, 1, false⟩ := by kernel_rfl
@[go_sem] theorem fact_bld159 : bldOf Tryz.prog 159 = some ⟨3, [.string ⟨#[]⟩, .string ⟨#[]⟩, .nilIface], [(0, 1), (1, 1), (2, 1)]⟩ := by kernel_rfl
@[go_sem] theorem fact_ty160 : tyOf Tryz.prog 160 = some ⟨true, 3, [.string ⟨#[]⟩, .string ⟨#[]⟩, .nilIface]⟩ := by kernel_rfl
@[go_sem] theorem fact_fld160_0 : fldOf Tryz.prog 160 0 = some ⟨0, 1, false⟩ := by kernel_rfl
@[go_sem] theorem fact_fld160_1 : fldOf Tryz.prog 160 1 = some ⟨1, 1, false⟩ := by kernel_rfl
@[go_sem] theorem fact_fld160_2 : fldOf Tryz.prog 160 2 = some ⟨2, 1, false⟩ := by kernel_rfl
@[go_sem] theorem fact_bld160 : bldOf Tryz.prog 160 = some ⟨3, [.string ⟨#[]⟩, .string ⟨#[]⟩, .nilIface], [(0, 1), (1, 1), (2, 1)]⟩ := by kernel_rfl
@[go_sem] theorem fact_ty161 : tyOf Tryz.prog 161 = some ⟨false, 1, [.nilFunc]⟩ := by kernel_rfl
@[go_sem] theorem fact_ty162 : tyOf Tryz.prog 162 = some ⟨false, 1, [.nilFunc]⟩ := by kernel_rfl
@[go_sem] theorem fact_eq163 : eqT Tryz.prog 163 = .ptr := by kernel_rfl
@[go_sem] theorem fact_ty163 : tyOf Tryz.prog 163 = some ⟨false, 1, [.pointer none]⟩ := by kernel_rfl
@[go_sem] theorem fact_ty164 : tyOf Tryz.prog 164 = some ⟨true, 1, [.string ⟨#[]⟩]⟩ := by kernel_rfl
@[go_sem] theorem fact_fld164_0 : fldOf Tryz.prog 164 0 = some ⟨0, 1, false⟩ := by kernel_rfl
@[go_sem] theorem fact_bld164 : bldOf Tryz.prog 164 = some ⟨1, [.string ⟨#[]⟩], [(0, 1)]⟩ := by kernel_rfl
@[go_sem] theorem fact_ty165 : tyOf Tryz.prog 165 = some ⟨true, 1, [.string ⟨#[]⟩]⟩ := by kernel_rfl
@[go_sem] theorem fact_fld165_0 : fldOf Tryz.prog 165 0 = some ⟨0, 1, false⟩ := by kernel_rfl
@[go_sem] theorem fact_bld165 : bldOf Tryz.prog 165 = some ⟨1, [.string ⟨#[]⟩], [(0, 1)]⟩ := by kernel_rfl
@[go_sem] theorem fact_ix166 : ixOf Tryz.prog 166 = some (.arr 32 1) := by kernel_rfl
@[go_sem] theorem fact_bld166 : bldOf Tryz.prog 166 = some ⟨32, [.int .u8 0, .int .u8 0, .int .u8 0, .int .u8 0, .int .u8 0, .int .u8 0, .int .u8 0, .int .u8 0, .int .u8 0, .int .u8 0, .int .u8 0, .int .u8 0, .int .u8 0, .int .u8 0, .int .u8 0, .int .u8 0, .int .u8 0, .int .u8 0, .int .u8 0, .int .u8 0, .int .u8 0, .int .u8 0, .int .u8 0, .int .u8 0, .int .u8 0, .int .u8 0, .int .u8 0, .int .u8 0, .int .u8 0, .int .u8 0, .int .u8 0, .int .u8 0], [(0, 1), (1, 1), (2, 1), (3, 1), (4, 1), (5, 1), (6, 1), (7, 1), (8, 1), (9, 1), (10, 1), (11, 1), (12, 1), (13, 1), (14, 1), (15, 1), (16, 1), (17, 1), (18, 1), (19, 1), (20, 1), (21, 1), (22, 1), (23, 1), (24, 1), (25, 1), (26, 1), (27, 1), (28, 1), (29, 1), (30, 1), (31, 1)]⟩ := by kernel_rfl
@[go_sem] theorem fact_ty166 : tyOf Tryz.prog 166 = some ⟨true, 32, [.int .u8 0, .int .u8 0, .int .u8 0, .int .u8 0, .int .u8 0, .int .u8 0, .int .u8 0, .int .u8 0, .int .u8 0, .int .u8 0, .int .u8 0, .int .u8 0, .int .u8 0, .int .u8 0, .int .u8 0, .int .u8 0, .int .u8 0, .int .u8 0, .int .u8 0, .int .u8 0, .int .u8 0, .int .u8 0, .int .u8 0, .int .u8 0, .int .u8 0, .int .u8 0, .int .u8 0, .int .u8 0, .int .u8 0, .int .u8 0, .int .u8 0, .int .u8 0]⟩ := by kernel_rfl
@[go_sem] theorem fact_ix167 : ixOf Tryz.prog 167 = some (.arr 64 1) := by kernel_rfl
@[go_sem] theorem fact_bld167 : bldOf Tryz.prog 167 = some ⟨64, [.int .u8 0, .int .u8 0, .int .u8 0, .int .u8 0, .int .u8 0, .int .u8 0, .int .u8 0, .int .u8 0, .int .u8 0, .int .u8 0, .int .u8 0, .int .u8 0, .int .u8 0, .int .u8 0, .int .u8 0, .int .u8 0, .int .u8 0, .int .u8 0, .int .u8 0, .int .u8 0, .int .u8 0, .int .u8 0, .int .u8 0, .int .u8 0, .int .u8 0, .int .u8 0, .int .u8 0, .int .u8 0, .int .u8 0, .int .u8 0, .int .u8 0, .int .u8 0, .int .u8 0, .int .u8 0, .int .u8 0, .int .u8 0, .int .u8 0, .int .u8 0, .int .u8 0, .int .u8 0, .int .u8 0, .int .u8 0, .int .u8 0, .int .u8 0, .int .u8 0, .int .u8 0, .int .u8 0, .int .u8 0, .int .u8 0, .int .u8 0, .int .u8 0, .int .u8 0, .int .u8 0, .int .u8 0, .int .u8 0, .int .u8 0, .int .u8 0, .int .u8 0, .int .u8 0, .int .u8 0, .int .u8 0, .int .u8 0, .int .u8 0, .int .u8 0], [(0, 1), (1, 1), (2, 1), (3, 1), (4, 1), (5, 1), (6, 1), (7, 1), (8, 1), (9, 1), (10, 1), (11, 1), (12, 1), (13, 1), (14, 1), (15, 1), (16, 1), (17, 1), (18, 1), (19, 1), (20, 1), (21, 1), (22, 1), (23, 1), (24, 1), (25, 1), (26, 1), (27, 1), (28, 1), (29, 1), (30, 1), (31, 1), (32, 1), (33, 1), (34, 1), (35, 1), (36, 1), (37, 1), (38, 1), (39, 1), (40, 1), (41, 1), (42, 1), (43, 1), (44, 1), (45, 1), (46, 1), (47, 1), (48, 1), (49, 1), (50, 1), (51, 1), (52, 1), (53, 1), (54, 1), (55, 1), (56, 1), (57, 1), (58, 1), (59, 1), (60, 1), (61, 1), (62, 1), (63, 1)]⟩ := by kernel_rfl
@[go_sem] theorem fact_ty167 : tyOf Tryz.prog 167 = some ⟨true, 64, [.int .u8 0, .int .u8 0, .int .u8 0, .int .u8 0, .int .u8 0, .int .u8 0, .int .u8 0, .int .u8 0, .int .u8 0, .int .u8 0, .int .u8 0, .int .u8 0, .int .u8 0, .int .u8 0, .int .u8 0, .int .u8 0, .int .u8 0, .int .u8 0, .int .u8 0, .int .u8 0, .int .u8 0, .int .u8 0, .int .u8 0, .int .u8 0, .int .u8 0, .int .u8 0, .int .u8 0, .int .u8 0, .int .u8 0, .int .u8 0, .int .u8 0, .int .u8 0, .int .u8 0, .int .u8 0, .int .u8 0, .int .u8 0, .int .u8 0, .int .u8 0, .int .u8 0, .int .u8 0, .int .u8 0, .int .u8 0, .int .u8 0, .int .u8 0, .int .u8 0, .int .u8 0, .int .u8 0, .int .u8 0, .int .u8 0, .int .u8 0, .int .u8 0, .int .u8 0, .int .u8 0, .int .u8 0, .int .u8 0, .int .u8 0, .int .u8 0, .int .u8 0, .int .u8 0, .int .u8 0, .int .u8 0, .int .u8 0, .int .u8 0, .int .u8 0]⟩ := by kernel_rfl
@[go_sem] theorem fact_ty168 : tyOf Tryz.prog 168 = some ⟨true, 4, [.pointer none, .pointer none, .pointer none, .string ⟨#[]⟩]⟩ := by kernel_rfl
@[go_sem] theorem fact_fld168_0 : fldOf Tryz.prog 168 0 = some ⟨0, 1, false⟩ := by kernel_rfl
@[go_sem] theorem fact_fld168_1 : fldOf Tryz.prog 168 1 = some ⟨1, 1, false⟩ := by kernel_rfl
@[go_sem] theorem fact_fld168_2 : fldOf Tryz.prog 168 2 = some ⟨2, 1, false⟩ := by kernel_rfl
@[go_sem] theorem fact_fld168_3 : fldOf Tryz.prog 168 3 = some ⟨3, 1, false⟩ := by kernel_rfl
@[go_sem] theorem fact_bld168 : bldOf Tryz.prog 168 = some ⟨4, [.pointer none, .pointer none, .pointer none, .string ⟨#[]⟩], [(0, 1), (1, 1), (2, 1), (3, 1)]⟩ := by kernel_rfl
@[go_sem] theorem fact_ty169 : tyOf Tryz.prog 169 = some ⟨true, 4, [.pointer none, .pointer none, .pointer none, .string ⟨#[]⟩]⟩ := by kernel_rfl
@[go_sem] theorem fact_fld169_0 : fldOf Tryz.prog 169 0 = some ⟨0, 1, false⟩ := by kernel_rfl
@[go_sem] theorem fact_fld169_1 : fldOf Tryz.prog 169 1 = some ⟨1, 1, false⟩ := by kernel_rfl
@[go_sem] theorem fact_fld169_2 : fldOf Tryz.prog 169 2 = some ⟨2, 1, false⟩ := by kernel_rfl
@[go_sem] theorem fact_fld169_3 : fldOf Tryz.prog 169 3 = some ⟨3, 1, false⟩ := by kernel_rfl
@[go_sem] theorem fact_bld169 : bldOf Tryz.prog 169 = some ⟨4, [.pointer none, .pointer none, .pointer none, .string ⟨#[]⟩], [(0, 1), (1, 1), (2, 1), (3, 1)]⟩ := by kernel_rfl
@[go_sem] theorem fact_ix170 : ixOf Tryz.prog 170 = some (.arr 0 1) := by kernel_rfl
@[go_sem] theorem fact_ty170 : tyOf Tryz.prog 170 = some ⟨true, 0, []⟩ := by kernel_rfl
@[go_sem] theorem fact_ty171 : tyOf Tryz.prog 171 = some ⟨true, 0, []⟩ := by kernel_rfl
@[go_sem] theorem fact_ty172 : tyOf Tryz.prog 172 = some ⟨true, 0, []⟩ := by kernel_rfl
@[go_sem] theorem fact_ty173 : tyOf Tryz.prog 173 = some ⟨false, 1, [.nilFunc]⟩ := by kernel_rfl
@[go_sem] theorem fact_isint174 : isIntT Tryz.prog 174 = true := by kernel_rfl
@[go_sem] theorem fact_ty174 : tyOf Tryz.prog 174 = some ⟨false, 1, [.int .u8 0]⟩ := by kernel_rfl
@[go_sem] theorem fact_isint175 : isIntT Tryz.prog 175 = true := by kernel_rfl
@[go_sem] theorem fact_ty175 : tyOf Tryz.prog 175 = some ⟨false, 1, [.int .u8 0]⟩ := by kernel_rfl
@[go_sem] theorem fact_ty176 : tyOf Tryz.prog 176 = some ⟨false, 1, [.nilFunc]⟩ := by kernel_rfl
@[go_sem] theorem fact_isint177 : isIntT Tryz.prog 177 = true := by kernel_rfl
@[go_sem] theorem fact_ty177 : tyOf Tryz.prog 177 = some ⟨false, 1, [.int .i32 0]⟩ := by kernel_rfl
@[go_sem] theorem fact_isint178 : isIntT Tryz.prog 178 = true := by kernel_rfl
@[go_sem] theorem fact_ty178 : tyOf Tryz.prog 178 = some ⟨false, 1, [.int .i32 0]⟩ := by kernel_rfl
@[go_sem] theorem fact_ty179 : tyOf Tryz.prog 179 = some ⟨true, 11, [.int .u64 0, .int .u64 0, .int .u32 0, .int .u8 0, .int .u8 0, .int .u8 0, .int .u8 0, .nilFunc, .pointer none, .int .i32 0, .int .i32 0]⟩ := by kernel_rfl
@[go_sem] theorem fact_fld179_0 : fldOf Tryz.prog 179 0 = some ⟨0, 1, false⟩ := by kernel_rfl
@[go_sem] theorem fact_fld179_1 : fldOf Tryz.prog 179 1 = some ⟨1, 1, false⟩ := by kernel_rfl
@[go_sem] theorem fact_fld179_2 : fldOf Tryz.prog 179 2 = some ⟨2, 1, false⟩ := by kernel_rfl
@[go_sem] theorem fact_fld179_3 : fldOf Tryz.prog 179 3 = some ⟨3, 1, false⟩ := by kernel_rfl
@[go_sem] theorem fact_fld179_4 : fldOf Tryz.prog 179 4 = some ⟨4, 1, false⟩ := by kernel_rfl
@[go_sem] theorem fact_fld179_5 : fldOf Tryz.prog 179 5 = some ⟨5, 1, false⟩ := by kernel_rfl
@[go_sem] theorem fact_fld179_6 : fldOf Tryz.prog 179 6 = some ⟨6, 1, false⟩ := by kernel_rfl
@[go_sem] theorem fact_fld179_7 : fldOf Tryz.prog 179 7 = some ⟨7, 1, false⟩ := by kernel_rfl
@[go_sem] theorem fact_fld179_8 : fldOf Tryz.prog 179 8 = some ⟨8, 1, false⟩ := by kernel_rfl
@[go_sem] theorem fact_fld179_9 : fldOf Tryz.prog 179 9 = some ⟨9, 1, false⟩ := by kernel_rfl
@[go_sem] theorem fact_fld179_10 : fldOf Tryz.prog 179 10 = some ⟨10, 1, false⟩ := by kernel_rfl
@[go_sem] theorem fact_bld179 : bldOf Tryz.prog 179 = some ⟨11, [.int .u64 0, .int .u64 0, .int .u32 0, .int .u8 0, .int .u8 0, .int .u8 0, .int .u8 0, .nilFunc, .pointer none, .int .i32 0, .int .i32 0], [(0, 1), (1, 1), (2, 1), (3, 1), (4, 1), (5, 1), (6, 1), (7, 1), (8, 1), (9, 1), (10, 1)]⟩ := by kernel_rfl
@[go_sem] theorem fact_ty180 : tyOf Tryz.prog 180 = some ⟨true, 11, [.int .u64 0, .int .u64 0, .int .u32 0, .int .u8 0, .int .u8 0, .int .u8 0, .int .u8 0, .nilFunc, .pointer none, .int .i32 0, .int .i32 0]⟩ := by kernel_rfl
@[go_sem] theorem fact_fld180_0 : fldOf Tryz.prog 180 0 = some ⟨0, 1, false⟩ := by kernel_rfl
@[go_sem] theorem fact_fld180_1 : fldOf Tryz.prog 180 1 = some ⟨1, 1, false⟩ := by kernel_rfl
@[go_sem] theorem fact_fld180_2 : fldOf Tryz.prog 180 2 = some ⟨2, 1, false⟩ := by kernel_rfl
@[go_sem] theorem fact_fld180_3 : fldOf Tryz.prog 180 3 = some ⟨3, 1, false⟩ := by kernel_rfl
@[go_sem] theorem fact_fld180_4 : fldOf Tryz.prog 180 4 = some ⟨4, 1, false⟩ := by kernel_rfl
@[go_sem] theorem fact_fld180_5 : fldOf Tryz.prog 180 5 = some ⟨5, 1, false⟩ := by kernel_rfl
@[go_sem] theorem fact_fld180_6 : fldOf Tryz.prog 180 6 = some ⟨6, 1, false⟩ := by kernel_rfl
@[go_sem] theorem fact_fld180_7 : fldOf Tryz.prog 180 7 = some ⟨7, 1, false⟩ := by kernel_rfl
@[go_sem] theorem fact_fld180_8 : fldOf Tryz.prog 180 8 = some ⟨8, 1, false⟩ := by kernel_rfl
@[go_sem] theorem fact_fld180_9 : fldOf Tryz.prog 180 9 = some ⟨9, 1, false⟩ := by kernel_rfl
@[go_sem] theorem fact_fld180_10 : fldOf Tryz.prog 180 10 = some ⟨10, 1, false⟩ := by kernel_rfl
@[go_sem] theorem fact_bld180 : bldOf Tryz.prog 180 = some ⟨11, [.int .u64 0, .int .u64 0, .int .u32 0, .int .u8 0, .int .u8 0, .int .u8 0, .int .u8 0, .nilFunc, .pointer none, .int .i32 0, .int .i32 0], [(0, 1), (1, 1), (2, 1), (3, 1), (4, 1), (5, 1), (6, 1), (7, 1), (8, 1), (9, 1), (10, 1)]⟩ := by kernel_rfl
@[go_sem] theorem fact_cv2_2 : cvT Tryz.prog 2 2 = .int .i64 := by kernel_rfl
@[go_sem] theorem fact_cv2_3 : cvT Tryz.prog 2 3 = .int .i64 := by kernel_rfl
@[go_sem] theorem fact_cv2_5 : cvT Tryz.prog 2 5 = .int .u8 := by kernel_rfl
@[go_sem] theorem fact_cv2_12 : cvT Tryz.prog 2 12 = .int .u64 := by kernel_rfl
@[go_sem] theorem fact_cv2_21 : cvT Tryz.prog 2 21 = .int .i32 := by kernel_rfl
@[go_sem] theorem fact_cv2_43 : cvT Tryz.prog 2 43 = .int .u64 := by kernel_rfl
@[go_sem] theorem fact_cv2_76 : cvT Tryz.prog 2 76 = .int .u64 := by kernel_rfl
@[go_sem] theorem fact_cv2_147 : cvT Tryz.prog 2 147 = .int .u32 := by kernel_rfl
@[go_sem] theorem fact_cv3_2 : cvT Tryz.prog 3 2 = .int .i64 := by kernel_rfl
@[go_sem] theorem fact_cv3_3 : cvT Tryz.prog 3 3 = .int .i64 := by kernel_rfl
@[go_sem] theorem fact_cv3_5 : cvT Tryz.prog 3 5 = .int .u8 := by kernel_rfl
@[go_sem] theorem fact_cv3_12 : cvT Tryz.prog 3 12 = .int .u64 := by kernel_rfl
@[go_sem] theorem fact_cv3_21 : cvT Tryz.prog 3 21 = .int .i32 := by kernel_rfl
@[go_sem] theorem fact_cv3_43 : cvT Tryz.prog 3 43 = .int .u64 := by kernel_rfl
@[go_sem] theorem fact_cv3_76 : cvT Tryz.prog 3 76 = .int .u64 := by kernel_rfl
@[go_sem] theorem fact_cv3_147 : cvT Tryz.prog 3 147 = .int .u32 := by kernel_rfl
@[go_sem] theorem fact_cv5_2 : cvT Tryz.prog 5 2 = .int .i64 := by kernel_rfl
@[go_sem] theorem fact_cv5_3 : cvT Tryz.prog 5 3 = .int .i64 := by kernel_rfl
@[go_sem] theorem fact_cv5_5 : cvT Tryz.prog 5 5 = .int .u8 := by kernel_rfl
@[go_sem] theorem fact_cv5_12 : cvT Tryz.prog 5 12 = .int .u64 := by kernel_rfl
@[go_sem] theorem fact_cv5_21 : cvT Tryz.prog 5 21 = .int .i32 := by kernel_rfl
@[go_sem] theorem fact_cv5_43 : cvT Tryz.prog 5 43 = .int .u64 := by kernel_rfl
@[go_sem] theorem fact_cv5_76 : cvT Tryz.prog 5 76 = .int .u64 := by kernel_rfl
@[go_sem] theorem fact_cv5_147 : cvT Tryz.prog 5 147 = .int .u32 := by kernel_rfl
@[go_sem] theorem fact_cv12_2 : cvT Tryz.prog 12 2 = .int .i64 := by kernel_rfl
@[go_sem] theorem fact_cv12_3 : cvT Tryz.prog 12 3 = .int .i64 := by kernel_rfl
@[go_sem] theorem fact_cv12_5 : cvT Tryz.prog 12 5 = .int .u8 := by kernel_rfl
@[go_sem] theorem fact_cv12_12 : cvT Tryz.prog 12 12 = .int .u64 := by kernel_rfl
@[go_sem] theorem fact_cv12_21 : cvT Tryz.prog 12 21 = .int .i32 := by kernel_rfl
@[go_sem] theorem fact_cv12_43 : cvT Tryz.prog 12 43 = .int .u64 := by kernel_rfl
@[go_sem] theorem fact_cv12_76 : cvT Tryz.prog 12 76 = .int .u64 := by kernel_rfl
@[go_sem] theorem fact_cv12_147 : cvT Tryz.prog 12 147 = .int .u32 := by kernel_rfl
@[go_sem] theorem fact_cv21_2 : cvT Tryz.prog 21 2 = .int .i64 := by kernel_rfl
@[go_sem] theorem fact_cv21_3 : cvT Tryz.prog 21 3 = .int .i64 := by kernel_rfl
@[go_sem] theorem fact_cv21_5 : cvT Tryz.prog 21 5 = .int .u8 := by kernel_rfl
@[go_sem] theorem fact_cv21_12 : cvT Tryz.prog 21 12 = .int .u64 := by kernel_rfl
@[go_sem] theorem fact_cv21_21 : cvT Tryz.prog 21 21 = .int .i32 := by kernel_rfl
@[go_sem] theorem fact_cv21_43 : cvT Tryz.prog 21 43 = .int .u64 := by kernel_rfl
@[go_sem] theorem fact_cv21_76 : cvT Tryz.prog 21 76 = .int .u64 := by kernel_rfl
@[go_sem] theorem fact_cv21_147 : cvT Tryz.prog 21 147 = .int .u32 := by kernel_rfl
@[go_sem] theorem fact_cv43_2 : cvT Tryz.prog 43 2 = .int .i64 := by kernel_rfl
@[go_sem] theorem fact_cv43_3 : cvT Tryz.prog 43 3 = .int .i64 := by kernel_rfl
@[go_sem] theorem fact_cv43_5 : cvT Tryz.prog 43 5 = .int .u8 := by kernel_rfl
@[go_sem] theorem fact_cv43_12 : cvT Tryz.prog 43 12 = .int .u64 := by kernel_rfl
@[go_sem] theorem fact_cv43_21 : cvT Tryz.prog 43 21 = .int .i32 := by kernel_rfl
@[go_sem] theorem fact_cv43_43 : cvT Tryz.prog 43 43 = .int .u64 := by kernel_rfl
@[go_sem] theorem fact_cv43_76 : cvT Tryz.prog 43 76 = .int .u64 := by kernel_rfl
@[go_sem] theorem fact_cv43_147 : cvT Tryz.prog 43 147 = .int .u32 := by kernel_rfl
@[go_sem] theorem fact_cv76_2 : cvT Tryz.prog 76 2 = .int .i64 := by kernel_rfl
@[go_sem] theorem fact_cv76_3 : cvT Tryz.prog 76 3 = .int .i64 := by kernel_rfl
@[go_sem] theorem fact_cv76_5 : cvT Tryz.prog 76 5 = .int .u8 := by kernel_rfl
@[go_sem] theorem fact_cv76_12 : cvT Tryz.prog 76 12 = .int .u64 := by kernel_rfl
@[go_sem] theorem fact_cv76_21 : cvT Tryz.prog 76 21 = .int .i32 := by kernel_rfl
@[go_sem] theorem fact_cv76_43 : cvT Tryz.prog 76 43 = .int .u64 := by kernel_rfl
@[go_sem] theorem fact_cv76_76 : cvT Tryz.prog 76 76 = .int .u64 := by kernel_rfl
@[go_sem] theorem fact_cv76_147 : cvT Tryz.prog 76 147 = .int .u32 := by kernel_rfl
@[go_sem] theorem fact_cv147_2 : cvT Tryz.prog 147 2 = .int .i64 := by kernel_rfl
@[go_sem] theorem fact_cv147_3 : cvT Tryz.prog 147 3 = .int .i64 := by kernel_rfl
@[go_sem] theorem fact_cv147_5 : cvT Tryz.prog 147 5 = .int .u8 := by kernel_rfl
@[go_sem] theorem fact_cv147_12 : cvT Tryz.prog 147 12 = .int .u64 := by kernel_rfl
@[go_sem] theorem fact_cv147_21 : cvT Tryz.prog 147 21 = .int .i32 := by kernel_rfl
@[go_sem] theorem fact_cv147_43 : cvT Tryz.prog 147 43 = .int .u64 := by kernel_rfl
@[go_sem] theorem fact_cv147_76 : cvT Tryz.prog 147 76 = .int .u64 := by kernel_rfl
@[go_sem] theorem fact_cv147_147 : cvT Tryz.prog 147 147 = .int .u32 := by kernel_rfl
@[go_sem] theorem fact_cv9_9 : cvT Tryz.prog 9 9 = .same := by kernel_rfl
@[go_sem] theorem fact_cv9_10 : cvT Tryz.prog 9 10 = .same := by kernel_rfl
@[go_sem] theorem fact_cv9_11 : cvT Tryz.prog 9 11 = .same := by kernel_rfl
@[go_sem] theorem fact_cv9_30 : cvT Tryz.prog 9 30 = .bytes 5 := by kernel_rfl
@[go_sem] theorem fact_cv30_9 : cvT Tryz.prog 30 9 = .str := by kernel_rfl
@[go_sem] theorem fact_cv10_9 : cvT Tryz.prog 10 9 = .same := by kernel_rfl
@[go_sem] theorem fact_cv10_10 : cvT Tryz.prog 10 10 = .same := by kernel_rfl
@[go_sem] theorem fact_cv10_11 : cvT Tryz.prog 10 11 = .same := by kernel_rfl
@[go_sem] theorem fact_cv10_30 : cvT Tryz.prog 10 30 = .bytes 5 := by kernel_rfl
@[go_sem] theorem fact_cv30_10 : cvT Tryz.prog 30 10 = .str := by kernel_rfl
@[go_sem] theorem fact_cv11_9 : cvT Tryz.prog 11 9 = .same := by kernel_rfl
@[go_sem] theorem fact_cv11_10 : cvT Tryz.prog 11 10 = .same := by kernel_rfl
@[go_sem] theorem fact_cv11_11 : cvT Tryz.prog 11 11 = .same := by kernel_rfl
@[go_sem] theorem fact_cv11_30 : cvT Tryz.prog 11 30 = .bytes 5 := by kernel_rfl
@[go_sem] theorem fact_cv30_11 : cvT Tryz.prog 30 11 = .str := by kernel_rfl

end Go.Proofs.YtpffmolibjimgaaGreatDoor
end
