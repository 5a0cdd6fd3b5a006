import Derived.Test.YticbabpajligbaaDoorRows
import Derived.Test.YticbabpajligbaaDoorK2
import Derived.KernelRfl
/- The facts on types that the walk over abstract values wants, in this seat's numbers. Written by facts.py. -/
section
namespace Go.Proofs.YticbabpajligbaaDoor
open Go.Av

@[go_sem] theorem fact_ty1 : tyOf Tryd.prog 1 = some ⟨false, 1, [.nilFunc]⟩ := by kernel_rfl
@[go_sem] theorem fact_isint2 : isIntT Tryd.prog 2 = true := by kernel_rfl
@[go_sem] theorem fact_ty2 : tyOf Tryd.prog 2 = some ⟨false, 1, [.int .i64 0]⟩ := by kernel_rfl
@[go_sem] theorem fact_isint3 : isIntT Tryd.prog 3 = true := by kernel_rfl
@[go_sem] theorem fact_ty3 : tyOf Tryd.prog 3 = some ⟨false, 1, [.int .i64 0]⟩ := by kernel_rfl
@[go_sem] theorem fact_eq4 : eqT Tryd.prog 4 = .bool := by kernel_rfl
@[go_sem] theorem fact_ty4 : tyOf Tryd.prog 4 = some ⟨false, 1, [.bool false]⟩ := by kernel_rfl
@[go_sem] theorem fact_isint5 : isIntT Tryd.prog 5 = true := by kernel_rfl
@[go_sem] theorem fact_ty5 : tyOf Tryd.prog 5 = some ⟨false, 1, [.int .u8 0]⟩ := by kernel_rfl
@[go_sem] theorem fact_isint6 : isIntT Tryd.prog 6 = true := by kernel_rfl
@[go_sem] theorem fact_ty6 : tyOf Tryd.prog 6 = some ⟨false, 1, [.int .u8 0]⟩ := by kernel_rfl
@[go_sem] theorem fact_ty7 : tyOf Tryd.prog 7 = some ⟨true, 4, [.int .i64 0, .int .i64 0, .bool false, .int .u8 0]⟩ := by kernel_rfl
@[go_sem] theorem fact_fld7_0 : fldOf Tryd.prog 7 0 = some ⟨0, 1, false⟩ := by kernel_rfl
@[go_sem] theorem fact_fld7_1 : fldOf Tryd.prog 7 1 = some ⟨1, 1, false⟩ := by kernel_rfl
@[go_sem] theorem fact_fld7_2 : fldOf Tryd.prog 7 2 = some ⟨2, 1, false⟩ := by kernel_rfl
@[go_sem] theorem fact_fld7_3 : fldOf Tryd.prog 7 3 = some ⟨3, 1, false⟩ := by kernel_rfl
@[go_sem] theorem fact_bld7 : bldOf Tryd.prog 7 = some ⟨4, [.int .i64 0, .int .i64 0, .bool false, .int .u8 0], [(0, 1), (1, 1), (2, 1), (3, 1)]⟩ := by kernel_rfl
@[go_sem] theorem fact_ty8 : tyOf Tryd.prog 8 = some ⟨true, 4, [.int .i64 0, .int .i64 0, .bool false, .int .u8 0]⟩ := by kernel_rfl
@[go_sem] theorem fact_fld8_0 : fldOf Tryd.prog 8 0 = some ⟨0, 1, false⟩ := by kernel_rfl
@[go_sem] theorem fact_fld8_1 : fldOf Tryd.prog 8 1 = some ⟨1, 1, false⟩ := by kernel_rfl
@[go_sem] theorem fact_fld8_2 : fldOf Tryd.prog 8 2 = some ⟨2, 1, false⟩ := by kernel_rfl
@[go_sem] theorem fact_fld8_3 : fldOf Tryd.prog 8 3 = some ⟨3, 1, false⟩ := by kernel_rfl
@[go_sem] theorem fact_bld8 : bldOf Tryd.prog 8 = some ⟨4, [.int .i64 0, .int .i64 0, .bool false, .int .u8 0], [(0, 1), (1, 1), (2, 1), (3, 1)]⟩ := by kernel_rfl
@[go_sem] theorem fact_len9 : lenT Tryd.prog 9 = .str := by kernel_rfl
@[go_sem] theorem fact_st9 : isStr Tryd.prog 9 = true := by kernel_rfl
@[go_sem] theorem fact_sl9 : slT Tryd.prog 9 = .str := by kernel_rfl
@[go_sem] theorem fact_ty9 : tyOf Tryd.prog 9 = some ⟨false, 1, [.string ⟨#[]⟩]⟩ := by kernel_rfl
@[go_sem] theorem fact_len10 : lenT Tryd.prog 10 = .str := by kernel_rfl
@[go_sem] theorem fact_st10 : isStr Tryd.prog 10 = true := by kernel_rfl
@[go_sem] theorem fact_sl10 : slT Tryd.prog 10 = .str := by kernel_rfl
@[go_sem] theorem fact_ty10 : tyOf Tryd.prog 10 = some ⟨false, 1, [.string ⟨#[]⟩]⟩ := by kernel_rfl
@[go_sem] theorem fact_len11 : lenT Tryd.prog 11 = .str := by kernel_rfl
@[go_sem] theorem fact_st11 : isStr Tryd.prog 11 = true := by kernel_rfl
@[go_sem] theorem fact_sl11 : slT Tryd.prog 11 = .str := by kernel_rfl
@[go_sem] theorem fact_ty11 : tyOf Tryd.prog 11 = some ⟨false, 1, [.string ⟨#[]⟩]⟩ := by kernel_rfl
@[go_sem] theorem fact_isint12 : isIntT Tryd.prog 12 = true := by kernel_rfl
@[go_sem] theorem fact_ty12 : tyOf Tryd.prog 12 = some ⟨false, 1, [.int .u64 0]⟩ := by kernel_rfl
@[go_sem] theorem fact_ty13 : tyOf Tryd.prog 13 = some ⟨true, 2, [.string ⟨#[]⟩, .int .u64 0]⟩ := by kernel_rfl
@[go_sem] theorem fact_fld13_0 : fldOf Tryd.prog 13 0 = some ⟨0, 1, false⟩ := by kernel_rfl
@[go_sem] theorem fact_fld13_1 : fldOf Tryd.prog 13 1 = some ⟨1, 1, false⟩ := by kernel_rfl
@[go_sem] theorem fact_bld13 : bldOf Tryd.prog 13 = some ⟨2, [.string ⟨#[]⟩, .int .u64 0], [(0, 1), (1, 1)]⟩ := by kernel_rfl
@[go_sem] theorem fact_ty14 : tyOf Tryd.prog 14 = some ⟨true, 2, [.string ⟨#[]⟩, .int .u64 0]⟩ := by kernel_rfl
@[go_sem] theorem fact_fld14_0 : fldOf Tryd.prog 14 0 = some ⟨0, 1, false⟩ := by kernel_rfl
@[go_sem] theorem fact_fld14_1 : fldOf Tryd.prog 14 1 = some ⟨1, 1, false⟩ := by kernel_rfl
@[go_sem] theorem fact_bld14 : bldOf Tryd.prog 14 = some ⟨2, [.string ⟨#[]⟩, .int .u64 0], [(0, 1), (1, 1)]⟩ := by kernel_rfl
@[go_sem] theorem fact_eq15 : eqT Tryd.prog 15 = .ptr := by kernel_rfl
@[go_sem] theorem fact_ty15 : tyOf Tryd.prog 15 = some ⟨false, 1, [.pointer none]⟩ := by kernel_rfl
@[go_sem] theorem fact_eq16 : eqT Tryd.prog 16 = .ptr := by kernel_rfl
@[go_sem] theorem fact_ty16 : tyOf Tryd.prog 16 = some ⟨false, 1, [.pointer none]⟩ := by kernel_rfl
@[go_sem] theorem fact_eq17 : eqT Tryd.prog 17 = .ptr := by kernel_rfl
@[go_sem] theorem fact_ty17 : tyOf Tryd.prog 17 = some ⟨false, 1, [.pointer none]⟩ := by kernel_rfl
@[go_sem] theorem fact_ty18 : tyOf Tryd.prog 18 = some ⟨true, 1, [.pointer none]⟩ := by kernel_rfl
@[go_sem] theorem fact_fld18_0 : fldOf Tryd.prog 18 0 = some ⟨0, 1, false⟩ := by kernel_rfl
@[go_sem] theorem fact_bld18 : bldOf Tryd.prog 18 = some ⟨1, [.pointer none], [(0, 1)]⟩ := by kernel_rfl
@[go_sem] theorem fact_ty19 : tyOf Tryd.prog 19 = some ⟨true, 1, [.pointer none]⟩ := by kernel_rfl
@[go_sem] theorem fact_fld19_0 : fldOf Tryd.prog 19 0 = some ⟨0, 1, false⟩ := by kernel_rfl
@[go_sem] theorem fact_bld19 : bldOf Tryd.prog 19 = some ⟨1, [.pointer none], [(0, 1)]⟩ := by kernel_rfl
@[go_sem] theorem fact_isint21 : isIntT Tryd.prog 21 = true := by kernel_rfl
@[go_sem] theorem fact_ty21 : tyOf Tryd.prog 21 = some ⟨false, 1, [.int .i32 0]⟩ := by kernel_rfl
@[go_sem] theorem fact_sel22 : selOf Tryd.prog 22 = some ⟨2, 1, 8, [.int .i64 0]⟩ := by kernel_rfl
@[go_sem] theorem fact_ix22 : ixOf Tryd.prog 22 = some (.sl 1) := by kernel_rfl
@[go_sem] theorem fact_eq22 : eqT Tryd.prog 22 = .slice := by kernel_rfl
@[go_sem] theorem fact_len22 : lenT Tryd.prog 22 = .slice := by kernel_rfl
@[go_sem] theorem fact_sl22 : slT Tryd.prog 22 = .slice 1 := by kernel_rfl
@[go_sem] theorem fact_ty22 : tyOf Tryd.prog 22 = some ⟨false, 1, [.slice none 0 0]⟩ := by kernel_rfl
@[go_sem] theorem fact_ty23 : tyOf Tryd.prog 23 = some ⟨false, 1, [.nilFunc]⟩ := by kernel_rfl
@[go_sem] theorem fact_ty24 : tyOf Tryd.prog 24 = some ⟨false, 1, [.nilFunc]⟩ := by kernel_rfl
@[go_sem] theorem fact_ty25 : tyOf Tryd.prog 25 = some ⟨false, 1, [.nilFunc]⟩ := by kernel_rfl
@[go_sem] theorem fact_ty26 : tyOf Tryd.prog 26 = some ⟨false, 1, [.nilFunc]⟩ := by kernel_rfl
@[go_sem] theorem fact_sel27 : selOf Tryd.prog 27 = some ⟨68, 6, 64, [.int .i64 0, .int .i64 0, .int .i64 0, .int .i64 0, .int .i64 0, .slice none 0 0]⟩ := by kernel_rfl
@[go_sem] theorem fact_ix27 : ixOf Tryd.prog 27 = some (.sl 6) := by kernel_rfl
@[go_sem] theorem fact_eq27 : eqT Tryd.prog 27 = .slice := by kernel_rfl
@[go_sem] theorem fact_len27 : lenT Tryd.prog 27 = .slice := by kernel_rfl
@[go_sem] theorem fact_sl27 : slT Tryd.prog 27 = .slice 6 := by kernel_rfl
@[go_sem] theorem fact_ty27 : tyOf Tryd.prog 27 = some ⟨false, 1, [.slice none 0 0]⟩ := by kernel_rfl
@[go_sem] theorem fact_ty28 : tyOf Tryd.prog 28 = some ⟨false, 1, [.nilFunc]⟩ := by kernel_rfl
@[go_sem] theorem fact_ty29 : tyOf Tryd.prog 29 = some ⟨false, 1, [.nilFunc]⟩ := by kernel_rfl
@[go_sem] theorem fact_sel30 : selOf Tryd.prog 30 = some ⟨70, 6, 64, [.int .i64 0, .int .i64 0, .int .i64 0, .int .i64 0, .int .i64 0, .slice none 0 0]⟩ := by kernel_rfl
@[go_sem] theorem fact_ix30 : ixOf Tryd.prog 30 = some (.sl 6) := by kernel_rfl
@[go_sem] theorem fact_eq30 : eqT Tryd.prog 30 = .slice := by kernel_rfl
@[go_sem] theorem fact_len30 : lenT Tryd.prog 30 = .slice := by kernel_rfl
@[go_sem] theorem fact_sl30 : slT Tryd.prog 30 = .slice 6 := by kernel_rfl
@[go_sem] theorem fact_ty30 : tyOf Tryd.prog 30 = some ⟨false, 1, [.slice none 0 0]⟩ := by kernel_rfl
@[go_sem] theorem fact_ty31 : tyOf Tryd.prog 31 = some ⟨false, 1, [.nilFunc]⟩ := by kernel_rfl
@[go_sem] theorem fact_ty32 : tyOf Tryd.prog 32 = some ⟨false, 1, [.nilFunc]⟩ := by kernel_rfl
@[go_sem] theorem fact_ty33 : tyOf Tryd.prog 33 = some ⟨false, 1, [.nilFunc]⟩ := by kernel_rfl
@[go_sem] theorem fact_sel34 : selOf Tryd.prog 34 = some ⟨5, 1, 1, [.int .u8 0]⟩ := by kernel_rfl
@[go_sem] theorem fact_ix34 : ixOf Tryd.prog 34 = some (.sl 1) := by kernel_rfl
@[go_sem] theorem fact_eq34 : eqT Tryd.prog 34 = .slice := by kernel_rfl
@[go_sem] theorem fact_len34 : lenT Tryd.prog 34 = .slice := by kernel_rfl
@[go_sem] theorem fact_sl34 : slT Tryd.prog 34 = .slice 1 := by kernel_rfl
@[go_sem] theorem fact_ty34 : tyOf Tryd.prog 34 = some ⟨false, 1, [.slice none 0 0]⟩ := by kernel_rfl
@[go_sem] theorem fact_ty35 : tyOf Tryd.prog 35 = some ⟨false, 1, [.nilFunc]⟩ := by kernel_rfl
@[go_sem] theorem fact_eq36 : eqT Tryd.prog 36 = .ptr := by kernel_rfl
@[go_sem] theorem fact_ty36 : tyOf Tryd.prog 36 = some ⟨false, 1, [.pointer none]⟩ := by kernel_rfl
@[go_sem] theorem fact_ty37 : tyOf Tryd.prog 37 = some ⟨false, 1, [.nilFunc]⟩ := by kernel_rfl
@[go_sem] theorem fact_isint38 : isIntT Tryd.prog 38 = true := by kernel_rfl
@[go_sem] theorem fact_ty38 : tyOf Tryd.prog 38 = some ⟨false, 1, [.int .u64 0]⟩ := by kernel_rfl
@[go_sem] theorem fact_ty39 : tyOf Tryd.prog 39 = some ⟨false, 1, [.nilFunc]⟩ := by kernel_rfl
@[go_sem] theorem fact_ty41 : tyOf Tryd.prog 41 = some ⟨false, 1, [.nilFunc]⟩ := by kernel_rfl
@[go_sem] theorem fact_ty42 : tyOf Tryd.prog 42 = some ⟨false, 1, [.nilFunc]⟩ := by kernel_rfl
@[go_sem] theorem fact_ty43 : tyOf Tryd.prog 43 = some ⟨false, 1, [.nilFunc]⟩ := by kernel_rfl
@[go_sem] theorem fact_ty44 : tyOf Tryd.prog 44 = some ⟨false, 1, [.nilFunc]⟩ := by kernel_rfl
@[go_sem] theorem fact_ty46 : tyOf Tryd.prog 46 = some ⟨false, 1, [.nilFunc]⟩ := by kernel_rfl
@[go_sem] theorem fact_ty47 : tyOf Tryd.prog 47 = some ⟨false, 1, [.nilFunc]⟩ := by kernel_rfl
@[go_sem] theorem fact_sel48 : selOf Tryd.prog 48 = some ⟨22, 1, 24, [.slice none 0 0]⟩ := by kernel_rfl
@[go_sem] theorem fact_ix48 : ixOf Tryd.prog 48 = some (.sl 1) := by kernel_rfl
@[go_sem] theorem fact_eq48 : eqT Tryd.prog 48 = .slice := by kernel_rfl
@[go_sem] theorem fact_len48 : lenT Tryd.prog 48 = .slice := by kernel_rfl
@[go_sem] theorem fact_sl48 : slT Tryd.prog 48 = .slice 1 := by kernel_rfl
@[go_sem] theorem fact_ty48 : tyOf Tryd.prog 48 = some ⟨false, 1, [.slice none 0 0]⟩ := by kernel_rfl
@[go_sem] theorem fact_ty49 : tyOf Tryd.prog 49 = some ⟨true, 3, [.int .i64 0, .string ⟨#[]⟩, .slice none 0 0]⟩ := by kernel_rfl
@[go_sem] theorem fact_fld49_0 : fldOf Tryd.prog 49 0 = some ⟨0, 1, false⟩ := by kernel_rfl
@[go_sem] theorem fact_fld49_1 : fldOf Tryd.prog 49 1 = some ⟨1, 1, false⟩ := by kernel_rfl
@[go_sem] theorem fact_fld49_2 : fldOf Tryd.prog 49 2 = some ⟨2, 1, false⟩ := by kernel_rfl
@[go_sem] theorem fact_bld49 : bldOf Tryd.prog 49 = some ⟨3, [.int .i64 0, .string ⟨#[]⟩, .slice none 0 0], [(0, 1), (1, 1), (2, 1)]⟩ := by kernel_rfl
@[go_sem] theorem fact_ty50 : tyOf Tryd.prog 50 = some ⟨true, 3, [.int .i64 0, .string ⟨#[]⟩, .slice none 0 0]⟩ := by kernel_rfl
@[go_sem] theorem fact_fld50_0 : fldOf Tryd.prog 50 0 = some ⟨0, 1, false⟩ := by kernel_rfl
@[go_sem] theorem fact_fld50_1 : fldOf Tryd.prog 50 1 = some ⟨1, 1, false⟩ := by kernel_rfl
@[go_sem] theorem fact_fld50_2 : fldOf Tryd.prog 50 2 = some ⟨2, 1, false⟩ := by kernel_rfl
@[go_sem] theorem fact_bld50 : bldOf Tryd.prog 50 = some ⟨3, [.int .i64 0, .string ⟨#[]⟩, .slice none 0 0], [(0, 1), (1, 1), (2, 1)]⟩ := by kernel_rfl
@[go_sem] theorem fact_ty51 : tyOf Tryd.prog 51 = some ⟨false, 1, [.nilFunc]⟩ := by kernel_rfl
@[go_sem] theorem fact_ty52 : tyOf Tryd.prog 52 = some ⟨false, 1, [.nilFunc]⟩ := by kernel_rfl
@[go_sem] theorem fact_ty53 : tyOf Tryd.prog 53 = some ⟨false, 1, [.nilFunc]⟩ := by kernel_rfl
@[go_sem] theorem fact_ty54 : tyOf Tryd.prog 54 = some ⟨false, 1, [.nilFunc]⟩ := by kernel_rfl
@[go_sem] theorem fact_ty55 : tyOf Tryd.prog 55 = some ⟨false, 1, [.nilFunc]⟩ := by kernel_rfl
@[go_sem] theorem fact_ty56 : tyOf Tryd.prog 56 = some ⟨false, 1, [.nilFunc]⟩ := by kernel_rfl
@[go_sem] theorem fact_ty57 : tyOf Tryd.prog 57 = some ⟨false, 1, [.nilFunc]⟩ := by kernel_rfl
@[go_sem] theorem fact_sel58 : selOf Tryd.prog 58 = some ⟨9, 1, 16, [.string ⟨#[]⟩]⟩ := by kernel_rfl
@[go_sem] theorem fact_ix58 : ixOf Tryd.prog 58 = some (.sl 1) := by kernel_rfl
@[go_sem] theorem fact_eq58 : eqT Tryd.prog 58 = .slice := by kernel_rfl
@[go_sem] theorem fact_len58 : lenT Tryd.prog 58 = .slice := by kernel_rfl
@[go_sem] theorem fact_sl58 : slT Tryd.prog 58 = .slice 1 := by kernel_rfl
@[go_sem] theorem fact_ty58 : tyOf Tryd.prog 58 = some ⟨false, 1, [.slice none 0 0]⟩ := by kernel_rfl
@[go_sem] theorem fact_ty59 : tyOf Tryd.prog 59 = some ⟨false, 1, [.nilFunc]⟩ := by kernel_rfl
@[go_sem] theorem fact_ty60 : tyOf Tryd.prog 60 = some ⟨false, 1, [.nilFunc]⟩ := by kernel_rfl
@[go_sem] theorem fact_ty61 : tyOf Tryd.prog 61 = some ⟨false, 1, [.nilFunc]⟩ := by kernel_rfl
@[go_sem] theorem fact_ty62 : tyOf Tryd.prog 62 = some ⟨false, 1, [.nilFunc]⟩ := by kernel_rfl
@[go_sem] theorem fact_ty63 : tyOf Tryd.prog 63 = some ⟨false, 1, [.nilFunc]⟩ := by kernel_rfl
@[go_sem] theorem fact_ty64 : tyOf Tryd.prog 64 = some ⟨false, 1, [.nilFunc]⟩ := by kernel_rfl
@[go_sem] theorem fact_ty65 : tyOf Tryd.prog 65 = some ⟨false, 1, [.nilFunc]⟩ := by kernel_rfl
@[go_sem] theorem fact_ty66 : tyOf Tryd.prog 66 = some ⟨false, 1, [.nilFunc]⟩ := by kernel_rfl
@[go_sem] theorem fact_ty67 : tyOf Tryd.prog 67 = some ⟨true, 6, [.int .i64 0, .int .i64 0, .int .i64 0, .int .i64 0, .int .i64 0, .slice none 0 0]⟩ := by kernel_rfl
@[go_sem] theorem fact_fld67_0 : fldOf Tryd.prog 67 0 = some ⟨0, 1, false⟩ := by kernel_rfl
@[go_sem] theorem fact_fld67_1 : fldOf Tryd.prog 67 1 = some ⟨1, 1, false⟩ := by kernel_rfl
@[go_sem] theorem fact_fld67_2 : fldOf Tryd.prog 67 2 = some ⟨2, 1, false⟩ := by kernel_rfl
@[go_sem] theorem fact_fld67_3 : fldOf Tryd.prog 67 3 = some ⟨3, 1, false⟩ := by kernel_rfl
@[go_sem] theorem fact_fld67_4 : fldOf Tryd.prog 67 4 = some ⟨4, 1, false⟩ := by kernel_rfl
@[go_sem] theorem fact_fld67_5 : fldOf Tryd.prog 67 5 = some ⟨5, 1, false⟩ := by kernel_rfl
@[go_sem] theorem fact_bld67 : bldOf Tryd.prog 67 = some ⟨6, [.int .i64 0, .int .i64 0, .int .i64 0, .int .i64 0, .int .i64 0, .slice none 0 0], [(0, 1), (1, 1), (2, 1), (3, 1), (4, 1), (5, 1)]⟩ := by kernel_rfl
@[go_sem] theorem fact_ty68 : tyOf Tryd.prog 68 = some ⟨true, 6, [.int .i64 0, .int .i64 0, .int .i64 0, .int .i64 0, .int .i64 0, .slice none 0 0]⟩ := by kernel_rfl
@[go_sem] theorem fact_fld68_0 : fldOf Tryd.prog 68 0 = some ⟨0, 1, false⟩ := by kernel_rfl
@[go_sem] theorem fact_fld68_1 : fldOf Tryd.prog 68 1 = some ⟨1, 1, false⟩ := by kernel_rfl
@[go_sem] theorem fact_fld68_2 : fldOf Tryd.prog 68 2 = some ⟨2, 1, false⟩ := by kernel_rfl
@[go_sem] theorem fact_fld68_3 : fldOf Tryd.prog 68 3 = some ⟨3, 1, false⟩ := by kernel_rfl
@[go_sem] theorem fact_fld68_4 : fldOf Tryd.prog 68 4 = some ⟨4, 1, false⟩ := by kernel_rfl
@[go_sem] theorem fact_fld68_5 : fldOf Tryd.prog 68 5 = some ⟨5, 1, false⟩ := by kernel_rfl
@[go_sem] theorem fact_bld68 : bldOf Tryd.prog 68 = some ⟨6, [.int .i64 0, .int .i64 0, .int .i64 0, .int .i64 0, .int .i64 0, .slice none 0 0], [(0, 1), (1, 1), (2, 1), (3, 1), (4, 1), (5, 1)]⟩ := by kernel_rfl
@[go_sem] theorem fact_ty69 : tyOf Tryd.prog 69 = some ⟨false, 1, [.nilFunc]⟩ := by kernel_rfl
@[go_sem] theorem fact_ty70 : tyOf Tryd.prog 70 = some ⟨true, 6, [.int .i64 0, .int .i64 0, .int .i64 0, .int .i64 0, .int .i64 0, .slice none 0 0]⟩ := by kernel_rfl
@[go_sem] theorem fact_fld70_0 : fldOf Tryd.prog 70 0 = some ⟨0, 1, false⟩ := by kernel_rfl
@[go_sem] theorem fact_fld70_1 : fldOf Tryd.prog 70 1 = some ⟨1, 1, false⟩ := by kernel_rfl
@[go_sem] theorem fact_fld70_2 : fldOf Tryd.prog 70 2 = some ⟨2, 1, false⟩ := by kernel_rfl
@[go_sem] theorem fact_fld70_3 : fldOf Tryd.prog 70 3 = some ⟨3, 1, false⟩ := by kernel_rfl
@[go_sem] theorem fact_fld70_4 : fldOf Tryd.prog 70 4 = some ⟨4, 1, false⟩ := by kernel_rfl
@[go_sem] theorem fact_fld70_5 : fldOf Tryd.prog 70 5 = some ⟨5, 1, false⟩ := by kernel_rfl
@[go_sem] theorem fact_bld70 : bldOf Tryd.prog 70 = some ⟨6, [.int .i64 0, .int .i64 0, .int .i64 0, .int .i64 0, .int .i64 0, .slice none 0 0], [(0, 1), (1, 1), (2, 1), (3, 1), (4, 1), (5, 1)]⟩ := by kernel_rfl
@[go_sem] theorem fact_ty71 : tyOf Tryd.prog 71 = some ⟨false, 1, [.nilFunc]⟩ := by kernel_rfl
@[go_sem] theorem fact_ty72 : tyOf Tryd.prog 72 = some ⟨false, 1, [.nilFunc]⟩ := by kernel_rfl
@[go_sem] theorem fact_ty73 : tyOf Tryd.prog 73 = some ⟨false, 1, [.nilFunc]⟩ := by kernel_rfl
@[go_sem] theorem fact_ty74 : tyOf Tryd.prog 74 = some ⟨false, 1, [.nilFunc]⟩ := by kernel_rfl
@[go_sem] theorem fact_ty75 : tyOf Tryd.prog 75 = some ⟨true, 3, [.slice none 0 0, .int .i64 0, .int .u64 0]⟩ := by kernel_rfl
@[go_sem] theorem fact_fld75_0 : fldOf Tryd.prog 75 0 = some ⟨0, 1, false⟩ := by kernel_rfl
@[go_sem] theorem fact_fld75_1 : fldOf Tryd.prog 75 1 = some ⟨1, 1, false⟩ := by kernel_rfl
@[go_sem] theorem fact_fld75_2 : fldOf Tryd.prog 75 2 = some ⟨2, 1, false⟩ := by kernel_rfl
@[go_sem] theorem fact_bld75 : bldOf Tryd.prog 75 = some ⟨3, [.slice none 0 0, .int .i64 0, .int .u64 0], [(0, 1), (1, 1), (2, 1)]⟩ := by kernel_rfl
@[go_sem] theorem fact_ty76 : tyOf Tryd.prog 76 = some ⟨true, 3, [.slice none 0 0, .int .i64 0, .int .u64 0]⟩ := by kernel_rfl
@[go_sem] theorem fact_fld76_0 : fldOf Tryd.prog 76 0 = some ⟨0, 1, false⟩ := by kernel_rfl
@[go_sem] theorem fact_fld76_1 : fldOf Tryd.prog 76 1 = some ⟨1, 1, false⟩ := by kernel_rfl
@[go_sem] theorem fact_fld76_2 : fldOf Tryd.prog 76 2 = some ⟨2, 1, false⟩ := by kernel_rfl
@[go_sem] theorem fact_bld76 : bldOf Tryd.prog 76 = some ⟨3, [.slice none 0 0, .int .i64 0, .int .u64 0], [(0, 1), (1, 1), (2, 1)]⟩ := by kernel_rfl
@[go_sem] theorem fact_ty77 : tyOf Tryd.prog 77 = some ⟨false, 1, [.nilFunc]⟩ := by kernel_rfl
@[go_sem] theorem fact_eq78 : eqT Tryd.prog 78 = .ptr := by kernel_rfl
@[go_sem] theorem fact_ty78 : tyOf Tryd.prog 78 = some ⟨false, 1, [.pointer none]⟩ := by kernel_rfl
@[go_sem] theorem fact_ty79 : tyOf Tryd.prog 79 = some ⟨true, 5, [.string ⟨#[]⟩, .string ⟨#[]⟩, .int .i64 0, .bool false, .slice none 0 0]⟩ := by kernel_rfl
@[go_sem] theorem fact_fld79_0 : fldOf Tryd.prog 79 0 = some ⟨0, 1, false⟩ := by kernel_rfl
@[go_sem] theorem fact_fld79_1 : fldOf Tryd.prog 79 1 = some ⟨1, 1, false⟩ := by kernel_rfl
@[go_sem] theorem fact_fld79_2 : fldOf Tryd.prog 79 2 = some ⟨2, 1, false⟩ := by kernel_rfl
@[go_sem] theorem fact_fld79_3 : fldOf Tryd.prog 79 3 = some ⟨3, 1, false⟩ := by kernel_rfl
@[go_sem] theorem fact_fld79_4 : fldOf Tryd.prog 79 4 = some ⟨4, 1, false⟩ := by kernel_rfl
@[go_sem] theorem fact_bld79 : bldOf Tryd.prog 79 = some ⟨5, [.string ⟨#[]⟩, .string ⟨#[]⟩, .int .i64 0, .bool false, .slice none 0 0], [(0, 1), (1, 1), (2, 1), (3, 1), (4, 1)]⟩ := by kernel_rfl
@[go_sem] theorem fact_ty80 : tyOf Tryd.prog 80 = some ⟨true, 5, [.string ⟨#[]⟩, .string ⟨#[]⟩, .int .i64 0, .bool false, .slice none 0 0]⟩ := by kernel_rfl
@[go_sem] theorem fact_fld80_0 : fldOf Tryd.prog 80 0 = some ⟨0, 1, false⟩ := by kernel_rfl
@[go_sem] theorem fact_fld80_1 : fldOf Tryd.prog 80 1 = some ⟨1, 1, false⟩ := by kernel_rfl
@[go_sem] theorem fact_fld80_2 : fldOf Tryd.prog 80 2 = some ⟨2, 1, false⟩ := by kernel_rfl
@[go_sem] theorem fact_fld80_3 : fldOf Tryd.prog 80 3 = some ⟨3, 1, false⟩ := by kernel_rfl
@[go_sem] theorem fact_fld80_4 : fldOf Tryd.prog 80 4 = some ⟨4, 1, false⟩ := by kernel_rfl
@[go_sem] theorem fact_bld80 : bldOf Tryd.prog 80 = some ⟨5, [.string ⟨#[]⟩, .string ⟨#[]⟩, .int .i64 0, .bool false, .slice none 0 0], [(0, 1), (1, 1), (2, 1), (3, 1), (4, 1)]⟩ := by kernel_rfl
@[go_sem] theorem fact_ty81 : tyOf Tryd.prog 81 = some ⟨false, 1, [.nilFunc]⟩ := by kernel_rfl
@[go_sem] theorem fact_ty82 : tyOf Tryd.prog 82 = some ⟨false, 1, [.nilFunc]⟩ := by kernel_rfl
@[go_sem] theorem fact_ty83 : tyOf Tryd.prog 83 = some ⟨false, 1, [.nilFunc]⟩ := by kernel_rfl
@[go_sem] theorem fact_ty84 : tyOf Tryd.prog 84 = some ⟨false, 1, [.nilFunc]⟩ := by kernel_rfl
@[go_sem] theorem fact_ty85 : tyOf Tryd.prog 85 = some ⟨false, 1, [.nilFunc]⟩ := by kernel_rfl
@[go_sem] theorem fact_isint86 : isIntT Tryd.prog 86 = true := by kernel_rfl
@[go_sem] theorem fact_ty86 : tyOf Tryd.prog 86 = some ⟨false, 1, [.int .u64 0]⟩ := by kernel_rfl
@[go_sem] theorem fact_ty87 : tyOf Tryd.prog 87 = some ⟨false, 1, [.nilFunc]⟩ := by kernel_rfl
@[go_sem] theorem fact_ty88 : tyOf Tryd.prog 88 = some ⟨false, 1, [.nilFunc]⟩ := by kernel_rfl
@[go_sem] theorem fact_ty89 : tyOf Tryd.prog 89 = some ⟨false, 1, [.nilFunc]⟩ := by kernel_rfl
@[go_sem] theorem fact_ty90 : tyOf Tryd.prog 90 = some ⟨false, 1, [.nilFunc]⟩ := by kernel_rfl
@[go_sem] theorem fact_ty91 : tyOf Tryd.prog 91 = some ⟨false, 1, [.nilFunc]⟩ := by kernel_rfl
@[go_sem] theorem fact_ty92 : tyOf Tryd.prog 92 = some ⟨false, 1, [.nilFunc]⟩ := by kernel_rfl
@[go_sem] theorem fact_ty93 : tyOf Tryd.prog 93 = some ⟨false, 1, [.nilFunc]⟩ := by kernel_rfl
@[go_sem] theorem fact_ty94 : tyOf Tryd.prog 94 = some ⟨false, 1, [.nilFunc]⟩ := by kernel_rfl
@[go_sem] theorem fact_ty95 : tyOf Tryd.prog 95 = some ⟨false, 1, [.nilFunc]⟩ := by kernel_rfl
@[go_sem] theorem fact_ty96 : tyOf Tryd.prog 96 = some ⟨false, 1, [.nilFunc]⟩ := by kernel_rfl
@[go_sem] theorem fact_ty97 : tyOf Tryd.prog 97 = some ⟨false, 1, [.nilFunc]⟩ := by kernel_rfl
@[go_sem] theorem fact_ty98 : tyOf Tryd.prog 98 = some ⟨false, 1, [.nilFunc]⟩ := by kernel_rfl
@[go_sem] theorem fact_eq99 : eqT Tryd.prog 99 = .ptr := by kernel_rfl
@[go_sem] theorem fact_ty99 : tyOf Tryd.prog 99 = some ⟨false, 1, [.pointer none]⟩ := by kernel_rfl
@[go_sem] theorem fact_ty100 : tyOf Tryd.prog 100 = some ⟨true, 2, [.pointer none, .slice none 0 0]⟩ := by kernel_rfl
@[go_sem] theorem fact_fld100_0 : fldOf Tryd.prog 100 0 = some ⟨0, 1, false⟩ := by kernel_rfl
@[go_sem] theorem fact_fld100_1 : fldOf Tryd.prog 100 1 = some ⟨1, 1, false⟩ := by kernel_rfl
@[go_sem] theorem fact_bld100 : bldOf Tryd.prog 100 = some ⟨2, [.pointer none, .slice none 0 0], [(0, 1), (1, 1)]⟩ := by kernel_rfl
@[go_sem] theorem fact_ty101 : tyOf Tryd.prog 101 = some ⟨true, 2, [.pointer none, .slice none 0 0]⟩ := by kernel_rfl
@[go_sem] theorem fact_fld101_0 : fldOf Tryd.prog 101 0 = some ⟨0, 1, false⟩ := by kernel_rfl
@[go_sem] theorem fact_fld101_1 : fldOf Tryd.prog 101 1 = some ⟨1, 1, false⟩ := by kernel_rfl
@[go_sem] theorem fact_bld101 : bldOf Tryd.prog 101 = some ⟨2, [.pointer none, .slice none 0 0], [(0, 1), (1, 1)]⟩ := by kernel_rfl
@[go_sem] theorem fact_ty102 : tyOf Tryd.prog 102 = some ⟨false, 1, [.nilFunc]⟩ := by kernel_rfl
@[go_sem] theorem fact_ty106 : tyOf Tryd.prog 106 = some ⟨false, 1, [.nilFunc]⟩ := by kernel_rfl
@[go_sem] theorem fact_ty107 : tyOf Tryd.prog 107 = some ⟨false, 1, [.nilFunc]⟩ := by kernel_rfl
@[go_sem] theorem fact_ty108 : tyOf Tryd.prog 108 = some ⟨false, 1, [.nilFunc]⟩ := by kernel_rfl
@[go_sem] theorem fact_ty109 : tyOf Tryd.prog 109 = some ⟨false, 1, [.nilFunc]⟩ := by kernel_rfl
@[go_sem] theorem fact_ty110 : tyOf Tryd.prog 110 = some ⟨false, 1, [.nilFunc]⟩ := by kernel_rfl
@[go_sem] theorem fact_ty111 : tyOf Tryd.prog 111 = some ⟨false, 1, [.nilFunc]⟩ := by kernel_rfl
@[go_sem] theorem fact_ty112 : tyOf Tryd.prog 112 = some ⟨false, 1, [.nilFunc]⟩ := by kernel_rfl
@[go_sem] theorem fact_ty113 : tyOf Tryd.prog 113 = some ⟨false, 1, [.nilFunc]⟩ := by kernel_rfl
@[go_sem] theorem fact_ty114 : tyOf Tryd.prog 114 = some ⟨false, 1, [.nilFunc]⟩ := by kernel_rfl
@[go_sem] theorem fact_ty115 : tyOf Tryd.prog 115 = some ⟨false, 1, [.nilFunc]⟩ := by kernel_rfl
@[go_sem] theorem fact_eq116 : eqT Tryd.prog 116 = .ptr := by kernel_rfl
@[go_sem] theorem fact_ty116 : tyOf Tryd.prog 116 = some ⟨false, 1, [.pointer none]⟩ := by kernel_rfl
@[go_sem] theorem fact_ty117 : tyOf Tryd.prog 117 = some ⟨false, 1, [.nilFunc]⟩ := by kernel_rfl
@[go_sem] theorem fact_ty118 : tyOf Tryd.prog 118 = some ⟨false, 1, [.nilFunc]⟩ := by kernel_rfl
@[go_sem] theorem fact_ty119 : tyOf Tryd.prog 119 = some ⟨false, 1, [.nilFunc]⟩ := by kernel_rfl
@[go_sem] theorem fact_ty120 : tyOf Tryd.prog 120 = some ⟨false, 1, [.nilFunc]⟩ := by kernel_rfl
@[go_sem] theorem fact_ty121 : tyOf Tryd.prog 121 = some ⟨false, 1, [.nilFunc]⟩ := by kernel_rfl
@[go_sem] theorem fact_ty122 : tyOf Tryd.prog 122 = some ⟨false, 1, [.nilFunc]⟩ := by kernel_rfl
@[go_sem] theorem fact_ty123 : tyOf Tryd.prog 123 = some ⟨false, 1, [.nilFunc]⟩ := by kernel_rfl
@[go_sem] theorem fact_ty124 : tyOf Tryd.prog 124 = some ⟨false, 1, [.nilFunc]⟩ := by kernel_rfl
@[go_sem] theorem fact_ty125 : tyOf Tryd.prog 125 = some ⟨false, 1, [.nilFunc]⟩ := by kernel_rfl
@[go_sem] theorem fact_ix126 : ixOf Tryd.prog 126 = some (.arr 24 1) := by kernel_rfl
@[go_sem] theorem fact_bld126 : bldOf Tryd.prog 126 = some ⟨24, [.int .u8 0, .int .u8 0, .int .u8 0, .int .u8 0, .int .u8 0, .int .u8 0, .int .u8 0, .int .u8 0, .int .u8 0, .int .u8 0, .int .u8 0, .int .u8 0, .int .u8 0, .int .u8 0, .int .u8 0, .int .u8 0, .int .u8 0, .int .u8 0, .int .u8 0, .int .u8 0, .int .u8 0, .int .u8 0, .int .u8 0, .int .u8 0], [(0, 1), (1, 1), (2, 1), (3, 1), (4, 1), (5, 1), (6, 1), (7, 1), (8, 1), (9, 1), (10, 1), (11, 1), (12, 1), (13, 1), (14, 1), (15, 1), (16, 1), (17, 1), (18, 1), (19, 1), (20, 1), (21, 1), (22, 1), (23, 1)]⟩ := by kernel_rfl
@[go_sem] theorem fact_ty126 : tyOf Tryd.prog 126 = some ⟨true, 24, [.int .u8 0, .int .u8 0, .int .u8 0, .int .u8 0, .int .u8 0, .int .u8 0, .int .u8 0, .int .u8 0, .int .u8 0, .int .u8 0, .int .u8 0, .int .u8 0, .int .u8 0, .int .u8 0, .int .u8 0, .int .u8 0, .int .u8 0, .int .u8 0, .int .u8 0, .int .u8 0, .int .u8 0, .int .u8 0, .int .u8 0, .int .u8 0]⟩ := by kernel_rfl
@[go_sem] theorem fact_ty127 : tyOf Tryd.prog 127 = some ⟨false, 1, [.nilFunc]⟩ := by kernel_rfl
@[go_sem] theorem fact_ty128 : tyOf Tryd.prog 128 = some ⟨false, 1, [.nilFunc]⟩ := by kernel_rfl
@[go_sem] theorem fact_ty130 : tyOf Tryd.prog 130 = some ⟨false, 1, [.nilFunc]⟩ := by kernel_rfl
@[go_sem] theorem fact_ty131 : tyOf Tryd.prog 131 = some ⟨false, 1, [.pointer none]⟩ := by kernel_rfl
@[go_sem] theorem fact_ty132 : tyOf Tryd.prog 132 = some ⟨false, 1, [.nilFunc]⟩ := by kernel_rfl
@[go_sem] theorem fact_ty133 : tyOf Tryd.prog 133 = some ⟨false, 1, [.nilFunc]⟩ := by kernel_rfl
@[go_sem] theorem fact_ty134 : tyOf Tryd.prog 134 = some ⟨false, 1, [.nilFunc]⟩ := by kernel_rfl
@[go_sem] theorem fact_ty135 : tyOf Tryd.prog 135 = some ⟨false, 1, [.nilFunc]⟩ := by kernel_rfl
@[go_sem] theorem fact_ty136 : tyOf Tryd.prog 136 = some ⟨false, 1, [.nilFunc]⟩ := by kernel_rfl
@[go_sem] theorem fact_ty137 : tyOf Tryd.prog 137 = some ⟨false, 1, [.nilFunc]⟩ := by kernel_rfl
@[go_sem] theorem fact_ty138 : tyOf Tryd.prog 138 = some ⟨false, 1, [.nilFunc]⟩ := by kernel_rfl
@[go_sem] theorem fact_ty139 : tyOf Tryd.prog 139 = some ⟨false, 1, [.nilFunc]⟩ := by kernel_rfl
@[go_sem] theorem fact_ty141 : tyOf Tryd.prog 141 = some ⟨false, 1, [.nilFunc]⟩ := by kernel_rfl
@[go_sem] theorem fact_ty142 : tyOf Tryd.prog 142 = some ⟨false, 1, [.nilFunc]⟩ := by kernel_rfl
@[go_sem] theorem fact_sel143 : selOf Tryd.prog 143 = some ⟨4, 1, 1, [.bool false]⟩ := by kernel_rfl
@[go_sem] theorem fact_ix143 : ixOf Tryd.prog 143 = some (.sl 1) := by kernel_rfl
@[go_sem] theorem fact_eq143 : eqT Tryd.prog 143 = .slice := by kernel_rfl
@[go_sem] theorem fact_len143 : lenT Tryd.prog 143 = .slice := by kernel_rfl
@[go_sem] theorem fact_sl143 : slT Tryd.prog 143 = .slice 1 := by kernel_rfl
@[go_sem] theorem fact_ty143 : tyOf Tryd.prog 143 = some ⟨false, 1, [.slice none 0 0]⟩ := by kernel_rfl
@[go_sem] theorem fact_ty144 : tyOf Tryd.prog 144 = some ⟨false, 1, [.nilFunc]⟩ := by kernel_rfl
@[go_sem] theorem fact_ty145 : tyOf Tryd.prog 145 = some ⟨false, 1, [.nilFunc]⟩ := by kernel_rfl
@[go_sem] theorem fact_ix146 : ixOf Tryd.prog 146 = some (.arr 20 1) := by kernel_rfl
@[go_sem] theorem fact_bld146 : bldOf Tryd.prog 146 = some ⟨20, [.int .u64 0, .int .u64 0, .int .u64 0, .int .u64 0, .int .u64 0, .int .u64 0, .int .u64 0, .int .u64 0, .int .u64 0, .int .u64 0, .int .u64 0, .int .u64 0, .int .u64 0, .int .u64 0, .int .u64 0, .int .u64 0, .int .u64 0, .int .u64 0, .int .u64 0, .int .u64 0], [(0, 1), (1, 1), (2, 1), (3, 1), (4, 1), (5, 1), (6, 1), (7, 1), (8, 1), (9, 1), (10, 1), (11, 1), (12, 1), (13, 1), (14, 1), (15, 1), (16, 1), (17, 1), (18, 1), (19, 1)]⟩ := by kernel_rfl
@[go_sem] theorem fact_ty146 : tyOf Tryd.prog 146 = some ⟨true, 20, [.int .u64 0, .int .u64 0, .int .u64 0, .int .u64 0, .int .u64 0, .int .u64 0, .int .u64 0, .int .u64 0, .int .u64 0, .int .u64 0, .int .u64 0, .int .u64 0, .int .u64 0, .int .u64 0, .int .u64 0, .int .u64 0, .int .u64 0, .int .u64 0, .int .u64 0, .int .u64 0]⟩ := by kernel_rfl
@[go_sem] theorem fact_isint147 : isIntT Tryd.prog 147 = true := by kernel_rfl
@[go_sem] theorem fact_ty147 : tyOf Tryd.prog 147 = some ⟨false, 1, [.int .u32 0]⟩ := by kernel_rfl
@[go_sem] theorem fact_ix148 : ixOf Tryd.prog 148 = some (.arr 65 1) := by kernel_rfl
@[go_sem] theorem fact_ty148 : tyOf Tryd.prog 148 = some ⟨true, 65, List.replicate 65 (.int .u8 0)⟩ := by kernel_rfl
@[go_sem] theorem fact_ty149 : tyOf Tryd.prog 149 = some ⟨false, 1, [.nilFunc]⟩ := by kernel_rfl
@[go_sem] theorem fact_ty150 : tyOf Tryd.prog 150 = some ⟨false, 1, [.nilFunc]⟩ := by kernel_rfl
@[go_sem] theorem fact_ty151 : tyOf Tryd.prog 151 = some ⟨false, 1, [.nilFunc]⟩ := by kernel_rfl
@[go_sem] theorem fact_ty153 : tyOf Tryd.prog 153 = some ⟨false, 1, [.nilFunc]⟩ := by kernel_rfl
@[go_sem] theorem fact_ty155 : tyOf Tryd.prog 155 = some ⟨false, 1, [.nilFunc]⟩ := by kernel_rfl
@[go_sem] theorem fact_ty156 : tyOf Tryd.prog 156 = some ⟨false, 1, [.nilFunc]⟩ := by kernel_rfl
@[go_sem] theorem fact_ix157 : ixOf Tryd.prog 157 = some (.arr 32 1) := by kernel_rfl
@[go_sem] theorem fact_bld157 : bldOf Tryd.prog 157 = some ⟨32, [.int .u8 0, .int .u8 0, .int .u8 0, .int .u8 0, .int .u8 0, .int .u8 0, .int .u8 0, .int .u8 0, .int .u8 0, .int .u8 0, .int .u8 0, .int .u8 0, .int .u8 0, .int .u8 0, .int .u8 0, .int .u8 0, .int .u8 0, .int .u8 0, .int .u8 0, .int .u8 0, .int .u8 0, .int .u8 0, .int .u8 0, .int .u8 0, .int .u8 0, .int .u8 0, .int .u8 0, .int .u8 0, .int .u8 0, .int .u8 0, .int .u8 0, .int .u8 0], [(0, 1), (1, 1), (2, 1), (3, 1), (4, 1), (5, 1), (6, 1), (7, 1), (8, 1), (9, 1), (10, 1), (11, 1), (12, 1), (13, 1), (14, 1), (15, 1), (16, 1), (17, 1), (18, 1), (19, 1), (20, 1), (21, 1), (22, 1), (23, 1), (24, 1), (25, 1), (26, 1), (27, 1), (28, 1), (29, 1), (30, 1), (31, 1)]⟩ := by kernel_rfl
@[go_sem] theorem fact_ty157 : tyOf Tryd.prog 157 = some ⟨true, 32, [.int .u8 0, .int .u8 0, .int .u8 0, .int .u8 0, .int .u8 0, .int .u8 0, .int .u8 0, .int .u8 0, .int .u8 0, .int .u8 0, .int .u8 0, .int .u8 0, .int .u8 0, .int .u8 0, .int .u8 0, .int .u8 0, .int .u8 0, .int .u8 0, .int .u8 0, .int .u8 0, .int .u8 0, .int .u8 0, .int .u8 0, .int .u8 0, .int .u8 0, .int .u8 0, .int .u8 0, .int .u8 0, .int .u8 0, .int .u8 0, .int .u8 0, .int .u8 0]⟩ := by kernel_rfl
@[go_sem] theorem fact_ix158 : ixOf Tryd.prog 158 = some (.arr 64 1) := by kernel_rfl
@[go_sem] theorem fact_bld158 : bldOf Tryd.prog 158 = some ⟨64, [.int .u8 0, .int .u8 0, .int .u8 0, .int .u8 0, .int .u8 0, .int .u8 0, .int .u8 0, .int .u8 0, .int .u8 0, .int .u8 0, .int .u8 0, .int .u8 0, .int .u8 0, .int .u8 0, .int .u8 0, .int .u8 0, .int .u8 0, .int .u8 0, .int .u8 0, .int .u8 0, .int .u8 0, .int .u8 0, .int .u8 0, .int .u8 0, .int .u8 0, .int .u8 0, .int .u8 0, .int .u8 0, .int .u8 0, .int .u8 0, .int .u8 0, .int .u8 0, .int .u8 0, .int .u8 0, .int .u8 0, .int .u8 0, .int .u8 0, .int .u8 0, .int .u8 0, .int .u8 0, .int .u8 0, .int .u8 0, .int .u8 0, .int .u8 0, .int .u8 0, .int .u8 0, .int .u8 0, .int .u8 0, .int .u8 0, .int .u8 0, .int .u8 0, .int .u8 0, .int .u8 0, .int .u8 0, .int .u8 0, .int .u8 0, .int .u8 0, .int .u8 0, .int .u8 0, .int .u8 0, .int .u8 0, .int .u8 0, .int .u8 0, .int .u8 0], [(0, 1), (1, 1), (2, 1), (3, 1), (4, 1), (5, 1), (6, 1), (7, 1), (8, 1), (9, 1), (10, 1), (11, 1), (12, 1), (13, 1), (14, 1), (15, 1), (16, 1), (17, 1), (18, 1), (19, 1), (20, 1), (21, 1), (22, 1), (23, 1), (24, 1), (25, 1), (26, 1), (27, 1), (28, 1), (29, 1), (30, 1), (31, 1), (32, 1), (33, 1), (34, 1), (35, 1), (36, 1), (37, 1), (38, 1), (39, 1), (40, 1), (41, 1), (42, 1), (43, 1), (44, 1), (45, 1), (46, 1), (47, 1), (48, 1), (49, 1), (50, 1), (51, 1), (52, 1), (53, 1), (54, 1), (55, 1), (56, 1), (57, 1), (58, 1), (59, 1), (60, 1), (61, 1), (62, 1), (63, 1)]⟩ := by kernel_rfl
@[go_sem] theorem fact_ty158 : tyOf Tryd.prog 158 = some ⟨true, 64, [.int .u8 0, .int .u8 0, .int .u8 0, .int .u8 0, .int .u8 0, .int .u8 0, .int .u8 0, .int .u8 0, .int .u8 0, .int .u8 0, .int .u8 0, .int .u8 0, .int .u8 0, .int .u8 0, .int .u8 0, .int .u8 0, .int .u8 0, .int .u8 0, .int .u8 0, .int .u8 0, .int .u8 0, .int .u8 0, .int .u8 0, .int .u8 0, .int .u8 0, .int .u8 0, .int .u8 0, .int .u8 0, .int .u8 0, .int .u8 0, .int .u8 0, .int .u8 0, .int .u8 0, .int .u8 0, .int .u8 0, .int .u8 0, .int .u8 0, .int .u8 0, .int .u8 0, .int .u8 0, .int .u8 0, .int .u8 0, .int .u8 0, .int .u8 0, .int .u8 0, .int .u8 0, .int .u8 0, .int .u8 0, .int .u8 0, .int .u8 0, .int .u8 0, .int .u8 0, .int .u8 0, .int .u8 0, .int .u8 0, .int .u8 0, .int .u8 0, .int .u8 0, .int .u8 0, .int .u8 0, .int .u8 0, .int .u8 0, .int .u8 0, .int .u8 0]⟩ := by kernel_rfl
@[go_sem] theorem fact_ty159 : tyOf Tryd.prog 159 = some ⟨true, 4, [.pointer none, .pointer none, .pointer none, .string ⟨#[]⟩]⟩ := by kernel_rfl
@[go_sem] theorem fact_fld159_0 : fldOf Tryd.prog 159 0 = some ⟨0, 1, false⟩ := by kernel_rfl
@[go_sem] theorem fact_fld159_1 : fldOf Tryd.prog 159 1 = some ⟨1, 1, false⟩ := by kernel_rfl
@[go_sem] theorem fact_fld159_2 : fldOf Tryd.prog 159 2 = some ⟨2, 1, false⟩ := by kernel_rfl
@[go_sem] theorem fact_fld159_3 : fldOf Tryd.prog 159 3 = some ⟨3, 1, false⟩ := by kernel_rfl
@[go_sem] theorem fact_bld159 : bldOf Tryd.prog 159 = some ⟨4, [.pointer none, .pointer none, .pointer none, .string ⟨#[]⟩], [(0, 1), (1, 1), (2, 1), (3, 1)]⟩ := by kernel_rfl
@[go_sem] theorem fact_ty160 : tyOf Tryd.prog 160 = some ⟨true, 4, [.pointer none, .pointer none, .pointer none, .string ⟨#[]⟩]⟩ := by kernel_rfl
@[go_sem] theorem fact_fld160_0 : fldOf Tryd.prog 160 0 = some ⟨0, 1, false⟩ := by kernel_rfl
@[go_sem] theorem fact_fld160_1 : fldOf Tryd.prog 160 1 = some ⟨1, 1, false⟩ := by kernel_rfl
@[go_sem] theorem fact_fld160_2 : fldOf Tryd.prog 160 2 = some ⟨2, 1, false⟩ := by kernel_rfl
@[go_sem] theorem fact_fld160_3 : fldOf Tryd.prog 160 3 = some ⟨3, 1, false⟩ := by kernel_rfl
@[go_sem] theorem fact_bld160 : bldOf Tryd.prog 160 = some ⟨4, [.pointer none, .pointer none, .pointer none, .string ⟨#[]⟩], [(0, 1), (1, 1), (2, 1), (3, 1)]⟩ := by kernel_rfl
@[go_sem] theorem fact_ix161 : ixOf Tryd.prog 161 = some (.arr 0 1) := by kernel_rfl
@[go_sem] theorem fact_ty161 : tyOf Tryd.prog 161 = some ⟨true, 0, []⟩ := by kernel_rfl
@[go_sem] theorem fact_ty162 : tyOf Tryd.prog 162 = some ⟨true, 0, []⟩ := by kernel_rfl
@[go_sem] theorem fact_ty163 : tyOf Tryd.prog 163 = some ⟨true, 0, []⟩ := by kernel_rfl
@[go_sem] theorem fact_ty164 : tyOf Tryd.prog 164 = some ⟨false, 1, [.nilFunc]⟩ := by kernel_rfl
@[go_sem] theorem fact_isint165 : isIntT Tryd.prog 165 = true := by kernel_rfl
@[go_sem] theorem fact_ty165 : tyOf Tryd.prog 165 = some ⟨false, 1, [.int .u8 0]⟩ := by kernel_rfl
@[go_sem] theorem fact_isint166 : isIntT Tryd.prog 166 = true := by kernel_rfl
@[go_sem] theorem fact_ty166 : tyOf Tryd.prog 166 = some ⟨false, 1, [.int .u8 0]⟩ := by kernel_rfl
@[go_sem] theorem fact_ty167 : tyOf Tryd.prog 167 = some ⟨false, 1, [.nilFunc]⟩ := by kernel_rfl
@[go_sem] theorem fact_isint168 : isIntT Tryd.prog 168 = true := by kernel_rfl
@[go_sem] theorem fact_ty168 : tyOf Tryd.prog 168 = some ⟨false, 1, [.int .i32 0]⟩ := by kernel_rfl
@[go_sem] theorem fact_isint169 : isIntT Tryd.prog 169 = true := by kernel_rfl
@[go_sem] theorem fact_ty169 : tyOf Tryd.prog 169 = some ⟨false, 1, [.int .i32 0]⟩ := by kernel_rfl
@[go_sem] theorem fact_ty170 : tyOf Tryd.prog 170 = some ⟨true, 11, [.int .u64 0, .int .u64 0, .int .u32 0, .int .u8 0, .int .u8 0, .int .u8 0, .int .u8 0, .nilFunc, .pointer none, .int .i32 0, .int .i32 0]⟩ := by kernel_rfl
@[go_sem] theorem fact_fld170_0 : fldOf Tryd.prog 170 0 = some ⟨0, 1, false⟩ := by kernel_rfl
@[go_sem] theorem fact_fld170_1 : fldOf Tryd.prog 170 1 = some ⟨1, 1, false⟩ := by kernel_rfl
@[go_sem] theorem fact_fld170_2 : fldOf Tryd.prog 170 2 = some ⟨2, 1, false⟩ := by kernel_rfl
@[go_sem] theorem fact_fld170_3 : fldOf Tryd.prog 170 3 = some ⟨3, 1, false⟩ := by kernel_rfl
@[go_sem] theorem fact_fld170_4 : fldOf Tryd.prog 170 4 = some ⟨4, 1, false⟩ := by kernel_rfl
@[go_sem] theorem fact_fld170_5 : fldOf Tryd.prog 170 5 = some ⟨5, 1, false⟩ := by kernel_rfl
@[go_sem] theorem fact_fld170_6 : fldOf Tryd.prog 170 6 = some ⟨6, 1, false⟩ := by kernel_rfl
@[go_sem] theorem fact_fld170_7 : fldOf Tryd.prog 170 7 = some ⟨7, 1, false⟩ := by kernel_rfl
@[go_sem] theorem fact_fld170_8 : fldOf Tryd.prog 170 8 = some ⟨8, 1, false⟩ := by kernel_rfl
@[go_sem] theorem fact_fld170_9 : fldOf Tryd.prog 170 9 = some ⟨9, 1, false⟩ := by kernel_rfl
@[go_sem] theorem fact_fld170_10 : fldOf Tryd.prog 170 10 = some ⟨10, 1, false⟩ := by kernel_rfl
@[go_sem] theorem fact_bld170 : bldOf Tryd.prog 170 = some ⟨11, [.int .u64 0, .int .u64 0, .int .u32 0, .int .u8 0, .int .u8 0, .int .u8 0, .int .u8 0, .nilFunc, .pointer none, .int .i32 0, .int .i32 0], [(0, 1), (1, 1), (2, 1), (3, 1), (4, 1), (5, 1), (6, 1), (7, 1), (8, 1), (9, 1), (10, 1)]⟩ := by kernel_rfl
@[go_sem] theorem fact_ty171 : tyOf Tryd.prog 171 = some ⟨true, 11, [.int .u64 0, .int .u64 0, .int .u32 0, .int .u8 0, .int .u8 0, .int .u8 0, .int .u8 0, .nilFunc, .pointer none, .int .i32 0, .int .i32 0]⟩ := by kernel_rfl
@[go_sem] theorem fact_fld171_0 : fldOf Tryd.prog 171 0 = some ⟨0, 1, false⟩ := by kernel_rfl
@[go_sem] theorem fact_fld171_1 : fldOf Tryd.prog 171 1 = some ⟨1, 1, false⟩ := by kernel_rfl
@[go_sem] theorem fact_fld171_2 : fldOf Tryd.prog 171 2 = some ⟨2, 1, false⟩ := by kernel_rfl
@[go_sem] theorem fact_fld171_3 : fldOf Tryd.prog 171 3 = some ⟨3, 1, false⟩ := by kernel_rfl
@[go_sem] theorem fact_fld171_4 : fldOf Tryd.prog 171 4 = some ⟨4, 1, false⟩ := by kernel_rfl
@[go_sem] theorem fact_fld171_5 : fldOf Tryd.prog 171 5 = some ⟨5, 1, false⟩ := by kernel_rfl
@[go_sem] theorem fact_fld171_6 : fldOf Tryd.prog 171 6 = some ⟨6, 1, false⟩ := by kernel_rfl
@[go_sem] theorem fact_fld171_7 : fldOf Tryd.prog 171 7 = some ⟨7, 1, false⟩ := by kernel_rfl
@[go_sem] theorem fact_fld171_8 : fldOf Tryd.prog 171 8 = some ⟨8, 1, false⟩ := by kernel_rfl
@[go_sem] theorem fact_fld171_9 : fldOf Tryd.prog 171 9 = some ⟨9, 1, false⟩ := by kernel_rfl
@[go_sem] theorem fact_fld171_10 : fldOf Tryd.prog 171 10 = some ⟨10, 1, false⟩ := by kernel_rfl
@[go_sem] theorem fact_bld171 : bldOf Tryd.prog 171 = some ⟨11, [.int .u64 0, .int .u64 0, .int .u32 0, .int .u8 0, .int .u8 0, .int .u8 0, .int .u8 0, .nilFunc, .pointer none, .int .i32 0, .int .i32 0], [(0, 1), (1, 1), (2, 1), (3, 1), (4, 1), (5, 1), (6, 1), (7, 1), (8, 1), (9, 1), (10, 1)]⟩ := by kernel_rfl
@[go_sem] theorem fact_cv2_2 : cvT Tryd.prog 2 2 = .int .i64 := by kernel_rfl
@[go_sem] theorem fact_cv2_3 : cvT Tryd.prog 2 3 = .int .i64 := by kernel_rfl
@[go_sem] theorem fact_cv2_5 : cvT Tryd.prog 2 5 = .int .u8 := by kernel_rfl
@[go_sem] theorem fact_cv2_12 : cvT Tryd.prog 2 12 = .int .u64 := by kernel_rfl
@[go_sem] theorem fact_cv2_21 : cvT Tryd.prog 2 21 = .int .i32 := by kernel_rfl
@[go_sem] theorem fact_cv2_38 : cvT Tryd.prog 2 38 = .int .u64 := by kernel_rfl
@[go_sem] theorem fact_cv2_86 : cvT Tryd.prog 2 86 = .int .u64 := by kernel_rfl
@[go_sem] theorem fact_cv2_147 : cvT Tryd.prog 2 147 = .int .u32 := by kernel_rfl
@[go_sem] theorem fact_cv3_2 : cvT Tryd.prog 3 2 = .int .i64 := by kernel_rfl
@[go_sem] theorem fact_cv3_3 : cvT Tryd.prog 3 3 = .int .i64 := by kernel_rfl
@[go_sem] theorem fact_cv3_5 : cvT Tryd.prog 3 5 = .int .u8 := by kernel_rfl
@[go_sem] theorem fact_cv3_12 : cvT Tryd.prog 3 12 = .int .u64 := by kernel_rfl
@[go_sem] theorem fact_cv3_21 : cvT Tryd.prog 3 21 = .int .i32 := by kernel_rfl
@[go_sem] theorem fact_cv3_38 : cvT Tryd.prog 3 38 = .int .u64 := by kernel_rfl
@[go_sem] theorem fact_cv3_86 : cvT Tryd.prog 3 86 = .int .u64 := by kernel_rfl
@[go_sem] theorem fact_cv3_147 : cvT Tryd.prog 3 147 = .int .u32 := by kernel_rfl
@[go_sem] theorem fact_cv5_2 : cvT Tryd.prog 5 2 = .int .i64 := by kernel_rfl
@[go_sem] theorem fact_cv5_3 : cvT Tryd.prog 5 3 = .int .i64 := by kernel_rfl
@[go_sem] theorem fact_cv5_5 : cvT Tryd.prog 5 5 = .int .u8 := by kernel_rfl
@[go_sem] theorem fact_cv5_12 : cvT Tryd.prog 5 12 = .int .u64 := by kernel_rfl
@[go_sem] theorem fact_cv5_21 : cvT Tryd.prog 5 21 = .int .i32 := by kernel_rfl
@[go_sem] theorem fact_cv5_38 : cvT Tryd.prog 5 38 = .int .u64 := by kernel_rfl
@[go_sem] theorem fact_cv5_86 : cvT Tryd.prog 5 86 = .int .u64 := by kernel_rfl
@[go_sem] theorem fact_cv5_147 : cvT Tryd.prog 5 147 = .int .u32 := by kernel_rfl
@[go_sem] theorem fact_cv12_2 : cvT Tryd.prog 12 2 = .int .i64 := by kernel_rfl
@[go_sem] theorem fact_cv12_3 : cvT Tryd.prog 12 3 = .int .i64 := by kernel_rfl
@[go_sem] theorem fact_cv12_5 : cvT Tryd.prog 12 5 = .int .u8 := by kernel_rfl
@[go_sem] theorem fact_cv12_12 : cvT Tryd.prog 12 12 = .int .u64 := by kernel_rfl
@[go_sem] theorem fact_cv12_21 : cvT Tryd.prog 12 21 = .int .i32 := by kernel_rfl
@[go_sem] theorem fact_cv12_38 : cvT Tryd.prog 12 38 = .int .u64 := by kernel_rfl
@[go_sem] theorem fact_cv12_86 : cvT Tryd.prog 12 86 = .int .u64 := by kernel_rfl
@[go_sem] theorem fact_cv12_147 : cvT Tryd.prog 12 147 = .int .u32 := by kernel_rfl
@[go_sem] theorem fact_cv21_2 : cvT Tryd.prog 21 2 = .int .i64 := by kernel_rfl
@[go_sem] theorem fact_cv21_3 : cvT Tryd.prog 21 3 = .int .i64 := by kernel_rfl
@[go_sem] theorem fact_cv21_5 : cvT Tryd.prog 21 5 = .int .u8 := by kernel_rfl
@[go_sem] theorem fact_cv21_12 : cvT Tryd.prog 21 12 = .int .u64 := by kernel_rfl
@[go_sem] theorem fact_cv21_21 : cvT Tryd.prog 21 21 = .int .i32 := by kernel_rfl
@[go_sem] theorem fact_cv21_38 : cvT Tryd.prog 21 38 = .int .u64 := by kernel_rfl
@[go_sem] theorem fact_cv21_86 : cvT Tryd.prog 21 86 = .int .u64 := by kernel_rfl
@[go_sem] theorem fact_cv21_147 : cvT Tryd.prog 21 147 = .int .u32 := by kernel_rfl
@[go_sem] theorem fact_cv38_2 : cvT Tryd.prog 38 2 = .int .i64 := by kernel_rfl
@[go_sem] theorem fact_cv38_3 : cvT Tryd.prog 38 3 = .int .i64 := by kernel_rfl
@[go_sem] theorem fact_cv38_5 : cvT Tryd.prog 38 5 = .int .u8 := by kernel_rfl
@[go_sem] theorem fact_cv38_12 : cvT Tryd.prog 38 12 = .int .u64 := by kernel_rfl
@[go_sem] theorem fact_cv38_21 : cvT Tryd.prog 38 21 = .int .i32 := by kernel_rfl
@[go_sem] theorem fact_cv38_38 : cvT Tryd.prog 38 38 = .int .u64 := by kernel_rfl
@[go_sem] theorem fact_cv38_86 : cvT Tryd.prog 38 86 = .int .u64 := by kernel_rfl
@[go_sem] theorem fact_cv38_147 : cvT Tryd.prog 38 147 = .int .u32 := by kernel_rfl
@[go_sem] theorem fact_cv86_2 : cvT Tryd.prog 86 2 = .int .i64 := by kernel_rfl
@[go_sem] theorem fact_cv86_3 : cvT Tryd.prog 86 3 = .int .i64 := by kernel_rfl
@[go_sem] theorem fact_cv86_5 : cvT Tryd.prog 86 5 = .int .u8 := by kernel_rfl
@[go_sem] theorem fact_cv86_12 : cvT Tryd.prog 86 12 = .int .u64 := by kernel_rfl
@[go_sem] theorem fact_cv86_21 : cvT Tryd.prog 86 21 = .int .i32 := by kernel_rfl
@[go_sem] theorem fact_cv86_38 : cvT Tryd.prog 86 38 = .int .u64 := by kernel_rfl
@[go_sem] theorem fact_cv86_86 : cvT Tryd.prog 86 86 = .int .u64 := by kernel_rfl
@[go_sem] theorem fact_cv86_147 : cvT Tryd.prog 86 147 = .int .u32 := by kernel_rfl
@[go_sem] theorem fact_cv147_2 : cvT Tryd.prog 147 2 = .int .i64 := by kernel_rfl
@[go_sem] theorem fact_cv147_3 : cvT Tryd.prog 147 3 = .int .i64 := by kernel_rfl
@[go_sem] theorem fact_cv147_5 : cvT Tryd.prog 147 5 = .int .u8 := by kernel_rfl
@[go_sem] theorem fact_cv147_12 : cvT Tryd.prog 147 12 = .int .u64 := by kernel_rfl
@[go_sem] theorem fact_cv147_21 : cvT Tryd.prog 147 21 = .int .i32 := by kernel_rfl
@[go_sem] theorem fact_cv147_38 : cvT Tryd.prog 147 38 = .int .u64 := by kernel_rfl
@[go_sem] theorem fact_cv147_86 : cvT Tryd.prog 147 86 = .int .u64 := by kernel_rfl
@[go_sem] theorem fact_cv147_147 : cvT Tryd.prog 147 147 = .int .u32 := by kernel_rfl
@[go_sem] theorem fact_cv9_9 : cvT Tryd.prog 9 9 = .same := by kernel_rfl
@[go_sem] theorem fact_cv9_10 : cvT Tryd.prog 9 10 = .same := by kernel_rfl
@[go_sem] theorem fact_cv9_11 : cvT Tryd.prog 9 11 = .same := by kernel_rfl
@[go_sem] theorem fact_cv9_34 : cvT Tryd.prog 9 34 = .bytes 5 := by kernel_rfl
@[go_sem] theorem fact_cv34_9 : cvT Tryd.prog 34 9 = .str := by kernel_rfl
@[go_sem] theorem fact_cv10_9 : cvT Tryd.prog 10 9 = .same := by kernel_rfl
@[go_sem] theorem fact_cv10_10 : cvT Tryd.prog 10 10 = .same := by kernel_rfl
@[go_sem] theorem fact_cv10_11 : cvT Tryd.prog 10 11 = .same := by kernel_rfl
@[go_sem] theorem fact_cv10_34 : cvT Tryd.prog 10 34 = .bytes 5 := by kernel_rfl
@[go_sem] theorem fact_cv34_10 : cvT Tryd.prog 34 10 = .str := by kernel_rfl
@[go_sem] theorem fact_cv11_9 : cvT Tryd.prog 11 9 = .same := by kernel_rfl
@[go_sem] theorem fact_cv11_10 : cvT Tryd.prog 11 10 = .same := by kernel_rfl
@[go_sem] theorem fact_cv11_11 : cvT Tryd.prog 11 11 = .same := by kernel_rfl
@[go_sem] theorem fact_cv11_34 : cvT Tryd.prog 11 34 = .bytes 5 := by kernel_rfl
@[go_sem] theorem fact_cv34_11 : cvT Tryd.prog 34 11 = .str := by kernel_rfl

end Go.Proofs.YticbabpajligbaaDoor
end
