import Derived.Test.YtapigbgcghekgaaM06
import Derived.Test.YtapigbgcghekgaaM10
set_option linter.unusedVariables false
set_option linter.unusedSimpArgs false
set_option maxRecDepth 100000
namespace Go.Proofs
open Go.Iv
noncomputable def E0 : Env := ⟨tysL, PC Try.prog, IC Try.prog⟩
theorem E0_tys : E0.tys = tysL := Eq.trans rfl rfl
theorem E0_pc : E0.pc = PC Try.prog := Eq.trans rfl rfl
theorem E0_ic : E0.ic = IC Try.prog := Eq.trans rfl rfl
theorem E0_ok : EnvOK Try.prog E0 := ⟨tys_eq.symm, fun _ _ _ _ _ h => h, fun _ _ _ _ _ h => h⟩
theorem callPu0 {f : FuncId} {xs : List IV} {y : IV} {R : List Reg} {K : IV → List Reg → Prop} {t : Tok K} (h : PC Try.prog true f xs y []) (hp : xs.all pureC = true) (hy : pureY y = true) (hK : K y R) : callW E0 .imm f xs R K t := callPu (E := E0) h hp hy hK
theorem mm : Try.prog.follows .mixedOrders = true := by kernel_rfl
theorem ty_0 : tysL[0]? = some { k := .other, size := 1, bytes := 0, zero := [.un] } := by kernel_rfl
theorem tk_0 : tyK tysL 0 = .other := by kernel_rfl
theorem ty_1 : tysL[1]? = some { k := .fun_, size := 1, bytes := 8, zero := [.nf] } := by kernel_rfl
theorem tk_1 : tyK tysL 1 = .fun_ := by kernel_rfl
theorem ty_2 : tysL[2]? = some { k := .int .i64, size := 1, bytes := 8, zero := [.i .i64 0] } := by kernel_rfl
theorem tk_2 : tyK tysL 2 = .int .i64 := by kernel_rfl
theorem ty_3 : tysL[3]? = some { k := .int .i64, size := 1, bytes := 8, zero := [.i .i64 0] } := by kernel_rfl
theorem tk_3 : tyK tysL 3 = .int .i64 := by kernel_rfl
theorem ty_4 : tysL[4]? = some { k := .bool, size := 1, bytes := 1, zero := [.b false] } := by kernel_rfl
theorem tk_4 : tyK tysL 4 = .bool := by kernel_rfl
theorem ty_5 : tysL[5]? = some { k := .int .u8, size := 1, bytes := 1, zero := [.i .u8 0] } := by kernel_rfl
theorem tk_5 : tyK tysL 5 = .int .u8 := by kernel_rfl
theorem ty_6 : tysL[6]? = some { k := .int .u8, size := 1, bytes := 1, zero := [.i .u8 0] } := by kernel_rfl
theorem tk_6 : tyK tysL 6 = .int .u8 := by kernel_rfl
theorem ty_7 : tysL[7]? = some { k := .struct [(0, 2), (1, 3), (2, 4), (3, 6)], size := 4, bytes := 24, zero := [.i .i64 0, .i .i64 0, .b false, .i .u8 0] } := by kernel_rfl
theorem tk_7 : tyK tysL 7 = .struct [(0, 2), (1, 3), (2, 4), (3, 6)] := by kernel_rfl
theorem ty_8 : tysL[8]? = some { k := .struct [(0, 2), (1, 3), (2, 4), (3, 6)], size := 4, bytes := 24, zero := [.i .i64 0, .i .i64 0, .b false, .i .u8 0] } := by kernel_rfl
theorem tk_8 : tyK tysL 8 = .struct [(0, 2), (1, 3), (2, 4), (3, 6)] := by kernel_rfl
theorem ty_9 : tysL[9]? = some { k := .str, size := 1, bytes := 16, zero := [.s ⟨#[]⟩] } := by kernel_rfl
theorem tk_9 : tyK tysL 9 = .str := by kernel_rfl
theorem ty_10 : tysL[10]? = some { k := .str, size := 1, bytes := 16, zero := [.s ⟨#[]⟩] } := by kernel_rfl
theorem tk_10 : tyK tysL 10 = .str := by kernel_rfl
theorem ty_11 : tysL[11]? = some { k := .str, size := 1, bytes := 16, zero := [.s ⟨#[]⟩] } := by kernel_rfl
theorem tk_11 : tyK tysL 11 = .str := by kernel_rfl
theorem ty_12 : tysL[12]? = some { k := .int .u64, size := 1, bytes := 8, zero := [.i .u64 0] } := by kernel_rfl
theorem tk_12 : tyK tysL 12 = .int .u64 := by kernel_rfl
theorem ty_13 : tysL[13]? = some { k := .struct [(0, 9), (1, 12)], size := 2, bytes := 24, zero := [.s ⟨#[]⟩, .i .u64 0] } := by kernel_rfl
theorem tk_13 : tyK tysL 13 = .struct [(0, 9), (1, 12)] := by kernel_rfl
theorem ty_14 : tysL[14]? = some { k := .struct [(0, 9), (1, 12)], size := 2, bytes := 24, zero := [.s ⟨#[]⟩, .i .u64 0] } := by kernel_rfl
theorem tk_14 : tyK tysL 14 = .struct [(0, 9), (1, 12)] := by kernel_rfl
theorem ty_15 : tysL[15]? = some { k := .ptr 134, size := 1, bytes := 8, zero := [.np] } := by kernel_rfl
theorem tk_15 : tyK tysL 15 = .ptr 134 := by kernel_rfl
theorem ty_16 : tysL[16]? = some { k := .ptr 137, size := 1, bytes := 8, zero := [.np] } := by kernel_rfl
theorem tk_16 : tyK tysL 16 = .ptr 137 := by kernel_rfl
theorem ty_17 : tysL[17]? = some { k := .ptr 147, size := 1, bytes := 8, zero := [.np] } := by kernel_rfl
theorem tk_17 : tyK tysL 17 = .ptr 147 := by kernel_rfl
theorem ty_18 : tysL[18]? = some { k := .struct [(0, 17)], size := 1, bytes := 8, zero := [.np] } := by kernel_rfl
theorem tk_18 : tyK tysL 18 = .struct [(0, 17)] := by kernel_rfl
theorem ty_19 : tysL[19]? = some { k := .struct [(0, 17)], size := 1, bytes := 8, zero := [.np] } := by kernel_rfl
theorem tk_19 : tyK tysL 19 = .struct [(0, 17)] := by kernel_rfl
theorem ty_20 : tysL[20]? = some { k := .other, size := 1, bytes := 16, zero := [.un] } := by kernel_rfl
theorem tk_20 : tyK tysL 20 = .other := by kernel_rfl
theorem ty_21 : tysL[21]? = some { k := .int .i32, size := 1, bytes := 4, zero := [.i .i32 0] } := by kernel_rfl
theorem tk_21 : tyK tysL 21 = .int .i32 := by kernel_rfl
theorem ty_22 : tysL[22]? = some { k := .slice 33, size := 1, bytes := 24, zero := [.sl (some true) []] } := by kernel_rfl
theorem tk_22 : tyK tysL 22 = .slice 33 := by kernel_rfl
theorem ty_23 : tysL[23]? = some { k := .struct [(0, 22)], size := 1, bytes := 24, zero := [.sl (some true) []] } := by kernel_rfl
theorem tk_23 : tyK tysL 23 = .struct [(0, 22)] := by kernel_rfl
theorem ty_24 : tysL[24]? = some { k := .struct [(0, 22)], size := 1, bytes := 24, zero := [.sl (some true) []] } := by kernel_rfl
theorem tk_24 : tyK tysL 24 = .struct [(0, 22)] := by kernel_rfl
theorem ty_25 : tysL[25]? = some { k := .fun_, size := 1, bytes := 8, zero := [.nf] } := by kernel_rfl
theorem tk_25 : tyK tysL 25 = .fun_ := by kernel_rfl
theorem ty_26 : tysL[26]? = some { k := .fun_, size := 1, bytes := 8, zero := [.nf] } := by kernel_rfl
theorem tk_26 : tyK tysL 26 = .fun_ := by kernel_rfl
theorem ty_27 : tysL[27]? = some { k := .fun_, size := 1, bytes := 8, zero := [.nf] } := by kernel_rfl
theorem tk_27 : tyK tysL 27 = .fun_ := by kernel_rfl
theorem ty_28 : tysL[28]? = some { k := .fun_, size := 1, bytes := 8, zero := [.nf] } := by kernel_rfl
theorem tk_28 : tyK tysL 28 = .fun_ := by kernel_rfl
theorem ty_29 : tysL[29]? = some { k := .fun_, size := 1, bytes := 8, zero := [.nf] } := by kernel_rfl
theorem tk_29 : tyK tysL 29 = .fun_ := by kernel_rfl
theorem ty_30 : tysL[30]? = some { k := .ptr 33, size := 1, bytes := 8, zero := [.np] } := by kernel_rfl
theorem tk_30 : tyK tysL 30 = .ptr 33 := by kernel_rfl
theorem ty_31 : tysL[31]? = some { k := .slice 39, size := 1, bytes := 24, zero := [.sl (some true) []] } := by kernel_rfl
theorem tk_31 : tyK tysL 31 = .slice 39 := by kernel_rfl
theorem ty_32 : tysL[32]? = some { k := .struct [(0, 31)], size := 1, bytes := 24, zero := [.sl (some true) []] } := by kernel_rfl
theorem tk_32 : tyK tysL 32 = .struct [(0, 31)] := by kernel_rfl
theorem ty_33 : tysL[33]? = some { k := .struct [(0, 31)], size := 1, bytes := 24, zero := [.sl (some true) []] } := by kernel_rfl
theorem tk_33 : tyK tysL 33 = .struct [(0, 31)] := by kernel_rfl
theorem ty_34 : tysL[34]? = some { k := .int .u64, size := 1, bytes := 8, zero := [.i .u64 0] } := by kernel_rfl
theorem tk_34 : tyK tysL 34 = .int .u64 := by kernel_rfl
theorem ty_35 : tysL[35]? = some { k := .ptr 39, size := 1, bytes := 8, zero := [.np] } := by kernel_rfl
theorem tk_35 : tyK tysL 35 = .ptr 39 := by kernel_rfl
theorem ty_36 : tysL[36]? = some { k := .slice 3, size := 1, bytes := 24, zero := [.sl (some true) []] } := by kernel_rfl
theorem tk_36 : tyK tysL 36 = .slice 3 := by kernel_rfl
theorem ty_37 : tysL[37]? = some { k := .slice 5, size := 1, bytes := 24, zero := [.sl (some true) []] } := by kernel_rfl
theorem tk_37 : tyK tysL 37 = .slice 5 := by kernel_rfl
theorem ty_38 : tysL[38]? = some { k := .struct [(0, 36), (1, 3), (2, 36), (3, 37)], size := 4, bytes := 80, zero := [.sl (some true) [], .i .i64 0, .sl (some true) [], .sl (some true) []] } := by kernel_rfl
theorem tk_38 : tyK tysL 38 = .struct [(0, 36), (1, 3), (2, 36), (3, 37)] := by kernel_rfl
theorem ty_39 : tysL[39]? = some { k := .struct [(0, 36), (1, 3), (2, 36), (3, 37)], size := 4, bytes := 80, zero := [.sl (some true) [], .i .i64 0, .sl (some true) [], .sl (some true) []] } := by kernel_rfl
theorem tk_39 : tyK tysL 39 = .struct [(0, 36), (1, 3), (2, 36), (3, 37)] := by kernel_rfl
theorem ty_40 : tysL[40]? = some { k := .fun_, size := 1, bytes := 8, zero := [.nf] } := by kernel_rfl
theorem tk_40 : tyK tysL 40 = .fun_ := by kernel_rfl
theorem ty_41 : tysL[41]? = some { k := .fun_, size := 1, bytes := 8, zero := [.nf] } := by kernel_rfl
theorem tk_41 : tyK tysL 41 = .fun_ := by kernel_rfl
theorem ty_42 : tysL[42]? = some { k := .fun_, size := 1, bytes := 8, zero := [.nf] } := by kernel_rfl
theorem tk_42 : tyK tysL 42 = .fun_ := by kernel_rfl
theorem ty_43 : tysL[43]? = some { k := .fun_, size := 1, bytes := 8, zero := [.nf] } := by kernel_rfl
theorem tk_43 : tyK tysL 43 = .fun_ := by kernel_rfl
theorem ty_44 : tysL[44]? = some { k := .fun_, size := 1, bytes := 8, zero := [.nf] } := by kernel_rfl
theorem tk_44 : tyK tysL 44 = .fun_ := by kernel_rfl
theorem ty_45 : tysL[45]? = some { k := .fun_, size := 1, bytes := 8, zero := [.nf] } := by kernel_rfl
theorem tk_45 : tyK tysL 45 = .fun_ := by kernel_rfl
theorem ty_46 : tysL[46]? = some { k := .slice 49, size := 1, bytes := 24, zero := [.sl (some true) []] } := by kernel_rfl
theorem tk_46 : tyK tysL 46 = .slice 49 := by kernel_rfl
theorem ty_47 : tysL[47]? = some { k := .fun_, size := 1, bytes := 8, zero := [.nf] } := by kernel_rfl
theorem tk_47 : tyK tysL 47 = .fun_ := by kernel_rfl
theorem ty_48 : tysL[48]? = some { k := .struct [(0, 36), (1, 9), (2, 3), (3, 36)], size := 4, bytes := 72, zero := [.sl (some true) [], .s ⟨#[]⟩, .i .i64 0, .sl (some true) []] } := by kernel_rfl
theorem tk_48 : tyK tysL 48 = .struct [(0, 36), (1, 9), (2, 3), (3, 36)] := by kernel_rfl
theorem ty_49 : tysL[49]? = some { k := .struct [(0, 36), (1, 9), (2, 3), (3, 36)], size := 4, bytes := 72, zero := [.sl (some true) [], .s ⟨#[]⟩, .i .i64 0, .sl (some true) []] } := by kernel_rfl
theorem tk_49 : tyK tysL 49 = .struct [(0, 36), (1, 9), (2, 3), (3, 36)] := by kernel_rfl
theorem ty_50 : tysL[50]? = some { k := .fun_, size := 1, bytes := 8, zero := [.nf] } := by kernel_rfl
theorem tk_50 : tyK tysL 50 = .fun_ := by kernel_rfl
theorem ty_51 : tysL[51]? = some { k := .other, size := 1, bytes := 0, zero := [.un] } := by kernel_rfl
theorem tk_51 : tyK tysL 51 = .other := by kernel_rfl
theorem ty_52 : tysL[52]? = some { k := .fun_, size := 1, bytes := 8, zero := [.nf] } := by kernel_rfl
theorem tk_52 : tyK tysL 52 = .fun_ := by kernel_rfl
theorem ty_53 : tysL[53]? = some { k := .fun_, size := 1, bytes := 8, zero := [.nf] } := by kernel_rfl
theorem tk_53 : tyK tysL 53 = .fun_ := by kernel_rfl
theorem ty_54 : tysL[54]? = some { k := .fun_, size := 1, bytes := 8, zero := [.nf] } := by kernel_rfl
theorem tk_54 : tyK tysL 54 = .fun_ := by kernel_rfl
theorem ty_55 : tysL[55]? = some { k := .fun_, size := 1, bytes := 8, zero := [.nf] } := by kernel_rfl
theorem tk_55 : tyK tysL 55 = .fun_ := by kernel_rfl
theorem ty_56 : tysL[56]? = some { k := .fun_, size := 1, bytes := 8, zero := [.nf] } := by kernel_rfl
theorem tk_56 : tyK tysL 56 = .fun_ := by kernel_rfl
theorem ty_57 : tysL[57]? = some { k := .fun_, size := 1, bytes := 8, zero := [.nf] } := by kernel_rfl
theorem tk_57 : tyK tysL 57 = .fun_ := by kernel_rfl
theorem ty_58 : tysL[58]? = some { k := .fun_, size := 1, bytes := 8, zero := [.nf] } := by kernel_rfl
theorem tk_58 : tyK tysL 58 = .fun_ := by kernel_rfl
theorem ty_59 : tysL[59]? = some { k := .other, size := 1, bytes := 0, zero := [.un] } := by kernel_rfl
theorem tk_59 : tyK tysL 59 = .other := by kernel_rfl
theorem ty_60 : tysL[60]? = some { k := .fun_, size := 1, bytes := 8, zero := [.nf] } := by kernel_rfl
theorem tk_60 : tyK tysL 60 = .fun_ := by kernel_rfl
theorem ty_61 : tysL[61]? = some { k := .fun_, size := 1, bytes := 8, zero := [.nf] } := by kernel_rfl
theorem tk_61 : tyK tysL 61 = .fun_ := by kernel_rfl
theorem ty_62 : tysL[62]? = some { k := .other, size := 1, bytes := 0, zero := [.un] } := by kernel_rfl
theorem tk_62 : tyK tysL 62 = .other := by kernel_rfl
theorem ty_63 : tysL[63]? = some { k := .fun_, size := 1, bytes := 8, zero := [.nf] } := by kernel_rfl
theorem tk_63 : tyK tysL 63 = .fun_ := by kernel_rfl
theorem ty_64 : tysL[64]? = some { k := .slice 68, size := 1, bytes := 24, zero := [.sl (some true) []] } := by kernel_rfl
theorem tk_64 : tyK tysL 64 = .slice 68 := by kernel_rfl
theorem ty_65 : tysL[65]? = some { k := .other, size := 1, bytes := 0, zero := [.un] } := by kernel_rfl
theorem tk_65 : tyK tysL 65 = .other := by kernel_rfl
theorem ty_66 : tysL[66]? = some { k := .fun_, size := 1, bytes := 8, zero := [.nf] } := by kernel_rfl
theorem tk_66 : tyK tysL 66 = .fun_ := by kernel_rfl
theorem ty_67 : tysL[67]? = some { k := .fun_, size := 1, bytes := 8, zero := [.nf] } := by kernel_rfl
theorem tk_67 : tyK tysL 67 = .fun_ := by kernel_rfl
theorem ty_68 : tysL[68]? = some { k := .slice 80, size := 1, bytes := 24, zero := [.sl (some true) []] } := by kernel_rfl
theorem tk_68 : tyK tysL 68 = .slice 80 := by kernel_rfl
theorem ty_69 : tysL[69]? = some { k := .fun_, size := 1, bytes := 8, zero := [.nf] } := by kernel_rfl
theorem tk_69 : tyK tysL 69 = .fun_ := by kernel_rfl
theorem ty_70 : tysL[70]? = some { k := .fun_, size := 1, bytes := 8, zero := [.nf] } := by kernel_rfl
theorem tk_70 : tyK tysL 70 = .fun_ := by kernel_rfl
theorem ty_71 : tysL[71]? = some { k := .fun_, size := 1, bytes := 8, zero := [.nf] } := by kernel_rfl
theorem tk_71 : tyK tysL 71 = .fun_ := by kernel_rfl
theorem ty_72 : tysL[72]? = some { k := .fun_, size := 1, bytes := 8, zero := [.nf] } := by kernel_rfl
theorem tk_72 : tyK tysL 72 = .fun_ := by kernel_rfl
theorem ty_73 : tysL[73]? = some { k := .fun_, size := 1, bytes := 8, zero := [.nf] } := by kernel_rfl
theorem tk_73 : tyK tysL 73 = .fun_ := by kernel_rfl
theorem ty_74 : tysL[74]? = some { k := .fun_, size := 1, bytes := 8, zero := [.nf] } := by kernel_rfl
theorem tk_74 : tyK tysL 74 = .fun_ := by kernel_rfl
theorem ty_75 : tysL[75]? = some { k := .fun_, size := 1, bytes := 8, zero := [.nf] } := by kernel_rfl
theorem tk_75 : tyK tysL 75 = .fun_ := by kernel_rfl
theorem ty_76 : tysL[76]? = some { k := .other, size := 1, bytes := 0, zero := [.un] } := by kernel_rfl
theorem tk_76 : tyK tysL 76 = .other := by kernel_rfl
theorem ty_77 : tysL[77]? = some { k := .fun_, size := 1, bytes := 8, zero := [.nf] } := by kernel_rfl
theorem tk_77 : tyK tysL 77 = .fun_ := by kernel_rfl
theorem ty_78 : tysL[78]? = some { k := .fun_, size := 1, bytes := 8, zero := [.nf] } := by kernel_rfl
theorem tk_78 : tyK tysL 78 = .fun_ := by kernel_rfl
theorem ty_79 : tysL[79]? = some { k := .struct [(0, 39), (4, 36)], size := 5, bytes := 104, zero := [.sl (some true) [], .i .i64 0, .sl (some true) [], .sl (some true) [], .sl (some true) []] } := by kernel_rfl
theorem tk_79 : tyK tysL 79 = .struct [(0, 39), (4, 36)] := by kernel_rfl
theorem ty_80 : tysL[80]? = some { k := .struct [(0, 39), (4, 36)], size := 5, bytes := 104, zero := [.sl (some true) [], .i .i64 0, .sl (some true) [], .sl (some true) [], .sl (some true) []] } := by kernel_rfl
theorem tk_80 : tyK tysL 80 = .struct [(0, 39), (4, 36)] := by kernel_rfl
theorem ty_81 : tysL[81]? = some { k := .fun_, size := 1, bytes := 8, zero := [.nf] } := by kernel_rfl
theorem tk_81 : tyK tysL 81 = .fun_ := by kernel_rfl
theorem ty_82 : tysL[82]? = some { k := .fun_, size := 1, bytes := 8, zero := [.nf] } := by kernel_rfl
theorem tk_82 : tyK tysL 82 = .fun_ := by kernel_rfl
theorem ty_83 : tysL[83]? = some { k := .fun_, size := 1, bytes := 8, zero := [.nf] } := by kernel_rfl
theorem tk_83 : tyK tysL 83 = .fun_ := by kernel_rfl
theorem ty_84 : tysL[84]? = some { k := .fun_, size := 1, bytes := 8, zero := [.nf] } := by kernel_rfl
theorem tk_84 : tyK tysL 84 = .fun_ := by kernel_rfl
theorem ty_85 : tysL[85]? = some { k := .fun_, size := 1, bytes := 8, zero := [.nf] } := by kernel_rfl
theorem tk_85 : tyK tysL 85 = .fun_ := by kernel_rfl
theorem ty_86 : tysL[86]? = some { k := .fun_, size := 1, bytes := 8, zero := [.nf] } := by kernel_rfl
theorem tk_86 : tyK tysL 86 = .fun_ := by kernel_rfl
theorem ty_87 : tysL[87]? = some { k := .fun_, size := 1, bytes := 8, zero := [.nf] } := by kernel_rfl
theorem tk_87 : tyK tysL 87 = .fun_ := by kernel_rfl
theorem ty_88 : tysL[88]? = some { k := .slice 36, size := 1, bytes := 24, zero := [.sl (some true) []] } := by kernel_rfl
theorem tk_88 : tyK tysL 88 = .slice 36 := by kernel_rfl
theorem ty_89 : tysL[89]? = some { k := .fun_, size := 1, bytes := 8, zero := [.nf] } := by kernel_rfl
theorem tk_89 : tyK tysL 89 = .fun_ := by kernel_rfl
theorem ty_90 : tysL[90]? = some { k := .fun_, size := 1, bytes := 8, zero := [.nf] } := by kernel_rfl
theorem tk_90 : tyK tysL 90 = .fun_ := by kernel_rfl
theorem ty_91 : tysL[91]? = some { k := .fun_, size := 1, bytes := 8, zero := [.nf] } := by kernel_rfl
theorem tk_91 : tyK tysL 91 = .fun_ := by kernel_rfl
theorem ty_92 : tysL[92]? = some { k := .fun_, size := 1, bytes := 8, zero := [.nf] } := by kernel_rfl
theorem tk_92 : tyK tysL 92 = .fun_ := by kernel_rfl
theorem ty_93 : tysL[93]? = some { k := .other, size := 1, bytes := 0, zero := [.un] } := by kernel_rfl
theorem tk_93 : tyK tysL 93 = .other := by kernel_rfl
theorem ty_94 : tysL[94]? = some { k := .fun_, size := 1, bytes := 8, zero := [.nf] } := by kernel_rfl
theorem tk_94 : tyK tysL 94 = .fun_ := by kernel_rfl
theorem ty_95 : tysL[95]? = some { k := .fun_, size := 1, bytes := 8, zero := [.nf] } := by kernel_rfl
theorem tk_95 : tyK tysL 95 = .fun_ := by kernel_rfl
theorem ty_96 : tysL[96]? = some { k := .slice 107, size := 1, bytes := 24, zero := [.sl (some true) []] } := by kernel_rfl
theorem tk_96 : tyK tysL 96 = .slice 107 := by kernel_rfl
theorem ty_97 : tysL[97]? = some { k := .fun_, size := 1, bytes := 8, zero := [.nf] } := by kernel_rfl
theorem tk_97 : tyK tysL 97 = .fun_ := by kernel_rfl
theorem ty_98 : tysL[98]? = some { k := .fun_, size := 1, bytes := 8, zero := [.nf] } := by kernel_rfl
theorem tk_98 : tyK tysL 98 = .fun_ := by kernel_rfl
theorem ty_99 : tysL[99]? = some { k := .fun_, size := 1, bytes := 8, zero := [.nf] } := by kernel_rfl
theorem tk_99 : tyK tysL 99 = .fun_ := by kernel_rfl
theorem ty_100 : tysL[100]? = some { k := .fun_, size := 1, bytes := 8, zero := [.nf] } := by kernel_rfl
theorem tk_100 : tyK tysL 100 = .fun_ := by kernel_rfl
theorem ty_101 : tysL[101]? = some { k := .fun_, size := 1, bytes := 8, zero := [.nf] } := by kernel_rfl
theorem tk_101 : tyK tysL 101 = .fun_ := by kernel_rfl
theorem ty_102 : tysL[102]? = some { k := .fun_, size := 1, bytes := 8, zero := [.nf] } := by kernel_rfl
theorem tk_102 : tyK tysL 102 = .fun_ := by kernel_rfl
theorem ty_103 : tysL[103]? = some { k := .fun_, size := 1, bytes := 8, zero := [.nf] } := by kernel_rfl
theorem tk_103 : tyK tysL 103 = .fun_ := by kernel_rfl
theorem ty_104 : tysL[104]? = some { k := .fun_, size := 1, bytes := 8, zero := [.nf] } := by kernel_rfl
theorem tk_104 : tyK tysL 104 = .fun_ := by kernel_rfl
theorem ty_105 : tysL[105]? = some { k := .fun_, size := 1, bytes := 8, zero := [.nf] } := by kernel_rfl
theorem tk_105 : tyK tysL 105 = .fun_ := by kernel_rfl
theorem ty_106 : tysL[106]? = some { k := .struct [(0, 3), (1, 3), (2, 3)], size := 3, bytes := 24, zero := [.i .i64 0, .i .i64 0, .i .i64 0] } := by kernel_rfl
theorem tk_106 : tyK tysL 106 = .struct [(0, 3), (1, 3), (2, 3)] := by kernel_rfl
theorem ty_107 : tysL[107]? = some { k := .struct [(0, 3), (1, 3), (2, 3)], size := 3, bytes := 24, zero := [.i .i64 0, .i .i64 0, .i .i64 0] } := by kernel_rfl
theorem tk_107 : tyK tysL 107 = .struct [(0, 3), (1, 3), (2, 3)] := by kernel_rfl
theorem ty_108 : tysL[108]? = some { k := .fun_, size := 1, bytes := 8, zero := [.nf] } := by kernel_rfl
theorem tk_108 : tyK tysL 108 = .fun_ := by kernel_rfl
theorem ty_109 : tysL[109]? = some { k := .fun_, size := 1, bytes := 8, zero := [.nf] } := by kernel_rfl
theorem tk_109 : tyK tysL 109 = .fun_ := by kernel_rfl
theorem ty_110 : tysL[110]? = some { k := .slice 112, size := 1, bytes := 24, zero := [.sl (some true) []] } := by kernel_rfl
theorem tk_110 : tyK tysL 110 = .slice 112 := by kernel_rfl
theorem ty_111 : tysL[111]? = some { k := .fun_, size := 1, bytes := 8, zero := [.nf] } := by kernel_rfl
theorem tk_111 : tyK tysL 111 = .fun_ := by kernel_rfl
theorem ty_112 : tysL[112]? = some { k := .arr 3 3, size := 3, bytes := 24, zero := [.i .i64 0, .i .i64 0, .i .i64 0] } := by kernel_rfl
theorem tk_112 : tyK tysL 112 = .arr 3 3 := by kernel_rfl
theorem ty_113 : tysL[113]? = some { k := .fun_, size := 1, bytes := 8, zero := [.nf] } := by kernel_rfl
theorem tk_113 : tyK tysL 113 = .fun_ := by kernel_rfl
theorem ty_114 : tysL[114]? = some { k := .fun_, size := 1, bytes := 8, zero := [.nf] } := by kernel_rfl
theorem tk_114 : tyK tysL 114 = .fun_ := by kernel_rfl
theorem ty_115 : tysL[115]? = some { k := .fun_, size := 1, bytes := 8, zero := [.nf] } := by kernel_rfl
theorem tk_115 : tyK tysL 115 = .fun_ := by kernel_rfl
theorem ty_116 : tysL[116]? = some { k := .fun_, size := 1, bytes := 8, zero := [.nf] } := by kernel_rfl
theorem tk_116 : tyK tysL 116 = .fun_ := by kernel_rfl
theorem ty_117 : tysL[117]? = some { k := .struct [(0, 3), (1, 36)], size := 2, bytes := 32, zero := [.i .i64 0, .sl (some true) []] } := by kernel_rfl
theorem tk_117 : tyK tysL 117 = .struct [(0, 3), (1, 36)] := by kernel_rfl
theorem ty_118 : tysL[118]? = some { k := .struct [(0, 3), (1, 36)], size := 2, bytes := 32, zero := [.i .i64 0, .sl (some true) []] } := by kernel_rfl
theorem tk_118 : tyK tysL 118 = .struct [(0, 3), (1, 36)] := by kernel_rfl
theorem ty_119 : tysL[119]? = some { k := .slice 118, size := 1, bytes := 24, zero := [.sl (some true) []] } := by kernel_rfl
theorem tk_119 : tyK tysL 119 = .slice 118 := by kernel_rfl
theorem ty_120 : tysL[120]? = some { k := .fun_, size := 1, bytes := 8, zero := [.nf] } := by kernel_rfl
theorem tk_120 : tyK tysL 120 = .fun_ := by kernel_rfl
theorem ty_121 : tysL[121]? = some { k := .fun_, size := 1, bytes := 8, zero := [.nf] } := by kernel_rfl
theorem tk_121 : tyK tysL 121 = .fun_ := by kernel_rfl
theorem ty_122 : tysL[122]? = some { k := .slice 125, size := 1, bytes := 24, zero := [.sl (some true) []] } := by kernel_rfl
theorem tk_122 : tyK tysL 122 = .slice 125 := by kernel_rfl
theorem ty_123 : tysL[123]? = some { k := .fun_, size := 1, bytes := 8, zero := [.nf] } := by kernel_rfl
theorem tk_123 : tyK tysL 123 = .fun_ := by kernel_rfl
theorem ty_124 : tysL[124]? = some { k := .struct [(0, 3), (1, 9), (2, 9)], size := 3, bytes := 40, zero := [.i .i64 0, .s ⟨#[]⟩, .s ⟨#[]⟩] } := by kernel_rfl
theorem tk_124 : tyK tysL 124 = .struct [(0, 3), (1, 9), (2, 9)] := by kernel_rfl
theorem ty_125 : tysL[125]? = some { k := .struct [(0, 3), (1, 9), (2, 9)], size := 3, bytes := 40, zero := [.i .i64 0, .s ⟨#[]⟩, .s ⟨#[]⟩] } := by kernel_rfl
theorem tk_125 : tyK tysL 125 = .struct [(0, 3), (1, 9), (2, 9)] := by kernel_rfl
theorem ty_126 : tysL[126]? = some { k := .fun_, size := 1, bytes := 8, zero := [.nf] } := by kernel_rfl
theorem tk_126 : tyK tysL 126 = .fun_ := by kernel_rfl
theorem ty_127 : tysL[127]? = some { k := .fun_, size := 1, bytes := 8, zero := [.nf] } := by kernel_rfl
theorem tk_127 : tyK tysL 127 = .fun_ := by kernel_rfl
theorem ty_128 : tysL[128]? = some { k := .fun_, size := 1, bytes := 8, zero := [.nf] } := by kernel_rfl
theorem tk_128 : tyK tysL 128 = .fun_ := by kernel_rfl
theorem ty_129 : tysL[129]? = some { k := .other, size := 1, bytes := 0, zero := [.un] } := by kernel_rfl
theorem tk_129 : tyK tysL 129 = .other := by kernel_rfl
theorem ty_130 : tysL[130]? = some { k := .fun_, size := 1, bytes := 8, zero := [.nf] } := by kernel_rfl
theorem tk_130 : tyK tysL 130 = .fun_ := by kernel_rfl
theorem ty_131 : tysL[131]? = some { k := .fun_, size := 1, bytes := 8, zero := [.nf] } := by kernel_rfl
theorem tk_131 : tyK tysL 131 = .fun_ := by kernel_rfl
theorem ty_132 : tysL[132]? = some { k := .fun_, size := 1, bytes := 8, zero := [.nf] } := by kernel_rfl
theorem tk_132 : tyK tysL 132 = .fun_ := by kernel_rfl
theorem ty_133 : tysL[133]? = some { k := .struct [(0, 17), (1, 17), (2, 17), (3, 9)], size := 4, bytes := 40, zero := [.np, .np, .np, .s ⟨#[]⟩] } := by kernel_rfl
theorem tk_133 : tyK tysL 133 = .struct [(0, 17), (1, 17), (2, 17), (3, 9)] := by kernel_rfl
theorem ty_134 : tysL[134]? = some { k := .struct [(0, 17), (1, 17), (2, 17), (3, 9)], size := 4, bytes := 40, zero := [.np, .np, .np, .s ⟨#[]⟩] } := by kernel_rfl
theorem tk_134 : tyK tysL 134 = .struct [(0, 17), (1, 17), (2, 17), (3, 9)] := by kernel_rfl
theorem ty_135 : tysL[135]? = some { k := .arr 0 16, size := 0, bytes := 0, zero := [] } := by kernel_rfl
theorem tk_135 : tyK tysL 135 = .arr 0 16 := by kernel_rfl
theorem ty_136 : tysL[136]? = some { k := .struct [(0, 135)], size := 0, bytes := 0, zero := [] } := by kernel_rfl
theorem tk_136 : tyK tysL 136 = .struct [(0, 135)] := by kernel_rfl
theorem ty_137 : tysL[137]? = some { k := .struct [(0, 135)], size := 0, bytes := 0, zero := [] } := by kernel_rfl
theorem tk_137 : tyK tysL 137 = .struct [(0, 135)] := by kernel_rfl
theorem ty_138 : tysL[138]? = some { k := .fun_, size := 1, bytes := 8, zero := [.nf] } := by kernel_rfl
theorem tk_138 : tyK tysL 138 = .fun_ := by kernel_rfl
theorem ty_139 : tysL[139]? = some { k := .int .u32, size := 1, bytes := 4, zero := [.i .u32 0] } := by kernel_rfl
theorem tk_139 : tyK tysL 139 = .int .u32 := by kernel_rfl
theorem ty_140 : tysL[140]? = some { k := .int .u8, size := 1, bytes := 1, zero := [.i .u8 0] } := by kernel_rfl
theorem tk_140 : tyK tysL 140 = .int .u8 := by kernel_rfl
theorem ty_141 : tysL[141]? = some { k := .int .u8, size := 1, bytes := 1, zero := [.i .u8 0] } := by kernel_rfl
theorem tk_141 : tyK tysL 141 = .int .u8 := by kernel_rfl
theorem ty_142 : tysL[142]? = some { k := .fun_, size := 1, bytes := 8, zero := [.nf] } := by kernel_rfl
theorem tk_142 : tyK tysL 142 = .fun_ := by kernel_rfl
theorem ty_143 : tysL[143]? = some { k := .ptr 5, size := 1, bytes := 8, zero := [.np] } := by kernel_rfl
theorem tk_143 : tyK tysL 143 = .ptr 5 := by kernel_rfl
theorem ty_144 : tysL[144]? = some { k := .int .i32, size := 1, bytes := 4, zero := [.i .i32 0] } := by kernel_rfl
theorem tk_144 : tyK tysL 144 = .int .i32 := by kernel_rfl
theorem ty_145 : tysL[145]? = some { k := .int .i32, size := 1, bytes := 4, zero := [.i .i32 0] } := by kernel_rfl
theorem tk_145 : tyK tysL 145 = .int .i32 := by kernel_rfl
theorem ty_146 : tysL[146]? = some { k := .struct [(0, 12), (1, 12), (2, 139), (3, 140), (4, 5), (5, 5), (6, 141), (7, 142), (8, 143), (9, 144), (10, 145)], size := 11, bytes := 48, zero := [.i .u64 0, .i .u64 0, .i .u32 0, .i .u8 0, .i .u8 0, .i .u8 0, .i .u8 0, .nf, .np, .i .i32 0, .i .i32 0] } := by kernel_rfl
theorem tk_146 : tyK tysL 146 = .struct [(0, 12), (1, 12), (2, 139), (3, 140), (4, 5), (5, 5), (6, 141), (7, 142), (8, 143), (9, 144), (10, 145)] := by kernel_rfl
theorem ty_147 : tysL[147]? = some { k := .struct [(0, 12), (1, 12), (2, 139), (3, 140), (4, 5), (5, 5), (6, 141), (7, 142), (8, 143), (9, 144), (10, 145)], size := 11, bytes := 48, zero := [.i .u64 0, .i .u64 0, .i .u32 0, .i .u8 0, .i .u8 0, .i .u8 0, .i .u8 0, .nf, .np, .i .i32 0, .i .i32 0] } := by kernel_rfl
theorem tk_147 : tyK tysL 147 = .struct [(0, 12), (1, 12), (2, 139), (3, 140), (4, 5), (5, 5), (6, 141), (7, 142), (8, 143), (9, 144), (10, 145)] := by kernel_rfl
theorem ty_148 : tysL[148]? = some { k := .other, size := 1, bytes := 8, zero := [.np] } := by kernel_rfl
theorem tk_148 : tyK tysL 148 = .other := by kernel_rfl
end Go.Proofs
set_option maxRecDepth 100000
set_option linter.unusedVariables false
set_option linter.unusedSimpArgs false
namespace Go.Proofs
open Go.Iv
def encR (l : List (Int × Int × Int)) : List (List IV) := l.map fun x => [.i .i64 x.1, .i .i64 x.2.1, .i .i64 x.2.2]
def flatF : List (Int × Int × Int) → Int → Int
  | [], _ => 0
  | x :: l, c => if x.1 ≤ c ∧ c ≤ x.2.1 then x.2.2 else flatF l c
theorem encR_len (l : List (Int × Int × Int)) : (encR l).length = l.length := by simp [encR]
theorem encR_at {l : List (Int × Int × Int)} {k : Nat} {x : Int × Int × Int} (h : l[k]? = some x) : (encR l).getD k [] = [.i .i64 x.1, .i .i64 x.2.1, .i .i64 x.2.2] := getD_enc h
theorem flatF_drop {l : List (Int × Int × Int)} {k : Nat} {x : Int × Int × Int} (h : l[k]? = some x) (c : Int) : flatF (l.drop k) c = if x.1 ≤ c ∧ c ≤ x.2.1 then x.2.2 else flatF (l.drop (k + 1)) c := by
  have hk : k < l.length := (List.getElem?_eq_some_iff.1 h).1
  have e : l[k] = x := (List.getElem?_eq_some_iff.1 h).2
  rw [List.drop_eq_getElem_cons hk, e]
  rfl
theorem c63 (nl : Option Bool) (l : List (Int × Int × Int)) (c : Int) (hl0 : l.length ≤ 4611686018427387904) : PC Try.prog true 63 [.sl nl (encR l), .i .i64 c] (.i .i64 (flatF l c)) [] := by
  refine pcW E0_ok mm (fn := Try.f63) (by kernel_rfl) (by kernel_rfl) (by kernel_rfl) [(3, 2, .reg 0)] (by kernel_rfl) [] (by rw [show Try.f63.ntmps = 2 + 24 by kernel_rfl]; exact Nat.le_add_right _ _) ?_
  intro T hl hx
  have a0 := hx 0 _ rfl
  have a1 := hx 1 _ rfl
  clear hx
  simp only [bodyOf, Try.f63] at hl ⊢
  simp only [wB, E0_tys, appI, bsI, slI, sliceI, sliceS, optI, appendI, srcI, chunk, fillI, fzParts, fzL, fz1, planAt, loadI, storeI, takeI, TK.agg, TK.known, cellsI, fillRow, okCell, bltI, builtinI, lenI, indexAddrI, fieldAddrI, fieldI, indexI, nilChkI, An.isImm, pureC, pure0, impI, impL, impC, cutO, An.imps, List.replicate, decide_true, decide_false, cond_true, cond_false, if_true, if_false, ite_true, ite_false, ne_eq, forall_const, eq_self, reduceCtorEq, reduceIte, Nat.reduceLT, Nat.reduceLeDiff, Nat.reduceAdd, Nat.reduceSub, Nat.reduceMul, Nat.reduceEqDiff, Nat.reduceBEq, Int.reduceLE, Int.reduceLT, Int.reduceToNat, Int.reduceEq, Int.reduceAdd, Int.reduceSub, Int.reduceMul, ty_3, tk_3, ty_96, tk_96, ty_107, tk_107, a0, a1, hl, encR_len]
  refine W_loop _ _ _ _ _ _ _ (fun T _ => ∃ k : Nat, k ≤ l.length ∧ T.length = 26 ∧ getT T 1 = .i .i64 c ∧ getT T 7 = .sl nl (encR l) ∧ getT T 8 = .i .i64 (l.length : Int) ∧ getT T 9 = .i .i64 (k : Int) ∧ flatF (l.drop k) c = flatF l c)
    (fun T _ => l.length - (asI (getT T 9)).toNat) ⟨0, ?_⟩ ?_
  · simp only [wB, E0_tys, appI, bsI, slI, sliceI, sliceS, optI, appendI, srcI, chunk, fillI, fzParts, fzL, fz1, planAt, loadI, storeI, takeI, TK.agg, TK.known, cellsI, fillRow, okCell, bltI, builtinI, lenI, indexAddrI, fieldAddrI, fieldI, indexI, nilChkI, An.isImm, pureC, pure0, impI, impL, impC, cutO, An.imps, List.replicate, decide_true, decide_false, cond_true, cond_false, if_true, if_false, ite_true, ite_false, ne_eq, forall_const, eq_self, reduceCtorEq, reduceIte, Nat.reduceLT, Nat.reduceLeDiff, Nat.reduceAdd, Nat.reduceSub, Nat.reduceMul, Nat.reduceEqDiff, Nat.reduceBEq, Int.reduceLE, Int.reduceLT, Int.reduceToNat, Int.reduceEq, Int.reduceAdd, Int.reduceSub, Int.reduceMul, ty_3, tk_3, ty_96, tk_96, ty_107, tk_107, a0, a1, hl, encR_len]
    try rfl
  · rintro T R ⟨k, hk, hl, a1, a7, a8, a9, hf⟩
    simp only [wB, E0_tys, appI, bsI, slI, sliceI, sliceS, optI, appendI, srcI, chunk, fillI, fzParts, fzL, fz1, planAt, loadI, storeI, takeI, TK.agg, TK.known, cellsI, fillRow, okCell, bltI, builtinI, lenI, indexAddrI, fieldAddrI, fieldI, indexI, nilChkI, An.isImm, pureC, pure0, impI, impL, impC, cutO, An.imps, List.replicate, decide_true, decide_false, cond_true, cond_false, if_true, if_false, ite_true, ite_false, ne_eq, forall_const, eq_self, reduceCtorEq, reduceIte, Nat.reduceLT, Nat.reduceLeDiff, Nat.reduceAdd, Nat.reduceSub, Nat.reduceMul, Nat.reduceEqDiff, Nat.reduceBEq, Int.reduceLE, Int.reduceLT, Int.reduceToNat, Int.reduceEq, Int.reduceAdd, Int.reduceSub, Int.reduceMul, ty_3, tk_3, ty_96, tk_96, ty_107, tk_107, a1, a7, a8, a9, hl, encR_len]
    refine condW_b _ _ _ _ (fun b => ?_) (fun b => ?_)
    · have hk2 : k < l.length := by simpa using b
      obtain ⟨x, hx⟩ := at_lt hk2
      have hs := flatF_drop hx c
      have hw : IntKind.i64.wrap ((k : Int) + 1) = ((k + 1 : Nat) : Int) := by rw [wrap64] <;> omega
      simp only [wB, E0_tys, appI, bsI, slI, sliceI, sliceS, optI, appendI, srcI, chunk, fillI, fzParts, fzL, fz1, planAt, loadI, storeI, takeI, TK.agg, TK.known, cellsI, fillRow, okCell, bltI, builtinI, lenI, indexAddrI, fieldAddrI, fieldI, indexI, nilChkI, An.isImm, pureC, pure0, impI, impL, impC, cutO, An.imps, List.replicate, decide_true, decide_false, cond_true, cond_false, if_true, if_false, ite_true, ite_false, ne_eq, forall_const, eq_self, reduceCtorEq, reduceIte, Nat.reduceLT, Nat.reduceLeDiff, Nat.reduceAdd, Nat.reduceSub, Nat.reduceMul, Nat.reduceEqDiff, Nat.reduceBEq, Int.reduceLE, Int.reduceLT, Int.reduceToNat, Int.reduceEq, Int.reduceAdd, Int.reduceSub, Int.reduceMul, ty_3, tk_3, ty_96, tk_96, ty_107, tk_107, a1, a7, a8, a9, hl, encR_len, hk2, encR_at hx]
      refine guardW_b _ _ _ _ _ _ (fun b1 => ?_) (fun b1 => ?_)
      · simp only [wB, E0_tys, appI, bsI, slI, sliceI, sliceS, optI, appendI, srcI, chunk, fillI, fzParts, fzL, fz1, planAt, loadI, storeI, takeI, TK.agg, TK.known, cellsI, fillRow, okCell, bltI, builtinI, lenI, indexAddrI, fieldAddrI, fieldI, indexI, nilChkI, An.isImm, pureC, pure0, impI, impL, impC, cutO, An.imps, List.replicate, decide_true, decide_false, cond_true, cond_false, if_true, if_false, ite_true, ite_false, ne_eq, forall_const, eq_self, reduceCtorEq, reduceIte, Nat.reduceLT, Nat.reduceLeDiff, Nat.reduceAdd, Nat.reduceSub, Nat.reduceMul, Nat.reduceEqDiff, Nat.reduceBEq, Int.reduceLE, Int.reduceLT, Int.reduceToNat, Int.reduceEq, Int.reduceAdd, Int.reduceSub, Int.reduceMul, ty_3, tk_3, ty_96, tk_96, ty_107, tk_107, a1, a7, a8, a9, hl, encR_len, hk2, encR_at hx]
        refine condW_b _ _ _ _ (fun b2 => ?_) (fun b2 => ?_)
        · simp only [wB, E0_tys, appI, bsI, slI, sliceI, sliceS, optI, appendI, srcI, chunk, fillI, fzParts, fzL, fz1, planAt, loadI, storeI, takeI, TK.agg, TK.known, cellsI, fillRow, okCell, bltI, builtinI, lenI, indexAddrI, fieldAddrI, fieldI, indexI, nilChkI, An.isImm, pureC, pure0, impI, impL, impC, cutO, An.imps, List.replicate, decide_true, decide_false, cond_true, cond_false, if_true, if_false, ite_true, ite_false, ne_eq, forall_const, eq_self, reduceCtorEq, reduceIte, Nat.reduceLT, Nat.reduceLeDiff, Nat.reduceAdd, Nat.reduceSub, Nat.reduceMul, Nat.reduceEqDiff, Nat.reduceBEq, Int.reduceLE, Int.reduceLT, Int.reduceToNat, Int.reduceEq, Int.reduceAdd, Int.reduceSub, Int.reduceMul, ty_3, tk_3, ty_96, tk_96, ty_107, tk_107, a1, a7, a8, a9, hl, encR_len, hk2, encR_at hx]
          rw [← hf, hs, if_pos ⟨of_decide_eq_true b1, of_decide_eq_true b2⟩]
        · simp only [wB, E0_tys, appI, bsI, slI, sliceI, sliceS, optI, appendI, srcI, chunk, fillI, fzParts, fzL, fz1, planAt, loadI, storeI, takeI, TK.agg, TK.known, cellsI, fillRow, okCell, bltI, builtinI, lenI, indexAddrI, fieldAddrI, fieldI, indexI, nilChkI, An.isImm, pureC, pure0, impI, impL, impC, cutO, An.imps, List.replicate, decide_true, decide_false, cond_true, cond_false, if_true, if_false, ite_true, ite_false, ne_eq, forall_const, eq_self, reduceCtorEq, reduceIte, Nat.reduceLT, Nat.reduceLeDiff, Nat.reduceAdd, Nat.reduceSub, Nat.reduceMul, Nat.reduceEqDiff, Nat.reduceBEq, Int.reduceLE, Int.reduceLT, Int.reduceToNat, Int.reduceEq, Int.reduceAdd, Int.reduceSub, Int.reduceMul, ty_3, tk_3, ty_96, tk_96, ty_107, tk_107, a1, a7, a8, a9, hl, encR_len, hk2, encR_at hx, hw]
          exact ⟨⟨k + 1, hk2, rfl, by rw [← hf, hs, if_neg (fun q => of_decide_eq_false b2 q.2)]⟩, by simp only [asI]; omega⟩
      · have c1 := of_decide_eq_false b1
        simp only [wB, E0_tys, appI, bsI, slI, sliceI, sliceS, optI, appendI, srcI, chunk, fillI, fzParts, fzL, fz1, planAt, loadI, storeI, takeI, TK.agg, TK.known, cellsI, fillRow, okCell, bltI, builtinI, lenI, indexAddrI, fieldAddrI, fieldI, indexI, nilChkI, An.isImm, pureC, pure0, impI, impL, impC, cutO, An.imps, List.replicate, decide_true, decide_false, cond_true, cond_false, if_true, if_false, ite_true, ite_false, ne_eq, forall_const, eq_self, reduceCtorEq, reduceIte, Nat.reduceLT, Nat.reduceLeDiff, Nat.reduceAdd, Nat.reduceSub, Nat.reduceMul, Nat.reduceEqDiff, Nat.reduceBEq, Int.reduceLE, Int.reduceLT, Int.reduceToNat, Int.reduceEq, Int.reduceAdd, Int.reduceSub, Int.reduceMul, ty_3, tk_3, ty_96, tk_96, ty_107, tk_107, a1, a7, a8, a9, hl, encR_len, hk2, encR_at hx, hw]
        exact ⟨⟨k + 1, hk2, rfl, by rw [← hf, hs, if_neg (fun q => c1 q.1)]⟩, by simp only [asI]; omega⟩
    · simp only [wB, E0_tys, appI, bsI, slI, sliceI, sliceS, optI, appendI, srcI, chunk, fillI, fzParts, fzL, fz1, planAt, loadI, storeI, takeI, TK.agg, TK.known, cellsI, fillRow, okCell, bltI, builtinI, lenI, indexAddrI, fieldAddrI, fieldI, indexI, nilChkI, An.isImm, pureC, pure0, impI, impL, impC, cutO, An.imps, List.replicate, decide_true, decide_false, cond_true, cond_false, if_true, if_false, ite_true, ite_false, ne_eq, forall_const, eq_self, reduceCtorEq, reduceIte, Nat.reduceLT, Nat.reduceLeDiff, Nat.reduceAdd, Nat.reduceSub, Nat.reduceMul, Nat.reduceEqDiff, Nat.reduceBEq, Int.reduceLE, Int.reduceLT, Int.reduceToNat, Int.reduceEq, Int.reduceAdd, Int.reduceSub, Int.reduceMul, ty_3, tk_3, ty_96, tk_96, ty_107, tk_107, a1, a7, a8, a9, hl, encR_len]
      rw [← hf, List.drop_of_length_le (by have := of_decide_eq_false b; omega)]; rfl
end Go.Proofs
