import Derived.Test.YtapigbgcghekgaaM11
import Derived.Test.YtapigbgcghekgaaM08
set_option linter.unusedVariables false
set_option linter.unusedSimpArgs false
set_option maxRecDepth 100000
namespace Go.Proofs
open Go.Iv
def tNothing : List (Int × Int × Int) := [(0, 8, 1), (14, 31, 1), (127, 132, 1), (134, 159, 1), (173, 173, 1), (847, 847, 1), (1757, 1757, 1), (1807, 1807, 1), (6150, 6150, 1), (6155, 6158, 1), (8203, 8207, 1), (8234, 8238, 1), (8288, 8291, 1), (8298, 8303, 1), (65024, 65039, 1), (65279, 65279, 1), (65529, 65532, 1), (119155, 119162, 1), (917505, 917505, 1), (917536, 917631, 1)]
def tSpaces : List (Int × Int × Int) := [(9, 13, 1), (133, 133, 1), (160, 160, 1), (5760, 5760, 1), (8192, 8202, 1), (8232, 8233, 1), (8239, 8239, 1), (8287, 8287, 1), (12288, 12288, 1)]
def tAssigned : List (Int × Int × Int) := [(0, 544, 1), (546, 563, 1), (592, 685, 1), (688, 750, 1), (768, 847, 1), (864, 879, 1), (884, 885, 1), (890, 890, 1), (894, 894, 1), (900, 906, 1), (908, 908, 1), (910, 929, 1), (931, 974, 1), (976, 1014, 1), (1024, 1158, 1), (1160, 1230, 1), (1425, 1441, 1), (1443, 1465, 1), (1467, 1476, 1), (1488, 1514, 1), (1757, 1757, 1), (1807, 1807, 1), (2305, 2307, 1), (2309, 2361, 1), (2364, 2381, 1), (2392, 2416, 1), (4352, 4441, 1), (4447, 4514, 1), (4520, 4601, 1), (5760, 5788, 1), (6144, 6158, 1), (7680, 7835, 1), (7840, 7929, 1), (8175, 8175, 1), (8192, 8274, 1), (8287, 8291, 1), (8298, 8305, 1), (8400, 8426, 1), (8448, 8506, 1), (8531, 8579, 1), (9312, 9470, 1), (12288, 12351, 1), (12353, 12438, 1), (12441, 12543, 1), (19968, 40869, 1), (44032, 55203, 1), (57344, 63743, 1), (64256, 64262, 1), (64285, 64310, 1), (65024, 65039, 1), (65056, 65059, 1), (65279, 65279, 1), (65281, 65470, 1), (65529, 65533, 1), (66304, 66334, 1), (119155, 119162, 1), (917505, 917505, 1), (917536, 917631, 1), (983040, 1048573, 1), (1048576, 1114109, 1)]
def tProhibited : List (Int × Int × Int) := [(832, 833, 1), (57344, 63743, 1), (65533, 65533, 1), (983040, 1048573, 1), (1048576, 1114109, 1)]
def tClasses : List (Int × Int × Int) := [(768, 788, 230), (789, 789, 232), (790, 793, 220), (795, 795, 216), (796, 800, 220), (801, 802, 202), (803, 806, 220), (807, 808, 202), (809, 819, 220), (820, 824, 1), (825, 828, 220), (829, 836, 230), (837, 837, 240), (838, 838, 230), (839, 841, 220), (1456, 1456, 10), (1457, 1457, 11), (1460, 1460, 14), (1468, 1468, 21), (1473, 1473, 24), (1474, 1474, 25), (2364, 2364, 7), (2381, 2381, 9), (8400, 8401, 230), (12441, 12442, 8), (65056, 65059, 230)]
theorem c64 : PC Try.prog true 64 [] (.sl (some false) (encR tNothing)) [] := pcRun E0_ok mm (noCal_ok _) (fn := Try.f64) (by kernel_rfl) (by kernel_rfl) (by kernel_rfl) [] (by kernel_rfl) [] 50 (by kernel_rfl)
theorem c65 : PC Try.prog true 65 [] (.sl (some false) (encR tSpaces)) [] := pcRun E0_ok mm (noCal_ok _) (fn := Try.f65) (by kernel_rfl) (by kernel_rfl) (by kernel_rfl) [] (by kernel_rfl) [] 50 (by kernel_rfl)
theorem c69 : PC Try.prog true 69 [] (.sl (some false) (encR tAssigned)) [] := pcRun E0_ok mm (noCal_ok _) (fn := Try.f69) (by kernel_rfl) (by kernel_rfl) (by kernel_rfl) [] (by kernel_rfl) [] 50 (by kernel_rfl)
theorem c70 : PC Try.prog true 70 [] (.sl (some false) (encR tProhibited)) [] := pcRun E0_ok mm (noCal_ok _) (fn := Try.f70) (by kernel_rfl) (by kernel_rfl) (by kernel_rfl) [] (by kernel_rfl) [] 50 (by kernel_rfl)
theorem c73 : PC Try.prog true 73 [] (.sl (some false) (encR tClasses)) [] := pcRun E0_ok mm (noCal_ok _) (fn := Try.f73) (by kernel_rfl) (by kernel_rfl) (by kernel_rfl) [] (by kernel_rfl) [] 50 (by kernel_rfl)
end Go.Proofs
