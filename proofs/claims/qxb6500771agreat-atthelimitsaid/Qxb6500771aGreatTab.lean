/- digestm's tables: sines, k256, k512. -/
import Derived.Test.Qxb6500771aGreatArr
namespace Go.Qm
open Go Go.RowKit
theorem wpList_build_as {P : Program} {ops : Array Oper} {rest : List Oper} {o : Oper} {a : Act} {w : World} {Q : Exit → Act → World → Prop} (hg : o.guard = none) (t : TypeId) (parts : Array (Nat × Operand)) (ho : o.op = .build t parts) (cells : Array Value)
    (hf : P.built t (parts.map fun (i, x) => (i, a.eval x)).toList = some cells)
    (h : wpList P ops Q rest (a.put o.dst (.agg cells)) w) : wpList P ops Q (o :: rest) a w :=
  wpList_build hg t parts ho (by rw [hf]; rfl) (by rw [hf]; exact h)
theorem u32_one (l : List Int) : ((l.map u32v).toArray).all (·.oneCell') = true := by simp [u32v, Value.oneCell']
theorem u64_one (l : List Int) : ((l.map u64v).toArray).all (·.oneCell') = true := by simp [u64v, Value.oneCell']
end Go.Qm
namespace Go.Proofs.Qxb6500771aGreat
open Go.RowKit Go.Qm
set_option linter.unusedVariables false
set_option linter.unusedSimpArgs false
theorem z117 : (Tryz.prog.info? 156).map (·.zero) = some (some (.agg (List.replicate 64 (Value.int .u32 0)).toArray)) := by kernel_rfl
theorem s117 : (Tryz.prog.info? 156).map (·.size) = some 64 := by kernel_rfl
theorem z122 : (Tryz.prog.info? 159).map (·.zero) = some (some (.agg (List.replicate 80 (Value.int .u64 0)).toArray)) := by kernel_rfl
theorem s122 : (Tryz.prog.info? 159).map (·.size) = some 80 := by kernel_rfl

def sinesT : List Int := [3614090360, 3905402710, 606105819, 3250441966, 4118548399, 1200080426, 2821735955, 4249261313, 1770035416, 2336552879, 4294925233, 2304563134, 1804603682, 4254626195, 2792965006, 1236535329, 4129170786, 3225465664, 643717713, 3921069994, 3593408605, 38016083, 3634488961, 3889429448, 568446438, 3275163606, 4107603335, 1163531501, 2850285829, 4243563512, 1735328473, 2368359562, 4294588738, 2272392833, 1839030562, 4259657740, 2763975236, 1272893353, 4139469664, 3200236656, 681279174, 3936430074, 3572445317, 76029189, 3654602809, 3873151461, 530742520, 3299628645, 4096336452, 1126891415, 2878612391, 4237533241, 1700485571, 2399980690, 4293915773, 2240044497, 1873313359, 4264355552, 2734768916, 1309151649, 4149444226, 3174756917, 718787259, 3951481745]
theorem sinesT_length : sinesT.length = 64 := rfl
theorem sinesT_one : ((sinesT.map u32v).toArray).all (·.oneCell') = true := u32_one _
def k256T : List Int := [1116352408, 1899447441, 3049323471, 3921009573, 961987163, 1508970993, 2453635748, 2870763221, 3624381080, 310598401, 607225278, 1426881987, 1925078388, 2162078206, 2614888103, 3248222580, 3835390401, 4022224774, 264347078, 604807628, 770255983, 1249150122, 1555081692, 1996064986, 2554220882, 2821834349, 2952996808, 3210313671, 3336571891, 3584528711, 113926993, 338241895, 666307205, 773529912, 1294757372, 1396182291, 1695183700, 1986661051, 2177026350, 2456956037, 2730485921, 2820302411, 3259730800, 3345764771, 3516065817, 3600352804, 4094571909, 275423344, 430227734, 506948616, 659060556, 883997877, 958139571, 1322822218, 1537002063, 1747873779, 1955562222, 2024104815, 2227730452, 2361852424, 2428436474, 2756734187, 3204031479, 3329325298]
theorem k256T_length : k256T.length = 64 := rfl
theorem k256T_one : ((k256T.map u32v).toArray).all (·.oneCell') = true := u32_one _
set_option maxRecDepth 4000 in
set_option maxHeartbeats 2000000 in
theorem k256_c (w : World) : Calls Tryz.prog 122 #[] w fun e w' => e = .returned (.agg (k256T.map u32v).toArray) ∧ Keep w w' := by
  have hs : (k256T.map u32v).length = 64 := rfl
  go_enter Tryz.func122, Tryz.ntmps122
  go_wp2_with (first
    | (refine wpList_alloc_z (by rfl) 156 (by rfl) (List.replicate 64 (.int .u32 0)) z117 ?_)
    | (refine wpList_build_as (by rfl) 156 _ (by rfl) (k256T.map u32v).toArray (by kernel_rfl) ?_)
    | (refine wpList_store_row (by rfl) 156 (.tmp 0) (.tmp 1) (by rfl) w.heap.size (k256T.map u32v).toArray (by rfl) (by rfl) 156 _ (Arr.new w 156 _) (by rw [List.size_toArray, hs]; exact s117) (by simp [hs]) k256T_one ?_))
  refine bodyPost_ret (v := .agg (k256T.map u32v).toArray) ?_ rfl ⟨rfl, ((Keep.refl w).alloc _).setRow (Nat.le_refl _) _⟩
  exact results_cell_row (p := 0) (ty := 156) rfl _ _ w.heap.size 156 (k256T.map u32v).toArray (0, 0) _ rfl ((Arr.new w 156 _).row _) Tryz.underlying156 rfl (by rw [List.size_toArray, hs]; exact s117)

def k512T : List Int := [4794697086780616226, 8158064640168781261, 13096744586834688815, 16840607885511220156, 4131703408338449720, 6480981068601479193, 10538285296894168987, 12329834152419229976, 15566598209576043074, 1334009975649890238, 2608012711638119052, 6128411473006802146, 8268148722764581231, 9286055187155687089, 11230858885718282805, 13951009754708518548, 16472876342353939154, 17275323862435702243, 1135362057144423861, 2597628984639134821, 3308224258029322869, 5365058923640841347, 6679025012923562964, 8573033837759648693, 10970295158949994411, 12119686244451234320, 12683024718118986047, 13788192230050041572, 14330467153632333762, 15395433587784984357, 489312712824947311, 1452737877330783856, 2861767655752347644, 3322285676063803686, 5560940570517711597, 5996557281743188959, 7280758554555802590, 8532644243296465576, 9350256976987008742, 10552545826968843579, 11727347734174303076, 12113106623233404929, 14000437183269869457, 14369950271660146224, 15101387698204529176, 15463397548674623760, 17586052441742319658, 1182934255886127544, 1847814050463011016, 2177327727835720531, 2830643537854262169, 3796741975233480872, 4115178125766777443, 5681478168544905931, 6601373596472566643, 7507060721942968483, 8399075790359081724, 8693463985226723168, 9568029438360202098, 10144078919501101548, 10430055236837252648, 11840083180663258601, 13761210420658862357, 14299343276471374635, 14566680578165727644, 15097957966210449927, 16922976911328602910, 17689382322260857208, 500013540394364858, 748580250866718886, 1242879168328830382, 1977374033974150939, 2944078676154940804, 3659926193048069267, 4368137639120453308, 4836135668995329356, 5532061633213252278, 6448918945643986474, 6902733635092675308, 7801388544844847127]
theorem k512T_length : k512T.length = 80 := rfl
theorem k512T_one : ((k512T.map u64v).toArray).all (·.oneCell') = true := u64_one _
set_option maxRecDepth 4000 in
set_option maxHeartbeats 2000000 in
theorem k512_c (w : World) : Calls Tryz.prog 124 #[] w fun e w' => e = .returned (.agg (k512T.map u64v).toArray) ∧ Keep w w' := by
  have hs : (k512T.map u64v).length = 80 := rfl
  go_enter Tryz.func124, Tryz.ntmps124
  go_wp2_with (first
    | (refine wpList_alloc_z (by rfl) 159 (by rfl) (List.replicate 80 (.int .u64 0)) z122 ?_)
    | (refine wpList_build_as (by rfl) 159 _ (by rfl) (k512T.map u64v).toArray (by kernel_rfl) ?_)
    | (refine wpList_store_row (by rfl) 159 (.tmp 0) (.tmp 1) (by rfl) w.heap.size (k512T.map u64v).toArray (by rfl) (by rfl) 159 _ (Arr.new w 159 _) (by rw [List.size_toArray, hs]; exact s122) (by simp [hs]) k512T_one ?_))
  refine bodyPost_ret (v := .agg (k512T.map u64v).toArray) ?_ rfl ⟨rfl, ((Keep.refl w).alloc _).setRow (Nat.le_refl _) _⟩
  exact results_cell_row (p := 0) (ty := 159) rfl _ _ w.heap.size 159 (k512T.map u64v).toArray (0, 0) _ rfl ((Arr.new w 159 _).row _) Tryz.underlying159 rfl (by rw [List.size_toArray, hs]; exact s122)
end Go.Proofs.Qxb6500771aGreat
