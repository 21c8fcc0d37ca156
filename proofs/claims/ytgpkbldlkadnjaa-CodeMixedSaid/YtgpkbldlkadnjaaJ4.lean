/- Numbers that functions and types have in this seat (printed by wip/tool/mkmf2.py of this repo). -/
import Derived.Test.YtgpkbldlkadnjaaChecked
import Derived.KernelRfl
import Derived.Test.YtgpkbldlkadnjaaJ1
section
namespace Go.Proofs.Ytgpkbldlkadnjaa
open Go
abbrev f_main_main : FuncId := 0
abbrev f_gosem_cut : FuncId := 1
abbrev f_gosem_cut_init : FuncId := 2
abbrev f_law04_MatrixProducts : FuncId := 3
abbrev f_law04_MatrixBack : FuncId := 4
abbrev f_law04_MatrixCodes : FuncId := 5
abbrev f_law04_MatrixAny : FuncId := 6
abbrev f_law04_MatrixKeeps : FuncId := 7
abbrev f_law04_MatrixTimes : FuncId := 8
abbrev f_law05_CodeEncodes : FuncId := 9
abbrev f_law05_CodeAny : FuncId := 10
abbrev f_law05_CodeDecodes : FuncId := 11
abbrev f_law05_CodeTurned : FuncId := 12
abbrev f_law05_CodeKeeps : FuncId := 13
abbrev f_law05_CodeMixed : FuncId := 14
abbrev f_law07_DiskKeeps : FuncId := 15
abbrev f_law07_DiskActs : FuncId := 16
abbrev f_law07_DiskSynced : FuncId := 17
abbrev f_law20_NetOrder : FuncId := 18
abbrev f_law20_NetFull : FuncId := 19
abbrev f_law20_NetKeeps : FuncId := 20
abbrev f_law20_NetActs : FuncId := 21
abbrev f_law20_NetLost : FuncId := 22
abbrev f_law18_LogKeeps : FuncId := 23
abbrev f_law18_LogCompacts : FuncId := 24
abbrev f_law18_LogReads : FuncId := 25
abbrev f_law18_LogSynced : FuncId := 26
abbrev f_law21_AcceptHears : FuncId := 27
abbrev f_law21_AcceptTwice : FuncId := 28
abbrev f_law22_LeadChosen : FuncId := 29
abbrev f_law22_LeadQuorums : FuncId := 30
abbrev f_law25_ScrubKeeps : FuncId := 31
abbrev f_law04_awake : FuncId := 32
abbrev f_matrix_Right : FuncId := 33
abbrev f_ref04_Right : FuncId := 34
abbrev f_ref04_Few : FuncId := 35
abbrev f_ref04_Same : FuncId := 36
abbrev f_matrix_Mul : FuncId := 37
abbrev f_ref04_Mul : FuncId := 38
abbrev f_matrix_One : FuncId := 39
abbrev f_matrix_Invert : FuncId := 40
abbrev f_ref04_Det : FuncId := 41
abbrev f_matrix_Coding : FuncId := 42
abbrev f_ref04_Coding : FuncId := 43
abbrev f_matrix_Rows : FuncId := 44
abbrev f_law05_awake : FuncId := 45
abbrev f_code_Encode : FuncId := 46
abbrev f_code_Right : FuncId := 47
abbrev f_ref05_Right : FuncId := 48
abbrev f_code_N : FuncId := 49
abbrev f_ref05_N : FuncId := 50
abbrev f_ref05_Encode : FuncId := 51
abbrev f_ref05_Shape : FuncId := 52
abbrev f_ref05_Without : FuncId := 53
abbrev f_code_Decode : FuncId := 54
abbrev f_ref05_There : FuncId := 55
abbrev f_code_Rebuild : FuncId := 56
abbrev f_ref01_Same : FuncId := 57
abbrev f_ref05_Agrees : FuncId := 58
abbrev f_law07_awake : FuncId := 59
abbrev f_disk_New : FuncId := 60
abbrev f_disk_Disk_Append : FuncId := 61
abbrev f_disk_Disk_Sync : FuncId := 62
abbrev f_disk_Disk_Read : FuncId := 63
abbrev f_disk_Disk_Synced : FuncId := 64
abbrev f_ref07_Few : FuncId := 65
abbrev f_disk_Disk_Copy : FuncId := 66
abbrev f_ref07_Do : FuncId := 67
abbrev f_law07_do : FuncId := 68
abbrev f_law07_same : FuncId := 69
abbrev f_ref07_Find : FuncId := 70
abbrev f_disk_Disk_Crash : FuncId := 71
abbrev f_disk_Disk_Names : FuncId := 72
abbrev f_ref01_Strings : FuncId := 73
abbrev f_law20_awake : FuncId := 74
abbrev f_net_New : FuncId := 75
abbrev f_net_Pool_Send : FuncId := 76
abbrev f_net_Pool_Next : FuncId := 77
abbrev f_net_Pool_Len : FuncId := 78
abbrev f_net_Pool_Twice : FuncId := 79
abbrev f_ref19_Small : FuncId := 80
abbrev f_ref19_Same : FuncId := 81
abbrev f_law20_few : FuncId := 82
abbrev f_net_Pool_Copy : FuncId := 83
abbrev f_law20_put : FuncId := 84
abbrev f_net_Pool_Drop : FuncId := 85
abbrev f_net_Pool_Cut : FuncId := 86
abbrev f_law18_awake : FuncId := 87
abbrev f_ref17_Right : FuncId := 88
abbrev f_log_Open : FuncId := 89
abbrev f_log_Log_Vote : FuncId := 90
abbrev f_log_Log_Votes : FuncId := 91
abbrev f_ref17_Same : FuncId := 92
abbrev f_law18_few : FuncId := 93
abbrev f_log_Log_Promise : FuncId := 94
abbrev f_log_Log_Promised : FuncId := 95
abbrev f_log_Log_Size : FuncId := 96
abbrev f_log_Log_Compact : FuncId := 97
abbrev f_log_Read : FuncId := 98
abbrev f_ref18_Read : FuncId := 99
abbrev f_law21_awake : FuncId := 100
abbrev f_law21_few : FuncId := 101
abbrev f_law21_wanted : FuncId := 102
abbrev f_accept_Hear : FuncId := 103
abbrev f_ref19_All : FuncId := 104
abbrev f_law22_awake : FuncId := 105
abbrev f_lead_Tell : FuncId := 106
abbrev f_lead_Quorum : FuncId := 107
abbrev f_law25_awake : FuncId := 108
abbrev f_law25_disks : FuncId := 109
abbrev f_scrub_New : FuncId := 110
abbrev f_scrub_Store_Put : FuncId := 111
abbrev f_scrub_Store_Disk : FuncId := 112
abbrev f_disk_Disk_Delete : FuncId := 113
abbrev f_scrub_Store_Get : FuncId := 114
abbrev f_slices_ContainsFunc : FuncId := 115
abbrev f_matrix_Right_1 : FuncId := 116
abbrev f_field_New : FuncId := 117
abbrev f_matrix_plus : FuncId := 118
abbrev f_field_Field_Row : FuncId := 119
abbrev f_ref03_Mul : FuncId := 120
abbrev f_matrix_copied : FuncId := 121
abbrev f_matrix_pivot : FuncId := 122
abbrev f_matrix_clearColumn : FuncId := 123
abbrev f_field_Field_Inv : FuncId := 124
abbrev f_ref03_Inv : FuncId := 125
abbrev f_slices_Clone : FuncId := 126
abbrev f_code_pieces : FuncId := 127
abbrev f_ref01_Text : FuncId := 128
abbrev f_code_there : FuncId := 129
abbrev f_code_value : FuncId := 130
abbrev f_code_agrees : FuncId := 131
abbrev f_disk_Disk_Used : FuncId := 132
abbrev f_disk_named : FuncId := 133
abbrev f_ref07_Named : FuncId := 134
abbrev f_ref07_Used : FuncId := 135
abbrev f_ref07_Without : FuncId := 136
abbrev f_ref07_Put : FuncId := 137
abbrev f_disk_Disk_Rename : FuncId := 138
abbrev f_disk_Disk_Turn : FuncId := 139
abbrev f_disk_Disk_Trim : FuncId := 140
abbrev f_disk_distance : FuncId := 141
abbrev f_slices_Sorted : FuncId := 142
abbrev f_maps_Keys : FuncId := 143
abbrev f_container_heap_Push : FuncId := 144
abbrev f_net_clone : FuncId := 145
abbrev f_container_heap_Pop : FuncId := 146
abbrev f_net_Pool_place : FuncId := 147
abbrev f_container_heap_Remove : FuncId := 148
abbrev f_slices_DeleteFunc : FuncId := 149
abbrev f_net_Pool_Cut_1 : FuncId := 150
abbrev f_container_heap_Init : FuncId := 151
abbrev f_log_scan : FuncId := 152
abbrev f_slot_Put : FuncId := 153
abbrev f_log_Log_add : FuncId := 154
abbrev f_log_says_sorted : FuncId := 155
abbrev f_slot_Promise : FuncId := 156
abbrev f_frame_All : FuncId := 157
abbrev f_log_Log_all : FuncId := 158
abbrev f_ref06_Scan : FuncId := 159
abbrev f_ref17_Get : FuncId := 160
abbrev f_ref18_add : FuncId := 161
abbrev f_ref19_Right : FuncId := 162
abbrev f_ref17_Put1 : FuncId := 163
abbrev f_msg_Right : FuncId := 164
abbrev f_accept_prepare : FuncId := 165
abbrev f_accept_vote : FuncId := 166
abbrev f_lead_New : FuncId := 167
abbrev f_lead_Leader_Prepares : FuncId := 168
abbrev f_lead_Leader_Hear : FuncId := 169
abbrev f_lead_Leader_Propose : FuncId := 170
abbrev f_lead_Leader_Chosen : FuncId := 171
abbrev f_lead_Leader_Value : FuncId := 172
abbrev f_lead_Leader_Leads : FuncId := 173
abbrev f_lead_Leader_Lost : FuncId := 174
abbrev f_lead_Leader_Ballot : FuncId := 175
abbrev f_lead_gather : FuncId := 176
abbrev f_slices_Sorted_2 : FuncId := 177
abbrev f_maps_Keys_2 : FuncId := 178
abbrev f_lead_told_says : FuncId := 179
abbrev f_scrub_Store_Scrub : FuncId := 180
abbrev f_scrub_Store_Repair : FuncId := 181
abbrev f_scrub_named : FuncId := 182
abbrev f_scrub_write : FuncId := 183
abbrev f_scrub_file : FuncId := 184
abbrev f_scrub_Store_shards : FuncId := 185
abbrev f_slices_IndexFunc : FuncId := 186
abbrev f_field_Field_Mul : FuncId := 187
abbrev f_wire_Text : FuncId := 188
abbrev f_slices_Chunk : FuncId := 189
abbrev f_ref01_Num : FuncId := 190
abbrev f_wire_CutText : FuncId := 191
abbrev f_slices_Concat : FuncId := 192
abbrev f_slices_Equal : FuncId := 193
abbrev f_slices_Collect : FuncId := 194
abbrev f_slices_Sort : FuncId := 195
abbrev f_maps_Keys_1 : FuncId := 196
abbrev f_container_heap_up : FuncId := 197
abbrev f_slices_Clone_2 : FuncId := 198
abbrev f_container_heap_down : FuncId := 199
abbrev f_slices_SortedFunc : FuncId := 200
abbrev f_slices_Values : FuncId := 201
abbrev f_net_before : FuncId := 202
abbrev f_slices_IndexFunc_2 : FuncId := 203
abbrev f_net_Pool_place_1 : FuncId := 204
abbrev f_frame_Scan : FuncId := 205
abbrev f_log_says_take : FuncId := 206
abbrev f_frame_Put : FuncId := 207
abbrev f_slot_Right : FuncId := 208
abbrev f_wire_Num : FuncId := 209
abbrev f_slot_full : FuncId := 210
abbrev f_maps_Keys_3 : FuncId := 211
abbrev f_slot_ballot : FuncId := 212
abbrev f_ref01_At : FuncId := 213
abbrev f_ref02_Sum : FuncId := 214
abbrev f_ref01_TextAt : FuncId := 215
abbrev f_msg_Right_1 : FuncId := 216
abbrev f_msg_bare : FuncId := 217
abbrev f_msg_rising : FuncId := 218
abbrev f_accept_refuse : FuncId := 219
abbrev f_slices_DeleteFunc_2 : FuncId := 220
abbrev f_accept_prepare_1 : FuncId := 221
abbrev f_accept_made : FuncId := 222
abbrev f_lead_Leader_promised : FuncId := 223
abbrev f_lead_Leader_accepts : FuncId := 224
abbrev f_slices_Collect_2 : FuncId := 225
abbrev f_slices_Sort_2 : FuncId := 226
abbrev f_maps_Keys_2_1 : FuncId := 227
abbrev f_strings_CutPrefix : FuncId := 228
abbrev f_scrub_shard : FuncId := 229
abbrev f_scrub_mend : FuncId := 230
abbrev f_slices_Contains : FuncId := 231
abbrev f_slices_Chunk_1 : FuncId := 232
abbrev f_wire_CutNum : FuncId := 233
abbrev f_slices_Grow : FuncId := 234
abbrev f_slices_AppendSeq : FuncId := 235
abbrev f_slices_pdqsortOrdered : FuncId := 236
abbrev f_math_bits_Len : FuncId := 237
abbrev f_slices_Collect_3 : FuncId := 238
abbrev f_slices_SortFunc : FuncId := 239
abbrev f_slices_Values_1 : FuncId := 240
abbrev f_cmp_Or : FuncId := 241
abbrev f_cmp_Compare : FuncId := 242
abbrev f_frame_Cut : FuncId := 243
abbrev f_slot_Get : FuncId := 244
abbrev f_frame_sum : FuncId := 245
abbrev f_maps_Keys_3_1 : FuncId := 246
abbrev f_slices_IndexFunc_3 : FuncId := 247
abbrev f_slices_ContainsFunc_2 : FuncId := 248
abbrev f_accept_made_1 : FuncId := 249
abbrev f_lead_Leader_begin : FuncId := 250
abbrev f_slices_AppendSeq_2 : FuncId := 251
abbrev f_slices_pdqsortOrdered_2 : FuncId := 252
abbrev f_internal_stringslite_CutPrefix : FuncId := 253
abbrev f_slices_Index : FuncId := 254
abbrev f_slices_insertionSortOrdered : FuncId := 255
abbrev f_slices_heapSortOrdered : FuncId := 256
abbrev f_slices_breakPatternsOrdered : FuncId := 257
abbrev f_slices_choosePivotOrdered : FuncId := 258
abbrev f_slices_reverseRangeOrdered : FuncId := 259
abbrev f_slices_partialInsertionSortOrdered : FuncId := 260
abbrev f_cmp_Less : FuncId := 261
abbrev f_slices_partitionEqualOrdered : FuncId := 262
abbrev f_slices_partitionOrdered : FuncId := 263
abbrev f_math_bits_Len32 : FuncId := 264
abbrev f_math_bits_Len64 : FuncId := 265
abbrev f_slices_AppendSeq_3 : FuncId := 266
abbrev f_slices_pdqsortCmpFunc : FuncId := 267
abbrev f_cmp_isNaN : FuncId := 268
abbrev f_slot_cut : FuncId := 269
abbrev f_check_Sum : FuncId := 270
abbrev f_slices_insertionSortOrdered_2 : FuncId := 271
abbrev f_slices_heapSortOrdered_2 : FuncId := 272
abbrev f_slices_breakPatternsOrdered_2 : FuncId := 273
abbrev f_slices_choosePivotOrdered_2 : FuncId := 274
abbrev f_slices_reverseRangeOrdered_2 : FuncId := 275
abbrev f_slices_partialInsertionSortOrdered_2 : FuncId := 276
abbrev f_cmp_Less_2 : FuncId := 277
abbrev f_slices_partitionEqualOrdered_2 : FuncId := 278
abbrev f_slices_partitionOrdered_2 : FuncId := 279
abbrev f_internal_stringslite_HasPrefix : FuncId := 280
abbrev f_slices_siftDownOrdered : FuncId := 281
abbrev f_slices_nextPowerOfTwo : FuncId := 282
abbrev f_slices_xorshift_Next : FuncId := 283
abbrev f_slices_medianAdjacentOrdered : FuncId := 284
abbrev f_slices_medianOrdered : FuncId := 285
abbrev f_cmp_isNaN_2 : FuncId := 286
abbrev f_slices_insertionSortCmpFunc : FuncId := 287
abbrev f_slices_heapSortCmpFunc : FuncId := 288
abbrev f_slices_breakPatternsCmpFunc : FuncId := 289
abbrev f_slices_choosePivotCmpFunc : FuncId := 290
abbrev f_slices_reverseRangeCmpFunc : FuncId := 291
abbrev f_slices_partialInsertionSortCmpFunc : FuncId := 292
abbrev f_slices_partitionEqualCmpFunc : FuncId := 293
abbrev f_slices_partitionCmpFunc : FuncId := 294
abbrev f_check_More : FuncId := 295
abbrev f_slices_siftDownOrdered_2 : FuncId := 296
abbrev f_slices_medianAdjacentOrdered_2 : FuncId := 297
abbrev f_slices_medianOrdered_2 : FuncId := 298
abbrev f_slices_order2Ordered : FuncId := 299
abbrev f_slices_siftDownCmpFunc : FuncId := 300
abbrev f_slices_medianAdjacentCmpFunc : FuncId := 301
abbrev f_slices_medianCmpFunc : FuncId := 302
abbrev f_check_word_eight : FuncId := 303
abbrev f_slices_order2Ordered_2 : FuncId := 304
abbrev f_slices_order2CmpFunc : FuncId := 305
abbrev f_check_word_bit : FuncId := 306
abbrev f_runtime_boundsError_Error : FuncId := 307
abbrev f_runtime_boundsError_RuntimeError : FuncId := 308
abbrev f_runtime_errorString_Error : FuncId := 309
abbrev f_runtime_errorString_RuntimeError : FuncId := 310
abbrev f_runtime_plainError_Error : FuncId := 311
abbrev f_runtime_plainError_RuntimeError : FuncId := 312
abbrev f_runtime_errorAddressString_Error : FuncId := 313
abbrev f_runtime_errorAddressString_RuntimeError : FuncId := 314
abbrev f_runtime_TypeAssertionError_Error : FuncId := 315
abbrev f_runtime_TypeAssertionError_RuntimeError : FuncId := 316
abbrev f_runtime_PanicNilError_Error : FuncId := 317
abbrev f_runtime_PanicNilError_RuntimeError : FuncId := 318
abbrev f_internal_abi_Type_Align : FuncId := 319
abbrev f_internal_abi_Type_Len : FuncId := 320
abbrev f_internal_runtime_maps_unhashableTypeError_Error : FuncId := 321
abbrev f_internal_runtime_maps_unhashableTypeError_RuntimeError : FuncId := 322
abbrev f_net_packets_Len : FuncId := 323
abbrev f_net_packets_Less : FuncId := 324
abbrev f_net_packets_Swap : FuncId := 325
abbrev f_net_packets_Pop : FuncId := 326
abbrev f_net_packets_Push : FuncId := 327
abbrev f_lead_Leader_Lose : FuncId := 328
abbrev f_internal_abi_Kind_String : FuncId := 329
abbrev tInt : TypeId := 3
abbrev tBool : TypeId := 4
abbrev tU8 : TypeId := 5
abbrev tStr : TypeId := 9
abbrev tRows : TypeId := 22
abbrev tBytes : TypeId := 29
abbrev tInts : TypeId := 33
abbrev tU32 : TypeId := 37
abbrev t_api_Shape : TypeId := 41
abbrev t_api_Errno : TypeId := 42
abbrev tU16 : TypeId := 60
abbrev t_ref07_Act : TypeId := 78
abbrev tStrs : TypeId := 87
abbrev t_api_Vote : TypeId := 95
abbrev tVotes : TypeId := 96
abbrev t_api_Msg : TypeId := 98
abbrev tBools : TypeId := 99
abbrev t_law20_Act : TypeId := 112
abbrev t_law20_packet : TypeId := 115
abbrev tMsgs : TypeId := 118
abbrev t_law18_Act : TypeId := 130
abbrev t_law22_Replica : TypeId := 144
abbrev tVoteRows : TypeId := 146
abbrev t_disk_Disk : TypeId := 177
abbrev t_disk_file : TypeId := 181
abbrev t_ref07_File : TypeId := 184
abbrev tU64 : TypeId := 189
abbrev t_net_packets : TypeId := 196
abbrev t_net_Pool : TypeId := 198
abbrev t_net_packet : TypeId := 203
abbrev t_log_Log : TypeId := 215
abbrev t_log_says : TypeId := 219
abbrev t_lead_told : TypeId := 247
abbrev t_scrub_Store : TypeId := 253
abbrev t_field_Field : TypeId := 261
abbrev t_lead_Leader : TypeId := 296
abbrev t_lead_entry : TypeId := 299
abbrev t_check_word : TypeId := 362
end Go.Proofs.Ytgpkbldlkadnjaa
end
section
/- Functions of the program in the small code (printed by wip/tool/Print.lean and mkmf2.py of this repo), each with its equation, held by the kernel. -/
set_option linter.unusedVariables false
namespace Go.Proofs.Ytgpkbldlkadnjaa
open Go Go.Sl
-- 9 shardlog/shardloglaw05.CodeEncodes; slots [(0, s), (1, v), (2, s), (3, v), (5, l), (6, e)]
noncomputable def m_law05_CodeEncodes : MF := ⟨67, [.t 4],
 .seq (
 .ops [
 .box 2 t_api_Shape (.tmp 0),
 .p 4 .mv [(.const (.bool false))]]) (
 .seq (
 .seq (
 .ops [
 .call (some 7) f_law05_awake [],
 .p 8 .not [(.tmp 7)],
 .p 9 .mv [(.tmp 8)],
 .gd 9 false (some 10) (.p 10 .mv [(.tmp 1)]),
 .gd 9 false (some 11) (.p 11 .lens [(.tmp 10)]),
 .gd 9 false (some 12) (.p 12 (.bin .gtr) [(.tmp 11), (.const (.int .i64 1000))]),
 .p 13 .pick [(.tmp 9), (.const (.bool true)), (.tmp 12)]]) (
 .cond (.tmp 13) (
 .seq (
 .ops [
 .call (some 14) f_law05_awake [],
 .p 4 .mv [(.tmp 14)]]) (
 .ret)) (
 .skip))) (
 .seq (
 .ops [
 .ldn 16 2 (.tmp 2),
 .p 17 .mv [(.tmp 1)],
 .call (some 18) f_code_Encode [(.tmp 16), (.tmp 17)],
 .p 15 .mv [(.tmp 18)],
 .p 19 (.ext 0) [(.tmp 15)],
 .p 20 (.ext 1) [(.tmp 15)],
 .p 5 .mv [(.tmp 19)],
 .p 6 .mv [(.tmp 20)]]) (
 .seq (
 .seq (
 .dr [
 ⟨.ldn 21 2 (.tmp 2), []⟩,
 ⟨.ldn 23 2 (.tmp 2), []⟩,
 ⟨.call (some 22) f_code_Right [(.tmp 21)], [.ldn 23 2 (.tmp 2)]⟩,
 ⟨.call (some 24) f_ref05_Right [(.tmp 23)], []⟩,
 ⟨.p 25 (.binb .neq) [(.tmp 22), (.tmp 24)], []⟩]) (
 .cond (.tmp 25) (
 .seq (
 .ops [
 .p 4 .mv [(.const (.bool false))]]) (
 .ret)) (
 .skip))) (
 .seq (
 .seq (
 .ops [
 .ldn 26 2 (.tmp 2),
 .call (some 27) f_ref05_Right [(.tmp 26)],
 .p 28 .not [(.tmp 27)]]) (
 .cond (.tmp 28) (
 .seq (
 .ops [
 .p 29 .mv [(.tmp 6)],
 .p 30 (.bin .eql) [(.tmp 29), (.const (.int .i64 1))],
 .p 31 .mv [(.tmp 30)],
 .gd 31 true (some 32) (.p 32 .mv [(.tmp 5)]),
 .gd 31 true (some 33) (.p 33 .len [(.tmp 32)]),
 .gd 31 true (some 34) (.p 34 (.bin .eql) [(.tmp 33), (.const (.int .i64 0))]),
 .p 35 .pick [(.tmp 31), (.tmp 34), (.const (.bool false))],
 .p 36 .mv [(.tmp 35)],
 .gd 36 true (some 37) (.ldn 37 2 (.tmp 2)),
 .gd 36 true (some 38) (.call (some 38) f_code_N [(.tmp 37)]),
 .gd 36 true (some 39) (.p 39 (.bin .eql) [(.tmp 38), (.const (.int .i64 0))]),
 .p 40 .pick [(.tmp 36), (.tmp 39), (.const (.bool false))],
 .p 4 .mv [(.tmp 40)]]) (
 .ret)) (
 .skip))) (
 .seq (
 .seq (
 .ops [
 .p 41 .mv [(.tmp 1)],
 .p 42 .lens [(.tmp 41)],
 .p 43 (.bin .gtr) [(.tmp 42), (.const (.int .i64 512))]]) (
 .cond (.tmp 43) (
 .seq (
 .ops [
 .p 44 .mv [(.tmp 6)],
 .p 45 (.bin .eql) [(.tmp 44), (.const (.int .i64 7))],
 .p 46 .mv [(.tmp 45)],
 .gd 46 true (some 47) (.p 47 .mv [(.tmp 5)]),
 .gd 46 true (some 48) (.p 48 .len [(.tmp 47)]),
 .gd 46 true (some 49) (.p 49 (.bin .eql) [(.tmp 48), (.const (.int .i64 0))]),
 .p 50 .pick [(.tmp 46), (.tmp 49), (.const (.bool false))],
 .p 4 .mv [(.tmp 50)]]) (
 .ret)) (
 .skip))) (
 .seq (
 .dr [
 ⟨.p 51 .mv [(.tmp 6)], []⟩,
 ⟨.p 52 (.bin .eql) [(.tmp 51), (.const (.int .i64 0))], []⟩,
 ⟨.p 53 .mv [(.tmp 52)], []⟩,
 ⟨.gd 53 true (some 54) (.ldn 54 2 (.tmp 2)), []⟩,
 ⟨.gd 53 true (some 56) (.ldn 56 2 (.tmp 2)), []⟩,
 ⟨.gd 53 true (some 55) (.call (some 55) f_code_N [(.tmp 54)]), [.gd 53 true (some 56) (.ldn 56 2 (.tmp 2))]⟩,
 ⟨.gd 53 true (some 57) (.call (some 57) f_ref05_N [(.tmp 56)]), []⟩,
 ⟨.gd 53 true (some 58) (.p 58 (.bin .eql) [(.tmp 55), (.tmp 57)]), []⟩,
 ⟨.p 59 .pick [(.tmp 53), (.tmp 58), (.const (.bool false))], []⟩,
 ⟨.p 60 .mv [(.tmp 59)], []⟩,
 ⟨.gd 60 true (some 61) (.p 61 .mv [(.tmp 5)]), []⟩,
 ⟨.gd 60 true (some 62) (.ldn 62 2 (.tmp 2)), []⟩,
 ⟨.gd 60 true (some 63) (.p 63 .mv [(.tmp 1)]), []⟩,
 ⟨.gd 60 true (some 64) (.call (some 64) f_ref05_Encode [(.tmp 62), (.tmp 63)]), []⟩,
 ⟨.gd 60 true (some 65) (.call (some 65) f_ref04_Same [(.tmp 61), (.tmp 64)]), []⟩,
 ⟨.p 66 .pick [(.tmp 60), (.tmp 65), (.const (.bool false))], []⟩,
 ⟨.p 4 .mv [(.tmp 66)], []⟩]) (
 .ret)))))))⟩

theorem c_law05_CodeEncodes : trF Try.prog f_law05_CodeEncodes = some m_law05_CodeEncodes := by kernel_rfl
-- 10 shardlog/shardloglaw05.CodeAny; slots [(0, a), (1, b), (2, v), (3, gone), (4, a), (5, b), (6, v), (7, gone), (9, s), (10, l), (11, e), (12, x), (13, w), (14, f), (15, i), (16, y), (17, g)]
noncomputable def m_law05_CodeAny : MF := ⟨88, [.t 8],
 .seq (
 .ops [
 .p 8 .mv [(.const (.bool false))]]) (
 .seq (
 .ops [
 .p 18 .mv [(.tmp 0)],
 .p 19 .mv [(.tmp 1)],
 .call (some 20) f_ref05_Shape [(.tmp 18), (.tmp 19)],
 .new 9 t_api_Shape [(.int .i64 0), (.int .i64 0)],
 .st 2 true (.tmp 9) (.tmp 20)]) (
 .seq (
 .seq (
 .ops [
 .call (some 21) f_law05_awake [],
 .p 22 .not [(.tmp 21)],
 .p 23 .mv [(.tmp 22)],
 .gd 23 false (some 24) (.p 24 .mv [(.tmp 2)]),
 .gd 23 false (some 25) (.p 25 .lens [(.tmp 24)]),
 .gd 23 false (some 26) (.p 26 (.bin .gtr) [(.tmp 25), (.const (.int .i64 512))]),
 .p 27 .pick [(.tmp 23), (.const (.bool true)), (.tmp 26)]]) (
 .cond (.tmp 27) (
 .seq (
 .ops [
 .call (some 28) f_law05_awake [],
 .p 8 .mv [(.tmp 28)]]) (
 .ret)) (
 .skip))) (
 .seq (
 .ops [
 .ldn 30 2 (.tmp 9),
 .p 31 .mv [(.tmp 2)],
 .call (some 32) f_code_Encode [(.tmp 30), (.tmp 31)],
 .p 29 .mv [(.tmp 32)],
 .p 33 (.ext 0) [(.tmp 29)],
 .p 34 (.ext 1) [(.tmp 29)],
 .p 10 .mv [(.tmp 33)],
 .p 11 .mv [(.tmp 34)]]) (
 .seq (
 .seq (
 .ops [
 .p 35 .mv [(.tmp 11)],
 .p 36 (.bin .neq) [(.tmp 35), (.const (.int .i64 0))]]) (
 .cond (.tmp 36) (
 .seq (
 .ops [
 .p 8 .mv [(.const (.bool false))]]) (
 .ret)) (
 .skip))) (
 .seq (
 .ops [
 .p 37 .mv [(.tmp 10)],
 .p 38 .mv [(.tmp 3)],
 .call (some 39) f_ref05_Without [(.tmp 37), (.tmp 38)],
 .p 12 .mv [(.tmp 39)]]) (
 .seq (
 .ops [
 .ldn 41 2 (.tmp 9),
 .p 42 .mv [(.tmp 12)],
 .call (some 43) f_code_Decode [(.tmp 41), (.tmp 42)],
 .p 40 .mv [(.tmp 43)],
 .p 44 (.ext 0) [(.tmp 40)],
 .p 45 (.ext 1) [(.tmp 40)],
 .p 13 .mv [(.tmp 44)],
 .p 14 .mv [(.tmp 45)]]) (
 .seq (
 .seq (
 .dr [
 ⟨.p 46 .mv [(.tmp 12)], []⟩,
 ⟨.p 48 (.fad 0) [(.tmp 9)], []⟩,
 ⟨.ld 49 (.tmp 48), []⟩,
 ⟨.call (some 47) f_ref05_There [(.tmp 46)], [.ld 49 (.tmp 48)]⟩,
 ⟨.p 50 (.bin .lss) [(.tmp 47), (.tmp 49)], []⟩]) (
 .cond (.tmp 50) (
 .seq (
 .ops [
 .p 51 .mv [(.tmp 14)],
 .p 52 (.bin .eql) [(.tmp 51), (.const (.int .i64 3))],
 .p 53 .mv [(.tmp 52)],
 .gd 53 true (some 54) (.p 54 .mv [(.tmp 13)]),
 .gd 53 true (some 55) (.p 55 (.bin .eql) [(.tmp 54), (.const (.string .empty))]),
 .p 56 .pick [(.tmp 53), (.tmp 55), (.const (.bool false))],
 .p 8 .mv [(.tmp 56)]]) (
 .ret)) (
 .skip))) (
 .seq (
 .seq (
 .ops [
 .p 57 .mv [(.tmp 14)],
 .p 58 (.bin .neq) [(.tmp 57), (.const (.int .i64 0))],
 .p 59 .mv [(.tmp 58)],
 .gd 59 false (some 60) (.p 60 .mv [(.tmp 13)]),
 .gd 59 false (some 61) (.p 61 .mv [(.tmp 2)]),
 .gd 59 false (some 62) (.p 62 (.bin .neq) [(.tmp 60), (.tmp 61)]),
 .p 63 .pick [(.tmp 59), (.const (.bool true)), (.tmp 62)]]) (
 .cond (.tmp 63) (
 .seq (
 .ops [
 .p 8 .mv [(.const (.bool false))]]) (
 .ret)) (
 .skip))) (
 .seq (
 .seq (
 .ops [
 .p 15 .mv [(.const (.int .i64 0))]]) (
 .block 0 (
 .loop (
 .seq (
 .seq (
 .ops [
 .p 64 .mv [(.tmp 15)],
 .p 65 .mv [(.tmp 10)],
 .p 66 .len [(.tmp 65)],
 .p 67 (.bin .lss) [(.tmp 64), (.tmp 66)]]) (
 .cond (.tmp 67) (
 .skip) (
 .exit 0))) (
 .seq (
 .block 1 (
 .seq (
 .ops [
 .ldn 71 2 (.tmp 9),
 .p 72 .mv [(.tmp 12)],
 .p 73 .mv [(.tmp 15)],
 .call (some 74) f_code_Rebuild [(.tmp 71), (.tmp 72), (.tmp 73)],
 .p 70 .mv [(.tmp 74)],
 .p 75 (.ext 0) [(.tmp 70)],
 .p 76 (.ext 1) [(.tmp 70)],
 .p 16 .mv [(.tmp 75)],
 .p 17 .mv [(.tmp 76)]]) (
 .seq (
 .ops [
 .p 77 .mv [(.tmp 17)],
 .p 78 (.bin .neq) [(.tmp 77), (.const (.int .i64 0))],
 .p 79 .mv [(.tmp 78)],
 .gd 79 false (some 80) (.p 80 .mv [(.tmp 16)]),
 .gd 79 false (some 81) (.p 81 .mv [(.tmp 10)]),
 .gd 79 false (some 82) (.p 82 .mv [(.tmp 15)]),
 .gd 79 false (some 83) (.p 83 (.ixs 1) [(.tmp 81), (.tmp 82)]),
 .gd 79 false (some 84) (.ld 84 (.tmp 83)),
 .gd 79 false (some 85) (.call (some 85) f_ref01_Same [(.tmp 80), (.tmp 84)]),
 .gd 79 false (some 86) (.p 86 .not [(.tmp 85)]),
 .p 87 .pick [(.tmp 79), (.const (.bool true)), (.tmp 86)]]) (
 .cond (.tmp 87) (
 .seq (
 .ops [
 .p 8 .mv [(.const (.bool false))]]) (
 .ret)) (
 .skip))))) (
 .ops [
 .p 68 .mv [(.tmp 15)],
 .p 69 (.bin .add) [(.tmp 68), (.const (.int .i64 1))],
 .p 15 .mv [(.tmp 69)]])))))) (
 .seq (
 .ops [
 .p 8 .mv [(.const (.bool true))]]) (
 .ret)))))))))))⟩

theorem c_law05_CodeAny : trF Try.prog f_law05_CodeAny = some m_law05_CodeAny := by kernel_rfl
-- 11 shardlog/shardloglaw05.CodeDecodes; slots [(0, s), (1, l), (2, s), (3, l), (5, i), (6, v), (7, e)]
noncomputable def m_law05_CodeDecodes : MF := ⟨78, [.t 4],
 .seq (
 .ops [
 .box 2 t_api_Shape (.tmp 0),
 .p 4 .mv [(.const (.bool false))]]) (
 .seq (
 .seq (
 .ops [
 .call (some 8) f_law05_awake [],
 .p 9 .not [(.tmp 8)],
 .p 10 .mv [(.tmp 9)],
 .gd 10 false (some 11) (.p 11 .mv [(.tmp 1)]),
 .gd 10 false (some 12) (.p 12 .len [(.tmp 11)]),
 .gd 10 false (some 13) (.p 13 (.bin .gtr) [(.tmp 12), (.const (.int .i64 10))]),
 .p 14 .pick [(.tmp 10), (.const (.bool true)), (.tmp 13)]]) (
 .cond (.tmp 14) (
 .seq (
 .ops [
 .call (some 15) f_law05_awake [],
 .p 4 .mv [(.tmp 15)]]) (
 .ret)) (
 .skip))) (
 .seq (
 .seq (
 .ops [
 .p 5 .mv [(.const (.int .i64 0))]]) (
 .block 0 (
 .loop (
 .seq (
 .seq (
 .ops [
 .p 16 .mv [(.tmp 5)],
 .p 17 .mv [(.tmp 1)],
 .p 18 .len [(.tmp 17)],
 .p 19 (.bin .lss) [(.tmp 16), (.tmp 18)]]) (
 .cond (.tmp 19) (
 .skip) (
 .exit 0))) (
 .seq (
 .block 1 (
 .seq (
 .ops [
 .p 22 .mv [(.tmp 1)],
 .p 23 .mv [(.tmp 5)],
 .p 24 (.ixs 1) [(.tmp 22), (.tmp 23)],
 .ld 25 (.tmp 24),
 .p 26 .len [(.tmp 25)],
 .p 27 (.bin .gtr) [(.tmp 26), (.const (.int .i64 600))]]) (
 .cond (.tmp 27) (
 .seq (
 .ops [
 .p 4 .mv [(.const (.bool true))]]) (
 .ret)) (
 .skip)))) (
 .ops [
 .p 20 .mv [(.tmp 5)],
 .p 21 (.bin .add) [(.tmp 20), (.const (.int .i64 1))],
 .p 5 .mv [(.tmp 21)]])))))) (
 .seq (
 .ops [
 .ldn 29 2 (.tmp 2),
 .p 30 .mv [(.tmp 1)],
 .call (some 31) f_code_Decode [(.tmp 29), (.tmp 30)],
 .p 28 .mv [(.tmp 31)],
 .p 32 (.ext 0) [(.tmp 28)],
 .p 33 (.ext 1) [(.tmp 28)],
 .p 6 .mv [(.tmp 32)],
 .p 7 .mv [(.tmp 33)]]) (
 .seq (
 .seq (
 .ops [
 .ldn 34 2 (.tmp 2),
 .call (some 35) f_ref05_Right [(.tmp 34)],
 .p 36 .not [(.tmp 35)],
 .p 37 .mv [(.tmp 36)],
 .gd 37 false (some 38) (.p 38 .mv [(.tmp 1)]),
 .gd 37 false (some 39) (.p 39 .len [(.tmp 38)]),
 .gd 37 false (some 40) (.ldn 40 2 (.tmp 2)),
 .gd 37 false (some 41) (.call (some 41) f_ref05_N [(.tmp 40)]),
 .gd 37 false (some 42) (.p 42 (.bin .neq) [(.tmp 39), (.tmp 41)]),
 .p 43 .pick [(.tmp 37), (.const (.bool true)), (.tmp 42)]]) (
 .cond (.tmp 43) (
 .seq (
 .ops [
 .p 44 .mv [(.tmp 7)],
 .p 45 (.bin .eql) [(.tmp 44), (.const (.int .i64 1))],
 .p 46 .mv [(.tmp 45)],
 .gd 46 true (some 47) (.p 47 .mv [(.tmp 6)]),
 .gd 46 true (some 48) (.p 48 (.bin .eql) [(.tmp 47), (.const (.string .empty))]),
 .p 49 .pick [(.tmp 46), (.tmp 48), (.const (.bool false))],
 .p 4 .mv [(.tmp 49)]]) (
 .ret)) (
 .skip))) (
 .seq (
 .seq (
 .dr [
 ⟨.p 50 .mv [(.tmp 1)], []⟩,
 ⟨.p 52 (.fad 0) [(.tmp 2)], []⟩,
 ⟨.ld 53 (.tmp 52), []⟩,
 ⟨.call (some 51) f_ref05_There [(.tmp 50)], [.ld 53 (.tmp 52)]⟩,
 ⟨.p 54 (.bin .lss) [(.tmp 51), (.tmp 53)], []⟩]) (
 .cond (.tmp 54) (
 .seq (
 .ops [
 .p 55 .mv [(.tmp 7)],
 .p 56 (.bin .eql) [(.tmp 55), (.const (.int .i64 3))],
 .p 57 .mv [(.tmp 56)],
 .gd 57 true (some 58) (.p 58 .mv [(.tmp 6)]),
 .gd 57 true (some 59) (.p 59 (.bin .eql) [(.tmp 58), (.const (.string .empty))]),
 .p 60 .pick [(.tmp 57), (.tmp 59), (.const (.bool false))],
 .p 4 .mv [(.tmp 60)]]) (
 .ret)) (
 .skip))) (
 .seq (
 .seq (
 .ops [
 .p 61 .mv [(.tmp 7)],
 .p 62 (.bin .neq) [(.tmp 61), (.const (.int .i64 0))]]) (
 .cond (.tmp 62) (
 .seq (
 .ops [
 .p 63 .mv [(.tmp 7)],
 .p 64 (.bin .eql) [(.tmp 63), (.const (.int .i64 2))],
 .p 65 .mv [(.tmp 64)],
 .gd 65 true (some 66) (.p 66 .mv [(.tmp 6)]),
 .gd 65 true (some 67) (.p 67 (.bin .eql) [(.tmp 66), (.const (.string .empty))]),
 .p 68 .pick [(.tmp 65), (.tmp 67), (.const (.bool false))],
 .p 4 .mv [(.tmp 68)]]) (
 .ret)) (
 .skip))) (
 .seq (
 .ops [
 .p 69 .mv [(.tmp 6)],
 .p 70 .lens [(.tmp 69)],
 .p 71 (.bin .leq) [(.tmp 70), (.const (.int .i64 512))],
 .p 72 .mv [(.tmp 71)],
 .gd 72 true (some 73) (.ldn 73 2 (.tmp 2)),
 .gd 72 true (some 74) (.p 74 .mv [(.tmp 6)]),
 .gd 72 true (some 75) (.p 75 .mv [(.tmp 1)]),
 .gd 72 true (some 76) (.call (some 76) f_ref05_Agrees [(.tmp 73), (.tmp 74), (.tmp 75)]),
 .p 77 .pick [(.tmp 72), (.tmp 76), (.const (.bool false))],
 .p 4 .mv [(.tmp 77)]]) (
 .ret))))))))⟩

theorem c_law05_CodeDecodes : trF Try.prog f_law05_CodeDecodes = some m_law05_CodeDecodes := by kernel_rfl
-- 12 shardlog/shardloglaw05.CodeTurned; slots [(0, a), (1, b), (2, v), (3, which), (4, at), (5, turn), (6, a), (7, b), (8, v), (9, which), (10, at), (11, turn), (13, s), (14, l), (15, e), (16, x), (17, i), (18, w), (19, f)]
noncomputable def m_law05_CodeTurned : MF := ⟨101, [.t 12],
 .seq (
 .ops [
 .p 12 .mv [(.const (.bool false))]]) (
 .seq (
 .ops [
 .p 20 .mv [(.tmp 0)],
 .p 21 .mv [(.tmp 1)],
 .call (some 22) f_ref05_Shape [(.tmp 20), (.tmp 21)],
 .new 13 t_api_Shape [(.int .i64 0), (.int .i64 0)],
 .st 2 true (.tmp 13) (.tmp 22)]) (
 .seq (
 .seq (
 .ops [
 .call (some 23) f_law05_awake [],
 .p 24 .not [(.tmp 23)],
 .p 25 .mv [(.tmp 24)],
 .gd 25 false (some 26) (.p 26 .mv [(.tmp 2)]),
 .gd 25 false (some 27) (.p 27 .lens [(.tmp 26)]),
 .gd 25 false (some 28) (.p 28 (.bin .gtr) [(.tmp 27), (.const (.int .i64 512))]),
 .p 29 .pick [(.tmp 25), (.const (.bool true)), (.tmp 28)],
 .p 30 .mv [(.tmp 29)],
 .gd 30 false (some 31) (.p 31 .mv [(.tmp 5)]),
 .gd 30 false (some 32) (.p 32 (.bin .eql) [(.tmp 31), (.const (.int .u8 0))]),
 .p 33 .pick [(.tmp 30), (.const (.bool true)), (.tmp 32)]]) (
 .cond (.tmp 33) (
 .seq (
 .ops [
 .call (some 34) f_law05_awake [],
 .p 12 .mv [(.tmp 34)]]) (
 .ret)) (
 .skip))) (
 .seq (
 .ops [
 .ldn 36 2 (.tmp 13),
 .p 37 .mv [(.tmp 2)],
 .call (some 38) f_code_Encode [(.tmp 36), (.tmp 37)],
 .p 35 .mv [(.tmp 38)],
 .p 39 (.ext 0) [(.tmp 35)],
 .p 40 (.ext 1) [(.tmp 35)],
 .p 14 .mv [(.tmp 39)],
 .p 15 .mv [(.tmp 40)]]) (
 .seq (
 .seq (
 .ops [
 .p 41 .mv [(.tmp 15)],
 .p 42 (.bin .neq) [(.tmp 41), (.const (.int .i64 0))]]) (
 .cond (.tmp 42) (
 .seq (
 .ops [
 .p 12 .mv [(.const (.bool false))]]) (
 .ret)) (
 .skip))) (
 .seq (
 .ops [
 .p 43 .mv [(.tmp 14)],
 .call (some 44) f_ref05_Without [(.tmp 43), (.const (.int .u8 0))],
 .p 16 .mv [(.tmp 44)]]) (
 .seq (
 .ops [
 .p 45 .mv [(.tmp 3)],
 .p 46 (.conv .i64) [(.tmp 45)],
 .p 47 .mv [(.tmp 16)],
 .p 48 .len [(.tmp 47)],
 .p 49 (.bin .rem) [(.tmp 46), (.tmp 48)],
 .p 17 .mv [(.tmp 49)]]) (
 .seq (
 .dr [
 ⟨.p 50 .mv [(.tmp 16)], []⟩,
 ⟨.p 51 .mv [(.tmp 17)], []⟩,
 ⟨.p 52 (.ixs 1) [(.tmp 50), (.tmp 51)], []⟩,
 ⟨.ld 53 (.tmp 52), []⟩,
 ⟨.p 54 .mv [(.tmp 4)], []⟩,
 ⟨.p 55 (.conv .i64) [(.tmp 54)], []⟩,
 ⟨.p 56 .mv [(.tmp 16)], []⟩,
 ⟨.p 57 .mv [(.tmp 17)], []⟩,
 ⟨.p 58 (.ixs 1) [(.tmp 56), (.tmp 57)], []⟩,
 ⟨.ld 59 (.tmp 58), []⟩,
 ⟨.p 60 .len [(.tmp 59)], []⟩,
 ⟨.p 61 (.bin .rem) [(.tmp 55), (.tmp 60)], []⟩,
 ⟨.p 62 .mv [(.tmp 16)], []⟩,
 ⟨.p 63 .mv [(.tmp 17)], []⟩,
 ⟨.p 64 (.ixs 1) [(.tmp 62), (.tmp 63)], []⟩,
 ⟨.ld 65 (.tmp 64), []⟩,
 ⟨.p 66 .mv [(.tmp 4)], []⟩,
 ⟨.p 67 (.conv .i64) [(.tmp 66)], []⟩,
 ⟨.p 68 .mv [(.tmp 16)], []⟩,
 ⟨.p 69 .mv [(.tmp 17)], []⟩,
 ⟨.p 70 (.ixs 1) [(.tmp 68), (.tmp 69)], []⟩,
 ⟨.ld 71 (.tmp 70), []⟩,
 ⟨.p 72 .len [(.tmp 71)], []⟩,
 ⟨.p 73 (.bin .rem) [(.tmp 67), (.tmp 72)], []⟩,
 ⟨.p 74 (.ixs 1) [(.tmp 65), (.tmp 73)], []⟩,
 ⟨.ld 75 (.tmp 74), []⟩,
 ⟨.p 76 .mv [(.tmp 5)], []⟩,
 ⟨.p 77 (.bin .xor) [(.tmp 75), (.tmp 76)], []⟩,
 ⟨.p 78 (.ixs 1) [(.tmp 53), (.tmp 61)], []⟩,
 ⟨.st 1 false (.tmp 78) (.tmp 77), []⟩]) (
 .seq (
 .ops [
 .ldn 80 2 (.tmp 13),
 .p 81 .mv [(.tmp 16)],
 .call (some 82) f_code_Decode [(.tmp 80), (.tmp 81)],
 .p 79 .mv [(.tmp 82)],
 .p 83 (.ext 0) [(.tmp 79)],
 .p 84 (.ext 1) [(.tmp 79)],
 .p 18 .mv [(.tmp 83)],
 .p 19 .mv [(.tmp 84)]]) (
 .seq (
 .seq (
 .ops [
 .p 85 (.fad 1) [(.tmp 13)],
 .ld 86 (.tmp 85),
 .p 87 (.bin .gtr) [(.tmp 86), (.const (.int .i64 0))]]) (
 .cond (.tmp 87) (
 .seq (
 .ops [
 .p 88 .mv [(.tmp 19)],
 .p 89 (.bin .eql) [(.tmp 88), (.const (.int .i64 2))],
 .p 90 .mv [(.tmp 89)],
 .gd 90 true (some 91) (.p 91 .mv [(.tmp 18)]),
 .gd 90 true (some 92) (.p 92 (.bin .eql) [(.tmp 91), (.const (.string .empty))]),
 .p 93 .pick [(.tmp 90), (.tmp 92), (.const (.bool false))],
 .p 12 .mv [(.tmp 93)]]) (
 .ret)) (
 .skip))) (
 .seq (
 .ops [
 .p 94 .mv [(.tmp 18)],
 .p 95 .mv [(.tmp 2)],
 .p 96 (.bin .neq) [(.tmp 94), (.tmp 95)],
 .p 97 .mv [(.tmp 96)],
 .gd 97 false (some 98) (.p 98 .mv [(.tmp 19)]),
 .gd 97 false (some 99) (.p 99 (.bin .neq) [(.tmp 98), (.const (.int .i64 0))]),
 .p 100 .pick [(.tmp 97), (.const (.bool true)), (.tmp 99)],
 .p 12 .mv [(.tmp 100)]]) (
 .ret)))))))))))⟩

theorem c_law05_CodeTurned : trF Try.prog f_law05_CodeTurned = some m_law05_CodeTurned := by kernel_rfl
-- 13 shardlog/shardloglaw05.CodeKeeps; slots [(0, a), (1, b), (2, v), (3, a), (4, b), (5, v), (7, s), (8, l), (9, e), (10, was), (11, x), (12, _), (13, i), (14, m), (15, f)]
noncomputable def m_law05_CodeKeeps : MF := ⟨75, [.t 6],
 .seq (
 .ops [
 .p 6 .mv [(.const (.bool false))]]) (
 .seq (
 .ops [
 .p 16 .mv [(.tmp 0)],
 .p 17 .mv [(.tmp 1)],
 .call (some 18) f_ref05_Shape [(.tmp 16), (.tmp 17)],
 .new 7 t_api_Shape [(.int .i64 0), (.int .i64 0)],
 .st 2 true (.tmp 7) (.tmp 18)]) (
 .seq (
 .seq (
 .ops [
 .call (some 19) f_law05_awake [],
 .p 20 .not [(.tmp 19)],
 .p 21 .mv [(.tmp 20)],
 .gd 21 false (some 22) (.p 22 .mv [(.tmp 2)]),
 .gd 21 false (some 23) (.p 23 .lens [(.tmp 22)]),
 .gd 21 false (some 24) (.p 24 (.bin .gtr) [(.tmp 23), (.const (.int .i64 512))]),
 .p 25 .pick [(.tmp 21), (.const (.bool true)), (.tmp 24)]]) (
 .cond (.tmp 25) (
 .seq (
 .ops [
 .call (some 26) f_law05_awake [],
 .p 6 .mv [(.tmp 26)]]) (
 .ret)) (
 .skip))) (
 .seq (
 .ops [
 .ldn 28 2 (.tmp 7),
 .p 29 .mv [(.tmp 2)],
 .call (some 30) f_code_Encode [(.tmp 28), (.tmp 29)],
 .p 27 .mv [(.tmp 30)],
 .p 31 (.ext 0) [(.tmp 27)],
 .p 32 (.ext 1) [(.tmp 27)],
 .p 8 .mv [(.tmp 31)],
 .p 9 .mv [(.tmp 32)]]) (
 .seq (
 .seq (
 .ops [
 .p 33 .mv [(.tmp 9)],
 .p 34 (.bin .neq) [(.tmp 33), (.const (.int .i64 0))]]) (
 .cond (.tmp 34) (
 .seq (
 .ops [
 .p 6 .mv [(.const (.bool false))]]) (
 .ret)) (
 .skip))) (
 .seq (
 .ops [
 .p 35 .mv [(.tmp 8)],
 .call (some 36) f_ref05_Without [(.tmp 35), (.const (.int .u8 0))],
 .p 10 .mv [(.tmp 36)]]) (
 .seq (
 .ops [
 .ldn 38 2 (.tmp 7),
 .p 39 .mv [(.tmp 8)],
 .call (some 40) f_code_Rebuild [(.tmp 38), (.tmp 39), (.const (.int .i64 0))],
 .p 37 .mv [(.tmp 40)],
 .p 41 (.ext 0) [(.tmp 37)],
 .p 42 (.ext 1) [(.tmp 37)],
 .p 11 .mv [(.tmp 41)],
 .p 12 .mv [(.tmp 42)]]) (
 .seq (
 .seq (
 .ops [
 .p 13 .mv [(.const (.int .i64 0))]]) (
 .block 0 (
 .loop (
 .seq (
 .seq (
 .ops [
 .p 43 .mv [(.tmp 13)],
 .p 44 .mv [(.tmp 11)],
 .p 45 .len [(.tmp 44)],
 .p 46 (.bin .lss) [(.tmp 43), (.tmp 45)]]) (
 .cond (.tmp 46) (
 .skip) (
 .exit 0))) (
 .seq (
 .block 1 (
 .ops [
 .p 49 .mv [(.tmp 11)],
 .p 50 .mv [(.tmp 13)],
 .p 51 .mv [(.tmp 11)],
 .p 52 .mv [(.tmp 13)],
 .p 53 (.ixs 1) [(.tmp 51), (.tmp 52)],
 .ld 54 (.tmp 53),
 .p 55 (.bin .xor) [(.tmp 54), (.const (.int .u8 255))],
 .p 56 (.ixs 1) [(.tmp 49), (.tmp 50)],
 .st 1 false (.tmp 56) (.tmp 55)])) (
 .ops [
 .p 47 .mv [(.tmp 13)],
 .p 48 (.bin .add) [(.tmp 47), (.const (.int .i64 1))],
 .p 13 .mv [(.tmp 48)]])))))) (
 .seq (
 .ops [
 .ldn 58 2 (.tmp 7),
 .p 59 .mv [(.tmp 2)],
 .call (some 60) f_code_Encode [(.tmp 58), (.tmp 59)],
 .p 57 .mv [(.tmp 60)],
 .p 61 (.ext 0) [(.tmp 57)],
 .p 62 (.ext 1) [(.tmp 57)],
 .p 14 .mv [(.tmp 61)],
 .p 15 .mv [(.tmp 62)]]) (
 .seq (
 .ops [
 .p 63 .mv [(.tmp 15)],
 .p 64 (.bin .eql) [(.tmp 63), (.const (.int .i64 0))],
 .p 65 .mv [(.tmp 64)],
 .gd 65 true (some 66) (.p 66 .mv [(.tmp 8)]),
 .gd 65 true (some 67) (.p 67 .mv [(.tmp 10)]),
 .gd 65 true (some 68) (.call (some 68) f_ref04_Same [(.tmp 66), (.tmp 67)]),
 .p 69 .pick [(.tmp 65), (.tmp 68), (.const (.bool false))],
 .p 70 .mv [(.tmp 69)],
 .gd 70 true (some 71) (.p 71 .mv [(.tmp 14)]),
 .gd 70 true (some 72) (.p 72 .mv [(.tmp 10)]),
 .gd 70 true (some 73) (.call (some 73) f_ref04_Same [(.tmp 71), (.tmp 72)]),
 .p 74 .pick [(.tmp 70), (.tmp 73), (.const (.bool false))],
 .p 6 .mv [(.tmp 74)]]) (
 .ret))))))))))⟩

theorem c_law05_CodeKeeps : trF Try.prog f_law05_CodeKeeps = some m_law05_CodeKeeps := by kernel_rfl
-- 14 shardlog/shardloglaw05.CodeMixed; slots [(0, a), (1, b), (2, l), (3, a), (4, b), (5, l), (7, s), (8, v), (9, i), (10, x), (11, i), (12, m), (13, e), (14, i), (15, k)]
noncomputable def m_law05_CodeMixed : MF := ⟨204, [.t 6],
 .seq (
 .ops [
 .p 6 .mv [(.const (.bool false))]]) (
 .seq (
 .ops [
 .p 16 .mv [(.tmp 0)],
 .p 17 .mv [(.tmp 1)],
 .call (some 18) f_ref05_Shape [(.tmp 16), (.tmp 17)],
 .new 7 t_api_Shape [(.int .i64 0), (.int .i64 0)],
 .st 2 true (.tmp 7) (.tmp 18)]) (
 .seq (
 .seq (
 .ops [
 .call (some 19) f_law05_awake [],
 .p 20 .not [(.tmp 19)],
 .p 21 .mv [(.tmp 20)],
 .gd 21 false (some 22) (.p 22 .mv [(.tmp 2)]),
 .gd 21 false (some 23) (.p 23 .len [(.tmp 22)]),
 .gd 21 false (some 24) (.p 24 (.bin .gtr) [(.tmp 23), (.const (.int .i64 512))]),
 .p 25 .pick [(.tmp 21), (.const (.bool true)), (.tmp 24)]]) (
 .cond (.tmp 25) (
 .seq (
 .ops [
 .call (some 26) f_law05_awake [],
 .p 6 .mv [(.tmp 26)]]) (
 .ret)) (
 .skip))) (
 .seq (
 .ops [
 .new 8 64 [(.slice none 0 0), (.slice none 0 0), (.slice none 0 0), (.slice none 0 0)]]) (
 .seq (
 .seq (
 .ops [
 .p 9 .mv [(.const (.int .i64 0))]]) (
 .block 0 (
 .loop (
 .seq (
 .seq (
 .ops [
 .p 27 .mv [(.tmp 9)],
 .p 28 .mv [(.tmp 2)],
 .p 29 .len [(.tmp 28)],
 .p 30 (.bin .lss) [(.tmp 27), (.tmp 29)]]) (
 .cond (.tmp 30) (
 .skip) (
 .exit 0))) (
 .seq (
 .block 1 (
 .seq (
 .dr [
 ⟨.p 33 (.ixa 4 1) [(.tmp 8), (.const (.int .i64 0))], []⟩,
 ⟨.ld 34 (.tmp 33), []⟩,
 ⟨.p 35 .mv [(.tmp 2)], []⟩,
 ⟨.p 36 .mv [(.tmp 9)], []⟩,
 ⟨.p 37 (.ixs 3) [(.tmp 35), (.tmp 36)], []⟩,
 ⟨.p 38 (.ixa 3 1) [(.tmp 37), (.const (.int .i64 0))], []⟩,
 ⟨.ld 39 (.tmp 38), []⟩,
 ⟨.bsl 40 tU8 1 [(.int .u8 0)] [(0, 1)] [(.tmp 39)], [.ld 34 (.tmp 33)]⟩,
 ⟨.app 41 #[tBytes, tBytes] tBytes (.tmp 34) (.tmp 40), []⟩,
 ⟨.p 42 (.ixa 4 1) [(.tmp 8), (.const (.int .i64 0))], []⟩,
 ⟨.st 1 false (.tmp 42) (.tmp 41), []⟩]) (
 .seq (
 .dr [
 ⟨.p 43 (.ixa 4 1) [(.tmp 8), (.const (.int .i64 1))], []⟩,
 ⟨.ld 44 (.tmp 43), []⟩,
 ⟨.p 45 .mv [(.tmp 2)], []⟩,
 ⟨.p 46 .mv [(.tmp 9)], []⟩,
 ⟨.p 47 (.ixs 3) [(.tmp 45), (.tmp 46)], []⟩,
 ⟨.p 48 (.ixa 3 1) [(.tmp 47), (.const (.int .i64 1))], []⟩,
 ⟨.ld 49 (.tmp 48), []⟩,
 ⟨.bsl 50 tU8 1 [(.int .u8 0)] [(0, 1)] [(.tmp 49)], [.ld 44 (.tmp 43)]⟩,
 ⟨.app 51 #[tBytes, tBytes] tBytes (.tmp 44) (.tmp 50), []⟩,
 ⟨.p 52 (.ixa 4 1) [(.tmp 8), (.const (.int .i64 1))], []⟩,
 ⟨.st 1 false (.tmp 52) (.tmp 51), []⟩]) (
 .seq (
 .dr [
 ⟨.p 53 (.ixa 4 1) [(.tmp 8), (.const (.int .i64 2))], []⟩,
 ⟨.ld 54 (.tmp 53), []⟩,
 ⟨.p 55 .mv [(.tmp 2)], []⟩,
 ⟨.p 56 .mv [(.tmp 9)], []⟩,
 ⟨.p 57 (.ixs 3) [(.tmp 55), (.tmp 56)], []⟩,
 ⟨.p 58 (.ixa 3 1) [(.tmp 57), (.const (.int .i64 2))], []⟩,
 ⟨.ld 59 (.tmp 58), []⟩,
 ⟨.bsl 60 tU8 1 [(.int .u8 0)] [(0, 1)] [(.tmp 59)], [.ld 54 (.tmp 53)]⟩,
 ⟨.app 61 #[tBytes, tBytes] tBytes (.tmp 54) (.tmp 60), []⟩,
 ⟨.p 62 (.ixa 4 1) [(.tmp 8), (.const (.int .i64 2))], []⟩,
 ⟨.st 1 false (.tmp 62) (.tmp 61), []⟩]) (
 .dr [
 ⟨.p 63 (.ixa 4 1) [(.tmp 8), (.const (.int .i64 3))], []⟩,
 ⟨.ld 64 (.tmp 63), []⟩,
 ⟨.p 65 .mv [(.tmp 2)], []⟩,
 ⟨.p 66 .mv [(.tmp 9)], []⟩,
 ⟨.p 67 (.ixs 3) [(.tmp 65), (.tmp 66)], []⟩,
 ⟨.p 68 (.ixa 3 1) [(.tmp 67), (.const (.int .i64 0))], []⟩,
 ⟨.ld 69 (.tmp 68), []⟩,
 ⟨.p 70 .mv [(.tmp 2)], []⟩,
 ⟨.p 71 .mv [(.tmp 9)], []⟩,
 ⟨.p 72 (.ixs 3) [(.tmp 70), (.tmp 71)], []⟩,
 ⟨.p 73 (.ixa 3 1) [(.tmp 72), (.const (.int .i64 1))], []⟩,
 ⟨.ld 74 (.tmp 73), []⟩,
 ⟨.p 75 (.bin .xor) [(.tmp 69), (.tmp 74)], []⟩,
 ⟨.p 76 .mv [(.tmp 2)], []⟩,
 ⟨.p 77 .mv [(.tmp 9)], []⟩,
 ⟨.p 78 (.ixs 3) [(.tmp 76), (.tmp 77)], []⟩,
 ⟨.p 79 (.ixa 3 1) [(.tmp 78), (.const (.int .i64 2))], []⟩,
 ⟨.ld 80 (.tmp 79), []⟩,
 ⟨.p 81 (.bin .xor) [(.tmp 75), (.tmp 80)], []⟩,
 ⟨.bsl 82 tU8 1 [(.int .u8 0)] [(0, 1)] [(.tmp 81)], [.ld 80 (.tmp 79), .ld 74 (.tmp 73), .ld 69 (.tmp 68), .ld 64 (.tmp 63)]⟩,
 ⟨.app 83 #[tBytes, tBytes] tBytes (.tmp 64) (.tmp 82), [.ld 80 (.tmp 79), .ld 74 (.tmp 73), .ld 69 (.tmp 68)]⟩,
 ⟨.p 84 (.ixa 4 1) [(.tmp 8), (.const (.int .i64 3))], []⟩,
 ⟨.st 1 false (.tmp 84) (.tmp 83), []⟩]))))) (
 .ops [
 .p 31 .mv [(.tmp 9)],
 .p 32 (.bin .add) [(.tmp 31), (.const (.int .i64 1))],
 .p 9 .mv [(.tmp 32)]])))))) (
 .seq (
 .ops [
 .new 10 66 [(.slice none 0 0), (.slice none 0 0), (.slice none 0 0), (.slice none 0 0)]]) (
 .seq (
 .seq (
 .ops [
 .p 11 .mv [(.const (.int .i64 0))]]) (
 .block 2 (
 .loop (
 .seq (
 .seq (
 .ops [
 .p 85 .mv [(.tmp 11)],
 .p 86 (.bin .lss) [(.tmp 85), (.const (.int .i64 4))]]) (
 .cond (.tmp 86) (
 .skip) (
 .exit 2))) (
 .seq (
 .block 3 (
 .seq (
 .dr [
 ⟨.ldn 90 2 (.tmp 7), []⟩,
 ⟨.p 91 .mv [(.tmp 11)], []⟩,
 ⟨.p 92 (.ixa 4 1) [(.tmp 8), (.tmp 91)], []⟩,
 ⟨.ld 93 (.tmp 92), []⟩,
 ⟨.bs 94 (.tmp 93), []⟩,
 ⟨.call (some 95) f_code_Encode [(.tmp 90), (.tmp 94)], [.ld 93 (.tmp 92)]⟩,
 ⟨.p 89 .mv [(.tmp 95)], []⟩,
 ⟨.p 96 (.ext 0) [(.tmp 89)], []⟩,
 ⟨.p 97 (.ext 1) [(.tmp 89)], []⟩,
 ⟨.p 12 .mv [(.tmp 96)], []⟩,
 ⟨.p 13 .mv [(.tmp 97)], []⟩]) (
 .seq (
 .seq (
 .ops [
 .p 98 .mv [(.tmp 13)],
 .p 99 (.bin .neq) [(.tmp 98), (.const (.int .i64 0))],
 .p 100 .mv [(.tmp 99)],
 .gd 100 false (some 101) (.p 101 .mv [(.tmp 12)]),
 .gd 100 false (some 102) (.p 102 .len [(.tmp 101)]),
 .gd 100 false (some 103) (.ldn 103 2 (.tmp 7)),
 .gd 100 false (some 104) (.call (some 104) f_ref05_N [(.tmp 103)]),
 .gd 100 false (some 105) (.p 105 (.bin .neq) [(.tmp 102), (.tmp 104)]),
 .p 106 .pick [(.tmp 100), (.const (.bool true)), (.tmp 105)]]) (
 .cond (.tmp 106) (
 .seq (
 .ops [
 .p 6 .mv [(.const (.bool false))]]) (
 .ret)) (
 .skip))) (
 .ops [
 .p 107 .mv [(.tmp 11)],
 .p 108 .mv [(.tmp 12)],
 .p 109 (.ixa 4 1) [(.tmp 10), (.tmp 107)],
 .st 1 false (.tmp 109) (.tmp 108)])))) (
 .ops [
 .p 87 .mv [(.tmp 11)],
 .p 88 (.bin .add) [(.tmp 87), (.const (.int .i64 1))],
 .p 11 .mv [(.tmp 88)]])))))) (
 .seq (
 .seq (
 .ops [
 .p 14 .mv [(.const (.int .i64 0))]]) (
 .block 4 (
 .loop (
 .seq (
 .seq (
 .ops [
 .p 110 .mv [(.tmp 14)],
 .ldn 111 2 (.tmp 7),
 .call (some 112) f_ref05_N [(.tmp 111)],
 .p 113 (.bin .lss) [(.tmp 110), (.tmp 112)]]) (
 .cond (.tmp 113) (
 .skip) (
 .exit 4))) (
 .seq (
 .block 5 (
 .seq (
 .seq (
 .dr [
 ⟨.p 116 (.ixa 4 1) [(.tmp 10), (.const (.int .i64 0))], []⟩,
 ⟨.ld 117 (.tmp 116), []⟩,
 ⟨.p 118 .mv [(.tmp 14)], []⟩,
 ⟨.p 119 (.ixs 1) [(.tmp 117), (.tmp 118)], []⟩,
 ⟨.ld 120 (.tmp 119), []⟩,
 ⟨.p 121 .len [(.tmp 120)], []⟩,
 ⟨.p 122 (.ixa 4 1) [(.tmp 10), (.const (.int .i64 3))], []⟩,
 ⟨.ld 123 (.tmp 122), []⟩,
 ⟨.p 124 .mv [(.tmp 14)], []⟩,
 ⟨.p 125 (.ixs 1) [(.tmp 123), (.tmp 124)], []⟩,
 ⟨.ld 126 (.tmp 125), []⟩,
 ⟨.p 127 .len [(.tmp 126)], []⟩,
 ⟨.p 128 (.bin .neq) [(.tmp 121), (.tmp 127)], []⟩,
 ⟨.p 129 .mv [(.tmp 128)], []⟩,
 ⟨.gd 129 false (some 130) (.p 130 (.ixa 4 1) [(.tmp 10), (.const (.int .i64 1))]), []⟩,
 ⟨.gd 129 false (some 131) (.ld 131 (.tmp 130)), []⟩,
 ⟨.gd 129 false (some 132) (.p 132 .mv [(.tmp 14)]), []⟩,
 ⟨.gd 129 false (some 133) (.p 133 (.ixs 1) [(.tmp 131), (.tmp 132)]), []⟩,
 ⟨.gd 129 false (some 134) (.ld 134 (.tmp 133)), []⟩,
 ⟨.gd 129 false (some 135) (.p 135 .len [(.tmp 134)]), []⟩,
 ⟨.gd 129 false (some 136) (.p 136 (.ixa 4 1) [(.tmp 10), (.const (.int .i64 3))]), []⟩,
 ⟨.gd 129 false (some 137) (.ld 137 (.tmp 136)), []⟩,
 ⟨.gd 129 false (some 138) (.p 138 .mv [(.tmp 14)]), []⟩,
 ⟨.gd 129 false (some 139) (.p 139 (.ixs 1) [(.tmp 137), (.tmp 138)]), []⟩,
 ⟨.gd 129 false (some 140) (.ld 140 (.tmp 139)), []⟩,
 ⟨.gd 129 false (some 141) (.p 141 .len [(.tmp 140)]), []⟩,
 ⟨.gd 129 false (some 142) (.p 142 (.bin .neq) [(.tmp 135), (.tmp 141)]), []⟩,
 ⟨.p 143 .pick [(.tmp 129), (.const (.bool true)), (.tmp 142)], []⟩,
 ⟨.p 144 .mv [(.tmp 143)], []⟩,
 ⟨.gd 144 false (some 145) (.p 145 (.ixa 4 1) [(.tmp 10), (.const (.int .i64 2))]), []⟩,
 ⟨.gd 144 false (some 146) (.ld 146 (.tmp 145)), []⟩,
 ⟨.gd 144 false (some 147) (.p 147 .mv [(.tmp 14)]), []⟩,
 ⟨.gd 144 false (some 148) (.p 148 (.ixs 1) [(.tmp 146), (.tmp 147)]), []⟩,
 ⟨.gd 144 false (some 149) (.ld 149 (.tmp 148)), []⟩,
 ⟨.gd 144 false (some 150) (.p 150 .len [(.tmp 149)]), []⟩,
 ⟨.gd 144 false (some 151) (.p 151 (.ixa 4 1) [(.tmp 10), (.const (.int .i64 3))]), []⟩,
 ⟨.gd 144 false (some 152) (.ld 152 (.tmp 151)), []⟩,
 ⟨.gd 144 false (some 153) (.p 153 .mv [(.tmp 14)]), []⟩,
 ⟨.gd 144 false (some 154) (.p 154 (.ixs 1) [(.tmp 152), (.tmp 153)]), []⟩,
 ⟨.gd 144 false (some 155) (.ld 155 (.tmp 154)), []⟩,
 ⟨.gd 144 false (some 156) (.p 156 .len [(.tmp 155)]), []⟩,
 ⟨.gd 144 false (some 157) (.p 157 (.bin .neq) [(.tmp 150), (.tmp 156)]), []⟩,
 ⟨.p 158 .pick [(.tmp 144), (.const (.bool true)), (.tmp 157)], []⟩]) (
 .cond (.tmp 158) (
 .seq (
 .ops [
 .p 6 .mv [(.const (.bool false))]]) (
 .ret)) (
 .skip))) (
 .seq (
 .ops [
 .p 15 .mv [(.const (.int .i64 0))]]) (
 .block 6 (
 .loop (
 .seq (
 .seq (
 .ops [
 .p 159 .mv [(.tmp 15)],
 .p 160 (.ixa 4 1) [(.tmp 10), (.const (.int .i64 3))],
 .ld 161 (.tmp 160),
 .p 162 .mv [(.tmp 14)],
 .p 163 (.ixs 1) [(.tmp 161), (.tmp 162)],
 .ld 164 (.tmp 163),
 .p 165 .len [(.tmp 164)],
 .p 166 (.bin .lss) [(.tmp 159), (.tmp 165)]]) (
 .cond (.tmp 166) (
 .skip) (
 .exit 6))) (
 .seq (
 .block 7 (
 .seq (
 .dr [
 ⟨.p 169 (.ixa 4 1) [(.tmp 10), (.const (.int .i64 3))], []⟩,
 ⟨.ld 170 (.tmp 169), []⟩,
 ⟨.p 171 .mv [(.tmp 14)], []⟩,
 ⟨.p 172 (.ixs 1) [(.tmp 170), (.tmp 171)], []⟩,
 ⟨.ld 173 (.tmp 172), []⟩,
 ⟨.p 174 .mv [(.tmp 15)], []⟩,
 ⟨.p 175 (.ixs 1) [(.tmp 173), (.tmp 174)], []⟩,
 ⟨.ld 176 (.tmp 175), []⟩,
 ⟨.p 177 (.ixa 4 1) [(.tmp 10), (.const (.int .i64 0))], []⟩,
 ⟨.ld 178 (.tmp 177), []⟩,
 ⟨.p 179 .mv [(.tmp 14)], []⟩,
 ⟨.p 180 (.ixs 1) [(.tmp 178), (.tmp 179)], []⟩,
 ⟨.ld 181 (.tmp 180), []⟩,
 ⟨.p 182 .mv [(.tmp 15)], []⟩,
 ⟨.p 183 (.ixs 1) [(.tmp 181), (.tmp 182)], []⟩,
 ⟨.ld 184 (.tmp 183), []⟩,
 ⟨.p 185 (.ixa 4 1) [(.tmp 10), (.const (.int .i64 1))], []⟩,
 ⟨.ld 186 (.tmp 185), []⟩,
 ⟨.p 187 .mv [(.tmp 14)], []⟩,
 ⟨.p 188 (.ixs 1) [(.tmp 186), (.tmp 187)], []⟩,
 ⟨.ld 189 (.tmp 188), []⟩,
 ⟨.p 190 .mv [(.tmp 15)], []⟩,
 ⟨.p 191 (.ixs 1) [(.tmp 189), (.tmp 190)], []⟩,
 ⟨.ld 192 (.tmp 191), []⟩,
 ⟨.p 193 (.bin .xor) [(.tmp 184), (.tmp 192)], []⟩,
 ⟨.p 194 (.ixa 4 1) [(.tmp 10), (.const (.int .i64 2))], []⟩,
 ⟨.ld 195 (.tmp 194), []⟩,
 ⟨.p 196 .mv [(.tmp 14)], []⟩,
 ⟨.p 197 (.ixs 1) [(.tmp 195), (.tmp 196)], []⟩,
 ⟨.ld 198 (.tmp 197), []⟩,
 ⟨.p 199 .mv [(.tmp 15)], []⟩,
 ⟨.p 200 (.ixs 1) [(.tmp 198), (.tmp 199)], []⟩,
 ⟨.ld 201 (.tmp 200), []⟩,
 ⟨.p 202 (.bin .xor) [(.tmp 193), (.tmp 201)], []⟩,
 ⟨.p 203 (.bin .neq) [(.tmp 176), (.tmp 202)], []⟩]) (
 .cond (.tmp 203) (
 .seq (
 .ops [
 .p 6 .mv [(.const (.bool false))]]) (
 .ret)) (
 .skip)))) (
 .ops [
 .p 167 .mv [(.tmp 15)],
 .p 168 (.bin .add) [(.tmp 167), (.const (.int .i64 1))],
 .p 15 .mv [(.tmp 168)]])))))))) (
 .ops [
 .p 114 .mv [(.tmp 14)],
 .p 115 (.bin .add) [(.tmp 114), (.const (.int .i64 1))],
 .p 14 .mv [(.tmp 115)]])))))) (
 .seq (
 .ops [
 .p 6 .mv [(.const (.bool true))]]) (
 .ret)))))))))⟩

theorem c_law05_CodeMixed : trF Try.prog f_law05_CodeMixed = some m_law05_CodeMixed := by kernel_rfl
-- 32 shardlog/shardloglaw04.awake; slots [(1, m), (2, x), (3, ok), (4, _), (5, is)]
noncomputable def m_law04_awake : MF := ⟨58, [.t 0],
 .seq (
 .ops [
 .p 0 .mv [(.const (.bool false))]]) (
 .seq (
 .ops [
 .bsl 6 tU8 2 [(.int .u8 0), (.int .u8 0)] [(0, 1), (1, 1)] [(.const (.int .u8 0)), (.const (.int .u8 1))],
 .bsl 7 tU8 2 [(.int .u8 0), (.int .u8 0)] [(0, 1), (1, 1)] [(.const (.int .u8 1)), (.const (.int .u8 0))],
 .bsl 8 tBytes 2 [(.slice none 0 0), (.slice none 0 0)] [(0, 1), (1, 1)] [(.tmp 6), (.tmp 7)],
 .p 1 .mv [(.tmp 8)]]) (
 .seq (
 .ops [
 .p 10 .mv [(.tmp 1)],
 .call (some 11) f_matrix_Invert [(.tmp 10)],
 .p 9 .mv [(.tmp 11)],
 .p 12 (.ext 0) [(.tmp 9)],
 .p 13 (.ext 1) [(.tmp 9)],
 .p 2 .mv [(.tmp 12)],
 .p 3 .mv [(.tmp 13)]]) (
 .seq (
 .ops [
 .bsl 15 tU8 2 [(.int .u8 0), (.int .u8 0)] [(0, 1), (1, 1)] [(.const (.int .u8 1)), (.const (.int .u8 1))],
 .bsl 16 tU8 2 [(.int .u8 0), (.int .u8 0)] [(0, 1), (1, 1)] [(.const (.int .u8 1)), (.const (.int .u8 1))],
 .bsl 17 tBytes 2 [(.slice none 0 0), (.slice none 0 0)] [(0, 1), (1, 1)] [(.tmp 15), (.tmp 16)],
 .call (some 18) f_matrix_Invert [(.tmp 17)],
 .p 14 .mv [(.tmp 18)],
 .p 19 (.ext 0) [(.tmp 14)],
 .p 20 (.ext 1) [(.tmp 14)],
 .p 4 .mv [(.tmp 19)],
 .p 5 .mv [(.tmp 20)]]) (
 .seq (
 .ops [
 .p 21 .mv [(.tmp 3)],
 .p 22 .mv [(.tmp 21)],
 .gd 22 true (some 23) (.p 23 .mv [(.tmp 5)]),
 .gd 22 true (some 24) (.p 24 .not [(.tmp 23)]),
 .p 25 .pick [(.tmp 22), (.tmp 24), (.const (.bool false))],
 .p 26 .mv [(.tmp 25)],
 .gd 26 true (some 27) (.p 27 .mv [(.tmp 2)]),
 .gd 26 true (some 28) (.p 28 .mv [(.tmp 1)]),
 .gd 26 true (some 29) (.call (some 29) f_ref04_Same [(.tmp 27), (.tmp 28)]),
 .p 30 .pick [(.tmp 26), (.tmp 29), (.const (.bool false))],
 .p 31 .mv [(.tmp 30)],
 .gd 31 true (some 32) (.p 32 .mv [(.tmp 1)]),
 .gd 31 true (some 33) (.p 33 .mv [(.tmp 1)]),
 .gd 31 true (some 34) (.call (some 34) f_matrix_Mul [(.tmp 32), (.tmp 33)]),
 .gd 31 true (some 35) (.call (some 35) f_matrix_One [(.const (.int .i64 2))]),
 .gd 31 true (some 36) (.call (some 36) f_ref04_Same [(.tmp 34), (.tmp 35)]),
 .p 37 .pick [(.tmp 31), (.tmp 36), (.const (.bool false))],
 .p 38 .mv [(.tmp 37)],
 .gd 38 true (some 39) (.call (some 39) f_matrix_Coding [(.const (.int .i64 2)), (.const (.int .i64 3))]),
 .gd 38 true (some 40) (.p 40 .len [(.tmp 39)]),
 .gd 38 true (some 41) (.p 41 (.bin .eql) [(.tmp 40), (.const (.int .i64 3))]),
 .p 42 .pick [(.tmp 38), (.tmp 41), (.const (.bool false))],
 .p 43 .mv [(.tmp 42)],
 .gd 43 true (some 44) (.p 44 .mv [(.tmp 1)]),
 .gd 43 true (some 45) (.call (some 45) f_matrix_Right [(.tmp 44)]),
 .p 46 .pick [(.tmp 43), (.tmp 45), (.const (.bool false))],
 .p 47 .mv [(.tmp 46)],
 .gd 47 true (some 48) (.call (some 48) f_matrix_Right [(.const (.slice none 0 0))]),
 .gd 47 true (some 49) (.p 49 .not [(.tmp 48)]),
 .p 50 .pick [(.tmp 47), (.tmp 49), (.const (.bool false))],
 .p 51 .mv [(.tmp 50)],
 .gd 51 true (some 52) (.p 52 .mv [(.tmp 1)]),
 .gd 51 true (some 53) (.bsl 53 tInt 1 [(.int .i64 0)] [(0, 1)] [(.const (.int .i64 1))]),
 .gd 51 true (some 54) (.call (some 54) f_matrix_Rows [(.tmp 52), (.tmp 53)]),
 .gd 51 true (some 55) (.p 55 .len [(.tmp 54)]),
 .gd 51 true (some 56) (.p 56 (.bin .eql) [(.tmp 55), (.const (.int .i64 1))]),
 .p 57 .pick [(.tmp 51), (.tmp 56), (.const (.bool false))],
 .p 0 .mv [(.tmp 57)]]) (
 .ret)))))⟩

-- 33 shardlog/matrix.Right; slots [(0, m), (1, m)]
noncomputable def m_matrix_Right : MF := ⟨17, [.t 2],
 .seq (
 .ops [
 .box 1 tRows (.tmp 0),
 .p 2 .mv [(.const (.bool false))]]) (
 .seq (
 .seq (
 .ops [
 .ld 3 (.tmp 1),
 .p 4 .len [(.tmp 3)],
 .p 5 (.bin .eql) [(.tmp 4), (.const (.int .i64 0))],
 .p 6 .mv [(.tmp 5)],
 .gd 6 false (some 7) (.ld 7 (.tmp 1)),
 .gd 6 false (some 8) (.p 8 (.ixs 1) [(.tmp 7), (.const (.int .i64 0))]),
 .gd 6 false (some 9) (.ld 9 (.tmp 8)),
 .gd 6 false (some 10) (.p 10 .len [(.tmp 9)]),
 .gd 6 false (some 11) (.p 11 (.bin .eql) [(.tmp 10), (.const (.int .i64 0))]),
 .p 12 .pick [(.tmp 6), (.const (.bool true)), (.tmp 11)]]) (
 .cond (.tmp 12) (
 .seq (
 .ops [
 .p 2 .mv [(.const (.bool false))]]) (
 .ret)) (
 .skip))) (
 .seq (
 .ops [
 .ld 13 (.tmp 1),
 .p 14 (.fn (.func f_matrix_Right_1) 0) [(.tmp 1)],
 .call (some 15) f_slices_ContainsFunc [(.tmp 13), (.tmp 14)],
 .p 16 .not [(.tmp 15)],
 .p 2 .mv [(.tmp 16)]]) (
 .ret)))⟩

theorem c_matrix_Right : trF Try.prog f_matrix_Right = some m_matrix_Right := by kernel_rfl
-- 34 shardlog/shardlogref04.Right; slots [(0, m), (1, m), (3, i)]
noncomputable def m_ref04_Right : MF := ⟨30, [.t 2],
 .seq (
 .ops [
 .p 2 .mv [(.const (.bool false))]]) (
 .seq (
 .seq (
 .ops [
 .p 4 .mv [(.tmp 0)],
 .p 5 .len [(.tmp 4)],
 .p 6 (.bin .eql) [(.tmp 5), (.const (.int .i64 0))],
 .p 7 .mv [(.tmp 6)],
 .gd 7 false (some 8) (.p 8 .mv [(.tmp 0)]),
 .gd 7 false (some 9) (.p 9 (.ixs 1) [(.tmp 8), (.const (.int .i64 0))]),
 .gd 7 false (some 10) (.ld 10 (.tmp 9)),
 .gd 7 false (some 11) (.p 11 .len [(.tmp 10)]),
 .gd 7 false (some 12) (.p 12 (.bin .eql) [(.tmp 11), (.const (.int .i64 0))]),
 .p 13 .pick [(.tmp 7), (.const (.bool true)), (.tmp 12)]]) (
 .cond (.tmp 13) (
 .seq (
 .ops [
 .p 2 .mv [(.const (.bool false))]]) (
 .ret)) (
 .skip))) (
 .seq (
 .seq (
 .ops [
 .p 3 .mv [(.const (.int .i64 0))]]) (
 .block 0 (
 .loop (
 .seq (
 .seq (
 .ops [
 .p 14 .mv [(.tmp 3)],
 .p 15 .mv [(.tmp 0)],
 .p 16 .len [(.tmp 15)],
 .p 17 (.bin .lss) [(.tmp 14), (.tmp 16)]]) (
 .cond (.tmp 17) (
 .skip) (
 .exit 0))) (
 .seq (
 .block 1 (
 .seq (
 .dr [
 ⟨.p 20 .mv [(.tmp 0)], []⟩,
 ⟨.p 21 .mv [(.tmp 3)], []⟩,
 ⟨.p 22 (.ixs 1) [(.tmp 20), (.tmp 21)], []⟩,
 ⟨.ld 23 (.tmp 22), []⟩,
 ⟨.p 24 .len [(.tmp 23)], []⟩,
 ⟨.p 25 .mv [(.tmp 0)], []⟩,
 ⟨.p 26 (.ixs 1) [(.tmp 25), (.const (.int .i64 0))], []⟩,
 ⟨.ld 27 (.tmp 26), []⟩,
 ⟨.p 28 .len [(.tmp 27)], []⟩,
 ⟨.p 29 (.bin .neq) [(.tmp 24), (.tmp 28)], []⟩]) (
 .cond (.tmp 29) (
 .seq (
 .ops [
 .p 2 .mv [(.const (.bool false))]]) (
 .ret)) (
 .skip)))) (
 .ops [
 .p 18 .mv [(.tmp 3)],
 .p 19 (.bin .add) [(.tmp 18), (.const (.int .i64 1))],
 .p 3 .mv [(.tmp 19)]])))))) (
 .seq (
 .ops [
 .p 2 .mv [(.const (.bool true))]]) (
 .ret))))⟩

-- 35 shardlog/shardlogref04.Few; slots [(0, m), (1, most), (2, m), (3, most)]
noncomputable def m_ref04_Few : MF := ⟨21, [.t 4],
 .seq (
 .ops [
 .p 4 .mv [(.const (.bool false))]]) (
 .seq (
 .ops [
 .p 5 .mv [(.tmp 0)],
 .p 6 .len [(.tmp 5)],
 .p 7 .mv [(.tmp 1)],
 .p 8 (.bin .leq) [(.tmp 6), (.tmp 7)],
 .p 9 .mv [(.tmp 8)],
 .gd 9 true (some 10) (.p 10 .mv [(.tmp 0)]),
 .gd 9 true (some 11) (.call (some 11) f_ref04_Right [(.tmp 10)]),
 .p 12 .pick [(.tmp 9), (.tmp 11), (.const (.bool false))],
 .p 13 .mv [(.tmp 12)],
 .gd 13 true (some 14) (.p 14 .mv [(.tmp 0)]),
 .gd 13 true (some 15) (.p 15 (.ixs 1) [(.tmp 14), (.const (.int .i64 0))]),
 .gd 13 true (some 16) (.ld 16 (.tmp 15)),
 .gd 13 true (some 17) (.p 17 .len [(.tmp 16)]),
 .gd 13 true (some 18) (.p 18 .mv [(.tmp 1)]),
 .gd 13 true (some 19) (.p 19 (.bin .leq) [(.tmp 17), (.tmp 18)]),
 .p 20 .pick [(.tmp 13), (.tmp 19), (.const (.bool false))],
 .p 4 .mv [(.tmp 20)]]) (
 .ret))⟩

-- 36 shardlog/shardlogref04.Same; slots [(0, a), (1, b), (2, a), (3, b), (5, i)]
noncomputable def m_ref04_Same : MF := ⟨28, [.t 4],
 .seq (
 .ops [
 .p 4 .mv [(.const (.bool false))]]) (
 .seq (
 .seq (
 .ops [
 .p 6 .mv [(.tmp 0)],
 .p 7 .len [(.tmp 6)],
 .p 8 .mv [(.tmp 1)],
 .p 9 .len [(.tmp 8)],
 .p 10 (.bin .neq) [(.tmp 7), (.tmp 9)]]) (
 .cond (.tmp 10) (
 .seq (
 .ops [
 .p 4 .mv [(.const (.bool false))]]) (
 .ret)) (
 .skip))) (
 .seq (
 .seq (
 .ops [
 .p 5 .mv [(.const (.int .i64 0))]]) (
 .block 0 (
 .loop (
 .seq (
 .seq (
 .ops [
 .p 11 .mv [(.tmp 5)],
 .p 12 .mv [(.tmp 0)],
 .p 13 .len [(.tmp 12)],
 .p 14 (.bin .lss) [(.tmp 11), (.tmp 13)]]) (
 .cond (.tmp 14) (
 .skip) (
 .exit 0))) (
 .seq (
 .block 1 (
 .seq (
 .dr [
 ⟨.p 17 .mv [(.tmp 0)], []⟩,
 ⟨.p 18 .mv [(.tmp 5)], []⟩,
 ⟨.p 19 (.ixs 1) [(.tmp 17), (.tmp 18)], []⟩,
 ⟨.ld 20 (.tmp 19), []⟩,
 ⟨.bs 21 (.tmp 20), []⟩,
 ⟨.p 22 .mv [(.tmp 1)], []⟩,
 ⟨.p 23 .mv [(.tmp 5)], []⟩,
 ⟨.p 24 (.ixs 1) [(.tmp 22), (.tmp 23)], []⟩,
 ⟨.ld 25 (.tmp 24), []⟩,
 ⟨.bs 26 (.tmp 25), []⟩,
 ⟨.p 27 (.bin .neq) [(.tmp 21), (.tmp 26)], []⟩]) (
 .cond (.tmp 27) (
 .seq (
 .ops [
 .p 4 .mv [(.const (.bool false))]]) (
 .ret)) (
 .skip)))) (
 .ops [
 .p 15 .mv [(.tmp 5)],
 .p 16 (.bin .add) [(.tmp 15), (.const (.int .i64 1))],
 .p 5 .mv [(.tmp 16)]])))))) (
 .seq (
 .ops [
 .p 4 .mv [(.const (.bool true))]]) (
 .ret))))⟩

theorem c_ref04_Same : trF Try.prog f_ref04_Same = some m_ref04_Same := by kernel_rfl
-- 37 shardlog/matrix.Mul; slots [(0, a), (1, b), (2, a), (3, b), (5, f), (6, out), (7, _), (8, r), (9, row), (10, k), (11, c)]
noncomputable def m_matrix_Mul : MF := ⟨54, [.t 4],
 .seq (
 .ops [
 .p 4 .mv [(.const (.slice none 0 0))]]) (
 .seq (
 .seq (
 .ops [
 .p 12 .mv [(.tmp 0)],
 .p 13 (.ixs 1) [(.tmp 12), (.const (.int .i64 0))],
 .ld 14 (.tmp 13),
 .p 15 .len [(.tmp 14)],
 .p 16 .mv [(.tmp 1)],
 .p 17 .len [(.tmp 16)],
 .p 18 (.bin .neq) [(.tmp 15), (.tmp 17)]]) (
 .cond (.tmp 18) (
 .seq (
 .ops [
 .p 4 .mv [(.const (.slice none 0 0))]]) (
 .ret)) (
 .skip))) (
 .seq (
 .ops [
 .call (some 19) f_field_New [],
 .p 5 .mv [(.tmp 19)]]) (
 .seq (
 .ops [
 .p 6 .mv [(.const (.slice none 0 0))]]) (
 .seq (
 .seq (
 .ops [
 .p 20 .mv [(.tmp 0)],
 .p 21 .len [(.tmp 20)],
 .p 22 .mv [(.const (.int .i64 0))]]) (
 .block 0 (
 .loop (
 .seq (
 .ops [
 .p 23 (.bin .lss) [(.tmp 22), (.tmp 21)]]) (
 .seq (
 .cond (.tmp 23) (
 .skip) (
 .exit 0)) (
 .seq (
 .block 1 (
 .seq (
 .ops [
 .p 24 (.ixs 1) [(.tmp 20), (.tmp 22)],
 .ld 25 (.tmp 24),
 .p 8 .mv [(.tmp 25)]]) (
 .seq (
 .ops [
 .p 26 .mv [(.tmp 1)],
 .p 27 (.ixs 1) [(.tmp 26), (.const (.int .i64 0))],
 .ld 28 (.tmp 27),
 .p 29 .len [(.tmp 28)],
 .gen (some 30) ⟨(some 30), (.makeSlice tBytes (.tmp 29) (.tmp 29)), tBytes, "matrix.go:42", #[⟨3, .data⟩, ⟨3, .data⟩], none⟩,
 .p 9 .mv [(.tmp 30)]]) (
 .seq (
 .seq (
 .ops [
 .p 31 .mv [(.tmp 8)],
 .p 32 .len [(.tmp 31)],
 .p 33 .mv [(.const (.int .i64 0))]]) (
 .block 2 (
 .loop (
 .seq (
 .ops [
 .p 34 (.bin .lss) [(.tmp 33), (.tmp 32)]]) (
 .seq (
 .cond (.tmp 34) (
 .skip) (
 .exit 2)) (
 .seq (
 .block 3 (
 .seq (
 .ops [
 .p 35 .mv [(.tmp 33)],
 .p 36 (.ixs 1) [(.tmp 31), (.tmp 33)],
 .ld 37 (.tmp 36),
 .p 10 .mv [(.tmp 35)],
 .p 11 .mv [(.tmp 37)]]) (
 .ops [
 .p 38 .mv [(.tmp 9)],
 .p 39 .mv [(.tmp 5)],
 .p 40 .mv [(.tmp 11)],
 .p 41 .mv [(.tmp 1)],
 .p 42 .mv [(.tmp 10)],
 .p 43 (.ixs 1) [(.tmp 41), (.tmp 42)],
 .ld 44 (.tmp 43),
 .call (some 45) f_field_Field_Row [(.tmp 39), (.tmp 40), (.tmp 44)],
 .call (some 46) f_matrix_plus [(.tmp 38), (.tmp 45)]]))) (
 .ops [
 .p 47 (.bin .add) [(.tmp 33), (.const (.int .i64 1))],
 .p 33 .mv [(.tmp 47)]]))))))) (
 .ops [
 .p 48 .mv [(.tmp 6)],
 .p 49 .mv [(.tmp 9)],
 .bsl 50 tBytes 1 [(.slice none 0 0)] [(0, 1)] [(.tmp 49)],
 .app 51 #[tRows, tRows] tRows (.tmp 48) (.tmp 50),
 .p 6 .mv [(.tmp 51)]]))))) (
 .ops [
 .p 52 (.bin .add) [(.tmp 22), (.const (.int .i64 1))],
 .p 22 .mv [(.tmp 52)]]))))))) (
 .seq (
 .ops [
 .p 53 .mv [(.tmp 6)],
 .p 4 .mv [(.tmp 53)]]) (
 .ret))))))⟩

theorem c_matrix_Mul : trF Try.prog f_matrix_Mul = some m_matrix_Mul := by kernel_rfl
-- 38 shardlog/shardlogref04.Mul; slots [(0, a), (1, b), (2, a), (3, b), (5, out), (6, i), (7, row), (8, j), (9, x), (10, k)]
noncomputable def m_ref04_Mul : MF := ⟨64, [.t 4],
 .seq (
 .ops [
 .p 4 .mv [(.const (.slice none 0 0))]]) (
 .seq (
 .seq (
 .ops [
 .p 11 .mv [(.tmp 0)],
 .p 12 (.ixs 1) [(.tmp 11), (.const (.int .i64 0))],
 .ld 13 (.tmp 12),
 .p 14 .len [(.tmp 13)],
 .p 15 .mv [(.tmp 1)],
 .p 16 .len [(.tmp 15)],
 .p 17 (.bin .neq) [(.tmp 14), (.tmp 16)]]) (
 .cond (.tmp 17) (
 .seq (
 .ops [
 .p 4 .mv [(.const (.slice none 0 0))]]) (
 .ret)) (
 .skip))) (
 .seq (
 .ops [
 .p 5 .mv [(.const (.slice none 0 0))]]) (
 .seq (
 .seq (
 .ops [
 .p 6 .mv [(.const (.int .i64 0))]]) (
 .block 0 (
 .loop (
 .seq (
 .seq (
 .ops [
 .p 18 .mv [(.tmp 6)],
 .p 19 .mv [(.tmp 0)],
 .p 20 .len [(.tmp 19)],
 .p 21 (.bin .lss) [(.tmp 18), (.tmp 20)]]) (
 .cond (.tmp 21) (
 .skip) (
 .exit 0))) (
 .seq (
 .block 1 (
 .seq (
 .ops [
 .p 7 .mv [(.const (.slice none 0 0))]]) (
 .seq (
 .seq (
 .ops [
 .p 8 .mv [(.const (.int .i64 0))]]) (
 .block 2 (
 .loop (
 .seq (
 .seq (
 .ops [
 .p 24 .mv [(.tmp 8)],
 .p 25 .mv [(.tmp 1)],
 .p 26 (.ixs 1) [(.tmp 25), (.const (.int .i64 0))],
 .ld 27 (.tmp 26),
 .p 28 .len [(.tmp 27)],
 .p 29 (.bin .lss) [(.tmp 24), (.tmp 28)]]) (
 .cond (.tmp 29) (
 .skip) (
 .exit 2))) (
 .seq (
 .block 3 (
 .seq (
 .ops [
 .p 9 .mv [(.const (.int .u8 0))]]) (
 .seq (
 .seq (
 .ops [
 .p 10 .mv [(.const (.int .i64 0))]]) (
 .block 4 (
 .loop (
 .seq (
 .seq (
 .ops [
 .p 32 .mv [(.tmp 10)],
 .p 33 .mv [(.tmp 1)],
 .p 34 .len [(.tmp 33)],
 .p 35 (.bin .lss) [(.tmp 32), (.tmp 34)]]) (
 .cond (.tmp 35) (
 .skip) (
 .exit 4))) (
 .seq (
 .block 5 (
 .dr [
 ⟨.p 38 .mv [(.tmp 9)], []⟩,
 ⟨.p 39 .mv [(.tmp 0)], []⟩,
 ⟨.p 40 .mv [(.tmp 6)], []⟩,
 ⟨.p 41 (.ixs 1) [(.tmp 39), (.tmp 40)], []⟩,
 ⟨.ld 42 (.tmp 41), []⟩,
 ⟨.p 43 .mv [(.tmp 10)], []⟩,
 ⟨.p 44 (.ixs 1) [(.tmp 42), (.tmp 43)], []⟩,
 ⟨.ld 45 (.tmp 44), []⟩,
 ⟨.p 46 .mv [(.tmp 1)], []⟩,
 ⟨.p 47 .mv [(.tmp 10)], []⟩,
 ⟨.p 48 (.ixs 1) [(.tmp 46), (.tmp 47)], []⟩,
 ⟨.ld 49 (.tmp 48), []⟩,
 ⟨.p 50 .mv [(.tmp 8)], []⟩,
 ⟨.p 51 (.ixs 1) [(.tmp 49), (.tmp 50)], []⟩,
 ⟨.ld 52 (.tmp 51), []⟩,
 ⟨.call (some 53) f_ref03_Mul [(.tmp 45), (.tmp 52)], [.ld 49 (.tmp 48), .ld 42 (.tmp 41)]⟩,
 ⟨.p 54 (.bin .xor) [(.tmp 38), (.tmp 53)], []⟩,
 ⟨.p 9 .mv [(.tmp 54)], []⟩])) (
 .ops [
 .p 36 .mv [(.tmp 10)],
 .p 37 (.bin .add) [(.tmp 36), (.const (.int .i64 1))],
 .p 10 .mv [(.tmp 37)]])))))) (
 .ops [
 .p 55 .mv [(.tmp 7)],
 .p 56 .mv [(.tmp 9)],
 .bsl 57 tU8 1 [(.int .u8 0)] [(0, 1)] [(.tmp 56)],
 .app 58 #[tBytes, tBytes] tBytes (.tmp 55) (.tmp 57),
 .p 7 .mv [(.tmp 58)]])))) (
 .ops [
 .p 30 .mv [(.tmp 8)],
 .p 31 (.bin .add) [(.tmp 30), (.const (.int .i64 1))],
 .p 8 .mv [(.tmp 31)]])))))) (
 .ops [
 .p 59 .mv [(.tmp 5)],
 .p 60 .mv [(.tmp 7)],
 .bsl 61 tBytes 1 [(.slice none 0 0)] [(0, 1)] [(.tmp 60)],
 .app 62 #[tRows, tRows] tRows (.tmp 59) (.tmp 61),
 .p 5 .mv [(.tmp 62)]])))) (
 .ops [
 .p 22 .mv [(.tmp 6)],
 .p 23 (.bin .add) [(.tmp 22), (.const (.int .i64 1))],
 .p 6 .mv [(.tmp 23)]])))))) (
 .seq (
 .ops [
 .p 63 .mv [(.tmp 5)],
 .p 4 .mv [(.tmp 63)]]) (
 .ret)))))⟩

theorem c_ref04_Mul : trF Try.prog f_ref04_Mul = some m_ref04_Mul := by kernel_rfl
-- 39 shardlog/matrix.One; slots [(0, n), (1, n)]
noncomputable def m_matrix_One : MF := ⟨6, [.t 2],
 .seq (
 .ops [
 .p 2 .mv [(.const (.slice none 0 0))]]) (
 .seq (
 .ops [
 .p 3 .mv [(.tmp 0)],
 .p 4 .mv [(.tmp 0)],
 .call (some 5) f_matrix_Coding [(.tmp 3), (.tmp 4)],
 .p 2 .mv [(.tmp 5)]]) (
 .ret))⟩

theorem c_matrix_One : trF Try.prog f_matrix_One = some m_matrix_One := by kernel_rfl
-- 40 shardlog/matrix.Invert; slots [(0, m), (1, m), (4, f), (5, left), (6, out), (7, c)]
noncomputable def m_matrix_Invert : MF := ⟨38, [.t 2, .t 3],
 .seq (
 .ops [
 .p 2 .mv [(.const (.slice none 0 0))],
 .p 3 .mv [(.const (.bool false))]]) (
 .seq (
 .seq (
 .ops [
 .p 8 .mv [(.tmp 0)],
 .p 9 .len [(.tmp 8)],
 .p 10 .mv [(.tmp 0)],
 .p 11 (.ixs 1) [(.tmp 10), (.const (.int .i64 0))],
 .ld 12 (.tmp 11),
 .p 13 .len [(.tmp 12)],
 .p 14 (.bin .neq) [(.tmp 9), (.tmp 13)]]) (
 .cond (.tmp 14) (
 .seq (
 .ops [
 .p 2 .mv [(.const (.slice none 0 0))],
 .p 3 .mv [(.const (.bool false))]]) (
 .ret)) (
 .skip))) (
 .seq (
 .ops [
 .call (some 15) f_field_New [],
 .p 4 .mv [(.tmp 15)]]) (
 .seq (
 .ops [
 .p 16 .mv [(.tmp 0)],
 .call (some 17) f_matrix_copied [(.tmp 16)],
 .p 18 .mv [(.tmp 0)],
 .p 19 .len [(.tmp 18)],
 .call (some 20) f_matrix_One [(.tmp 19)],
 .p 5 .mv [(.tmp 17)],
 .p 6 .mv [(.tmp 20)]]) (
 .seq (
 .seq (
 .ops [
 .p 21 .mv [(.tmp 5)],
 .p 22 .len [(.tmp 21)],
 .p 23 .mv [(.const (.int .i64 0))]]) (
 .block 0 (
 .loop (
 .seq (
 .ops [
 .p 24 (.bin .lss) [(.tmp 23), (.tmp 22)]]) (
 .seq (
 .cond (.tmp 24) (
 .skip) (
 .exit 0)) (
 .seq (
 .block 1 (
 .seq (
 .ops [
 .p 25 .mv [(.tmp 23)],
 .p 7 .mv [(.tmp 25)]]) (
 .seq (
 .seq (
 .ops [
 .p 26 .mv [(.tmp 5)],
 .p 27 .mv [(.tmp 6)],
 .p 28 .mv [(.tmp 7)],
 .call (some 29) f_matrix_pivot [(.tmp 26), (.tmp 27), (.tmp 28)],
 .p 30 .not [(.tmp 29)]]) (
 .cond (.tmp 30) (
 .seq (
 .ops [
 .p 2 .mv [(.const (.slice none 0 0))],
 .p 3 .mv [(.const (.bool false))]]) (
 .ret)) (
 .skip))) (
 .ops [
 .p 31 .mv [(.tmp 4)],
 .p 32 .mv [(.tmp 5)],
 .p 33 .mv [(.tmp 6)],
 .p 34 .mv [(.tmp 7)],
 .call (some 35) f_matrix_clearColumn [(.tmp 31), (.tmp 32), (.tmp 33), (.tmp 34)]])))) (
 .ops [
 .p 36 (.bin .add) [(.tmp 23), (.const (.int .i64 1))],
 .p 23 .mv [(.tmp 36)]]))))))) (
 .seq (
 .ops [
 .p 37 .mv [(.tmp 6)],
 .p 2 .mv [(.tmp 37)],
 .p 3 .mv [(.const (.bool true))]]) (
 .ret))))))⟩

theorem c_matrix_Invert : trF Try.prog f_matrix_Invert = some m_matrix_Invert := by kernel_rfl
-- 41 shardlog/shardlogref04.Det; slots [(0, m), (1, m), (3, x), (4, i), (5, less), (6, k)]
noncomputable def m_ref04_Det : MF := ⟨57, [.t 2],
 .seq (
 .ops [
 .p 2 .mv [(.const (.int .u8 0))]]) (
 .seq (
 .seq (
 .ops [
 .p 7 .mv [(.tmp 0)],
 .p 8 .len [(.tmp 7)],
 .p 9 (.bin .eql) [(.tmp 8), (.const (.int .i64 1))]]) (
 .cond (.tmp 9) (
 .seq (
 .ops [
 .p 10 .mv [(.tmp 0)],
 .p 11 (.ixs 1) [(.tmp 10), (.const (.int .i64 0))],
 .ld 12 (.tmp 11),
 .p 13 (.ixs 1) [(.tmp 12), (.const (.int .i64 0))],
 .ld 14 (.tmp 13),
 .p 2 .mv [(.tmp 14)]]) (
 .ret)) (
 .skip))) (
 .seq (
 .ops [
 .p 3 .mv [(.const (.int .u8 0))]]) (
 .seq (
 .seq (
 .ops [
 .p 4 .mv [(.const (.int .i64 0))]]) (
 .block 0 (
 .loop (
 .seq (
 .seq (
 .ops [
 .p 15 .mv [(.tmp 4)],
 .p 16 .mv [(.tmp 0)],
 .p 17 .len [(.tmp 16)],
 .p 18 (.bin .lss) [(.tmp 15), (.tmp 17)]]) (
 .cond (.tmp 18) (
 .skip) (
 .exit 0))) (
 .seq (
 .block 1 (
 .seq (
 .ops [
 .p 5 .mv [(.const (.slice none 0 0))]]) (
 .seq (
 .seq (
 .ops [
 .p 6 .mv [(.const (.int .i64 0))]]) (
 .block 2 (
 .loop (
 .seq (
 .seq (
 .ops [
 .p 21 .mv [(.tmp 6)],
 .p 22 .mv [(.tmp 0)],
 .p 23 .len [(.tmp 22)],
 .p 24 (.bin .lss) [(.tmp 21), (.tmp 23)]]) (
 .cond (.tmp 24) (
 .skip) (
 .exit 2))) (
 .seq (
 .block 3 (
 .seq (
 .ops [
 .p 27 .mv [(.tmp 6)],
 .p 28 .mv [(.tmp 4)],
 .p 29 (.bin .neq) [(.tmp 27), (.tmp 28)]]) (
 .cond (.tmp 29) (
 .ops [
 .p 30 .mv [(.tmp 5)],
 .p 31 .mv [(.tmp 0)],
 .p 32 .mv [(.tmp 6)],
 .p 33 (.ixs 1) [(.tmp 31), (.tmp 32)],
 .ld 34 (.tmp 33),
 .p 35 (.sls 1 true false false) [(.tmp 34), (.const (.int .i64 1))],
 .bsl 36 tBytes 1 [(.slice none 0 0)] [(0, 1)] [(.tmp 35)],
 .app 37 #[tRows, tRows] tRows (.tmp 30) (.tmp 36),
 .p 5 .mv [(.tmp 37)]]) (
 .skip)))) (
 .ops [
 .p 25 .mv [(.tmp 6)],
 .p 26 (.bin .add) [(.tmp 25), (.const (.int .i64 1))],
 .p 6 .mv [(.tmp 26)]])))))) (
 .seq (
 .ops [
 .p 38 .mv [(.tmp 0)],
 .p 39 .mv [(.tmp 4)],
 .p 40 (.ixs 1) [(.tmp 38), (.tmp 39)],
 .ld 41 (.tmp 40),
 .p 42 (.ixs 1) [(.tmp 41), (.const (.int .i64 0))],
 .ld 43 (.tmp 42),
 .p 44 (.bin .neq) [(.tmp 43), (.const (.int .u8 0))]]) (
 .cond (.tmp 44) (
 .dr [
 ⟨.p 45 .mv [(.tmp 3)], []⟩,
 ⟨.p 46 .mv [(.tmp 0)], []⟩,
 ⟨.p 47 .mv [(.tmp 4)], []⟩,
 ⟨.p 48 (.ixs 1) [(.tmp 46), (.tmp 47)], []⟩,
 ⟨.ld 49 (.tmp 48), []⟩,
 ⟨.p 50 (.ixs 1) [(.tmp 49), (.const (.int .i64 0))], []⟩,
 ⟨.ld 51 (.tmp 50), []⟩,
 ⟨.p 52 .mv [(.tmp 5)], []⟩,
 ⟨.call (some 53) f_ref04_Det [(.tmp 52)], [.ld 51 (.tmp 50), .ld 49 (.tmp 48)]⟩,
 ⟨.call (some 54) f_ref03_Mul [(.tmp 51), (.tmp 53)], [.ld 49 (.tmp 48)]⟩,
 ⟨.p 55 (.bin .xor) [(.tmp 45), (.tmp 54)], []⟩,
 ⟨.p 3 .mv [(.tmp 55)], []⟩]) (
 .skip)))))) (
 .ops [
 .p 19 .mv [(.tmp 4)],
 .p 20 (.bin .add) [(.tmp 19), (.const (.int .i64 1))],
 .p 4 .mv [(.tmp 20)]])))))) (
 .seq (
 .ops [
 .p 56 .mv [(.tmp 3)],
 .p 2 .mv [(.tmp 56)]]) (
 .ret)))))⟩

-- 42 shardlog/matrix.Coding; slots [(0, k), (1, n), (2, k), (3, n), (5, f), (6, out), (7, i), (8, row), (9, j)]
noncomputable def m_matrix_Coding : MF := ⟨49, [.t 4],
 .seq (
 .ops [
 .p 4 .mv [(.const (.slice none 0 0))]]) (
 .seq (
 .ops [
 .call (some 10) f_field_New [],
 .p 5 .mv [(.tmp 10)]]) (
 .seq (
 .ops [
 .p 6 .mv [(.const (.slice none 0 0))]]) (
 .seq (
 .seq (
 .ops [
 .p 11 .mv [(.tmp 1)],
 .p 12 .mv [(.const (.int .i64 0))]]) (
 .block 0 (
 .loop (
 .seq (
 .ops [
 .p 13 (.bin .lss) [(.tmp 12), (.tmp 11)]]) (
 .seq (
 .cond (.tmp 13) (
 .skip) (
 .exit 0)) (
 .seq (
 .block 1 (
 .seq (
 .ops [
 .p 14 .mv [(.tmp 12)],
 .p 7 .mv [(.tmp 14)]]) (
 .seq (
 .ops [
 .p 15 .mv [(.tmp 0)],
 .gen (some 16) ⟨(some 16), (.makeSlice tBytes (.tmp 15) (.tmp 15)), tBytes, "matrix.go:59", #[⟨0, .data⟩, ⟨0, .data⟩], none⟩,
 .p 8 .mv [(.tmp 16)]]) (
 .seq (
 .seq (
 .ops [
 .p 17 .mv [(.tmp 8)],
 .p 18 .len [(.tmp 17)],
 .p 19 .mv [(.const (.int .i64 0))]]) (
 .block 2 (
 .loop (
 .seq (
 .ops [
 .p 20 (.bin .lss) [(.tmp 19), (.tmp 18)]]) (
 .seq (
 .cond (.tmp 20) (
 .skip) (
 .exit 2)) (
 .seq (
 .block 3 (
 .seq (
 .ops [
 .p 21 .mv [(.tmp 19)],
 .p 9 .mv [(.tmp 21)]]) (
 .block 4 (
 .seq (
 .ops [
 .p 23 .mv [(.tmp 7)],
 .p 24 .mv [(.tmp 0)],
 .p 25 (.bin .geq) [(.tmp 23), (.tmp 24)],
 .p 22 .mv [(.tmp 25)]]) (
 .cond (.tmp 22) (
 .ops [
 .p 26 .mv [(.tmp 8)],
 .p 27 .mv [(.tmp 9)],
 .p 28 .mv [(.tmp 5)],
 .p 29 .mv [(.tmp 7)],
 .p 30 .mv [(.tmp 9)],
 .p 31 (.bin .xor) [(.tmp 29), (.tmp 30)],
 .p 32 (.conv .u8) [(.tmp 31)],
 .call (some 33) f_field_Field_Inv [(.tmp 28), (.tmp 32)],
 .p 34 (.ixs 1) [(.tmp 26), (.tmp 27)],
 .st 1 false (.tmp 34) (.tmp 33)]) (
 .seq (
 .ops [
 .p 36 .mv [(.tmp 7)],
 .p 37 .mv [(.tmp 9)],
 .p 38 (.bin .eql) [(.tmp 36), (.tmp 37)],
 .p 35 .mv [(.tmp 38)]]) (
 .cond (.tmp 35) (
 .ops [
 .p 39 .mv [(.tmp 8)],
 .p 40 .mv [(.tmp 9)],
 .p 41 (.ixs 1) [(.tmp 39), (.tmp 40)],
 .st 1 false (.tmp 41) (.const (.int .u8 1))]) (
 .skip)))))))) (
 .ops [
 .p 42 (.bin .add) [(.tmp 19), (.const (.int .i64 1))],
 .p 19 .mv [(.tmp 42)]]))))))) (
 .ops [
 .p 43 .mv [(.tmp 6)],
 .p 44 .mv [(.tmp 8)],
 .bsl 45 tBytes 1 [(.slice none 0 0)] [(0, 1)] [(.tmp 44)],
 .app 46 #[tRows, tRows] tRows (.tmp 43) (.tmp 45),
 .p 6 .mv [(.tmp 46)]]))))) (
 .ops [
 .p 47 (.bin .add) [(.tmp 12), (.const (.int .i64 1))],
 .p 12 .mv [(.tmp 47)]]))))))) (
 .seq (
 .ops [
 .p 48 .mv [(.tmp 6)],
 .p 4 .mv [(.tmp 48)]]) (
 .ret)))))⟩

theorem c_matrix_Coding : trF Try.prog f_matrix_Coding = some m_matrix_Coding := by kernel_rfl
-- 43 shardlog/shardlogref04.Coding; slots [(0, k), (1, n), (2, k), (3, n), (5, out), (6, i), (7, row), (8, j), (9, x)]
noncomputable def m_ref04_Coding : MF := ⟨40, [.t 4],
 .seq (
 .ops [
 .p 4 .mv [(.const (.slice none 0 0))]]) (
 .seq (
 .ops [
 .p 5 .mv [(.const (.slice none 0 0))]]) (
 .seq (
 .seq (
 .ops [
 .p 6 .mv [(.const (.int .i64 0))]]) (
 .block 0 (
 .loop (
 .seq (
 .seq (
 .ops [
 .p 10 .mv [(.tmp 6)],
 .p 11 .mv [(.tmp 1)],
 .p 12 (.bin .lss) [(.tmp 10), (.tmp 11)]]) (
 .cond (.tmp 12) (
 .skip) (
 .exit 0))) (
 .seq (
 .block 1 (
 .seq (
 .ops [
 .p 7 .mv [(.const (.slice none 0 0))]]) (
 .seq (
 .seq (
 .ops [
 .p 8 .mv [(.const (.int .i64 0))]]) (
 .block 2 (
 .loop (
 .seq (
 .seq (
 .ops [
 .p 15 .mv [(.tmp 8)],
 .p 16 .mv [(.tmp 0)],
 .p 17 (.bin .lss) [(.tmp 15), (.tmp 16)]]) (
 .cond (.tmp 17) (
 .skip) (
 .exit 2))) (
 .seq (
 .block 3 (
 .seq (
 .ops [
 .p 9 .mv [(.const (.int .u8 0))]]) (
 .seq (
 .seq (
 .ops [
 .p 20 .mv [(.tmp 6)],
 .p 21 .mv [(.tmp 8)],
 .p 22 (.bin .eql) [(.tmp 20), (.tmp 21)]]) (
 .cond (.tmp 22) (
 .ops [
 .p 9 .mv [(.const (.int .u8 1))]]) (
 .skip))) (
 .seq (
 .seq (
 .ops [
 .p 23 .mv [(.tmp 6)],
 .p 24 .mv [(.tmp 0)],
 .p 25 (.bin .geq) [(.tmp 23), (.tmp 24)]]) (
 .cond (.tmp 25) (
 .ops [
 .p 26 .mv [(.tmp 6)],
 .p 27 .mv [(.tmp 8)],
 .p 28 (.bin .xor) [(.tmp 26), (.tmp 27)],
 .p 29 (.conv .u8) [(.tmp 28)],
 .call (some 30) f_ref03_Inv [(.tmp 29)],
 .p 9 .mv [(.tmp 30)]]) (
 .skip))) (
 .ops [
 .p 31 .mv [(.tmp 7)],
 .p 32 .mv [(.tmp 9)],
 .bsl 33 tU8 1 [(.int .u8 0)] [(0, 1)] [(.tmp 32)],
 .app 34 #[tBytes, tBytes] tBytes (.tmp 31) (.tmp 33),
 .p 7 .mv [(.tmp 34)]]))))) (
 .ops [
 .p 18 .mv [(.tmp 8)],
 .p 19 (.bin .add) [(.tmp 18), (.const (.int .i64 1))],
 .p 8 .mv [(.tmp 19)]])))))) (
 .ops [
 .p 35 .mv [(.tmp 5)],
 .p 36 .mv [(.tmp 7)],
 .bsl 37 tBytes 1 [(.slice none 0 0)] [(0, 1)] [(.tmp 36)],
 .app 38 #[tRows, tRows] tRows (.tmp 35) (.tmp 37),
 .p 5 .mv [(.tmp 38)]])))) (
 .ops [
 .p 13 .mv [(.tmp 6)],
 .p 14 (.bin .add) [(.tmp 13), (.const (.int .i64 1))],
 .p 6 .mv [(.tmp 14)]])))))) (
 .seq (
 .ops [
 .p 39 .mv [(.tmp 5)],
 .p 4 .mv [(.tmp 39)]]) (
 .ret))))⟩

theorem c_ref04_Coding : trF Try.prog f_ref04_Coding = some m_ref04_Coding := by kernel_rfl
-- 44 shardlog/matrix.Rows; slots [(0, m), (1, at), (2, m), (3, at), (5, out), (6, _), (7, i)]
noncomputable def m_matrix_Rows : MF := ⟨32, [.t 4],
 .seq (
 .ops [
 .p 4 .mv [(.const (.slice none 0 0))]]) (
 .seq (
 .ops [
 .p 5 .mv [(.const (.slice none 0 0))]]) (
 .seq (
 .seq (
 .ops [
 .p 8 .mv [(.tmp 1)],
 .p 9 .len [(.tmp 8)],
 .p 10 .mv [(.const (.int .i64 0))]]) (
 .block 0 (
 .loop (
 .seq (
 .ops [
 .p 11 (.bin .lss) [(.tmp 10), (.tmp 9)]]) (
 .seq (
 .cond (.tmp 11) (
 .skip) (
 .exit 0)) (
 .seq (
 .block 1 (
 .seq (
 .ops [
 .p 12 (.ixs 1) [(.tmp 8), (.tmp 10)],
 .ld 13 (.tmp 12),
 .p 7 .mv [(.tmp 13)]]) (
 .seq (
 .seq (
 .ops [
 .p 14 .mv [(.tmp 7)],
 .p 15 (.bin .lss) [(.tmp 14), (.const (.int .i64 0))],
 .p 16 .mv [(.tmp 15)],
 .gd 16 false (some 17) (.p 17 .mv [(.tmp 7)]),
 .gd 16 false (some 18) (.p 18 .mv [(.tmp 0)]),
 .gd 16 false (some 19) (.p 19 .len [(.tmp 18)]),
 .gd 16 false (some 20) (.p 20 (.bin .geq) [(.tmp 17), (.tmp 19)]),
 .p 21 .pick [(.tmp 16), (.const (.bool true)), (.tmp 20)]]) (
 .cond (.tmp 21) (
 .seq (
 .ops [
 .p 4 .mv [(.const (.slice none 0 0))]]) (
 .ret)) (
 .skip))) (
 .ops [
 .p 22 .mv [(.tmp 5)],
 .p 23 .mv [(.tmp 0)],
 .p 24 .mv [(.tmp 7)],
 .p 25 (.ixs 1) [(.tmp 23), (.tmp 24)],
 .ld 26 (.tmp 25),
 .call (some 27) f_slices_Clone [(.tmp 26)],
 .bsl 28 tBytes 1 [(.slice none 0 0)] [(0, 1)] [(.tmp 27)],
 .app 29 #[tRows, tRows] tRows (.tmp 22) (.tmp 28),
 .p 5 .mv [(.tmp 29)]])))) (
 .ops [
 .p 30 (.bin .add) [(.tmp 10), (.const (.int .i64 1))],
 .p 10 .mv [(.tmp 30)]]))))))) (
 .seq (
 .ops [
 .p 31 .mv [(.tmp 5)],
 .p 4 .mv [(.tmp 31)]]) (
 .ret))))⟩

theorem c_matrix_Rows : trF Try.prog f_matrix_Rows = some m_matrix_Rows := by kernel_rfl
-- 45 shardlog/shardloglaw05.awake; slots [(1, s), (2, l), (3, e), (4, v), (5, f), (6, b), (7, g), (8, _), (9, h)]
noncomputable def m_law05_awake : MF := ⟨82, [.t 0],
 .seq (
 .ops [
 .p 0 .mv [(.const (.bool false))]]) (
 .seq (
 .ops [
 .p 10 (.build [(.int .i64 0), (.int .i64 0)] [(0, 1), (1, 1)]) [(.const (.int .i64 2)), (.const (.int .i64 1))],
 .new 1 t_api_Shape [(.int .i64 0), (.int .i64 0)],
 .st 2 true (.tmp 1) (.tmp 10)]) (
 .seq (
 .ops [
 .ldn 12 2 (.tmp 1),
 .call (some 13) f_code_Encode [(.tmp 12), (.const (.string ⟨#[104, 101, 108, 108, 111]⟩))],
 .p 11 .mv [(.tmp 13)],
 .p 14 (.ext 0) [(.tmp 11)],
 .p 15 (.ext 1) [(.tmp 11)],
 .p 2 .mv [(.tmp 14)],
 .p 3 .mv [(.tmp 15)]]) (
 .seq (
 .seq (
 .ops [
 .p 16 .mv [(.tmp 3)],
 .p 17 (.bin .neq) [(.tmp 16), (.const (.int .i64 0))],
 .p 18 .mv [(.tmp 17)],
 .gd 18 false (some 19) (.p 19 .mv [(.tmp 2)]),
 .gd 18 false (some 20) (.p 20 .len [(.tmp 19)]),
 .gd 18 false (some 21) (.p 21 (.bin .neq) [(.tmp 20), (.const (.int .i64 4))]),
 .p 22 .pick [(.tmp 18), (.const (.bool true)), (.tmp 21)]]) (
 .cond (.tmp 22) (
 .seq (
 .ops [
 .p 0 .mv [(.const (.bool false))]]) (
 .ret)) (
 .skip))) (
 .seq (
 .dr [
 ⟨.ldn 24 2 (.tmp 1), []⟩,
 ⟨.p 25 .mv [(.tmp 2)], []⟩,
 ⟨.p 26 (.ixs 1) [(.tmp 25), (.const (.int .i64 1))], []⟩,
 ⟨.ld 27 (.tmp 26), []⟩,
 ⟨.p 28 .mv [(.tmp 2)], []⟩,
 ⟨.p 29 (.ixs 1) [(.tmp 28), (.const (.int .i64 3))], []⟩,
 ⟨.ld 30 (.tmp 29), []⟩,
 ⟨.bsl 31 tBytes 4 [(.slice none 0 0), (.slice none 0 0), (.slice none 0 0), (.slice none 0 0)] [(0, 1), (1, 1), (2, 1), (3, 1)] [(.const (.slice none 0 0)), (.tmp 27), (.const (.slice none 0 0)), (.tmp 30)], [.ldn 24 2 (.tmp 1)]⟩,
 ⟨.call (some 32) f_code_Decode [(.tmp 24), (.tmp 31)], []⟩,
 ⟨.p 23 .mv [(.tmp 32)], []⟩,
 ⟨.p 33 (.ext 0) [(.tmp 23)], []⟩,
 ⟨.p 34 (.ext 1) [(.tmp 23)], []⟩,
 ⟨.p 4 .mv [(.tmp 33)], []⟩,
 ⟨.p 5 .mv [(.tmp 34)], []⟩]) (
 .seq (
 .dr [
 ⟨.ldn 36 2 (.tmp 1), []⟩,
 ⟨.p 37 .mv [(.tmp 2)], []⟩,
 ⟨.p 38 (.ixs 1) [(.tmp 37), (.const (.int .i64 1))], []⟩,
 ⟨.ld 39 (.tmp 38), []⟩,
 ⟨.p 40 .mv [(.tmp 2)], []⟩,
 ⟨.p 41 (.ixs 1) [(.tmp 40), (.const (.int .i64 3))], []⟩,
 ⟨.ld 42 (.tmp 41), []⟩,
 ⟨.bsl 43 tBytes 4 [(.slice none 0 0), (.slice none 0 0), (.slice none 0 0), (.slice none 0 0)] [(0, 1), (1, 1), (2, 1), (3, 1)] [(.const (.slice none 0 0)), (.tmp 39), (.const (.slice none 0 0)), (.tmp 42)], [.ldn 36 2 (.tmp 1)]⟩,
 ⟨.call (some 44) f_code_Rebuild [(.tmp 36), (.tmp 43), (.const (.int .i64 2))], []⟩,
 ⟨.p 35 .mv [(.tmp 44)], []⟩,
 ⟨.p 45 (.ext 0) [(.tmp 35)], []⟩,
 ⟨.p 46 (.ext 1) [(.tmp 35)], []⟩,
 ⟨.p 6 .mv [(.tmp 45)], []⟩,
 ⟨.p 7 .mv [(.tmp 46)], []⟩]) (
 .seq (
 .dr [
 ⟨.ldn 48 2 (.tmp 1), []⟩,
 ⟨.p 49 .mv [(.tmp 2)], []⟩,
 ⟨.p 50 (.ixs 1) [(.tmp 49), (.const (.int .i64 0))], []⟩,
 ⟨.ld 51 (.tmp 50), []⟩,
 ⟨.bsl 52 tBytes 4 [(.slice none 0 0), (.slice none 0 0), (.slice none 0 0), (.slice none 0 0)] [(0, 1), (1, 1), (2, 1), (3, 1)] [(.tmp 51), (.const (.slice none 0 0)), (.const (.slice none 0 0)), (.const (.slice none 0 0))], [.ldn 48 2 (.tmp 1)]⟩,
 ⟨.call (some 53) f_code_Decode [(.tmp 48), (.tmp 52)], []⟩,
 ⟨.p 47 .mv [(.tmp 53)], []⟩,
 ⟨.p 54 (.ext 0) [(.tmp 47)], []⟩,
 ⟨.p 55 (.ext 1) [(.tmp 47)], []⟩,
 ⟨.p 8 .mv [(.tmp 54)], []⟩,
 ⟨.p 9 .mv [(.tmp 55)], []⟩]) (
 .seq (
 .ops [
 .p 56 .mv [(.tmp 5)],
 .p 57 (.bin .eql) [(.tmp 56), (.const (.int .i64 0))],
 .p 58 .mv [(.tmp 57)],
 .gd 58 true (some 59) (.p 59 .mv [(.tmp 4)]),
 .gd 58 true (some 60) (.p 60 (.bin .eql) [(.tmp 59), (.const (.string ⟨#[104, 101, 108, 108, 111]⟩))]),
 .p 61 .pick [(.tmp 58), (.tmp 60), (.const (.bool false))],
 .p 62 .mv [(.tmp 61)],
 .gd 62 true (some 63) (.p 63 .mv [(.tmp 7)]),
 .gd 62 true (some 64) (.p 64 (.bin .eql) [(.tmp 63), (.const (.int .i64 0))]),
 .p 65 .pick [(.tmp 62), (.tmp 64), (.const (.bool false))],
 .p 66 .mv [(.tmp 65)],
 .gd 66 true (some 67) (.p 67 .mv [(.tmp 6)]),
 .gd 66 true (some 68) (.p 68 .mv [(.tmp 2)]),
 .gd 66 true (some 69) (.p 69 (.ixs 1) [(.tmp 68), (.const (.int .i64 2))]),
 .gd 66 true (some 70) (.ld 70 (.tmp 69)),
 .gd 66 true (some 71) (.call (some 71) f_ref01_Same [(.tmp 67), (.tmp 70)]),
 .p 72 .pick [(.tmp 66), (.tmp 71), (.const (.bool false))],
 .p 73 .mv [(.tmp 72)],
 .gd 73 true (some 74) (.p 74 .mv [(.tmp 9)]),
 .gd 73 true (some 75) (.p 75 (.bin .eql) [(.tmp 74), (.const (.int .i64 3))]),
 .p 76 .pick [(.tmp 73), (.tmp 75), (.const (.bool false))],
 .p 77 .mv [(.tmp 76)],
 .gd 77 true (some 78) (.ldn 78 2 (.tmp 1)),
 .gd 77 true (some 79) (.call (some 79) f_code_N [(.tmp 78)]),
 .gd 77 true (some 80) (.p 80 (.bin .eql) [(.tmp 79), (.const (.int .i64 4))]),
 .p 81 .pick [(.tmp 77), (.tmp 80), (.const (.bool false))],
 .p 0 .mv [(.tmp 81)]]) (
 .ret))))))))⟩

theorem c_law05_awake : trF Try.prog f_law05_awake = some m_law05_awake := by kernel_rfl
end Go.Proofs.Ytgpkbldlkadnjaa
end
section
/- Functions of the program in the small code (printed by wip/tool/Print.lean and mkmf2.py of this repo), each with its equation, held by the kernel. -/
set_option linter.unusedVariables false
namespace Go.Proofs.Ytgpkbldlkadnjaa
open Go Go.Sl
-- 46 shardlog/code.Encode; slots [(0, s), (1, v), (2, s), (3, v)]
noncomputable def m_code_Encode : MF := ⟨24, [.t 4, .t 5],
 .seq (
 .ops [
 .box 2 t_api_Shape (.tmp 0),
 .p 4 .mv [(.const (.slice none 0 0))],
 .p 5 .mv [(.const (.int .i64 0))]]) (
 .seq (
 .block 0 (
 .seq (
 .ops [
 .ldn 7 2 (.tmp 2),
 .call (some 8) f_code_Right [(.tmp 7)],
 .p 9 .not [(.tmp 8)],
 .p 6 .mv [(.tmp 9)]]) (
 .cond (.tmp 6) (
 .seq (
 .ops [
 .p 4 .mv [(.const (.slice none 0 0))],
 .p 5 .mv [(.const (.int .i64 1))]]) (
 .ret)) (
 .seq (
 .ops [
 .p 11 .mv [(.tmp 1)],
 .p 12 .lens [(.tmp 11)],
 .p 13 (.bin .gtr) [(.tmp 12), (.const (.int .i64 512))],
 .p 10 .mv [(.tmp 13)]]) (
 .cond (.tmp 10) (
 .seq (
 .ops [
 .p 4 .mv [(.const (.slice none 0 0))],
 .p 5 .mv [(.const (.int .i64 7))]]) (
 .ret)) (
 .skip)))))) (
 .seq (
 .dr [
 ⟨.p 14 (.fad 0) [(.tmp 2)], []⟩,
 ⟨.ld 15 (.tmp 14), []⟩,
 ⟨.ldn 16 2 (.tmp 2), []⟩,
 ⟨.p 19 (.fad 0) [(.tmp 2)], []⟩,
 ⟨.ld 20 (.tmp 19), []⟩,
 ⟨.p 21 .mv [(.tmp 1)], []⟩,
 ⟨.call (some 17) f_code_N [(.tmp 16)], [.ld 20 (.tmp 19), .ld 15 (.tmp 14)]⟩,
 ⟨.call (some 18) f_matrix_Coding [(.tmp 15), (.tmp 17)], [.ld 20 (.tmp 19)]⟩,
 ⟨.call (some 22) f_code_pieces [(.tmp 20), (.tmp 21)], []⟩,
 ⟨.call (some 23) f_matrix_Mul [(.tmp 18), (.tmp 22)], []⟩,
 ⟨.p 4 .mv [(.tmp 23)], []⟩,
 ⟨.p 5 .mv [(.const (.int .i64 0))], []⟩]) (
 .ret)))⟩

theorem c_code_Encode : trF Try.prog f_code_Encode = some m_code_Encode := by kernel_rfl
-- 47 shardlog/code.Right; slots [(0, s), (1, s)]
noncomputable def m_code_Right : MF := ⟨30, [.t 2],
 .seq (
 .ops [
 .box 1 t_api_Shape (.tmp 0),
 .p 2 .mv [(.const (.bool false))]]) (
 .seq (
 .ops [
 .p 3 (.fad 0) [(.tmp 1)],
 .ld 4 (.tmp 3),
 .p 5 (.bin .geq) [(.tmp 4), (.const (.int .i64 1))],
 .p 6 .mv [(.tmp 5)],
 .gd 6 true (some 7) (.p 7 (.fad 0) [(.tmp 1)]),
 .gd 6 true (some 8) (.ld 8 (.tmp 7)),
 .gd 6 true (some 9) (.p 9 (.bin .leq) [(.tmp 8), (.const (.int .i64 7))]),
 .p 10 .pick [(.tmp 6), (.tmp 9), (.const (.bool false))],
 .p 11 .mv [(.tmp 10)],
 .gd 11 true (some 12) (.p 12 (.fad 1) [(.tmp 1)]),
 .gd 11 true (some 13) (.ld 13 (.tmp 12)),
 .gd 11 true (some 14) (.p 14 (.bin .geq) [(.tmp 13), (.const (.int .i64 0))]),
 .p 15 .pick [(.tmp 11), (.tmp 14), (.const (.bool false))],
 .p 16 .mv [(.tmp 15)],
 .gd 16 true (some 17) (.p 17 (.fad 1) [(.tmp 1)]),
 .gd 16 true (some 18) (.ld 18 (.tmp 17)),
 .gd 16 true (some 19) (.p 19 (.bin .leq) [(.tmp 18), (.const (.int .i64 7))]),
 .p 20 .pick [(.tmp 16), (.tmp 19), (.const (.bool false))],
 .p 21 .mv [(.tmp 20)],
 .gd 21 true (some 22) (.p 22 (.fad 0) [(.tmp 1)]),
 .gd 21 true (some 23) (.ld 23 (.tmp 22)),
 .gd 21 true (some 24) (.p 24 (.fad 1) [(.tmp 1)]),
 .gd 21 true (some 25) (.ld 25 (.tmp 24)),
 .gd 21 true (some 26) (.p 26 (.bin .mul) [(.const (.int .i64 2)), (.tmp 25)]),
 .gd 21 true (some 27) (.p 27 (.bin .add) [(.tmp 23), (.tmp 26)]),
 .gd 21 true (some 28) (.p 28 (.bin .leq) [(.tmp 27), (.const (.int .i64 7))]),
 .p 29 .pick [(.tmp 21), (.tmp 28), (.const (.bool false))],
 .p 2 .mv [(.tmp 29)]]) (
 .ret))⟩

theorem c_code_Right : trF Try.prog f_code_Right = some m_code_Right := by kernel_rfl
-- 48 shardlog/shardlogref05.Right; slots [(0, s), (1, s)]
noncomputable def m_ref05_Right : MF := ⟨32, [.t 2],
 .seq (
 .ops [
 .box 1 t_api_Shape (.tmp 0),
 .p 2 .mv [(.const (.bool false))]]) (
 .seq (
 .ops [
 .p 3 (.fad 0) [(.tmp 1)],
 .ld 4 (.tmp 3),
 .p 5 (.bin .geq) [(.tmp 4), (.const (.int .i64 1))],
 .p 6 .mv [(.tmp 5)],
 .gd 6 true (some 7) (.p 7 (.fad 0) [(.tmp 1)]),
 .gd 6 true (some 8) (.ld 8 (.tmp 7)),
 .gd 6 true (some 9) (.p 9 (.bin .leq) [(.tmp 8), (.const (.int .i64 7))]),
 .p 10 .pick [(.tmp 6), (.tmp 9), (.const (.bool false))],
 .p 11 .mv [(.tmp 10)],
 .gd 11 true (some 12) (.p 12 (.fad 1) [(.tmp 1)]),
 .gd 11 true (some 13) (.ld 13 (.tmp 12)),
 .gd 11 true (some 14) (.p 14 (.bin .geq) [(.tmp 13), (.const (.int .i64 0))]),
 .p 15 .pick [(.tmp 11), (.tmp 14), (.const (.bool false))],
 .p 16 .mv [(.tmp 15)],
 .gd 16 true (some 17) (.p 17 (.fad 1) [(.tmp 1)]),
 .gd 16 true (some 18) (.ld 18 (.tmp 17)),
 .gd 16 true (some 19) (.p 19 (.bin .leq) [(.tmp 18), (.const (.int .i64 3))]),
 .p 20 .pick [(.tmp 16), (.tmp 19), (.const (.bool false))],
 .p 21 .mv [(.tmp 20)],
 .gd 21 true (some 22) (.p 22 (.fad 0) [(.tmp 1)]),
 .gd 21 true (some 23) (.ld 23 (.tmp 22)),
 .gd 21 true (some 24) (.p 24 (.fad 1) [(.tmp 1)]),
 .gd 21 true (some 25) (.ld 25 (.tmp 24)),
 .gd 21 true (some 26) (.p 26 (.bin .add) [(.tmp 23), (.tmp 25)]),
 .gd 21 true (some 27) (.p 27 (.fad 1) [(.tmp 1)]),
 .gd 21 true (some 28) (.ld 28 (.tmp 27)),
 .gd 21 true (some 29) (.p 29 (.bin .add) [(.tmp 26), (.tmp 28)]),
 .gd 21 true (some 30) (.p 30 (.bin .leq) [(.tmp 29), (.const (.int .i64 7))]),
 .p 31 .pick [(.tmp 21), (.tmp 30), (.const (.bool false))],
 .p 2 .mv [(.tmp 31)]]) (
 .ret))⟩

theorem c_ref05_Right : trF Try.prog f_ref05_Right = some m_ref05_Right := by kernel_rfl
-- 49 shardlog/code.N; slots [(0, s), (1, s)]
noncomputable def m_code_N : MF := ⟨12, [.t 2],
 .seq (
 .ops [
 .box 1 t_api_Shape (.tmp 0),
 .p 2 .mv [(.const (.int .i64 0))]]) (
 .seq (
 .seq (
 .ops [
 .ldn 3 2 (.tmp 1),
 .call (some 4) f_code_Right [(.tmp 3)],
 .p 5 .not [(.tmp 4)]]) (
 .cond (.tmp 5) (
 .seq (
 .ops [
 .p 2 .mv [(.const (.int .i64 0))]]) (
 .ret)) (
 .skip))) (
 .seq (
 .ops [
 .p 6 (.fad 0) [(.tmp 1)],
 .ld 7 (.tmp 6),
 .p 8 (.fad 1) [(.tmp 1)],
 .ld 9 (.tmp 8),
 .p 10 (.bin .mul) [(.const (.int .i64 2)), (.tmp 9)],
 .p 11 (.bin .add) [(.tmp 7), (.tmp 10)],
 .p 2 .mv [(.tmp 11)]]) (
 .ret)))⟩

theorem c_code_N : trF Try.prog f_code_N = some m_code_N := by kernel_rfl
-- 50 shardlog/shardlogref05.N; slots [(0, s), (1, s)]
noncomputable def m_ref05_N : MF := ⟨11, [.t 2],
 .seq (
 .ops [
 .box 1 t_api_Shape (.tmp 0),
 .p 2 .mv [(.const (.int .i64 0))]]) (
 .seq (
 .ops [
 .p 3 (.fad 0) [(.tmp 1)],
 .ld 4 (.tmp 3),
 .p 5 (.fad 1) [(.tmp 1)],
 .ld 6 (.tmp 5),
 .p 7 (.bin .add) [(.tmp 4), (.tmp 6)],
 .p 8 (.fad 1) [(.tmp 1)],
 .ld 9 (.tmp 8),
 .p 10 (.bin .add) [(.tmp 7), (.tmp 9)],
 .p 2 .mv [(.tmp 10)]]) (
 .ret))⟩

theorem c_ref05_N : trF Try.prog f_ref05_N = some m_ref05_N := by kernel_rfl
-- 51 shardlog/shardlogref05.Encode; slots [(0, s), (1, v), (2, s), (3, v), (5, b), (6, n), (7, p), (8, i)]
noncomputable def m_ref05_Encode : MF := ⟨50, [.t 4],
 .seq (
 .ops [
 .box 2 t_api_Shape (.tmp 0),
 .p 4 .mv [(.const (.slice none 0 0))]]) (
 .seq (
 .ops [
 .p 9 .mv [(.tmp 1)],
 .call (some 10) f_ref01_Text [(.tmp 9)],
 .p 5 .mv [(.tmp 10)]]) (
 .seq (
 .block 0 (
 .loop (
 .seq (
 .seq (
 .ops [
 .p 11 .mv [(.tmp 5)],
 .p 12 .len [(.tmp 11)],
 .p 13 (.fad 0) [(.tmp 2)],
 .ld 14 (.tmp 13),
 .p 15 (.bin .rem) [(.tmp 12), (.tmp 14)],
 .p 16 (.bin .neq) [(.tmp 15), (.const (.int .i64 0))]]) (
 .cond (.tmp 16) (
 .skip) (
 .exit 0))) (
 .block 1 (
 .ops [
 .p 17 .mv [(.tmp 5)],
 .bsl 18 tU8 1 [(.int .u8 0)] [(0, 1)] [(.const (.int .u8 0))],
 .app 19 #[tBytes, tBytes] tBytes (.tmp 17) (.tmp 18),
 .p 5 .mv [(.tmp 19)]]))))) (
 .seq (
 .ops [
 .p 20 .mv [(.tmp 5)],
 .p 21 .len [(.tmp 20)],
 .p 22 (.fad 0) [(.tmp 2)],
 .ld 23 (.tmp 22),
 .p 24 (.bin .quo) [(.tmp 21), (.tmp 23)],
 .p 6 .mv [(.tmp 24)]]) (
 .seq (
 .ops [
 .p 7 .mv [(.const (.slice none 0 0))]]) (
 .seq (
 .seq (
 .ops [
 .p 8 .mv [(.const (.int .i64 0))]]) (
 .block 2 (
 .loop (
 .seq (
 .seq (
 .ops [
 .p 25 .mv [(.tmp 8)],
 .p 26 (.fad 0) [(.tmp 2)],
 .ld 27 (.tmp 26),
 .p 28 (.bin .lss) [(.tmp 25), (.tmp 27)]]) (
 .cond (.tmp 28) (
 .skip) (
 .exit 2))) (
 .seq (
 .block 3 (
 .ops [
 .p 31 .mv [(.tmp 7)],
 .p 32 .mv [(.tmp 5)],
 .p 33 .mv [(.tmp 8)],
 .p 34 .mv [(.tmp 6)],
 .p 35 (.bin .mul) [(.tmp 33), (.tmp 34)],
 .p 36 .mv [(.tmp 8)],
 .p 37 (.bin .add) [(.tmp 36), (.const (.int .i64 1))],
 .p 38 .mv [(.tmp 6)],
 .p 39 (.bin .mul) [(.tmp 37), (.tmp 38)],
 .p 40 (.sls 1 true true false) [(.tmp 32), (.tmp 35), (.tmp 39)],
 .bsl 41 tBytes 1 [(.slice none 0 0)] [(0, 1)] [(.tmp 40)],
 .app 42 #[tRows, tRows] tRows (.tmp 31) (.tmp 41),
 .p 7 .mv [(.tmp 42)]])) (
 .ops [
 .p 29 .mv [(.tmp 8)],
 .p 30 (.bin .add) [(.tmp 29), (.const (.int .i64 1))],
 .p 8 .mv [(.tmp 30)]])))))) (
 .seq (
 .dr [
 ⟨.p 43 (.fad 0) [(.tmp 2)], []⟩,
 ⟨.ld 44 (.tmp 43), []⟩,
 ⟨.ldn 45 2 (.tmp 2), []⟩,
 ⟨.p 48 .mv [(.tmp 7)], []⟩,
 ⟨.call (some 46) f_ref05_N [(.tmp 45)], [.ld 44 (.tmp 43)]⟩,
 ⟨.call (some 47) f_ref04_Coding [(.tmp 44), (.tmp 46)], []⟩,
 ⟨.call (some 49) f_ref04_Mul [(.tmp 47), (.tmp 48)], []⟩,
 ⟨.p 4 .mv [(.tmp 49)], []⟩]) (
 .ret)))))))⟩

theorem c_ref05_Encode : trF Try.prog f_ref05_Encode = some m_ref05_Encode := by kernel_rfl
-- 52 shardlog/shardlogref05.Shape; slots [(0, a), (1, b), (2, a), (3, b), (5, f)]
noncomputable def m_ref05_Shape : MF := ⟨18, [.cn 4 2],
 .seq (
 .ops [
 .new 4 t_api_Shape [(.int .i64 0), (.int .i64 0)]]) (
 .seq (
 .ops [
 .p 6 .mv [(.tmp 1)],
 .p 7 (.bin .rem) [(.tmp 6), (.const (.int .u8 4))],
 .p 8 (.conv .i64) [(.tmp 7)],
 .p 5 .mv [(.tmp 8)]]) (
 .seq (
 .ops [
 .p 9 .mv [(.tmp 0)],
 .p 10 (.conv .i64) [(.tmp 9)],
 .p 11 .mv [(.tmp 5)],
 .p 12 (.bin .mul) [(.const (.int .i64 2)), (.tmp 11)],
 .p 13 (.bin .sub) [(.const (.int .i64 7)), (.tmp 12)],
 .p 14 (.bin .rem) [(.tmp 10), (.tmp 13)],
 .p 15 (.bin .add) [(.const (.int .i64 1)), (.tmp 14)],
 .p 16 .mv [(.tmp 5)],
 .p 17 (.build [(.int .i64 0), (.int .i64 0)] [(0, 1), (1, 1)]) [(.tmp 15), (.tmp 16)],
 .st 2 true (.tmp 4) (.tmp 17)]) (
 .ret)))⟩

theorem c_ref05_Shape : trF Try.prog f_ref05_Shape = some m_ref05_Shape := by kernel_rfl
-- 53 shardlog/shardlogref05.Without; slots [(0, l), (1, bits), (2, l), (3, bits), (5, out), (6, i)]
noncomputable def m_ref05_Without : MF := ⟨32, [.t 4],
 .seq (
 .ops [
 .p 4 .mv [(.const (.slice none 0 0))]]) (
 .seq (
 .ops [
 .p 5 .mv [(.const (.slice none 0 0))]]) (
 .seq (
 .seq (
 .ops [
 .p 6 .mv [(.const (.int .i64 0))]]) (
 .block 0 (
 .loop (
 .seq (
 .seq (
 .ops [
 .p 7 .mv [(.tmp 6)],
 .p 8 .mv [(.tmp 0)],
 .p 9 .len [(.tmp 8)],
 .p 10 (.bin .lss) [(.tmp 7), (.tmp 9)]]) (
 .cond (.tmp 10) (
 .skip) (
 .exit 0))) (
 .seq (
 .block 1 (
 .seq (
 .ops [
 .p 13 .mv [(.tmp 1)],
 .p 14 .mv [(.tmp 6)],
 .p 15 (.conv .u64) [(.tmp 14)],
 .p 16 (.bin .shr) [(.tmp 13), (.tmp 15)],
 .p 17 (.bin .and) [(.tmp 16), (.const (.int .u8 1))],
 .p 18 (.bin .eql) [(.tmp 17), (.const (.int .u8 1))]]) (
 .cond (.tmp 18) (
 .ops [
 .p 19 .mv [(.tmp 5)],
 .bsl 20 tBytes 1 [(.slice none 0 0)] [(0, 1)] [(.const (.slice none 0 0))],
 .app 21 #[tRows, tRows] tRows (.tmp 19) (.tmp 20),
 .p 5 .mv [(.tmp 21)]]) (
 .ops [
 .p 22 .mv [(.tmp 5)],
 .bsl 23 tU8 0 [] [] [],
 .p 24 .mv [(.tmp 0)],
 .p 25 .mv [(.tmp 6)],
 .p 26 (.ixs 1) [(.tmp 24), (.tmp 25)],
 .ld 27 (.tmp 26),
 .app 28 #[tBytes, tBytes] tBytes (.tmp 23) (.tmp 27),
 .bsl 29 tBytes 1 [(.slice none 0 0)] [(0, 1)] [(.tmp 28)],
 .app 30 #[tRows, tRows] tRows (.tmp 22) (.tmp 29),
 .p 5 .mv [(.tmp 30)]])))) (
 .ops [
 .p 11 .mv [(.tmp 6)],
 .p 12 (.bin .add) [(.tmp 11), (.const (.int .i64 1))],
 .p 6 .mv [(.tmp 12)]])))))) (
 .seq (
 .ops [
 .p 31 .mv [(.tmp 5)],
 .p 4 .mv [(.tmp 31)]]) (
 .ret))))⟩

theorem c_ref05_Without : trF Try.prog f_ref05_Without = some m_ref05_Without := by kernel_rfl
-- 54 shardlog/code.Decode; slots [(0, s), (1, l), (2, s), (3, l), (6, at), (7, first), (8, x), (9, ok), (10, v)]
noncomputable def m_code_Decode : MF := ⟨70, [.t 4, .t 5],
 .seq (
 .ops [
 .box 2 t_api_Shape (.tmp 0),
 .p 4 .mv [(.const (.string .empty))],
 .p 5 .mv [(.const (.int .i64 0))]]) (
 .seq (
 .seq (
 .ops [
 .ldn 11 2 (.tmp 2),
 .call (some 12) f_code_Right [(.tmp 11)],
 .p 13 .not [(.tmp 12)],
 .p 14 .mv [(.tmp 13)],
 .gd 14 false (some 15) (.p 15 .mv [(.tmp 1)]),
 .gd 14 false (some 16) (.p 16 .len [(.tmp 15)]),
 .gd 14 false (some 17) (.ldn 17 2 (.tmp 2)),
 .gd 14 false (some 18) (.call (some 18) f_code_N [(.tmp 17)]),
 .gd 14 false (some 19) (.p 19 (.bin .neq) [(.tmp 16), (.tmp 18)]),
 .p 20 .pick [(.tmp 14), (.const (.bool true)), (.tmp 19)]]) (
 .cond (.tmp 20) (
 .seq (
 .ops [
 .p 4 .mv [(.const (.string .empty))],
 .p 5 .mv [(.const (.int .i64 1))]]) (
 .ret)) (
 .skip))) (
 .seq (
 .ops [
 .p 21 .mv [(.tmp 1)],
 .call (some 22) f_code_there [(.tmp 21)],
 .p 6 .mv [(.tmp 22)]]) (
 .seq (
 .seq (
 .ops [
 .p 23 .mv [(.tmp 6)],
 .p 24 .len [(.tmp 23)],
 .p 25 (.fad 0) [(.tmp 2)],
 .ld 26 (.tmp 25),
 .p 27 (.bin .lss) [(.tmp 24), (.tmp 26)]]) (
 .cond (.tmp 27) (
 .seq (
 .ops [
 .p 4 .mv [(.const (.string .empty))],
 .p 5 .mv [(.const (.int .i64 3))]]) (
 .ret)) (
 .skip))) (
 .seq (
 .ops [
 .p 28 .mv [(.tmp 1)],
 .p 29 .mv [(.tmp 6)],
 .p 30 (.fad 0) [(.tmp 2)],
 .ld 31 (.tmp 30),
 .p 32 (.sls 1 false true false) [(.tmp 29), (.tmp 31)],
 .call (some 33) f_matrix_Rows [(.tmp 28), (.tmp 32)],
 .p 7 .mv [(.tmp 33)]]) (
 .seq (
 .seq (
 .ops [
 .p 34 .mv [(.tmp 7)],
 .call (some 35) f_matrix_Right [(.tmp 34)],
 .p 36 .not [(.tmp 35)]]) (
 .cond (.tmp 36) (
 .seq (
 .ops [
 .p 4 .mv [(.const (.string .empty))],
 .p 5 .mv [(.const (.int .i64 2))]]) (
 .ret)) (
 .skip))) (
 .seq (
 .dr [
 ⟨.p 38 (.fad 0) [(.tmp 2)], []⟩,
 ⟨.ld 39 (.tmp 38), []⟩,
 ⟨.ldn 40 2 (.tmp 2), []⟩,
 ⟨.p 43 .mv [(.tmp 6)], []⟩,
 ⟨.p 44 (.fad 0) [(.tmp 2)], []⟩,
 ⟨.ld 45 (.tmp 44), []⟩,
 ⟨.p 46 (.sls 1 false true false) [(.tmp 43), (.tmp 45)], []⟩,
 ⟨.call (some 41) f_code_N [(.tmp 40)], [.ld 45 (.tmp 44), .ld 39 (.tmp 38)]⟩,
 ⟨.call (some 42) f_matrix_Coding [(.tmp 39), (.tmp 41)], [.ld 45 (.tmp 44)]⟩,
 ⟨.call (some 47) f_matrix_Rows [(.tmp 42), (.tmp 46)], [.ld 45 (.tmp 44)]⟩,
 ⟨.call (some 48) f_matrix_Invert [(.tmp 47)], [.ld 45 (.tmp 44)]⟩,
 ⟨.p 37 .mv [(.tmp 48)], []⟩,
 ⟨.p 49 (.ext 0) [(.tmp 37)], []⟩,
 ⟨.p 50 (.ext 1) [(.tmp 37)], []⟩,
 ⟨.p 8 .mv [(.tmp 49)], []⟩,
 ⟨.p 9 .mv [(.tmp 50)], []⟩]) (
 .seq (
 .seq (
 .ops [
 .p 51 .mv [(.tmp 9)],
 .p 52 .not [(.tmp 51)]]) (
 .cond (.tmp 52) (
 .seq (
 .ops [
 .p 4 .mv [(.const (.string .empty))],
 .p 5 .mv [(.const (.int .i64 2))]]) (
 .ret)) (
 .skip))) (
 .seq (
 .ops [
 .p 54 .mv [(.tmp 8)],
 .p 55 .mv [(.tmp 7)],
 .call (some 56) f_matrix_Mul [(.tmp 54), (.tmp 55)],
 .call (some 57) f_code_value [(.tmp 56)],
 .p 53 .mv [(.tmp 57)],
 .p 58 (.ext 0) [(.tmp 53)],
 .p 59 (.ext 1) [(.tmp 53)],
 .p 10 .mv [(.tmp 58)],
 .p 9 .mv [(.tmp 59)]]) (
 .seq (
 .seq (
 .ops [
 .p 60 .mv [(.tmp 9)],
 .p 61 .not [(.tmp 60)],
 .p 62 .mv [(.tmp 61)],
 .gd 62 false (some 63) (.ldn 63 2 (.tmp 2)),
 .gd 62 false (some 64) (.p 64 .mv [(.tmp 10)]),
 .gd 62 false (some 65) (.p 65 .mv [(.tmp 1)]),
 .gd 62 false (some 66) (.call (some 66) f_code_agrees [(.tmp 63), (.tmp 64), (.tmp 65)]),
 .gd 62 false (some 67) (.p 67 .not [(.tmp 66)]),
 .p 68 .pick [(.tmp 62), (.const (.bool true)), (.tmp 67)]]) (
 .cond (.tmp 68) (
 .seq (
 .ops [
 .p 4 .mv [(.const (.string .empty))],
 .p 5 .mv [(.const (.int .i64 2))]]) (
 .ret)) (
 .skip))) (
 .seq (
 .ops [
 .p 69 .mv [(.tmp 10)],
 .p 4 .mv [(.tmp 69)],
 .p 5 .mv [(.const (.int .i64 0))]]) (
 .ret)))))))))))⟩

theorem c_code_Decode : trF Try.prog f_code_Decode = some m_code_Decode := by kernel_rfl
-- 55 shardlog/shardlogref05.There; slots [(0, l), (1, l), (3, n), (4, i)]
noncomputable def m_ref05_There : MF := ⟨20, [.t 2],
 .seq (
 .ops [
 .p 2 .mv [(.const (.int .i64 0))]]) (
 .seq (
 .ops [
 .p 3 .mv [(.const (.int .i64 0))]]) (
 .seq (
 .seq (
 .ops [
 .p 4 .mv [(.const (.int .i64 0))]]) (
 .block 0 (
 .loop (
 .seq (
 .seq (
 .ops [
 .p 5 .mv [(.tmp 4)],
 .p 6 .mv [(.tmp 0)],
 .p 7 .len [(.tmp 6)],
 .p 8 (.bin .lss) [(.tmp 5), (.tmp 7)]]) (
 .cond (.tmp 8) (
 .skip) (
 .exit 0))) (
 .seq (
 .block 1 (
 .seq (
 .ops [
 .p 11 .mv [(.tmp 0)],
 .p 12 .mv [(.tmp 4)],
 .p 13 (.ixs 1) [(.tmp 11), (.tmp 12)],
 .ld 14 (.tmp 13),
 .p 15 .len [(.tmp 14)],
 .p 16 (.bin .gtr) [(.tmp 15), (.const (.int .i64 0))]]) (
 .cond (.tmp 16) (
 .ops [
 .p 17 .mv [(.tmp 3)],
 .p 18 (.bin .add) [(.tmp 17), (.const (.int .i64 1))],
 .p 3 .mv [(.tmp 18)]]) (
 .skip)))) (
 .ops [
 .p 9 .mv [(.tmp 4)],
 .p 10 (.bin .add) [(.tmp 9), (.const (.int .i64 1))],
 .p 4 .mv [(.tmp 10)]])))))) (
 .seq (
 .ops [
 .p 19 .mv [(.tmp 3)],
 .p 2 .mv [(.tmp 19)]]) (
 .ret))))⟩

theorem c_ref05_There : trF Try.prog f_ref05_There = some m_ref05_There := by kernel_rfl
-- 56 shardlog/code.Rebuild; slots [(0, s), (1, l), (2, i), (3, s), (4, l), (5, i), (8, v), (9, e), (10, all)]
noncomputable def m_code_Rebuild : MF := ⟨46, [.t 6, .t 7],
 .seq (
 .ops [
 .box 3 t_api_Shape (.tmp 0),
 .p 6 .mv [(.const (.slice none 0 0))],
 .p 7 .mv [(.const (.int .i64 0))]]) (
 .seq (
 .seq (
 .ops [
 .ldn 11 2 (.tmp 3),
 .call (some 12) f_code_Right [(.tmp 11)],
 .p 13 .not [(.tmp 12)],
 .p 14 .mv [(.tmp 13)],
 .gd 14 false (some 15) (.p 15 .mv [(.tmp 2)]),
 .gd 14 false (some 16) (.p 16 (.bin .lss) [(.tmp 15), (.const (.int .i64 0))]),
 .p 17 .pick [(.tmp 14), (.const (.bool true)), (.tmp 16)],
 .p 18 .mv [(.tmp 17)],
 .gd 18 false (some 19) (.p 19 .mv [(.tmp 2)]),
 .gd 18 false (some 20) (.ldn 20 2 (.tmp 3)),
 .gd 18 false (some 21) (.call (some 21) f_code_N [(.tmp 20)]),
 .gd 18 false (some 22) (.p 22 (.bin .geq) [(.tmp 19), (.tmp 21)]),
 .p 23 .pick [(.tmp 18), (.const (.bool true)), (.tmp 22)]]) (
 .cond (.tmp 23) (
 .seq (
 .ops [
 .p 6 .mv [(.const (.slice none 0 0))],
 .p 7 .mv [(.const (.int .i64 1))]]) (
 .ret)) (
 .skip))) (
 .seq (
 .ops [
 .ldn 25 2 (.tmp 3),
 .p 26 .mv [(.tmp 1)],
 .call (some 27) f_code_Decode [(.tmp 25), (.tmp 26)],
 .p 24 .mv [(.tmp 27)],
 .p 28 (.ext 0) [(.tmp 24)],
 .p 29 (.ext 1) [(.tmp 24)],
 .p 8 .mv [(.tmp 28)],
 .p 9 .mv [(.tmp 29)]]) (
 .seq (
 .seq (
 .ops [
 .p 30 .mv [(.tmp 9)],
 .p 31 (.bin .neq) [(.tmp 30), (.const (.int .i64 0))]]) (
 .cond (.tmp 31) (
 .seq (
 .ops [
 .p 32 .mv [(.tmp 9)],
 .p 6 .mv [(.const (.slice none 0 0))],
 .p 7 .mv [(.tmp 32)]]) (
 .ret)) (
 .skip))) (
 .seq (
 .ops [
 .ldn 34 2 (.tmp 3),
 .p 35 .mv [(.tmp 8)],
 .call (some 36) f_code_Encode [(.tmp 34), (.tmp 35)],
 .p 33 .mv [(.tmp 36)],
 .p 37 (.ext 0) [(.tmp 33)],
 .p 38 (.ext 1) [(.tmp 33)],
 .p 10 .mv [(.tmp 37)],
 .p 9 .mv [(.tmp 38)]]) (
 .seq (
 .seq (
 .ops [
 .p 39 .mv [(.tmp 9)],
 .p 40 (.bin .neq) [(.tmp 39), (.const (.int .i64 0))]]) (
 .cond (.tmp 40) (
 .seq (
 .ops [
 .p 41 .mv [(.tmp 9)],
 .p 6 .mv [(.const (.slice none 0 0))],
 .p 7 .mv [(.tmp 41)]]) (
 .ret)) (
 .skip))) (
 .seq (
 .ops [
 .p 42 .mv [(.tmp 10)],
 .p 43 .mv [(.tmp 2)],
 .p 44 (.ixs 1) [(.tmp 42), (.tmp 43)],
 .ld 45 (.tmp 44),
 .p 6 .mv [(.tmp 45)],
 .p 7 .mv [(.const (.int .i64 0))]]) (
 .ret)))))))⟩

theorem c_code_Rebuild : trF Try.prog f_code_Rebuild = some m_code_Rebuild := by kernel_rfl
-- 57 shardlog/shardlogref01.Same; slots [(0, a), (1, b), (2, a), (3, b)]
noncomputable def m_ref01_Same : MF := ⟨10, [.t 4],
 .seq (
 .ops [
 .p 4 .mv [(.const (.bool false))]]) (
 .seq (
 .ops [
 .p 5 .mv [(.tmp 0)],
 .bs 6 (.tmp 5),
 .p 7 .mv [(.tmp 1)],
 .bs 8 (.tmp 7),
 .p 9 (.bin .eql) [(.tmp 6), (.tmp 8)],
 .p 4 .mv [(.tmp 9)]]) (
 .ret))⟩

theorem c_ref01_Same : trF Try.prog f_ref01_Same = some m_ref01_Same := by kernel_rfl
-- 58 shardlog/shardlogref05.Agrees; slots [(0, s), (1, v), (2, l), (3, s), (4, v), (5, l), (7, all), (8, i)]
noncomputable def m_ref05_Agrees : MF := ⟨36, [.t 6],
 .seq (
 .ops [
 .box 3 t_api_Shape (.tmp 0),
 .p 6 .mv [(.const (.bool false))]]) (
 .seq (
 .ops [
 .ldn 9 2 (.tmp 3),
 .p 10 .mv [(.tmp 1)],
 .call (some 11) f_ref05_Encode [(.tmp 9), (.tmp 10)],
 .p 7 .mv [(.tmp 11)]]) (
 .seq (
 .seq (
 .ops [
 .p 8 .mv [(.const (.int .i64 0))]]) (
 .block 0 (
 .loop (
 .seq (
 .seq (
 .ops [
 .p 12 .mv [(.tmp 8)],
 .p 13 .mv [(.tmp 2)],
 .p 14 .len [(.tmp 13)],
 .p 15 (.bin .lss) [(.tmp 12), (.tmp 14)]]) (
 .cond (.tmp 15) (
 .skip) (
 .exit 0))) (
 .seq (
 .block 1 (
 .seq (
 .dr [
 ⟨.p 18 .mv [(.tmp 2)], []⟩,
 ⟨.p 19 .mv [(.tmp 8)], []⟩,
 ⟨.p 20 (.ixs 1) [(.tmp 18), (.tmp 19)], []⟩,
 ⟨.ld 21 (.tmp 20), []⟩,
 ⟨.p 22 .len [(.tmp 21)], []⟩,
 ⟨.p 23 (.bin .gtr) [(.tmp 22), (.const (.int .i64 0))], []⟩,
 ⟨.p 24 .mv [(.tmp 23)], []⟩,
 ⟨.gd 24 true (some 25) (.p 25 .mv [(.tmp 2)]), []⟩,
 ⟨.gd 24 true (some 26) (.p 26 .mv [(.tmp 8)]), []⟩,
 ⟨.gd 24 true (some 27) (.p 27 (.ixs 1) [(.tmp 25), (.tmp 26)]), []⟩,
 ⟨.gd 24 true (some 28) (.ld 28 (.tmp 27)), []⟩,
 ⟨.gd 24 true (some 29) (.p 29 .mv [(.tmp 7)]), []⟩,
 ⟨.gd 24 true (some 30) (.p 30 .mv [(.tmp 8)]), []⟩,
 ⟨.gd 24 true (some 31) (.p 31 (.ixs 1) [(.tmp 29), (.tmp 30)]), []⟩,
 ⟨.gd 24 true (some 32) (.ld 32 (.tmp 31)), []⟩,
 ⟨.gd 24 true (some 33) (.call (some 33) f_ref01_Same [(.tmp 28), (.tmp 32)]), [.ld 21 (.tmp 20)]⟩,
 ⟨.gd 24 true (some 34) (.p 34 .not [(.tmp 33)]), []⟩,
 ⟨.p 35 .pick [(.tmp 24), (.tmp 34), (.const (.bool false))], []⟩]) (
 .cond (.tmp 35) (
 .seq (
 .ops [
 .p 6 .mv [(.const (.bool false))]]) (
 .ret)) (
 .skip)))) (
 .ops [
 .p 16 .mv [(.tmp 8)],
 .p 17 (.bin .add) [(.tmp 16), (.const (.int .i64 1))],
 .p 8 .mv [(.tmp 17)]])))))) (
 .seq (
 .ops [
 .p 6 .mv [(.const (.bool true))]]) (
 .ret))))⟩

theorem c_ref05_Agrees : trF Try.prog f_ref05_Agrees = some m_ref05_Agrees := by kernel_rfl
-- 115 slices.ContainsFunc[[][]byte,[]byte]; slots [(0, s), (1, f), (2, s), (3, f)]
noncomputable def m_slices_ContainsFunc : MF := ⟨9, [.t 4],
 .seq (
 .ops [
 .p 4 .mv [(.const (.bool false))]]) (
 .seq (
 .ops [
 .p 5 .mv [(.tmp 0)],
 .p 6 .mv [(.tmp 1)],
 .call (some 7) f_slices_IndexFunc [(.tmp 5), (.tmp 6)],
 .p 8 (.bin .geq) [(.tmp 7), (.const (.int .i64 0))],
 .p 4 .mv [(.tmp 8)]]) (
 .ret))⟩

theorem c_slices_ContainsFunc : trF Try.prog f_slices_ContainsFunc = some m_slices_ContainsFunc := by kernel_rfl
-- 116 shardlog/matrix.Right$1; slots [(0, r), (2, r)]
noncomputable def m_matrix_Right_1 : MF := ⟨11, [.t 3],
 .seq (
 .ops [
 .p 3 .mv [(.const (.bool false))]]) (
 .seq (
 .ops [
 .p 4 .mv [(.tmp 0)],
 .p 5 .len [(.tmp 4)],
 .ld 6 (.tmp 1),
 .p 7 (.ixs 1) [(.tmp 6), (.const (.int .i64 0))],
 .ld 8 (.tmp 7),
 .p 9 .len [(.tmp 8)],
 .p 10 (.bin .neq) [(.tmp 5), (.tmp 9)],
 .p 3 .mv [(.tmp 10)]]) (
 .ret))⟩

theorem c_matrix_Right_1 : trF Try.prog f_matrix_Right_1 = some m_matrix_Right_1 := by kernel_rfl
-- 117 shardlog/field.New; slots [(1, f), (2, x), (3, i)]
noncomputable def m_field_New : MF := ⟨30, [.t 0],
 .seq (
 .ops [
 .p 0 .mv [(.const (.pointer none))]]) (
 .seq (
 .ops [
 .p 4 (.build (List.replicate 255 (.int .u8 0) ++ List.replicate 256 (.int .i64 0)) []) [],
 .box 5 t_field_Field (.tmp 4),
 .p 1 .mv [(.tmp 5)]]) (
 .seq (
 .ops [
 .p 2 .mv [(.const (.int .i64 1))]]) (
 .seq (
 .seq (
 .ops [
 .p 6 .mv [(.const (.int .i64 0))]]) (
 .block 0 (
 .loop (
 .seq (
 .ops [
 .p 7 (.bin .lss) [(.tmp 6), (.const (.int .i64 255))]]) (
 .seq (
 .cond (.tmp 7) (
 .skip) (
 .exit 0)) (
 .seq (
 .block 1 (
 .seq (
 .ops [
 .p 8 .mv [(.tmp 6)],
 .p 3 .mv [(.tmp 8)]]) (
 .seq (
 .dr [
 ⟨.p 9 .mv [(.tmp 1)], []⟩,
 ⟨.p 10 .mv [(.tmp 3)], []⟩,
 ⟨.p 11 .mv [(.tmp 1)], []⟩,
 ⟨.p 12 .mv [(.tmp 2)], []⟩,
 ⟨.p 13 .mv [(.tmp 2)], []⟩,
 ⟨.p 14 (.conv .u8) [(.tmp 13)], []⟩,
 ⟨.p 15 .mv [(.tmp 3)], []⟩,
 ⟨.p 16 .nilc [(.tmp 9)], []⟩,
 ⟨.p 17 (.fad 0) [(.tmp 16)], []⟩,
 ⟨.p 18 (.ixa 255 1) [(.tmp 17), (.tmp 10)], []⟩,
 ⟨.p 19 .nilc [(.tmp 11)], []⟩,
 ⟨.p 20 (.fad 255) [(.tmp 19)], []⟩,
 ⟨.st 1 false (.tmp 18) (.tmp 14), []⟩,
 ⟨.p 21 (.ixa 256 1) [(.tmp 20), (.tmp 12)], []⟩,
 ⟨.st 1 false (.tmp 21) (.tmp 15), []⟩]) (
 .seq (
 .ops [
 .p 22 .mv [(.tmp 2)],
 .p 23 (.bin .shl) [(.tmp 22), (.const (.int .u64 1))],
 .p 2 .mv [(.tmp 23)]]) (
 .seq (
 .ops [
 .p 24 .mv [(.tmp 2)],
 .p 25 (.bin .gtr) [(.tmp 24), (.const (.int .i64 255))]]) (
 .cond (.tmp 25) (
 .ops [
 .p 26 .mv [(.tmp 2)],
 .p 27 (.bin .xor) [(.tmp 26), (.const (.int .i64 285))],
 .p 2 .mv [(.tmp 27)]]) (
 .skip))))))) (
 .ops [
 .p 28 (.bin .add) [(.tmp 6), (.const (.int .i64 1))],
 .p 6 .mv [(.tmp 28)]]))))))) (
 .seq (
 .ops [
 .p 29 .mv [(.tmp 1)],
 .p 0 .mv [(.tmp 29)]]) (
 .ret)))))⟩

theorem c_field_New : trF Try.prog f_field_New = some m_field_New := by kernel_rfl
-- 118 shardlog/matrix.plus; slots [(0, a), (1, b), (2, a), (3, b), (4, i), (5, x)]
noncomputable def m_matrix_plus : MF := ⟨21, [],
 .seq (
 .ops [
 .p 6 .mv [(.tmp 1)],
 .p 7 .len [(.tmp 6)],
 .p 8 .mv [(.const (.int .i64 0))]]) (
 .block 0 (
 .loop (
 .seq (
 .ops [
 .p 9 (.bin .lss) [(.tmp 8), (.tmp 7)]]) (
 .seq (
 .cond (.tmp 9) (
 .skip) (
 .exit 0)) (
 .seq (
 .block 1 (
 .seq (
 .ops [
 .p 10 .mv [(.tmp 8)],
 .p 11 (.ixs 1) [(.tmp 6), (.tmp 8)],
 .ld 12 (.tmp 11),
 .p 4 .mv [(.tmp 10)],
 .p 5 .mv [(.tmp 12)]]) (
 .ops [
 .p 13 .mv [(.tmp 0)],
 .p 14 .mv [(.tmp 4)],
 .p 15 (.ixs 1) [(.tmp 13), (.tmp 14)],
 .ld 16 (.tmp 15),
 .p 17 .mv [(.tmp 5)],
 .p 18 (.bin .xor) [(.tmp 16), (.tmp 17)],
 .p 19 (.ixs 1) [(.tmp 13), (.tmp 14)],
 .st 1 false (.tmp 19) (.tmp 18)]))) (
 .ops [
 .p 20 (.bin .add) [(.tmp 8), (.const (.int .i64 1))],
 .p 8 .mv [(.tmp 20)]]))))))⟩

theorem c_matrix_plus : trF Try.prog f_matrix_plus = some m_matrix_plus := by kernel_rfl
-- 119 (*shardlog/field.Field).Row; slots [(0, f), (1, c), (2, b), (3, f), (4, c), (5, b), (7, times), (8, out), (9, _), (10, x)]
noncomputable def m_field_Field_Row : MF := ⟨28, [.t 6],
 .seq (
 .ops [
 .p 6 .mv [(.const (.slice none 0 0))]]) (
 .seq (
 .ops [
 .p 11 .mv [(.tmp 0)],
 .p 12 (.fn (.func f_field_Field_Mul) 1) [(.tmp 11)],
 .p 7 .mv [(.tmp 12)]]) (
 .seq (
 .ops [
 .p 8 .mv [(.const (.slice none 0 0))]]) (
 .seq (
 .seq (
 .ops [
 .p 13 .mv [(.tmp 2)],
 .p 14 .len [(.tmp 13)],
 .p 15 .mv [(.const (.int .i64 0))]]) (
 .block 0 (
 .loop (
 .seq (
 .ops [
 .p 16 (.bin .lss) [(.tmp 15), (.tmp 14)]]) (
 .seq (
 .cond (.tmp 16) (
 .skip) (
 .exit 0)) (
 .seq (
 .block 1 (
 .seq (
 .ops [
 .p 17 (.ixs 1) [(.tmp 13), (.tmp 15)],
 .ld 18 (.tmp 17),
 .p 10 .mv [(.tmp 18)]]) (
 .ops [
 .p 19 .mv [(.tmp 8)],
 .p 20 .mv [(.tmp 7)],
 .p 21 .mv [(.tmp 1)],
 .p 22 .mv [(.tmp 10)],
 .callv (some 23) (.tmp 20) [(.tmp 21), (.tmp 22)],
 .bsl 24 tU8 1 [(.int .u8 0)] [(0, 1)] [(.tmp 23)],
 .app 25 #[tBytes, tBytes] tBytes (.tmp 19) (.tmp 24),
 .p 8 .mv [(.tmp 25)]]))) (
 .ops [
 .p 26 (.bin .add) [(.tmp 15), (.const (.int .i64 1))],
 .p 15 .mv [(.tmp 26)]]))))))) (
 .seq (
 .ops [
 .p 27 .mv [(.tmp 8)],
 .p 6 .mv [(.tmp 27)]]) (
 .ret)))))⟩

theorem c_field_Field_Row : trF Try.prog f_field_Field_Row = some m_field_Field_Row := by kernel_rfl
-- 120 shardlog/shardlogref03.Mul; slots [(0, a), (1, b), (2, a), (3, b), (5, x), (6, y), (7, out), (8, i)]
noncomputable def m_ref03_Mul : MF := ⟨33, [.t 4],
 .seq (
 .ops [
 .p 4 .mv [(.const (.int .u8 0))]]) (
 .seq (
 .ops [
 .p 9 .mv [(.tmp 0)],
 .p 10 (.conv .i64) [(.tmp 9)],
 .p 5 .mv [(.tmp 10)]]) (
 .seq (
 .ops [
 .p 11 .mv [(.tmp 1)],
 .p 12 (.conv .i64) [(.tmp 11)],
 .p 6 .mv [(.tmp 12)]]) (
 .seq (
 .ops [
 .p 7 .mv [(.const (.int .i64 0))]]) (
 .seq (
 .seq (
 .ops [
 .p 8 .mv [(.const (.int .i64 0))]]) (
 .block 0 (
 .loop (
 .seq (
 .seq (
 .ops [
 .p 13 .mv [(.tmp 8)],
 .p 14 (.bin .lss) [(.tmp 13), (.const (.int .i64 8))]]) (
 .cond (.tmp 14) (
 .skip) (
 .exit 0))) (
 .seq (
 .block 1 (
 .seq (
 .seq (
 .ops [
 .p 17 .mv [(.tmp 6)],
 .p 18 (.bin .rem) [(.tmp 17), (.const (.int .i64 2))],
 .p 19 (.bin .eql) [(.tmp 18), (.const (.int .i64 1))]]) (
 .cond (.tmp 19) (
 .ops [
 .p 20 .mv [(.tmp 7)],
 .p 21 .mv [(.tmp 5)],
 .p 22 (.bin .xor) [(.tmp 20), (.tmp 21)],
 .p 7 .mv [(.tmp 22)]]) (
 .skip))) (
 .seq (
 .ops [
 .p 23 .mv [(.tmp 6)],
 .p 24 (.bin .quo) [(.tmp 23), (.const (.int .i64 2))],
 .p 6 .mv [(.tmp 24)]]) (
 .seq (
 .ops [
 .p 25 .mv [(.tmp 5)],
 .p 26 (.bin .mul) [(.tmp 25), (.const (.int .i64 2))],
 .p 5 .mv [(.tmp 26)]]) (
 .seq (
 .ops [
 .p 27 .mv [(.tmp 5)],
 .p 28 (.bin .geq) [(.tmp 27), (.const (.int .i64 256))]]) (
 .cond (.tmp 28) (
 .ops [
 .p 29 .mv [(.tmp 5)],
 .p 30 (.bin .xor) [(.tmp 29), (.const (.int .i64 285))],
 .p 5 .mv [(.tmp 30)]]) (
 .skip))))))) (
 .ops [
 .p 15 .mv [(.tmp 8)],
 .p 16 (.bin .add) [(.tmp 15), (.const (.int .i64 1))],
 .p 8 .mv [(.tmp 16)]])))))) (
 .seq (
 .ops [
 .p 31 .mv [(.tmp 7)],
 .p 32 (.conv .u8) [(.tmp 31)],
 .p 4 .mv [(.tmp 32)]]) (
 .ret))))))⟩

theorem c_ref03_Mul : trF Try.prog f_ref03_Mul = some m_ref03_Mul := by kernel_rfl
-- 121 shardlog/matrix.copied; slots [(0, m), (1, m), (3, out), (4, _), (5, r)]
noncomputable def m_matrix_copied : MF := ⟨19, [.t 2],
 .seq (
 .ops [
 .p 2 .mv [(.const (.slice none 0 0))]]) (
 .seq (
 .ops [
 .p 3 .mv [(.const (.slice none 0 0))]]) (
 .seq (
 .seq (
 .ops [
 .p 6 .mv [(.tmp 0)],
 .p 7 .len [(.tmp 6)],
 .p 8 .mv [(.const (.int .i64 0))]]) (
 .block 0 (
 .loop (
 .seq (
 .ops [
 .p 9 (.bin .lss) [(.tmp 8), (.tmp 7)]]) (
 .seq (
 .cond (.tmp 9) (
 .skip) (
 .exit 0)) (
 .seq (
 .block 1 (
 .seq (
 .ops [
 .p 10 (.ixs 1) [(.tmp 6), (.tmp 8)],
 .ld 11 (.tmp 10),
 .p 5 .mv [(.tmp 11)]]) (
 .ops [
 .p 12 .mv [(.tmp 3)],
 .p 13 .mv [(.tmp 5)],
 .call (some 14) f_slices_Clone [(.tmp 13)],
 .bsl 15 tBytes 1 [(.slice none 0 0)] [(0, 1)] [(.tmp 14)],
 .app 16 #[tRows, tRows] tRows (.tmp 12) (.tmp 15),
 .p 3 .mv [(.tmp 16)]]))) (
 .ops [
 .p 17 (.bin .add) [(.tmp 8), (.const (.int .i64 1))],
 .p 8 .mv [(.tmp 17)]]))))))) (
 .seq (
 .ops [
 .p 18 .mv [(.tmp 3)],
 .p 2 .mv [(.tmp 18)]]) (
 .ret))))⟩

theorem c_matrix_copied : trF Try.prog f_matrix_copied = some m_matrix_copied := by kernel_rfl
-- 122 shardlog/matrix.pivot; slots [(0, m), (1, out), (2, c), (3, m), (4, out), (5, c), (7, i)]
noncomputable def m_matrix_pivot : MF := ⟨51, [.t 6],
 .seq (
 .ops [
 .p 6 .mv [(.const (.bool false))]]) (
 .seq (
 .seq (
 .ops [
 .p 8 .mv [(.tmp 2)],
 .p 7 .mv [(.tmp 8)]]) (
 .block 0 (
 .loop (
 .seq (
 .seq (
 .ops [
 .p 9 .mv [(.tmp 7)],
 .p 10 .mv [(.tmp 0)],
 .p 11 .len [(.tmp 10)],
 .p 12 (.bin .lss) [(.tmp 9), (.tmp 11)]]) (
 .cond (.tmp 12) (
 .skip) (
 .exit 0))) (
 .seq (
 .block 1 (
 .seq (
 .ops [
 .p 15 .mv [(.tmp 0)],
 .p 16 .mv [(.tmp 7)],
 .p 17 (.ixs 1) [(.tmp 15), (.tmp 16)],
 .ld 18 (.tmp 17),
 .p 19 .mv [(.tmp 2)],
 .p 20 (.ixs 1) [(.tmp 18), (.tmp 19)],
 .ld 21 (.tmp 20),
 .p 22 (.bin .neq) [(.tmp 21), (.const (.int .u8 0))]]) (
 .cond (.tmp 22) (
 .seq (
 .dr [
 ⟨.p 23 .mv [(.tmp 0)], []⟩,
 ⟨.p 24 .mv [(.tmp 2)], []⟩,
 ⟨.p 25 .mv [(.tmp 0)], []⟩,
 ⟨.p 26 .mv [(.tmp 7)], []⟩,
 ⟨.p 27 .mv [(.tmp 0)], []⟩,
 ⟨.p 28 .mv [(.tmp 7)], []⟩,
 ⟨.p 29 (.ixs 1) [(.tmp 27), (.tmp 28)], []⟩,
 ⟨.ld 30 (.tmp 29), []⟩,
 ⟨.p 31 .mv [(.tmp 0)], []⟩,
 ⟨.p 32 .mv [(.tmp 2)], []⟩,
 ⟨.p 33 (.ixs 1) [(.tmp 31), (.tmp 32)], []⟩,
 ⟨.ld 34 (.tmp 33), []⟩,
 ⟨.p 35 (.ixs 1) [(.tmp 23), (.tmp 24)], []⟩,
 ⟨.st 1 false (.tmp 35) (.tmp 30), []⟩,
 ⟨.p 36 (.ixs 1) [(.tmp 25), (.tmp 26)], []⟩,
 ⟨.st 1 false (.tmp 36) (.tmp 34), []⟩]) (
 .seq (
 .dr [
 ⟨.p 37 .mv [(.tmp 1)], []⟩,
 ⟨.p 38 .mv [(.tmp 2)], []⟩,
 ⟨.p 39 .mv [(.tmp 1)], []⟩,
 ⟨.p 40 .mv [(.tmp 7)], []⟩,
 ⟨.p 41 .mv [(.tmp 1)], []⟩,
 ⟨.p 42 .mv [(.tmp 7)], []⟩,
 ⟨.p 43 (.ixs 1) [(.tmp 41), (.tmp 42)], []⟩,
 ⟨.ld 44 (.tmp 43), []⟩,
 ⟨.p 45 .mv [(.tmp 1)], []⟩,
 ⟨.p 46 .mv [(.tmp 2)], []⟩,
 ⟨.p 47 (.ixs 1) [(.tmp 45), (.tmp 46)], []⟩,
 ⟨.ld 48 (.tmp 47), []⟩,
 ⟨.p 49 (.ixs 1) [(.tmp 37), (.tmp 38)], []⟩,
 ⟨.st 1 false (.tmp 49) (.tmp 44), []⟩,
 ⟨.p 50 (.ixs 1) [(.tmp 39), (.tmp 40)], []⟩,
 ⟨.st 1 false (.tmp 50) (.tmp 48), []⟩]) (
 .seq (
 .ops [
 .p 6 .mv [(.const (.bool true))]]) (
 .ret)))) (
 .skip)))) (
 .ops [
 .p 13 .mv [(.tmp 7)],
 .p 14 (.bin .add) [(.tmp 13), (.const (.int .i64 1))],
 .p 7 .mv [(.tmp 14)]])))))) (
 .seq (
 .ops [
 .p 6 .mv [(.const (.bool false))]]) (
 .ret)))⟩

theorem c_matrix_pivot : trF Try.prog f_matrix_pivot = some m_matrix_pivot := by kernel_rfl
-- 123 shardlog/matrix.clearColumn; slots [(0, f), (1, m), (2, out), (3, c), (4, f), (5, m), (6, out), (7, c), (8, x), (9, i), (10, y)]
noncomputable def m_matrix_clearColumn : MF := ⟨84, [],
 .seq (
 .ops [
 .p 11 .mv [(.tmp 0)],
 .p 12 .mv [(.tmp 1)],
 .p 13 .mv [(.tmp 3)],
 .p 14 (.ixs 1) [(.tmp 12), (.tmp 13)],
 .ld 15 (.tmp 14),
 .p 16 .mv [(.tmp 3)],
 .p 17 (.ixs 1) [(.tmp 15), (.tmp 16)],
 .ld 18 (.tmp 17),
 .call (some 19) f_field_Field_Inv [(.tmp 11), (.tmp 18)],
 .p 8 .mv [(.tmp 19)]]) (
 .seq (
 .dr [
 ⟨.p 20 .mv [(.tmp 1)], []⟩,
 ⟨.p 21 .mv [(.tmp 3)], []⟩,
 ⟨.p 22 .mv [(.tmp 2)], []⟩,
 ⟨.p 23 .mv [(.tmp 3)], []⟩,
 ⟨.p 24 .mv [(.tmp 0)], []⟩,
 ⟨.p 25 .mv [(.tmp 8)], []⟩,
 ⟨.p 26 .mv [(.tmp 1)], []⟩,
 ⟨.p 27 .mv [(.tmp 3)], []⟩,
 ⟨.p 28 (.ixs 1) [(.tmp 26), (.tmp 27)], []⟩,
 ⟨.ld 29 (.tmp 28), []⟩,
 ⟨.p 31 .mv [(.tmp 0)], []⟩,
 ⟨.p 32 .mv [(.tmp 8)], []⟩,
 ⟨.p 33 .mv [(.tmp 2)], []⟩,
 ⟨.p 34 .mv [(.tmp 3)], []⟩,
 ⟨.p 35 (.ixs 1) [(.tmp 33), (.tmp 34)], []⟩,
 ⟨.ld 36 (.tmp 35), []⟩,
 ⟨.call (some 30) f_field_Field_Row [(.tmp 24), (.tmp 25), (.tmp 29)], [.ld 36 (.tmp 35)]⟩,
 ⟨.call (some 37) f_field_Field_Row [(.tmp 31), (.tmp 32), (.tmp 36)], []⟩,
 ⟨.p 38 (.ixs 1) [(.tmp 20), (.tmp 21)], []⟩,
 ⟨.st 1 false (.tmp 38) (.tmp 30), []⟩,
 ⟨.p 39 (.ixs 1) [(.tmp 22), (.tmp 23)], []⟩,
 ⟨.st 1 false (.tmp 39) (.tmp 37), []⟩]) (
 .seq (
 .ops [
 .p 40 .mv [(.tmp 1)],
 .p 41 .len [(.tmp 40)],
 .p 42 .mv [(.const (.int .i64 0))]]) (
 .block 0 (
 .loop (
 .seq (
 .ops [
 .p 43 (.bin .lss) [(.tmp 42), (.tmp 41)]]) (
 .seq (
 .cond (.tmp 43) (
 .skip) (
 .exit 0)) (
 .seq (
 .block 1 (
 .seq (
 .ops [
 .p 44 .mv [(.tmp 42)],
 .p 9 .mv [(.tmp 44)]]) (
 .seq (
 .ops [
 .p 45 .mv [(.tmp 1)],
 .p 46 .mv [(.tmp 9)],
 .p 47 (.ixs 1) [(.tmp 45), (.tmp 46)],
 .ld 48 (.tmp 47),
 .p 49 .mv [(.tmp 3)],
 .p 50 (.ixs 1) [(.tmp 48), (.tmp 49)],
 .ld 51 (.tmp 50),
 .p 10 .mv [(.tmp 51)]]) (
 .seq (
 .ops [
 .p 52 .mv [(.tmp 9)],
 .p 53 .mv [(.tmp 3)],
 .p 54 (.bin .neq) [(.tmp 52), (.tmp 53)],
 .p 55 .mv [(.tmp 54)],
 .gd 55 true (some 56) (.p 56 .mv [(.tmp 10)]),
 .gd 55 true (some 57) (.p 57 (.bin .neq) [(.tmp 56), (.const (.int .u8 0))]),
 .p 58 .pick [(.tmp 55), (.tmp 57), (.const (.bool false))]]) (
 .cond (.tmp 58) (
 .seq (
 .dr [
 ⟨.p 59 .mv [(.tmp 1)], []⟩,
 ⟨.p 60 .mv [(.tmp 9)], []⟩,
 ⟨.p 61 (.ixs 1) [(.tmp 59), (.tmp 60)], []⟩,
 ⟨.ld 62 (.tmp 61), []⟩,
 ⟨.p 63 .mv [(.tmp 0)], []⟩,
 ⟨.p 64 .mv [(.tmp 10)], []⟩,
 ⟨.p 65 .mv [(.tmp 1)], []⟩,
 ⟨.p 66 .mv [(.tmp 3)], []⟩,
 ⟨.p 67 (.ixs 1) [(.tmp 65), (.tmp 66)], []⟩,
 ⟨.ld 68 (.tmp 67), []⟩,
 ⟨.call (some 69) f_field_Field_Row [(.tmp 63), (.tmp 64), (.tmp 68)], [.ld 62 (.tmp 61)]⟩,
 ⟨.call (some 70) f_matrix_plus [(.tmp 62), (.tmp 69)], []⟩]) (
 .dr [
 ⟨.p 71 .mv [(.tmp 2)], []⟩,
 ⟨.p 72 .mv [(.tmp 9)], []⟩,
 ⟨.p 73 (.ixs 1) [(.tmp 71), (.tmp 72)], []⟩,
 ⟨.ld 74 (.tmp 73), []⟩,
 ⟨.p 75 .mv [(.tmp 0)], []⟩,
 ⟨.p 76 .mv [(.tmp 10)], []⟩,
 ⟨.p 77 .mv [(.tmp 2)], []⟩,
 ⟨.p 78 .mv [(.tmp 3)], []⟩,
 ⟨.p 79 (.ixs 1) [(.tmp 77), (.tmp 78)], []⟩,
 ⟨.ld 80 (.tmp 79), []⟩,
 ⟨.call (some 81) f_field_Field_Row [(.tmp 75), (.tmp 76), (.tmp 80)], [.ld 74 (.tmp 73)]⟩,
 ⟨.call (some 82) f_matrix_plus [(.tmp 74), (.tmp 81)], []⟩])) (
 .skip)))))) (
 .ops [
 .p 83 (.bin .add) [(.tmp 42), (.const (.int .i64 1))],
 .p 42 .mv [(.tmp 83)]]))))))))⟩

theorem c_matrix_clearColumn : trF Try.prog f_matrix_clearColumn = some m_matrix_clearColumn := by kernel_rfl
-- 124 (*shardlog/field.Field).Inv; slots [(0, f), (1, a), (2, f), (3, a)]
noncomputable def m_field_Field_Inv : MF := ⟨20, [.t 4],
 .seq (
 .ops [
 .p 4 .mv [(.const (.int .u8 0))]]) (
 .seq (
 .seq (
 .ops [
 .p 5 .mv [(.tmp 1)],
 .p 6 (.bin .eql) [(.tmp 5), (.const (.int .u8 0))]]) (
 .cond (.tmp 6) (
 .seq (
 .ops [
 .p 4 .mv [(.const (.int .u8 0))]]) (
 .ret)) (
 .skip))) (
 .seq (
 .dr [
 ⟨.p 7 .mv [(.tmp 0)], []⟩,
 ⟨.p 8 .mv [(.tmp 0)], []⟩,
 ⟨.p 9 .mv [(.tmp 1)], []⟩,
 ⟨.p 10 .nilc [(.tmp 8)], []⟩,
 ⟨.p 11 (.fad 255) [(.tmp 10)], []⟩,
 ⟨.p 12 (.ixa 256 1) [(.tmp 11), (.tmp 9)], []⟩,
 ⟨.ld 13 (.tmp 12), []⟩,
 ⟨.p 14 (.bin .sub) [(.const (.int .i64 255)), (.tmp 13)], []⟩,
 ⟨.p 15 (.bin .rem) [(.tmp 14), (.const (.int .i64 255))], []⟩,
 ⟨.p 16 .nilc [(.tmp 7)], []⟩,
 ⟨.p 17 (.fad 0) [(.tmp 16)], []⟩,
 ⟨.p 18 (.ixa 255 1) [(.tmp 17), (.tmp 15)], []⟩,
 ⟨.ld 19 (.tmp 18), []⟩,
 ⟨.p 4 .mv [(.tmp 19)], []⟩]) (
 .ret)))⟩

theorem c_field_Field_Inv : trF Try.prog f_field_Field_Inv = some m_field_Field_Inv := by kernel_rfl
-- 125 shardlog/shardlogref03.Inv; slots [(0, a), (1, a), (3, b)]
noncomputable def m_ref03_Inv : MF := ⟨15, [.t 2],
 .seq (
 .ops [
 .p 2 .mv [(.const (.int .u8 0))]]) (
 .seq (
 .seq (
 .ops [
 .p 3 .mv [(.const (.int .i64 1))]]) (
 .block 0 (
 .loop (
 .seq (
 .seq (
 .ops [
 .p 4 .mv [(.tmp 3)],
 .p 5 (.bin .lss) [(.tmp 4), (.const (.int .i64 256))]]) (
 .cond (.tmp 5) (
 .skip) (
 .exit 0))) (
 .seq (
 .block 1 (
 .seq (
 .ops [
 .p 8 .mv [(.tmp 0)],
 .p 9 .mv [(.tmp 3)],
 .p 10 (.conv .u8) [(.tmp 9)],
 .call (some 11) f_ref03_Mul [(.tmp 8), (.tmp 10)],
 .p 12 (.bin .eql) [(.tmp 11), (.const (.int .u8 1))]]) (
 .cond (.tmp 12) (
 .seq (
 .ops [
 .p 13 .mv [(.tmp 3)],
 .p 14 (.conv .u8) [(.tmp 13)],
 .p 2 .mv [(.tmp 14)]]) (
 .ret)) (
 .skip)))) (
 .ops [
 .p 6 .mv [(.tmp 3)],
 .p 7 (.bin .add) [(.tmp 6), (.const (.int .i64 1))],
 .p 3 .mv [(.tmp 7)]])))))) (
 .seq (
 .ops [
 .p 2 .mv [(.const (.int .u8 0))]]) (
 .ret)))⟩

theorem c_ref03_Inv : trF Try.prog f_ref03_Inv = some m_ref03_Inv := by kernel_rfl
-- 126 slices.Clone[[]byte,byte]; slots [(0, s), (1, s)]
noncomputable def m_slices_Clone : MF := ⟨8, [.t 2],
 .seq (
 .ops [
 .p 2 .mv [(.const (.slice none 0 0))]]) (
 .seq (
 .seq (
 .ops [
 .p 3 .mv [(.tmp 0)],
 .p 4 (.isnil .sl false) [(.tmp 3)]]) (
 .cond (.tmp 4) (
 .seq (
 .ops [
 .p 2 .mv [(.const (.slice none 0 0))]]) (
 .ret)) (
 .skip))) (
 .seq (
 .ops [
 .bsl 5 tU8 0 [] [] [],
 .p 6 .mv [(.tmp 0)],
 .app 7 #[tBytes, tBytes] tBytes (.tmp 5) (.tmp 6),
 .p 2 .mv [(.tmp 7)]]) (
 .ret)))⟩

theorem c_slices_Clone : trF Try.prog f_slices_Clone = some m_slices_Clone := by kernel_rfl
-- 128 shardlog/shardlogref01.Text; slots [(0, s), (1, s)]
noncomputable def m_ref01_Text : MF := ⟨9, [.t 2],
 .seq (
 .ops [
 .p 2 .mv [(.const (.slice none 0 0))]]) (
 .seq (
 .ops [
 .p 3 .mv [(.tmp 0)],
 .p 4 .lens [(.tmp 3)],
 .call (some 5) f_ref01_Num [(.tmp 4)],
 .p 6 .mv [(.tmp 0)],
 .gen (some 7) ⟨(some 7), (.convert tStr tBytes (.tmp 6)), tBytes, "ref.go:13", #[⟨3, .data⟩], none⟩,
 .app 8 #[tBytes, tBytes] tBytes (.tmp 5) (.tmp 7),
 .p 2 .mv [(.tmp 8)]]) (
 .ret))⟩

theorem c_ref01_Text : trF Try.prog f_ref01_Text = some m_ref01_Text := by kernel_rfl
-- 129 shardlog/code.there; slots [(0, l), (1, l), (3, out), (4, i), (5, b)]
noncomputable def m_code_there : MF := ⟨22, [.t 2],
 .seq (
 .ops [
 .p 2 .mv [(.const (.slice none 0 0))]]) (
 .seq (
 .ops [
 .p 3 .mv [(.const (.slice none 0 0))]]) (
 .seq (
 .seq (
 .ops [
 .p 6 .mv [(.tmp 0)],
 .p 7 .len [(.tmp 6)],
 .p 8 .mv [(.const (.int .i64 0))]]) (
 .block 0 (
 .loop (
 .seq (
 .ops [
 .p 9 (.bin .lss) [(.tmp 8), (.tmp 7)]]) (
 .seq (
 .cond (.tmp 9) (
 .skip) (
 .exit 0)) (
 .seq (
 .block 1 (
 .seq (
 .ops [
 .p 10 .mv [(.tmp 8)],
 .p 11 (.ixs 1) [(.tmp 6), (.tmp 8)],
 .ld 12 (.tmp 11),
 .p 4 .mv [(.tmp 10)],
 .p 5 .mv [(.tmp 12)]]) (
 .seq (
 .ops [
 .p 13 .mv [(.tmp 5)],
 .p 14 .len [(.tmp 13)],
 .p 15 (.bin .gtr) [(.tmp 14), (.const (.int .i64 0))]]) (
 .cond (.tmp 15) (
 .ops [
 .p 16 .mv [(.tmp 3)],
 .p 17 .mv [(.tmp 4)],
 .bsl 18 tInt 1 [(.int .i64 0)] [(0, 1)] [(.tmp 17)],
 .app 19 #[tInts, tInts] tInts (.tmp 16) (.tmp 18),
 .p 3 .mv [(.tmp 19)]]) (
 .skip))))) (
 .ops [
 .p 20 (.bin .add) [(.tmp 8), (.const (.int .i64 1))],
 .p 8 .mv [(.tmp 20)]]))))))) (
 .seq (
 .ops [
 .p 21 .mv [(.tmp 3)],
 .p 2 .mv [(.tmp 21)]]) (
 .ret))))⟩

theorem c_code_there : trF Try.prog f_code_there = some m_code_there := by kernel_rfl
-- 130 shardlog/code.value; slots [(0, p), (1, p), (4, v), (5, _), (6, ok)]
noncomputable def m_code_value : MF := ⟨21, [.t 2, .t 3],
 .seq (
 .ops [
 .p 2 .mv [(.const (.string .empty))],
 .p 3 .mv [(.const (.bool false))]]) (
 .seq (
 .ops [
 .p 8 .mv [(.tmp 0)],
 .call (some 9) f_slices_Concat [(.tmp 8)],
 .call (some 10) f_wire_CutText [(.tmp 9)],
 .p 7 .mv [(.tmp 10)],
 .p 11 (.ext 0) [(.tmp 7)],
 .p 12 (.ext 1) [(.tmp 7)],
 .p 13 (.ext 2) [(.tmp 7)],
 .p 4 .mv [(.tmp 11)],
 .p 5 .mv [(.tmp 12)],
 .p 6 .mv [(.tmp 13)]]) (
 .seq (
 .ops [
 .p 14 .mv [(.tmp 4)],
 .p 15 .mv [(.tmp 6)],
 .p 16 .mv [(.tmp 15)],
 .gd 16 true (some 17) (.p 17 .mv [(.tmp 4)]),
 .gd 16 true (some 18) (.p 18 .lens [(.tmp 17)]),
 .gd 16 true (some 19) (.p 19 (.bin .leq) [(.tmp 18), (.const (.int .i64 512))]),
 .p 20 .pick [(.tmp 16), (.tmp 19), (.const (.bool false))],
 .p 2 .mv [(.tmp 14)],
 .p 3 .mv [(.tmp 20)]]) (
 .ret)))⟩

theorem c_code_value : trF Try.prog f_code_value = some m_code_value := by kernel_rfl
-- 131 shardlog/code.agrees; slots [(0, s), (1, v), (2, l), (3, s), (4, v), (5, l), (7, all), (8, e), (9, _), (10, i)]
noncomputable def m_code_agrees : MF := ⟨37, [.t 6],
 .seq (
 .ops [
 .box 3 t_api_Shape (.tmp 0),
 .p 6 .mv [(.const (.bool false))]]) (
 .seq (
 .ops [
 .ldn 12 2 (.tmp 3),
 .p 13 .mv [(.tmp 1)],
 .call (some 14) f_code_Encode [(.tmp 12), (.tmp 13)],
 .p 11 .mv [(.tmp 14)],
 .p 15 (.ext 0) [(.tmp 11)],
 .p 16 (.ext 1) [(.tmp 11)],
 .p 7 .mv [(.tmp 15)],
 .p 8 .mv [(.tmp 16)]]) (
 .seq (
 .seq (
 .ops [
 .p 17 .mv [(.tmp 8)],
 .p 18 (.bin .neq) [(.tmp 17), (.const (.int .i64 0))]]) (
 .cond (.tmp 18) (
 .seq (
 .ops [
 .p 6 .mv [(.const (.bool false))]]) (
 .ret)) (
 .skip))) (
 .seq (
 .seq (
 .ops [
 .p 19 .mv [(.tmp 2)],
 .call (some 20) f_code_there [(.tmp 19)],
 .p 21 .len [(.tmp 20)],
 .p 22 .mv [(.const (.int .i64 0))]]) (
 .block 0 (
 .loop (
 .seq (
 .ops [
 .p 23 (.bin .lss) [(.tmp 22), (.tmp 21)]]) (
 .seq (
 .cond (.tmp 23) (
 .skip) (
 .exit 0)) (
 .seq (
 .block 1 (
 .seq (
 .ops [
 .p 24 (.ixs 1) [(.tmp 20), (.tmp 22)],
 .ld 25 (.tmp 24),
 .p 10 .mv [(.tmp 25)]]) (
 .seq (
 .dr [
 ⟨.p 26 .mv [(.tmp 7)], []⟩,
 ⟨.p 27 .mv [(.tmp 10)], []⟩,
 ⟨.p 28 (.ixs 1) [(.tmp 26), (.tmp 27)], []⟩,
 ⟨.ld 29 (.tmp 28), []⟩,
 ⟨.p 30 .mv [(.tmp 2)], []⟩,
 ⟨.p 31 .mv [(.tmp 10)], []⟩,
 ⟨.p 32 (.ixs 1) [(.tmp 30), (.tmp 31)], []⟩,
 ⟨.ld 33 (.tmp 32), []⟩,
 ⟨.call (some 34) f_slices_Equal [(.tmp 29), (.tmp 33)], []⟩,
 ⟨.p 35 .not [(.tmp 34)], []⟩]) (
 .cond (.tmp 35) (
 .seq (
 .ops [
 .p 6 .mv [(.const (.bool false))]]) (
 .ret)) (
 .skip))))) (
 .ops [
 .p 36 (.bin .add) [(.tmp 22), (.const (.int .i64 1))],
 .p 22 .mv [(.tmp 36)]]))))))) (
 .seq (
 .ops [
 .p 6 .mv [(.const (.bool true))]]) (
 .ret)))))⟩

theorem c_code_agrees : trF Try.prog f_code_agrees = some m_code_agrees := by kernel_rfl
-- 186 slices.IndexFunc[[][]byte,[]byte]; slots [(0, s), (1, f), (2, s), (3, f), (5, i)]
noncomputable def m_slices_IndexFunc : MF := ⟨19, [.t 4],
 .seq (
 .ops [
 .p 4 .mv [(.const (.int .i64 0))]]) (
 .seq (
 .seq (
 .ops [
 .p 6 .mv [(.tmp 0)],
 .p 7 .len [(.tmp 6)],
 .p 8 .mv [(.const (.int .i64 0))]]) (
 .block 0 (
 .loop (
 .seq (
 .ops [
 .p 9 (.bin .lss) [(.tmp 8), (.tmp 7)]]) (
 .seq (
 .cond (.tmp 9) (
 .skip) (
 .exit 0)) (
 .seq (
 .block 1 (
 .seq (
 .ops [
 .p 10 .mv [(.tmp 8)],
 .p 5 .mv [(.tmp 10)]]) (
 .seq (
 .ops [
 .p 11 .mv [(.tmp 1)],
 .p 12 .mv [(.tmp 0)],
 .p 13 .mv [(.tmp 5)],
 .p 14 (.ixs 1) [(.tmp 12), (.tmp 13)],
 .ld 15 (.tmp 14),
 .callv (some 16) (.tmp 11) [(.tmp 15)]]) (
 .cond (.tmp 16) (
 .seq (
 .ops [
 .p 17 .mv [(.tmp 5)],
 .p 4 .mv [(.tmp 17)]]) (
 .ret)) (
 .skip))))) (
 .ops [
 .p 18 (.bin .add) [(.tmp 8), (.const (.int .i64 1))],
 .p 8 .mv [(.tmp 18)]]))))))) (
 .seq (
 .ops [
 .p 4 .mv [(.const (.int .i64 (-1)))]]) (
 .ret)))⟩

theorem c_slices_IndexFunc : trF Try.prog f_slices_IndexFunc = some m_slices_IndexFunc := by kernel_rfl
-- 187 (*shardlog/field.Field).Mul; slots [(0, f), (1, a), (2, b), (3, f), (4, a), (5, b)]
noncomputable def m_field_Field_Mul : MF := ⟨32, [.t 6],
 .seq (
 .ops [
 .p 6 .mv [(.const (.int .u8 0))]]) (
 .seq (
 .seq (
 .ops [
 .p 7 .mv [(.tmp 1)],
 .p 8 (.bin .eql) [(.tmp 7), (.const (.int .u8 0))],
 .p 9 .mv [(.tmp 8)],
 .gd 9 false (some 10) (.p 10 .mv [(.tmp 2)]),
 .gd 9 false (some 11) (.p 11 (.bin .eql) [(.tmp 10), (.const (.int .u8 0))]),
 .p 12 .pick [(.tmp 9), (.const (.bool true)), (.tmp 11)]]) (
 .cond (.tmp 12) (
 .seq (
 .ops [
 .p 6 .mv [(.const (.int .u8 0))]]) (
 .ret)) (
 .skip))) (
 .seq (
 .dr [
 ⟨.p 13 .mv [(.tmp 0)], []⟩,
 ⟨.p 14 .mv [(.tmp 0)], []⟩,
 ⟨.p 15 .mv [(.tmp 1)], []⟩,
 ⟨.p 16 .nilc [(.tmp 14)], []⟩,
 ⟨.p 17 (.fad 255) [(.tmp 16)], []⟩,
 ⟨.p 18 (.ixa 256 1) [(.tmp 17), (.tmp 15)], []⟩,
 ⟨.ld 19 (.tmp 18), []⟩,
 ⟨.p 20 .mv [(.tmp 0)], []⟩,
 ⟨.p 21 .mv [(.tmp 2)], []⟩,
 ⟨.p 22 .nilc [(.tmp 20)], []⟩,
 ⟨.p 23 (.fad 255) [(.tmp 22)], []⟩,
 ⟨.p 24 (.ixa 256 1) [(.tmp 23), (.tmp 21)], []⟩,
 ⟨.ld 25 (.tmp 24), []⟩,
 ⟨.p 26 (.bin .add) [(.tmp 19), (.tmp 25)], []⟩,
 ⟨.p 27 (.bin .rem) [(.tmp 26), (.const (.int .i64 255))], []⟩,
 ⟨.p 28 .nilc [(.tmp 13)], []⟩,
 ⟨.p 29 (.fad 0) [(.tmp 28)], []⟩,
 ⟨.p 30 (.ixa 255 1) [(.tmp 29), (.tmp 27)], []⟩,
 ⟨.ld 31 (.tmp 30), []⟩,
 ⟨.p 6 .mv [(.tmp 31)], []⟩]) (
 .ret)))⟩

theorem c_field_Field_Mul : trF Try.prog f_field_Field_Mul = some m_field_Field_Mul := by kernel_rfl
-- 188 shardlog/wire.Text; slots [(0, s), (1, s)]
noncomputable def m_wire_Text : MF := ⟨8, [.t 2],
 .seq (
 .ops [
 .p 2 .mv [(.const (.slice none 0 0))]]) (
 .seq (
 .ops [
 .p 3 .mv [(.tmp 0)],
 .p 4 .lens [(.tmp 3)],
 .call (some 5) f_wire_Num [(.tmp 4)],
 .p 6 .mv [(.tmp 0)],
 .app 7 #[tBytes, tStr] tBytes (.tmp 5) (.tmp 6),
 .p 2 .mv [(.tmp 7)]]) (
 .ret))⟩

theorem c_wire_Text : trF Try.prog f_wire_Text = some m_wire_Text := by kernel_rfl
-- 189 slices.Chunk[[]byte,byte]; slots [(0, s), (1, n), (2, s), (3, n)]
noncomputable def m_slices_Chunk : MF := ⟨9, [.t 4],
 .seq (
 .ops [
 .box 2 tBytes (.tmp 0),
 .box 3 tInt (.tmp 1),
 .p 4 .mv [(.const .nilFunc)]]) (
 .seq (
 .seq (
 .ops [
 .ld 5 (.tmp 3),
 .p 6 (.bin .lss) [(.tmp 5), (.const (.int .i64 1))]]) (
 .cond (.tmp 6) (
 .ops [
 .p 7 (.ifc tStr) [(.const (.string ⟨#[99, 97, 110, 110, 111, 116, 32, 98, 101, 32, 108, 101, 115, 115, 32, 116, 104, 97, 110, 32, 49]⟩))],
 .gen none ⟨none, (.panic (.tmp 7)), 0, "iter.go:99", #[⟨0, .data⟩], none⟩]) (
 .skip))) (
 .seq (
 .ops [
 .p 8 (.fn (.func f_slices_Chunk_1) 0) [(.tmp 2), (.tmp 3)],
 .p 4 .mv [(.tmp 8)]]) (
 .ret)))⟩

theorem c_slices_Chunk : trF Try.prog f_slices_Chunk = some m_slices_Chunk := by kernel_rfl
-- 190 shardlog/shardlogref01.Num; slots [(0, n), (1, n)]
noncomputable def m_ref01_Num : MF := ⟨24, [.t 2],
 .seq (
 .ops [
 .p 2 .mv [(.const (.slice none 0 0))]]) (
 .seq (
 .seq (
 .ops [
 .p 3 .mv [(.tmp 0)],
 .p 4 (.bin .lss) [(.tmp 3), (.const (.int .i64 0))],
 .p 5 .mv [(.tmp 4)],
 .gd 5 false (some 6) (.p 6 .mv [(.tmp 0)]),
 .gd 5 false (some 7) (.p 7 (.bin .gtr) [(.tmp 6), (.const (.int .i64 4294967295))]),
 .p 8 .pick [(.tmp 5), (.const (.bool true)), (.tmp 7)]]) (
 .cond (.tmp 8) (
 .seq (
 .ops [
 .p 2 .mv [(.const (.slice none 0 0))]]) (
 .ret)) (
 .skip))) (
 .seq (
 .ops [
 .p 9 .mv [(.tmp 0)],
 .p 10 (.bin .quo) [(.tmp 9), (.const (.int .i64 16777216))],
 .p 11 (.conv .u8) [(.tmp 10)],
 .p 12 .mv [(.tmp 0)],
 .p 13 (.bin .quo) [(.tmp 12), (.const (.int .i64 65536))],
 .p 14 (.bin .rem) [(.tmp 13), (.const (.int .i64 256))],
 .p 15 (.conv .u8) [(.tmp 14)],
 .p 16 .mv [(.tmp 0)],
 .p 17 (.bin .quo) [(.tmp 16), (.const (.int .i64 256))],
 .p 18 (.bin .rem) [(.tmp 17), (.const (.int .i64 256))],
 .p 19 (.conv .u8) [(.tmp 18)],
 .p 20 .mv [(.tmp 0)],
 .p 21 (.bin .rem) [(.tmp 20), (.const (.int .i64 256))],
 .p 22 (.conv .u8) [(.tmp 21)],
 .bsl 23 tU8 4 [(.int .u8 0), (.int .u8 0), (.int .u8 0), (.int .u8 0)] [(0, 1), (1, 1), (2, 1), (3, 1)] [(.tmp 11), (.tmp 15), (.tmp 19), (.tmp 22)],
 .p 2 .mv [(.tmp 23)]]) (
 .ret)))⟩

theorem c_ref01_Num : trF Try.prog f_ref01_Num = some m_ref01_Num := by kernel_rfl
-- 191 shardlog/wire.CutText; slots [(0, b), (1, b), (5, n), (6, rest), (7, ok)]
noncomputable def m_wire_CutText : MF := ⟨29, [.t 2, .t 3, .t 4],
 .seq (
 .ops [
 .p 2 .mv [(.const (.string .empty))],
 .p 3 .mv [(.const (.slice none 0 0))],
 .p 4 .mv [(.const (.bool false))]]) (
 .seq (
 .ops [
 .p 9 .mv [(.tmp 0)],
 .call (some 10) f_wire_CutNum [(.tmp 9)],
 .p 8 .mv [(.tmp 10)],
 .p 11 (.ext 0) [(.tmp 8)],
 .p 12 (.ext 1) [(.tmp 8)],
 .p 13 (.ext 2) [(.tmp 8)],
 .p 5 .mv [(.tmp 11)],
 .p 6 .mv [(.tmp 12)],
 .p 7 .mv [(.tmp 13)]]) (
 .seq (
 .seq (
 .ops [
 .p 14 .mv [(.tmp 7)],
 .p 15 .not [(.tmp 14)],
 .p 16 .mv [(.tmp 15)],
 .gd 16 false (some 17) (.p 17 .mv [(.tmp 5)]),
 .gd 16 false (some 18) (.p 18 .mv [(.tmp 6)]),
 .gd 16 false (some 19) (.p 19 .len [(.tmp 18)]),
 .gd 16 false (some 20) (.p 20 (.bin .gtr) [(.tmp 17), (.tmp 19)]),
 .p 21 .pick [(.tmp 16), (.const (.bool true)), (.tmp 20)]]) (
 .cond (.tmp 21) (
 .seq (
 .ops [
 .p 2 .mv [(.const (.string .empty))],
 .p 3 .mv [(.const (.slice none 0 0))],
 .p 4 .mv [(.const (.bool false))]]) (
 .ret)) (
 .skip))) (
 .seq (
 .dr [
 ⟨.p 22 .mv [(.tmp 6)], []⟩,
 ⟨.p 23 .mv [(.tmp 5)], []⟩,
 ⟨.p 24 (.sls 1 false true false) [(.tmp 22), (.tmp 23)], []⟩,
 ⟨.bs 25 (.tmp 24), []⟩,
 ⟨.p 26 .mv [(.tmp 6)], []⟩,
 ⟨.p 27 .mv [(.tmp 5)], []⟩,
 ⟨.p 28 (.sls 1 true false false) [(.tmp 26), (.tmp 27)], []⟩,
 ⟨.p 2 .mv [(.tmp 25)], []⟩,
 ⟨.p 3 .mv [(.tmp 28)], []⟩,
 ⟨.p 4 .mv [(.const (.bool true))], []⟩]) (
 .ret))))⟩

theorem c_wire_CutText : trF Try.prog f_wire_CutText = some m_wire_CutText := by kernel_rfl
-- 192 slices.Concat[[]byte,byte]; slots [(0, slices), (1, slices), (3, size), (4, _), (5, s), (6, newslice), (7, _), (8, s)]
noncomputable def m_slices_Concat : MF := ⟨36, [.t 2],
 .seq (
 .ops [
 .p 2 .mv [(.const (.slice none 0 0))]]) (
 .seq (
 .ops [
 .p 3 .mv [(.const (.int .i64 0))]]) (
 .seq (
 .seq (
 .ops [
 .p 9 .mv [(.tmp 0)],
 .p 10 .len [(.tmp 9)],
 .p 11 .mv [(.const (.int .i64 0))]]) (
 .block 0 (
 .loop (
 .seq (
 .ops [
 .p 12 (.bin .lss) [(.tmp 11), (.tmp 10)]]) (
 .seq (
 .cond (.tmp 12) (
 .skip) (
 .exit 0)) (
 .seq (
 .block 1 (
 .seq (
 .ops [
 .p 13 (.ixs 1) [(.tmp 9), (.tmp 11)],
 .ld 14 (.tmp 13),
 .p 5 .mv [(.tmp 14)]]) (
 .seq (
 .ops [
 .p 15 .mv [(.tmp 3)],
 .p 16 .mv [(.tmp 5)],
 .p 17 .len [(.tmp 16)],
 .p 18 (.bin .add) [(.tmp 15), (.tmp 17)],
 .p 3 .mv [(.tmp 18)]]) (
 .seq (
 .ops [
 .p 19 .mv [(.tmp 3)],
 .p 20 (.bin .lss) [(.tmp 19), (.const (.int .i64 0))]]) (
 .cond (.tmp 20) (
 .ops [
 .p 21 (.ifc tStr) [(.const (.string ⟨#[108, 101, 110, 32, 111, 117, 116, 32, 111, 102, 32, 114, 97, 110, 103, 101]⟩))],
 .gen none ⟨none, (.panic (.tmp 21)), 0, "slices.go:496", #[⟨0, .data⟩], none⟩]) (
 .skip)))))) (
 .ops [
 .p 22 (.bin .add) [(.tmp 11), (.const (.int .i64 1))],
 .p 11 .mv [(.tmp 22)]]))))))) (
 .seq (
 .ops [
 .p 23 .mv [(.tmp 3)],
 .call (some 24) f_slices_Grow [(.const (.slice none 0 0)), (.tmp 23)],
 .p 6 .mv [(.tmp 24)]]) (
 .seq (
 .seq (
 .ops [
 .p 25 .mv [(.tmp 0)],
 .p 26 .len [(.tmp 25)],
 .p 27 .mv [(.const (.int .i64 0))]]) (
 .block 2 (
 .loop (
 .seq (
 .ops [
 .p 28 (.bin .lss) [(.tmp 27), (.tmp 26)]]) (
 .seq (
 .cond (.tmp 28) (
 .skip) (
 .exit 2)) (
 .seq (
 .block 3 (
 .seq (
 .ops [
 .p 29 (.ixs 1) [(.tmp 25), (.tmp 27)],
 .ld 30 (.tmp 29),
 .p 8 .mv [(.tmp 30)]]) (
 .ops [
 .p 31 .mv [(.tmp 6)],
 .p 32 .mv [(.tmp 8)],
 .app 33 #[tBytes, tBytes] tBytes (.tmp 31) (.tmp 32),
 .p 6 .mv [(.tmp 33)]]))) (
 .ops [
 .p 34 (.bin .add) [(.tmp 27), (.const (.int .i64 1))],
 .p 27 .mv [(.tmp 34)]]))))))) (
 .seq (
 .ops [
 .p 35 .mv [(.tmp 6)],
 .p 2 .mv [(.tmp 35)]]) (
 .ret))))))⟩

theorem c_slices_Concat : trF Try.prog f_slices_Concat = some m_slices_Concat := by kernel_rfl
-- 193 slices.Equal[[]byte,byte]; slots [(0, s1), (1, s2), (2, s1), (3, s2), (5, i)]
noncomputable def m_slices_Equal : MF := ⟨26, [.t 4],
 .seq (
 .ops [
 .p 4 .mv [(.const (.bool false))]]) (
 .seq (
 .seq (
 .ops [
 .p 6 .mv [(.tmp 0)],
 .p 7 .len [(.tmp 6)],
 .p 8 .mv [(.tmp 1)],
 .p 9 .len [(.tmp 8)],
 .p 10 (.bin .neq) [(.tmp 7), (.tmp 9)]]) (
 .cond (.tmp 10) (
 .seq (
 .ops [
 .p 4 .mv [(.const (.bool false))]]) (
 .ret)) (
 .skip))) (
 .seq (
 .seq (
 .ops [
 .p 11 .mv [(.tmp 0)],
 .p 12 .len [(.tmp 11)],
 .p 13 .mv [(.const (.int .i64 0))]]) (
 .block 0 (
 .loop (
 .seq (
 .ops [
 .p 14 (.bin .lss) [(.tmp 13), (.tmp 12)]]) (
 .seq (
 .cond (.tmp 14) (
 .skip) (
 .exit 0)) (
 .seq (
 .block 1 (
 .seq (
 .ops [
 .p 15 .mv [(.tmp 13)],
 .p 5 .mv [(.tmp 15)]]) (
 .seq (
 .dr [
 ⟨.p 16 .mv [(.tmp 0)], []⟩,
 ⟨.p 17 .mv [(.tmp 5)], []⟩,
 ⟨.p 18 (.ixs 1) [(.tmp 16), (.tmp 17)], []⟩,
 ⟨.ld 19 (.tmp 18), []⟩,
 ⟨.p 20 .mv [(.tmp 1)], []⟩,
 ⟨.p 21 .mv [(.tmp 5)], []⟩,
 ⟨.p 22 (.ixs 1) [(.tmp 20), (.tmp 21)], []⟩,
 ⟨.ld 23 (.tmp 22), []⟩,
 ⟨.p 24 (.bin .neq) [(.tmp 19), (.tmp 23)], []⟩]) (
 .cond (.tmp 24) (
 .seq (
 .ops [
 .p 4 .mv [(.const (.bool false))]]) (
 .ret)) (
 .skip))))) (
 .ops [
 .p 25 (.bin .add) [(.tmp 13), (.const (.int .i64 1))],
 .p 13 .mv [(.tmp 25)]]))))))) (
 .seq (
 .ops [
 .p 4 .mv [(.const (.bool true))]]) (
 .ret))))⟩

theorem c_slices_Equal : trF Try.prog f_slices_Equal = some m_slices_Equal := by kernel_rfl
-- 209 shardlog/wire.Num; slots [(0, n), (1, n)]
noncomputable def m_wire_Num : MF := ⟨21, [.t 2],
 .seq (
 .ops [
 .p 2 .mv [(.const (.slice none 0 0))]]) (
 .seq (
 .seq (
 .ops [
 .p 3 .mv [(.tmp 0)],
 .p 4 (.bin .lss) [(.tmp 3), (.const (.int .i64 0))],
 .p 5 .mv [(.tmp 4)],
 .gd 5 false (some 6) (.p 6 .mv [(.tmp 0)]),
 .gd 5 false (some 7) (.p 7 (.bin .gtr) [(.tmp 6), (.const (.int .i64 4294967295))]),
 .p 8 .pick [(.tmp 5), (.const (.bool true)), (.tmp 7)]]) (
 .cond (.tmp 8) (
 .seq (
 .ops [
 .p 2 .mv [(.const (.slice none 0 0))]]) (
 .ret)) (
 .skip))) (
 .seq (
 .ops [
 .p 9 .mv [(.tmp 0)],
 .p 10 (.bin .shr) [(.tmp 9), (.const (.int .u64 24))],
 .p 11 (.conv .u8) [(.tmp 10)],
 .p 12 .mv [(.tmp 0)],
 .p 13 (.bin .shr) [(.tmp 12), (.const (.int .u64 16))],
 .p 14 (.conv .u8) [(.tmp 13)],
 .p 15 .mv [(.tmp 0)],
 .p 16 (.bin .shr) [(.tmp 15), (.const (.int .u64 8))],
 .p 17 (.conv .u8) [(.tmp 16)],
 .p 18 .mv [(.tmp 0)],
 .p 19 (.conv .u8) [(.tmp 18)],
 .bsl 20 tU8 4 [(.int .u8 0), (.int .u8 0), (.int .u8 0), (.int .u8 0)] [(0, 1), (1, 1), (2, 1), (3, 1)] [(.tmp 11), (.tmp 14), (.tmp 17), (.tmp 19)],
 .p 2 .mv [(.tmp 20)]]) (
 .ret)))⟩

theorem c_wire_Num : trF Try.prog f_wire_Num = some m_wire_Num := by kernel_rfl
-- 233 shardlog/wire.CutNum; slots [(0, b), (1, b), (5, n), (6, _), (7, c)]
noncomputable def m_wire_CutNum : MF := ⟨28, [.t 2, .t 3, .t 4],
 .seq (
 .ops [
 .p 2 .mv [(.const (.int .i64 0))],
 .p 3 .mv [(.const (.slice none 0 0))],
 .p 4 .mv [(.const (.bool false))]]) (
 .seq (
 .seq (
 .ops [
 .p 8 .mv [(.tmp 0)],
 .p 9 .len [(.tmp 8)],
 .p 10 (.bin .lss) [(.tmp 9), (.const (.int .i64 4))]]) (
 .cond (.tmp 10) (
 .seq (
 .ops [
 .p 2 .mv [(.const (.int .i64 0))],
 .p 3 .mv [(.const (.slice none 0 0))],
 .p 4 .mv [(.const (.bool false))]]) (
 .ret)) (
 .skip))) (
 .seq (
 .ops [
 .p 5 .mv [(.const (.int .i64 0))]]) (
 .seq (
 .seq (
 .ops [
 .p 11 .mv [(.tmp 0)],
 .p 12 (.sls 1 false true false) [(.tmp 11), (.const (.int .i64 4))],
 .p 13 .len [(.tmp 12)],
 .p 14 .mv [(.const (.int .i64 0))]]) (
 .block 0 (
 .loop (
 .seq (
 .ops [
 .p 15 (.bin .lss) [(.tmp 14), (.tmp 13)]]) (
 .seq (
 .cond (.tmp 15) (
 .skip) (
 .exit 0)) (
 .seq (
 .block 1 (
 .seq (
 .ops [
 .p 16 (.ixs 1) [(.tmp 12), (.tmp 14)],
 .ld 17 (.tmp 16),
 .p 7 .mv [(.tmp 17)]]) (
 .ops [
 .p 18 .mv [(.tmp 5)],
 .p 19 (.bin .shl) [(.tmp 18), (.const (.int .u64 8))],
 .p 20 .mv [(.tmp 7)],
 .p 21 (.conv .i64) [(.tmp 20)],
 .p 22 (.bin .or) [(.tmp 19), (.tmp 21)],
 .p 5 .mv [(.tmp 22)]]))) (
 .ops [
 .p 23 (.bin .add) [(.tmp 14), (.const (.int .i64 1))],
 .p 14 .mv [(.tmp 23)]]))))))) (
 .seq (
 .ops [
 .p 24 .mv [(.tmp 5)],
 .p 25 .mv [(.tmp 0)],
 .p 26 (.sls 1 true false false) [(.tmp 25), (.const (.int .i64 4))],
 .call (some 27) f_slices_Clone [(.tmp 26)],
 .p 2 .mv [(.tmp 24)],
 .p 3 .mv [(.tmp 27)],
 .p 4 .mv [(.const (.bool true))]]) (
 .ret)))))⟩

theorem c_wire_CutNum : trF Try.prog f_wire_CutNum = some m_wire_CutNum := by kernel_rfl
-- 234 slices.Grow[[]byte,byte]; slots [(0, s), (1, n), (2, s), (3, n)]
noncomputable def m_slices_Grow : MF := ⟨27, [.t 4],
 .seq (
 .ops [
 .p 4 .mv [(.const (.slice none 0 0))]]) (
 .seq (
 .seq (
 .ops [
 .p 5 .mv [(.tmp 1)],
 .p 6 (.bin .lss) [(.tmp 5), (.const (.int .i64 0))]]) (
 .cond (.tmp 6) (
 .ops [
 .p 7 (.ifc tStr) [(.const (.string ⟨#[99, 97, 110, 110, 111, 116, 32, 98, 101, 32, 110, 101, 103, 97, 116, 105, 118, 101]⟩))],
 .gen none ⟨none, (.panic (.tmp 7)), 0, "slices.go:424", #[⟨0, .data⟩], none⟩]) (
 .skip))) (
 .seq (
 .seq (
 .ops [
 .p 8 .mv [(.tmp 1)],
 .p 9 .mv [(.tmp 0)],
 .p 10 .cap [(.tmp 9)],
 .p 11 .mv [(.tmp 0)],
 .p 12 .len [(.tmp 11)],
 .p 13 (.bin .sub) [(.tmp 10), (.tmp 12)],
 .p 14 (.bin .sub) [(.tmp 8), (.tmp 13)],
 .p 1 .mv [(.tmp 14)]]) (
 .seq (
 .ops [
 .p 15 .mv [(.tmp 1)],
 .p 16 (.bin .gtr) [(.tmp 15), (.const (.int .i64 0))]]) (
 .cond (.tmp 16) (
 .ops [
 .p 17 .mv [(.tmp 0)],
 .p 18 .mv [(.tmp 0)],
 .p 19 .cap [(.tmp 18)],
 .p 20 (.sls 1 false true false) [(.tmp 17), (.tmp 19)],
 .p 21 .mv [(.tmp 1)],
 .app 22 #[tBytes, tInt] tBytes (.tmp 20) (.tmp 21),
 .p 23 .mv [(.tmp 0)],
 .p 24 .len [(.tmp 23)],
 .p 25 (.sls 1 false true false) [(.tmp 22), (.tmp 24)],
 .p 0 .mv [(.tmp 25)]]) (
 .skip)))) (
 .seq (
 .ops [
 .p 26 .mv [(.tmp 0)],
 .p 4 .mv [(.tmp 26)]]) (
 .ret))))⟩

theorem c_slices_Grow : trF Try.prog f_slices_Grow = some m_slices_Grow := by kernel_rfl
end Go.Proofs.Ytgpkbldlkadnjaa
end
section
/- Element types of this program's slices; bodies of the functions that are taken as values. -/
set_option linter.unusedVariables false
set_option linter.unusedSimpArgs false
namespace Go.Sl
open Go.RowKit
theorem El.of {P : Program} {t e : TypeId} {s bytes : Nat} {z : Value} (h1 : P.underlying t = some (.slice e)) (h2 : (P.info? e).map (fun i => (i.zero, i.size, i.bytes)) = some (some z, s, bytes)) (h3 : z.cells.size = s) (h4 : 0 < s) : El P t e s bytes z := by
  refine ⟨h1, ?_, h3, h4⟩
  cases hi : P.info? e with
  | none => rw [hi] at h2; cases h2
  | some i =>
    rw [hi] at h2
    simp only [Option.map_some, Option.some.injEq, Prod.mk.injEq] at h2
    exact ⟨i, rfl, h2.1, h2.2.1, h2.2.2⟩
end Go.Sl
namespace Go.Proofs.Ytgpkbldlkadnjaa
open Go Go.Sl
theorem elB : El Try.prog 29 5 1 1 (.int .u8 0) := El.of (by kernel_rfl) (by kernel_rfl) rfl (by decide)
theorem elM : El Try.prog 22 29 1 24 (.slice none 0 0) := El.of (by kernel_rfl) (by kernel_rfl) rfl (by decide)
theorem hb60 : hasBody Try.prog f_field_Field_Mul = true := by kernel_rfl
theorem hb43 : hasBody Try.prog f_matrix_Right_1 = true := by kernel_rfl
end Go.Proofs.Ytgpkbldlkadnjaa
end
section
/- Plain: the field's tables. -/
set_option linter.unusedVariables false
set_option linter.unusedSimpArgs false
namespace Go.Proofs.Ytgpkbldlkadnjaa
open Go Go.Sl

def stepX (x : Nat) : Nat := if 255 < 2 * x then (2 * x) ^^^ 285 else 2 * x
/-- the tables behind so many rounds: powers, exponents, the next power -/
def gfTab : Nat → List Nat × List Nat × Nat
  | 0 => (List.replicate 255 0, List.replicate 256 0, 1)
  | i + 1 => ((gfTab i).1.set i (gfTab i).2.2, (gfTab i).2.1.set (gfTab i).2.2 i, stepX (gfTab i).2.2)
theorem stepX_all : (List.range 256).all (fun x => decide (stepX x < 256)) = true := by decide +kernel
theorem stepX_lt (x : Nat) (h : x < 256) : stepX x < 256 := by
  have := List.all_eq_true.1 stepX_all x (List.mem_range.2 h)
  simpa using this
theorem gfTab_lt : ∀ i, (gfTab i).2.2 < 256
  | 0 => show (1 : Nat) < 256 by omega
  | i + 1 => stepX_lt _ (gfTab_lt i)
theorem gfTab_len : ∀ i, (gfTab i).1.length = 255 ∧ (gfTab i).2.1.length = 256
  | 0 => ⟨List.length_replicate, List.length_replicate⟩
  | i + 1 => by
    have := gfTab_len i
    exact ⟨by rw [gfTab, List.length_set]; exact this.1, by rw [gfTab, List.length_set]; exact this.2⟩
def VB (n : Nat) : Value := .int .u8 n
def VI (n : Nat) : Value := .int .i64 n
def gfCells (i : Nat) : List Value := (gfTab i).1.map VB ++ (gfTab i).2.1.map VI
theorem gfCells_len (i : Nat) : (gfCells i).length = 511 := by simp [gfCells, gfTab_len]
theorem gfCells_succ (i : Nat) (h : i < 255) : ((gfCells i).set i (VB (gfTab i).2.2)).set (255 + (gfTab i).2.2) (VI i) = gfCells (i + 1) := by
  have h1 := gfTab_len i
  have h2 := gfTab_lt i
  simp only [gfCells, gfTab]
  rw [List.set_append_left _ _ (by simp [h1]; exact h), List.set_append_right _ _ (by simp [h1])]
  simp [h1, List.map_set]

/-- the field lies in block b -/
def FieldAt (w : World) (b : Nat) : Prop := ∃ e, w.heap[b]? = some (.cells (gfCells 255).toArray e (0, 0))
theorem FieldAt.fr {w w' : World} {M : Nat → Prop} {b : Nat} (h : FieldAt w b) (hf : Fr M w w') (hM : ¬ M b) : FieldAt w' b := by
  obtain ⟨e, h⟩ := h
  exact ⟨e, by rw [hf.same b (Array.getElem?_eq_some_iff.1 h).1 hM]; exact h⟩
theorem FieldAt.lt {w : World} {b : Nat} (h : FieldAt w b) : b < w.heap.size := by
  obtain ⟨e, h⟩ := h
  exact (Array.getElem?_eq_some_iff.1 h).1
def gexp (i : Nat) : Nat := (gfTab 255).1.getD i 0
def glog (a : Nat) : Nat := (gfTab 255).2.1.getD a 0
theorem FieldAt.exp {w : World} {b : Nat} (h : FieldAt w b) {i : Nat} (hi : i < 255) : w.cell? ⟨b, i, none⟩ = some (VB (gexp i)) := by
  obtain ⟨e, h⟩ := h
  have h1 := gfTab_len 255
  simp only [World.cell?, h, Option.isSome_none, Bool.false_eq_true, if_false, gfCells, gexp, List.getElem?_toArray]
  rw [List.getElem?_append_left (by simp [h1]; exact hi), List.getElem?_map, List.getD_eq_getElem?_getD, List.getElem?_eq_getElem (by omega)]
  rfl
theorem FieldAt.log {w : World} {b : Nat} (h : FieldAt w b) {a : Nat} (ha : a < 256) : w.cell? ⟨b, 255 + a, none⟩ = some (VI (glog a)) := by
  obtain ⟨e, h⟩ := h
  have h1 := gfTab_len 255
  simp only [World.cell?, h, Option.isSome_none, Bool.false_eq_true, if_false, gfCells, glog, List.getElem?_toArray]
  rw [List.getElem?_append_right (by simp [h1])]
  simp only [List.length_map, h1.1, Nat.add_sub_cancel_left, List.getElem?_map, List.getD_eq_getElem?_getD, List.getElem?_eq_getElem (show a < (gfTab 255).2.1.length by omega)]
  rfl
theorem tab_bounds : (gfTab 255).1.all (fun n => decide (n < 256)) = true ∧ (gfTab 255).2.1.all (fun n => decide (n < 255)) = true := by decide +kernel
theorem gexp_lt (i : Nat) : gexp i < 256 := by
  unfold gexp
  rw [List.getD_eq_getElem?_getD]
  cases h : (gfTab 255).1[i]? with
  | none => simp
  | some n => have := List.all_eq_true.1 tab_bounds.1 n (List.mem_of_getElem? h); simpa using this
theorem glog_lt (a : Nat) : glog a < 255 := by
  unfold glog
  rw [List.getD_eq_getElem?_getD]
  cases h : (gfTab 255).2.1[a]? with
  | none => simp
  | some n => have := List.all_eq_true.1 tab_bounds.2 n (List.mem_of_getElem? h); simpa using this
/-- product and contrary, by the tables -/
def gmul (a b : UInt8) : UInt8 := if a = 0 ∨ b = 0 then 0 else UInt8.ofNat (gexp ((glog a.toNat + glog b.toNat) % 255))
def ginv (a : UInt8) : UInt8 := if a = 0 then 0 else UInt8.ofNat (gexp ((255 - glog a.toNat) % 255))
theorem VB_u8 (n : Nat) (h : n < 256) : VB n = U8 (UInt8.ofNat n) := by
  unfold VB U8
  simp only [Value.int.injEq, true_and]
  rw [UInt8.toNat_ofNat']
  omega
end Go.Proofs.Ytgpkbldlkadnjaa
end
section
/- Walks: the field. -/
set_option linter.unusedVariables false
set_option linter.unusedSimpArgs false
namespace Go.Proofs.Ytgpkbldlkadnjaa
open Go Go.Sl Go.RowKit

theorem shl1 (x : Int) : x * 2 ^ (Nat.min 1 IntKind.i64.bits) = 2 * x := by
  have : Nat.min 1 IntKind.i64.bits = 1 := rfl
  rw [this]
  omega
theorem xor285 (x : Nat) (h : x < 65536) : IntKind.i64.wrap (BitVec.ofInt IntKind.i64.bits (2 * (x : Int)) ^^^ BitVec.ofInt IntKind.i64.bits 285).toNat = (((2 * x) ^^^ 285 : Nat) : Int) := by
  have h1 : BitVec.ofInt 64 (2 * (x : Int)) = BitVec.ofNat 64 (2 * x) := by
    apply BitVec.eq_of_toNat_eq
    simp
    omega
  have h2 : (BitVec.ofInt 64 (2 * (x : Int)) ^^^ BitVec.ofInt 64 285).toNat = (2 * x) ^^^ 285 := by
    rw [h1, BitVec.toNat_xor]
    have : (BitVec.ofInt 64 285).toNat = 285 := by decide
    rw [this, BitVec.toNat_ofNat, Nat.mod_eq_of_lt (by omega)]
  have h3 : (2 * x) ^^^ 285 < 2 ^ 18 := Nat.xor_lt_two_pow (by omega) (by omega)
  show IntKind.i64.wrap (((BitVec.ofInt 64 (2 * (x : Int)) ^^^ BitVec.ofInt 64 285).toNat : Nat) : Int) = _
  rw [h2, wrap_i64 (by omega)]

theorem gf_store {cs : List Value} {w : World} {b : Nat} {e : TypeId} (h : w.heap[b]? = some (.cells cs.toArray e (0, 0))) {j : Nat} {v : Value} (hj : j < cs.length) (h1 : v.oneCell' = true) {K : World → Prop} {t : TagF K}
    (k : ∀ w', w'.heap[b]? = some (.cells (cs.set j v).toArray e (0, 0)) → Fr (· = b) w w' → w'.heap.size = w.heap.size → K w') : Stn w ⟨b, j, none⟩ [v] K t := by
  refine stn1 h (by simpa using hj) (by simp) h1 fun w' hw hf hs => k w' ?_ hf hs
  rw [hw]
  simp

theorem gfCells_zero : gfCells 0 = List.replicate 255 (.int .u8 0) ++ List.replicate 256 (.int .i64 0) := by
  show (List.replicate 255 0).map VB ++ (List.replicate 256 0).map VI = _
  rw [List.map_replicate, List.map_replicate]
  rfl
theorem new_calls (w : World) : Calls Try.prog f_field_New #[] w fun en w' => ∃ r, en = .returned r ∧
    (r = .pointer (some ⟨w.heap.size, 0, none⟩) ∧ FieldAt w' w.heap.size ∧ Fr No w w') := by
  refine calls_of_mf (args := []) c_field_New (by simp only [m_field_New, List.length]; decide) ?_
  simp -dsimp (disch := omega) only [↓MC.wp, ↓opsWp, ↓drWp, ↓MOp.wp, evs, ev, eget, eput, eput?, pev, pbin, pint, pbool, pstr, psl, vnil, pbuild, overlay, ↓thenQ, ↓blockQ, ↓retQ, ↓resWp, tupV, stills, MOp.still, known, Op.operands, argEnv, ekeep, Nat.reduceAdd, reduceCtorEq, if_true, if_false, ↓reduceIte, ne_eq, Int.reduceEq, Int.reduceLT, Int.reduceLE, Int.reduceAdd, Int.reduceSub, Int.reduceMul, Int.reduceToNat, Nat.reduceMul, Nat.reduceLeDiff, Nat.reduceLT, Nat.reduceSub, WB, m_field_New]
  refine new fun b w1 hb hs hc hf => ?_
  simp -dsimp (disch := omega) only [↓MC.wp, ↓opsWp, ↓drWp, ↓MOp.wp, evs, ev, eget, eput, eput?, pev, pbin, pint, pbool, pstr, psl, vnil, pbuild, overlay, ↓thenQ, ↓blockQ, ↓retQ, ↓resWp, tupV, stills, MOp.still, known, Op.operands, argEnv, ekeep, Nat.reduceAdd, reduceCtorEq, if_true, if_false, ↓reduceIte, ne_eq, Int.reduceEq, Int.reduceLT, Int.reduceLE, Int.reduceAdd, Int.reduceSub, Int.reduceMul, Int.reduceToNat, Nat.reduceMul, Nat.reduceLeDiff, Nat.reduceLT, Nat.reduceSub, WB]
  have hc0 : w1.heap[b]? = some (.cells (gfCells 0).toArray t_field_Field (0, 0)) := by rw [gfCells_zero]; exact hc
  clear hc
  refine loopS [1, 2, 6] (fun k : Nat => [(1, .pointer (some ⟨b, 0, none⟩)), (2, .int .i64 ((gfTab k).2.2 : Nat)), (6, .int .i64 k)])
    (fun k w2 => k ≤ 255 ∧ w2.heap[b]? = some (.cells (gfCells k).toArray t_field_Field (0, 0)) ∧ Fr No w w2) (fun k _ => 255 - k) 0 rfl ⟨by omega, hc0, hf⟩ ?_
  clear hc0 hf hs
  rintro k w2 ⟨hk, hc, hf⟩
  have hx := gfTab_lt k
  have hlen := gfCells_len k
  by_cases hlt : k < 255
  · simp -dsimp (disch := omega) only [↓MC.wp, ↓opsWp, ↓drWp, ↓MOp.wp, evs, ev, eget, eput, eput?, pev, pbin, pint, pbool, pstr, psl, vnil, pbuild, overlay, ↓thenQ, ↓blockQ, ↓retQ, ↓resWp, tupV, stills, MOp.still, known, Op.operands, argEnv, ekeep, Nat.reduceAdd, reduceCtorEq, if_true, if_false, ↓reduceIte, ne_eq, Int.reduceEq, Int.reduceLT, Int.reduceLE, Int.reduceAdd, Int.reduceSub, Int.reduceMul, Int.reduceToNat, Nat.reduceMul, Nat.reduceLeDiff, Nat.reduceLT, Nat.reduceSub, WB, wrap_u8]
    refine gf_store (w := w2.drew) hc ?_ ?_ fun w3 hc3 hf3 hs3 => ?_
    · omega
    · rfl
    simp -dsimp (disch := omega) only [↓MC.wp, ↓opsWp, ↓drWp, ↓MOp.wp, evs, ev, eget, eput, eput?, pev, pbin, pint, pbool, pstr, psl, vnil, pbuild, overlay, ↓thenQ, ↓blockQ, ↓retQ, ↓resWp, tupV, stills, MOp.still, known, Op.operands, argEnv, ekeep, Nat.reduceAdd, reduceCtorEq, if_true, if_false, ↓reduceIte, ne_eq, Int.reduceEq, Int.reduceLT, Int.reduceLE, Int.reduceAdd, Int.reduceSub, Int.reduceMul, Int.reduceToNat, Nat.reduceMul, Nat.reduceLeDiff, Nat.reduceLT, Nat.reduceSub, WB]
    refine gf_store hc3 ?_ ?_ fun w4 hc4 hf4 hs4 => ?_
    · rw [List.length_set]; omega
    · rfl
    have hc5 : w4.heap[b]? = some (.cells (gfCells (k + 1)).toArray t_field_Field (0, 0)) := by rw [← gfCells_succ k hlt]; exact hc4
    have hf5 : Fr No w w4 := (hf.drew.step hf3 (fun c hc h => by omega)).step hf4 (fun c hc h => by omega)
    simp -dsimp (disch := omega) only [↓MC.wp, ↓opsWp, ↓drWp, ↓MOp.wp, evs, ev, eget, eput, eput?, pev, pbin, pint, pbool, pstr, psl, vnil, pbuild, overlay, ↓thenQ, ↓blockQ, ↓retQ, ↓resWp, tupV, stills, MOp.still, known, Op.operands, argEnv, ekeep, Nat.reduceAdd, reduceCtorEq, if_true, if_false, ↓reduceIte, ne_eq, Int.reduceEq, Int.reduceLT, Int.reduceLE, Int.reduceAdd, Int.reduceSub, Int.reduceMul, Int.reduceToNat, Nat.reduceMul, Nat.reduceLeDiff, Nat.reduceLT, Nat.reduceSub, WB, shl1]
    refine brd (fun hgt => ?_) (fun hle => ?_)
    · simp -dsimp (disch := omega) only [↓MC.wp, ↓opsWp, ↓drWp, ↓MOp.wp, evs, ev, eget, eput, eput?, pev, pbin, pint, pbool, pstr, psl, vnil, pbuild, overlay, ↓thenQ, ↓blockQ, ↓retQ, ↓resWp, tupV, stills, MOp.still, known, Op.operands, argEnv, ekeep, Nat.reduceAdd, reduceCtorEq, if_true, if_false, ↓reduceIte, ne_eq, Int.reduceEq, Int.reduceLT, Int.reduceLE, Int.reduceAdd, Int.reduceSub, Int.reduceMul, Int.reduceToNat, Nat.reduceMul, Nat.reduceLeDiff, Nat.reduceLT, Nat.reduceSub, WB, xor285]
      refine ⟨k + 1, ?_, ⟨by omega, hc5, hf5⟩, by omega⟩
      have : (gfTab (k + 1)).2.2 = (2 * (gfTab k).2.2) ^^^ 285 := by
        show stepX (gfTab k).2.2 = _
        unfold stepX
        rw [if_pos (by omega)]
      rw [this]
      rfl
    · simp -dsimp (disch := omega) only [↓MC.wp, ↓opsWp, ↓drWp, ↓MOp.wp, evs, ev, eget, eput, eput?, pev, pbin, pint, pbool, pstr, psl, vnil, pbuild, overlay, ↓thenQ, ↓blockQ, ↓retQ, ↓resWp, tupV, stills, MOp.still, known, Op.operands, argEnv, ekeep, Nat.reduceAdd, reduceCtorEq, if_true, if_false, ↓reduceIte, ne_eq, Int.reduceEq, Int.reduceLT, Int.reduceLE, Int.reduceAdd, Int.reduceSub, Int.reduceMul, Int.reduceToNat, Nat.reduceMul, Nat.reduceLeDiff, Nat.reduceLT, Nat.reduceSub, WB]
      refine ⟨k + 1, ?_, ⟨by omega, hc5, hf5⟩, by omega⟩
      have : (gfTab (k + 1)).2.2 = 2 * (gfTab k).2.2 := by
        show stepX (gfTab k).2.2 = _
        unfold stepX
        rw [if_neg (by omega)]
      rw [this]
      rfl
  · simp -dsimp (disch := omega) only [↓MC.wp, ↓opsWp, ↓drWp, ↓MOp.wp, evs, ev, eget, eput, eput?, pev, pbin, pint, pbool, pstr, psl, vnil, pbuild, overlay, ↓thenQ, ↓blockQ, ↓retQ, ↓resWp, tupV, stills, MOp.still, known, Op.operands, argEnv, ekeep, Nat.reduceAdd, reduceCtorEq, if_true, if_false, ↓reduceIte, ne_eq, Int.reduceEq, Int.reduceLT, Int.reduceLE, Int.reduceAdd, Int.reduceSub, Int.reduceMul, Int.reduceToNat, Nat.reduceMul, Nat.reduceLeDiff, Nat.reduceLT, Nat.reduceSub, WB]
    have hkk : k = 255 := by omega
    subst hkk
    subst hb
    exact ⟨rfl, ⟨t_field_Field, hc⟩, hf⟩

theorem u8_zero (x : UInt8) : x.toNat = 0 ↔ x = 0 := ⟨fun h => UInt8.toNat_inj.1 h, fun h => by rw [h]; rfl⟩
theorem mul_calls {w : World} {b : Nat} (hb : FieldAt w b) (x y : UInt8) : Calls Try.prog f_field_Field_Mul #[.pointer (some ⟨b, 0, none⟩), U8 x, U8 y] w fun en w' => ∃ r, en = .returned r ∧
    (r = U8 (gmul x y) ∧ Fr No w w') := by
  refine calls_of_mf (args := [.pointer (some ⟨b, 0, none⟩), U8 x, U8 y]) c_field_Field_Mul (by simp only [m_field_Field_Mul, List.length]; decide) ?_
  have hx := x.toNat_lt
  have hy := y.toNat_lt
  by_cases h0 : x.toNat = 0
  · simp -dsimp (disch := omega) only [↓MC.wp, ↓opsWp, ↓drWp, ↓MOp.wp, evs, ev, eget, eput, eput?, pev, pbin, pint, pbool, pstr, psl, vnil, pbuild, overlay, ↓thenQ, ↓blockQ, ↓retQ, ↓resWp, tupV, stills, MOp.still, known, Op.operands, argEnv, ekeep, Nat.reduceAdd, reduceCtorEq, if_true, if_false, ↓reduceIte, ne_eq, Int.reduceEq, Int.reduceLT, Int.reduceLE, Int.reduceAdd, Int.reduceSub, Int.reduceMul, Int.reduceToNat, Nat.reduceMul, Nat.reduceLeDiff, Nat.reduceLT, Nat.reduceSub, WB, m_field_Field_Mul, U8, dec_pos, dec_neg]
    refine ⟨?_, Fr.refl _ _⟩
    simp [gmul, (u8_zero x).1 h0]
  · by_cases h1 : y.toNat = 0
    · simp -dsimp (disch := omega) only [↓MC.wp, ↓opsWp, ↓drWp, ↓MOp.wp, evs, ev, eget, eput, eput?, pev, pbin, pint, pbool, pstr, psl, vnil, pbuild, overlay, ↓thenQ, ↓blockQ, ↓retQ, ↓resWp, tupV, stills, MOp.still, known, Op.operands, argEnv, ekeep, Nat.reduceAdd, reduceCtorEq, if_true, if_false, ↓reduceIte, ne_eq, Int.reduceEq, Int.reduceLT, Int.reduceLE, Int.reduceAdd, Int.reduceSub, Int.reduceMul, Int.reduceToNat, Nat.reduceMul, Nat.reduceLeDiff, Nat.reduceLT, Nat.reduceSub, WB, m_field_Field_Mul, U8, dec_pos, dec_neg]
      refine ⟨?_, Fr.refl _ _⟩
      simp [gmul, (u8_zero y).1 h1]
    · have e1 := hb.log (a := x.toNat) (by omega)
      have e2 := hb.log (a := y.toNat) (by omega)
      have hm : (glog x.toNat + glog y.toNat) % 255 < 255 := Nat.mod_lt _ (by omega)
      have e3 := hb.exp hm
      have l1 := glog_lt x.toNat
      have l2 := glog_lt y.toNat
      have hh : ((glog x.toNat : Int) + (glog y.toNat : Int)) % 255 = (((glog x.toNat + glog y.toNat) % 255 : Nat) : Int) := by omega
      simp -dsimp (disch := omega) only [↓MC.wp, ↓opsWp, ↓drWp, ↓MOp.wp, evs, ev, eget, eput, eput?, pev, pbin, pint, pbool, pstr, psl, vnil, pbuild, overlay, ↓thenQ, ↓blockQ, ↓retQ, ↓resWp, tupV, stills, MOp.still, known, Op.operands, argEnv, ekeep, Nat.reduceAdd, reduceCtorEq, if_true, if_false, ↓reduceIte, ne_eq, Int.reduceEq, Int.reduceLT, Int.reduceLE, Int.reduceAdd, Int.reduceSub, Int.reduceMul, Int.reduceToNat, Nat.reduceMul, Nat.reduceLeDiff, Nat.reduceLT, Nat.reduceSub, WB, m_field_Field_Mul, U8, dec_pos, dec_neg, e1, e2, e3, VI, VB, hh]
      refine ⟨?_, (Fr.refl _ _).drew⟩
      have := VB_u8 (gexp ((glog x.toNat + glog y.toNat) % 255)) (gexp_lt _)
      rw [gmul, if_neg (by rw [← u8_zero x, ← u8_zero y]; omega)]
      exact this
theorem inv_calls {w : World} {b : Nat} (hb : FieldAt w b) (x : UInt8) : Calls Try.prog f_field_Field_Inv #[.pointer (some ⟨b, 0, none⟩), U8 x] w fun en w' => ∃ r, en = .returned r ∧
    (r = U8 (ginv x) ∧ Fr No w w') := by
  refine calls_of_mf (args := [.pointer (some ⟨b, 0, none⟩), U8 x]) c_field_Field_Inv (by simp only [m_field_Field_Inv, List.length]; decide) ?_
  have hx := x.toNat_lt
  by_cases h0 : x.toNat = 0
  · simp -dsimp (disch := omega) only [↓MC.wp, ↓opsWp, ↓drWp, ↓MOp.wp, evs, ev, eget, eput, eput?, pev, pbin, pint, pbool, pstr, psl, vnil, pbuild, overlay, ↓thenQ, ↓blockQ, ↓retQ, ↓resWp, tupV, stills, MOp.still, known, Op.operands, argEnv, ekeep, Nat.reduceAdd, reduceCtorEq, if_true, if_false, ↓reduceIte, ne_eq, Int.reduceEq, Int.reduceLT, Int.reduceLE, Int.reduceAdd, Int.reduceSub, Int.reduceMul, Int.reduceToNat, Nat.reduceMul, Nat.reduceLeDiff, Nat.reduceLT, Nat.reduceSub, WB, m_field_Field_Inv, U8]
    refine ⟨?_, Fr.refl _ _⟩
    simp [ginv, (u8_zero x).1 h0]
  · have e1 := hb.log (a := x.toNat) (by omega)
    have l1 := glog_lt x.toNat
    have hm : (255 - glog x.toNat) % 255 < 255 := Nat.mod_lt _ (by omega)
    have e3 := hb.exp hm
    have hh : ((255 : Int) - (glog x.toNat : Int)) % 255 = (((255 - glog x.toNat) % 255 : Nat) : Int) := by omega
    simp -dsimp (disch := omega) only [↓MC.wp, ↓opsWp, ↓drWp, ↓MOp.wp, evs, ev, eget, eput, eput?, pev, pbin, pint, pbool, pstr, psl, vnil, pbuild, overlay, ↓thenQ, ↓blockQ, ↓retQ, ↓resWp, tupV, stills, MOp.still, known, Op.operands, argEnv, ekeep, Nat.reduceAdd, reduceCtorEq, if_true, if_false, ↓reduceIte, ne_eq, Int.reduceEq, Int.reduceLT, Int.reduceLE, Int.reduceAdd, Int.reduceSub, Int.reduceMul, Int.reduceToNat, Nat.reduceMul, Nat.reduceLeDiff, Nat.reduceLT, Nat.reduceSub, WB, m_field_Field_Inv, U8, e1, e3, VI, VB, hh]
    refine ⟨?_, (Fr.refl _ _).drew⟩
    have := VB_u8 (gexp ((255 - glog x.toNat) % 255)) (gexp_lt _)
    rw [ginv, if_neg (by rw [← u8_zero x]; omega)]
    exact this
end Go.Proofs.Ytgpkbldlkadnjaa
end
section
/- Walks: rows of products, copies. -/
set_option linter.unusedVariables false
set_option linter.unusedSimpArgs false
namespace Go.Sl
/-- the row begins in new memory -/
def New' (B : Nat) (v : Value) : Prop := ∀ b, v.ownBlock = some b → B ≤ b
theorem New'.nil (B : Nat) : New' B (.slice none 0 0) := fun b h => by cases h
theorem New'.mono {B B' : Nat} {v : Value} (h : New' B v) (hb : B' ≤ B) : New' B' v := fun b hh => Nat.le_trans hb (h b hh)
theorem New'.app {B : Nat} {v v' : Value} {s s' : Nat} (h : New' B v) (hs : B ≤ s) (hat : v'.ownBlock = v.ownBlock ∨ ∃ b, v'.ownBlock = some b ∧ s ≤ b ∧ b < s') : New' B v' := by
  intro b hb
  rcases hat with hat | ⟨c, hc, h1, _⟩
  · exact h b (hat ▸ hb)
  · rw [hc] at hb; cases hb; omega
/-- what a new row's write leaves -/
theorem Fr.own {w w1 w2 : World} {v : Value} {M : Nat → Prop} (h : Fr M w w1) (hv : New' w.heap.size v) (k : Fr (fun b => v.ownBlock = some b) w1 w2) : Fr M w w2 :=
  h.step k fun b hb hM => absurd (hv b hM) (by omega)
end Go.Sl
namespace Go.Proofs.Ytgpkbldlkadnjaa
open Go Go.Sl Go.RowKit

/-- a new row of bytes -/
def NewRow (B : Nat) (w : World) (r : Value) (xs : List UInt8) : Prop := Ow w 5 1 r xs.length (xs.map U8) ∧ New' B r

theorem row_calls {w : World} {b : Nat} (hb : FieldAt w b) (c : UInt8) {B : Nat} {v : Value} {xs : List UInt8} (hx : BS w B v xs) (hB : B ≤ w.heap.size) (hl : xs.length ≤ 70368744177664) :
    Calls Try.prog f_field_Field_Row #[.pointer (some ⟨b, 0, none⟩), U8 c, v] w fun en w' => ∃ r, en = .returned r ∧ (NewRow w.heap.size w' r (xs.map (gmul c)) ∧ Fr No w w') := by
  obtain ⟨A, cp, rfl, hc, hr⟩ := hx.open
  refine calls_of_mf (args := [.pointer (some ⟨b, 0, none⟩), U8 c, .slice A xs.length cp]) c_field_Field_Row (by simp only [m_field_Field_Row, List.length]; decide) ?_
  simp -dsimp (disch := omega) only [↓MC.wp, ↓opsWp, ↓drWp, ↓MOp.wp, evs, ev, eget, eput, eput?, pev, pbin, pint, pbool, pstr, psl, vnil, pbuild, overlay, ↓thenQ, ↓blockQ, ↓retQ, ↓resWp, tupV, stills, MOp.still, known, Op.operands, argEnv, ekeep, Nat.reduceAdd, reduceCtorEq, if_true, if_false, ↓reduceIte, ne_eq, Int.reduceEq, Int.reduceLT, Int.reduceLE, Int.reduceAdd, Int.reduceSub, Int.reduceMul, Int.reduceToNat, Nat.reduceMul, Nat.reduceLeDiff, Nat.reduceLT, Nat.reduceSub, WB, m_field_Field_Row, U8]
  refine loopS [1, 7, 8, 13, 14, 15] (fun s : Nat × Value => [(1, U8 c), (7, .func (.func f_field_Field_Mul) #[.pointer (some ⟨b, 0, none⟩)] #[]), (8, s.2), (13, .slice A xs.length cp), (14, .int .i64 xs.length), (15, .int .i64 s.1)])
    (fun s w1 => s.1 ≤ xs.length ∧ Ow w1 5 1 s.2 s.1 (((xs.take s.1).map (gmul c)).map U8) ∧ New' w.heap.size s.2 ∧ Fr No w w1) (fun s _ => xs.length - s.1) (0, .slice none 0 0) rfl
    ⟨Nat.zero_le _, Ow.nil w 5 1, New'.nil _, Fr.refl _ _⟩ ?_
  rintro ⟨k, o⟩ w1 ⟨hk, ho, hn, hf⟩
  dsimp only at hk ho hn ⊢
  by_cases hlt : k < xs.length
  · obtain ⟨ad, rfl, had, hcell⟩ := hr k hlt
    have hc1 : w1.cell? (ad.add k) = some (U8 xs[k]) := by rw [hf.cell (cell_block_lt hcell) (fun h => h)]; exact hcell
    simp -dsimp (disch := omega) only [↓MC.wp, ↓opsWp, ↓drWp, ↓MOp.wp, evs, ev, eget, eput, eput?, pev, pbin, pint, pbool, pstr, psl, vnil, pbuild, overlay, ↓thenQ, ↓blockQ, ↓retQ, ↓resWp, tupV, stills, MOp.still, known, Op.operands, argEnv, ekeep, Nat.reduceAdd, reduceCtorEq, if_true, if_false, ↓reduceIte, ne_eq, Int.reduceEq, Int.reduceLT, Int.reduceLE, Int.reduceAdd, Int.reduceSub, Int.reduceMul, Int.reduceToNat, Nat.reduceMul, Nat.reduceLeDiff, Nat.reduceLT, Nat.reduceSub, WB, hc1, hb60]
    have hb1 : FieldAt w1 b := hb.fr hf fun h => h
    refine call (mul_calls hb1 c xs[k]) fun r w2 ⟨hr, hf2⟩ => ?_
    subst hr
    simp -dsimp (disch := omega) only [↓MC.wp, ↓opsWp, ↓drWp, ↓MOp.wp, evs, ev, eget, eput, eput?, pev, pbin, pint, pbool, pstr, psl, vnil, pbuild, overlay, ↓thenQ, ↓blockQ, ↓retQ, ↓resWp, tupV, stills, MOp.still, known, Op.operands, argEnv, ekeep, Nat.reduceAdd, reduceCtorEq, if_true, if_false, ↓reduceIte, ne_eq, Int.reduceEq, Int.reduceLT, Int.reduceLE, Int.reduceAdd, Int.reduceSub, Int.reduceMul, Int.reduceToNat, Nat.reduceMul, Nat.reduceLeDiff, Nat.reduceLT, Nat.reduceSub, WB, U8]
    refine new fun b2 w3 hb2 hs3 hc3 hf3 => ?_
    simp -dsimp (disch := omega) only [↓MC.wp, ↓opsWp, ↓drWp, ↓MOp.wp, evs, ev, eget, eput, eput?, pev, pbin, pint, pbool, pstr, psl, vnil, pbuild, overlay, ↓thenQ, ↓blockQ, ↓retQ, ↓resWp, tupV, stills, MOp.still, known, Op.operands, argEnv, ekeep, Nat.reduceAdd, reduceCtorEq, if_true, if_false, ↓reduceIte, ne_eq, Int.reduceEq, Int.reduceLT, Int.reduceLE, Int.reduceAdd, Int.reduceSub, Int.reduceMul, Int.reduceToNat, Nat.reduceMul, Nat.reduceLeDiff, Nat.reduceLT, Nat.reduceSub, WB]
    have ho3 := (ho.no hf2).no hf3
    refine app elB ho3 (m := 1) (src_lit hc3 1) ?_ ?_ ?_ ?_ fun v4 w4 ho4 hf4 hat => ?_
    · rfl
    · intro u hu; simp at hu; subst hu; rfl
    · omega
    · omega
    · simp -dsimp (disch := omega) only [↓MC.wp, ↓opsWp, ↓drWp, ↓MOp.wp, evs, ev, eget, eput, eput?, pev, pbin, pint, pbool, pstr, psl, vnil, pbuild, overlay, ↓thenQ, ↓blockQ, ↓retQ, ↓resWp, tupV, stills, MOp.still, known, Op.operands, argEnv, ekeep, Nat.reduceAdd, reduceCtorEq, if_true, if_false, ↓reduceIte, ne_eq, Int.reduceEq, Int.reduceLT, Int.reduceLE, Int.reduceAdd, Int.reduceSub, Int.reduceMul, Int.reduceToNat, Nat.reduceMul, Nat.reduceLeDiff, Nat.reduceLT, Nat.reduceSub, WB]
      have hf5 : Fr No w w3 := (hf.then hf2).then hf3
      refine ⟨(k + 1, v4), rfl, ⟨by dsimp only; omega, ?_, hn.app hf5.size hat, hf5.own hn hf4⟩, by dsimp only; omega⟩
      have : ((xs.take (k + 1)).map (gmul c)).map U8 = ((xs.take k).map (gmul c)).map U8 ++ [U8 (gmul c xs[k])] := by
        rw [List.take_succ_eq_append_getElem hlt, List.map_append, List.map_append]
        rfl
      dsimp only
      rw [this]
      exact ho4
  · simp -dsimp (disch := omega) only [↓MC.wp, ↓opsWp, ↓drWp, ↓MOp.wp, evs, ev, eget, eput, eput?, pev, pbin, pint, pbool, pstr, psl, vnil, pbuild, overlay, ↓thenQ, ↓blockQ, ↓retQ, ↓resWp, tupV, stills, MOp.still, known, Op.operands, argEnv, ekeep, Nat.reduceAdd, reduceCtorEq, if_true, if_false, ↓reduceIte, ne_eq, Int.reduceEq, Int.reduceLT, Int.reduceLE, Int.reduceAdd, Int.reduceSub, Int.reduceMul, Int.reduceToNat, Nat.reduceMul, Nat.reduceLeDiff, Nat.reduceLT, Nat.reduceSub, WB]
    have hkk : k = xs.length := by omega
    subst hkk
    rw [List.take_length] at ho
    exact ⟨⟨by simpa using ho, hn⟩, hf⟩

theorem clone_calls {w : World} {B : Nat} {v : Value} {xs : List UInt8} (hx : BS w B v xs) (hB : B ≤ w.heap.size) (hl : xs.length ≤ 70368744177664) :
    Calls Try.prog f_slices_Clone #[v] w fun en w' => ∃ r, en = .returned r ∧ (NewRow w.heap.size w' r xs ∧ Fr No w w') := by
  obtain ⟨A, cp, rfl, hc, hr⟩ := hx.open
  refine calls_of_mf (args := [.slice A xs.length cp]) c_slices_Clone (by simp only [m_slices_Clone, List.length]; decide) ?_
  cases A with
  | none =>
    simp -dsimp (disch := omega) only [↓MC.wp, ↓opsWp, ↓drWp, ↓MOp.wp, evs, ev, eget, eput, eput?, pev, pbin, pint, pbool, pstr, psl, vnil, pbuild, overlay, ↓thenQ, ↓blockQ, ↓retQ, ↓resWp, tupV, stills, MOp.still, known, Op.operands, argEnv, ekeep, Nat.reduceAdd, reduceCtorEq, if_true, if_false, ↓reduceIte, ne_eq, Int.reduceEq, Int.reduceLT, Int.reduceLE, Int.reduceAdd, Int.reduceSub, Int.reduceMul, Int.reduceToNat, Nat.reduceMul, Nat.reduceLeDiff, Nat.reduceLT, Nat.reduceSub, WB, m_slices_Clone]
    have h0 : xs = [] := by
      cases xs with
      | nil => rfl
      | cons x xs => obtain ⟨_, e, _⟩ := hr 0 (by simp); cases e
    subst h0
    exact ⟨⟨Ow.nil w 5 1, New'.nil _⟩, Fr.refl _ _⟩
  | some ad =>
    simp -dsimp (disch := omega) only [↓MC.wp, ↓opsWp, ↓drWp, ↓MOp.wp, evs, ev, eget, eput, eput?, pev, pbin, pint, pbool, pstr, psl, vnil, pbuild, overlay, ↓thenQ, ↓blockQ, ↓retQ, ↓resWp, tupV, stills, MOp.still, known, Op.operands, argEnv, ekeep, Nat.reduceAdd, reduceCtorEq, if_true, if_false, ↓reduceIte, ne_eq, Int.reduceEq, Int.reduceLT, Int.reduceLE, Int.reduceAdd, Int.reduceSub, Int.reduceMul, Int.reduceToNat, Nat.reduceMul, Nat.reduceLeDiff, Nat.reduceLT, Nat.reduceSub, WB, m_slices_Clone]
    refine new fun b2 w2 hb2 hs2 hc2 hf2 => ?_
    simp -dsimp (disch := omega) only [↓MC.wp, ↓opsWp, ↓drWp, ↓MOp.wp, evs, ev, eget, eput, eput?, pev, pbin, pint, pbool, pstr, psl, vnil, pbuild, overlay, ↓thenQ, ↓blockQ, ↓retQ, ↓resWp, tupV, stills, MOp.still, known, Op.operands, argEnv, ekeep, Nat.reduceAdd, reduceCtorEq, if_true, if_false, ↓reduceIte, ne_eq, Int.reduceEq, Int.reduceLT, Int.reduceLE, Int.reduceAdd, Int.reduceSub, Int.reduceMul, Int.reduceToNat, Nat.reduceMul, Nat.reduceLeDiff, Nat.reduceLT, Nat.reduceSub, WB]
    refine app elB (Ow.lit (n := 0) hc2 rfl (by omega)) ((hx.fr hf2 fun _ _ h => h).src) ?_ ?_ ?_ ?_ fun v4 w4 ho4 hf4 hat => ?_
    · simp
    · intro u hu; obtain ⟨x, _, rfl⟩ := List.mem_map.1 hu; rfl
    · omega
    · omega
    · simp -dsimp (disch := omega) only [↓MC.wp, ↓opsWp, ↓drWp, ↓MOp.wp, evs, ev, eget, eput, eput?, pev, pbin, pint, pbool, pstr, psl, vnil, pbuild, overlay, ↓thenQ, ↓blockQ, ↓retQ, ↓resWp, tupV, stills, MOp.still, known, Op.operands, argEnv, ekeep, Nat.reduceAdd, reduceCtorEq, if_true, if_false, ↓reduceIte, ne_eq, Int.reduceEq, Int.reduceLT, Int.reduceLE, Int.reduceAdd, Int.reduceSub, Int.reduceMul, Int.reduceToNat, Nat.reduceMul, Nat.reduceLeDiff, Nat.reduceLT, Nat.reduceSub, WB]
      have hn : New' w.heap.size (.slice (some ⟨b2, 0, none⟩) 0 0) := fun c hc => by cases hc; show w.heap.size ≤ b2; omega
      refine ⟨⟨?_, hn.app hf2.size hat⟩, hf2.own hn hf4⟩
      simpa using ho4
end Go.Proofs.Ytgpkbldlkadnjaa
end
section
/- Words on matrices that are owned: a row of rows. -/
set_option linter.unusedVariables false
set_option linter.unusedSimpArgs false
namespace Go.Proofs.Ytgpkbldlkadnjaa
open Go Go.Sl Go.RowKit

/-- a matrix in memory of one's own: its spine r, the values of its rows -/
structure OM (w : World) (r : Value) (vs : List Value) (m : List (List UInt8)) : Prop where
  len : vs.length = m.length
  spine : Ow w 29 1 r m.length vs
  row : ∀ (j : Nat) (u : Value) (x : List UInt8), vs[j]? = some u → m[j]? = some x → Ow w 5 1 u x.length (x.map U8)
/-- the blocks that it takes -/
def Has (r : Value) (vs : List Value) (b : Nat) : Prop := r.ownBlock = some b ∨ ∃ (j : Nat) (u : Value), vs[j]? = some u ∧ u.ownBlock = some b
/-- no two of them the same -/
structure Dis (r : Value) (vs : List Value) : Prop where
  spine : ∀ (j : Nat) (u : Value) (b : Nat), vs[j]? = some u → u.ownBlock = some b → r.ownBlock ≠ some b
  rows : ∀ (i j : Nat) (u v : Value) (b : Nat), i ≠ j → vs[i]? = some u → vs[j]? = some v → u.ownBlock = some b → v.ownBlock ≠ some b

theorem OM.nil (w : World) : OM w (.slice none 0 0) [] [] := ⟨rfl, Ow.nil w 29 1, fun j u x h => by simp at h⟩
theorem Dis.nil (r : Value) : Dis r [] := ⟨fun j u b h => by simp at h, fun i j u v b _ h => by simp at h⟩
theorem Has.nil (b : Nat) : ¬ Has (.slice none 0 0) [] b := by
  rintro (h | ⟨j, u, h, _⟩)
  · cases h
  · simp at h
theorem OM.fr {w w' : World} {M : Nat → Prop} {r : Value} {vs : List Value} {m : List (List UInt8)} (h : OM w r vs m) (hf : Fr M w w') (hM : ∀ b, Has r vs b → ¬ M b) : OM w' r vs m :=
  ⟨h.len, h.spine.fr hf fun b hb => hM b (.inl hb), fun j u x hu hx => (h.row j u x hu hx).fr hf fun b hb => hM b (.inr ⟨j, u, hu, hb⟩)⟩
theorem OM.no {w w' : World} {r : Value} {vs : List Value} {m : List (List UInt8)} (h : OM w r vs m) (hf : Fr No w w') : OM w' r vs m := h.fr hf fun _ _ h => h
theorem OM.lt {w : World} {r : Value} {vs : List Value} {m : List (List UInt8)} (h : OM w r vs m) {b : Nat} (hb : Has r vs b) : b < w.heap.size := by
  rcases hb with hb | ⟨j, u, hu, hb⟩
  · exact h.spine.lt hb
  · have : j < m.length := by have := (List.getElem?_eq_some_iff.1 hu).1; rw [h.len] at this; exact this
    exact (h.row j u m[j] hu (List.getElem?_eq_getElem this)).lt hb
/-- as a matrix that is read -/
theorem OM.ms {w : World} {r : Value} {vs : List Value} {m : List (List UInt8)} (h : OM w r vs m) {B : Nat} (hB : ∀ b, Has r vs b → b < B) : MS w B r m := by
  refine ⟨vs, ?_, h.len, fun j u x hu hx => (h.row j u x hu hx).bs fun b hb => hB b (.inr ⟨j, u, hu, hb⟩)⟩
  have := h.spine
  rw [← h.len] at this
  exact this.rs fun b hb => hB b (.inl hb)
/-- a row more -/
theorem OM.push {w w1 w2 : World} {r r' u : Value} {vs : List Value} {m : List (List UInt8)} {x : List UInt8} (h : OM w r vs m) (hf : Fr (fun b => r.ownBlock = some b) w w1) (hsp : Ow w1 29 1 r' (m.length + 1) (vs ++ [u]))
    (hu : Ow w 5 1 u x.length (x.map U8)) (hd : Dis r vs) (hu1 : ∀ b, u.ownBlock = some b → r.ownBlock ≠ some b) : OM w1 r' (vs ++ [u]) (m ++ [x]) := by
  refine ⟨by simp [h.len], by simpa using hsp, fun j v y hv hy => ?_⟩
  by_cases hj : j < m.length
  · rw [List.getElem?_append_left (by rw [h.len]; exact hj)] at hv
    rw [List.getElem?_append_left hj] at hy
    exact (h.row j v y hv hy).fr hf fun b hb hM => hd.spine j v b hv hb hM
  · rw [List.getElem?_append_right (by rw [h.len]; omega)] at hv
    rw [List.getElem?_append_right (by omega)] at hy
    rw [h.len] at hv
    cases hk : j - m.length with
    | zero =>
      rw [hk] at hv hy
      simp only [List.getElem?_cons_zero, Option.some.injEq] at hv hy
      subst hv
      subst hy
      exact hu.fr hf fun b hb hM => hu1 b hb hM
    | succ k => rw [hk] at hv; simp at hv
theorem Dis.push {r r' u : Value} {vs : List Value} (hd : Dis r vs) (hr : ∀ b, r'.ownBlock = some b → (¬ ∃ (j : Nat) (v : Value), vs[j]? = some v ∧ v.ownBlock = some b) ∧ u.ownBlock ≠ some b)
    (hu : ∀ b, u.ownBlock = some b → ¬ ∃ (j : Nat) (v : Value), vs[j]? = some v ∧ v.ownBlock = some b) : Dis r' (vs ++ [u]) := by
  have key : ∀ j v, (vs ++ [u])[j]? = some v → vs[j]? = some v ∨ (j = vs.length ∧ v = u) := by
    intro j v hv
    by_cases hj : j < vs.length
    · rw [List.getElem?_append_left hj] at hv; exact .inl hv
    · rw [List.getElem?_append_right (by omega)] at hv
      cases hk : j - vs.length with
      | zero => rw [hk] at hv; simp at hv; exact .inr ⟨by omega, hv.symm⟩
      | succ k => rw [hk] at hv; simp at hv
  refine ⟨fun j v b hv hb hrb => ?_, fun i j v v' b hij hv hv' hb hb' => ?_⟩
  · rcases key j v hv with h | ⟨_, rfl⟩
    · exact (hr b hrb).1 ⟨j, v, h, hb⟩
    · exact (hr b hrb).2 hb
  · rcases key i v hv with h | ⟨e, rfl⟩ <;> rcases key j v' hv' with h' | ⟨e', rfl⟩
    · exact hd.rows i j v v' b hij h h' hb hb'
    · exact hu b hb' ⟨i, v, h, hb⟩
    · exact hu b hb ⟨j, v', h', hb'⟩
    · omega
/-- new memory alone -/
def NewM (B : Nat) (r : Value) (vs : List Value) : Prop := ∀ b, Has r vs b → B ≤ b
/-- a new matrix -/
def NewMat (B : Nat) (w : World) (r : Value) (m : List (List UInt8)) : Prop := ∃ vs, OM w r vs m ∧ Dis r vs ∧ NewM B r vs
theorem NewMat.nil (B : Nat) (w : World) : NewMat B w (.slice none 0 0) [] := ⟨[], OM.nil w, Dis.nil _, fun b h => absurd h (Has.nil b)⟩
theorem NewMat.no {B : Nat} {w w' : World} {r : Value} {m : List (List UInt8)} (h : NewMat B w r m) (hf : Fr No w w') : NewMat B w' r m := by
  obtain ⟨vs, h1, h2, h3⟩ := h
  exact ⟨vs, h1.no hf, h2, h3⟩
theorem NewMat.ms {B : Nat} {w : World} {r : Value} {m : List (List UInt8)} (h : NewMat B w r m) : MS w w.heap.size r m := by
  obtain ⟨vs, h1, h2, h3⟩ := h
  exact h1.ms fun b hb => h1.lt hb

/-- a new row is appended to a new matrix (the step of the loops that build one) -/
theorem push_row {w0 w1 w : World} {r u : Value} {m : List (List UInt8)} {x : List UInt8} (hm1 : NewMat w0.heap.size w1 r m) (hf01 : Fr No w0 w1) (hf1 : Fr No w1 w) (hu1 : NewRow w1.heap.size w u x)
    (hl : m.length ≤ 1000000) {b2 c : Nat} {w2 : World} (hb2 : b2 = w.heap.size) (hs2 : w2.heap.size = b2 + 1)
    (hc2 : w2.heap[b2]? = some (.cells #[u] 29 (0, 0))) (hf2 : Fr No w w2) {K : Value → World → Prop} {tg : TagF K}
    (k : ∀ r' w', NewMat w0.heap.size w' r' (m ++ [x]) → Fr No w0 w' → K r' w') :
    Run Try.prog (Builtin.append_ #[22, 22] 22 #[r, .slice (some ⟨b2, 0, none⟩) 1 c]) w2 K tg := by
  obtain ⟨vs, h10, h2, h3⟩ := hm1
  obtain ⟨hu, hn⟩ := hu1
  have hlt : ∀ b, Has r vs b → b < w1.heap.size := fun b hb => h10.lt hb
  have h1 := h10.no hf1
  have hf0 := hf01.then hf1
  have hsz := hf1.size
  have hsz0 := hf01.size
  have hm2 := h1.no hf2
  have hu2 := hu.no hf2
  refine app elM hm2.spine (m := 1) (src_lit hc2 c) rfl ?_ (by omega) (by omega) fun v4 w4 ho4 hf4 hat => ?_
  · intro v hv
    simp at hv
    subst hv
    rcases hu.form with ⟨rfl, _⟩ | ⟨g, cap, cur, rfl, _⟩ <;> rfl
  · have hne : ∀ b, u.ownBlock = some b → r.ownBlock ≠ some b := fun b hb hr => by
      have := hn b hb
      have := hlt b (.inl hr)
      omega
    have hu0 : ∀ b, u.ownBlock = some b → b < w.heap.size := fun b hb => hu.lt hb
    refine k v4 w4 ⟨vs ++ [u], hm2.push (w2 := w4) hf4 ?_ hu2 h2 hne, ?_, ?_⟩ ?_
    · simpa using ho4
    · refine h2.push (fun b hb => ?_) (fun b hb => ?_)
      · rcases hat with hat | ⟨b', hb', hge, _⟩
        · rw [hat] at hb
          exact ⟨fun ⟨j, v, hv, hvb⟩ => h2.spine j v b hv hvb hb, fun hub => hne b hub hb⟩
        · rw [hb'] at hb
          cases hb
          refine ⟨fun ⟨j, v, hv, hvb⟩ => ?_, fun hub => ?_⟩
          · have := h1.lt (.inr ⟨j, v, hv, hvb⟩); omega
          · have := hu0 b hub; omega
      · rintro ⟨j, v, hv, hvb⟩
        have := hn b hb
        have := hlt b (.inr ⟨j, v, hv, hvb⟩)
        omega
    · rintro b (hb | ⟨j, v, hv, hvb⟩)
      · rcases hat with hat | ⟨b', hb', hge, _⟩
        · rw [hat] at hb; exact h3 b (.inl hb)
        · rw [hb'] at hb
          cases hb
          have := hf0.size
          omega
      · by_cases hj : j < vs.length
        · rw [List.getElem?_append_left hj] at hv
          exact h3 b (.inr ⟨j, v, hv, hvb⟩)
        · rw [List.getElem?_append_right (by omega)] at hv
          cases hk : j - vs.length with
          | zero => rw [hk] at hv; simp at hv; subst hv; have := hn b hvb; omega
          | succ k => rw [hk] at hv; simp at hv
    · exact (hf0.then hf2).step hf4 fun b hb hr => absurd (h3 b (.inl hr)) (by omega)
end Go.Proofs.Ytgpkbldlkadnjaa
end
section
/- Walks: matrix.plus. -/
set_option linter.unusedVariables false
set_option linter.unusedSimpArgs false
namespace Go.Proofs.Ytgpkbldlkadnjaa
open Go Go.Sl Go.RowKit

/-- turned by one another, place by place -/
def xorL : List UInt8 → List UInt8 → List UInt8
  | a :: xs, b :: ys => (a ^^^ b) :: xorL xs ys
  | xs, _ => xs

theorem xorL_length : ∀ (xs ys : List UInt8), (xorL xs ys).length = xs.length
  | [], _ => by cases ‹List UInt8› <;> rfl
  | _ :: _, [] => rfl
  | x :: xs, y :: ys => by simp [xorL, xorL_length xs ys]
theorem xorL_nil (xs : List UInt8) : xorL xs [] = xs := by cases xs <;> rfl
theorem xorL_take : ∀ (xs ys : List UInt8) (k : Nat) (h : k < ys.length) (h' : k < xs.length),
    (xorL xs (ys.take k))[k]? = some xs[k] ∧ (xorL xs (ys.take k)).set k (xs[k] ^^^ ys[k]) = xorL xs (ys.take (k + 1))
  | [], ys, k, h, h' => by simp at h'
  | x :: xs, [], k, h, h' => by simp at h
  | x :: xs, y :: ys, 0, h, h' => by simp [xorL, xorL_nil]
  | x :: xs, y :: ys, k + 1, h, h' => by
    obtain ⟨h1, h2⟩ := xorL_take xs ys k (by simpa using h) (by simpa using h')
    simp only [List.take_succ_cons, xorL, List.getElem?_cons_succ, List.getElem_cons_succ, List.set_cons_succ]
    exact ⟨h1, by rw [h2]⟩
theorem xor_u8' (a b : UInt8) : IntKind.u8.wrap (BitVec.ofInt 8 (a.toNat : Int) ^^^ BitVec.ofInt 8 (b.toNat : Int)).toNat = ((a ^^^ b).toNat : Int) := by
  have h1 : ∀ x : UInt8, BitVec.ofInt 8 (x.toNat : Int) = x.toBitVec := fun x => by
    apply BitVec.eq_of_toNat_eq
    simp
  rw [h1, h1, ← UInt8.toBitVec_xor]
  rw [wrap_u8 (by have := (a ^^^ b).toBitVec.isLt; omega)]
  rfl
theorem xor_u8 (a b : UInt8) : IntKind.u8.wrap (BitVec.ofInt IntKind.u8.bits (a.toNat : Int) ^^^ BitVec.ofInt IntKind.u8.bits (b.toNat : Int)).toNat = ((a ^^^ b).toNat : Int) := xor_u8' a b

/-- bytes that are read, none of them in block g -/
def BN (w : World) (g : Nat) (v : Value) (xs : List UInt8) : Prop := ∃ A c, v = .slice A xs.length c ∧ ∀ j (hj : j < xs.length), ∃ ad, A = some ad ∧ ad.block ≠ g ∧ w.cell? (ad.add j) = some (U8 xs[j])
theorem Ow.bn {w : World} {e : TypeId} {v : Value} {xs : List UInt8} {g : Nat} (h : Ow w e 1 v xs.length (xs.map U8)) (hg : v.ownBlock ≠ some g) : BN w g v xs := by
  rcases h.form with ⟨rfl, hn, hx⟩ | ⟨b, cap, cur, rfl, hb, hc, hs, hl, ht⟩
  · refine ⟨none, 0, by rw [hn], fun j hj => by omega⟩
  · refine ⟨_, cap, rfl, fun j hj => ⟨_, rfl, fun e => hg (by cases e; rfl), ?_⟩⟩
    exact Ow.cells h (g := b) rfl j _ (by rw [List.getElem?_map, List.getElem?_eq_getElem hj]; rfl)
theorem plus_calls {w : World} {e : TypeId} {g cap : Nat} {xs ys : List UInt8} {v : Value} (ha : Ow w e 1 (.slice (some ⟨g, 0, none⟩) xs.length cap) xs.length (xs.map U8)) (hb : BN w g v ys)
    (hl : ys.length ≤ xs.length) (hm : xs.length ≤ 9223372036854775806) :
    Calls Try.prog f_matrix_plus #[.slice (some ⟨g, 0, none⟩) xs.length cap, v] w fun en w' => ∃ r, en = .returned r ∧
      (Ow w' e 1 (.slice (some ⟨g, 0, none⟩) xs.length cap) xs.length ((xorL xs ys).map U8) ∧ Fr (· = g) w w') := by
  obtain ⟨A, c, rfl, hr⟩ := hb
  refine calls_of_mf (args := [.slice (some ⟨g, 0, none⟩) xs.length cap, .slice A ys.length c]) c_matrix_plus (by simp only [m_matrix_plus, List.length]; decide) ?_
  simp -dsimp (disch := omega) only [↓MC.wp, ↓opsWp, ↓drWp, ↓MOp.wp, evs, ev, eget, eput, eput?, pev, pbin, pint, pbool, pstr, psl, vnil, pbuild, overlay, ↓thenQ, ↓blockQ, ↓retQ, ↓resWp, tupV, stills, MOp.still, known, Op.operands, argEnv, ekeep, Nat.reduceAdd, reduceCtorEq, if_true, if_false, ↓reduceIte, ne_eq, Int.reduceEq, Int.reduceLT, Int.reduceLE, Int.reduceAdd, Int.reduceSub, Int.reduceMul, Int.reduceToNat, Nat.reduceMul, Nat.reduceLeDiff, Nat.reduceLT, Nat.reduceSub, WB, m_matrix_plus]
  refine loopS [0, 6, 7, 8] (fun k : Nat => [(0, .slice (some ⟨g, 0, none⟩) xs.length cap), (6, .slice A ys.length c), (7, .int .i64 ys.length), (8, .int .i64 k)])
    (fun k w1 => k ≤ ys.length ∧ Ow w1 e 1 (.slice (some ⟨g, 0, none⟩) xs.length cap) xs.length ((xorL xs (ys.take k)).map U8) ∧ Fr (· = g) w w1) (fun k _ => ys.length - k) 0 rfl
    ⟨Nat.zero_le _, by simpa [xorL_nil] using ha, Fr.refl _ _⟩ ?_
  rintro k w1 ⟨hk, ho, hf⟩
  by_cases hlt : k < ys.length
  · obtain ⟨ad, rfl, had, hcell⟩ := hr k hlt
    have hc1 : w1.cell? (ad.add k) = some (U8 ys[k]) := by
      rw [hf.cell (cell_block_lt hcell) (by rw [add_block]; exact had)]; exact hcell
    obtain ⟨hx1, hx2⟩ := xorL_take xs ys k hlt (by omega)
    have hc2 : w1.cell? ⟨g, k, none⟩ = some (U8 xs[k]) := ho.cellAt (by rw [List.getElem?_map, hx1]; rfl)
    simp -dsimp (disch := omega) only [↓MC.wp, ↓opsWp, ↓drWp, ↓MOp.wp, evs, ev, eget, eput, eput?, pev, pbin, pint, pbool, pstr, psl, vnil, pbuild, overlay, ↓thenQ, ↓blockQ, ↓retQ, ↓resWp, tupV, stills, MOp.still, known, Op.operands, argEnv, ekeep, Nat.reduceAdd, reduceCtorEq, if_true, if_false, ↓reduceIte, ne_eq, Int.reduceEq, Int.reduceLT, Int.reduceLE, Int.reduceAdd, Int.reduceSub, Int.reduceMul, Int.reduceToNat, Nat.reduceMul, Nat.reduceLeDiff, Nat.reduceLT, Nat.reduceSub, WB, hc1, hc2, U8, xor_u8]
    refine ho.set (j := k) (v := U8 (xs[k] ^^^ ys[k])) (by omega) rfl fun w2 ho2 hf2 hs2 => ?_
    simp -dsimp (disch := omega) only [↓MC.wp, ↓opsWp, ↓drWp, ↓MOp.wp, evs, ev, eget, eput, eput?, pev, pbin, pint, pbool, pstr, psl, vnil, pbuild, overlay, ↓thenQ, ↓blockQ, ↓retQ, ↓resWp, tupV, stills, MOp.still, known, Op.operands, argEnv, ekeep, Nat.reduceAdd, reduceCtorEq, if_true, if_false, ↓reduceIte, ne_eq, Int.reduceEq, Int.reduceLT, Int.reduceLE, Int.reduceAdd, Int.reduceSub, Int.reduceMul, Int.reduceToNat, Nat.reduceMul, Nat.reduceLeDiff, Nat.reduceLT, Nat.reduceSub, WB]
    refine ⟨k + 1, rfl, ⟨by omega, ?_, hf.step hf2 fun _ _ h => h⟩, by omega⟩
    rw [← hx2, List.map_set]
    exact ho2
  · simp -dsimp (disch := omega) only [↓MC.wp, ↓opsWp, ↓drWp, ↓MOp.wp, evs, ev, eget, eput, eput?, pev, pbin, pint, pbool, pstr, psl, vnil, pbuild, overlay, ↓thenQ, ↓blockQ, ↓retQ, ↓resWp, tupV, stills, MOp.still, known, Op.operands, argEnv, ekeep, Nat.reduceAdd, reduceCtorEq, if_true, if_false, ↓reduceIte, ne_eq, Int.reduceEq, Int.reduceLT, Int.reduceLE, Int.reduceAdd, Int.reduceSub, Int.reduceMul, Int.reduceToNat, Nat.reduceMul, Nat.reduceLeDiff, Nat.reduceLT, Nat.reduceSub, WB]
    have hkk : k = ys.length := by omega
    subst hkk
    rw [List.take_length] at ho
    exact ⟨ho, hf⟩
end Go.Proofs.Ytgpkbldlkadnjaa
end
section
/- Walks: copied, Rows, Mul, Coding. -/
set_option linter.unusedVariables false
set_option linter.unusedSimpArgs false
namespace Go.Proofs.Ytgpkbldlkadnjaa
open Go Go.Sl Go.RowKit

theorem take_succ' {α : Type} {l : List α} {k : Nat} (h : k < l.length) : l.take (k + 1) = l.take k ++ [l[k]] := List.take_succ_eq_append_getElem h
theorem NewRow.no {B : Nat} {w w' : World} {r : Value} {xs : List UInt8} (h : NewRow B w r xs) (hf : Fr No w w') : NewRow B w' r xs := ⟨h.1.no hf, h.2⟩
theorem NewRow.bs {B : Nat} {w : World} {r : Value} {xs : List UInt8} (h : NewRow B w r xs) : BS w w.heap.size r xs := h.1.bs fun b hb => h.1.lt hb

theorem Ow.cells1 {w : World} {e : TypeId} {s n : Nat} {v : Value} {cs : List Value} (h : Ow w e s v n cs) : v.cells = #[v] := by
  rcases h.form with ⟨rfl, _⟩ | ⟨_, _, _, rfl, _⟩ <;> rfl
theorem copied_calls {w : World} {B : Nat} {v : Value} {m : List (List UInt8)} (hm : MS w B v m) (hB : B ≤ w.heap.size) (hn : m.length ≤ 1000000) (hl : ∀ x ∈ m, x.length ≤ 1000000) :
    Calls Try.prog f_matrix_copied #[v] w fun en w' => ∃ r, en = .returned r ∧ (NewMat w.heap.size w' r m ∧ Fr No w w') := by
  obtain ⟨A, cp, rfl, hc, hr⟩ := hm.open
  refine calls_of_mf (args := [.slice A m.length cp]) c_matrix_copied (by simp only [m_matrix_copied, List.length]; decide) ?_
  simp -dsimp (disch := omega) only [↓MC.wp, ↓opsWp, ↓drWp, ↓MOp.wp, evs, ev, eget, eput, eput?, pev, pbin, pint, pbool, pstr, psl, vnil, pbuild, overlay, ↓thenQ, ↓blockQ, ↓retQ, ↓resWp, tupV, stills, MOp.still, known, Op.operands, argEnv, ekeep, Nat.reduceAdd, reduceCtorEq, if_true, if_false, ↓reduceIte, ne_eq, Int.reduceEq, Int.reduceLT, Int.reduceLE, Int.reduceAdd, Int.reduceSub, Int.reduceMul, Int.reduceToNat, Nat.reduceMul, Nat.reduceLeDiff, Nat.reduceLT, Nat.reduceSub, WB, m_matrix_copied]
  refine loopS [3, 6, 7, 8] (fun s : Nat × Value => [(3, s.2), (6, .slice A m.length cp), (7, .int .i64 m.length), (8, .int .i64 s.1)])
    (fun s w1 => s.1 ≤ m.length ∧ NewMat w.heap.size w1 s.2 (m.take s.1) ∧ Fr No w w1) (fun s _ => m.length - s.1) (0, .slice none 0 0) rfl ⟨Nat.zero_le _, NewMat.nil _ _, Fr.refl _ _⟩ ?_
  rintro ⟨k, o⟩ w1 ⟨hk, ho, hf⟩
  dsimp only at hk ho ⊢
  by_cases hlt : k < m.length
  · obtain ⟨ad, u, rfl, had, hcell, hrow⟩ := hr k hlt
    have hc1 : w1.cell? (ad.add k) = some u := by rw [hf.cell (cell_block_lt hcell) (fun h => h)]; exact hcell
    simp -dsimp (disch := omega) only [↓MC.wp, ↓opsWp, ↓drWp, ↓MOp.wp, evs, ev, eget, eput, eput?, pev, pbin, pint, pbool, pstr, psl, vnil, pbuild, overlay, ↓thenQ, ↓blockQ, ↓retQ, ↓resWp, tupV, stills, MOp.still, known, Op.operands, argEnv, ekeep, Nat.reduceAdd, reduceCtorEq, if_true, if_false, ↓reduceIte, ne_eq, Int.reduceEq, Int.reduceLT, Int.reduceLE, Int.reduceAdd, Int.reduceSub, Int.reduceMul, Int.reduceToNat, Nat.reduceMul, Nat.reduceLeDiff, Nat.reduceLT, Nat.reduceSub, WB, hc1]
    have hrow1 : BS w1 B u m[k] := hrow.fr hf fun _ _ h => h
    refine call (clone_calls hrow1 (by have := hf.size; omega) (by have := hl _ (List.getElem_mem hlt); omega)) fun r w2 ⟨hr2, hf2⟩ => ?_
    simp -dsimp (disch := omega) only [↓MC.wp, ↓opsWp, ↓drWp, ↓MOp.wp, evs, ev, eget, eput, eput?, pev, pbin, pint, pbool, pstr, psl, vnil, pbuild, overlay, ↓thenQ, ↓blockQ, ↓retQ, ↓resWp, tupV, stills, MOp.still, known, Op.operands, argEnv, ekeep, Nat.reduceAdd, reduceCtorEq, if_true, if_false, ↓reduceIte, ne_eq, Int.reduceEq, Int.reduceLT, Int.reduceLE, Int.reduceAdd, Int.reduceSub, Int.reduceMul, Int.reduceToNat, Nat.reduceMul, Nat.reduceLeDiff, Nat.reduceLT, Nat.reduceSub, WB, Ow.cells1 hr2.1, set_one]
    refine new fun b2 w3 hb2 hs3 hc3 hf3 => ?_
    simp -dsimp (disch := omega) only [↓MC.wp, ↓opsWp, ↓drWp, ↓MOp.wp, evs, ev, eget, eput, eput?, pev, pbin, pint, pbool, pstr, psl, vnil, pbuild, overlay, ↓thenQ, ↓blockQ, ↓retQ, ↓resWp, tupV, stills, MOp.still, known, Op.operands, argEnv, ekeep, Nat.reduceAdd, reduceCtorEq, if_true, if_false, ↓reduceIte, ne_eq, Int.reduceEq, Int.reduceLT, Int.reduceLE, Int.reduceAdd, Int.reduceSub, Int.reduceMul, Int.reduceToNat, Nat.reduceMul, Nat.reduceLeDiff, Nat.reduceLT, Nat.reduceSub, WB]
    refine push_row ho hf hf2 hr2 (by simp; omega) hb2 hs3 hc3 hf3 fun r' w' hr' hf' => ?_
    simp -dsimp (disch := omega) only [↓MC.wp, ↓opsWp, ↓drWp, ↓MOp.wp, evs, ev, eget, eput, eput?, pev, pbin, pint, pbool, pstr, psl, vnil, pbuild, overlay, ↓thenQ, ↓blockQ, ↓retQ, ↓resWp, tupV, stills, MOp.still, known, Op.operands, argEnv, ekeep, Nat.reduceAdd, reduceCtorEq, if_true, if_false, ↓reduceIte, ne_eq, Int.reduceEq, Int.reduceLT, Int.reduceLE, Int.reduceAdd, Int.reduceSub, Int.reduceMul, Int.reduceToNat, Nat.reduceMul, Nat.reduceLeDiff, Nat.reduceLT, Nat.reduceSub, WB]
    exact ⟨(k + 1, r'), rfl, ⟨by dsimp only; omega, by dsimp only; rw [take_succ' hlt]; exact hr', hf'⟩, by dsimp only; omega⟩
  · simp -dsimp (disch := omega) only [↓MC.wp, ↓opsWp, ↓drWp, ↓MOp.wp, evs, ev, eget, eput, eput?, pev, pbin, pint, pbool, pstr, psl, vnil, pbuild, overlay, ↓thenQ, ↓blockQ, ↓retQ, ↓resWp, tupV, stills, MOp.still, known, Op.operands, argEnv, ekeep, Nat.reduceAdd, reduceCtorEq, if_true, if_false, ↓reduceIte, ne_eq, Int.reduceEq, Int.reduceLT, Int.reduceLE, Int.reduceAdd, Int.reduceSub, Int.reduceMul, Int.reduceToNat, Nat.reduceMul, Nat.reduceLeDiff, Nat.reduceLT, Nat.reduceSub, WB]
    have hkk : k = m.length := by omega
    subst hkk
    rw [List.take_length] at ho
    exact ⟨ho, hf⟩
end Go.Proofs.Ytgpkbldlkadnjaa
end
section
/- Walks: Rows. -/
set_option linter.unusedVariables false
set_option linter.unusedSimpArgs false
set_option maxHeartbeats 3000000
attribute [local irreducible] Go.Sl.Chk Go.Sl.Br Go.Sl.Ld Go.Sl.Ldn Go.Sl.LdB Go.Sl.Stn Go.Sl.New Go.Sl.Run Go.Sl.RunU Go.Sl.RunX Go.Sl.Call Go.Sl.LoopK Go.Sl.RawK Go.Sl.ev Go.Sl.eget
namespace Go.Proofs.Ytgpkbldlkadnjaa
open Go Go.Sl Go.RowKit

def inR (m : List (List UInt8)) (i : Int) : Bool := decide (0 ≤ i) && decide (i < m.length)
def rowAt (m : List (List UInt8)) (i : Int) : List UInt8 := m.getD i.toNat []
def pick (m : List (List UInt8)) (at' : List Int) : List (List UInt8) := if at'.all (inR m) then at'.map (rowAt m) else []
def VL (n : Int) : Value := .int .i64 n

theorem rows_calls {w : World} {B B' : Nat} {v v' : Value} {m : List (List UInt8)} {is : List Int} (hm : MS w B v m) (hi : RS w B' v' (is.map VL)) (hB : B ≤ w.heap.size) (hB' : B' ≤ w.heap.size) (hn : m.length ≤ 1000000) (hl : ∀ x ∈ m, x.length ≤ 1000000)
    (hni : is.length ≤ 1000000) :
    Calls Try.prog f_matrix_Rows #[v, v'] w fun en w' => ∃ r, en = .returned r ∧ (NewMat w.heap.size w' r (pick m is) ∧ Fr No w w') := by
  obtain ⟨A, cp, rfl, hc, hr⟩ := hm.open
  obtain ⟨A', cp', rfl, hc', hr'⟩ := hi
  simp only [List.length_map] at hc' ⊢
  refine calls_of_mf (args := [.slice A m.length cp, .slice A' is.length cp']) c_matrix_Rows (by simp only [m_matrix_Rows, List.length]; decide) ?_
  simp -dsimp (disch := omega) only [↓MC.wp, ↓opsWp, ↓drWp, ↓MOp.wp, evs, ev, eget, eput, eput?, pev, pbin, pint, pbool, pstr, psl, vnil, pbuild, overlay, ↓thenQ, ↓blockQ, ↓retQ, ↓resWp, tupV, stills, MOp.still, known, Op.operands, argEnv, ekeep, Nat.reduceAdd, reduceCtorEq, if_true, if_false, ↓reduceIte, ne_eq, Int.reduceEq, Int.reduceLT, Int.reduceLE, Int.reduceAdd, Int.reduceSub, Int.reduceMul, Int.reduceToNat, Nat.reduceMul, Nat.reduceLeDiff, Nat.reduceLT, Nat.reduceSub, WB, m_matrix_Rows]
  refine loopS [0, 5, 8, 9, 10] (fun s : Nat × Value => [(0, .slice A m.length cp), (5, s.2), (8, .slice A' is.length cp'), (9, .int .i64 is.length), (10, .int .i64 s.1)])
    (fun s w1 => s.1 ≤ is.length ∧ (is.take s.1).all (inR m) = true ∧ NewMat w.heap.size w1 s.2 ((is.take s.1).map (rowAt m)) ∧ Fr No w w1) (fun s _ => is.length - s.1) (0, .slice none 0 0) (by with_unfolding_all rfl) ⟨Nat.zero_le _, rfl, NewMat.nil _ _, Fr.refl _ _⟩ ?_
  rintro ⟨k, o⟩ w1 ⟨hk, hin, ho, hf⟩
  dsimp only at hk hin ho ⊢
  by_cases hlt : k < is.length
  · obtain ⟨ad, rfl, had, hcell⟩ := hr' k (VL is[k]) (by rw [List.getElem?_map, List.getElem?_eq_getElem hlt]; rfl)
    have hc1 : w1.cell? (ad.add k) = some (VL is[k]) := by rw [hf.cell (cell_block_lt hcell) (fun h => h)]; exact hcell
    by_cases hneg : is[k] < 0
    · simp -dsimp (disch := omega) only [↓MC.wp, ↓opsWp, ↓drWp, ↓MOp.wp, evs, ev, eget, eput, eput?, pev, pbin, pint, pbool, pstr, psl, vnil, pbuild, overlay, ↓thenQ, ↓blockQ, ↓retQ, ↓resWp, tupV, stills, MOp.still, known, Op.operands, argEnv, ekeep, Nat.reduceAdd, reduceCtorEq, if_true, if_false, ↓reduceIte, ne_eq, Int.reduceEq, Int.reduceLT, Int.reduceLE, Int.reduceAdd, Int.reduceSub, Int.reduceMul, Int.reduceToNat, Nat.reduceMul, Nat.reduceLeDiff, Nat.reduceLT, Nat.reduceSub, WB, hc1, VL]
      have : is.all (inR m) = false := by
        rw [List.all_eq_false]
        exact ⟨is[k], List.getElem_mem hlt, by simp [inR]; omega⟩
      rw [pick, this]
      exact ⟨NewMat.nil _ _, hf⟩
    · by_cases hge : (m.length : Int) ≤ is[k]
      · simp -dsimp (disch := omega) only [↓MC.wp, ↓opsWp, ↓drWp, ↓MOp.wp, evs, ev, eget, eput, eput?, pev, pbin, pint, pbool, pstr, psl, vnil, pbuild, overlay, ↓thenQ, ↓blockQ, ↓retQ, ↓resWp, tupV, stills, MOp.still, known, Op.operands, argEnv, ekeep, Nat.reduceAdd, reduceCtorEq, if_true, if_false, ↓reduceIte, ne_eq, Int.reduceEq, Int.reduceLT, Int.reduceLE, Int.reduceAdd, Int.reduceSub, Int.reduceMul, Int.reduceToNat, Nat.reduceMul, Nat.reduceLeDiff, Nat.reduceLT, Nat.reduceSub, WB, hc1, VL]
        have : is.all (inR m) = false := by
          rw [List.all_eq_false]
          exact ⟨is[k], List.getElem_mem hlt, by simp [inR]; omega⟩
        rw [pick, this]
        exact ⟨NewMat.nil _ _, hf⟩
      · obtain ⟨q, hq⟩ : ∃ q : Nat, is[k] = q := ⟨is[k].toNat, by omega⟩
        have hql : q < m.length := by omega
        obtain ⟨ad2, u, rfl, had2, hcell2, hrow⟩ := hr q hql
        have hc2 : w1.cell? (ad2.add q) = some u := by rw [hf.cell (cell_block_lt hcell2) (fun h => h)]; exact hcell2
        rw [hq] at hc1
        simp -dsimp (disch := omega) only [↓MC.wp, ↓opsWp, ↓drWp, ↓MOp.wp, evs, ev, eget, eput, eput?, pev, pbin, pint, pbool, pstr, psl, vnil, pbuild, overlay, ↓thenQ, ↓blockQ, ↓retQ, ↓resWp, tupV, stills, MOp.still, known, Op.operands, argEnv, ekeep, Nat.reduceAdd, reduceCtorEq, if_true, if_false, ↓reduceIte, ne_eq, Int.reduceEq, Int.reduceLT, Int.reduceLE, Int.reduceAdd, Int.reduceSub, Int.reduceMul, Int.reduceToNat, Nat.reduceMul, Nat.reduceLeDiff, Nat.reduceLT, Nat.reduceSub, WB, hc1, VL, hc2]
        have hrow1 : BS w1 B u m[q] := hrow.fr hf fun _ _ h => h
        refine call (clone_calls hrow1 (by have := hf.size; omega) (by have := hl _ (List.getElem_mem hql); omega)) ?_
        intro r w2 h2
        have hr2 := h2.1
        have hf2 := h2.2
        clear h2
        simp -dsimp (disch := omega) only [↓MC.wp, ↓opsWp, ↓drWp, ↓MOp.wp, evs, ev, eget, eput, eput?, pev, pbin, pint, pbool, pstr, psl, vnil, pbuild, overlay, ↓thenQ, ↓blockQ, ↓retQ, ↓resWp, tupV, stills, MOp.still, known, Op.operands, argEnv, ekeep, Nat.reduceAdd, reduceCtorEq, if_true, if_false, ↓reduceIte, ne_eq, Int.reduceEq, Int.reduceLT, Int.reduceLE, Int.reduceAdd, Int.reduceSub, Int.reduceMul, Int.reduceToNat, Nat.reduceMul, Nat.reduceLeDiff, Nat.reduceLT, Nat.reduceSub, WB, Ow.cells1 hr2.1, set_one]
        refine new ?_
        intro b2 w3 hb2 hs3 hc3 hf3
        simp -dsimp (disch := omega) only [↓MC.wp, ↓opsWp, ↓drWp, ↓MOp.wp, evs, ev, eget, eput, eput?, pev, pbin, pint, pbool, pstr, psl, vnil, pbuild, overlay, ↓thenQ, ↓blockQ, ↓retQ, ↓resWp, tupV, stills, MOp.still, known, Op.operands, argEnv, ekeep, Nat.reduceAdd, reduceCtorEq, if_true, if_false, ↓reduceIte, ne_eq, Int.reduceEq, Int.reduceLT, Int.reduceLE, Int.reduceAdd, Int.reduceSub, Int.reduceMul, Int.reduceToNat, Nat.reduceMul, Nat.reduceLeDiff, Nat.reduceLT, Nat.reduceSub, WB]
        have hlen : ((is.take k).map (rowAt m)).length ≤ 1000000 := by rw [List.length_map, List.length_take]; omega
        refine push_row ho hf hf2 hr2 hlen hb2 hs3 hc3 hf3 fun r' w' hr' hf' => ?_
        simp -dsimp (disch := omega) only [↓MC.wp, ↓opsWp, ↓drWp, ↓MOp.wp, evs, ev, eget, eput, eput?, pev, pbin, pint, pbool, pstr, psl, vnil, pbuild, overlay, ↓thenQ, ↓blockQ, ↓retQ, ↓resWp, tupV, stills, MOp.still, known, Op.operands, argEnv, ekeep, Nat.reduceAdd, reduceCtorEq, if_true, if_false, ↓reduceIte, ne_eq, Int.reduceEq, Int.reduceLT, Int.reduceLE, Int.reduceAdd, Int.reduceSub, Int.reduceMul, Int.reduceToNat, Nat.reduceMul, Nat.reduceLeDiff, Nat.reduceLT, Nat.reduceSub, WB]
        have hrq : rowAt m is[k] = m[q] := by rw [rowAt, hq, Int.toNat_natCast, List.getD_eq_getElem?_getD, List.getElem?_eq_getElem hql]; rfl
        refine ⟨(k + 1, r'), rfl, ⟨by dsimp only; omega, ?_, ?_, hf'⟩, by dsimp only; omega⟩
        · dsimp only
          rw [take_succ' hlt, List.all_append, hin]
          simp [inR]
          omega
        · dsimp only
          rw [take_succ' hlt, List.map_append, List.map_cons, List.map_nil, hrq]
          exact hr'
  · simp -dsimp (disch := omega) only [↓MC.wp, ↓opsWp, ↓drWp, ↓MOp.wp, evs, ev, eget, eput, eput?, pev, pbin, pint, pbool, pstr, psl, vnil, pbuild, overlay, ↓thenQ, ↓blockQ, ↓retQ, ↓resWp, tupV, stills, MOp.still, known, Op.operands, argEnv, ekeep, Nat.reduceAdd, reduceCtorEq, if_true, if_false, ↓reduceIte, ne_eq, Int.reduceEq, Int.reduceLT, Int.reduceLE, Int.reduceAdd, Int.reduceSub, Int.reduceMul, Int.reduceToNat, Nat.reduceMul, Nat.reduceLeDiff, Nat.reduceLT, Nat.reduceSub, WB]
    have hkk : k = is.length := by omega
    subst hkk
    rw [List.take_length] at ho hin
    rw [pick, hin]
    exact ⟨ho, hf⟩

end Go.Proofs.Ytgpkbldlkadnjaa
end
section
/- Walks: Coding, One. -/
set_option linter.unusedVariables false
set_option linter.unusedSimpArgs false
set_option maxHeartbeats 3000000
attribute [local irreducible] Go.Sl.Chk Go.Sl.Br Go.Sl.Ld Go.Sl.Ldn Go.Sl.LdB Go.Sl.Stn Go.Sl.New Go.Sl.Run Go.Sl.RunU Go.Sl.RunX Go.Sl.Call Go.Sl.LoopK Go.Sl.RawK Go.Sl.ev Go.Sl.eget
namespace Go.Proofs.Ytgpkbldlkadnjaa
open Go Go.Sl Go.RowKit

theorem NewMat.mono {B B' : Nat} {w : World} {r : Value} {m : List (List UInt8)} (h : NewMat B w r m) (hB : B' ≤ B) : NewMat B' w r m := by
  obtain ⟨vs, h1, h2, h3⟩ := h
  exact ⟨vs, h1, h2, fun b hb => Nat.le_trans hB (h3 b hb)⟩

/-! ### Coding -/
def codeAt (k i j : Nat) : UInt8 := if k ≤ i then ginv (UInt8.ofNat (i ^^^ j)) else if i = j then 1 else 0
def codeRow (k i : Nat) : List UInt8 := (List.range k).map (codeAt k i)
def coding (k n : Nat) : List (List UInt8) := (List.range n).map (codeRow k)
def part (f : Nat → UInt8) (k j : Nat) : List UInt8 := (List.range k).map fun x => if x < j then f x else 0
theorem part_zero (f : Nat → UInt8) (k : Nat) : part f k 0 = List.replicate k 0 := by
  apply List.ext_getElem
  · simp [part]
  · intro i h1 h2; simp [part]
theorem part_full (f : Nat → UInt8) (k : Nat) : part f k k = (List.range k).map f := by
  apply List.ext_getElem
  · simp [part]
  · intro i h1 h2
    simp [part] at h1 ⊢
    exact fun h => absurd h1 (by omega)
theorem part_set (f : Nat → UInt8) (k j : Nat) (h : j < k) : (part f k j).set j (f j) = part f k (j + 1) := by
  apply List.ext_getElem
  · simp [part]
  · intro i h1 h2
    rw [List.getElem_set]
    simp only [part, List.getElem_map, List.getElem_range]
    by_cases e : j = i
    · subst e; simp
    · rw [if_neg e]
      by_cases h3 : i < j
      · rw [if_pos h3, if_pos (by omega)]
      · rw [if_neg h3, if_neg (by omega)]
theorem part_same (f : Nat → UInt8) (k j : Nat) (h : f j = 0) : part f k (j + 1) = part f k j := by
  apply List.ext_getElem
  · simp [part]
  · intro i h1 h2
    simp only [part, List.getElem_map, List.getElem_range]
    by_cases e : i = j
    · subst e; simp [h]
    · by_cases h3 : i < j
      · rw [if_pos h3, if_pos (by omega)]
      · rw [if_neg h3, if_neg (by omega)]
theorem xor_i64 (x y : Nat) (hx : x < 1048576) (hy : y < 1048576) : IntKind.i64.wrap (BitVec.ofInt IntKind.i64.bits (x : Int) ^^^ BitVec.ofInt IntKind.i64.bits (y : Int)).toNat = ((x ^^^ y : Nat) : Int) := by
  have h1 : ∀ n : Nat, BitVec.ofInt 64 (n : Int) = BitVec.ofNat 64 n := fun n => by
    apply BitVec.eq_of_toNat_eq
    simp
  have h3 : x ^^^ y < 2 ^ 20 := Nat.xor_lt_two_pow (by omega) (by omega)
  show IntKind.i64.wrap (((BitVec.ofInt 64 (x : Int) ^^^ BitVec.ofInt 64 (y : Int)).toNat : Nat) : Int) = _
  rw [h1, h1, BitVec.toNat_xor, BitVec.toNat_ofNat, BitVec.toNat_ofNat, Nat.mod_eq_of_lt (by omega), Nat.mod_eq_of_lt (by omega), wrap_i64 (by omega)]
theorem conv_u8 (n : Nat) : IntKind.u8.wrap (n : Int) = ((UInt8.ofNat n).toNat : Int) := by
  rw [UInt8.toNat_ofNat']
  unfold IntKind.wrap
  simp only [IntKind.bits, IntKind.signed]
  have : ((n % 2 ^ 8 : Nat) : Int) = (n : Int) % 2 ^ 8 := by omega
  rw [this]
  simp

theorem mkB {w : World} {n : Nat} (hn : n ≤ 1000000) {en : Env} {dst : Option Nat} {x y : Operand} {ty : TypeId} {pos : String} {af : Array Edge} {gu} (hx : rho en x = .int .i64 n) (hy : rho en y = .int .i64 n) {K : Value → World → Prop} {tg : TagF K}
    (kk : ∀ b w', b = w.heap.size → NewRow b w' (.slice (some ⟨b, 0, none⟩) n n) (List.replicate n 0) → Fr No w w' → K (.slice (some ⟨b, 0, none⟩) n n) w') :
    RunX Try.prog (execOp (rho en) ⟨dst, .makeSlice 29 x y, ty, pos, af, gu⟩) w K tg := by
  refine mk elB (n := (n : Int)) (by omega) (by omega) (by omega) hx hy fun b w' hb hs hc hf => ?_
  rw [Int.toNat_natCast] at hc ⊢
  refine kk b w' hb ⟨?_, fun c hc => by cases hc; exact Nat.le_refl _⟩ hf
  rw [List.length_replicate]
  have := Ow.lit (n := n) (s := 1) hc (by simp [size_madeCells]) (by omega)
  rw [made_rep _ _ rfl, Nat.mul_one] at this
  rw [List.map_replicate]
  exact this

theorem coding_calls {w : World} (k n : Nat) (hk : k ≤ 1000) (hn : n ≤ 1000) :
    Calls Try.prog f_matrix_Coding #[.int .i64 k, .int .i64 n] w fun en w' => ∃ r, en = .returned r ∧ (NewMat w.heap.size w' r (coding k n) ∧ Fr No w w') := by
  refine calls_of_mf (args := [.int .i64 k, .int .i64 n]) c_matrix_Coding (by simp only [m_matrix_Coding, List.length]; decide) ?_
  simp -dsimp (disch := omega) only [↓MC.wp, ↓opsWp, ↓drWp, ↓MOp.wp, evs, ev, eget, eput, eput?, pev, pbin, pint, pbool, pstr, psl, vnil, pbuild, overlay, ↓thenQ, ↓blockQ, ↓retQ, ↓resWp, tupV, stills, MOp.still, known, Op.operands, argEnv, ekeep, Nat.reduceAdd, reduceCtorEq, if_true, if_false, ↓reduceIte, ne_eq, Int.reduceEq, Int.reduceLT, Int.reduceLE, Int.reduceAdd, Int.reduceSub, Int.reduceMul, Int.reduceToNat, Nat.reduceMul, Nat.reduceLeDiff, Nat.reduceLT, Nat.reduceSub, WB, m_matrix_Coding]
  refine call (new_calls w) ?_
  intro r w0 h1
  rw [h1.1]
  have hfa := h1.2.1
  have hf1 := h1.2.2
  clear h1
  simp -dsimp (disch := omega) only [↓MC.wp, ↓opsWp, ↓drWp, ↓MOp.wp, evs, ev, eget, eput, eput?, pev, pbin, pint, pbool, pstr, psl, vnil, pbuild, overlay, ↓thenQ, ↓blockQ, ↓retQ, ↓resWp, tupV, stills, MOp.still, known, Op.operands, argEnv, ekeep, Nat.reduceAdd, reduceCtorEq, if_true, if_false, ↓reduceIte, ne_eq, Int.reduceEq, Int.reduceLT, Int.reduceLE, Int.reduceAdd, Int.reduceSub, Int.reduceMul, Int.reduceToNat, Nat.reduceMul, Nat.reduceLeDiff, Nat.reduceLT, Nat.reduceSub, WB]
  refine loopS [0, 5, 6, 11, 12] (fun s : Nat × Value => [(0, .int .i64 k), (5, .pointer (some ⟨w.heap.size, 0, none⟩)), (6, s.2), (11, .int .i64 n), (12, .int .i64 s.1)])
    (fun s w2 => s.1 ≤ n ∧ NewMat w0.heap.size w2 s.2 ((List.range s.1).map (codeRow k)) ∧ Fr No w0 w2) (fun s _ => n - s.1) (0, .slice none 0 0) (by with_unfolding_all rfl) ⟨Nat.zero_le _, NewMat.nil _ _, Fr.refl _ _⟩ ?_
  rintro ⟨i, o⟩ w1 ⟨hi, ho, hf⟩
  dsimp only at hi ho ⊢
  by_cases hlt : i < n
  · simp -dsimp (disch := omega) only [↓MC.wp, ↓opsWp, ↓drWp, ↓MOp.wp, evs, ev, eget, eput, eput?, pev, pbin, pint, pbool, pstr, psl, vnil, pbuild, overlay, ↓thenQ, ↓blockQ, ↓retQ, ↓resWp, tupV, stills, MOp.still, known, Op.operands, argEnv, ekeep, Nat.reduceAdd, reduceCtorEq, if_true, if_false, ↓reduceIte, ne_eq, Int.reduceEq, Int.reduceLT, Int.reduceLE, Int.reduceAdd, Int.reduceSub, Int.reduceMul, Int.reduceToNat, Nat.reduceMul, Nat.reduceLeDiff, Nat.reduceLT, Nat.reduceSub, WB]
    refine mkB (n := k) (by omega) ?_ ?_ fun b w2 hb hrow hf2 => ?_
    · with_unfolding_all rfl
    · with_unfolding_all rfl
    simp -dsimp (disch := omega) only [↓MC.wp, ↓opsWp, ↓drWp, ↓MOp.wp, evs, ev, eget, eput, eput?, pev, pbin, pint, pbool, pstr, psl, vnil, pbuild, overlay, ↓thenQ, ↓blockQ, ↓retQ, ↓resWp, tupV, stills, MOp.still, known, Op.operands, argEnv, ekeep, Nat.reduceAdd, reduceCtorEq, if_true, if_false, ↓reduceIte, ne_eq, Int.reduceEq, Int.reduceLT, Int.reduceLE, Int.reduceAdd, Int.reduceSub, Int.reduceMul, Int.reduceToNat, Nat.reduceMul, Nat.reduceLeDiff, Nat.reduceLT, Nat.reduceSub, WB]
    refine loopS [0, 5, 6, 7, 8, 11, 12, 18, 19] (fun j : Nat => [(0, .int .i64 k), (5, .pointer (some ⟨w.heap.size, 0, none⟩)), (6, o), (7, .int .i64 i), (8, .slice (some ⟨b, 0, none⟩) k k), (11, .int .i64 n), (12, .int .i64 i), (18, .int .i64 k), (19, .int .i64 j)])
      (fun j w3 => j ≤ k ∧ Ow w3 5 1 (.slice (some ⟨b, 0, none⟩) k k) k ((part (codeAt k i) k j).map U8) ∧ Fr No w1 w3) (fun j _ => k - j) 0 (by with_unfolding_all rfl) ⟨Nat.zero_le _, ?_, hf2⟩ ?_
    · have := hrow.1
      rw [List.length_replicate] at this
      rw [part_zero]
      exact this
    · clear hrow hf2 w2
      rintro j w3 ⟨hj, hrow, hf3⟩
      by_cases hjl : j < k
      · have hfa3 : FieldAt w3 w.heap.size := (hfa.fr hf fun h => h).fr hf3 fun h => h
        by_cases hik : k ≤ i
        · simp -dsimp (disch := omega) only [↓MC.wp, ↓opsWp, ↓drWp, ↓MOp.wp, evs, ev, eget, eput, eput?, pev, pbin, pint, pbool, pstr, psl, vnil, pbuild, overlay, ↓thenQ, ↓blockQ, ↓retQ, ↓resWp, tupV, stills, MOp.still, known, Op.operands, argEnv, ekeep, Nat.reduceAdd, reduceCtorEq, if_true, if_false, ↓reduceIte, ne_eq, Int.reduceEq, Int.reduceLT, Int.reduceLE, Int.reduceAdd, Int.reduceSub, Int.reduceMul, Int.reduceToNat, Nat.reduceMul, Nat.reduceLeDiff, Nat.reduceLT, Nat.reduceSub, WB, xor_i64, conv_u8]
          refine call (inv_calls hfa3 (UInt8.ofNat (i ^^^ j))) ?_
          intro r w4 hw4
          have hf4 := hw4.2
          rw [hw4.1]
          clear hw4
          simp -dsimp (disch := omega) only [↓MC.wp, ↓opsWp, ↓drWp, ↓MOp.wp, evs, ev, eget, eput, eput?, pev, pbin, pint, pbool, pstr, psl, vnil, pbuild, overlay, ↓thenQ, ↓blockQ, ↓retQ, ↓resWp, tupV, stills, MOp.still, known, Op.operands, argEnv, ekeep, Nat.reduceAdd, reduceCtorEq, if_true, if_false, ↓reduceIte, ne_eq, Int.reduceEq, Int.reduceLT, Int.reduceLE, Int.reduceAdd, Int.reduceSub, Int.reduceMul, Int.reduceToNat, Nat.reduceMul, Nat.reduceLeDiff, Nat.reduceLT, Nat.reduceSub, WB, U8]
          refine (hrow.no hf4).set (j := j) (v := U8 (ginv (UInt8.ofNat (i ^^^ j)))) hjl rfl fun w5 ho5 hf5 hs5 => ?_
          simp -dsimp (disch := omega) only [↓MC.wp, ↓opsWp, ↓drWp, ↓MOp.wp, evs, ev, eget, eput, eput?, pev, pbin, pint, pbool, pstr, psl, vnil, pbuild, overlay, ↓thenQ, ↓blockQ, ↓retQ, ↓resWp, tupV, stills, MOp.still, known, Op.operands, argEnv, ekeep, Nat.reduceAdd, reduceCtorEq, if_true, if_false, ↓reduceIte, ne_eq, Int.reduceEq, Int.reduceLT, Int.reduceLE, Int.reduceAdd, Int.reduceSub, Int.reduceMul, Int.reduceToNat, Nat.reduceMul, Nat.reduceLeDiff, Nat.reduceLT, Nat.reduceSub, WB]
          refine ⟨j + 1, rfl, ⟨by omega, ?_, (hf3.then hf4).step hf5 fun c hc h => by omega⟩, by omega⟩
          rw [← part_set _ _ _ hjl, List.map_set]
          have : codeAt k i j = ginv (UInt8.ofNat (i ^^^ j)) := by rw [codeAt, if_pos hik]
          rw [this]
          exact ho5
        · by_cases hij : i = j
          · simp -dsimp (disch := omega) only [↓MC.wp, ↓opsWp, ↓drWp, ↓MOp.wp, evs, ev, eget, eput, eput?, pev, pbin, pint, pbool, pstr, psl, vnil, pbuild, overlay, ↓thenQ, ↓blockQ, ↓retQ, ↓resWp, tupV, stills, MOp.still, known, Op.operands, argEnv, ekeep, Nat.reduceAdd, reduceCtorEq, if_true, if_false, ↓reduceIte, ne_eq, Int.reduceEq, Int.reduceLT, Int.reduceLE, Int.reduceAdd, Int.reduceSub, Int.reduceMul, Int.reduceToNat, Nat.reduceMul, Nat.reduceLeDiff, Nat.reduceLT, Nat.reduceSub, WB]
            refine hrow.set (j := j) (v := U8 1) hjl rfl fun w5 ho5 hf5 hs5 => ?_
            simp -dsimp (disch := omega) only [↓MC.wp, ↓opsWp, ↓drWp, ↓MOp.wp, evs, ev, eget, eput, eput?, pev, pbin, pint, pbool, pstr, psl, vnil, pbuild, overlay, ↓thenQ, ↓blockQ, ↓retQ, ↓resWp, tupV, stills, MOp.still, known, Op.operands, argEnv, ekeep, Nat.reduceAdd, reduceCtorEq, if_true, if_false, ↓reduceIte, ne_eq, Int.reduceEq, Int.reduceLT, Int.reduceLE, Int.reduceAdd, Int.reduceSub, Int.reduceMul, Int.reduceToNat, Nat.reduceMul, Nat.reduceLeDiff, Nat.reduceLT, Nat.reduceSub, WB]
            refine ⟨j + 1, rfl, ⟨by omega, ?_, hf3.step hf5 fun c hc h => by omega⟩, by omega⟩
            rw [← part_set _ _ _ hjl, List.map_set]
            have : codeAt k i j = 1 := by rw [codeAt, if_neg hik, if_pos hij]
            rw [this]
            exact ho5
          · simp -dsimp (disch := omega) only [↓MC.wp, ↓opsWp, ↓drWp, ↓MOp.wp, evs, ev, eget, eput, eput?, pev, pbin, pint, pbool, pstr, psl, vnil, pbuild, overlay, ↓thenQ, ↓blockQ, ↓retQ, ↓resWp, tupV, stills, MOp.still, known, Op.operands, argEnv, ekeep, Nat.reduceAdd, reduceCtorEq, if_true, if_false, ↓reduceIte, ne_eq, Int.reduceEq, Int.reduceLT, Int.reduceLE, Int.reduceAdd, Int.reduceSub, Int.reduceMul, Int.reduceToNat, Nat.reduceMul, Nat.reduceLeDiff, Nat.reduceLT, Nat.reduceSub, WB]
            refine ⟨j + 1, rfl, ⟨by omega, ?_, hf3⟩, by omega⟩
            rw [part_same _ _ _ (by rw [codeAt, if_neg hik, if_neg hij])]
            exact hrow
      · simp -dsimp (disch := omega) only [↓MC.wp, ↓opsWp, ↓drWp, ↓MOp.wp, evs, ev, eget, eput, eput?, pev, pbin, pint, pbool, pstr, psl, vnil, pbuild, overlay, ↓thenQ, ↓blockQ, ↓retQ, ↓resWp, tupV, stills, MOp.still, known, Op.operands, argEnv, ekeep, Nat.reduceAdd, reduceCtorEq, if_true, if_false, ↓reduceIte, ne_eq, Int.reduceEq, Int.reduceLT, Int.reduceLE, Int.reduceAdd, Int.reduceSub, Int.reduceMul, Int.reduceToNat, Nat.reduceMul, Nat.reduceLeDiff, Nat.reduceLT, Nat.reduceSub, WB, set_one]
        have hjk : j = k := by omega
        subst hjk
        rw [part_full] at hrow
        refine new ?_
        intro b2 w4 hb2 hs4 hc4 hf4
        simp -dsimp (disch := omega) only [↓MC.wp, ↓opsWp, ↓drWp, ↓MOp.wp, evs, ev, eget, eput, eput?, pev, pbin, pint, pbool, pstr, psl, vnil, pbuild, overlay, ↓thenQ, ↓blockQ, ↓retQ, ↓resWp, tupV, stills, MOp.still, known, Op.operands, argEnv, ekeep, Nat.reduceAdd, reduceCtorEq, if_true, if_false, ↓reduceIte, ne_eq, Int.reduceEq, Int.reduceLT, Int.reduceLE, Int.reduceAdd, Int.reduceSub, Int.reduceMul, Int.reduceToNat, Nat.reduceMul, Nat.reduceLeDiff, Nat.reduceLT, Nat.reduceSub, WB]
        have hu : NewRow w1.heap.size w3 (.slice (some ⟨b, 0, none⟩) j j) (codeRow j i) := by
          refine ⟨?_, fun c hc => by cases hc; exact Nat.le_of_eq hb.symm⟩
          have : (codeRow j i).length = j := by simp [codeRow]
          rw [this]
          exact hrow
        refine push_row ho hf hf3 hu (by simp; omega) hb2 hs4 hc4 hf4 fun r' w' hr' hf' => ?_
        simp -dsimp (disch := omega) only [↓MC.wp, ↓opsWp, ↓drWp, ↓MOp.wp, evs, ev, eget, eput, eput?, pev, pbin, pint, pbool, pstr, psl, vnil, pbuild, overlay, ↓thenQ, ↓blockQ, ↓retQ, ↓resWp, tupV, stills, MOp.still, known, Op.operands, argEnv, ekeep, Nat.reduceAdd, reduceCtorEq, if_true, if_false, ↓reduceIte, ne_eq, Int.reduceEq, Int.reduceLT, Int.reduceLE, Int.reduceAdd, Int.reduceSub, Int.reduceMul, Int.reduceToNat, Nat.reduceMul, Nat.reduceLeDiff, Nat.reduceLT, Nat.reduceSub, WB]
        refine ⟨(i + 1, r'), rfl, ⟨by dsimp only; omega, ?_, hf'⟩, by dsimp only; omega⟩
        dsimp only
        rw [List.range_succ, List.map_append]
        exact hr'
  · simp -dsimp (disch := omega) only [↓MC.wp, ↓opsWp, ↓drWp, ↓MOp.wp, evs, ev, eget, eput, eput?, pev, pbin, pint, pbool, pstr, psl, vnil, pbuild, overlay, ↓thenQ, ↓blockQ, ↓retQ, ↓resWp, tupV, stills, MOp.still, known, Op.operands, argEnv, ekeep, Nat.reduceAdd, reduceCtorEq, if_true, if_false, ↓reduceIte, ne_eq, Int.reduceEq, Int.reduceLT, Int.reduceLE, Int.reduceAdd, Int.reduceSub, Int.reduceMul, Int.reduceToNat, Nat.reduceMul, Nat.reduceLeDiff, Nat.reduceLT, Nat.reduceSub, WB]
    have hin : i = n := by omega
    subst hin
    exact ⟨ho.mono hf1.size, hf1.then hf⟩
theorem one_calls {w : World} (n : Nat) (hn : n ≤ 1000) :
    Calls Try.prog f_matrix_One #[.int .i64 n] w fun en w' => ∃ r, en = .returned r ∧ (NewMat w.heap.size w' r (coding n n) ∧ Fr No w w') := by
  refine calls_of_mf (args := [.int .i64 n]) c_matrix_One (by simp only [m_matrix_One, List.length]; decide) ?_
  simp -dsimp (disch := omega) only [↓MC.wp, ↓opsWp, ↓drWp, ↓MOp.wp, evs, ev, eget, eput, eput?, pev, pbin, pint, pbool, pstr, psl, vnil, pbuild, overlay, ↓thenQ, ↓blockQ, ↓retQ, ↓resWp, tupV, stills, MOp.still, known, Op.operands, argEnv, ekeep, Nat.reduceAdd, reduceCtorEq, if_true, if_false, ↓reduceIte, ne_eq, Int.reduceEq, Int.reduceLT, Int.reduceLE, Int.reduceAdd, Int.reduceSub, Int.reduceMul, Int.reduceToNat, Nat.reduceMul, Nat.reduceLeDiff, Nat.reduceLT, Nat.reduceSub, WB, m_matrix_One]
  refine call (coding_calls n n hn hn) fun r w1 h => ?_
  simp -dsimp (disch := omega) only [↓MC.wp, ↓opsWp, ↓drWp, ↓MOp.wp, evs, ev, eget, eput, eput?, pev, pbin, pint, pbool, pstr, psl, vnil, pbuild, overlay, ↓thenQ, ↓blockQ, ↓retQ, ↓resWp, tupV, stills, MOp.still, known, Op.operands, argEnv, ekeep, Nat.reduceAdd, reduceCtorEq, if_true, if_false, ↓reduceIte, ne_eq, Int.reduceEq, Int.reduceLT, Int.reduceLE, Int.reduceAdd, Int.reduceSub, Int.reduceMul, Int.reduceToNat, Nat.reduceMul, Nat.reduceLeDiff, Nat.reduceLT, Nat.reduceSub, WB]
  exact h
end Go.Proofs.Ytgpkbldlkadnjaa
end
section
/- Walks: Mul. -/
set_option linter.unusedVariables false
set_option linter.unusedSimpArgs false
set_option maxHeartbeats 3000000
attribute [local irreducible] Go.Sl.Chk Go.Sl.Br Go.Sl.Ld Go.Sl.Ldn Go.Sl.LdB Go.Sl.Stn Go.Sl.New Go.Sl.Run Go.Sl.RunU Go.Sl.RunX Go.Sl.Call Go.Sl.LoopK Go.Sl.RawK Go.Sl.ev Go.Sl.eget
namespace Go.Proofs.Ytgpkbldlkadnjaa
open Go Go.Sl Go.RowKit

abbrev LL := List (List UInt8)
def rowAcc (b : List (List UInt8)) (r : List UInt8) (wd : Nat) : Nat → List UInt8
  | 0 => List.replicate wd 0
  | k + 1 => xorL (rowAcc b r wd k) ((b.getD k []).map (gmul (r.getD k 0)))
theorem rowAcc_length (b : List (List UInt8)) (r : List UInt8) (wd : Nat) : ∀ k, (rowAcc b r wd k).length = wd
  | 0 => List.length_replicate
  | k + 1 => by rw [rowAcc, xorL_length, rowAcc_length]
def width (m : List (List UInt8)) : Nat := (m.getD 0 []).length
def mulM (a b : List (List UInt8)) : List (List UInt8) := if width a = b.length then a.map (fun r => rowAcc b r (width b) r.length) else []
structure RightM (m : List (List UInt8)) : Prop where
  pos : 0 < m.length
  wide : 0 < width m
  all : ∀ x ∈ m, x.length = width m
structure Small (m : List (List UInt8)) : Prop where
  high : m.length ≤ 1000
  wide : ∀ x ∈ m, x.length ≤ 1000
theorem getD_of_lt {α : Type} {l : List α} {k : Nat} (d : α) (h : k < l.length) : l.getD k d = l[k] := by
  rw [List.getD_eq_getElem?_getD, List.getElem?_eq_getElem h]; rfl

theorem mmul_calls {w : World} {B B' : Nat} {v v' : Value} {a b : List (List UInt8)} (ha : MS w B v a) (hb : MS w B' v' b) (hB : B ≤ w.heap.size) (hB' : B' ≤ w.heap.size) (ra : RightM a) (rb : RightM b) (sa : Small a) (sb : Small b) :
    Calls Try.prog f_matrix_Mul #[v, v'] w fun en w' => ∃ r, en = .returned r ∧ (NewMat w.heap.size w' r (mulM a b) ∧ Fr No w w') := by
  obtain ⟨A, cp, rfl, hc, hr⟩ := ha.open
  obtain ⟨A', cp', rfl, hc', hr'⟩ := hb.open
  have pa := ra.pos
  have hah := sa.high
  have hbh := sb.high
  have pb := rb.pos
  obtain ⟨ad0, u0, rfl, had0, hcell0, hrow0⟩ := hr 0 pa
  obtain ⟨B0, c0, rfl, hc0, hr0⟩ := hrow0.open
  obtain ⟨bd0, x0, rfl, hbd0, hbcell0, hbrow0⟩ := hr' 0 pb
  obtain ⟨B1, c1, rfl, hc1, hr1⟩ := hbrow0.open
  have wa : a[0].length = width a := by rw [width, getD_of_lt [] pa]
  have wb : b[0].length = width b := by rw [width, getD_of_lt [] pb]
  have wb' : width b ≤ 1000 := by rw [← wb]; exact sb.wide _ (List.getElem_mem pb)
  refine calls_of_mf (args := [.slice (some ad0) a.length cp, .slice (some bd0) b.length cp']) c_matrix_Mul (by simp only [m_matrix_Mul, List.length]; decide) ?_
  by_cases hw : width a = b.length
  · rw [mulM, if_pos hw]
    rw [wa] at hcell0
    rw [wb] at hbcell0
    simp -dsimp (disch := omega) only [↓MC.wp, ↓opsWp, ↓drWp, ↓MOp.wp, evs, ev, eget, eput, eput?, pev, pbin, pint, pbool, pstr, psl, vnil, pbuild, overlay, ↓thenQ, ↓blockQ, ↓retQ, ↓resWp, tupV, stills, MOp.still, known, Op.operands, argEnv, ekeep, Nat.reduceAdd, reduceCtorEq, if_true, if_false, ↓reduceIte, ne_eq, Int.reduceEq, Int.reduceLT, Int.reduceLE, Int.reduceAdd, Int.reduceSub, Int.reduceMul, Int.reduceToNat, Nat.reduceMul, Nat.reduceLeDiff, Nat.reduceLT, Nat.reduceSub, WB, m_matrix_Mul, hcell0]
    refine call (new_calls w) ?_
    intro r w0 h1
    rw [h1.1]
    have hfa := h1.2.1
    have hf0 := h1.2.2
    clear h1
    simp -dsimp (disch := omega) only [↓MC.wp, ↓opsWp, ↓drWp, ↓MOp.wp, evs, ev, eget, eput, eput?, pev, pbin, pint, pbool, pstr, psl, vnil, pbuild, overlay, ↓thenQ, ↓blockQ, ↓retQ, ↓resWp, tupV, stills, MOp.still, known, Op.operands, argEnv, ekeep, Nat.reduceAdd, reduceCtorEq, if_true, if_false, ↓reduceIte, ne_eq, Int.reduceEq, Int.reduceLT, Int.reduceLE, Int.reduceAdd, Int.reduceSub, Int.reduceMul, Int.reduceToNat, Nat.reduceMul, Nat.reduceLeDiff, Nat.reduceLT, Nat.reduceSub, WB]
    refine loopS [1, 5, 6, 20, 21, 22] (fun s : Nat × Value => [(1, .slice (some bd0) b.length cp'), (5, .pointer (some ⟨w.heap.size, 0, none⟩)), (6, s.2), (20, .slice (some ad0) a.length cp), (21, .int .i64 a.length), (22, .int .i64 s.1)])
      (fun s w1 => s.1 ≤ a.length ∧ NewMat w0.heap.size w1 s.2 ((a.take s.1).map (fun r => rowAcc b r (width b) r.length)) ∧ Fr No w0 w1) (fun s _ => a.length - s.1) (0, .slice none 0 0) (by with_unfolding_all rfl) ⟨Nat.zero_le _, NewMat.nil _ _, Fr.refl _ _⟩ ?_
    rintro ⟨i, o⟩ w1 ⟨hi, ho, hf⟩
    dsimp only at hi ho ⊢
    have hfw : Fr No w w1 := hf0.then hf
    by_cases hlt : i < a.length
    · obtain ⟨ad, u, had', had, hcell, hrow⟩ := hr i hlt
      cases had'
      obtain ⟨B2, c2, rfl, hc2, hr2⟩ := hrow.open
      have hcell1 : w1.cell? (ad0.add i) = some (.slice B2 a[i].length c2) := by rw [hfw.cell (cell_block_lt hcell) (fun h => h)]; exact hcell
      have hbcell1 : w1.cell? (bd0.add 0) = some (.slice B1 (width b) c1) := by rw [hfw.cell (cell_block_lt hbcell0) (fun h => h)]; exact hbcell0
      have hwi : a[i].length = b.length := by rw [ra.all _ (List.getElem_mem hlt), hw]
      simp -dsimp (disch := omega) only [↓MC.wp, ↓opsWp, ↓drWp, ↓MOp.wp, evs, ev, eget, eput, eput?, pev, pbin, pint, pbool, pstr, psl, vnil, pbuild, overlay, ↓thenQ, ↓blockQ, ↓retQ, ↓resWp, tupV, stills, MOp.still, known, Op.operands, argEnv, ekeep, Nat.reduceAdd, reduceCtorEq, if_true, if_false, ↓reduceIte, ne_eq, Int.reduceEq, Int.reduceLT, Int.reduceLE, Int.reduceAdd, Int.reduceSub, Int.reduceMul, Int.reduceToNat, Nat.reduceMul, Nat.reduceLeDiff, Nat.reduceLT, Nat.reduceSub, WB, hcell1, hbcell1]
      refine mkB (n := width b) (by omega) ?_ ?_ ?_
      · with_unfolding_all rfl
      · with_unfolding_all rfl
      intro g w2 hg hrow2 hf2
      simp -dsimp (disch := omega) only [↓MC.wp, ↓opsWp, ↓drWp, ↓MOp.wp, evs, ev, eget, eput, eput?, pev, pbin, pint, pbool, pstr, psl, vnil, pbuild, overlay, ↓thenQ, ↓blockQ, ↓retQ, ↓resWp, tupV, stills, MOp.still, known, Op.operands, argEnv, ekeep, Nat.reduceAdd, reduceCtorEq, if_true, if_false, ↓reduceIte, ne_eq, Int.reduceEq, Int.reduceLT, Int.reduceLE, Int.reduceAdd, Int.reduceSub, Int.reduceMul, Int.reduceToNat, Nat.reduceMul, Nat.reduceLeDiff, Nat.reduceLT, Nat.reduceSub, WB]
      refine loopS [1, 5, 6, 9, 20, 21, 22, 31, 32, 33] (fun k : Nat => [(1, .slice (some bd0) b.length cp'), (5, .pointer (some ⟨w.heap.size, 0, none⟩)), (6, o), (9, .slice (some ⟨g, 0, none⟩) (width b) (width b)), (20, .slice (some ad0) a.length cp), (21, .int .i64 a.length), (22, .int .i64 i),
          (31, .slice B2 a[i].length c2), (32, .int .i64 a[i].length), (33, .int .i64 k)])
        (fun k w3 => k ≤ a[i].length ∧ Ow w3 5 1 (.slice (some ⟨g, 0, none⟩) (width b) (width b)) (width b) ((rowAcc b a[i] (width b) k).map U8) ∧ Fr No w1 w3) (fun k _ => a[i].length - k) 0 (by with_unfolding_all rfl) ⟨Nat.zero_le _, ?_, hf2⟩ ?_
      · have := hrow2.1
        rw [List.length_replicate] at this
        exact this
      · clear hrow2 hf2 w2
        rintro k w3 ⟨hk, hacc, hf3⟩
        have hfw3 : Fr No w w3 := hfw.then hf3
        by_cases hkl : k < a[i].length
        · obtain ⟨ad3, hB2, had3, hcell3⟩ := hr2 k hkl
          cases hB2
          have hkb : k < b.length := by omega
          obtain ⟨bd3, x3, hbd3', hbd3, hbcell3, hbrow3⟩ := hr' k hkb
          cases hbd3'
          have hcell4 : w3.cell? (ad3.add k) = some (U8 a[i][k]) := by rw [hfw3.cell (cell_block_lt hcell3) (fun h => h)]; exact hcell3
          have hbcell4 : w3.cell? (bd0.add k) = some x3 := by rw [hfw3.cell (cell_block_lt hbcell3) (fun h => h)]; exact hbcell3
          have hfa3 : FieldAt w3 w.heap.size := (hfa.fr hf fun h => h).fr hf3 fun h => h
          have hbrow4 : BS w3 B' x3 b[k] := hbrow3.fr hfw3 fun _ _ h => h
          have hsz := hfw3.size
          have hbl : b[k].length ≤ 1000 := sb.wide _ (List.getElem_mem hkb)
          simp -dsimp (disch := omega) only [↓MC.wp, ↓opsWp, ↓drWp, ↓MOp.wp, evs, ev, eget, eput, eput?, pev, pbin, pint, pbool, pstr, psl, vnil, pbuild, overlay, ↓thenQ, ↓blockQ, ↓retQ, ↓resWp, tupV, stills, MOp.still, known, Op.operands, argEnv, ekeep, Nat.reduceAdd, reduceCtorEq, if_true, if_false, ↓reduceIte, ne_eq, Int.reduceEq, Int.reduceLT, Int.reduceLE, Int.reduceAdd, Int.reduceSub, Int.reduceMul, Int.reduceToNat, Nat.reduceMul, Nat.reduceLeDiff, Nat.reduceLT, Nat.reduceSub, WB, hcell4, hbcell4]
          refine call (row_calls hfa3 a[i][k] hbrow4 (by omega) (by omega)) ?_
          intro r w4 h4
          have hr4 := h4.1
          have hf4 := h4.2
          clear h4
          simp -dsimp (disch := omega) only [↓MC.wp, ↓opsWp, ↓drWp, ↓MOp.wp, evs, ev, eget, eput, eput?, pev, pbin, pint, pbool, pstr, psl, vnil, pbuild, overlay, ↓thenQ, ↓blockQ, ↓retQ, ↓resWp, tupV, stills, MOp.still, known, Op.operands, argEnv, ekeep, Nat.reduceAdd, reduceCtorEq, if_true, if_false, ↓reduceIte, ne_eq, Int.reduceEq, Int.reduceLT, Int.reduceLE, Int.reduceAdd, Int.reduceSub, Int.reduceMul, Int.reduceToNat, Nat.reduceMul, Nat.reduceLeDiff, Nat.reduceLT, Nat.reduceSub, WB]
          have hgl : g < w3.heap.size := hacc.lt rfl
          have hbn : BN w4 g r (b[k].map (gmul a[i][k])) := Ow.bn hr4.1 fun e => by have := hr4.2 g e; omega
          have hacc4 : Ow w4 5 1 (.slice (some ⟨g, 0, none⟩) (rowAcc b a[i] (width b) k).length (width b)) (rowAcc b a[i] (width b) k).length ((rowAcc b a[i] (width b) k).map U8) := by
            rw [rowAcc_length]
            exact hacc.no hf4
          have hp := plus_calls hacc4 hbn (by rw [rowAcc_length, List.length_map, rb.all _ (List.getElem_mem hkb)]; exact Nat.le_refl _) (by rw [rowAcc_length]; omega)
          rw [rowAcc_length] at hp
          refine call hp ?_
          intro r5 w5 h5
          have hacc5 := h5.1
          have hf5 := h5.2
          clear h5
          simp -dsimp (disch := omega) only [↓MC.wp, ↓opsWp, ↓drWp, ↓MOp.wp, evs, ev, eget, eput, eput?, pev, pbin, pint, pbool, pstr, psl, vnil, pbuild, overlay, ↓thenQ, ↓blockQ, ↓retQ, ↓resWp, tupV, stills, MOp.still, known, Op.operands, argEnv, ekeep, Nat.reduceAdd, reduceCtorEq, if_true, if_false, ↓reduceIte, ne_eq, Int.reduceEq, Int.reduceLT, Int.reduceLE, Int.reduceAdd, Int.reduceSub, Int.reduceMul, Int.reduceToNat, Nat.reduceMul, Nat.reduceLeDiff, Nat.reduceLT, Nat.reduceSub, WB]
          refine ⟨k + 1, rfl, ⟨by omega, ?_, (hf3.then hf4).step hf5 fun c hc e => by omega⟩, by omega⟩
          rw [rowAcc, getD_of_lt [] hkb, getD_of_lt 0 hkl]
          exact hacc5
        · simp -dsimp (disch := omega) only [↓MC.wp, ↓opsWp, ↓drWp, ↓MOp.wp, evs, ev, eget, eput, eput?, pev, pbin, pint, pbool, pstr, psl, vnil, pbuild, overlay, ↓thenQ, ↓blockQ, ↓retQ, ↓resWp, tupV, stills, MOp.still, known, Op.operands, argEnv, ekeep, Nat.reduceAdd, reduceCtorEq, if_true, if_false, ↓reduceIte, ne_eq, Int.reduceEq, Int.reduceLT, Int.reduceLE, Int.reduceAdd, Int.reduceSub, Int.reduceMul, Int.reduceToNat, Nat.reduceMul, Nat.reduceLeDiff, Nat.reduceLT, Nat.reduceSub, WB, set_one]
          have hkk : k = a[i].length := by omega
          subst hkk
          refine new ?_
          intro b2 w4 hb2 hs4 hc4 hf4
          simp -dsimp (disch := omega) only [↓MC.wp, ↓opsWp, ↓drWp, ↓MOp.wp, evs, ev, eget, eput, eput?, pev, pbin, pint, pbool, pstr, psl, vnil, pbuild, overlay, ↓thenQ, ↓blockQ, ↓retQ, ↓resWp, tupV, stills, MOp.still, known, Op.operands, argEnv, ekeep, Nat.reduceAdd, reduceCtorEq, if_true, if_false, ↓reduceIte, ne_eq, Int.reduceEq, Int.reduceLT, Int.reduceLE, Int.reduceAdd, Int.reduceSub, Int.reduceMul, Int.reduceToNat, Nat.reduceMul, Nat.reduceLeDiff, Nat.reduceLT, Nat.reduceSub, WB]
          have hu : NewRow w1.heap.size w3 (.slice (some ⟨g, 0, none⟩) (width b) (width b)) (rowAcc b a[i] (width b) a[i].length) := by
            refine ⟨?_, fun c hc => by cases hc; exact Nat.le_of_eq hg.symm⟩
            rw [rowAcc_length]
            exact hacc
          have hi2 : ((a.take i).map (fun r => rowAcc b r (width b) r.length)).length ≤ 1000000 := by
            have := sa.high
            rw [List.length_map, List.length_take]; omega
          refine push_row ho hf hf3 hu hi2 hb2 hs4 hc4 hf4 ?_
          intro r' w' hr' hf'
          simp -dsimp (disch := omega) only [↓MC.wp, ↓opsWp, ↓drWp, ↓MOp.wp, evs, ev, eget, eput, eput?, pev, pbin, pint, pbool, pstr, psl, vnil, pbuild, overlay, ↓thenQ, ↓blockQ, ↓retQ, ↓resWp, tupV, stills, MOp.still, known, Op.operands, argEnv, ekeep, Nat.reduceAdd, reduceCtorEq, if_true, if_false, ↓reduceIte, ne_eq, Int.reduceEq, Int.reduceLT, Int.reduceLE, Int.reduceAdd, Int.reduceSub, Int.reduceMul, Int.reduceToNat, Nat.reduceMul, Nat.reduceLeDiff, Nat.reduceLT, Nat.reduceSub, WB]
          refine ⟨(i + 1, r'), rfl, ⟨by dsimp only; omega, ?_, hf'⟩, by dsimp only; omega⟩
          dsimp only
          rw [take_succ' hlt, List.map_append]
          exact hr'
    · simp -dsimp (disch := omega) only [↓MC.wp, ↓opsWp, ↓drWp, ↓MOp.wp, evs, ev, eget, eput, eput?, pev, pbin, pint, pbool, pstr, psl, vnil, pbuild, overlay, ↓thenQ, ↓blockQ, ↓retQ, ↓resWp, tupV, stills, MOp.still, known, Op.operands, argEnv, ekeep, Nat.reduceAdd, reduceCtorEq, if_true, if_false, ↓reduceIte, ne_eq, Int.reduceEq, Int.reduceLT, Int.reduceLE, Int.reduceAdd, Int.reduceSub, Int.reduceMul, Int.reduceToNat, Nat.reduceMul, Nat.reduceLeDiff, Nat.reduceLT, Nat.reduceSub, WB]
      have hin : i = a.length := by omega
      subst hin
      rw [List.take_length] at ho
      exact ⟨ho.mono hf0.size, hf0.then hf⟩
  · rw [mulM, if_neg hw]
    rw [wa] at hcell0
    simp -dsimp (disch := omega) only [↓MC.wp, ↓opsWp, ↓drWp, ↓MOp.wp, evs, ev, eget, eput, eput?, pev, pbin, pint, pbool, pstr, psl, vnil, pbuild, overlay, ↓thenQ, ↓blockQ, ↓retQ, ↓resWp, tupV, stills, MOp.still, known, Op.operands, argEnv, ekeep, Nat.reduceAdd, reduceCtorEq, if_true, if_false, ↓reduceIte, ne_eq, Int.reduceEq, Int.reduceLT, Int.reduceLE, Int.reduceAdd, Int.reduceSub, Int.reduceMul, Int.reduceToNat, Nat.reduceMul, Nat.reduceLeDiff, Nat.reduceLT, Nat.reduceSub, WB, m_matrix_Mul, hcell0]
    exact ⟨NewMat.nil _ _, Fr.refl _ _⟩
end Go.Proofs.Ytgpkbldlkadnjaa
end
section
/- Two matrices of one's own, side by side: their rows swapped, replaced, turned. -/
set_option linter.unusedVariables false
set_option linter.unusedSimpArgs false
set_option maxHeartbeats 3000000
attribute [local irreducible] Go.Sl.Chk Go.Sl.Br Go.Sl.Ld Go.Sl.Ldn Go.Sl.LdB Go.Sl.Stn Go.Sl.New Go.Sl.Run Go.Sl.RunU Go.Sl.RunX Go.Sl.Call Go.Sl.LoopK Go.Sl.RawK Go.Sl.ev Go.Sl.eget
namespace Go.Proofs.Ytgpkbldlkadnjaa
open Go Go.Sl Go.RowKit

/-- the places c and i swapped -/
def sig (c i j : Nat) : Nat := if j = i then c else if j = c then i else j
def swp {α : Type} (d : α) (l : List α) (c i : Nat) : List α := (l.set c (l.getD i d)).set i (l.getD c d)
theorem swp_length {α : Type} (d : α) (l : List α) (c i : Nat) : (swp d l c i).length = l.length := by simp [swp]
theorem swp_get {α : Type} (d : α) {l : List α} {c i : Nat} (hc : c < l.length) (hi : i < l.length) (j : Nat) : (swp d l c i)[j]? = l[sig c i j]? := by
  unfold swp sig
  rw [getD_of_lt d hc, getD_of_lt d hi]
  rw [List.getElem?_set, List.length_set]
  by_cases h1 : i = j
  · subst h1; rw [if_pos rfl, if_pos hi, if_pos rfl, List.getElem?_eq_getElem hc]
  · rw [if_neg h1, if_neg (fun e => h1 e.symm), List.getElem?_set]
    by_cases h2 : c = j
    · subst h2; rw [if_pos rfl, if_pos hc, if_pos rfl, List.getElem?_eq_getElem hi]
    · rw [if_neg h2, if_neg (fun e => h2 e.symm)]
theorem sig_inj {c i j k : Nat} (h : sig c i j = sig c i k) : j = k := by
  unfold sig at h
  split at h <;> split at h <;> (try split at h) <;> (try split at h) <;> omega
theorem sig_lt {c i j n : Nat} (hc : c < n) (hi : i < n) (hj : j < n) : sig c i j < n := by
  unfold sig; split; exact hc; split; exact hi; exact hj

theorem OM.at {w : World} {r : Value} {vs : List Value} {m : List (List UInt8)} (h : OM w r vs m) {j : Nat} (hj : j < m.length) : ∃ u, vs[j]? = some u ∧ Ow w 5 1 u m[j].length (m[j].map U8) ∧
    ∃ g cap, r = .slice (some ⟨g, 0, none⟩) m.length cap ∧ w.cell? ⟨g, j, none⟩ = some u := by
  have hv : vs[j]? = some (vs[j]'(by rw [h.len]; exact hj)) := List.getElem?_eq_getElem _
  refine ⟨_, hv, h.row j _ _ hv (List.getElem?_eq_getElem hj), ?_⟩
  rcases h.spine.form with ⟨_, hn, _⟩ | ⟨g, cap, cur, rfl, _⟩
  · omega
  · exact ⟨g, cap, rfl, h.spine.cellAt hv⟩
theorem OM.at' {w : World} {g k cap : Nat} {vs : List Value} {m : List (List UInt8)} (h : OM w (.slice (some ⟨g, 0, none⟩) k cap) vs m) {j : Nat} (hj : j < m.length) : ∃ u, vs[j]? = some u ∧ Ow w 5 1 u m[j].length (m[j].map U8) ∧
    w.cell? ⟨g, j, none⟩ = some u := by
  obtain ⟨u, h1, h2, g', cap', e, h3⟩ := h.at hj
  simp only [Value.slice.injEq, Option.some.injEq, Addr.mk.injEq] at e
  refine ⟨u, h1, h2, ?_⟩
  rw [e.1.1]
  exact h3
/-- a row that isn't empty, in memory -/
theorem Ow.posRow {w : World} {u : Value} {x : List UInt8} (h : Ow w 5 1 u x.length (x.map U8)) (hp : 0 < x.length) : ∃ g cap, u = .slice (some ⟨g, 0, none⟩) x.length cap ∧ ∀ j (hj : j < x.length), w.cell? ⟨g, j, none⟩ = some (U8 x[j]) := by
  rcases h.form with ⟨_, hn, _⟩ | ⟨g, cap, cur, rfl, _⟩
  · omega
  · exact ⟨g, cap, rfl, fun j hj => h.cellAt (by rw [List.getElem?_map, List.getElem?_eq_getElem hj]; rfl)⟩

/-- left and out -/
structure PM (w : World) (n : Nat) (rl : Value) (vl : List Value) (l : List (List UInt8)) (ro : Value) (vo : List Value) (o : List (List UInt8)) : Prop where
  left : OM w rl vl l
  out : OM w ro vo o
  dl : Dis rl vl
  do' : Dis ro vo
  apart : ∀ b, Has rl vl b → ¬ Has ro vo b
  ll : l.length = n
  lo : o.length = n
  wl : ∀ x ∈ l, x.length = n
  wo : ∀ x ∈ o, x.length = n
theorem PM.no {w w' : World} {n : Nat} {rl ro : Value} {vl vo : List Value} {l o : List (List UInt8)} (h : PM w n rl vl l ro vo o) (hf : Fr No w w') : PM w' n rl vl l ro vo o :=
  ⟨h.left.no hf, h.out.no hf, h.dl, h.do', h.apart, h.ll, h.lo, h.wl, h.wo⟩
/-- all of the blocks of the two -/
def Has2 (rl : Value) (vl : List Value) (ro : Value) (vo : List Value) (b : Nat) : Prop := Has rl vl b ∨ Has ro vo b

theorem mem_of_get {α : Type} {l l' : List α} {f : Nat → Nat} (h : ∀ j, l'[j]? = l[f j]?) {x : α} (hx : x ∈ l') : x ∈ l := by
  obtain ⟨j, hj⟩ := List.getElem?_of_mem hx
  rw [h j] at hj
  exact List.mem_of_getElem? hj
/-- a matrix, its rows in another order -/
theorem OM.reorder {w w' : World} {r : Value} {vs vs' : List Value} {m m' : List (List UInt8)} (h : OM w r vs m) (hd : Dis r vs) {f : Nat → Nat} (hv : ∀ j, vs'[j]? = vs[f j]?) (hm : ∀ j, m'[j]? = m[f j]?) (hlv : vs'.length = vs.length) (hlm : m'.length = m.length)
    (hsp : Ow w' 29 1 r m.length vs') (hf : Fr (fun b => r.ownBlock = some b) w w') : OM w' r vs' m' := by
  refine ⟨by rw [hlv, hlm]; exact h.len, by rw [hlm]; exact hsp, fun j u x hu hx => ?_⟩
  rw [hv] at hu
  rw [hm] at hx
  exact (h.row _ u x hu hx).fr hf fun b hb hr => hd.spine _ u b hu hb hr
theorem Dis.reorder {r : Value} {vs vs' : List Value} (hd : Dis r vs) {f : Nat → Nat} (hi : ∀ j k, f j = f k → j = k) (hv : ∀ j, vs'[j]? = vs[f j]?) : Dis r vs' :=
  ⟨fun j u b hu hb => by rw [hv] at hu; exact hd.spine _ u b hu hb, fun i j u v b hij hu hv' hb => by rw [hv] at hu hv'; exact hd.rows _ _ u v b (fun e => hij (hi _ _ e)) hu hv' hb⟩
theorem Has.reorder {r : Value} {vs vs' : List Value} {f : Nat → Nat} (hv : ∀ j, vs'[j]? = vs[f j]?) {b : Nat} (h : Has r vs' b) : Has r vs b := by
  rcases h with h | ⟨j, u, hu, hb⟩
  · exact .inl h
  · rw [hv] at hu; exact .inr ⟨_, u, hu, hb⟩
/-- both, two rows swapped -/
theorem PM.swap {w w' : World} {n : Nat} {rl ro : Value} {vl vo : List Value} {l o : List (List UInt8)} (h : PM w n rl vl l ro vo o) {c i : Nat} (hc : c < n) (hi : i < n)
    (hl : Ow w' 29 1 rl n (swp undef vl c i)) (ho : Ow w' 29 1 ro n (swp undef vo c i)) (hf : Fr (fun b => rl.ownBlock = some b ∨ ro.ownBlock = some b) w w') :
    PM w' n rl (swp undef vl c i) (swp [] l c i) ro (swp undef vo c i) (swp [] o c i) := by
  have hvl : vl.length = n := by rw [h.left.len]; exact h.ll
  have hvo : vo.length = n := by rw [h.out.len]; exact h.lo
  have e1 := swp_get undef (l := vl) (c := c) (i := i) (by omega) (by omega)
  have e2 := swp_get undef (l := vo) (c := c) (i := i) (by omega) (by omega)
  have e3 := swp_get [] (l := l) (c := c) (i := i) (by rw [h.ll]; exact hc) (by rw [h.ll]; exact hi)
  have e4 := swp_get [] (l := o) (c := c) (i := i) (by rw [h.lo]; exact hc) (by rw [h.lo]; exact hi)
  refine ⟨⟨by rw [swp_length, swp_length]; exact h.left.len, by rw [swp_length, h.ll]; exact hl, fun j u x hu hx => ?_⟩, ⟨by rw [swp_length, swp_length]; exact h.out.len, by rw [swp_length, h.lo]; exact ho, fun j u x hu hx => ?_⟩,
    h.dl.reorder (fun _ _ => sig_inj) e1, h.do'.reorder (fun _ _ => sig_inj) e2, fun b hb hb' => h.apart b (hb.reorder e1) (hb'.reorder e2),
    by rw [swp_length]; exact h.ll, by rw [swp_length]; exact h.lo, fun x hx => h.wl x (mem_of_get e3 hx), fun x hx => h.wo x (mem_of_get e4 hx)⟩
  · rw [e1] at hu
    rw [e3] at hx
    refine (h.left.row _ u x hu hx).fr hf fun b hb hr => ?_
    rcases hr with hr | hr
    · exact h.dl.spine _ u b hu hb hr
    · exact h.apart b (.inr ⟨_, u, hu, hb⟩) (.inl hr)
  · rw [e2] at hu
    rw [e4] at hx
    refine (h.out.row _ u x hu hx).fr hf fun b hb hr => ?_
    rcases hr with hr | hr
    · exact h.apart b (.inl hr) (.inr ⟨_, u, hu, hb⟩)
    · exact h.do'.spine _ u b hu hb hr

/-- a row replaced by a new one -/
theorem OM.put {w w' : World} {r u : Value} {vs : List Value} {m : List (List UInt8)} {x : List UInt8} {c : Nat} (h : OM w r vs m) (hd : Dis r vs) (hsp : Ow w' 29 1 r m.length (vs.set c u)) {M : Nat → Prop} (hf : Fr M w w') (hM : ∀ b, M b → ¬ ∃ (j : Nat) (v : Value), vs[j]? = some v ∧ v.ownBlock = some b)
    (hu : Ow w' 5 1 u x.length (x.map U8)) : OM w' r (vs.set c u) (m.set c x) := by
  refine ⟨by simp [h.len], by simpa using hsp, fun j v y hv hy => ?_⟩
  rw [List.getElem?_set] at hv hy
  by_cases hcj : c = j
  · subst hcj
    rw [if_pos rfl] at hv hy
    split at hv <;> split at hy <;> simp at hv hy
    subst hv
    subst hy
    exact hu
  · rw [if_neg hcj] at hv hy
    exact (h.row j v y hv hy).fr hf fun b hb hMb => hM b hMb ⟨j, v, hv, hb⟩
theorem Dis.put {r u : Value} {vs : List Value} {c : Nat} (hd : Dis r vs) (hu : ∀ b, u.ownBlock = some b → ¬ Has r vs b) : Dis r (vs.set c u) := by
  have key : ∀ (j : Nat) (v : Value), (vs.set c u)[j]? = some v → (j ≠ c ∧ vs[j]? = some v) ∨ (j = c ∧ v = u) := by
    intro j v hv
    rw [List.getElem?_set] at hv
    by_cases h : c = j
    · rw [if_pos h] at hv
      split at hv <;> simp at hv
      exact .inr ⟨h.symm, hv.symm⟩
    · rw [if_neg h] at hv; exact .inl ⟨fun e => h e.symm, hv⟩
  refine ⟨fun j v b hv hb hrb => ?_, fun i j v v' b hij hv hv' hb hb' => ?_⟩
  · rcases key j v hv with ⟨_, h⟩ | ⟨_, rfl⟩
    · exact hd.spine j v b h hb hrb
    · exact hu b hb (.inl hrb)
  · rcases key i v hv with ⟨_, h⟩ | ⟨e, rfl⟩ <;> rcases key j v' hv' with ⟨_, h'⟩ | ⟨e', rfl⟩
    · exact hd.rows i j v v' b hij h h' hb hb'
    · exact hu b hb' (.inr ⟨i, v, h, hb⟩)
    · exact hu b hb (.inr ⟨j, v', h', hb'⟩)
    · omega
theorem Has.put {r u : Value} {vs : List Value} {c b : Nat} (h : Has r (vs.set c u) b) : Has r vs b ∨ u.ownBlock = some b := by
  rcases h with h | ⟨j, v, hv, hb⟩
  · exact .inl (.inl h)
  · rw [List.getElem?_set] at hv
    by_cases hc : c = j
    · rw [if_pos hc] at hv
      split at hv <;> simp at hv
      subst hv
      exact .inr hb
    · rw [if_neg hc] at hv; exact .inl (.inr ⟨j, v, hv, hb⟩)
/-- a row turned where it lies -/
theorem OM.turn {w w' : World} {r u : Value} {vs : List Value} {m : List (List UInt8)} {x : List UInt8} {i g : Nat} (h : OM w r vs m) (hd : Dis r vs) (hv : vs[i]? = some u) (hg : u.ownBlock = some g) (hf : Fr (· = g) w w')
    (hu : Ow w' 5 1 u x.length (x.map U8)) : OM w' r vs (m.set i x) := by
  refine ⟨by simp [h.len], ?_, fun j v y hv' hy => ?_⟩
  · rw [List.length_set]
    exact h.spine.fr hf fun b hb e => by subst e; exact hd.spine i u b hv hg hb
  · rw [List.getElem?_set] at hy
    by_cases hij : i = j
    · subst hij
      rw [if_pos rfl] at hy
      rw [hv] at hv'
      split at hy <;> simp at hy hv'
      subst hv'
      subst hy
      exact hu
    · rw [if_neg hij] at hy
      exact (h.row j v y hv' hy).fr hf fun b hb e => by subst e; exact hd.rows i j u v b hij hv hv' hg hb
end Go.Proofs.Ytgpkbldlkadnjaa
end
section
/- Walks: pivot. -/
set_option linter.unusedVariables false
set_option linter.unusedSimpArgs false
set_option maxHeartbeats 3000000
attribute [local irreducible] Go.Sl.Chk Go.Sl.Br Go.Sl.Ld Go.Sl.Ldn Go.Sl.LdB Go.Sl.Stn Go.Sl.New Go.Sl.Run Go.Sl.RunU Go.Sl.RunX Go.Sl.Call Go.Sl.LoopK Go.Sl.RawK Go.Sl.ev Go.Sl.eget
namespace Go.Proofs.Ytgpkbldlkadnjaa
open Go Go.Sl Go.RowKit

def entry (l : List (List UInt8)) (i j : Nat) : UInt8 := (l.getD i []).getD j 0
theorem entry_eq {l : List (List UInt8)} {i j : Nat} (hi : i < l.length) (hj : j < l[i].length) : entry l i j = l[i][j] := by
  rw [entry, getD_of_lt [] hi, getD_of_lt 0 hj]
def findP (l : List (List UInt8)) (n c : Nat) : Option Nat := (List.range n).find? fun i => decide (c ≤ i) && (entry l i c != 0)
theorem findP_some {l : List (List UInt8)} {n c i : Nat} (hc : c ≤ i) (hi : i < n) (he : entry l i c ≠ 0) (hb : ∀ j, c ≤ j → j < i → entry l j c = 0) : findP l n c = some i := by
  rw [findP, List.find?_eq_some_iff_getElem]
  refine ⟨by simp [hc, he], i, by simpa using hi, by simp, fun j hj => ?_⟩
  simp only [List.getElem_range]
  by_cases h : c ≤ j
  · simp [h, hb j h hj]
  · simp [h]
theorem findP_none {l : List (List UInt8)} {n c : Nat} (hb : ∀ j, c ≤ j → j < n → entry l j c = 0) : findP l n c = none := by
  rw [findP, List.find?_eq_none]
  intro j hj
  rw [List.mem_range] at hj
  by_cases h : c ≤ j
  · simp [hb j h hj]
  · simp [h]
theorem Ow.one {w : World} {e : TypeId} {s n : Nat} {v : Value} {cs : List Value} (h : Ow w e s v n cs) : v.oneCell' = true := by
  rcases h.form with ⟨rfl, _⟩ | ⟨_, _, _, rfl, _⟩ <;> rfl
theorem Ow.drew {w : World} {e : TypeId} {s n : Nat} {v : Value} {cs : List Value} (h : Ow w e s v n cs) : Ow w.drew e s v n cs := h

theorem pivot_calls {w : World} {n : Nat} {rl ro : Value} {vl vo : List Value} {l o : List (List UInt8)} (h : PM w n rl vl l ro vo o) {c : Nat} (hc : c < n) (hn : n ≤ 1000) :
    Calls Try.prog f_matrix_pivot #[rl, ro, .int .i64 c] w fun en w' => ∃ r, en = .returned r ∧ ((findP l n c = none ∧ r = .bool false ∧ Fr No w w') ∨
      ∃ i, i < n ∧ findP l n c = some i ∧ r = .bool true ∧ PM w' n rl (swp undef vl c i) (swp [] l c i) ro (swp undef vo c i) (swp [] o c i) ∧ Fr (fun b => rl.ownBlock = some b ∨ ro.ownBlock = some b) w w') := by
  have hll := h.ll
  have hlo := h.lo
  obtain ⟨uc, huc, hrc, gl, capl, hrl, hcl⟩ := h.left.at (j := c) (by omega)
  obtain ⟨xc, hxc, hsc, go', capo, hro, hco⟩ := h.out.at (j := c) (by omega)
  rw [hll] at hrl
  rw [hlo] at hro
  subst hrl
  subst hro
  have hvl : vl.length = n := by rw [h.left.len]; exact hll
  have hvo : vo.length = n := by rw [h.out.len]; exact hlo
  refine calls_of_mf (args := [.slice (some ⟨gl, 0, none⟩) n capl, .slice (some ⟨go', 0, none⟩) n capo, .int .i64 c]) c_matrix_pivot (by simp only [m_matrix_pivot, List.length]; decide) ?_
  simp -dsimp (disch := omega) only [↓MC.wp, ↓opsWp, ↓drWp, ↓MOp.wp, evs, ev, eget, eput, eput?, pev, pbin, pint, pbool, pstr, psl, vnil, pbuild, overlay, ↓thenQ, ↓blockQ, ↓retQ, ↓resWp, tupV, stills, MOp.still, known, Op.operands, argEnv, ekeep, Nat.reduceAdd, reduceCtorEq, if_true, if_false, ↓reduceIte, ne_eq, Int.reduceEq, Int.reduceLT, Int.reduceLE, Int.reduceAdd, Int.reduceSub, Int.reduceMul, Int.reduceToNat, Nat.reduceMul, Nat.reduceLeDiff, Nat.reduceLT, Nat.reduceSub, WB, m_matrix_pivot]
  refine loopS [0, 1, 2, 7] (fun i : Nat => [(0, .slice (some ⟨gl, 0, none⟩) n capl), (1, .slice (some ⟨go', 0, none⟩) n capo), (2, .int .i64 c), (7, .int .i64 i)])
    (fun i w1 => c ≤ i ∧ i ≤ n ∧ (∀ j, c ≤ j → j < i → entry l j c = 0) ∧ Fr No w w1) (fun i _ => n - i) c (by with_unfolding_all rfl) ⟨Nat.le_refl _, by omega, fun j h1 h2 => by omega, Fr.refl _ _⟩ ?_
  rintro i w1 ⟨hci, hin, hz, hf⟩
  have h1 := h.no hf
  by_cases hlt : i < n
  · obtain ⟨ui, hui, hri, hci1⟩ := h1.left.at' (j := i) (by omega)
    obtain ⟨xi, hxi, hsi, hcx⟩ := h1.out.at' (j := i) (by omega)
    have hwi : l[i].length = n := h.wl _ (List.getElem_mem (by omega))
    obtain ⟨gi, capi, rfl, hcells⟩ := Ow.posRow hri (by omega)
    have hcell := hcells c (by omega)
    have hen : entry l i c = l[i][c] := entry_eq (by omega) (by omega)
    by_cases h0 : l[i][c].toNat = 0
    · simp -dsimp (disch := omega) only [↓MC.wp, ↓opsWp, ↓drWp, ↓MOp.wp, evs, ev, eget, eput, eput?, pev, pbin, pint, pbool, pstr, psl, vnil, pbuild, overlay, ↓thenQ, ↓blockQ, ↓retQ, ↓resWp, tupV, stills, MOp.still, known, Op.operands, argEnv, ekeep, Nat.reduceAdd, reduceCtorEq, if_true, if_false, ↓reduceIte, ne_eq, Int.reduceEq, Int.reduceLT, Int.reduceLE, Int.reduceAdd, Int.reduceSub, Int.reduceMul, Int.reduceToNat, Nat.reduceMul, Nat.reduceLeDiff, Nat.reduceLT, Nat.reduceSub, WB, hci1, hcell, U8]
      refine ⟨i + 1, rfl, ⟨by omega, by omega, fun j h2 h3 => ?_, hf⟩, by omega⟩
      by_cases hji : j < i
      · exact hz j h2 hji
      · have : j = i := by omega
        subst this
        rw [hen]
        exact (u8_zero _).1 h0
    · have hci2 : w1.cell? ⟨gl, c, none⟩ = some uc := by rw [hf.cell (cell_block_lt hcl) (fun h => h)]; exact hcl
      have hco2 : w1.cell? ⟨go', c, none⟩ = some xc := by rw [hf.cell (cell_block_lt hco) (fun h => h)]; exact hco
      have hne : gl ≠ go' := fun e => h.apart gl (.inl rfl) (.inl (by rw [e]; rfl))
      have hspl : Ow w1.drew 29 1 (.slice (some ⟨gl, 0, none⟩) n capl) n vl := by have := h1.left.spine; rw [hll] at this; exact this
      have hspo : Ow w1.drew 29 1 (.slice (some ⟨go', 0, none⟩) n capo) n vo := by have := h1.out.spine; rw [hlo] at this; exact this
      have o1 := Ow.one hrc
      have o2 := Ow.one hsi
      have o3 := Ow.one hsc
      simp -dsimp (disch := omega) only [↓MC.wp, ↓opsWp, ↓drWp, ↓MOp.wp, evs, ev, eget, eput, eput?, pev, pbin, pint, pbool, pstr, psl, vnil, pbuild, overlay, ↓thenQ, ↓blockQ, ↓retQ, ↓resWp, tupV, stills, MOp.still, known, Op.operands, argEnv, ekeep, Nat.reduceAdd, reduceCtorEq, if_true, if_false, ↓reduceIte, ne_eq, Int.reduceEq, Int.reduceLT, Int.reduceLE, Int.reduceAdd, Int.reduceSub, Int.reduceMul, Int.reduceToNat, Nat.reduceMul, Nat.reduceLeDiff, Nat.reduceLT, Nat.reduceSub, WB, hci1, hcell, hci2, U8]
      refine hspl.set (j := c) (v := .slice (some ⟨gi, 0, none⟩) l[i].length capi) hc rfl ?_
      intro w2 ho2 hf2 hs2
      simp -dsimp (disch := omega) only [↓MC.wp, ↓opsWp, ↓drWp, ↓MOp.wp, evs, ev, eget, eput, eput?, pev, pbin, pint, pbool, pstr, psl, vnil, pbuild, overlay, ↓thenQ, ↓blockQ, ↓retQ, ↓resWp, tupV, stills, MOp.still, known, Op.operands, argEnv, ekeep, Nat.reduceAdd, reduceCtorEq, if_true, if_false, ↓reduceIte, ne_eq, Int.reduceEq, Int.reduceLT, Int.reduceLE, Int.reduceAdd, Int.reduceSub, Int.reduceMul, Int.reduceToNat, Nat.reduceMul, Nat.reduceLeDiff, Nat.reduceLT, Nat.reduceSub, WB, o1]
      refine ho2.set (j := i) (v := uc) hlt (Ow.one hrc) ?_
      intro w3 ho3 hf3 hs3
      have hf13 : Fr (· = gl) w1.drew w3 := hf2.trans hf3
      have hspo3 : Ow w3.drew 29 1 (.slice (some ⟨go', 0, none⟩) n capo) n vo := Ow.fr hspo hf13.drew fun b hb (e : b = gl) => by cases hb; exact hne e.symm
      have hcx3 : w3.cell? ⟨go', i, none⟩ = some xi := by
        rw [hf13.cell (cell_block_lt hcx) fun (e : go' = gl) => hne e.symm]; exact hcx
      have hco3 : w3.cell? ⟨go', c, none⟩ = some xc := by
        rw [hf13.cell (cell_block_lt hco2) fun (e : go' = gl) => hne e.symm]; exact hco2
      simp -dsimp (disch := omega) only [↓MC.wp, ↓opsWp, ↓drWp, ↓MOp.wp, evs, ev, eget, eput, eput?, pev, pbin, pint, pbool, pstr, psl, vnil, pbuild, overlay, ↓thenQ, ↓blockQ, ↓retQ, ↓resWp, tupV, stills, MOp.still, known, Op.operands, argEnv, ekeep, Nat.reduceAdd, reduceCtorEq, if_true, if_false, ↓reduceIte, ne_eq, Int.reduceEq, Int.reduceLT, Int.reduceLE, Int.reduceAdd, Int.reduceSub, Int.reduceMul, Int.reduceToNat, Nat.reduceMul, Nat.reduceLeDiff, Nat.reduceLT, Nat.reduceSub, WB, hcx3, hco3, o2]
      refine hspo3.set (j := c) (v := xi) hc (Ow.one hsi) ?_
      intro w4 ho4 hf4 hs4
      simp -dsimp (disch := omega) only [↓MC.wp, ↓opsWp, ↓drWp, ↓MOp.wp, evs, ev, eget, eput, eput?, pev, pbin, pint, pbool, pstr, psl, vnil, pbuild, overlay, ↓thenQ, ↓blockQ, ↓retQ, ↓resWp, tupV, stills, MOp.still, known, Op.operands, argEnv, ekeep, Nat.reduceAdd, reduceCtorEq, if_true, if_false, ↓reduceIte, ne_eq, Int.reduceEq, Int.reduceLT, Int.reduceLE, Int.reduceAdd, Int.reduceSub, Int.reduceMul, Int.reduceToNat, Nat.reduceMul, Nat.reduceLeDiff, Nat.reduceLT, Nat.reduceSub, WB, o3]
      refine ho4.set (j := i) (v := xc) hlt (Ow.one hsc) ?_
      intro w5 ho5 hf5 hs5
      simp -dsimp (disch := omega) only [↓MC.wp, ↓opsWp, ↓drWp, ↓MOp.wp, evs, ev, eget, eput, eput?, pev, pbin, pint, pbool, pstr, psl, vnil, pbuild, overlay, ↓thenQ, ↓blockQ, ↓retQ, ↓resWp, tupV, stills, MOp.still, known, Op.operands, argEnv, ekeep, Nat.reduceAdd, reduceCtorEq, if_true, if_false, ↓reduceIte, ne_eq, Int.reduceEq, Int.reduceLT, Int.reduceLE, Int.reduceAdd, Int.reduceSub, Int.reduceMul, Int.reduceToNat, Nat.reduceMul, Nat.reduceLeDiff, Nat.reduceLT, Nat.reduceSub, WB]
      right
      have hf35 : Fr (· = go') w3.drew w5 := hf4.trans hf5
      have hfw : Fr (fun b => b = gl ∨ b = go') w w5 :=
        (hf.wide.step (hf13.of_drew) fun b _ e => .inl e).step (hf35.of_drew) fun b _ e => .inr e
      have hfw' : Fr (fun b => (Value.slice (some ⟨gl, 0, none⟩) n capl).ownBlock = some b ∨ (Value.slice (some ⟨go', 0, none⟩) n capo).ownBlock = some b) w w5 :=
        hfw.mono fun b _ e => by rcases e with rfl | rfl; exact .inl rfl; exact .inr rfl
      refine ⟨i, hlt, findP_some hci hlt (by rw [hen]; exact fun e => h0 ((u8_zero _).2 e)) hz, ?_, hfw'⟩
      refine h.swap hc hlt ?_ ?_ hfw'
      · have e : swp undef vl c i = (vl.set c (.slice (some ⟨gi, 0, none⟩) l[i].length capi)).set i uc := by
          rw [swp, List.getD_eq_getElem?_getD, hui, List.getD_eq_getElem?_getD, huc]; rfl
        rw [e]
        exact Ow.fr ho3 hf35.of_drew fun b hb (e : b = go') => by cases hb; exact hne e
      · have e : swp undef vo c i = (vo.set c xi).set i xc := by
          rw [swp, List.getD_eq_getElem?_getD, hxi, List.getD_eq_getElem?_getD, hxc]; rfl
        rw [e]
        exact ho5
  · simp -dsimp (disch := omega) only [↓MC.wp, ↓opsWp, ↓drWp, ↓MOp.wp, evs, ev, eget, eput, eput?, pev, pbin, pint, pbool, pstr, psl, vnil, pbuild, overlay, ↓thenQ, ↓blockQ, ↓retQ, ↓resWp, tupV, stills, MOp.still, known, Op.operands, argEnv, ekeep, Nat.reduceAdd, reduceCtorEq, if_true, if_false, ↓reduceIte, ne_eq, Int.reduceEq, Int.reduceLT, Int.reduceLE, Int.reduceAdd, Int.reduceSub, Int.reduceMul, Int.reduceToNat, Nat.reduceMul, Nat.reduceLeDiff, Nat.reduceLT, Nat.reduceSub, WB]
    left
    have : i = n := by omega
    subst this
    exact ⟨findP_none fun j h2 h3 => hz j h2 h3, hf⟩
end Go.Proofs.Ytgpkbldlkadnjaa
end
