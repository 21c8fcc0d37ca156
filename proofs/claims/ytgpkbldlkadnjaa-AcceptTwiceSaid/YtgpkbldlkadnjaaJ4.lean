/- Numbers that functions and types have in this seat (printed by wip/tool/mkmf2.py of this repo). -/
import Derived.Test.YtgpkbldlkadnjaaChecked
import Derived.KernelRfl
import Derived.Test.YtgpkbldlkadnjaaJ1
section
namespace Go.Proofs.Ytgpkbldlkadnjaa
open Go
abbrev f_main_main : FuncId := 0
abbrev f_gosem_cut : FuncId := 1
abbrev f_gosem_cut_init : FuncId := 2
abbrev f_law04_MatrixProducts : FuncId := 3
abbrev f_law04_MatrixBack : FuncId := 4
abbrev f_law04_MatrixCodes : FuncId := 5
abbrev f_law04_MatrixAny : FuncId := 6
abbrev f_law04_MatrixKeeps : FuncId := 7
abbrev f_law04_MatrixTimes : FuncId := 8
abbrev f_law05_CodeEncodes : FuncId := 9
abbrev f_law05_CodeAny : FuncId := 10
abbrev f_law05_CodeDecodes : FuncId := 11
abbrev f_law05_CodeTurned : FuncId := 12
abbrev f_law05_CodeKeeps : FuncId := 13
abbrev f_law05_CodeMixed : FuncId := 14
abbrev f_law07_DiskKeeps : FuncId := 15
abbrev f_law07_DiskActs : FuncId := 16
abbrev f_law07_DiskSynced : FuncId := 17
abbrev f_law20_NetOrder : FuncId := 18
abbrev f_law20_NetFull : FuncId := 19
abbrev f_law20_NetKeeps : FuncId := 20
abbrev f_law20_NetActs : FuncId := 21
abbrev f_law20_NetLost : FuncId := 22
abbrev f_law18_LogKeeps : FuncId := 23
abbrev f_law18_LogCompacts : FuncId := 24
abbrev f_law18_LogReads : FuncId := 25
abbrev f_law18_LogSynced : FuncId := 26
abbrev f_law21_AcceptHears : FuncId := 27
abbrev f_law21_AcceptTwice : FuncId := 28
abbrev f_law22_LeadChosen : FuncId := 29
abbrev f_law22_LeadQuorums : FuncId := 30
abbrev f_law25_ScrubKeeps : FuncId := 31
abbrev f_law04_awake : FuncId := 32
abbrev f_matrix_Right : FuncId := 33
abbrev f_ref04_Right : FuncId := 34
abbrev f_ref04_Few : FuncId := 35
abbrev f_ref04_Same : FuncId := 36
abbrev f_matrix_Mul : FuncId := 37
abbrev f_ref04_Mul : FuncId := 38
abbrev f_matrix_One : FuncId := 39
abbrev f_matrix_Invert : FuncId := 40
abbrev f_ref04_Det : FuncId := 41
abbrev f_matrix_Coding : FuncId := 42
abbrev f_ref04_Coding : FuncId := 43
abbrev f_matrix_Rows : FuncId := 44
abbrev f_law05_awake : FuncId := 45
abbrev f_code_Encode : FuncId := 46
abbrev f_code_Right : FuncId := 47
abbrev f_ref05_Right : FuncId := 48
abbrev f_code_N : FuncId := 49
abbrev f_ref05_N : FuncId := 50
abbrev f_ref05_Encode : FuncId := 51
abbrev f_ref05_Shape : FuncId := 52
abbrev f_ref05_Without : FuncId := 53
abbrev f_code_Decode : FuncId := 54
abbrev f_ref05_There : FuncId := 55
abbrev f_code_Rebuild : FuncId := 56
abbrev f_ref01_Same : FuncId := 57
abbrev f_ref05_Agrees : FuncId := 58
abbrev f_law07_awake : FuncId := 59
abbrev f_disk_New : FuncId := 60
abbrev f_disk_Disk_Append : FuncId := 61
abbrev f_disk_Disk_Sync : FuncId := 62
abbrev f_disk_Disk_Read : FuncId := 63
abbrev f_disk_Disk_Synced : FuncId := 64
abbrev f_ref07_Few : FuncId := 65
abbrev f_disk_Disk_Copy : FuncId := 66
abbrev f_ref07_Do : FuncId := 67
abbrev f_law07_do : FuncId := 68
abbrev f_law07_same : FuncId := 69
abbrev f_ref07_Find : FuncId := 70
abbrev f_disk_Disk_Crash : FuncId := 71
abbrev f_disk_Disk_Names : FuncId := 72
abbrev f_ref01_Strings : FuncId := 73
abbrev f_law20_awake : FuncId := 74
abbrev f_net_New : FuncId := 75
abbrev f_net_Pool_Send : FuncId := 76
abbrev f_net_Pool_Next : FuncId := 77
abbrev f_net_Pool_Len : FuncId := 78
abbrev f_net_Pool_Twice : FuncId := 79
abbrev f_ref19_Small : FuncId := 80
abbrev f_ref19_Same : FuncId := 81
abbrev f_law20_few : FuncId := 82
abbrev f_net_Pool_Copy : FuncId := 83
abbrev f_law20_put : FuncId := 84
abbrev f_net_Pool_Drop : FuncId := 85
abbrev f_net_Pool_Cut : FuncId := 86
abbrev f_law18_awake : FuncId := 87
abbrev f_ref17_Right : FuncId := 88
abbrev f_log_Open : FuncId := 89
abbrev f_log_Log_Vote : FuncId := 90
abbrev f_log_Log_Votes : FuncId := 91
abbrev f_ref17_Same : FuncId := 92
abbrev f_law18_few : FuncId := 93
abbrev f_log_Log_Promise : FuncId := 94
abbrev f_log_Log_Promised : FuncId := 95
abbrev f_log_Log_Size : FuncId := 96
abbrev f_log_Log_Compact : FuncId := 97
abbrev f_log_Read : FuncId := 98
abbrev f_ref18_Read : FuncId := 99
abbrev f_law21_awake : FuncId := 100
abbrev f_law21_few : FuncId := 101
abbrev f_law21_wanted : FuncId := 102
abbrev f_accept_Hear : FuncId := 103
abbrev f_ref19_All : FuncId := 104
abbrev f_law22_awake : FuncId := 105
abbrev f_lead_Tell : FuncId := 106
abbrev f_lead_Quorum : FuncId := 107
abbrev f_law25_awake : FuncId := 108
abbrev f_law25_disks : FuncId := 109
abbrev f_scrub_New : FuncId := 110
abbrev f_scrub_Store_Put : FuncId := 111
abbrev f_scrub_Store_Disk : FuncId := 112
abbrev f_disk_Disk_Delete : FuncId := 113
abbrev f_scrub_Store_Get : FuncId := 114
abbrev f_slices_ContainsFunc : FuncId := 115
abbrev f_matrix_Right_1 : FuncId := 116
abbrev f_field_New : FuncId := 117
abbrev f_matrix_plus : FuncId := 118
abbrev f_field_Field_Row : FuncId := 119
abbrev f_ref03_Mul : FuncId := 120
abbrev f_matrix_copied : FuncId := 121
abbrev f_matrix_pivot : FuncId := 122
abbrev f_matrix_clearColumn : FuncId := 123
abbrev f_field_Field_Inv : FuncId := 124
abbrev f_ref03_Inv : FuncId := 125
abbrev f_slices_Clone : FuncId := 126
abbrev f_code_pieces : FuncId := 127
abbrev f_ref01_Text : FuncId := 128
abbrev f_code_there : FuncId := 129
abbrev f_code_value : FuncId := 130
abbrev f_code_agrees : FuncId := 131
abbrev f_disk_Disk_Used : FuncId := 132
abbrev f_disk_named : FuncId := 133
abbrev f_ref07_Named : FuncId := 134
abbrev f_ref07_Used : FuncId := 135
abbrev f_ref07_Without : FuncId := 136
abbrev f_ref07_Put : FuncId := 137
abbrev f_disk_Disk_Rename : FuncId := 138
abbrev f_disk_Disk_Turn : FuncId := 139
abbrev f_disk_Disk_Trim : FuncId := 140
abbrev f_disk_distance : FuncId := 141
abbrev f_slices_Sorted : FuncId := 142
abbrev f_maps_Keys : FuncId := 143
abbrev f_container_heap_Push : FuncId := 144
abbrev f_net_clone : FuncId := 145
abbrev f_container_heap_Pop : FuncId := 146
abbrev f_net_Pool_place : FuncId := 147
abbrev f_container_heap_Remove : FuncId := 148
abbrev f_slices_DeleteFunc : FuncId := 149
abbrev f_net_Pool_Cut_1 : FuncId := 150
abbrev f_container_heap_Init : FuncId := 151
abbrev f_log_scan : FuncId := 152
abbrev f_slot_Put : FuncId := 153
abbrev f_log_Log_add : FuncId := 154
abbrev f_log_says_sorted : FuncId := 155
abbrev f_slot_Promise : FuncId := 156
abbrev f_frame_All : FuncId := 157
abbrev f_log_Log_all : FuncId := 158
abbrev f_ref06_Scan : FuncId := 159
abbrev f_ref17_Get : FuncId := 160
abbrev f_ref18_add : FuncId := 161
abbrev f_ref19_Right : FuncId := 162
abbrev f_ref17_Put1 : FuncId := 163
abbrev f_msg_Right : FuncId := 164
abbrev f_accept_prepare : FuncId := 165
abbrev f_accept_vote : FuncId := 166
abbrev f_lead_New : FuncId := 167
abbrev f_lead_Leader_Prepares : FuncId := 168
abbrev f_lead_Leader_Hear : FuncId := 169
abbrev f_lead_Leader_Propose : FuncId := 170
abbrev f_lead_Leader_Chosen : FuncId := 171
abbrev f_lead_Leader_Value : FuncId := 172
abbrev f_lead_Leader_Leads : FuncId := 173
abbrev f_lead_Leader_Lost : FuncId := 174
abbrev f_lead_Leader_Ballot : FuncId := 175
abbrev f_lead_gather : FuncId := 176
abbrev f_slices_Sorted_2 : FuncId := 177
abbrev f_maps_Keys_2 : FuncId := 178
abbrev f_lead_told_says : FuncId := 179
abbrev f_scrub_Store_Scrub : FuncId := 180
abbrev f_scrub_Store_Repair : FuncId := 181
abbrev f_scrub_named : FuncId := 182
abbrev f_scrub_write : FuncId := 183
abbrev f_scrub_file : FuncId := 184
abbrev f_scrub_Store_shards : FuncId := 185
abbrev f_slices_IndexFunc : FuncId := 186
abbrev f_field_Field_Mul : FuncId := 187
abbrev f_wire_Text : FuncId := 188
abbrev f_slices_Chunk : FuncId := 189
abbrev f_ref01_Num : FuncId := 190
abbrev f_wire_CutText : FuncId := 191
abbrev f_slices_Concat : FuncId := 192
abbrev f_slices_Equal : FuncId := 193
abbrev f_slices_Collect : FuncId := 194
abbrev f_slices_Sort : FuncId := 195
abbrev f_maps_Keys_1 : FuncId := 196
abbrev f_container_heap_up : FuncId := 197
abbrev f_slices_Clone_2 : FuncId := 198
abbrev f_container_heap_down : FuncId := 199
abbrev f_slices_SortedFunc : FuncId := 200
abbrev f_slices_Values : FuncId := 201
abbrev f_net_before : FuncId := 202
abbrev f_slices_IndexFunc_2 : FuncId := 203
abbrev f_net_Pool_place_1 : FuncId := 204
abbrev f_frame_Scan : FuncId := 205
abbrev f_log_says_take : FuncId := 206
abbrev f_frame_Put : FuncId := 207
abbrev f_slot_Right : FuncId := 208
abbrev f_wire_Num : FuncId := 209
abbrev f_slot_full : FuncId := 210
abbrev f_maps_Keys_3 : FuncId := 211
abbrev f_slot_ballot : FuncId := 212
abbrev f_ref01_At : FuncId := 213
abbrev f_ref02_Sum : FuncId := 214
abbrev f_ref01_TextAt : FuncId := 215
abbrev f_msg_Right_1 : FuncId := 216
abbrev f_msg_bare : FuncId := 217
abbrev f_msg_rising : FuncId := 218
abbrev f_accept_refuse : FuncId := 219
abbrev f_slices_DeleteFunc_2 : FuncId := 220
abbrev f_accept_prepare_1 : FuncId := 221
abbrev f_accept_made : FuncId := 222
abbrev f_lead_Leader_promised : FuncId := 223
abbrev f_lead_Leader_accepts : FuncId := 224
abbrev f_slices_Collect_2 : FuncId := 225
abbrev f_slices_Sort_2 : FuncId := 226
abbrev f_maps_Keys_2_1 : FuncId := 227
abbrev f_strings_CutPrefix : FuncId := 228
abbrev f_scrub_shard : FuncId := 229
abbrev f_scrub_mend : FuncId := 230
abbrev f_slices_Contains : FuncId := 231
abbrev f_slices_Chunk_1 : FuncId := 232
abbrev f_wire_CutNum : FuncId := 233
abbrev f_slices_Grow : FuncId := 234
abbrev f_slices_AppendSeq : FuncId := 235
abbrev f_slices_pdqsortOrdered : FuncId := 236
abbrev f_math_bits_Len : FuncId := 237
abbrev f_slices_Collect_3 : FuncId := 238
abbrev f_slices_SortFunc : FuncId := 239
abbrev f_slices_Values_1 : FuncId := 240
abbrev f_cmp_Or : FuncId := 241
abbrev f_cmp_Compare : FuncId := 242
abbrev f_frame_Cut : FuncId := 243
abbrev f_slot_Get : FuncId := 244
abbrev f_frame_sum : FuncId := 245
abbrev f_maps_Keys_3_1 : FuncId := 246
abbrev f_slices_IndexFunc_3 : FuncId := 247
abbrev f_slices_ContainsFunc_2 : FuncId := 248
abbrev f_accept_made_1 : FuncId := 249
abbrev f_lead_Leader_begin : FuncId := 250
abbrev f_slices_AppendSeq_2 : FuncId := 251
abbrev f_slices_pdqsortOrdered_2 : FuncId := 252
abbrev f_internal_stringslite_CutPrefix : FuncId := 253
abbrev f_slices_Index : FuncId := 254
abbrev f_slices_insertionSortOrdered : FuncId := 255
abbrev f_slices_heapSortOrdered : FuncId := 256
abbrev f_slices_breakPatternsOrdered : FuncId := 257
abbrev f_slices_choosePivotOrdered : FuncId := 258
abbrev f_slices_reverseRangeOrdered : FuncId := 259
abbrev f_slices_partialInsertionSortOrdered : FuncId := 260
abbrev f_cmp_Less : FuncId := 261
abbrev f_slices_partitionEqualOrdered : FuncId := 262
abbrev f_slices_partitionOrdered : FuncId := 263
abbrev f_math_bits_Len32 : FuncId := 264
abbrev f_math_bits_Len64 : FuncId := 265
abbrev f_slices_AppendSeq_3 : FuncId := 266
abbrev f_slices_pdqsortCmpFunc : FuncId := 267
abbrev f_cmp_isNaN : FuncId := 268
abbrev f_slot_cut : FuncId := 269
abbrev f_check_Sum : FuncId := 270
abbrev f_slices_insertionSortOrdered_2 : FuncId := 271
abbrev f_slices_heapSortOrdered_2 : FuncId := 272
abbrev f_slices_breakPatternsOrdered_2 : FuncId := 273
abbrev f_slices_choosePivotOrdered_2 : FuncId := 274
abbrev f_slices_reverseRangeOrdered_2 : FuncId := 275
abbrev f_slices_partialInsertionSortOrdered_2 : FuncId := 276
abbrev f_cmp_Less_2 : FuncId := 277
abbrev f_slices_partitionEqualOrdered_2 : FuncId := 278
abbrev f_slices_partitionOrdered_2 : FuncId := 279
abbrev f_internal_stringslite_HasPrefix : FuncId := 280
abbrev f_slices_siftDownOrdered : FuncId := 281
abbrev f_slices_nextPowerOfTwo : FuncId := 282
abbrev f_slices_xorshift_Next : FuncId := 283
abbrev f_slices_medianAdjacentOrdered : FuncId := 284
abbrev f_slices_medianOrdered : FuncId := 285
abbrev f_cmp_isNaN_2 : FuncId := 286
abbrev f_slices_insertionSortCmpFunc : FuncId := 287
abbrev f_slices_heapSortCmpFunc : FuncId := 288
abbrev f_slices_breakPatternsCmpFunc : FuncId := 289
abbrev f_slices_choosePivotCmpFunc : FuncId := 290
abbrev f_slices_reverseRangeCmpFunc : FuncId := 291
abbrev f_slices_partialInsertionSortCmpFunc : FuncId := 292
abbrev f_slices_partitionEqualCmpFunc : FuncId := 293
abbrev f_slices_partitionCmpFunc : FuncId := 294
abbrev f_check_More : FuncId := 295
abbrev f_slices_siftDownOrdered_2 : FuncId := 296
abbrev f_slices_medianAdjacentOrdered_2 : FuncId := 297
abbrev f_slices_medianOrdered_2 : FuncId := 298
abbrev f_slices_order2Ordered : FuncId := 299
abbrev f_slices_siftDownCmpFunc : FuncId := 300
abbrev f_slices_medianAdjacentCmpFunc : FuncId := 301
abbrev f_slices_medianCmpFunc : FuncId := 302
abbrev f_check_word_eight : FuncId := 303
abbrev f_slices_order2Ordered_2 : FuncId := 304
abbrev f_slices_order2CmpFunc : FuncId := 305
abbrev f_check_word_bit : FuncId := 306
abbrev f_runtime_boundsError_Error : FuncId := 307
abbrev f_runtime_boundsError_RuntimeError : FuncId := 308
abbrev f_runtime_errorString_Error : FuncId := 309
abbrev f_runtime_errorString_RuntimeError : FuncId := 310
abbrev f_runtime_plainError_Error : FuncId := 311
abbrev f_runtime_plainError_RuntimeError : FuncId := 312
abbrev f_runtime_errorAddressString_Error : FuncId := 313
abbrev f_runtime_errorAddressString_RuntimeError : FuncId := 314
abbrev f_runtime_TypeAssertionError_Error : FuncId := 315
abbrev f_runtime_TypeAssertionError_RuntimeError : FuncId := 316
abbrev f_runtime_PanicNilError_Error : FuncId := 317
abbrev f_runtime_PanicNilError_RuntimeError : FuncId := 318
abbrev f_internal_abi_Type_Align : FuncId := 319
abbrev f_internal_abi_Type_Len : FuncId := 320
abbrev f_internal_runtime_maps_unhashableTypeError_Error : FuncId := 321
abbrev f_internal_runtime_maps_unhashableTypeError_RuntimeError : FuncId := 322
abbrev f_net_packets_Len : FuncId := 323
abbrev f_net_packets_Less : FuncId := 324
abbrev f_net_packets_Swap : FuncId := 325
abbrev f_net_packets_Pop : FuncId := 326
abbrev f_net_packets_Push : FuncId := 327
abbrev f_lead_Leader_Lose : FuncId := 328
abbrev f_internal_abi_Kind_String : FuncId := 329
abbrev tInt : TypeId := 3
abbrev tBool : TypeId := 4
abbrev tU8 : TypeId := 5
abbrev tStr : TypeId := 9
abbrev tRows : TypeId := 22
abbrev tBytes : TypeId := 29
abbrev tInts : TypeId := 33
abbrev tU32 : TypeId := 37
abbrev t_api_Shape : TypeId := 41
abbrev t_api_Errno : TypeId := 42
abbrev tU16 : TypeId := 60
abbrev t_ref07_Act : TypeId := 78
abbrev tStrs : TypeId := 87
abbrev t_api_Vote : TypeId := 95
abbrev tVotes : TypeId := 96
abbrev t_api_Msg : TypeId := 98
abbrev tBools : TypeId := 99
abbrev t_law20_Act : TypeId := 112
abbrev t_law20_packet : TypeId := 115
abbrev tMsgs : TypeId := 118
abbrev t_law18_Act : TypeId := 130
abbrev t_law22_Replica : TypeId := 144
abbrev tVoteRows : TypeId := 146
abbrev t_disk_Disk : TypeId := 177
abbrev t_disk_file : TypeId := 181
abbrev t_ref07_File : TypeId := 184
abbrev tU64 : TypeId := 189
abbrev t_net_packets : TypeId := 196
abbrev t_net_Pool : TypeId := 198
abbrev t_net_packet : TypeId := 203
abbrev t_log_Log : TypeId := 215
abbrev t_log_says : TypeId := 219
abbrev t_lead_told : TypeId := 247
abbrev t_scrub_Store : TypeId := 253
abbrev t_field_Field : TypeId := 261
abbrev t_lead_Leader : TypeId := 296
abbrev t_lead_entry : TypeId := 299
abbrev t_check_word : TypeId := 362
end Go.Proofs.Ytgpkbldlkadnjaa
end
section
/- Functions of the program in the small code (printed by wip/tool/Print.lean and mkmf2.py of this repo), each with its equation, held by the kernel. -/
set_option linter.unusedVariables false
namespace Go.Proofs.Ytgpkbldlkadnjaa
open Go Go.Sl
-- 32 shardlog/shardloglaw04.awake; slots [(1, m), (2, x), (3, ok), (4, _), (5, is)]
noncomputable def m_law04_awake : MF := ⟨58, [.t 0],
 .seq (
 .ops [
 .p 0 .mv [(.const (.bool false))]]) (
 .seq (
 .ops [
 .bsl 6 tU8 2 [(.int .u8 0), (.int .u8 0)] [(0, 1), (1, 1)] [(.const (.int .u8 0)), (.const (.int .u8 1))],
 .bsl 7 tU8 2 [(.int .u8 0), (.int .u8 0)] [(0, 1), (1, 1)] [(.const (.int .u8 1)), (.const (.int .u8 0))],
 .bsl 8 tBytes 2 [(.slice none 0 0), (.slice none 0 0)] [(0, 1), (1, 1)] [(.tmp 6), (.tmp 7)],
 .p 1 .mv [(.tmp 8)]]) (
 .seq (
 .ops [
 .p 10 .mv [(.tmp 1)],
 .call (some 11) f_matrix_Invert [(.tmp 10)],
 .p 9 .mv [(.tmp 11)],
 .p 12 (.ext 0) [(.tmp 9)],
 .p 13 (.ext 1) [(.tmp 9)],
 .p 2 .mv [(.tmp 12)],
 .p 3 .mv [(.tmp 13)]]) (
 .seq (
 .ops [
 .bsl 15 tU8 2 [(.int .u8 0), (.int .u8 0)] [(0, 1), (1, 1)] [(.const (.int .u8 1)), (.const (.int .u8 1))],
 .bsl 16 tU8 2 [(.int .u8 0), (.int .u8 0)] [(0, 1), (1, 1)] [(.const (.int .u8 1)), (.const (.int .u8 1))],
 .bsl 17 tBytes 2 [(.slice none 0 0), (.slice none 0 0)] [(0, 1), (1, 1)] [(.tmp 15), (.tmp 16)],
 .call (some 18) f_matrix_Invert [(.tmp 17)],
 .p 14 .mv [(.tmp 18)],
 .p 19 (.ext 0) [(.tmp 14)],
 .p 20 (.ext 1) [(.tmp 14)],
 .p 4 .mv [(.tmp 19)],
 .p 5 .mv [(.tmp 20)]]) (
 .seq (
 .ops [
 .p 21 .mv [(.tmp 3)],
 .p 22 .mv [(.tmp 21)],
 .gd 22 true (some 23) (.p 23 .mv [(.tmp 5)]),
 .gd 22 true (some 24) (.p 24 .not [(.tmp 23)]),
 .p 25 .pick [(.tmp 22), (.tmp 24), (.const (.bool false))],
 .p 26 .mv [(.tmp 25)],
 .gd 26 true (some 27) (.p 27 .mv [(.tmp 2)]),
 .gd 26 true (some 28) (.p 28 .mv [(.tmp 1)]),
 .gd 26 true (some 29) (.call (some 29) f_ref04_Same [(.tmp 27), (.tmp 28)]),
 .p 30 .pick [(.tmp 26), (.tmp 29), (.const (.bool false))],
 .p 31 .mv [(.tmp 30)],
 .gd 31 true (some 32) (.p 32 .mv [(.tmp 1)]),
 .gd 31 true (some 33) (.p 33 .mv [(.tmp 1)]),
 .gd 31 true (some 34) (.call (some 34) f_matrix_Mul [(.tmp 32), (.tmp 33)]),
 .gd 31 true (some 35) (.call (some 35) f_matrix_One [(.const (.int .i64 2))]),
 .gd 31 true (some 36) (.call (some 36) f_ref04_Same [(.tmp 34), (.tmp 35)]),
 .p 37 .pick [(.tmp 31), (.tmp 36), (.const (.bool false))],
 .p 38 .mv [(.tmp 37)],
 .gd 38 true (some 39) (.call (some 39) f_matrix_Coding [(.const (.int .i64 2)), (.const (.int .i64 3))]),
 .gd 38 true (some 40) (.p 40 .len [(.tmp 39)]),
 .gd 38 true (some 41) (.p 41 (.bin .eql) [(.tmp 40), (.const (.int .i64 3))]),
 .p 42 .pick [(.tmp 38), (.tmp 41), (.const (.bool false))],
 .p 43 .mv [(.tmp 42)],
 .gd 43 true (some 44) (.p 44 .mv [(.tmp 1)]),
 .gd 43 true (some 45) (.call (some 45) f_matrix_Right [(.tmp 44)]),
 .p 46 .pick [(.tmp 43), (.tmp 45), (.const (.bool false))],
 .p 47 .mv [(.tmp 46)],
 .gd 47 true (some 48) (.call (some 48) f_matrix_Right [(.const (.slice none 0 0))]),
 .gd 47 true (some 49) (.p 49 .not [(.tmp 48)]),
 .p 50 .pick [(.tmp 47), (.tmp 49), (.const (.bool false))],
 .p 51 .mv [(.tmp 50)],
 .gd 51 true (some 52) (.p 52 .mv [(.tmp 1)]),
 .gd 51 true (some 53) (.bsl 53 tInt 1 [(.int .i64 0)] [(0, 1)] [(.const (.int .i64 1))]),
 .gd 51 true (some 54) (.call (some 54) f_matrix_Rows [(.tmp 52), (.tmp 53)]),
 .gd 51 true (some 55) (.p 55 .len [(.tmp 54)]),
 .gd 51 true (some 56) (.p 56 (.bin .eql) [(.tmp 55), (.const (.int .i64 1))]),
 .p 57 .pick [(.tmp 51), (.tmp 56), (.const (.bool false))],
 .p 0 .mv [(.tmp 57)]]) (
 .ret)))))⟩

-- 33 shardlog/matrix.Right; slots [(0, m), (1, m)]
noncomputable def m_matrix_Right : MF := ⟨17, [.t 2],
 .seq (
 .ops [
 .box 1 tRows (.tmp 0),
 .p 2 .mv [(.const (.bool false))]]) (
 .seq (
 .seq (
 .ops [
 .ld 3 (.tmp 1),
 .p 4 .len [(.tmp 3)],
 .p 5 (.bin .eql) [(.tmp 4), (.const (.int .i64 0))],
 .p 6 .mv [(.tmp 5)],
 .gd 6 false (some 7) (.ld 7 (.tmp 1)),
 .gd 6 false (some 8) (.p 8 (.ixs 1) [(.tmp 7), (.const (.int .i64 0))]),
 .gd 6 false (some 9) (.ld 9 (.tmp 8)),
 .gd 6 false (some 10) (.p 10 .len [(.tmp 9)]),
 .gd 6 false (some 11) (.p 11 (.bin .eql) [(.tmp 10), (.const (.int .i64 0))]),
 .p 12 .pick [(.tmp 6), (.const (.bool true)), (.tmp 11)]]) (
 .cond (.tmp 12) (
 .seq (
 .ops [
 .p 2 .mv [(.const (.bool false))]]) (
 .ret)) (
 .skip))) (
 .seq (
 .ops [
 .ld 13 (.tmp 1),
 .p 14 (.fn (.func f_matrix_Right_1) 0) [(.tmp 1)],
 .call (some 15) f_slices_ContainsFunc [(.tmp 13), (.tmp 14)],
 .p 16 .not [(.tmp 15)],
 .p 2 .mv [(.tmp 16)]]) (
 .ret)))⟩

-- 34 shardlog/shardlogref04.Right; slots [(0, m), (1, m), (3, i)]
noncomputable def m_ref04_Right : MF := ⟨30, [.t 2],
 .seq (
 .ops [
 .p 2 .mv [(.const (.bool false))]]) (
 .seq (
 .seq (
 .ops [
 .p 4 .mv [(.tmp 0)],
 .p 5 .len [(.tmp 4)],
 .p 6 (.bin .eql) [(.tmp 5), (.const (.int .i64 0))],
 .p 7 .mv [(.tmp 6)],
 .gd 7 false (some 8) (.p 8 .mv [(.tmp 0)]),
 .gd 7 false (some 9) (.p 9 (.ixs 1) [(.tmp 8), (.const (.int .i64 0))]),
 .gd 7 false (some 10) (.ld 10 (.tmp 9)),
 .gd 7 false (some 11) (.p 11 .len [(.tmp 10)]),
 .gd 7 false (some 12) (.p 12 (.bin .eql) [(.tmp 11), (.const (.int .i64 0))]),
 .p 13 .pick [(.tmp 7), (.const (.bool true)), (.tmp 12)]]) (
 .cond (.tmp 13) (
 .seq (
 .ops [
 .p 2 .mv [(.const (.bool false))]]) (
 .ret)) (
 .skip))) (
 .seq (
 .seq (
 .ops [
 .p 3 .mv [(.const (.int .i64 0))]]) (
 .block 0 (
 .loop (
 .seq (
 .seq (
 .ops [
 .p 14 .mv [(.tmp 3)],
 .p 15 .mv [(.tmp 0)],
 .p 16 .len [(.tmp 15)],
 .p 17 (.bin .lss) [(.tmp 14), (.tmp 16)]]) (
 .cond (.tmp 17) (
 .skip) (
 .exit 0))) (
 .seq (
 .block 1 (
 .seq (
 .dr (
 .one ⟨.p 20 .mv [(.tmp 0)], []⟩ (
 .one ⟨.p 21 .mv [(.tmp 3)], []⟩ (
 .one ⟨.p 22 (.ixs 1) [(.tmp 20), (.tmp 21)], []⟩ (
 .one ⟨.ld 23 (.tmp 22), []⟩ (
 .one ⟨.p 24 .len [(.tmp 23)], []⟩ (
 .one ⟨.p 25 .mv [(.tmp 0)], []⟩ (
 .one ⟨.p 26 (.ixs 1) [(.tmp 25), (.const (.int .i64 0))], []⟩ (
 .one ⟨.ld 27 (.tmp 26), []⟩ (
 .one ⟨.p 28 .len [(.tmp 27)], []⟩ (
 .one ⟨.p 29 (.bin .neq) [(.tmp 24), (.tmp 28)], []⟩ (
 .nil)))))))))))) (
 .cond (.tmp 29) (
 .seq (
 .ops [
 .p 2 .mv [(.const (.bool false))]]) (
 .ret)) (
 .skip)))) (
 .ops [
 .p 18 .mv [(.tmp 3)],
 .p 19 (.bin .add) [(.tmp 18), (.const (.int .i64 1))],
 .p 3 .mv [(.tmp 19)]])))))) (
 .seq (
 .ops [
 .p 2 .mv [(.const (.bool true))]]) (
 .ret))))⟩

-- 35 shardlog/shardlogref04.Few; slots [(0, m), (1, most), (2, m), (3, most)]
noncomputable def m_ref04_Few : MF := ⟨21, [.t 4],
 .seq (
 .ops [
 .p 4 .mv [(.const (.bool false))]]) (
 .seq (
 .ops [
 .p 5 .mv [(.tmp 0)],
 .p 6 .len [(.tmp 5)],
 .p 7 .mv [(.tmp 1)],
 .p 8 (.bin .leq) [(.tmp 6), (.tmp 7)],
 .p 9 .mv [(.tmp 8)],
 .gd 9 true (some 10) (.p 10 .mv [(.tmp 0)]),
 .gd 9 true (some 11) (.call (some 11) f_ref04_Right [(.tmp 10)]),
 .p 12 .pick [(.tmp 9), (.tmp 11), (.const (.bool false))],
 .p 13 .mv [(.tmp 12)],
 .gd 13 true (some 14) (.p 14 .mv [(.tmp 0)]),
 .gd 13 true (some 15) (.p 15 (.ixs 1) [(.tmp 14), (.const (.int .i64 0))]),
 .gd 13 true (some 16) (.ld 16 (.tmp 15)),
 .gd 13 true (some 17) (.p 17 .len [(.tmp 16)]),
 .gd 13 true (some 18) (.p 18 .mv [(.tmp 1)]),
 .gd 13 true (some 19) (.p 19 (.bin .leq) [(.tmp 17), (.tmp 18)]),
 .p 20 .pick [(.tmp 13), (.tmp 19), (.const (.bool false))],
 .p 4 .mv [(.tmp 20)]]) (
 .ret))⟩

-- 36 shardlog/shardlogref04.Same; slots [(0, a), (1, b), (2, a), (3, b), (5, i)]
noncomputable def m_ref04_Same : MF := ⟨28, [.t 4],
 .seq (
 .ops [
 .p 4 .mv [(.const (.bool false))]]) (
 .seq (
 .seq (
 .ops [
 .p 6 .mv [(.tmp 0)],
 .p 7 .len [(.tmp 6)],
 .p 8 .mv [(.tmp 1)],
 .p 9 .len [(.tmp 8)],
 .p 10 (.bin .neq) [(.tmp 7), (.tmp 9)]]) (
 .cond (.tmp 10) (
 .seq (
 .ops [
 .p 4 .mv [(.const (.bool false))]]) (
 .ret)) (
 .skip))) (
 .seq (
 .seq (
 .ops [
 .p 5 .mv [(.const (.int .i64 0))]]) (
 .block 0 (
 .loop (
 .seq (
 .seq (
 .ops [
 .p 11 .mv [(.tmp 5)],
 .p 12 .mv [(.tmp 0)],
 .p 13 .len [(.tmp 12)],
 .p 14 (.bin .lss) [(.tmp 11), (.tmp 13)]]) (
 .cond (.tmp 14) (
 .skip) (
 .exit 0))) (
 .seq (
 .block 1 (
 .seq (
 .dr (
 .one ⟨.p 17 .mv [(.tmp 0)], []⟩ (
 .one ⟨.p 18 .mv [(.tmp 5)], []⟩ (
 .one ⟨.p 19 (.ixs 1) [(.tmp 17), (.tmp 18)], []⟩ (
 .one ⟨.ld 20 (.tmp 19), []⟩ (
 .one ⟨.bs 21 (.tmp 20), []⟩ (
 .one ⟨.p 22 .mv [(.tmp 1)], []⟩ (
 .one ⟨.p 23 .mv [(.tmp 5)], []⟩ (
 .one ⟨.p 24 (.ixs 1) [(.tmp 22), (.tmp 23)], []⟩ (
 .one ⟨.ld 25 (.tmp 24), []⟩ (
 .one ⟨.bs 26 (.tmp 25), []⟩ (
 .one ⟨.p 27 (.bin .neq) [(.tmp 21), (.tmp 26)], []⟩ (
 .nil))))))))))))) (
 .cond (.tmp 27) (
 .seq (
 .ops [
 .p 4 .mv [(.const (.bool false))]]) (
 .ret)) (
 .skip)))) (
 .ops [
 .p 15 .mv [(.tmp 5)],
 .p 16 (.bin .add) [(.tmp 15), (.const (.int .i64 1))],
 .p 5 .mv [(.tmp 16)]])))))) (
 .seq (
 .ops [
 .p 4 .mv [(.const (.bool true))]]) (
 .ret))))⟩

-- 37 shardlog/matrix.Mul; slots [(0, a), (1, b), (2, a), (3, b), (5, f), (6, out), (7, _), (8, r), (9, row), (10, k), (11, c)]
noncomputable def m_matrix_Mul : MF := ⟨54, [.t 4],
 .seq (
 .ops [
 .p 4 .mv [(.const (.slice none 0 0))]]) (
 .seq (
 .seq (
 .ops [
 .p 12 .mv [(.tmp 0)],
 .p 13 (.ixs 1) [(.tmp 12), (.const (.int .i64 0))],
 .ld 14 (.tmp 13),
 .p 15 .len [(.tmp 14)],
 .p 16 .mv [(.tmp 1)],
 .p 17 .len [(.tmp 16)],
 .p 18 (.bin .neq) [(.tmp 15), (.tmp 17)]]) (
 .cond (.tmp 18) (
 .seq (
 .ops [
 .p 4 .mv [(.const (.slice none 0 0))]]) (
 .ret)) (
 .skip))) (
 .seq (
 .ops [
 .call (some 19) f_field_New [],
 .p 5 .mv [(.tmp 19)]]) (
 .seq (
 .ops [
 .p 6 .mv [(.const (.slice none 0 0))]]) (
 .seq (
 .seq (
 .ops [
 .p 20 .mv [(.tmp 0)],
 .p 21 .len [(.tmp 20)],
 .p 22 .mv [(.const (.int .i64 0))]]) (
 .block 0 (
 .loop (
 .seq (
 .ops [
 .p 23 (.bin .lss) [(.tmp 22), (.tmp 21)]]) (
 .seq (
 .cond (.tmp 23) (
 .skip) (
 .exit 0)) (
 .seq (
 .block 1 (
 .seq (
 .ops [
 .p 24 (.ixs 1) [(.tmp 20), (.tmp 22)],
 .ld 25 (.tmp 24),
 .p 8 .mv [(.tmp 25)]]) (
 .seq (
 .ops [
 .p 26 .mv [(.tmp 1)],
 .p 27 (.ixs 1) [(.tmp 26), (.const (.int .i64 0))],
 .ld 28 (.tmp 27),
 .p 29 .len [(.tmp 28)],
 .gen (some 30) ⟨(some 30), (.makeSlice tBytes (.tmp 29) (.tmp 29)), tBytes, "matrix.go:42", #[⟨3, .data⟩, ⟨3, .data⟩], none⟩,
 .p 9 .mv [(.tmp 30)]]) (
 .seq (
 .seq (
 .ops [
 .p 31 .mv [(.tmp 8)],
 .p 32 .len [(.tmp 31)],
 .p 33 .mv [(.const (.int .i64 0))]]) (
 .block 2 (
 .loop (
 .seq (
 .ops [
 .p 34 (.bin .lss) [(.tmp 33), (.tmp 32)]]) (
 .seq (
 .cond (.tmp 34) (
 .skip) (
 .exit 2)) (
 .seq (
 .block 3 (
 .seq (
 .ops [
 .p 35 .mv [(.tmp 33)],
 .p 36 (.ixs 1) [(.tmp 31), (.tmp 33)],
 .ld 37 (.tmp 36),
 .p 10 .mv [(.tmp 35)],
 .p 11 .mv [(.tmp 37)]]) (
 .ops [
 .p 38 .mv [(.tmp 9)],
 .p 39 .mv [(.tmp 5)],
 .p 40 .mv [(.tmp 11)],
 .p 41 .mv [(.tmp 1)],
 .p 42 .mv [(.tmp 10)],
 .p 43 (.ixs 1) [(.tmp 41), (.tmp 42)],
 .ld 44 (.tmp 43),
 .call (some 45) f_field_Field_Row [(.tmp 39), (.tmp 40), (.tmp 44)],
 .call (some 46) f_matrix_plus [(.tmp 38), (.tmp 45)]]))) (
 .ops [
 .p 47 (.bin .add) [(.tmp 33), (.const (.int .i64 1))],
 .p 33 .mv [(.tmp 47)]]))))))) (
 .ops [
 .p 48 .mv [(.tmp 6)],
 .p 49 .mv [(.tmp 9)],
 .bsl 50 tBytes 1 [(.slice none 0 0)] [(0, 1)] [(.tmp 49)],
 .app 51 #[tRows, tRows] tRows (.tmp 48) (.tmp 50),
 .p 6 .mv [(.tmp 51)]]))))) (
 .ops [
 .p 52 (.bin .add) [(.tmp 22), (.const (.int .i64 1))],
 .p 22 .mv [(.tmp 52)]]))))))) (
 .seq (
 .ops [
 .p 53 .mv [(.tmp 6)],
 .p 4 .mv [(.tmp 53)]]) (
 .ret))))))⟩

-- 38 shardlog/shardlogref04.Mul; slots [(0, a), (1, b), (2, a), (3, b), (5, out), (6, i), (7, row), (8, j), (9, x), (10, k)]
noncomputable def m_ref04_Mul : MF := ⟨64, [.t 4],
 .seq (
 .ops [
 .p 4 .mv [(.const (.slice none 0 0))]]) (
 .seq (
 .seq (
 .ops [
 .p 11 .mv [(.tmp 0)],
 .p 12 (.ixs 1) [(.tmp 11), (.const (.int .i64 0))],
 .ld 13 (.tmp 12),
 .p 14 .len [(.tmp 13)],
 .p 15 .mv [(.tmp 1)],
 .p 16 .len [(.tmp 15)],
 .p 17 (.bin .neq) [(.tmp 14), (.tmp 16)]]) (
 .cond (.tmp 17) (
 .seq (
 .ops [
 .p 4 .mv [(.const (.slice none 0 0))]]) (
 .ret)) (
 .skip))) (
 .seq (
 .ops [
 .p 5 .mv [(.const (.slice none 0 0))]]) (
 .seq (
 .seq (
 .ops [
 .p 6 .mv [(.const (.int .i64 0))]]) (
 .block 0 (
 .loop (
 .seq (
 .seq (
 .ops [
 .p 18 .mv [(.tmp 6)],
 .p 19 .mv [(.tmp 0)],
 .p 20 .len [(.tmp 19)],
 .p 21 (.bin .lss) [(.tmp 18), (.tmp 20)]]) (
 .cond (.tmp 21) (
 .skip) (
 .exit 0))) (
 .seq (
 .block 1 (
 .seq (
 .ops [
 .p 7 .mv [(.const (.slice none 0 0))]]) (
 .seq (
 .seq (
 .ops [
 .p 8 .mv [(.const (.int .i64 0))]]) (
 .block 2 (
 .loop (
 .seq (
 .seq (
 .ops [
 .p 24 .mv [(.tmp 8)],
 .p 25 .mv [(.tmp 1)],
 .p 26 (.ixs 1) [(.tmp 25), (.const (.int .i64 0))],
 .ld 27 (.tmp 26),
 .p 28 .len [(.tmp 27)],
 .p 29 (.bin .lss) [(.tmp 24), (.tmp 28)]]) (
 .cond (.tmp 29) (
 .skip) (
 .exit 2))) (
 .seq (
 .block 3 (
 .seq (
 .ops [
 .p 9 .mv [(.const (.int .u8 0))]]) (
 .seq (
 .seq (
 .ops [
 .p 10 .mv [(.const (.int .i64 0))]]) (
 .block 4 (
 .loop (
 .seq (
 .seq (
 .ops [
 .p 32 .mv [(.tmp 10)],
 .p 33 .mv [(.tmp 1)],
 .p 34 .len [(.tmp 33)],
 .p 35 (.bin .lss) [(.tmp 32), (.tmp 34)]]) (
 .cond (.tmp 35) (
 .skip) (
 .exit 4))) (
 .seq (
 .block 5 (
 .dr (
 .one ⟨.p 38 .mv [(.tmp 9)], []⟩ (
 .one ⟨.p 39 .mv [(.tmp 0)], []⟩ (
 .one ⟨.p 40 .mv [(.tmp 6)], []⟩ (
 .one ⟨.p 41 (.ixs 1) [(.tmp 39), (.tmp 40)], []⟩ (
 .one ⟨.ld 42 (.tmp 41), []⟩ (
 .one ⟨.p 43 .mv [(.tmp 10)], []⟩ (
 .one ⟨.p 44 (.ixs 1) [(.tmp 42), (.tmp 43)], []⟩ (
 .one ⟨.ld 45 (.tmp 44), []⟩ (
 .one ⟨.p 46 .mv [(.tmp 1)], []⟩ (
 .one ⟨.p 47 .mv [(.tmp 10)], []⟩ (
 .one ⟨.p 48 (.ixs 1) [(.tmp 46), (.tmp 47)], []⟩ (
 .one ⟨.ld 49 (.tmp 48), []⟩ (
 .one ⟨.p 50 .mv [(.tmp 8)], []⟩ (
 .one ⟨.p 51 (.ixs 1) [(.tmp 49), (.tmp 50)], []⟩ (
 .one ⟨.ld 52 (.tmp 51), []⟩ (
 .one ⟨.call (some 53) f_ref03_Mul [(.tmp 45), (.tmp 52)], [.ld 49 (.tmp 48), .ld 42 (.tmp 41)]⟩ (
 .one ⟨.p 54 (.bin .xor) [(.tmp 38), (.tmp 53)], []⟩ (
 .one ⟨.p 9 .mv [(.tmp 54)], []⟩ (
 .nil))))))))))))))))))))) (
 .ops [
 .p 36 .mv [(.tmp 10)],
 .p 37 (.bin .add) [(.tmp 36), (.const (.int .i64 1))],
 .p 10 .mv [(.tmp 37)]])))))) (
 .ops [
 .p 55 .mv [(.tmp 7)],
 .p 56 .mv [(.tmp 9)],
 .bsl 57 tU8 1 [(.int .u8 0)] [(0, 1)] [(.tmp 56)],
 .app 58 #[tBytes, tBytes] tBytes (.tmp 55) (.tmp 57),
 .p 7 .mv [(.tmp 58)]])))) (
 .ops [
 .p 30 .mv [(.tmp 8)],
 .p 31 (.bin .add) [(.tmp 30), (.const (.int .i64 1))],
 .p 8 .mv [(.tmp 31)]])))))) (
 .ops [
 .p 59 .mv [(.tmp 5)],
 .p 60 .mv [(.tmp 7)],
 .bsl 61 tBytes 1 [(.slice none 0 0)] [(0, 1)] [(.tmp 60)],
 .app 62 #[tRows, tRows] tRows (.tmp 59) (.tmp 61),
 .p 5 .mv [(.tmp 62)]])))) (
 .ops [
 .p 22 .mv [(.tmp 6)],
 .p 23 (.bin .add) [(.tmp 22), (.const (.int .i64 1))],
 .p 6 .mv [(.tmp 23)]])))))) (
 .seq (
 .ops [
 .p 63 .mv [(.tmp 5)],
 .p 4 .mv [(.tmp 63)]]) (
 .ret)))))⟩

-- 39 shardlog/matrix.One; slots [(0, n), (1, n)]
noncomputable def m_matrix_One : MF := ⟨6, [.t 2],
 .seq (
 .ops [
 .p 2 .mv [(.const (.slice none 0 0))]]) (
 .seq (
 .ops [
 .p 3 .mv [(.tmp 0)],
 .p 4 .mv [(.tmp 0)],
 .call (some 5) f_matrix_Coding [(.tmp 3), (.tmp 4)],
 .p 2 .mv [(.tmp 5)]]) (
 .ret))⟩

-- 40 shardlog/matrix.Invert; slots [(0, m), (1, m), (4, f), (5, left), (6, out), (7, c)]
noncomputable def m_matrix_Invert : MF := ⟨38, [.t 2, .t 3],
 .seq (
 .ops [
 .p 2 .mv [(.const (.slice none 0 0))],
 .p 3 .mv [(.const (.bool false))]]) (
 .seq (
 .seq (
 .ops [
 .p 8 .mv [(.tmp 0)],
 .p 9 .len [(.tmp 8)],
 .p 10 .mv [(.tmp 0)],
 .p 11 (.ixs 1) [(.tmp 10), (.const (.int .i64 0))],
 .ld 12 (.tmp 11),
 .p 13 .len [(.tmp 12)],
 .p 14 (.bin .neq) [(.tmp 9), (.tmp 13)]]) (
 .cond (.tmp 14) (
 .seq (
 .ops [
 .p 2 .mv [(.const (.slice none 0 0))],
 .p 3 .mv [(.const (.bool false))]]) (
 .ret)) (
 .skip))) (
 .seq (
 .ops [
 .call (some 15) f_field_New [],
 .p 4 .mv [(.tmp 15)]]) (
 .seq (
 .ops [
 .p 16 .mv [(.tmp 0)],
 .call (some 17) f_matrix_copied [(.tmp 16)],
 .p 18 .mv [(.tmp 0)],
 .p 19 .len [(.tmp 18)],
 .call (some 20) f_matrix_One [(.tmp 19)],
 .p 5 .mv [(.tmp 17)],
 .p 6 .mv [(.tmp 20)]]) (
 .seq (
 .seq (
 .ops [
 .p 21 .mv [(.tmp 5)],
 .p 22 .len [(.tmp 21)],
 .p 23 .mv [(.const (.int .i64 0))]]) (
 .block 0 (
 .loop (
 .seq (
 .ops [
 .p 24 (.bin .lss) [(.tmp 23), (.tmp 22)]]) (
 .seq (
 .cond (.tmp 24) (
 .skip) (
 .exit 0)) (
 .seq (
 .block 1 (
 .seq (
 .ops [
 .p 25 .mv [(.tmp 23)],
 .p 7 .mv [(.tmp 25)]]) (
 .seq (
 .seq (
 .ops [
 .p 26 .mv [(.tmp 5)],
 .p 27 .mv [(.tmp 6)],
 .p 28 .mv [(.tmp 7)],
 .call (some 29) f_matrix_pivot [(.tmp 26), (.tmp 27), (.tmp 28)],
 .p 30 .not [(.tmp 29)]]) (
 .cond (.tmp 30) (
 .seq (
 .ops [
 .p 2 .mv [(.const (.slice none 0 0))],
 .p 3 .mv [(.const (.bool false))]]) (
 .ret)) (
 .skip))) (
 .ops [
 .p 31 .mv [(.tmp 4)],
 .p 32 .mv [(.tmp 5)],
 .p 33 .mv [(.tmp 6)],
 .p 34 .mv [(.tmp 7)],
 .call (some 35) f_matrix_clearColumn [(.tmp 31), (.tmp 32), (.tmp 33), (.tmp 34)]])))) (
 .ops [
 .p 36 (.bin .add) [(.tmp 23), (.const (.int .i64 1))],
 .p 23 .mv [(.tmp 36)]]))))))) (
 .seq (
 .ops [
 .p 37 .mv [(.tmp 6)],
 .p 2 .mv [(.tmp 37)],
 .p 3 .mv [(.const (.bool true))]]) (
 .ret))))))⟩

-- 41 shardlog/shardlogref04.Det; slots [(0, m), (1, m), (3, x), (4, i), (5, less), (6, k)]
noncomputable def m_ref04_Det : MF := ⟨57, [.t 2],
 .seq (
 .ops [
 .p 2 .mv [(.const (.int .u8 0))]]) (
 .seq (
 .seq (
 .ops [
 .p 7 .mv [(.tmp 0)],
 .p 8 .len [(.tmp 7)],
 .p 9 (.bin .eql) [(.tmp 8), (.const (.int .i64 1))]]) (
 .cond (.tmp 9) (
 .seq (
 .ops [
 .p 10 .mv [(.tmp 0)],
 .p 11 (.ixs 1) [(.tmp 10), (.const (.int .i64 0))],
 .ld 12 (.tmp 11),
 .p 13 (.ixs 1) [(.tmp 12), (.const (.int .i64 0))],
 .ld 14 (.tmp 13),
 .p 2 .mv [(.tmp 14)]]) (
 .ret)) (
 .skip))) (
 .seq (
 .ops [
 .p 3 .mv [(.const (.int .u8 0))]]) (
 .seq (
 .seq (
 .ops [
 .p 4 .mv [(.const (.int .i64 0))]]) (
 .block 0 (
 .loop (
 .seq (
 .seq (
 .ops [
 .p 15 .mv [(.tmp 4)],
 .p 16 .mv [(.tmp 0)],
 .p 17 .len [(.tmp 16)],
 .p 18 (.bin .lss) [(.tmp 15), (.tmp 17)]]) (
 .cond (.tmp 18) (
 .skip) (
 .exit 0))) (
 .seq (
 .block 1 (
 .seq (
 .ops [
 .p 5 .mv [(.const (.slice none 0 0))]]) (
 .seq (
 .seq (
 .ops [
 .p 6 .mv [(.const (.int .i64 0))]]) (
 .block 2 (
 .loop (
 .seq (
 .seq (
 .ops [
 .p 21 .mv [(.tmp 6)],
 .p 22 .mv [(.tmp 0)],
 .p 23 .len [(.tmp 22)],
 .p 24 (.bin .lss) [(.tmp 21), (.tmp 23)]]) (
 .cond (.tmp 24) (
 .skip) (
 .exit 2))) (
 .seq (
 .block 3 (
 .seq (
 .ops [
 .p 27 .mv [(.tmp 6)],
 .p 28 .mv [(.tmp 4)],
 .p 29 (.bin .neq) [(.tmp 27), (.tmp 28)]]) (
 .cond (.tmp 29) (
 .ops [
 .p 30 .mv [(.tmp 5)],
 .p 31 .mv [(.tmp 0)],
 .p 32 .mv [(.tmp 6)],
 .p 33 (.ixs 1) [(.tmp 31), (.tmp 32)],
 .ld 34 (.tmp 33),
 .p 35 (.sls 1 true false false) [(.tmp 34), (.const (.int .i64 1))],
 .bsl 36 tBytes 1 [(.slice none 0 0)] [(0, 1)] [(.tmp 35)],
 .app 37 #[tRows, tRows] tRows (.tmp 30) (.tmp 36),
 .p 5 .mv [(.tmp 37)]]) (
 .skip)))) (
 .ops [
 .p 25 .mv [(.tmp 6)],
 .p 26 (.bin .add) [(.tmp 25), (.const (.int .i64 1))],
 .p 6 .mv [(.tmp 26)]])))))) (
 .seq (
 .ops [
 .p 38 .mv [(.tmp 0)],
 .p 39 .mv [(.tmp 4)],
 .p 40 (.ixs 1) [(.tmp 38), (.tmp 39)],
 .ld 41 (.tmp 40),
 .p 42 (.ixs 1) [(.tmp 41), (.const (.int .i64 0))],
 .ld 43 (.tmp 42),
 .p 44 (.bin .neq) [(.tmp 43), (.const (.int .u8 0))]]) (
 .cond (.tmp 44) (
 .dr (
 .one ⟨.p 45 .mv [(.tmp 3)], []⟩ (
 .one ⟨.p 46 .mv [(.tmp 0)], []⟩ (
 .one ⟨.p 47 .mv [(.tmp 4)], []⟩ (
 .one ⟨.p 48 (.ixs 1) [(.tmp 46), (.tmp 47)], []⟩ (
 .one ⟨.ld 49 (.tmp 48), []⟩ (
 .one ⟨.p 50 (.ixs 1) [(.tmp 49), (.const (.int .i64 0))], []⟩ (
 .one ⟨.ld 51 (.tmp 50), []⟩ (
 .one ⟨.p 52 .mv [(.tmp 5)], []⟩ (
 .one ⟨.call (some 53) f_ref04_Det [(.tmp 52)], [.ld 51 (.tmp 50), .ld 49 (.tmp 48)]⟩ (
 .one ⟨.call (some 54) f_ref03_Mul [(.tmp 51), (.tmp 53)], [.ld 49 (.tmp 48)]⟩ (
 .one ⟨.p 55 (.bin .xor) [(.tmp 45), (.tmp 54)], []⟩ (
 .one ⟨.p 3 .mv [(.tmp 55)], []⟩ (
 .nil)))))))))))))) (
 .skip)))))) (
 .ops [
 .p 19 .mv [(.tmp 4)],
 .p 20 (.bin .add) [(.tmp 19), (.const (.int .i64 1))],
 .p 4 .mv [(.tmp 20)]])))))) (
 .seq (
 .ops [
 .p 56 .mv [(.tmp 3)],
 .p 2 .mv [(.tmp 56)]]) (
 .ret)))))⟩

-- 42 shardlog/matrix.Coding; slots [(0, k), (1, n), (2, k), (3, n), (5, f), (6, out), (7, i), (8, row), (9, j)]
noncomputable def m_matrix_Coding : MF := ⟨49, [.t 4],
 .seq (
 .ops [
 .p 4 .mv [(.const (.slice none 0 0))]]) (
 .seq (
 .ops [
 .call (some 10) f_field_New [],
 .p 5 .mv [(.tmp 10)]]) (
 .seq (
 .ops [
 .p 6 .mv [(.const (.slice none 0 0))]]) (
 .seq (
 .seq (
 .ops [
 .p 11 .mv [(.tmp 1)],
 .p 12 .mv [(.const (.int .i64 0))]]) (
 .block 0 (
 .loop (
 .seq (
 .ops [
 .p 13 (.bin .lss) [(.tmp 12), (.tmp 11)]]) (
 .seq (
 .cond (.tmp 13) (
 .skip) (
 .exit 0)) (
 .seq (
 .block 1 (
 .seq (
 .ops [
 .p 14 .mv [(.tmp 12)],
 .p 7 .mv [(.tmp 14)]]) (
 .seq (
 .ops [
 .p 15 .mv [(.tmp 0)],
 .gen (some 16) ⟨(some 16), (.makeSlice tBytes (.tmp 15) (.tmp 15)), tBytes, "matrix.go:59", #[⟨0, .data⟩, ⟨0, .data⟩], none⟩,
 .p 8 .mv [(.tmp 16)]]) (
 .seq (
 .seq (
 .ops [
 .p 17 .mv [(.tmp 8)],
 .p 18 .len [(.tmp 17)],
 .p 19 .mv [(.const (.int .i64 0))]]) (
 .block 2 (
 .loop (
 .seq (
 .ops [
 .p 20 (.bin .lss) [(.tmp 19), (.tmp 18)]]) (
 .seq (
 .cond (.tmp 20) (
 .skip) (
 .exit 2)) (
 .seq (
 .block 3 (
 .seq (
 .ops [
 .p 21 .mv [(.tmp 19)],
 .p 9 .mv [(.tmp 21)]]) (
 .block 4 (
 .seq (
 .ops [
 .p 23 .mv [(.tmp 7)],
 .p 24 .mv [(.tmp 0)],
 .p 25 (.bin .geq) [(.tmp 23), (.tmp 24)],
 .p 22 .mv [(.tmp 25)]]) (
 .cond (.tmp 22) (
 .ops [
 .p 26 .mv [(.tmp 8)],
 .p 27 .mv [(.tmp 9)],
 .p 28 .mv [(.tmp 5)],
 .p 29 .mv [(.tmp 7)],
 .p 30 .mv [(.tmp 9)],
 .p 31 (.bin .xor) [(.tmp 29), (.tmp 30)],
 .p 32 (.conv .u8) [(.tmp 31)],
 .call (some 33) f_field_Field_Inv [(.tmp 28), (.tmp 32)],
 .p 34 (.ixs 1) [(.tmp 26), (.tmp 27)],
 .st 1 false (.tmp 34) (.tmp 33)]) (
 .seq (
 .ops [
 .p 36 .mv [(.tmp 7)],
 .p 37 .mv [(.tmp 9)],
 .p 38 (.bin .eql) [(.tmp 36), (.tmp 37)],
 .p 35 .mv [(.tmp 38)]]) (
 .cond (.tmp 35) (
 .ops [
 .p 39 .mv [(.tmp 8)],
 .p 40 .mv [(.tmp 9)],
 .p 41 (.ixs 1) [(.tmp 39), (.tmp 40)],
 .st 1 false (.tmp 41) (.const (.int .u8 1))]) (
 .skip)))))))) (
 .ops [
 .p 42 (.bin .add) [(.tmp 19), (.const (.int .i64 1))],
 .p 19 .mv [(.tmp 42)]]))))))) (
 .ops [
 .p 43 .mv [(.tmp 6)],
 .p 44 .mv [(.tmp 8)],
 .bsl 45 tBytes 1 [(.slice none 0 0)] [(0, 1)] [(.tmp 44)],
 .app 46 #[tRows, tRows] tRows (.tmp 43) (.tmp 45),
 .p 6 .mv [(.tmp 46)]]))))) (
 .ops [
 .p 47 (.bin .add) [(.tmp 12), (.const (.int .i64 1))],
 .p 12 .mv [(.tmp 47)]]))))))) (
 .seq (
 .ops [
 .p 48 .mv [(.tmp 6)],
 .p 4 .mv [(.tmp 48)]]) (
 .ret)))))⟩

-- 43 shardlog/shardlogref04.Coding; slots [(0, k), (1, n), (2, k), (3, n), (5, out), (6, i), (7, row), (8, j), (9, x)]
noncomputable def m_ref04_Coding : MF := ⟨40, [.t 4],
 .seq (
 .ops [
 .p 4 .mv [(.const (.slice none 0 0))]]) (
 .seq (
 .ops [
 .p 5 .mv [(.const (.slice none 0 0))]]) (
 .seq (
 .seq (
 .ops [
 .p 6 .mv [(.const (.int .i64 0))]]) (
 .block 0 (
 .loop (
 .seq (
 .seq (
 .ops [
 .p 10 .mv [(.tmp 6)],
 .p 11 .mv [(.tmp 1)],
 .p 12 (.bin .lss) [(.tmp 10), (.tmp 11)]]) (
 .cond (.tmp 12) (
 .skip) (
 .exit 0))) (
 .seq (
 .block 1 (
 .seq (
 .ops [
 .p 7 .mv [(.const (.slice none 0 0))]]) (
 .seq (
 .seq (
 .ops [
 .p 8 .mv [(.const (.int .i64 0))]]) (
 .block 2 (
 .loop (
 .seq (
 .seq (
 .ops [
 .p 15 .mv [(.tmp 8)],
 .p 16 .mv [(.tmp 0)],
 .p 17 (.bin .lss) [(.tmp 15), (.tmp 16)]]) (
 .cond (.tmp 17) (
 .skip) (
 .exit 2))) (
 .seq (
 .block 3 (
 .seq (
 .ops [
 .p 9 .mv [(.const (.int .u8 0))]]) (
 .seq (
 .seq (
 .ops [
 .p 20 .mv [(.tmp 6)],
 .p 21 .mv [(.tmp 8)],
 .p 22 (.bin .eql) [(.tmp 20), (.tmp 21)]]) (
 .cond (.tmp 22) (
 .ops [
 .p 9 .mv [(.const (.int .u8 1))]]) (
 .skip))) (
 .seq (
 .seq (
 .ops [
 .p 23 .mv [(.tmp 6)],
 .p 24 .mv [(.tmp 0)],
 .p 25 (.bin .geq) [(.tmp 23), (.tmp 24)]]) (
 .cond (.tmp 25) (
 .ops [
 .p 26 .mv [(.tmp 6)],
 .p 27 .mv [(.tmp 8)],
 .p 28 (.bin .xor) [(.tmp 26), (.tmp 27)],
 .p 29 (.conv .u8) [(.tmp 28)],
 .call (some 30) f_ref03_Inv [(.tmp 29)],
 .p 9 .mv [(.tmp 30)]]) (
 .skip))) (
 .ops [
 .p 31 .mv [(.tmp 7)],
 .p 32 .mv [(.tmp 9)],
 .bsl 33 tU8 1 [(.int .u8 0)] [(0, 1)] [(.tmp 32)],
 .app 34 #[tBytes, tBytes] tBytes (.tmp 31) (.tmp 33),
 .p 7 .mv [(.tmp 34)]]))))) (
 .ops [
 .p 18 .mv [(.tmp 8)],
 .p 19 (.bin .add) [(.tmp 18), (.const (.int .i64 1))],
 .p 8 .mv [(.tmp 19)]])))))) (
 .ops [
 .p 35 .mv [(.tmp 5)],
 .p 36 .mv [(.tmp 7)],
 .bsl 37 tBytes 1 [(.slice none 0 0)] [(0, 1)] [(.tmp 36)],
 .app 38 #[tRows, tRows] tRows (.tmp 35) (.tmp 37),
 .p 5 .mv [(.tmp 38)]])))) (
 .ops [
 .p 13 .mv [(.tmp 6)],
 .p 14 (.bin .add) [(.tmp 13), (.const (.int .i64 1))],
 .p 6 .mv [(.tmp 14)]])))))) (
 .seq (
 .ops [
 .p 39 .mv [(.tmp 5)],
 .p 4 .mv [(.tmp 39)]]) (
 .ret))))⟩

-- 44 shardlog/matrix.Rows; slots [(0, m), (1, at), (2, m), (3, at), (5, out), (6, _), (7, i)]
noncomputable def m_matrix_Rows : MF := ⟨32, [.t 4],
 .seq (
 .ops [
 .p 4 .mv [(.const (.slice none 0 0))]]) (
 .seq (
 .ops [
 .p 5 .mv [(.const (.slice none 0 0))]]) (
 .seq (
 .seq (
 .ops [
 .p 8 .mv [(.tmp 1)],
 .p 9 .len [(.tmp 8)],
 .p 10 .mv [(.const (.int .i64 0))]]) (
 .block 0 (
 .loop (
 .seq (
 .ops [
 .p 11 (.bin .lss) [(.tmp 10), (.tmp 9)]]) (
 .seq (
 .cond (.tmp 11) (
 .skip) (
 .exit 0)) (
 .seq (
 .block 1 (
 .seq (
 .ops [
 .p 12 (.ixs 1) [(.tmp 8), (.tmp 10)],
 .ld 13 (.tmp 12),
 .p 7 .mv [(.tmp 13)]]) (
 .seq (
 .seq (
 .ops [
 .p 14 .mv [(.tmp 7)],
 .p 15 (.bin .lss) [(.tmp 14), (.const (.int .i64 0))],
 .p 16 .mv [(.tmp 15)],
 .gd 16 false (some 17) (.p 17 .mv [(.tmp 7)]),
 .gd 16 false (some 18) (.p 18 .mv [(.tmp 0)]),
 .gd 16 false (some 19) (.p 19 .len [(.tmp 18)]),
 .gd 16 false (some 20) (.p 20 (.bin .geq) [(.tmp 17), (.tmp 19)]),
 .p 21 .pick [(.tmp 16), (.const (.bool true)), (.tmp 20)]]) (
 .cond (.tmp 21) (
 .seq (
 .ops [
 .p 4 .mv [(.const (.slice none 0 0))]]) (
 .ret)) (
 .skip))) (
 .ops [
 .p 22 .mv [(.tmp 5)],
 .p 23 .mv [(.tmp 0)],
 .p 24 .mv [(.tmp 7)],
 .p 25 (.ixs 1) [(.tmp 23), (.tmp 24)],
 .ld 26 (.tmp 25),
 .call (some 27) f_slices_Clone [(.tmp 26)],
 .bsl 28 tBytes 1 [(.slice none 0 0)] [(0, 1)] [(.tmp 27)],
 .app 29 #[tRows, tRows] tRows (.tmp 22) (.tmp 28),
 .p 5 .mv [(.tmp 29)]])))) (
 .ops [
 .p 30 (.bin .add) [(.tmp 10), (.const (.int .i64 1))],
 .p 10 .mv [(.tmp 30)]]))))))) (
 .seq (
 .ops [
 .p 31 .mv [(.tmp 5)],
 .p 4 .mv [(.tmp 31)]]) (
 .ret))))⟩

end Go.Proofs.Ytgpkbldlkadnjaa
end
section
/- Functions of the program in the small code (printed by wip/tool/Print.lean and mkmf2.py of this repo), each with its equation, held by the kernel. -/
set_option linter.unusedVariables false
namespace Go.Proofs.Ytgpkbldlkadnjaa
open Go Go.Sl
-- 45 shardlog/shardloglaw05.awake; slots [(1, s), (2, l), (3, e), (4, v), (5, f), (6, b), (7, g), (8, _), (9, h)]
noncomputable def m_law05_awake : MF := ⟨82, [.t 0],
 .seq (
 .ops [
 .p 0 .mv [(.const (.bool false))]]) (
 .seq (
 .ops [
 .p 10 (.build [(.int .i64 0), (.int .i64 0)] [(0, 1), (1, 1)]) [(.const (.int .i64 2)), (.const (.int .i64 1))],
 .new 1 t_api_Shape [(.int .i64 0), (.int .i64 0)],
 .st 2 true (.tmp 1) (.tmp 10)]) (
 .seq (
 .ops [
 .ldn 12 2 (.tmp 1),
 .call (some 13) f_code_Encode [(.tmp 12), (.const (.string ⟨#[104, 101, 108, 108, 111]⟩))],
 .p 11 .mv [(.tmp 13)],
 .p 14 (.ext 0) [(.tmp 11)],
 .p 15 (.ext 1) [(.tmp 11)],
 .p 2 .mv [(.tmp 14)],
 .p 3 .mv [(.tmp 15)]]) (
 .seq (
 .seq (
 .ops [
 .p 16 .mv [(.tmp 3)],
 .p 17 (.bin .neq) [(.tmp 16), (.const (.int .i64 0))],
 .p 18 .mv [(.tmp 17)],
 .gd 18 false (some 19) (.p 19 .mv [(.tmp 2)]),
 .gd 18 false (some 20) (.p 20 .len [(.tmp 19)]),
 .gd 18 false (some 21) (.p 21 (.bin .neq) [(.tmp 20), (.const (.int .i64 4))]),
 .p 22 .pick [(.tmp 18), (.const (.bool true)), (.tmp 21)]]) (
 .cond (.tmp 22) (
 .seq (
 .ops [
 .p 0 .mv [(.const (.bool false))]]) (
 .ret)) (
 .skip))) (
 .seq (
 .dr (
 .one ⟨.ldn 24 2 (.tmp 1), []⟩ (
 .one ⟨.p 25 .mv [(.tmp 2)], []⟩ (
 .one ⟨.p 26 (.ixs 1) [(.tmp 25), (.const (.int .i64 1))], []⟩ (
 .one ⟨.ld 27 (.tmp 26), []⟩ (
 .one ⟨.p 28 .mv [(.tmp 2)], []⟩ (
 .one ⟨.p 29 (.ixs 1) [(.tmp 28), (.const (.int .i64 3))], []⟩ (
 .one ⟨.ld 30 (.tmp 29), []⟩ (
 .one ⟨.bsl 31 tBytes 4 [(.slice none 0 0), (.slice none 0 0), (.slice none 0 0), (.slice none 0 0)] [(0, 1), (1, 1), (2, 1), (3, 1)] [(.const (.slice none 0 0)), (.tmp 27), (.const (.slice none 0 0)), (.tmp 30)], [.ldn 24 2 (.tmp 1)]⟩ (
 .one ⟨.call (some 32) f_code_Decode [(.tmp 24), (.tmp 31)], []⟩ (
 .one ⟨.p 23 .mv [(.tmp 32)], []⟩ (
 .one ⟨.p 33 (.ext 0) [(.tmp 23)], []⟩ (
 .one ⟨.p 34 (.ext 1) [(.tmp 23)], []⟩ (
 .one ⟨.p 4 .mv [(.tmp 33)], []⟩ (
 .one ⟨.p 5 .mv [(.tmp 34)], []⟩ (
 .nil)))))))))))))))) (
 .seq (
 .dr (
 .one ⟨.ldn 36 2 (.tmp 1), []⟩ (
 .one ⟨.p 37 .mv [(.tmp 2)], []⟩ (
 .one ⟨.p 38 (.ixs 1) [(.tmp 37), (.const (.int .i64 1))], []⟩ (
 .one ⟨.ld 39 (.tmp 38), []⟩ (
 .one ⟨.p 40 .mv [(.tmp 2)], []⟩ (
 .one ⟨.p 41 (.ixs 1) [(.tmp 40), (.const (.int .i64 3))], []⟩ (
 .one ⟨.ld 42 (.tmp 41), []⟩ (
 .one ⟨.bsl 43 tBytes 4 [(.slice none 0 0), (.slice none 0 0), (.slice none 0 0), (.slice none 0 0)] [(0, 1), (1, 1), (2, 1), (3, 1)] [(.const (.slice none 0 0)), (.tmp 39), (.const (.slice none 0 0)), (.tmp 42)], [.ldn 36 2 (.tmp 1)]⟩ (
 .one ⟨.call (some 44) f_code_Rebuild [(.tmp 36), (.tmp 43), (.const (.int .i64 2))], []⟩ (
 .one ⟨.p 35 .mv [(.tmp 44)], []⟩ (
 .one ⟨.p 45 (.ext 0) [(.tmp 35)], []⟩ (
 .one ⟨.p 46 (.ext 1) [(.tmp 35)], []⟩ (
 .one ⟨.p 6 .mv [(.tmp 45)], []⟩ (
 .one ⟨.p 7 .mv [(.tmp 46)], []⟩ (
 .nil)))))))))))))))) (
 .seq (
 .dr (
 .one ⟨.ldn 48 2 (.tmp 1), []⟩ (
 .one ⟨.p 49 .mv [(.tmp 2)], []⟩ (
 .one ⟨.p 50 (.ixs 1) [(.tmp 49), (.const (.int .i64 0))], []⟩ (
 .one ⟨.ld 51 (.tmp 50), []⟩ (
 .one ⟨.bsl 52 tBytes 4 [(.slice none 0 0), (.slice none 0 0), (.slice none 0 0), (.slice none 0 0)] [(0, 1), (1, 1), (2, 1), (3, 1)] [(.tmp 51), (.const (.slice none 0 0)), (.const (.slice none 0 0)), (.const (.slice none 0 0))], [.ldn 48 2 (.tmp 1)]⟩ (
 .one ⟨.call (some 53) f_code_Decode [(.tmp 48), (.tmp 52)], []⟩ (
 .one ⟨.p 47 .mv [(.tmp 53)], []⟩ (
 .one ⟨.p 54 (.ext 0) [(.tmp 47)], []⟩ (
 .one ⟨.p 55 (.ext 1) [(.tmp 47)], []⟩ (
 .one ⟨.p 8 .mv [(.tmp 54)], []⟩ (
 .one ⟨.p 9 .mv [(.tmp 55)], []⟩ (
 .nil))))))))))))) (
 .seq (
 .ops [
 .p 56 .mv [(.tmp 5)],
 .p 57 (.bin .eql) [(.tmp 56), (.const (.int .i64 0))],
 .p 58 .mv [(.tmp 57)],
 .gd 58 true (some 59) (.p 59 .mv [(.tmp 4)]),
 .gd 58 true (some 60) (.p 60 (.bin .eql) [(.tmp 59), (.const (.string ⟨#[104, 101, 108, 108, 111]⟩))]),
 .p 61 .pick [(.tmp 58), (.tmp 60), (.const (.bool false))],
 .p 62 .mv [(.tmp 61)],
 .gd 62 true (some 63) (.p 63 .mv [(.tmp 7)]),
 .gd 62 true (some 64) (.p 64 (.bin .eql) [(.tmp 63), (.const (.int .i64 0))]),
 .p 65 .pick [(.tmp 62), (.tmp 64), (.const (.bool false))],
 .p 66 .mv [(.tmp 65)],
 .gd 66 true (some 67) (.p 67 .mv [(.tmp 6)]),
 .gd 66 true (some 68) (.p 68 .mv [(.tmp 2)]),
 .gd 66 true (some 69) (.p 69 (.ixs 1) [(.tmp 68), (.const (.int .i64 2))]),
 .gd 66 true (some 70) (.ld 70 (.tmp 69)),
 .gd 66 true (some 71) (.call (some 71) f_ref01_Same [(.tmp 67), (.tmp 70)]),
 .p 72 .pick [(.tmp 66), (.tmp 71), (.const (.bool false))],
 .p 73 .mv [(.tmp 72)],
 .gd 73 true (some 74) (.p 74 .mv [(.tmp 9)]),
 .gd 73 true (some 75) (.p 75 (.bin .eql) [(.tmp 74), (.const (.int .i64 3))]),
 .p 76 .pick [(.tmp 73), (.tmp 75), (.const (.bool false))],
 .p 77 .mv [(.tmp 76)],
 .gd 77 true (some 78) (.ldn 78 2 (.tmp 1)),
 .gd 77 true (some 79) (.call (some 79) f_code_N [(.tmp 78)]),
 .gd 77 true (some 80) (.p 80 (.bin .eql) [(.tmp 79), (.const (.int .i64 4))]),
 .p 81 .pick [(.tmp 77), (.tmp 80), (.const (.bool false))],
 .p 0 .mv [(.tmp 81)]]) (
 .ret))))))))⟩

-- 46 shardlog/code.Encode; slots [(0, s), (1, v), (2, s), (3, v)]
noncomputable def m_code_Encode : MF := ⟨24, [.t 4, .t 5],
 .seq (
 .ops [
 .box 2 t_api_Shape (.tmp 0),
 .p 4 .mv [(.const (.slice none 0 0))],
 .p 5 .mv [(.const (.int .i64 0))]]) (
 .seq (
 .block 0 (
 .seq (
 .ops [
 .ldn 7 2 (.tmp 2),
 .call (some 8) f_code_Right [(.tmp 7)],
 .p 9 .not [(.tmp 8)],
 .p 6 .mv [(.tmp 9)]]) (
 .cond (.tmp 6) (
 .seq (
 .ops [
 .p 4 .mv [(.const (.slice none 0 0))],
 .p 5 .mv [(.const (.int .i64 1))]]) (
 .ret)) (
 .seq (
 .ops [
 .p 11 .mv [(.tmp 1)],
 .p 12 .lens [(.tmp 11)],
 .p 13 (.bin .gtr) [(.tmp 12), (.const (.int .i64 512))],
 .p 10 .mv [(.tmp 13)]]) (
 .cond (.tmp 10) (
 .seq (
 .ops [
 .p 4 .mv [(.const (.slice none 0 0))],
 .p 5 .mv [(.const (.int .i64 7))]]) (
 .ret)) (
 .skip)))))) (
 .seq (
 .dr (
 .one ⟨.p 14 (.fad 0) [(.tmp 2)], []⟩ (
 .one ⟨.ld 15 (.tmp 14), []⟩ (
 .one ⟨.ldn 16 2 (.tmp 2), []⟩ (
 .one ⟨.p 19 (.fad 0) [(.tmp 2)], []⟩ (
 .one ⟨.ld 20 (.tmp 19), []⟩ (
 .one ⟨.p 21 .mv [(.tmp 1)], []⟩ (
 .one ⟨.call (some 17) f_code_N [(.tmp 16)], [.ld 20 (.tmp 19), .ld 15 (.tmp 14)]⟩ (
 .one ⟨.call (some 18) f_matrix_Coding [(.tmp 15), (.tmp 17)], [.ld 20 (.tmp 19)]⟩ (
 .one ⟨.call (some 22) f_code_pieces [(.tmp 20), (.tmp 21)], []⟩ (
 .one ⟨.call (some 23) f_matrix_Mul [(.tmp 18), (.tmp 22)], []⟩ (
 .one ⟨.p 4 .mv [(.tmp 23)], []⟩ (
 .one ⟨.p 5 .mv [(.const (.int .i64 0))], []⟩ (
 .nil)))))))))))))) (
 .ret)))⟩

-- 47 shardlog/code.Right; slots [(0, s), (1, s)]
noncomputable def m_code_Right : MF := ⟨30, [.t 2],
 .seq (
 .ops [
 .box 1 t_api_Shape (.tmp 0),
 .p 2 .mv [(.const (.bool false))]]) (
 .seq (
 .ops [
 .p 3 (.fad 0) [(.tmp 1)],
 .ld 4 (.tmp 3),
 .p 5 (.bin .geq) [(.tmp 4), (.const (.int .i64 1))],
 .p 6 .mv [(.tmp 5)],
 .gd 6 true (some 7) (.p 7 (.fad 0) [(.tmp 1)]),
 .gd 6 true (some 8) (.ld 8 (.tmp 7)),
 .gd 6 true (some 9) (.p 9 (.bin .leq) [(.tmp 8), (.const (.int .i64 7))]),
 .p 10 .pick [(.tmp 6), (.tmp 9), (.const (.bool false))],
 .p 11 .mv [(.tmp 10)],
 .gd 11 true (some 12) (.p 12 (.fad 1) [(.tmp 1)]),
 .gd 11 true (some 13) (.ld 13 (.tmp 12)),
 .gd 11 true (some 14) (.p 14 (.bin .geq) [(.tmp 13), (.const (.int .i64 0))]),
 .p 15 .pick [(.tmp 11), (.tmp 14), (.const (.bool false))],
 .p 16 .mv [(.tmp 15)],
 .gd 16 true (some 17) (.p 17 (.fad 1) [(.tmp 1)]),
 .gd 16 true (some 18) (.ld 18 (.tmp 17)),
 .gd 16 true (some 19) (.p 19 (.bin .leq) [(.tmp 18), (.const (.int .i64 7))]),
 .p 20 .pick [(.tmp 16), (.tmp 19), (.const (.bool false))],
 .p 21 .mv [(.tmp 20)],
 .gd 21 true (some 22) (.p 22 (.fad 0) [(.tmp 1)]),
 .gd 21 true (some 23) (.ld 23 (.tmp 22)),
 .gd 21 true (some 24) (.p 24 (.fad 1) [(.tmp 1)]),
 .gd 21 true (some 25) (.ld 25 (.tmp 24)),
 .gd 21 true (some 26) (.p 26 (.bin .mul) [(.const (.int .i64 2)), (.tmp 25)]),
 .gd 21 true (some 27) (.p 27 (.bin .add) [(.tmp 23), (.tmp 26)]),
 .gd 21 true (some 28) (.p 28 (.bin .leq) [(.tmp 27), (.const (.int .i64 7))]),
 .p 29 .pick [(.tmp 21), (.tmp 28), (.const (.bool false))],
 .p 2 .mv [(.tmp 29)]]) (
 .ret))⟩

-- 48 shardlog/shardlogref05.Right; slots [(0, s), (1, s)]
noncomputable def m_ref05_Right : MF := ⟨32, [.t 2],
 .seq (
 .ops [
 .box 1 t_api_Shape (.tmp 0),
 .p 2 .mv [(.const (.bool false))]]) (
 .seq (
 .ops [
 .p 3 (.fad 0) [(.tmp 1)],
 .ld 4 (.tmp 3),
 .p 5 (.bin .geq) [(.tmp 4), (.const (.int .i64 1))],
 .p 6 .mv [(.tmp 5)],
 .gd 6 true (some 7) (.p 7 (.fad 0) [(.tmp 1)]),
 .gd 6 true (some 8) (.ld 8 (.tmp 7)),
 .gd 6 true (some 9) (.p 9 (.bin .leq) [(.tmp 8), (.const (.int .i64 7))]),
 .p 10 .pick [(.tmp 6), (.tmp 9), (.const (.bool false))],
 .p 11 .mv [(.tmp 10)],
 .gd 11 true (some 12) (.p 12 (.fad 1) [(.tmp 1)]),
 .gd 11 true (some 13) (.ld 13 (.tmp 12)),
 .gd 11 true (some 14) (.p 14 (.bin .geq) [(.tmp 13), (.const (.int .i64 0))]),
 .p 15 .pick [(.tmp 11), (.tmp 14), (.const (.bool false))],
 .p 16 .mv [(.tmp 15)],
 .gd 16 true (some 17) (.p 17 (.fad 1) [(.tmp 1)]),
 .gd 16 true (some 18) (.ld 18 (.tmp 17)),
 .gd 16 true (some 19) (.p 19 (.bin .leq) [(.tmp 18), (.const (.int .i64 3))]),
 .p 20 .pick [(.tmp 16), (.tmp 19), (.const (.bool false))],
 .p 21 .mv [(.tmp 20)],
 .gd 21 true (some 22) (.p 22 (.fad 0) [(.tmp 1)]),
 .gd 21 true (some 23) (.ld 23 (.tmp 22)),
 .gd 21 true (some 24) (.p 24 (.fad 1) [(.tmp 1)]),
 .gd 21 true (some 25) (.ld 25 (.tmp 24)),
 .gd 21 true (some 26) (.p 26 (.bin .add) [(.tmp 23), (.tmp 25)]),
 .gd 21 true (some 27) (.p 27 (.fad 1) [(.tmp 1)]),
 .gd 21 true (some 28) (.ld 28 (.tmp 27)),
 .gd 21 true (some 29) (.p 29 (.bin .add) [(.tmp 26), (.tmp 28)]),
 .gd 21 true (some 30) (.p 30 (.bin .leq) [(.tmp 29), (.const (.int .i64 7))]),
 .p 31 .pick [(.tmp 21), (.tmp 30), (.const (.bool false))],
 .p 2 .mv [(.tmp 31)]]) (
 .ret))⟩

-- 49 shardlog/code.N; slots [(0, s), (1, s)]
noncomputable def m_code_N : MF := ⟨12, [.t 2],
 .seq (
 .ops [
 .box 1 t_api_Shape (.tmp 0),
 .p 2 .mv [(.const (.int .i64 0))]]) (
 .seq (
 .seq (
 .ops [
 .ldn 3 2 (.tmp 1),
 .call (some 4) f_code_Right [(.tmp 3)],
 .p 5 .not [(.tmp 4)]]) (
 .cond (.tmp 5) (
 .seq (
 .ops [
 .p 2 .mv [(.const (.int .i64 0))]]) (
 .ret)) (
 .skip))) (
 .seq (
 .ops [
 .p 6 (.fad 0) [(.tmp 1)],
 .ld 7 (.tmp 6),
 .p 8 (.fad 1) [(.tmp 1)],
 .ld 9 (.tmp 8),
 .p 10 (.bin .mul) [(.const (.int .i64 2)), (.tmp 9)],
 .p 11 (.bin .add) [(.tmp 7), (.tmp 10)],
 .p 2 .mv [(.tmp 11)]]) (
 .ret)))⟩

-- 50 shardlog/shardlogref05.N; slots [(0, s), (1, s)]
noncomputable def m_ref05_N : MF := ⟨11, [.t 2],
 .seq (
 .ops [
 .box 1 t_api_Shape (.tmp 0),
 .p 2 .mv [(.const (.int .i64 0))]]) (
 .seq (
 .ops [
 .p 3 (.fad 0) [(.tmp 1)],
 .ld 4 (.tmp 3),
 .p 5 (.fad 1) [(.tmp 1)],
 .ld 6 (.tmp 5),
 .p 7 (.bin .add) [(.tmp 4), (.tmp 6)],
 .p 8 (.fad 1) [(.tmp 1)],
 .ld 9 (.tmp 8),
 .p 10 (.bin .add) [(.tmp 7), (.tmp 9)],
 .p 2 .mv [(.tmp 10)]]) (
 .ret))⟩

-- 51 shardlog/shardlogref05.Encode; slots [(0, s), (1, v), (2, s), (3, v), (5, b), (6, n), (7, p), (8, i)]
noncomputable def m_ref05_Encode : MF := ⟨50, [.t 4],
 .seq (
 .ops [
 .box 2 t_api_Shape (.tmp 0),
 .p 4 .mv [(.const (.slice none 0 0))]]) (
 .seq (
 .ops [
 .p 9 .mv [(.tmp 1)],
 .call (some 10) f_ref01_Text [(.tmp 9)],
 .p 5 .mv [(.tmp 10)]]) (
 .seq (
 .block 0 (
 .loop (
 .seq (
 .seq (
 .ops [
 .p 11 .mv [(.tmp 5)],
 .p 12 .len [(.tmp 11)],
 .p 13 (.fad 0) [(.tmp 2)],
 .ld 14 (.tmp 13),
 .p 15 (.bin .rem) [(.tmp 12), (.tmp 14)],
 .p 16 (.bin .neq) [(.tmp 15), (.const (.int .i64 0))]]) (
 .cond (.tmp 16) (
 .skip) (
 .exit 0))) (
 .block 1 (
 .ops [
 .p 17 .mv [(.tmp 5)],
 .bsl 18 tU8 1 [(.int .u8 0)] [(0, 1)] [(.const (.int .u8 0))],
 .app 19 #[tBytes, tBytes] tBytes (.tmp 17) (.tmp 18),
 .p 5 .mv [(.tmp 19)]]))))) (
 .seq (
 .ops [
 .p 20 .mv [(.tmp 5)],
 .p 21 .len [(.tmp 20)],
 .p 22 (.fad 0) [(.tmp 2)],
 .ld 23 (.tmp 22),
 .p 24 (.bin .quo) [(.tmp 21), (.tmp 23)],
 .p 6 .mv [(.tmp 24)]]) (
 .seq (
 .ops [
 .p 7 .mv [(.const (.slice none 0 0))]]) (
 .seq (
 .seq (
 .ops [
 .p 8 .mv [(.const (.int .i64 0))]]) (
 .block 2 (
 .loop (
 .seq (
 .seq (
 .ops [
 .p 25 .mv [(.tmp 8)],
 .p 26 (.fad 0) [(.tmp 2)],
 .ld 27 (.tmp 26),
 .p 28 (.bin .lss) [(.tmp 25), (.tmp 27)]]) (
 .cond (.tmp 28) (
 .skip) (
 .exit 2))) (
 .seq (
 .block 3 (
 .ops [
 .p 31 .mv [(.tmp 7)],
 .p 32 .mv [(.tmp 5)],
 .p 33 .mv [(.tmp 8)],
 .p 34 .mv [(.tmp 6)],
 .p 35 (.bin .mul) [(.tmp 33), (.tmp 34)],
 .p 36 .mv [(.tmp 8)],
 .p 37 (.bin .add) [(.tmp 36), (.const (.int .i64 1))],
 .p 38 .mv [(.tmp 6)],
 .p 39 (.bin .mul) [(.tmp 37), (.tmp 38)],
 .p 40 (.sls 1 true true false) [(.tmp 32), (.tmp 35), (.tmp 39)],
 .bsl 41 tBytes 1 [(.slice none 0 0)] [(0, 1)] [(.tmp 40)],
 .app 42 #[tRows, tRows] tRows (.tmp 31) (.tmp 41),
 .p 7 .mv [(.tmp 42)]])) (
 .ops [
 .p 29 .mv [(.tmp 8)],
 .p 30 (.bin .add) [(.tmp 29), (.const (.int .i64 1))],
 .p 8 .mv [(.tmp 30)]])))))) (
 .seq (
 .dr (
 .one ⟨.p 43 (.fad 0) [(.tmp 2)], []⟩ (
 .one ⟨.ld 44 (.tmp 43), []⟩ (
 .one ⟨.ldn 45 2 (.tmp 2), []⟩ (
 .one ⟨.p 48 .mv [(.tmp 7)], []⟩ (
 .one ⟨.call (some 46) f_ref05_N [(.tmp 45)], [.ld 44 (.tmp 43)]⟩ (
 .one ⟨.call (some 47) f_ref04_Coding [(.tmp 44), (.tmp 46)], []⟩ (
 .one ⟨.call (some 49) f_ref04_Mul [(.tmp 47), (.tmp 48)], []⟩ (
 .one ⟨.p 4 .mv [(.tmp 49)], []⟩ (
 .nil)))))))))) (
 .ret)))))))⟩

-- 52 shardlog/shardlogref05.Shape; slots [(0, a), (1, b), (2, a), (3, b), (5, f)]
noncomputable def m_ref05_Shape : MF := ⟨18, [.cn 4 2],
 .seq (
 .ops [
 .new 4 t_api_Shape [(.int .i64 0), (.int .i64 0)]]) (
 .seq (
 .ops [
 .p 6 .mv [(.tmp 1)],
 .p 7 (.bin .rem) [(.tmp 6), (.const (.int .u8 4))],
 .p 8 (.conv .i64) [(.tmp 7)],
 .p 5 .mv [(.tmp 8)]]) (
 .seq (
 .ops [
 .p 9 .mv [(.tmp 0)],
 .p 10 (.conv .i64) [(.tmp 9)],
 .p 11 .mv [(.tmp 5)],
 .p 12 (.bin .mul) [(.const (.int .i64 2)), (.tmp 11)],
 .p 13 (.bin .sub) [(.const (.int .i64 7)), (.tmp 12)],
 .p 14 (.bin .rem) [(.tmp 10), (.tmp 13)],
 .p 15 (.bin .add) [(.const (.int .i64 1)), (.tmp 14)],
 .p 16 .mv [(.tmp 5)],
 .p 17 (.build [(.int .i64 0), (.int .i64 0)] [(0, 1), (1, 1)]) [(.tmp 15), (.tmp 16)],
 .st 2 true (.tmp 4) (.tmp 17)]) (
 .ret)))⟩

-- 53 shardlog/shardlogref05.Without; slots [(0, l), (1, bits), (2, l), (3, bits), (5, out), (6, i)]
noncomputable def m_ref05_Without : MF := ⟨32, [.t 4],
 .seq (
 .ops [
 .p 4 .mv [(.const (.slice none 0 0))]]) (
 .seq (
 .ops [
 .p 5 .mv [(.const (.slice none 0 0))]]) (
 .seq (
 .seq (
 .ops [
 .p 6 .mv [(.const (.int .i64 0))]]) (
 .block 0 (
 .loop (
 .seq (
 .seq (
 .ops [
 .p 7 .mv [(.tmp 6)],
 .p 8 .mv [(.tmp 0)],
 .p 9 .len [(.tmp 8)],
 .p 10 (.bin .lss) [(.tmp 7), (.tmp 9)]]) (
 .cond (.tmp 10) (
 .skip) (
 .exit 0))) (
 .seq (
 .block 1 (
 .seq (
 .ops [
 .p 13 .mv [(.tmp 1)],
 .p 14 .mv [(.tmp 6)],
 .p 15 (.conv .u64) [(.tmp 14)],
 .p 16 (.bin .shr) [(.tmp 13), (.tmp 15)],
 .p 17 (.bin .and) [(.tmp 16), (.const (.int .u8 1))],
 .p 18 (.bin .eql) [(.tmp 17), (.const (.int .u8 1))]]) (
 .cond (.tmp 18) (
 .ops [
 .p 19 .mv [(.tmp 5)],
 .bsl 20 tBytes 1 [(.slice none 0 0)] [(0, 1)] [(.const (.slice none 0 0))],
 .app 21 #[tRows, tRows] tRows (.tmp 19) (.tmp 20),
 .p 5 .mv [(.tmp 21)]]) (
 .ops [
 .p 22 .mv [(.tmp 5)],
 .bsl 23 tU8 0 [] [] [],
 .p 24 .mv [(.tmp 0)],
 .p 25 .mv [(.tmp 6)],
 .p 26 (.ixs 1) [(.tmp 24), (.tmp 25)],
 .ld 27 (.tmp 26),
 .app 28 #[tBytes, tBytes] tBytes (.tmp 23) (.tmp 27),
 .bsl 29 tBytes 1 [(.slice none 0 0)] [(0, 1)] [(.tmp 28)],
 .app 30 #[tRows, tRows] tRows (.tmp 22) (.tmp 29),
 .p 5 .mv [(.tmp 30)]])))) (
 .ops [
 .p 11 .mv [(.tmp 6)],
 .p 12 (.bin .add) [(.tmp 11), (.const (.int .i64 1))],
 .p 6 .mv [(.tmp 12)]])))))) (
 .seq (
 .ops [
 .p 31 .mv [(.tmp 5)],
 .p 4 .mv [(.tmp 31)]]) (
 .ret))))⟩

-- 54 shardlog/code.Decode; slots [(0, s), (1, l), (2, s), (3, l), (6, at), (7, first), (8, x), (9, ok), (10, v)]
noncomputable def m_code_Decode : MF := ⟨70, [.t 4, .t 5],
 .seq (
 .ops [
 .box 2 t_api_Shape (.tmp 0),
 .p 4 .mv [(.const (.string .empty))],
 .p 5 .mv [(.const (.int .i64 0))]]) (
 .seq (
 .seq (
 .ops [
 .ldn 11 2 (.tmp 2),
 .call (some 12) f_code_Right [(.tmp 11)],
 .p 13 .not [(.tmp 12)],
 .p 14 .mv [(.tmp 13)],
 .gd 14 false (some 15) (.p 15 .mv [(.tmp 1)]),
 .gd 14 false (some 16) (.p 16 .len [(.tmp 15)]),
 .gd 14 false (some 17) (.ldn 17 2 (.tmp 2)),
 .gd 14 false (some 18) (.call (some 18) f_code_N [(.tmp 17)]),
 .gd 14 false (some 19) (.p 19 (.bin .neq) [(.tmp 16), (.tmp 18)]),
 .p 20 .pick [(.tmp 14), (.const (.bool true)), (.tmp 19)]]) (
 .cond (.tmp 20) (
 .seq (
 .ops [
 .p 4 .mv [(.const (.string .empty))],
 .p 5 .mv [(.const (.int .i64 1))]]) (
 .ret)) (
 .skip))) (
 .seq (
 .ops [
 .p 21 .mv [(.tmp 1)],
 .call (some 22) f_code_there [(.tmp 21)],
 .p 6 .mv [(.tmp 22)]]) (
 .seq (
 .seq (
 .ops [
 .p 23 .mv [(.tmp 6)],
 .p 24 .len [(.tmp 23)],
 .p 25 (.fad 0) [(.tmp 2)],
 .ld 26 (.tmp 25),
 .p 27 (.bin .lss) [(.tmp 24), (.tmp 26)]]) (
 .cond (.tmp 27) (
 .seq (
 .ops [
 .p 4 .mv [(.const (.string .empty))],
 .p 5 .mv [(.const (.int .i64 3))]]) (
 .ret)) (
 .skip))) (
 .seq (
 .ops [
 .p 28 .mv [(.tmp 1)],
 .p 29 .mv [(.tmp 6)],
 .p 30 (.fad 0) [(.tmp 2)],
 .ld 31 (.tmp 30),
 .p 32 (.sls 1 false true false) [(.tmp 29), (.tmp 31)],
 .call (some 33) f_matrix_Rows [(.tmp 28), (.tmp 32)],
 .p 7 .mv [(.tmp 33)]]) (
 .seq (
 .seq (
 .ops [
 .p 34 .mv [(.tmp 7)],
 .call (some 35) f_matrix_Right [(.tmp 34)],
 .p 36 .not [(.tmp 35)]]) (
 .cond (.tmp 36) (
 .seq (
 .ops [
 .p 4 .mv [(.const (.string .empty))],
 .p 5 .mv [(.const (.int .i64 2))]]) (
 .ret)) (
 .skip))) (
 .seq (
 .dr (
 .one ⟨.p 38 (.fad 0) [(.tmp 2)], []⟩ (
 .one ⟨.ld 39 (.tmp 38), []⟩ (
 .one ⟨.ldn 40 2 (.tmp 2), []⟩ (
 .one ⟨.p 43 .mv [(.tmp 6)], []⟩ (
 .one ⟨.p 44 (.fad 0) [(.tmp 2)], []⟩ (
 .one ⟨.ld 45 (.tmp 44), []⟩ (
 .one ⟨.p 46 (.sls 1 false true false) [(.tmp 43), (.tmp 45)], []⟩ (
 .one ⟨.call (some 41) f_code_N [(.tmp 40)], [.ld 45 (.tmp 44), .ld 39 (.tmp 38)]⟩ (
 .one ⟨.call (some 42) f_matrix_Coding [(.tmp 39), (.tmp 41)], [.ld 45 (.tmp 44)]⟩ (
 .one ⟨.call (some 47) f_matrix_Rows [(.tmp 42), (.tmp 46)], [.ld 45 (.tmp 44)]⟩ (
 .one ⟨.call (some 48) f_matrix_Invert [(.tmp 47)], [.ld 45 (.tmp 44)]⟩ (
 .one ⟨.p 37 .mv [(.tmp 48)], []⟩ (
 .one ⟨.p 49 (.ext 0) [(.tmp 37)], []⟩ (
 .one ⟨.p 50 (.ext 1) [(.tmp 37)], []⟩ (
 .one ⟨.p 8 .mv [(.tmp 49)], []⟩ (
 .one ⟨.p 9 .mv [(.tmp 50)], []⟩ (
 .nil)))))))))))))))))) (
 .seq (
 .seq (
 .ops [
 .p 51 .mv [(.tmp 9)],
 .p 52 .not [(.tmp 51)]]) (
 .cond (.tmp 52) (
 .seq (
 .ops [
 .p 4 .mv [(.const (.string .empty))],
 .p 5 .mv [(.const (.int .i64 2))]]) (
 .ret)) (
 .skip))) (
 .seq (
 .ops [
 .p 54 .mv [(.tmp 8)],
 .p 55 .mv [(.tmp 7)],
 .call (some 56) f_matrix_Mul [(.tmp 54), (.tmp 55)],
 .call (some 57) f_code_value [(.tmp 56)],
 .p 53 .mv [(.tmp 57)],
 .p 58 (.ext 0) [(.tmp 53)],
 .p 59 (.ext 1) [(.tmp 53)],
 .p 10 .mv [(.tmp 58)],
 .p 9 .mv [(.tmp 59)]]) (
 .seq (
 .seq (
 .ops [
 .p 60 .mv [(.tmp 9)],
 .p 61 .not [(.tmp 60)],
 .p 62 .mv [(.tmp 61)],
 .gd 62 false (some 63) (.ldn 63 2 (.tmp 2)),
 .gd 62 false (some 64) (.p 64 .mv [(.tmp 10)]),
 .gd 62 false (some 65) (.p 65 .mv [(.tmp 1)]),
 .gd 62 false (some 66) (.call (some 66) f_code_agrees [(.tmp 63), (.tmp 64), (.tmp 65)]),
 .gd 62 false (some 67) (.p 67 .not [(.tmp 66)]),
 .p 68 .pick [(.tmp 62), (.const (.bool true)), (.tmp 67)]]) (
 .cond (.tmp 68) (
 .seq (
 .ops [
 .p 4 .mv [(.const (.string .empty))],
 .p 5 .mv [(.const (.int .i64 2))]]) (
 .ret)) (
 .skip))) (
 .seq (
 .ops [
 .p 69 .mv [(.tmp 10)],
 .p 4 .mv [(.tmp 69)],
 .p 5 .mv [(.const (.int .i64 0))]]) (
 .ret)))))))))))⟩

-- 55 shardlog/shardlogref05.There; slots [(0, l), (1, l), (3, n), (4, i)]
noncomputable def m_ref05_There : MF := ⟨20, [.t 2],
 .seq (
 .ops [
 .p 2 .mv [(.const (.int .i64 0))]]) (
 .seq (
 .ops [
 .p 3 .mv [(.const (.int .i64 0))]]) (
 .seq (
 .seq (
 .ops [
 .p 4 .mv [(.const (.int .i64 0))]]) (
 .block 0 (
 .loop (
 .seq (
 .seq (
 .ops [
 .p 5 .mv [(.tmp 4)],
 .p 6 .mv [(.tmp 0)],
 .p 7 .len [(.tmp 6)],
 .p 8 (.bin .lss) [(.tmp 5), (.tmp 7)]]) (
 .cond (.tmp 8) (
 .skip) (
 .exit 0))) (
 .seq (
 .block 1 (
 .seq (
 .ops [
 .p 11 .mv [(.tmp 0)],
 .p 12 .mv [(.tmp 4)],
 .p 13 (.ixs 1) [(.tmp 11), (.tmp 12)],
 .ld 14 (.tmp 13),
 .p 15 .len [(.tmp 14)],
 .p 16 (.bin .gtr) [(.tmp 15), (.const (.int .i64 0))]]) (
 .cond (.tmp 16) (
 .ops [
 .p 17 .mv [(.tmp 3)],
 .p 18 (.bin .add) [(.tmp 17), (.const (.int .i64 1))],
 .p 3 .mv [(.tmp 18)]]) (
 .skip)))) (
 .ops [
 .p 9 .mv [(.tmp 4)],
 .p 10 (.bin .add) [(.tmp 9), (.const (.int .i64 1))],
 .p 4 .mv [(.tmp 10)]])))))) (
 .seq (
 .ops [
 .p 19 .mv [(.tmp 3)],
 .p 2 .mv [(.tmp 19)]]) (
 .ret))))⟩

-- 56 shardlog/code.Rebuild; slots [(0, s), (1, l), (2, i), (3, s), (4, l), (5, i), (8, v), (9, e), (10, all)]
noncomputable def m_code_Rebuild : MF := ⟨46, [.t 6, .t 7],
 .seq (
 .ops [
 .box 3 t_api_Shape (.tmp 0),
 .p 6 .mv [(.const (.slice none 0 0))],
 .p 7 .mv [(.const (.int .i64 0))]]) (
 .seq (
 .seq (
 .ops [
 .ldn 11 2 (.tmp 3),
 .call (some 12) f_code_Right [(.tmp 11)],
 .p 13 .not [(.tmp 12)],
 .p 14 .mv [(.tmp 13)],
 .gd 14 false (some 15) (.p 15 .mv [(.tmp 2)]),
 .gd 14 false (some 16) (.p 16 (.bin .lss) [(.tmp 15), (.const (.int .i64 0))]),
 .p 17 .pick [(.tmp 14), (.const (.bool true)), (.tmp 16)],
 .p 18 .mv [(.tmp 17)],
 .gd 18 false (some 19) (.p 19 .mv [(.tmp 2)]),
 .gd 18 false (some 20) (.ldn 20 2 (.tmp 3)),
 .gd 18 false (some 21) (.call (some 21) f_code_N [(.tmp 20)]),
 .gd 18 false (some 22) (.p 22 (.bin .geq) [(.tmp 19), (.tmp 21)]),
 .p 23 .pick [(.tmp 18), (.const (.bool true)), (.tmp 22)]]) (
 .cond (.tmp 23) (
 .seq (
 .ops [
 .p 6 .mv [(.const (.slice none 0 0))],
 .p 7 .mv [(.const (.int .i64 1))]]) (
 .ret)) (
 .skip))) (
 .seq (
 .ops [
 .ldn 25 2 (.tmp 3),
 .p 26 .mv [(.tmp 1)],
 .call (some 27) f_code_Decode [(.tmp 25), (.tmp 26)],
 .p 24 .mv [(.tmp 27)],
 .p 28 (.ext 0) [(.tmp 24)],
 .p 29 (.ext 1) [(.tmp 24)],
 .p 8 .mv [(.tmp 28)],
 .p 9 .mv [(.tmp 29)]]) (
 .seq (
 .seq (
 .ops [
 .p 30 .mv [(.tmp 9)],
 .p 31 (.bin .neq) [(.tmp 30), (.const (.int .i64 0))]]) (
 .cond (.tmp 31) (
 .seq (
 .ops [
 .p 32 .mv [(.tmp 9)],
 .p 6 .mv [(.const (.slice none 0 0))],
 .p 7 .mv [(.tmp 32)]]) (
 .ret)) (
 .skip))) (
 .seq (
 .ops [
 .ldn 34 2 (.tmp 3),
 .p 35 .mv [(.tmp 8)],
 .call (some 36) f_code_Encode [(.tmp 34), (.tmp 35)],
 .p 33 .mv [(.tmp 36)],
 .p 37 (.ext 0) [(.tmp 33)],
 .p 38 (.ext 1) [(.tmp 33)],
 .p 10 .mv [(.tmp 37)],
 .p 9 .mv [(.tmp 38)]]) (
 .seq (
 .seq (
 .ops [
 .p 39 .mv [(.tmp 9)],
 .p 40 (.bin .neq) [(.tmp 39), (.const (.int .i64 0))]]) (
 .cond (.tmp 40) (
 .seq (
 .ops [
 .p 41 .mv [(.tmp 9)],
 .p 6 .mv [(.const (.slice none 0 0))],
 .p 7 .mv [(.tmp 41)]]) (
 .ret)) (
 .skip))) (
 .seq (
 .ops [
 .p 42 .mv [(.tmp 10)],
 .p 43 .mv [(.tmp 2)],
 .p 44 (.ixs 1) [(.tmp 42), (.tmp 43)],
 .ld 45 (.tmp 44),
 .p 6 .mv [(.tmp 45)],
 .p 7 .mv [(.const (.int .i64 0))]]) (
 .ret)))))))⟩

-- 57 shardlog/shardlogref01.Same; slots [(0, a), (1, b), (2, a), (3, b)]
noncomputable def m_ref01_Same : MF := ⟨10, [.t 4],
 .seq (
 .ops [
 .p 4 .mv [(.const (.bool false))]]) (
 .seq (
 .ops [
 .p 5 .mv [(.tmp 0)],
 .bs 6 (.tmp 5),
 .p 7 .mv [(.tmp 1)],
 .bs 8 (.tmp 7),
 .p 9 (.bin .eql) [(.tmp 6), (.tmp 8)],
 .p 4 .mv [(.tmp 9)]]) (
 .ret))⟩

theorem c_ref01_Same : trF Try.prog f_ref01_Same = some m_ref01_Same := by kernel_rfl
-- 58 shardlog/shardlogref05.Agrees; slots [(0, s), (1, v), (2, l), (3, s), (4, v), (5, l), (7, all), (8, i)]
noncomputable def m_ref05_Agrees : MF := ⟨36, [.t 6],
 .seq (
 .ops [
 .box 3 t_api_Shape (.tmp 0),
 .p 6 .mv [(.const (.bool false))]]) (
 .seq (
 .ops [
 .ldn 9 2 (.tmp 3),
 .p 10 .mv [(.tmp 1)],
 .call (some 11) f_ref05_Encode [(.tmp 9), (.tmp 10)],
 .p 7 .mv [(.tmp 11)]]) (
 .seq (
 .seq (
 .ops [
 .p 8 .mv [(.const (.int .i64 0))]]) (
 .block 0 (
 .loop (
 .seq (
 .seq (
 .ops [
 .p 12 .mv [(.tmp 8)],
 .p 13 .mv [(.tmp 2)],
 .p 14 .len [(.tmp 13)],
 .p 15 (.bin .lss) [(.tmp 12), (.tmp 14)]]) (
 .cond (.tmp 15) (
 .skip) (
 .exit 0))) (
 .seq (
 .block 1 (
 .seq (
 .dr (
 .one ⟨.p 18 .mv [(.tmp 2)], []⟩ (
 .one ⟨.p 19 .mv [(.tmp 8)], []⟩ (
 .one ⟨.p 20 (.ixs 1) [(.tmp 18), (.tmp 19)], []⟩ (
 .one ⟨.ld 21 (.tmp 20), []⟩ (
 .one ⟨.p 22 .len [(.tmp 21)], []⟩ (
 .one ⟨.p 23 (.bin .gtr) [(.tmp 22), (.const (.int .i64 0))], []⟩ (
 .one ⟨.p 24 .mv [(.tmp 23)], []⟩ (
 .one ⟨.gd 24 true (some 25) (.p 25 .mv [(.tmp 2)]), []⟩ (
 .one ⟨.gd 24 true (some 26) (.p 26 .mv [(.tmp 8)]), []⟩ (
 .one ⟨.gd 24 true (some 27) (.p 27 (.ixs 1) [(.tmp 25), (.tmp 26)]), []⟩ (
 .one ⟨.gd 24 true (some 28) (.ld 28 (.tmp 27)), []⟩ (
 .one ⟨.gd 24 true (some 29) (.p 29 .mv [(.tmp 7)]), []⟩ (
 .one ⟨.gd 24 true (some 30) (.p 30 .mv [(.tmp 8)]), []⟩ (
 .one ⟨.gd 24 true (some 31) (.p 31 (.ixs 1) [(.tmp 29), (.tmp 30)]), []⟩ (
 .one ⟨.gd 24 true (some 32) (.ld 32 (.tmp 31)), []⟩ (
 .one ⟨.gd 24 true (some 33) (.call (some 33) f_ref01_Same [(.tmp 28), (.tmp 32)]), [.ld 21 (.tmp 20)]⟩ (
 .one ⟨.gd 24 true (some 34) (.p 34 .not [(.tmp 33)]), []⟩ (
 .one ⟨.p 35 .pick [(.tmp 24), (.tmp 34), (.const (.bool false))], []⟩ (
 .nil)))))))))))))))))))) (
 .cond (.tmp 35) (
 .seq (
 .ops [
 .p 6 .mv [(.const (.bool false))]]) (
 .ret)) (
 .skip)))) (
 .ops [
 .p 16 .mv [(.tmp 8)],
 .p 17 (.bin .add) [(.tmp 16), (.const (.int .i64 1))],
 .p 8 .mv [(.tmp 17)]])))))) (
 .seq (
 .ops [
 .p 6 .mv [(.const (.bool true))]]) (
 .ret))))⟩

-- 115 slices.ContainsFunc[[][]byte,[]byte]; slots [(0, s), (1, f), (2, s), (3, f)]
noncomputable def m_slices_ContainsFunc : MF := ⟨9, [.t 4],
 .seq (
 .ops [
 .p 4 .mv [(.const (.bool false))]]) (
 .seq (
 .ops [
 .p 5 .mv [(.tmp 0)],
 .p 6 .mv [(.tmp 1)],
 .call (some 7) f_slices_IndexFunc [(.tmp 5), (.tmp 6)],
 .p 8 (.bin .geq) [(.tmp 7), (.const (.int .i64 0))],
 .p 4 .mv [(.tmp 8)]]) (
 .ret))⟩

-- 116 shardlog/matrix.Right$1; slots [(0, r), (2, r)]
noncomputable def m_matrix_Right_1 : MF := ⟨11, [.t 3],
 .seq (
 .ops [
 .p 3 .mv [(.const (.bool false))]]) (
 .seq (
 .ops [
 .p 4 .mv [(.tmp 0)],
 .p 5 .len [(.tmp 4)],
 .ld 6 (.tmp 1),
 .p 7 (.ixs 1) [(.tmp 6), (.const (.int .i64 0))],
 .ld 8 (.tmp 7),
 .p 9 .len [(.tmp 8)],
 .p 10 (.bin .neq) [(.tmp 5), (.tmp 9)],
 .p 3 .mv [(.tmp 10)]]) (
 .ret))⟩

-- 117 shardlog/field.New; slots [(1, f), (2, x), (3, i)]
noncomputable def m_field_New : MF := ⟨30, [.t 0],
 .seq (
 .ops [
 .p 0 .mv [(.const (.pointer none))]]) (
 .seq (
 .ops [
 .p 4 (.build (List.replicate 255 (.int .u8 0) ++ List.replicate 256 (.int .i64 0)) []) [],
 .box 5 t_field_Field (.tmp 4),
 .p 1 .mv [(.tmp 5)]]) (
 .seq (
 .ops [
 .p 2 .mv [(.const (.int .i64 1))]]) (
 .seq (
 .seq (
 .ops [
 .p 6 .mv [(.const (.int .i64 0))]]) (
 .block 0 (
 .loop (
 .seq (
 .ops [
 .p 7 (.bin .lss) [(.tmp 6), (.const (.int .i64 255))]]) (
 .seq (
 .cond (.tmp 7) (
 .skip) (
 .exit 0)) (
 .seq (
 .block 1 (
 .seq (
 .ops [
 .p 8 .mv [(.tmp 6)],
 .p 3 .mv [(.tmp 8)]]) (
 .seq (
 .dr (
 .one ⟨.p 9 .mv [(.tmp 1)], []⟩ (
 .one ⟨.p 10 .mv [(.tmp 3)], []⟩ (
 .one ⟨.p 11 .mv [(.tmp 1)], []⟩ (
 .one ⟨.p 12 .mv [(.tmp 2)], []⟩ (
 .one ⟨.p 13 .mv [(.tmp 2)], []⟩ (
 .one ⟨.p 14 (.conv .u8) [(.tmp 13)], []⟩ (
 .one ⟨.p 15 .mv [(.tmp 3)], []⟩ (
 .one ⟨.p 16 .nilc [(.tmp 9)], []⟩ (
 .one ⟨.p 17 (.fad 0) [(.tmp 16)], []⟩ (
 .one ⟨.p 18 (.ixa 255 1) [(.tmp 17), (.tmp 10)], []⟩ (
 .one ⟨.p 19 .nilc [(.tmp 11)], []⟩ (
 .one ⟨.p 20 (.fad 255) [(.tmp 19)], []⟩ (
 .one ⟨.st 1 false (.tmp 18) (.tmp 14), []⟩ (
 .one ⟨.p 21 (.ixa 256 1) [(.tmp 20), (.tmp 12)], []⟩ (
 .one ⟨.st 1 false (.tmp 21) (.tmp 15), []⟩ (
 .nil))))))))))))))))) (
 .seq (
 .ops [
 .p 22 .mv [(.tmp 2)],
 .p 23 (.bin .shl) [(.tmp 22), (.const (.int .u64 1))],
 .p 2 .mv [(.tmp 23)]]) (
 .seq (
 .ops [
 .p 24 .mv [(.tmp 2)],
 .p 25 (.bin .gtr) [(.tmp 24), (.const (.int .i64 255))]]) (
 .cond (.tmp 25) (
 .ops [
 .p 26 .mv [(.tmp 2)],
 .p 27 (.bin .xor) [(.tmp 26), (.const (.int .i64 285))],
 .p 2 .mv [(.tmp 27)]]) (
 .skip))))))) (
 .ops [
 .p 28 (.bin .add) [(.tmp 6), (.const (.int .i64 1))],
 .p 6 .mv [(.tmp 28)]]))))))) (
 .seq (
 .ops [
 .p 29 .mv [(.tmp 1)],
 .p 0 .mv [(.tmp 29)]]) (
 .ret)))))⟩

-- 118 shardlog/matrix.plus; slots [(0, a), (1, b), (2, a), (3, b), (4, i), (5, x)]
noncomputable def m_matrix_plus : MF := ⟨21, [],
 .seq (
 .ops [
 .p 6 .mv [(.tmp 1)],
 .p 7 .len [(.tmp 6)],
 .p 8 .mv [(.const (.int .i64 0))]]) (
 .block 0 (
 .loop (
 .seq (
 .ops [
 .p 9 (.bin .lss) [(.tmp 8), (.tmp 7)]]) (
 .seq (
 .cond (.tmp 9) (
 .skip) (
 .exit 0)) (
 .seq (
 .block 1 (
 .seq (
 .ops [
 .p 10 .mv [(.tmp 8)],
 .p 11 (.ixs 1) [(.tmp 6), (.tmp 8)],
 .ld 12 (.tmp 11),
 .p 4 .mv [(.tmp 10)],
 .p 5 .mv [(.tmp 12)]]) (
 .ops [
 .p 13 .mv [(.tmp 0)],
 .p 14 .mv [(.tmp 4)],
 .p 15 (.ixs 1) [(.tmp 13), (.tmp 14)],
 .ld 16 (.tmp 15),
 .p 17 .mv [(.tmp 5)],
 .p 18 (.bin .xor) [(.tmp 16), (.tmp 17)],
 .p 19 (.ixs 1) [(.tmp 13), (.tmp 14)],
 .st 1 false (.tmp 19) (.tmp 18)]))) (
 .ops [
 .p 20 (.bin .add) [(.tmp 8), (.const (.int .i64 1))],
 .p 8 .mv [(.tmp 20)]]))))))⟩

-- 119 (*shardlog/field.Field).Row; slots [(0, f), (1, c), (2, b), (3, f), (4, c), (5, b), (7, times), (8, out), (9, _), (10, x)]
noncomputable def m_field_Field_Row : MF := ⟨28, [.t 6],
 .seq (
 .ops [
 .p 6 .mv [(.const (.slice none 0 0))]]) (
 .seq (
 .ops [
 .p 11 .mv [(.tmp 0)],
 .p 12 (.fn (.func f_field_Field_Mul) 1) [(.tmp 11)],
 .p 7 .mv [(.tmp 12)]]) (
 .seq (
 .ops [
 .p 8 .mv [(.const (.slice none 0 0))]]) (
 .seq (
 .seq (
 .ops [
 .p 13 .mv [(.tmp 2)],
 .p 14 .len [(.tmp 13)],
 .p 15 .mv [(.const (.int .i64 0))]]) (
 .block 0 (
 .loop (
 .seq (
 .ops [
 .p 16 (.bin .lss) [(.tmp 15), (.tmp 14)]]) (
 .seq (
 .cond (.tmp 16) (
 .skip) (
 .exit 0)) (
 .seq (
 .block 1 (
 .seq (
 .ops [
 .p 17 (.ixs 1) [(.tmp 13), (.tmp 15)],
 .ld 18 (.tmp 17),
 .p 10 .mv [(.tmp 18)]]) (
 .ops [
 .p 19 .mv [(.tmp 8)],
 .p 20 .mv [(.tmp 7)],
 .p 21 .mv [(.tmp 1)],
 .p 22 .mv [(.tmp 10)],
 .callv (some 23) (.tmp 20) [(.tmp 21), (.tmp 22)],
 .bsl 24 tU8 1 [(.int .u8 0)] [(0, 1)] [(.tmp 23)],
 .app 25 #[tBytes, tBytes] tBytes (.tmp 19) (.tmp 24),
 .p 8 .mv [(.tmp 25)]]))) (
 .ops [
 .p 26 (.bin .add) [(.tmp 15), (.const (.int .i64 1))],
 .p 15 .mv [(.tmp 26)]]))))))) (
 .seq (
 .ops [
 .p 27 .mv [(.tmp 8)],
 .p 6 .mv [(.tmp 27)]]) (
 .ret)))))⟩

-- 120 shardlog/shardlogref03.Mul; slots [(0, a), (1, b), (2, a), (3, b), (5, x), (6, y), (7, out), (8, i)]
noncomputable def m_ref03_Mul : MF := ⟨33, [.t 4],
 .seq (
 .ops [
 .p 4 .mv [(.const (.int .u8 0))]]) (
 .seq (
 .ops [
 .p 9 .mv [(.tmp 0)],
 .p 10 (.conv .i64) [(.tmp 9)],
 .p 5 .mv [(.tmp 10)]]) (
 .seq (
 .ops [
 .p 11 .mv [(.tmp 1)],
 .p 12 (.conv .i64) [(.tmp 11)],
 .p 6 .mv [(.tmp 12)]]) (
 .seq (
 .ops [
 .p 7 .mv [(.const (.int .i64 0))]]) (
 .seq (
 .seq (
 .ops [
 .p 8 .mv [(.const (.int .i64 0))]]) (
 .block 0 (
 .loop (
 .seq (
 .seq (
 .ops [
 .p 13 .mv [(.tmp 8)],
 .p 14 (.bin .lss) [(.tmp 13), (.const (.int .i64 8))]]) (
 .cond (.tmp 14) (
 .skip) (
 .exit 0))) (
 .seq (
 .block 1 (
 .seq (
 .seq (
 .ops [
 .p 17 .mv [(.tmp 6)],
 .p 18 (.bin .rem) [(.tmp 17), (.const (.int .i64 2))],
 .p 19 (.bin .eql) [(.tmp 18), (.const (.int .i64 1))]]) (
 .cond (.tmp 19) (
 .ops [
 .p 20 .mv [(.tmp 7)],
 .p 21 .mv [(.tmp 5)],
 .p 22 (.bin .xor) [(.tmp 20), (.tmp 21)],
 .p 7 .mv [(.tmp 22)]]) (
 .skip))) (
 .seq (
 .ops [
 .p 23 .mv [(.tmp 6)],
 .p 24 (.bin .quo) [(.tmp 23), (.const (.int .i64 2))],
 .p 6 .mv [(.tmp 24)]]) (
 .seq (
 .ops [
 .p 25 .mv [(.tmp 5)],
 .p 26 (.bin .mul) [(.tmp 25), (.const (.int .i64 2))],
 .p 5 .mv [(.tmp 26)]]) (
 .seq (
 .ops [
 .p 27 .mv [(.tmp 5)],
 .p 28 (.bin .geq) [(.tmp 27), (.const (.int .i64 256))]]) (
 .cond (.tmp 28) (
 .ops [
 .p 29 .mv [(.tmp 5)],
 .p 30 (.bin .xor) [(.tmp 29), (.const (.int .i64 285))],
 .p 5 .mv [(.tmp 30)]]) (
 .skip))))))) (
 .ops [
 .p 15 .mv [(.tmp 8)],
 .p 16 (.bin .add) [(.tmp 15), (.const (.int .i64 1))],
 .p 8 .mv [(.tmp 16)]])))))) (
 .seq (
 .ops [
 .p 31 .mv [(.tmp 7)],
 .p 32 (.conv .u8) [(.tmp 31)],
 .p 4 .mv [(.tmp 32)]]) (
 .ret))))))⟩

-- 121 shardlog/matrix.copied; slots [(0, m), (1, m), (3, out), (4, _), (5, r)]
noncomputable def m_matrix_copied : MF := ⟨19, [.t 2],
 .seq (
 .ops [
 .p 2 .mv [(.const (.slice none 0 0))]]) (
 .seq (
 .ops [
 .p 3 .mv [(.const (.slice none 0 0))]]) (
 .seq (
 .seq (
 .ops [
 .p 6 .mv [(.tmp 0)],
 .p 7 .len [(.tmp 6)],
 .p 8 .mv [(.const (.int .i64 0))]]) (
 .block 0 (
 .loop (
 .seq (
 .ops [
 .p 9 (.bin .lss) [(.tmp 8), (.tmp 7)]]) (
 .seq (
 .cond (.tmp 9) (
 .skip) (
 .exit 0)) (
 .seq (
 .block 1 (
 .seq (
 .ops [
 .p 10 (.ixs 1) [(.tmp 6), (.tmp 8)],
 .ld 11 (.tmp 10),
 .p 5 .mv [(.tmp 11)]]) (
 .ops [
 .p 12 .mv [(.tmp 3)],
 .p 13 .mv [(.tmp 5)],
 .call (some 14) f_slices_Clone [(.tmp 13)],
 .bsl 15 tBytes 1 [(.slice none 0 0)] [(0, 1)] [(.tmp 14)],
 .app 16 #[tRows, tRows] tRows (.tmp 12) (.tmp 15),
 .p 3 .mv [(.tmp 16)]]))) (
 .ops [
 .p 17 (.bin .add) [(.tmp 8), (.const (.int .i64 1))],
 .p 8 .mv [(.tmp 17)]]))))))) (
 .seq (
 .ops [
 .p 18 .mv [(.tmp 3)],
 .p 2 .mv [(.tmp 18)]]) (
 .ret))))⟩

-- 122 shardlog/matrix.pivot; slots [(0, m), (1, out), (2, c), (3, m), (4, out), (5, c), (7, i)]
noncomputable def m_matrix_pivot : MF := ⟨51, [.t 6],
 .seq (
 .ops [
 .p 6 .mv [(.const (.bool false))]]) (
 .seq (
 .seq (
 .ops [
 .p 8 .mv [(.tmp 2)],
 .p 7 .mv [(.tmp 8)]]) (
 .block 0 (
 .loop (
 .seq (
 .seq (
 .ops [
 .p 9 .mv [(.tmp 7)],
 .p 10 .mv [(.tmp 0)],
 .p 11 .len [(.tmp 10)],
 .p 12 (.bin .lss) [(.tmp 9), (.tmp 11)]]) (
 .cond (.tmp 12) (
 .skip) (
 .exit 0))) (
 .seq (
 .block 1 (
 .seq (
 .ops [
 .p 15 .mv [(.tmp 0)],
 .p 16 .mv [(.tmp 7)],
 .p 17 (.ixs 1) [(.tmp 15), (.tmp 16)],
 .ld 18 (.tmp 17),
 .p 19 .mv [(.tmp 2)],
 .p 20 (.ixs 1) [(.tmp 18), (.tmp 19)],
 .ld 21 (.tmp 20),
 .p 22 (.bin .neq) [(.tmp 21), (.const (.int .u8 0))]]) (
 .cond (.tmp 22) (
 .seq (
 .dr (
 .one ⟨.p 23 .mv [(.tmp 0)], []⟩ (
 .one ⟨.p 24 .mv [(.tmp 2)], []⟩ (
 .one ⟨.p 25 .mv [(.tmp 0)], []⟩ (
 .one ⟨.p 26 .mv [(.tmp 7)], []⟩ (
 .one ⟨.p 27 .mv [(.tmp 0)], []⟩ (
 .one ⟨.p 28 .mv [(.tmp 7)], []⟩ (
 .one ⟨.p 29 (.ixs 1) [(.tmp 27), (.tmp 28)], []⟩ (
 .one ⟨.ld 30 (.tmp 29), []⟩ (
 .one ⟨.p 31 .mv [(.tmp 0)], []⟩ (
 .one ⟨.p 32 .mv [(.tmp 2)], []⟩ (
 .one ⟨.p 33 (.ixs 1) [(.tmp 31), (.tmp 32)], []⟩ (
 .one ⟨.ld 34 (.tmp 33), []⟩ (
 .one ⟨.p 35 (.ixs 1) [(.tmp 23), (.tmp 24)], []⟩ (
 .one ⟨.st 1 false (.tmp 35) (.tmp 30), []⟩ (
 .one ⟨.p 36 (.ixs 1) [(.tmp 25), (.tmp 26)], []⟩ (
 .one ⟨.st 1 false (.tmp 36) (.tmp 34), []⟩ (
 .nil)))))))))))))))))) (
 .seq (
 .dr (
 .one ⟨.p 37 .mv [(.tmp 1)], []⟩ (
 .one ⟨.p 38 .mv [(.tmp 2)], []⟩ (
 .one ⟨.p 39 .mv [(.tmp 1)], []⟩ (
 .one ⟨.p 40 .mv [(.tmp 7)], []⟩ (
 .one ⟨.p 41 .mv [(.tmp 1)], []⟩ (
 .one ⟨.p 42 .mv [(.tmp 7)], []⟩ (
 .one ⟨.p 43 (.ixs 1) [(.tmp 41), (.tmp 42)], []⟩ (
 .one ⟨.ld 44 (.tmp 43), []⟩ (
 .one ⟨.p 45 .mv [(.tmp 1)], []⟩ (
 .one ⟨.p 46 .mv [(.tmp 2)], []⟩ (
 .one ⟨.p 47 (.ixs 1) [(.tmp 45), (.tmp 46)], []⟩ (
 .one ⟨.ld 48 (.tmp 47), []⟩ (
 .one ⟨.p 49 (.ixs 1) [(.tmp 37), (.tmp 38)], []⟩ (
 .one ⟨.st 1 false (.tmp 49) (.tmp 44), []⟩ (
 .one ⟨.p 50 (.ixs 1) [(.tmp 39), (.tmp 40)], []⟩ (
 .one ⟨.st 1 false (.tmp 50) (.tmp 48), []⟩ (
 .nil)))))))))))))))))) (
 .seq (
 .ops [
 .p 6 .mv [(.const (.bool true))]]) (
 .ret)))) (
 .skip)))) (
 .ops [
 .p 13 .mv [(.tmp 7)],
 .p 14 (.bin .add) [(.tmp 13), (.const (.int .i64 1))],
 .p 7 .mv [(.tmp 14)]])))))) (
 .seq (
 .ops [
 .p 6 .mv [(.const (.bool false))]]) (
 .ret)))⟩

-- 123 shardlog/matrix.clearColumn; slots [(0, f), (1, m), (2, out), (3, c), (4, f), (5, m), (6, out), (7, c), (8, x), (9, i), (10, y)]
noncomputable def m_matrix_clearColumn : MF := ⟨84, [],
 .seq (
 .ops [
 .p 11 .mv [(.tmp 0)],
 .p 12 .mv [(.tmp 1)],
 .p 13 .mv [(.tmp 3)],
 .p 14 (.ixs 1) [(.tmp 12), (.tmp 13)],
 .ld 15 (.tmp 14),
 .p 16 .mv [(.tmp 3)],
 .p 17 (.ixs 1) [(.tmp 15), (.tmp 16)],
 .ld 18 (.tmp 17),
 .call (some 19) f_field_Field_Inv [(.tmp 11), (.tmp 18)],
 .p 8 .mv [(.tmp 19)]]) (
 .seq (
 .dr (
 .one ⟨.p 20 .mv [(.tmp 1)], []⟩ (
 .one ⟨.p 21 .mv [(.tmp 3)], []⟩ (
 .one ⟨.p 22 .mv [(.tmp 2)], []⟩ (
 .one ⟨.p 23 .mv [(.tmp 3)], []⟩ (
 .one ⟨.p 24 .mv [(.tmp 0)], []⟩ (
 .one ⟨.p 25 .mv [(.tmp 8)], []⟩ (
 .one ⟨.p 26 .mv [(.tmp 1)], []⟩ (
 .one ⟨.p 27 .mv [(.tmp 3)], []⟩ (
 .one ⟨.p 28 (.ixs 1) [(.tmp 26), (.tmp 27)], []⟩ (
 .one ⟨.ld 29 (.tmp 28), []⟩ (
 .one ⟨.p 31 .mv [(.tmp 0)], []⟩ (
 .one ⟨.p 32 .mv [(.tmp 8)], []⟩ (
 .one ⟨.p 33 .mv [(.tmp 2)], []⟩ (
 .one ⟨.p 34 .mv [(.tmp 3)], []⟩ (
 .one ⟨.p 35 (.ixs 1) [(.tmp 33), (.tmp 34)], []⟩ (
 .one ⟨.ld 36 (.tmp 35), []⟩ (
 .one ⟨.call (some 30) f_field_Field_Row [(.tmp 24), (.tmp 25), (.tmp 29)], [.ld 36 (.tmp 35)]⟩ (
 .one ⟨.call (some 37) f_field_Field_Row [(.tmp 31), (.tmp 32), (.tmp 36)], []⟩ (
 .one ⟨.p 38 (.ixs 1) [(.tmp 20), (.tmp 21)], []⟩ (
 .one ⟨.st 1 false (.tmp 38) (.tmp 30), []⟩ (
 .one ⟨.p 39 (.ixs 1) [(.tmp 22), (.tmp 23)], []⟩ (
 .one ⟨.st 1 false (.tmp 39) (.tmp 37), []⟩ (
 .nil)))))))))))))))))))))))) (
 .seq (
 .ops [
 .p 40 .mv [(.tmp 1)],
 .p 41 .len [(.tmp 40)],
 .p 42 .mv [(.const (.int .i64 0))]]) (
 .block 0 (
 .loop (
 .seq (
 .ops [
 .p 43 (.bin .lss) [(.tmp 42), (.tmp 41)]]) (
 .seq (
 .cond (.tmp 43) (
 .skip) (
 .exit 0)) (
 .seq (
 .block 1 (
 .seq (
 .ops [
 .p 44 .mv [(.tmp 42)],
 .p 9 .mv [(.tmp 44)]]) (
 .seq (
 .ops [
 .p 45 .mv [(.tmp 1)],
 .p 46 .mv [(.tmp 9)],
 .p 47 (.ixs 1) [(.tmp 45), (.tmp 46)],
 .ld 48 (.tmp 47),
 .p 49 .mv [(.tmp 3)],
 .p 50 (.ixs 1) [(.tmp 48), (.tmp 49)],
 .ld 51 (.tmp 50),
 .p 10 .mv [(.tmp 51)]]) (
 .seq (
 .ops [
 .p 52 .mv [(.tmp 9)],
 .p 53 .mv [(.tmp 3)],
 .p 54 (.bin .neq) [(.tmp 52), (.tmp 53)],
 .p 55 .mv [(.tmp 54)],
 .gd 55 true (some 56) (.p 56 .mv [(.tmp 10)]),
 .gd 55 true (some 57) (.p 57 (.bin .neq) [(.tmp 56), (.const (.int .u8 0))]),
 .p 58 .pick [(.tmp 55), (.tmp 57), (.const (.bool false))]]) (
 .cond (.tmp 58) (
 .seq (
 .dr (
 .one ⟨.p 59 .mv [(.tmp 1)], []⟩ (
 .one ⟨.p 60 .mv [(.tmp 9)], []⟩ (
 .one ⟨.p 61 (.ixs 1) [(.tmp 59), (.tmp 60)], []⟩ (
 .one ⟨.ld 62 (.tmp 61), []⟩ (
 .one ⟨.p 63 .mv [(.tmp 0)], []⟩ (
 .one ⟨.p 64 .mv [(.tmp 10)], []⟩ (
 .one ⟨.p 65 .mv [(.tmp 1)], []⟩ (
 .one ⟨.p 66 .mv [(.tmp 3)], []⟩ (
 .one ⟨.p 67 (.ixs 1) [(.tmp 65), (.tmp 66)], []⟩ (
 .one ⟨.ld 68 (.tmp 67), []⟩ (
 .one ⟨.call (some 69) f_field_Field_Row [(.tmp 63), (.tmp 64), (.tmp 68)], [.ld 62 (.tmp 61)]⟩ (
 .one ⟨.call (some 70) f_matrix_plus [(.tmp 62), (.tmp 69)], []⟩ (
 .nil)))))))))))))) (
 .dr (
 .one ⟨.p 71 .mv [(.tmp 2)], []⟩ (
 .one ⟨.p 72 .mv [(.tmp 9)], []⟩ (
 .one ⟨.p 73 (.ixs 1) [(.tmp 71), (.tmp 72)], []⟩ (
 .one ⟨.ld 74 (.tmp 73), []⟩ (
 .one ⟨.p 75 .mv [(.tmp 0)], []⟩ (
 .one ⟨.p 76 .mv [(.tmp 10)], []⟩ (
 .one ⟨.p 77 .mv [(.tmp 2)], []⟩ (
 .one ⟨.p 78 .mv [(.tmp 3)], []⟩ (
 .one ⟨.p 79 (.ixs 1) [(.tmp 77), (.tmp 78)], []⟩ (
 .one ⟨.ld 80 (.tmp 79), []⟩ (
 .one ⟨.call (some 81) f_field_Field_Row [(.tmp 75), (.tmp 76), (.tmp 80)], [.ld 74 (.tmp 73)]⟩ (
 .one ⟨.call (some 82) f_matrix_plus [(.tmp 74), (.tmp 81)], []⟩ (
 .nil))))))))))))))) (
 .skip)))))) (
 .ops [
 .p 83 (.bin .add) [(.tmp 42), (.const (.int .i64 1))],
 .p 42 .mv [(.tmp 83)]]))))))))⟩

-- 124 (*shardlog/field.Field).Inv; slots [(0, f), (1, a), (2, f), (3, a)]
noncomputable def m_field_Field_Inv : MF := ⟨20, [.t 4],
 .seq (
 .ops [
 .p 4 .mv [(.const (.int .u8 0))]]) (
 .seq (
 .seq (
 .ops [
 .p 5 .mv [(.tmp 1)],
 .p 6 (.bin .eql) [(.tmp 5), (.const (.int .u8 0))]]) (
 .cond (.tmp 6) (
 .seq (
 .ops [
 .p 4 .mv [(.const (.int .u8 0))]]) (
 .ret)) (
 .skip))) (
 .seq (
 .dr (
 .one ⟨.p 7 .mv [(.tmp 0)], []⟩ (
 .one ⟨.p 8 .mv [(.tmp 0)], []⟩ (
 .one ⟨.p 9 .mv [(.tmp 1)], []⟩ (
 .one ⟨.p 10 .nilc [(.tmp 8)], []⟩ (
 .one ⟨.p 11 (.fad 255) [(.tmp 10)], []⟩ (
 .one ⟨.p 12 (.ixa 256 1) [(.tmp 11), (.tmp 9)], []⟩ (
 .one ⟨.ld 13 (.tmp 12), []⟩ (
 .one ⟨.p 14 (.bin .sub) [(.const (.int .i64 255)), (.tmp 13)], []⟩ (
 .one ⟨.p 15 (.bin .rem) [(.tmp 14), (.const (.int .i64 255))], []⟩ (
 .one ⟨.p 16 .nilc [(.tmp 7)], []⟩ (
 .one ⟨.p 17 (.fad 0) [(.tmp 16)], []⟩ (
 .one ⟨.p 18 (.ixa 255 1) [(.tmp 17), (.tmp 15)], []⟩ (
 .one ⟨.ld 19 (.tmp 18), []⟩ (
 .one ⟨.p 4 .mv [(.tmp 19)], []⟩ (
 .nil)))))))))))))))) (
 .ret)))⟩

-- 125 shardlog/shardlogref03.Inv; slots [(0, a), (1, a), (3, b)]
noncomputable def m_ref03_Inv : MF := ⟨15, [.t 2],
 .seq (
 .ops [
 .p 2 .mv [(.const (.int .u8 0))]]) (
 .seq (
 .seq (
 .ops [
 .p 3 .mv [(.const (.int .i64 1))]]) (
 .block 0 (
 .loop (
 .seq (
 .seq (
 .ops [
 .p 4 .mv [(.tmp 3)],
 .p 5 (.bin .lss) [(.tmp 4), (.const (.int .i64 256))]]) (
 .cond (.tmp 5) (
 .skip) (
 .exit 0))) (
 .seq (
 .block 1 (
 .seq (
 .ops [
 .p 8 .mv [(.tmp 0)],
 .p 9 .mv [(.tmp 3)],
 .p 10 (.conv .u8) [(.tmp 9)],
 .call (some 11) f_ref03_Mul [(.tmp 8), (.tmp 10)],
 .p 12 (.bin .eql) [(.tmp 11), (.const (.int .u8 1))]]) (
 .cond (.tmp 12) (
 .seq (
 .ops [
 .p 13 .mv [(.tmp 3)],
 .p 14 (.conv .u8) [(.tmp 13)],
 .p 2 .mv [(.tmp 14)]]) (
 .ret)) (
 .skip)))) (
 .ops [
 .p 6 .mv [(.tmp 3)],
 .p 7 (.bin .add) [(.tmp 6), (.const (.int .i64 1))],
 .p 3 .mv [(.tmp 7)]])))))) (
 .seq (
 .ops [
 .p 2 .mv [(.const (.int .u8 0))]]) (
 .ret)))⟩

-- 126 slices.Clone[[]byte,byte]; slots [(0, s), (1, s)]
noncomputable def m_slices_Clone : MF := ⟨8, [.t 2],
 .seq (
 .ops [
 .p 2 .mv [(.const (.slice none 0 0))]]) (
 .seq (
 .seq (
 .ops [
 .p 3 .mv [(.tmp 0)],
 .p 4 (.isnil .sl false) [(.tmp 3)]]) (
 .cond (.tmp 4) (
 .seq (
 .ops [
 .p 2 .mv [(.const (.slice none 0 0))]]) (
 .ret)) (
 .skip))) (
 .seq (
 .ops [
 .bsl 5 tU8 0 [] [] [],
 .p 6 .mv [(.tmp 0)],
 .app 7 #[tBytes, tBytes] tBytes (.tmp 5) (.tmp 6),
 .p 2 .mv [(.tmp 7)]]) (
 .ret)))⟩

theorem c_slices_Clone : trF Try.prog f_slices_Clone = some m_slices_Clone := by kernel_rfl
-- 128 shardlog/shardlogref01.Text; slots [(0, s), (1, s)]
noncomputable def m_ref01_Text : MF := ⟨9, [.t 2],
 .seq (
 .ops [
 .p 2 .mv [(.const (.slice none 0 0))]]) (
 .seq (
 .ops [
 .p 3 .mv [(.tmp 0)],
 .p 4 .lens [(.tmp 3)],
 .call (some 5) f_ref01_Num [(.tmp 4)],
 .p 6 .mv [(.tmp 0)],
 .gen (some 7) ⟨(some 7), (.convert tStr tBytes (.tmp 6)), tBytes, "ref.go:13", #[⟨3, .data⟩], none⟩,
 .app 8 #[tBytes, tBytes] tBytes (.tmp 5) (.tmp 7),
 .p 2 .mv [(.tmp 8)]]) (
 .ret))⟩

-- 129 shardlog/code.there; slots [(0, l), (1, l), (3, out), (4, i), (5, b)]
noncomputable def m_code_there : MF := ⟨22, [.t 2],
 .seq (
 .ops [
 .p 2 .mv [(.const (.slice none 0 0))]]) (
 .seq (
 .ops [
 .p 3 .mv [(.const (.slice none 0 0))]]) (
 .seq (
 .seq (
 .ops [
 .p 6 .mv [(.tmp 0)],
 .p 7 .len [(.tmp 6)],
 .p 8 .mv [(.const (.int .i64 0))]]) (
 .block 0 (
 .loop (
 .seq (
 .ops [
 .p 9 (.bin .lss) [(.tmp 8), (.tmp 7)]]) (
 .seq (
 .cond (.tmp 9) (
 .skip) (
 .exit 0)) (
 .seq (
 .block 1 (
 .seq (
 .ops [
 .p 10 .mv [(.tmp 8)],
 .p 11 (.ixs 1) [(.tmp 6), (.tmp 8)],
 .ld 12 (.tmp 11),
 .p 4 .mv [(.tmp 10)],
 .p 5 .mv [(.tmp 12)]]) (
 .seq (
 .ops [
 .p 13 .mv [(.tmp 5)],
 .p 14 .len [(.tmp 13)],
 .p 15 (.bin .gtr) [(.tmp 14), (.const (.int .i64 0))]]) (
 .cond (.tmp 15) (
 .ops [
 .p 16 .mv [(.tmp 3)],
 .p 17 .mv [(.tmp 4)],
 .bsl 18 tInt 1 [(.int .i64 0)] [(0, 1)] [(.tmp 17)],
 .app 19 #[tInts, tInts] tInts (.tmp 16) (.tmp 18),
 .p 3 .mv [(.tmp 19)]]) (
 .skip))))) (
 .ops [
 .p 20 (.bin .add) [(.tmp 8), (.const (.int .i64 1))],
 .p 8 .mv [(.tmp 20)]]))))))) (
 .seq (
 .ops [
 .p 21 .mv [(.tmp 3)],
 .p 2 .mv [(.tmp 21)]]) (
 .ret))))⟩

-- 130 shardlog/code.value; slots [(0, p), (1, p), (4, v), (5, _), (6, ok)]
noncomputable def m_code_value : MF := ⟨21, [.t 2, .t 3],
 .seq (
 .ops [
 .p 2 .mv [(.const (.string .empty))],
 .p 3 .mv [(.const (.bool false))]]) (
 .seq (
 .ops [
 .p 8 .mv [(.tmp 0)],
 .call (some 9) f_slices_Concat [(.tmp 8)],
 .call (some 10) f_wire_CutText [(.tmp 9)],
 .p 7 .mv [(.tmp 10)],
 .p 11 (.ext 0) [(.tmp 7)],
 .p 12 (.ext 1) [(.tmp 7)],
 .p 13 (.ext 2) [(.tmp 7)],
 .p 4 .mv [(.tmp 11)],
 .p 5 .mv [(.tmp 12)],
 .p 6 .mv [(.tmp 13)]]) (
 .seq (
 .ops [
 .p 14 .mv [(.tmp 4)],
 .p 15 .mv [(.tmp 6)],
 .p 16 .mv [(.tmp 15)],
 .gd 16 true (some 17) (.p 17 .mv [(.tmp 4)]),
 .gd 16 true (some 18) (.p 18 .lens [(.tmp 17)]),
 .gd 16 true (some 19) (.p 19 (.bin .leq) [(.tmp 18), (.const (.int .i64 512))]),
 .p 20 .pick [(.tmp 16), (.tmp 19), (.const (.bool false))],
 .p 2 .mv [(.tmp 14)],
 .p 3 .mv [(.tmp 20)]]) (
 .ret)))⟩

-- 131 shardlog/code.agrees; slots [(0, s), (1, v), (2, l), (3, s), (4, v), (5, l), (7, all), (8, e), (9, _), (10, i)]
noncomputable def m_code_agrees : MF := ⟨37, [.t 6],
 .seq (
 .ops [
 .box 3 t_api_Shape (.tmp 0),
 .p 6 .mv [(.const (.bool false))]]) (
 .seq (
 .ops [
 .ldn 12 2 (.tmp 3),
 .p 13 .mv [(.tmp 1)],
 .call (some 14) f_code_Encode [(.tmp 12), (.tmp 13)],
 .p 11 .mv [(.tmp 14)],
 .p 15 (.ext 0) [(.tmp 11)],
 .p 16 (.ext 1) [(.tmp 11)],
 .p 7 .mv [(.tmp 15)],
 .p 8 .mv [(.tmp 16)]]) (
 .seq (
 .seq (
 .ops [
 .p 17 .mv [(.tmp 8)],
 .p 18 (.bin .neq) [(.tmp 17), (.const (.int .i64 0))]]) (
 .cond (.tmp 18) (
 .seq (
 .ops [
 .p 6 .mv [(.const (.bool false))]]) (
 .ret)) (
 .skip))) (
 .seq (
 .seq (
 .ops [
 .p 19 .mv [(.tmp 2)],
 .call (some 20) f_code_there [(.tmp 19)],
 .p 21 .len [(.tmp 20)],
 .p 22 .mv [(.const (.int .i64 0))]]) (
 .block 0 (
 .loop (
 .seq (
 .ops [
 .p 23 (.bin .lss) [(.tmp 22), (.tmp 21)]]) (
 .seq (
 .cond (.tmp 23) (
 .skip) (
 .exit 0)) (
 .seq (
 .block 1 (
 .seq (
 .ops [
 .p 24 (.ixs 1) [(.tmp 20), (.tmp 22)],
 .ld 25 (.tmp 24),
 .p 10 .mv [(.tmp 25)]]) (
 .seq (
 .dr (
 .one ⟨.p 26 .mv [(.tmp 7)], []⟩ (
 .one ⟨.p 27 .mv [(.tmp 10)], []⟩ (
 .one ⟨.p 28 (.ixs 1) [(.tmp 26), (.tmp 27)], []⟩ (
 .one ⟨.ld 29 (.tmp 28), []⟩ (
 .one ⟨.p 30 .mv [(.tmp 2)], []⟩ (
 .one ⟨.p 31 .mv [(.tmp 10)], []⟩ (
 .one ⟨.p 32 (.ixs 1) [(.tmp 30), (.tmp 31)], []⟩ (
 .one ⟨.ld 33 (.tmp 32), []⟩ (
 .one ⟨.call (some 34) f_slices_Equal [(.tmp 29), (.tmp 33)], []⟩ (
 .one ⟨.p 35 .not [(.tmp 34)], []⟩ (
 .nil)))))))))))) (
 .cond (.tmp 35) (
 .seq (
 .ops [
 .p 6 .mv [(.const (.bool false))]]) (
 .ret)) (
 .skip))))) (
 .ops [
 .p 36 (.bin .add) [(.tmp 22), (.const (.int .i64 1))],
 .p 22 .mv [(.tmp 36)]]))))))) (
 .seq (
 .ops [
 .p 6 .mv [(.const (.bool true))]]) (
 .ret)))))⟩

-- 186 slices.IndexFunc[[][]byte,[]byte]; slots [(0, s), (1, f), (2, s), (3, f), (5, i)]
noncomputable def m_slices_IndexFunc : MF := ⟨19, [.t 4],
 .seq (
 .ops [
 .p 4 .mv [(.const (.int .i64 0))]]) (
 .seq (
 .seq (
 .ops [
 .p 6 .mv [(.tmp 0)],
 .p 7 .len [(.tmp 6)],
 .p 8 .mv [(.const (.int .i64 0))]]) (
 .block 0 (
 .loop (
 .seq (
 .ops [
 .p 9 (.bin .lss) [(.tmp 8), (.tmp 7)]]) (
 .seq (
 .cond (.tmp 9) (
 .skip) (
 .exit 0)) (
 .seq (
 .block 1 (
 .seq (
 .ops [
 .p 10 .mv [(.tmp 8)],
 .p 5 .mv [(.tmp 10)]]) (
 .seq (
 .ops [
 .p 11 .mv [(.tmp 1)],
 .p 12 .mv [(.tmp 0)],
 .p 13 .mv [(.tmp 5)],
 .p 14 (.ixs 1) [(.tmp 12), (.tmp 13)],
 .ld 15 (.tmp 14),
 .callv (some 16) (.tmp 11) [(.tmp 15)]]) (
 .cond (.tmp 16) (
 .seq (
 .ops [
 .p 17 .mv [(.tmp 5)],
 .p 4 .mv [(.tmp 17)]]) (
 .ret)) (
 .skip))))) (
 .ops [
 .p 18 (.bin .add) [(.tmp 8), (.const (.int .i64 1))],
 .p 8 .mv [(.tmp 18)]]))))))) (
 .seq (
 .ops [
 .p 4 .mv [(.const (.int .i64 (-1)))]]) (
 .ret)))⟩

-- 187 (*shardlog/field.Field).Mul; slots [(0, f), (1, a), (2, b), (3, f), (4, a), (5, b)]
noncomputable def m_field_Field_Mul : MF := ⟨32, [.t 6],
 .seq (
 .ops [
 .p 6 .mv [(.const (.int .u8 0))]]) (
 .seq (
 .seq (
 .ops [
 .p 7 .mv [(.tmp 1)],
 .p 8 (.bin .eql) [(.tmp 7), (.const (.int .u8 0))],
 .p 9 .mv [(.tmp 8)],
 .gd 9 false (some 10) (.p 10 .mv [(.tmp 2)]),
 .gd 9 false (some 11) (.p 11 (.bin .eql) [(.tmp 10), (.const (.int .u8 0))]),
 .p 12 .pick [(.tmp 9), (.const (.bool true)), (.tmp 11)]]) (
 .cond (.tmp 12) (
 .seq (
 .ops [
 .p 6 .mv [(.const (.int .u8 0))]]) (
 .ret)) (
 .skip))) (
 .seq (
 .dr (
 .one ⟨.p 13 .mv [(.tmp 0)], []⟩ (
 .one ⟨.p 14 .mv [(.tmp 0)], []⟩ (
 .one ⟨.p 15 .mv [(.tmp 1)], []⟩ (
 .one ⟨.p 16 .nilc [(.tmp 14)], []⟩ (
 .one ⟨.p 17 (.fad 255) [(.tmp 16)], []⟩ (
 .one ⟨.p 18 (.ixa 256 1) [(.tmp 17), (.tmp 15)], []⟩ (
 .one ⟨.ld 19 (.tmp 18), []⟩ (
 .one ⟨.p 20 .mv [(.tmp 0)], []⟩ (
 .one ⟨.p 21 .mv [(.tmp 2)], []⟩ (
 .one ⟨.p 22 .nilc [(.tmp 20)], []⟩ (
 .one ⟨.p 23 (.fad 255) [(.tmp 22)], []⟩ (
 .one ⟨.p 24 (.ixa 256 1) [(.tmp 23), (.tmp 21)], []⟩ (
 .one ⟨.ld 25 (.tmp 24), []⟩ (
 .one ⟨.p 26 (.bin .add) [(.tmp 19), (.tmp 25)], []⟩ (
 .one ⟨.p 27 (.bin .rem) [(.tmp 26), (.const (.int .i64 255))], []⟩ (
 .one ⟨.p 28 .nilc [(.tmp 13)], []⟩ (
 .one ⟨.p 29 (.fad 0) [(.tmp 28)], []⟩ (
 .one ⟨.p 30 (.ixa 255 1) [(.tmp 29), (.tmp 27)], []⟩ (
 .one ⟨.ld 31 (.tmp 30), []⟩ (
 .one ⟨.p 6 .mv [(.tmp 31)], []⟩ (
 .nil)))))))))))))))))))))) (
 .ret)))⟩

-- 188 shardlog/wire.Text; slots [(0, s), (1, s)]
noncomputable def m_wire_Text : MF := ⟨8, [.t 2],
 .seq (
 .ops [
 .p 2 .mv [(.const (.slice none 0 0))]]) (
 .seq (
 .ops [
 .p 3 .mv [(.tmp 0)],
 .p 4 .lens [(.tmp 3)],
 .call (some 5) f_wire_Num [(.tmp 4)],
 .p 6 .mv [(.tmp 0)],
 .app 7 #[tBytes, tStr] tBytes (.tmp 5) (.tmp 6),
 .p 2 .mv [(.tmp 7)]]) (
 .ret))⟩

theorem c_wire_Text : trF Try.prog f_wire_Text = some m_wire_Text := by kernel_rfl
-- 189 slices.Chunk[[]byte,byte]; slots [(0, s), (1, n), (2, s), (3, n)]
noncomputable def m_slices_Chunk : MF := ⟨9, [.t 4],
 .seq (
 .ops [
 .box 2 tBytes (.tmp 0),
 .box 3 tInt (.tmp 1),
 .p 4 .mv [(.const .nilFunc)]]) (
 .seq (
 .seq (
 .ops [
 .ld 5 (.tmp 3),
 .p 6 (.bin .lss) [(.tmp 5), (.const (.int .i64 1))]]) (
 .cond (.tmp 6) (
 .ops [
 .p 7 (.ifc tStr) [(.const (.string ⟨#[99, 97, 110, 110, 111, 116, 32, 98, 101, 32, 108, 101, 115, 115, 32, 116, 104, 97, 110, 32, 49]⟩))],
 .gen none ⟨none, (.panic (.tmp 7)), 0, "iter.go:99", #[⟨0, .data⟩], none⟩]) (
 .skip))) (
 .seq (
 .ops [
 .p 8 (.fn (.func f_slices_Chunk_1) 0) [(.tmp 2), (.tmp 3)],
 .p 4 .mv [(.tmp 8)]]) (
 .ret)))⟩

-- 190 shardlog/shardlogref01.Num; slots [(0, n), (1, n)]
noncomputable def m_ref01_Num : MF := ⟨24, [.t 2],
 .seq (
 .ops [
 .p 2 .mv [(.const (.slice none 0 0))]]) (
 .seq (
 .seq (
 .ops [
 .p 3 .mv [(.tmp 0)],
 .p 4 (.bin .lss) [(.tmp 3), (.const (.int .i64 0))],
 .p 5 .mv [(.tmp 4)],
 .gd 5 false (some 6) (.p 6 .mv [(.tmp 0)]),
 .gd 5 false (some 7) (.p 7 (.bin .gtr) [(.tmp 6), (.const (.int .i64 4294967295))]),
 .p 8 .pick [(.tmp 5), (.const (.bool true)), (.tmp 7)]]) (
 .cond (.tmp 8) (
 .seq (
 .ops [
 .p 2 .mv [(.const (.slice none 0 0))]]) (
 .ret)) (
 .skip))) (
 .seq (
 .ops [
 .p 9 .mv [(.tmp 0)],
 .p 10 (.bin .quo) [(.tmp 9), (.const (.int .i64 16777216))],
 .p 11 (.conv .u8) [(.tmp 10)],
 .p 12 .mv [(.tmp 0)],
 .p 13 (.bin .quo) [(.tmp 12), (.const (.int .i64 65536))],
 .p 14 (.bin .rem) [(.tmp 13), (.const (.int .i64 256))],
 .p 15 (.conv .u8) [(.tmp 14)],
 .p 16 .mv [(.tmp 0)],
 .p 17 (.bin .quo) [(.tmp 16), (.const (.int .i64 256))],
 .p 18 (.bin .rem) [(.tmp 17), (.const (.int .i64 256))],
 .p 19 (.conv .u8) [(.tmp 18)],
 .p 20 .mv [(.tmp 0)],
 .p 21 (.bin .rem) [(.tmp 20), (.const (.int .i64 256))],
 .p 22 (.conv .u8) [(.tmp 21)],
 .bsl 23 tU8 4 [(.int .u8 0), (.int .u8 0), (.int .u8 0), (.int .u8 0)] [(0, 1), (1, 1), (2, 1), (3, 1)] [(.tmp 11), (.tmp 15), (.tmp 19), (.tmp 22)],
 .p 2 .mv [(.tmp 23)]]) (
 .ret)))⟩

-- 191 shardlog/wire.CutText; slots [(0, b), (1, b), (5, n), (6, rest), (7, ok)]
noncomputable def m_wire_CutText : MF := ⟨29, [.t 2, .t 3, .t 4],
 .seq (
 .ops [
 .p 2 .mv [(.const (.string .empty))],
 .p 3 .mv [(.const (.slice none 0 0))],
 .p 4 .mv [(.const (.bool false))]]) (
 .seq (
 .ops [
 .p 9 .mv [(.tmp 0)],
 .call (some 10) f_wire_CutNum [(.tmp 9)],
 .p 8 .mv [(.tmp 10)],
 .p 11 (.ext 0) [(.tmp 8)],
 .p 12 (.ext 1) [(.tmp 8)],
 .p 13 (.ext 2) [(.tmp 8)],
 .p 5 .mv [(.tmp 11)],
 .p 6 .mv [(.tmp 12)],
 .p 7 .mv [(.tmp 13)]]) (
 .seq (
 .seq (
 .ops [
 .p 14 .mv [(.tmp 7)],
 .p 15 .not [(.tmp 14)],
 .p 16 .mv [(.tmp 15)],
 .gd 16 false (some 17) (.p 17 .mv [(.tmp 5)]),
 .gd 16 false (some 18) (.p 18 .mv [(.tmp 6)]),
 .gd 16 false (some 19) (.p 19 .len [(.tmp 18)]),
 .gd 16 false (some 20) (.p 20 (.bin .gtr) [(.tmp 17), (.tmp 19)]),
 .p 21 .pick [(.tmp 16), (.const (.bool true)), (.tmp 20)]]) (
 .cond (.tmp 21) (
 .seq (
 .ops [
 .p 2 .mv [(.const (.string .empty))],
 .p 3 .mv [(.const (.slice none 0 0))],
 .p 4 .mv [(.const (.bool false))]]) (
 .ret)) (
 .skip))) (
 .seq (
 .dr (
 .one ⟨.p 22 .mv [(.tmp 6)], []⟩ (
 .one ⟨.p 23 .mv [(.tmp 5)], []⟩ (
 .one ⟨.p 24 (.sls 1 false true false) [(.tmp 22), (.tmp 23)], []⟩ (
 .one ⟨.bs 25 (.tmp 24), []⟩ (
 .one ⟨.p 26 .mv [(.tmp 6)], []⟩ (
 .one ⟨.p 27 .mv [(.tmp 5)], []⟩ (
 .one ⟨.p 28 (.sls 1 true false false) [(.tmp 26), (.tmp 27)], []⟩ (
 .one ⟨.p 2 .mv [(.tmp 25)], []⟩ (
 .one ⟨.p 3 .mv [(.tmp 28)], []⟩ (
 .one ⟨.p 4 .mv [(.const (.bool true))], []⟩ (
 .nil)))))))))))) (
 .ret))))⟩

theorem c_wire_CutText : trF Try.prog f_wire_CutText = some m_wire_CutText := by kernel_rfl
-- 192 slices.Concat[[]byte,byte]; slots [(0, slices), (1, slices), (3, size), (4, _), (5, s), (6, newslice), (7, _), (8, s)]
noncomputable def m_slices_Concat : MF := ⟨36, [.t 2],
 .seq (
 .ops [
 .p 2 .mv [(.const (.slice none 0 0))]]) (
 .seq (
 .ops [
 .p 3 .mv [(.const (.int .i64 0))]]) (
 .seq (
 .seq (
 .ops [
 .p 9 .mv [(.tmp 0)],
 .p 10 .len [(.tmp 9)],
 .p 11 .mv [(.const (.int .i64 0))]]) (
 .block 0 (
 .loop (
 .seq (
 .ops [
 .p 12 (.bin .lss) [(.tmp 11), (.tmp 10)]]) (
 .seq (
 .cond (.tmp 12) (
 .skip) (
 .exit 0)) (
 .seq (
 .block 1 (
 .seq (
 .ops [
 .p 13 (.ixs 1) [(.tmp 9), (.tmp 11)],
 .ld 14 (.tmp 13),
 .p 5 .mv [(.tmp 14)]]) (
 .seq (
 .ops [
 .p 15 .mv [(.tmp 3)],
 .p 16 .mv [(.tmp 5)],
 .p 17 .len [(.tmp 16)],
 .p 18 (.bin .add) [(.tmp 15), (.tmp 17)],
 .p 3 .mv [(.tmp 18)]]) (
 .seq (
 .ops [
 .p 19 .mv [(.tmp 3)],
 .p 20 (.bin .lss) [(.tmp 19), (.const (.int .i64 0))]]) (
 .cond (.tmp 20) (
 .ops [
 .p 21 (.ifc tStr) [(.const (.string ⟨#[108, 101, 110, 32, 111, 117, 116, 32, 111, 102, 32, 114, 97, 110, 103, 101]⟩))],
 .gen none ⟨none, (.panic (.tmp 21)), 0, "slices.go:496", #[⟨0, .data⟩], none⟩]) (
 .skip)))))) (
 .ops [
 .p 22 (.bin .add) [(.tmp 11), (.const (.int .i64 1))],
 .p 11 .mv [(.tmp 22)]]))))))) (
 .seq (
 .ops [
 .p 23 .mv [(.tmp 3)],
 .call (some 24) f_slices_Grow [(.const (.slice none 0 0)), (.tmp 23)],
 .p 6 .mv [(.tmp 24)]]) (
 .seq (
 .seq (
 .ops [
 .p 25 .mv [(.tmp 0)],
 .p 26 .len [(.tmp 25)],
 .p 27 .mv [(.const (.int .i64 0))]]) (
 .block 2 (
 .loop (
 .seq (
 .ops [
 .p 28 (.bin .lss) [(.tmp 27), (.tmp 26)]]) (
 .seq (
 .cond (.tmp 28) (
 .skip) (
 .exit 2)) (
 .seq (
 .block 3 (
 .seq (
 .ops [
 .p 29 (.ixs 1) [(.tmp 25), (.tmp 27)],
 .ld 30 (.tmp 29),
 .p 8 .mv [(.tmp 30)]]) (
 .ops [
 .p 31 .mv [(.tmp 6)],
 .p 32 .mv [(.tmp 8)],
 .app 33 #[tBytes, tBytes] tBytes (.tmp 31) (.tmp 32),
 .p 6 .mv [(.tmp 33)]]))) (
 .ops [
 .p 34 (.bin .add) [(.tmp 27), (.const (.int .i64 1))],
 .p 27 .mv [(.tmp 34)]]))))))) (
 .seq (
 .ops [
 .p 35 .mv [(.tmp 6)],
 .p 2 .mv [(.tmp 35)]]) (
 .ret))))))⟩

theorem c_slices_Concat : trF Try.prog f_slices_Concat = some m_slices_Concat := by kernel_rfl
-- 193 slices.Equal[[]byte,byte]; slots [(0, s1), (1, s2), (2, s1), (3, s2), (5, i)]
noncomputable def m_slices_Equal : MF := ⟨26, [.t 4],
 .seq (
 .ops [
 .p 4 .mv [(.const (.bool false))]]) (
 .seq (
 .seq (
 .ops [
 .p 6 .mv [(.tmp 0)],
 .p 7 .len [(.tmp 6)],
 .p 8 .mv [(.tmp 1)],
 .p 9 .len [(.tmp 8)],
 .p 10 (.bin .neq) [(.tmp 7), (.tmp 9)]]) (
 .cond (.tmp 10) (
 .seq (
 .ops [
 .p 4 .mv [(.const (.bool false))]]) (
 .ret)) (
 .skip))) (
 .seq (
 .seq (
 .ops [
 .p 11 .mv [(.tmp 0)],
 .p 12 .len [(.tmp 11)],
 .p 13 .mv [(.const (.int .i64 0))]]) (
 .block 0 (
 .loop (
 .seq (
 .ops [
 .p 14 (.bin .lss) [(.tmp 13), (.tmp 12)]]) (
 .seq (
 .cond (.tmp 14) (
 .skip) (
 .exit 0)) (
 .seq (
 .block 1 (
 .seq (
 .ops [
 .p 15 .mv [(.tmp 13)],
 .p 5 .mv [(.tmp 15)]]) (
 .seq (
 .dr (
 .one ⟨.p 16 .mv [(.tmp 0)], []⟩ (
 .one ⟨.p 17 .mv [(.tmp 5)], []⟩ (
 .one ⟨.p 18 (.ixs 1) [(.tmp 16), (.tmp 17)], []⟩ (
 .one ⟨.ld 19 (.tmp 18), []⟩ (
 .one ⟨.p 20 .mv [(.tmp 1)], []⟩ (
 .one ⟨.p 21 .mv [(.tmp 5)], []⟩ (
 .one ⟨.p 22 (.ixs 1) [(.tmp 20), (.tmp 21)], []⟩ (
 .one ⟨.ld 23 (.tmp 22), []⟩ (
 .one ⟨.p 24 (.bin .neq) [(.tmp 19), (.tmp 23)], []⟩ (
 .nil))))))))))) (
 .cond (.tmp 24) (
 .seq (
 .ops [
 .p 4 .mv [(.const (.bool false))]]) (
 .ret)) (
 .skip))))) (
 .ops [
 .p 25 (.bin .add) [(.tmp 13), (.const (.int .i64 1))],
 .p 13 .mv [(.tmp 25)]]))))))) (
 .seq (
 .ops [
 .p 4 .mv [(.const (.bool true))]]) (
 .ret))))⟩

theorem c_slices_Equal : trF Try.prog f_slices_Equal = some m_slices_Equal := by kernel_rfl
-- 209 shardlog/wire.Num; slots [(0, n), (1, n)]
noncomputable def m_wire_Num : MF := ⟨21, [.t 2],
 .seq (
 .ops [
 .p 2 .mv [(.const (.slice none 0 0))]]) (
 .seq (
 .seq (
 .ops [
 .p 3 .mv [(.tmp 0)],
 .p 4 (.bin .lss) [(.tmp 3), (.const (.int .i64 0))],
 .p 5 .mv [(.tmp 4)],
 .gd 5 false (some 6) (.p 6 .mv [(.tmp 0)]),
 .gd 5 false (some 7) (.p 7 (.bin .gtr) [(.tmp 6), (.const (.int .i64 4294967295))]),
 .p 8 .pick [(.tmp 5), (.const (.bool true)), (.tmp 7)]]) (
 .cond (.tmp 8) (
 .seq (
 .ops [
 .p 2 .mv [(.const (.slice none 0 0))]]) (
 .ret)) (
 .skip))) (
 .seq (
 .ops [
 .p 9 .mv [(.tmp 0)],
 .p 10 (.bin .shr) [(.tmp 9), (.const (.int .u64 24))],
 .p 11 (.conv .u8) [(.tmp 10)],
 .p 12 .mv [(.tmp 0)],
 .p 13 (.bin .shr) [(.tmp 12), (.const (.int .u64 16))],
 .p 14 (.conv .u8) [(.tmp 13)],
 .p 15 .mv [(.tmp 0)],
 .p 16 (.bin .shr) [(.tmp 15), (.const (.int .u64 8))],
 .p 17 (.conv .u8) [(.tmp 16)],
 .p 18 .mv [(.tmp 0)],
 .p 19 (.conv .u8) [(.tmp 18)],
 .bsl 20 tU8 4 [(.int .u8 0), (.int .u8 0), (.int .u8 0), (.int .u8 0)] [(0, 1), (1, 1), (2, 1), (3, 1)] [(.tmp 11), (.tmp 14), (.tmp 17), (.tmp 19)],
 .p 2 .mv [(.tmp 20)]]) (
 .ret)))⟩

theorem c_wire_Num : trF Try.prog f_wire_Num = some m_wire_Num := by kernel_rfl
-- 233 shardlog/wire.CutNum; slots [(0, b), (1, b), (5, n), (6, _), (7, c)]
noncomputable def m_wire_CutNum : MF := ⟨28, [.t 2, .t 3, .t 4],
 .seq (
 .ops [
 .p 2 .mv [(.const (.int .i64 0))],
 .p 3 .mv [(.const (.slice none 0 0))],
 .p 4 .mv [(.const (.bool false))]]) (
 .seq (
 .seq (
 .ops [
 .p 8 .mv [(.tmp 0)],
 .p 9 .len [(.tmp 8)],
 .p 10 (.bin .lss) [(.tmp 9), (.const (.int .i64 4))]]) (
 .cond (.tmp 10) (
 .seq (
 .ops [
 .p 2 .mv [(.const (.int .i64 0))],
 .p 3 .mv [(.const (.slice none 0 0))],
 .p 4 .mv [(.const (.bool false))]]) (
 .ret)) (
 .skip))) (
 .seq (
 .ops [
 .p 5 .mv [(.const (.int .i64 0))]]) (
 .seq (
 .seq (
 .ops [
 .p 11 .mv [(.tmp 0)],
 .p 12 (.sls 1 false true false) [(.tmp 11), (.const (.int .i64 4))],
 .p 13 .len [(.tmp 12)],
 .p 14 .mv [(.const (.int .i64 0))]]) (
 .block 0 (
 .loop (
 .seq (
 .ops [
 .p 15 (.bin .lss) [(.tmp 14), (.tmp 13)]]) (
 .seq (
 .cond (.tmp 15) (
 .skip) (
 .exit 0)) (
 .seq (
 .block 1 (
 .seq (
 .ops [
 .p 16 (.ixs 1) [(.tmp 12), (.tmp 14)],
 .ld 17 (.tmp 16),
 .p 7 .mv [(.tmp 17)]]) (
 .ops [
 .p 18 .mv [(.tmp 5)],
 .p 19 (.bin .shl) [(.tmp 18), (.const (.int .u64 8))],
 .p 20 .mv [(.tmp 7)],
 .p 21 (.conv .i64) [(.tmp 20)],
 .p 22 (.bin .or) [(.tmp 19), (.tmp 21)],
 .p 5 .mv [(.tmp 22)]]))) (
 .ops [
 .p 23 (.bin .add) [(.tmp 14), (.const (.int .i64 1))],
 .p 14 .mv [(.tmp 23)]]))))))) (
 .seq (
 .ops [
 .p 24 .mv [(.tmp 5)],
 .p 25 .mv [(.tmp 0)],
 .p 26 (.sls 1 true false false) [(.tmp 25), (.const (.int .i64 4))],
 .call (some 27) f_slices_Clone [(.tmp 26)],
 .p 2 .mv [(.tmp 24)],
 .p 3 .mv [(.tmp 27)],
 .p 4 .mv [(.const (.bool true))]]) (
 .ret)))))⟩

theorem c_wire_CutNum : trF Try.prog f_wire_CutNum = some m_wire_CutNum := by kernel_rfl
-- 234 slices.Grow[[]byte,byte]; slots [(0, s), (1, n), (2, s), (3, n)]
noncomputable def m_slices_Grow : MF := ⟨27, [.t 4],
 .seq (
 .ops [
 .p 4 .mv [(.const (.slice none 0 0))]]) (
 .seq (
 .seq (
 .ops [
 .p 5 .mv [(.tmp 1)],
 .p 6 (.bin .lss) [(.tmp 5), (.const (.int .i64 0))]]) (
 .cond (.tmp 6) (
 .ops [
 .p 7 (.ifc tStr) [(.const (.string ⟨#[99, 97, 110, 110, 111, 116, 32, 98, 101, 32, 110, 101, 103, 97, 116, 105, 118, 101]⟩))],
 .gen none ⟨none, (.panic (.tmp 7)), 0, "slices.go:424", #[⟨0, .data⟩], none⟩]) (
 .skip))) (
 .seq (
 .seq (
 .ops [
 .p 8 .mv [(.tmp 1)],
 .p 9 .mv [(.tmp 0)],
 .p 10 .cap [(.tmp 9)],
 .p 11 .mv [(.tmp 0)],
 .p 12 .len [(.tmp 11)],
 .p 13 (.bin .sub) [(.tmp 10), (.tmp 12)],
 .p 14 (.bin .sub) [(.tmp 8), (.tmp 13)],
 .p 1 .mv [(.tmp 14)]]) (
 .seq (
 .ops [
 .p 15 .mv [(.tmp 1)],
 .p 16 (.bin .gtr) [(.tmp 15), (.const (.int .i64 0))]]) (
 .cond (.tmp 16) (
 .ops [
 .p 17 .mv [(.tmp 0)],
 .p 18 .mv [(.tmp 0)],
 .p 19 .cap [(.tmp 18)],
 .p 20 (.sls 1 false true false) [(.tmp 17), (.tmp 19)],
 .p 21 .mv [(.tmp 1)],
 .app 22 #[tBytes, tInt] tBytes (.tmp 20) (.tmp 21),
 .p 23 .mv [(.tmp 0)],
 .p 24 .len [(.tmp 23)],
 .p 25 (.sls 1 false true false) [(.tmp 22), (.tmp 24)],
 .p 0 .mv [(.tmp 25)]]) (
 .skip)))) (
 .seq (
 .ops [
 .p 26 .mv [(.tmp 0)],
 .p 4 .mv [(.tmp 26)]]) (
 .ret))))⟩

theorem c_slices_Grow : trF Try.prog f_slices_Grow = some m_slices_Grow := by kernel_rfl
end Go.Proofs.Ytgpkbldlkadnjaa
end
section
/- Functions of the program in the small code (printed by wip/tool/Print.lean and mkmf2.py of this repo), each with its equation, held by the kernel. -/
set_option linter.unusedVariables false
namespace Go.Proofs.Ytgpkbldlkadnjaa
open Go Go.Sl
-- 15 shardlog/shardloglaw07.DiskKeeps; slots [(0, b), (1, b), (3, d), (4, own), (5, i), (6, x), (7, _), (8, y), (9, _), (10, same), (11, i), (12, z), (13, _)]
noncomputable def m_law07_DiskKeeps : MF := ⟨94, [.t 2],
 .seq (
 .ops [
 .p 2 .mv [(.const (.bool false))]]) (
 .seq (
 .seq (
 .ops [
 .call (some 14) f_law07_awake [],
 .p 15 .not [(.tmp 14)],
 .p 16 .mv [(.tmp 15)],
 .gd 16 false (some 17) (.p 17 .mv [(.tmp 0)]),
 .gd 16 false (some 18) (.p 18 .len [(.tmp 17)]),
 .gd 16 false (some 19) (.p 19 (.bin .gtr) [(.tmp 18), (.const (.int .i64 1000))]),
 .p 20 .pick [(.tmp 16), (.const (.bool true)), (.tmp 19)]]) (
 .cond (.tmp 20) (
 .seq (
 .ops [
 .call (some 21) f_law07_awake [],
 .p 2 .mv [(.tmp 21)]]) (
 .ret)) (
 .skip))) (
 .seq (
 .ops [
 .call (some 22) f_disk_New [(.const (.int .i64 5000))],
 .p 3 .mv [(.tmp 22)]]) (
 .seq (
 .seq (
 .ops [
 .p 23 .mv [(.tmp 3)],
 .p 24 (.isnil .pt false) [(.tmp 23)]]) (
 .cond (.tmp 24) (
 .seq (
 .ops [
 .p 2 .mv [(.const (.bool false))]]) (
 .ret)) (
 .skip))) (
 .seq (
 .ops [
 .bsl 25 tU8 0 [] [] [],
 .p 26 .mv [(.tmp 0)],
 .app 27 #[tBytes, tBytes] tBytes (.tmp 25) (.tmp 26),
 .p 4 .mv [(.tmp 27)]]) (
 .seq (
 .ops [
 .p 28 .mv [(.tmp 3)],
 .p 29 .mv [(.tmp 4)],
 .call (some 30) f_disk_Disk_Append [(.tmp 28), (.const (.string ⟨#[102]⟩)), (.tmp 29)]]) (
 .seq (
 .ops [
 .p 31 .mv [(.tmp 3)],
 .call (some 32) f_disk_Disk_Sync [(.tmp 31), (.const (.string ⟨#[102]⟩))]]) (
 .seq (
 .seq (
 .ops [
 .p 5 .mv [(.const (.int .i64 0))]]) (
 .block 0 (
 .loop (
 .seq (
 .seq (
 .ops [
 .p 33 .mv [(.tmp 5)],
 .p 34 .mv [(.tmp 4)],
 .p 35 .len [(.tmp 34)],
 .p 36 (.bin .lss) [(.tmp 33), (.tmp 35)]]) (
 .cond (.tmp 36) (
 .skip) (
 .exit 0))) (
 .seq (
 .block 1 (
 .ops [
 .p 39 .mv [(.tmp 4)],
 .p 40 .mv [(.tmp 5)],
 .p 41 .mv [(.tmp 4)],
 .p 42 .mv [(.tmp 5)],
 .p 43 (.ixs 1) [(.tmp 41), (.tmp 42)],
 .ld 44 (.tmp 43),
 .p 45 (.bin .xor) [(.tmp 44), (.const (.int .u8 255))],
 .p 46 (.ixs 1) [(.tmp 39), (.tmp 40)],
 .st 1 false (.tmp 46) (.tmp 45)])) (
 .ops [
 .p 37 .mv [(.tmp 5)],
 .p 38 (.bin .add) [(.tmp 37), (.const (.int .i64 1))],
 .p 5 .mv [(.tmp 38)]])))))) (
 .seq (
 .ops [
 .p 48 .mv [(.tmp 3)],
 .call (some 49) f_disk_Disk_Read [(.tmp 48), (.const (.string ⟨#[102]⟩))],
 .p 47 .mv [(.tmp 49)],
 .p 50 (.ext 0) [(.tmp 47)],
 .p 51 (.ext 1) [(.tmp 47)],
 .p 6 .mv [(.tmp 50)],
 .p 7 .mv [(.tmp 51)]]) (
 .seq (
 .ops [
 .p 53 .mv [(.tmp 3)],
 .call (some 54) f_disk_Disk_Synced [(.tmp 53), (.const (.string ⟨#[102]⟩))],
 .p 52 .mv [(.tmp 54)],
 .p 55 (.ext 0) [(.tmp 52)],
 .p 56 (.ext 1) [(.tmp 52)],
 .p 8 .mv [(.tmp 55)],
 .p 9 .mv [(.tmp 56)]]) (
 .seq (
 .ops [
 .p 57 .mv [(.tmp 6)],
 .p 58 .mv [(.tmp 0)],
 .call (some 59) f_ref01_Same [(.tmp 57), (.tmp 58)],
 .p 60 .mv [(.tmp 59)],
 .gd 60 true (some 61) (.p 61 .mv [(.tmp 8)]),
 .gd 60 true (some 62) (.p 62 .mv [(.tmp 0)]),
 .gd 60 true (some 63) (.call (some 63) f_ref01_Same [(.tmp 61), (.tmp 62)]),
 .p 64 .pick [(.tmp 60), (.tmp 63), (.const (.bool false))],
 .p 10 .mv [(.tmp 64)]]) (
 .seq (
 .seq (
 .ops [
 .p 11 .mv [(.const (.int .i64 0))]]) (
 .block 2 (
 .loop (
 .seq (
 .seq (
 .ops [
 .p 65 .mv [(.tmp 11)],
 .p 66 .mv [(.tmp 6)],
 .p 67 .len [(.tmp 66)],
 .p 68 (.bin .lss) [(.tmp 65), (.tmp 67)],
 .p 69 .mv [(.tmp 68)],
 .gd 69 true (some 70) (.p 70 .mv [(.tmp 11)]),
 .gd 69 true (some 71) (.p 71 .mv [(.tmp 8)]),
 .gd 69 true (some 72) (.p 72 .len [(.tmp 71)]),
 .gd 69 true (some 73) (.p 73 (.bin .lss) [(.tmp 70), (.tmp 72)]),
 .p 74 .pick [(.tmp 69), (.tmp 73), (.const (.bool false))]]) (
 .cond (.tmp 74) (
 .skip) (
 .exit 2))) (
 .seq (
 .block 3 (
 .seq (
 .ops [
 .p 77 .mv [(.tmp 6)],
 .p 78 .mv [(.tmp 11)],
 .p 79 (.ixs 1) [(.tmp 77), (.tmp 78)],
 .st 1 false (.tmp 79) (.const (.int .u8 7))]) (
 .ops [
 .p 80 .mv [(.tmp 8)],
 .p 81 .mv [(.tmp 11)],
 .p 82 (.ixs 1) [(.tmp 80), (.tmp 81)],
 .st 1 false (.tmp 82) (.const (.int .u8 8))]))) (
 .ops [
 .p 75 .mv [(.tmp 11)],
 .p 76 (.bin .add) [(.tmp 75), (.const (.int .i64 1))],
 .p 11 .mv [(.tmp 76)]])))))) (
 .seq (
 .ops [
 .p 84 .mv [(.tmp 3)],
 .call (some 85) f_disk_Disk_Read [(.tmp 84), (.const (.string ⟨#[102]⟩))],
 .p 83 .mv [(.tmp 85)],
 .p 86 (.ext 0) [(.tmp 83)],
 .p 87 (.ext 1) [(.tmp 83)],
 .p 12 .mv [(.tmp 86)],
 .p 13 .mv [(.tmp 87)]]) (
 .seq (
 .ops [
 .p 88 .mv [(.tmp 10)],
 .p 89 .mv [(.tmp 88)],
 .gd 89 true (some 90) (.p 90 .mv [(.tmp 12)]),
 .gd 89 true (some 91) (.p 91 .mv [(.tmp 0)]),
 .gd 89 true (some 92) (.call (some 92) f_ref01_Same [(.tmp 90), (.tmp 91)]),
 .p 93 .pick [(.tmp 89), (.tmp 92), (.const (.bool false))],
 .p 2 .mv [(.tmp 93)]]) (
 .ret))))))))))))))⟩

-- 59 shardlog/shardloglaw07.awake; slots [(1, d), (2, e), (3, f), (4, g), (5, h), (6, s), (7, _), (8, b), (9, i)]
noncomputable def m_law07_awake : MF := ⟨84, [.t 0],
 .seq (
 .ops [
 .p 0 .mv [(.const (.bool false))]]) (
 .seq (
 .ops [
 .call (some 10) f_disk_New [(.const (.int .i64 10))],
 .p 1 .mv [(.tmp 10)]]) (
 .seq (
 .seq (
 .ops [
 .p 11 .mv [(.tmp 1)],
 .p 12 (.isnil .pt false) [(.tmp 11)]]) (
 .cond (.tmp 12) (
 .seq (
 .ops [
 .p 0 .mv [(.const (.bool false))]]) (
 .ret)) (
 .skip))) (
 .seq (
 .ops [
 .p 13 .mv [(.tmp 1)],
 .bsl 14 tU8 3 [(.int .u8 0), (.int .u8 0), (.int .u8 0)] [(0, 1), (1, 1), (2, 1)] [(.const (.int .u8 120)), (.const (.int .u8 121)), (.const (.int .u8 122))],
 .gen (some 15) ⟨(some 15), (.convert tBytes tBytes (.tmp 14)), tBytes, "law.go:17", #[⟨1, .data⟩], none⟩,
 .call (some 16) f_disk_Disk_Append [(.tmp 13), (.const (.string ⟨#[97]⟩)), (.tmp 15)],
 .p 2 .mv [(.tmp 16)]]) (
 .seq (
 .ops [
 .p 17 .mv [(.tmp 1)],
 .call (some 18) f_disk_Disk_Sync [(.tmp 17), (.const (.string ⟨#[97]⟩))],
 .p 3 .mv [(.tmp 18)]]) (
 .seq (
 .ops [
 .p 19 .mv [(.tmp 1)],
 .bsl 20 tU8 4 [(.int .u8 0), (.int .u8 0), (.int .u8 0), (.int .u8 0)] [(0, 1), (1, 1), (2, 1), (3, 1)] [(.const (.int .u8 109)), (.const (.int .u8 111)), (.const (.int .u8 114)), (.const (.int .u8 101))],
 .gen (some 21) ⟨(some 21), (.convert tBytes tBytes (.tmp 20)), tBytes, "law.go:19", #[⟨1, .data⟩], none⟩,
 .call (some 22) f_disk_Disk_Append [(.tmp 19), (.const (.string ⟨#[97]⟩)), (.tmp 21)],
 .p 4 .mv [(.tmp 22)]]) (
 .seq (
 .ops [
 .p 23 .mv [(.tmp 1)],
 .bsl 24 tU8 4 [(.int .u8 0), (.int .u8 0), (.int .u8 0), (.int .u8 0)] [(0, 1), (1, 1), (2, 1), (3, 1)] [(.const (.int .u8 109)), (.const (.int .u8 111)), (.const (.int .u8 114)), (.const (.int .u8 101))],
 .gen (some 25) ⟨(some 25), (.convert tBytes tBytes (.tmp 24)), tBytes, "law.go:20", #[⟨1, .data⟩], none⟩,
 .call (some 26) f_disk_Disk_Append [(.tmp 23), (.const (.string ⟨#[98]⟩)), (.tmp 25)],
 .p 5 .mv [(.tmp 26)]]) (
 .seq (
 .ops [
 .p 28 .mv [(.tmp 1)],
 .call (some 29) f_disk_Disk_Synced [(.tmp 28), (.const (.string ⟨#[97]⟩))],
 .p 27 .mv [(.tmp 29)],
 .p 30 (.ext 0) [(.tmp 27)],
 .p 31 (.ext 1) [(.tmp 27)],
 .p 6 .mv [(.tmp 30)],
 .p 7 .mv [(.tmp 31)]]) (
 .seq (
 .ops [
 .p 32 .mv [(.tmp 1)],
 .bsl 33 tInt 1 [(.int .i64 0)] [(0, 1)] [(.const (.int .i64 2))],
 .call (some 34) f_disk_Disk_Crash [(.tmp 32), (.tmp 33)]]) (
 .seq (
 .ops [
 .p 36 .mv [(.tmp 1)],
 .call (some 37) f_disk_Disk_Read [(.tmp 36), (.const (.string ⟨#[97]⟩))],
 .p 35 .mv [(.tmp 37)],
 .p 38 (.ext 0) [(.tmp 35)],
 .p 39 (.ext 1) [(.tmp 35)],
 .p 8 .mv [(.tmp 38)],
 .p 9 .mv [(.tmp 39)]]) (
 .seq (
 .ops [
 .p 40 .mv [(.tmp 2)],
 .p 41 (.bin .eql) [(.tmp 40), (.const (.int .i64 0))],
 .p 42 .mv [(.tmp 41)],
 .gd 42 true (some 43) (.p 43 .mv [(.tmp 3)]),
 .gd 42 true (some 44) (.p 44 (.bin .eql) [(.tmp 43), (.const (.int .i64 0))]),
 .p 45 .pick [(.tmp 42), (.tmp 44), (.const (.bool false))],
 .p 46 .mv [(.tmp 45)],
 .gd 46 true (some 47) (.p 47 .mv [(.tmp 4)]),
 .gd 46 true (some 48) (.p 48 (.bin .eql) [(.tmp 47), (.const (.int .i64 0))]),
 .p 49 .pick [(.tmp 46), (.tmp 48), (.const (.bool false))],
 .p 50 .mv [(.tmp 49)],
 .gd 50 true (some 51) (.p 51 .mv [(.tmp 5)]),
 .gd 50 true (some 52) (.p 52 (.bin .eql) [(.tmp 51), (.const (.int .i64 4))]),
 .p 53 .pick [(.tmp 50), (.tmp 52), (.const (.bool false))],
 .p 54 .mv [(.tmp 53)],
 .gd 54 true (some 55) (.p 55 .mv [(.tmp 6)]),
 .gd 54 true (some 56) (.bs 56 (.tmp 55)),
 .gd 54 true (some 57) (.p 57 (.bin .eql) [(.tmp 56), (.const (.string ⟨#[120, 121, 122]⟩))]),
 .p 58 .pick [(.tmp 54), (.tmp 57), (.const (.bool false))],
 .p 59 .mv [(.tmp 58)],
 .gd 59 true (some 60) (.p 60 .mv [(.tmp 9)]),
 .gd 59 true (some 61) (.p 61 (.bin .eql) [(.tmp 60), (.const (.int .i64 0))]),
 .p 62 .pick [(.tmp 59), (.tmp 61), (.const (.bool false))],
 .p 63 .mv [(.tmp 62)],
 .gd 63 true (some 64) (.p 64 .mv [(.tmp 8)]),
 .gd 63 true (some 65) (.bs 65 (.tmp 64)),
 .gd 63 true (some 66) (.p 66 (.bin .eql) [(.tmp 65), (.const (.string ⟨#[120, 121, 122, 109, 111]⟩))]),
 .p 67 .pick [(.tmp 63), (.tmp 66), (.const (.bool false))],
 .p 68 .mv [(.tmp 67)],
 .gd 68 true (some 69) (.p 69 .mv [(.tmp 1)]),
 .gd 68 true (some 70) (.call (some 70) f_disk_Disk_Used [(.tmp 69)]),
 .gd 68 true (some 71) (.p 71 (.bin .eql) [(.tmp 70), (.const (.int .i64 5))]),
 .p 72 .pick [(.tmp 68), (.tmp 71), (.const (.bool false))],
 .p 73 .mv [(.tmp 72)],
 .gd 73 true (some 74) (.p 74 .mv [(.tmp 1)]),
 .gd 73 true (some 75) (.call (some 75) f_disk_Disk_Names [(.tmp 74)]),
 .gd 73 true (some 76) (.p 76 .len [(.tmp 75)]),
 .gd 73 true (some 77) (.p 77 (.bin .eql) [(.tmp 76), (.const (.int .i64 1))]),
 .p 78 .pick [(.tmp 73), (.tmp 77), (.const (.bool false))],
 .p 79 .mv [(.tmp 78)],
 .gd 79 true (some 80) (.p 80 .mv [(.tmp 1)]),
 .gd 79 true (some 81) (.call (some 81) f_disk_Disk_Delete [(.tmp 80), (.const (.string ⟨#[113]⟩))]),
 .gd 79 true (some 82) (.p 82 (.bin .eql) [(.tmp 81), (.const (.int .i64 5))]),
 .p 83 .pick [(.tmp 79), (.tmp 82), (.const (.bool false))],
 .p 0 .mv [(.tmp 83)]]) (
 .ret)))))))))))⟩

-- 60 shardlog/disk.New; slots [(0, capacity), (1, capacity)]
noncomputable def m_disk_New : MF := ⟨9, [.t 2],
 .seq (
 .ops [
 .p 2 .mv [(.const (.pointer none))]]) (
 .seq (
 .ops [
 .gen (some 3) ⟨(some 3), (.makeMap 175 none), 175, "disk.go:25", #[], none⟩,
 .p 4 .mv [(.tmp 0)],
 .p 5 .max [(.tmp 4), (.const (.int .i64 0))],
 .p 6 .min [(.tmp 5), (.const (.int .i64 65536))],
 .p 7 (.build [(.map none), (.int .i64 0)] [(0, 1), (1, 1)]) [(.tmp 3), (.tmp 6)],
 .box 8 t_disk_Disk (.tmp 7),
 .p 2 .mv [(.tmp 8)]]) (
 .ret))⟩

theorem c_disk_New : trF Try.prog f_disk_New = some m_disk_New := by kernel_rfl
-- 61 (*shardlog/disk.Disk).Append; slots [(0, d), (1, name), (2, b), (3, d), (4, name), (5, b), (7, f)]
noncomputable def m_disk_Disk_Append : MF := ⟨52, [.t 6],
 .seq (
 .ops [
 .p 6 .mv [(.const (.int .i64 0))]]) (
 .seq (
 .block 0 (
 .seq (
 .ops [
 .p 9 .mv [(.tmp 1)],
 .call (some 10) f_disk_named [(.tmp 9)],
 .p 11 .not [(.tmp 10)],
 .p 8 .mv [(.tmp 11)]]) (
 .cond (.tmp 8) (
 .seq (
 .ops [
 .p 6 .mv [(.const (.int .i64 1))]]) (
 .ret)) (
 .seq (
 .dr (
 .one ⟨.p 13 .mv [(.tmp 2)], []⟩ (
 .one ⟨.p 14 .len [(.tmp 13)], []⟩ (
 .one ⟨.p 15 .mv [(.tmp 0)], []⟩ (
 .one ⟨.p 16 .nilc [(.tmp 15)], []⟩ (
 .one ⟨.p 17 (.fad 1) [(.tmp 16)], []⟩ (
 .one ⟨.ld 18 (.tmp 17), []⟩ (
 .one ⟨.p 19 .mv [(.tmp 0)], []⟩ (
 .one ⟨.call (some 20) f_disk_Disk_Used [(.tmp 19)], [.ld 18 (.tmp 17)]⟩ (
 .one ⟨.p 21 (.bin .sub) [(.tmp 18), (.tmp 20)], []⟩ (
 .one ⟨.p 22 (.bin .gtr) [(.tmp 14), (.tmp 21)], []⟩ (
 .one ⟨.p 12 .mv [(.tmp 22)], []⟩ (
 .nil))))))))))))) (
 .cond (.tmp 12) (
 .seq (
 .ops [
 .p 6 .mv [(.const (.int .i64 4))]]) (
 .ret)) (
 .skip)))))) (
 .seq (
 .seq (
 .ops [
 .p 23 .mv [(.tmp 0)],
 .p 24 .nilc [(.tmp 23)],
 .p 25 (.fad 0) [(.tmp 24)],
 .ld 26 (.tmp 25),
 .p 27 .mv [(.tmp 1)],
 .gen (some 28) ⟨(some 28), (.lookup 175 (.tmp 26) (.tmp 27) false), 179, "disk.go:51", #[⟨3, .data⟩, ⟨4, .data⟩], none⟩,
 .p 29 (.isnil .pt false) [(.tmp 28)]]) (
 .cond (.tmp 29) (
 .ops [
 .p 30 .mv [(.tmp 0)],
 .p 31 .nilc [(.tmp 30)],
 .p 32 (.fad 0) [(.tmp 31)],
 .ld 33 (.tmp 32),
 .p 34 .mv [(.tmp 1)],
 .p 35 (.build [(.slice none 0 0), (.int .i64 0)] []) [],
 .box 36 t_disk_file (.tmp 35),
 .genu ⟨none, (.mapUpdate 175 (.tmp 33) (.tmp 34) (.tmp 36)), 0, "disk.go:52", #[⟨3, .data⟩, ⟨4, .data⟩, ⟨6, .data⟩, ⟨0, .phase⟩, ⟨1, .phase⟩, ⟨2, .phase⟩, ⟨3, .phase⟩, ⟨4, .phase⟩, ⟨5, .phase⟩, ⟨6, .phase⟩], none⟩]) (
 .skip))) (
 .seq (
 .ops [
 .p 37 .mv [(.tmp 0)],
 .p 38 .nilc [(.tmp 37)],
 .p 39 (.fad 0) [(.tmp 38)],
 .ld 40 (.tmp 39),
 .p 41 .mv [(.tmp 1)],
 .gen (some 42) ⟨(some 42), (.lookup 175 (.tmp 40) (.tmp 41) false), 179, "disk.go:54", #[⟨3, .data⟩, ⟨4, .data⟩], none⟩,
 .p 7 .mv [(.tmp 42)]]) (
 .seq (
 .ops [
 .p 43 .mv [(.tmp 7)],
 .p 44 .mv [(.tmp 7)],
 .p 45 .nilc [(.tmp 44)],
 .p 46 (.fad 0) [(.tmp 45)],
 .ld 47 (.tmp 46),
 .p 48 .mv [(.tmp 2)],
 .app 49 #[tBytes, tBytes] tBytes (.tmp 47) (.tmp 48),
 .p 50 .nilc [(.tmp 43)],
 .p 51 (.fad 0) [(.tmp 50)],
 .st 1 false (.tmp 51) (.tmp 49)]) (
 .seq (
 .ops [
 .p 6 .mv [(.const (.int .i64 0))]]) (
 .ret))))))⟩

theorem c_disk_Disk_Append : trF Try.prog f_disk_Disk_Append = some m_disk_Disk_Append := by kernel_rfl
-- 62 (*shardlog/disk.Disk).Sync; slots [(0, d), (1, name), (2, d), (3, name), (5, f)]
noncomputable def m_disk_Disk_Sync : MF := ⟨22, [.t 4],
 .seq (
 .ops [
 .p 4 .mv [(.const (.int .i64 0))]]) (
 .seq (
 .ops [
 .p 6 .mv [(.tmp 0)],
 .p 7 .nilc [(.tmp 6)],
 .p 8 (.fad 0) [(.tmp 7)],
 .ld 9 (.tmp 8),
 .p 10 .mv [(.tmp 1)],
 .gen (some 11) ⟨(some 11), (.lookup 175 (.tmp 9) (.tmp 10) false), 179, "disk.go:61", #[⟨3, .data⟩, ⟨4, .data⟩], none⟩,
 .p 5 .mv [(.tmp 11)]]) (
 .seq (
 .seq (
 .ops [
 .p 12 .mv [(.tmp 5)],
 .p 13 (.isnil .pt false) [(.tmp 12)]]) (
 .cond (.tmp 13) (
 .seq (
 .ops [
 .p 4 .mv [(.const (.int .i64 5))]]) (
 .ret)) (
 .skip))) (
 .seq (
 .ops [
 .p 14 .mv [(.tmp 5)],
 .p 15 .mv [(.tmp 5)],
 .p 16 .nilc [(.tmp 15)],
 .p 17 (.fad 0) [(.tmp 16)],
 .ld 18 (.tmp 17),
 .p 19 .len [(.tmp 18)],
 .p 20 .nilc [(.tmp 14)],
 .p 21 (.fad 1) [(.tmp 20)],
 .st 1 false (.tmp 21) (.tmp 19)]) (
 .seq (
 .ops [
 .p 4 .mv [(.const (.int .i64 0))]]) (
 .ret)))))⟩

theorem c_disk_Disk_Sync : trF Try.prog f_disk_Disk_Sync = some m_disk_Disk_Sync := by kernel_rfl
-- 63 (*shardlog/disk.Disk).Read; slots [(0, d), (1, name), (2, d), (3, name), (6, f)]
noncomputable def m_disk_Disk_Read : MF := ⟨20, [.t 4, .t 5],
 .seq (
 .ops [
 .p 4 .mv [(.const (.slice none 0 0))],
 .p 5 .mv [(.const (.int .i64 0))]]) (
 .seq (
 .ops [
 .p 7 .mv [(.tmp 0)],
 .p 8 .nilc [(.tmp 7)],
 .p 9 (.fad 0) [(.tmp 8)],
 .ld 10 (.tmp 9),
 .p 11 .mv [(.tmp 1)],
 .gen (some 12) ⟨(some 12), (.lookup 175 (.tmp 10) (.tmp 11) false), 179, "disk.go:71", #[⟨3, .data⟩, ⟨4, .data⟩], none⟩,
 .p 6 .mv [(.tmp 12)]]) (
 .seq (
 .seq (
 .ops [
 .p 13 .mv [(.tmp 6)],
 .p 14 (.isnil .pt false) [(.tmp 13)]]) (
 .cond (.tmp 14) (
 .seq (
 .ops [
 .p 4 .mv [(.const (.slice none 0 0))],
 .p 5 .mv [(.const (.int .i64 5))]]) (
 .ret)) (
 .skip))) (
 .seq (
 .ops [
 .p 15 .mv [(.tmp 6)],
 .p 16 .nilc [(.tmp 15)],
 .p 17 (.fad 0) [(.tmp 16)],
 .ld 18 (.tmp 17),
 .call (some 19) f_slices_Clone [(.tmp 18)],
 .p 4 .mv [(.tmp 19)],
 .p 5 .mv [(.const (.int .i64 0))]]) (
 .ret))))⟩

theorem c_disk_Disk_Read : trF Try.prog f_disk_Disk_Read = some m_disk_Disk_Read := by kernel_rfl
-- 64 (*shardlog/disk.Disk).Synced; slots [(0, d), (1, name), (2, d), (3, name), (6, f)]
noncomputable def m_disk_Disk_Synced : MF := ⟨25, [.t 4, .t 5],
 .seq (
 .ops [
 .p 4 .mv [(.const (.slice none 0 0))],
 .p 5 .mv [(.const (.int .i64 0))]]) (
 .seq (
 .ops [
 .p 7 .mv [(.tmp 0)],
 .p 8 .nilc [(.tmp 7)],
 .p 9 (.fad 0) [(.tmp 8)],
 .ld 10 (.tmp 9),
 .p 11 .mv [(.tmp 1)],
 .gen (some 12) ⟨(some 12), (.lookup 175 (.tmp 10) (.tmp 11) false), 179, "disk.go:80", #[⟨3, .data⟩, ⟨4, .data⟩], none⟩,
 .p 6 .mv [(.tmp 12)]]) (
 .seq (
 .seq (
 .ops [
 .p 13 .mv [(.tmp 6)],
 .p 14 (.isnil .pt false) [(.tmp 13)]]) (
 .cond (.tmp 14) (
 .seq (
 .ops [
 .p 4 .mv [(.const (.slice none 0 0))],
 .p 5 .mv [(.const (.int .i64 5))]]) (
 .ret)) (
 .skip))) (
 .seq (
 .dr (
 .one ⟨.p 15 .mv [(.tmp 6)], []⟩ (
 .one ⟨.p 16 .nilc [(.tmp 15)], []⟩ (
 .one ⟨.p 17 (.fad 0) [(.tmp 16)], []⟩ (
 .one ⟨.ld 18 (.tmp 17), []⟩ (
 .one ⟨.p 19 .mv [(.tmp 6)], []⟩ (
 .one ⟨.p 20 .nilc [(.tmp 19)], []⟩ (
 .one ⟨.p 21 (.fad 1) [(.tmp 20)], []⟩ (
 .one ⟨.ld 22 (.tmp 21), []⟩ (
 .one ⟨.p 23 (.sls 1 false true false) [(.tmp 18), (.tmp 22)], []⟩ (
 .one ⟨.call (some 24) f_slices_Clone [(.tmp 23)], [.ld 22 (.tmp 21), .ld 18 (.tmp 17)]⟩ (
 .one ⟨.p 4 .mv [(.tmp 24)], []⟩ (
 .one ⟨.p 5 .mv [(.const (.int .i64 0))], []⟩ (
 .nil)))))))))))))) (
 .ret))))⟩

-- 65 shardlog/shardlogref07.Few; slots [(0, l), (1, l), (3, n), (4, i)]
noncomputable def m_ref07_Few : MF := ⟨53, [.t 2],
 .seq (
 .ops [
 .p 2 .mv [(.const (.bool false))]]) (
 .seq (
 .ops [
 .p 3 .mv [(.const (.int .i64 0))]]) (
 .seq (
 .seq (
 .ops [
 .p 4 .mv [(.const (.int .i64 0))]]) (
 .block 0 (
 .loop (
 .seq (
 .seq (
 .ops [
 .p 5 .mv [(.tmp 4)],
 .p 6 .mv [(.tmp 0)],
 .p 7 .len [(.tmp 6)],
 .p 8 (.bin .lss) [(.tmp 5), (.tmp 7)],
 .p 9 .mv [(.tmp 8)],
 .gd 9 true (some 10) (.p 10 .mv [(.tmp 4)]),
 .gd 9 true (some 11) (.p 11 (.bin .lss) [(.tmp 10), (.const (.int .i64 200))]),
 .p 12 .pick [(.tmp 9), (.tmp 11), (.const (.bool false))]]) (
 .cond (.tmp 12) (
 .skip) (
 .exit 0))) (
 .seq (
 .block 1 (
 .seq (
 .dr (
 .one ⟨.p 15 .mv [(.tmp 3)], []⟩ (
 .one ⟨.p 16 .mv [(.tmp 0)], []⟩ (
 .one ⟨.p 17 .mv [(.tmp 4)], []⟩ (
 .one ⟨.p 18 (.ixs 6) [(.tmp 16), (.tmp 17)], []⟩ (
 .one ⟨.p 19 (.fad 3) [(.tmp 18)], []⟩ (
 .one ⟨.ld 20 (.tmp 19), []⟩ (
 .one ⟨.p 21 .len [(.tmp 20)], []⟩ (
 .one ⟨.p 22 (.bin .add) [(.tmp 15), (.tmp 21)], []⟩ (
 .one ⟨.p 23 .mv [(.tmp 0)], []⟩ (
 .one ⟨.p 24 .mv [(.tmp 4)], []⟩ (
 .one ⟨.p 25 (.ixs 6) [(.tmp 23), (.tmp 24)], []⟩ (
 .one ⟨.p 26 (.fad 5) [(.tmp 25)], []⟩ (
 .one ⟨.ld 27 (.tmp 26), []⟩ (
 .one ⟨.p 28 .len [(.tmp 27)], []⟩ (
 .one ⟨.p 29 (.bin .add) [(.tmp 22), (.tmp 28)], []⟩ (
 .one ⟨.p 3 .mv [(.tmp 29)], []⟩ (
 .nil)))))))))))))))))) (
 .seq (
 .ops [
 .p 30 .mv [(.tmp 3)],
 .p 31 (.bin .gtr) [(.tmp 30), (.const (.int .i64 5000))],
 .p 32 .mv [(.tmp 31)],
 .gd 32 false (some 33) (.p 33 .mv [(.tmp 0)]),
 .gd 32 false (some 34) (.p 34 .mv [(.tmp 4)]),
 .gd 32 false (some 35) (.p 35 (.ixs 6) [(.tmp 33), (.tmp 34)]),
 .gd 32 false (some 36) (.p 36 (.fad 1) [(.tmp 35)]),
 .gd 32 false (some 37) (.ld 37 (.tmp 36)),
 .gd 32 false (some 38) (.p 38 .lens [(.tmp 37)]),
 .gd 32 false (some 39) (.p 39 (.bin .gtr) [(.tmp 38), (.const (.int .i64 100))]),
 .p 40 .pick [(.tmp 32), (.const (.bool true)), (.tmp 39)],
 .p 41 .mv [(.tmp 40)],
 .gd 41 false (some 42) (.p 42 .mv [(.tmp 0)]),
 .gd 41 false (some 43) (.p 43 .mv [(.tmp 4)]),
 .gd 41 false (some 44) (.p 44 (.ixs 6) [(.tmp 42), (.tmp 43)]),
 .gd 41 false (some 45) (.p 45 (.fad 2) [(.tmp 44)]),
 .gd 41 false (some 46) (.ld 46 (.tmp 45)),
 .gd 41 false (some 47) (.p 47 .lens [(.tmp 46)]),
 .gd 41 false (some 48) (.p 48 (.bin .gtr) [(.tmp 47), (.const (.int .i64 100))]),
 .p 49 .pick [(.tmp 41), (.const (.bool true)), (.tmp 48)]]) (
 .cond (.tmp 49) (
 .seq (
 .ops [
 .p 2 .mv [(.const (.bool false))]]) (
 .ret)) (
 .skip))))) (
 .ops [
 .p 13 .mv [(.tmp 4)],
 .p 14 (.bin .add) [(.tmp 13), (.const (.int .i64 1))],
 .p 4 .mv [(.tmp 14)]])))))) (
 .seq (
 .ops [
 .p 50 .mv [(.tmp 0)],
 .p 51 .len [(.tmp 50)],
 .p 52 (.bin .leq) [(.tmp 51), (.const (.int .i64 100))],
 .p 2 .mv [(.tmp 52)]]) (
 .ret))))⟩

-- 66 (*shardlog/disk.Disk).Copy; slots [(0, d), (1, d), (3, out), (4, name), (5, f)]
noncomputable def m_disk_Disk_Copy : MF := ⟨38, [.t 2],
 .seq (
 .ops [
 .p 2 .mv [(.const (.pointer none))]]) (
 .seq (
 .ops [
 .p 6 .mv [(.tmp 0)],
 .p 7 .nilc [(.tmp 6)],
 .p 8 (.fad 1) [(.tmp 7)],
 .ld 9 (.tmp 8),
 .call (some 10) f_disk_New [(.tmp 9)],
 .p 3 .mv [(.tmp 10)]]) (
 .seq (
 .seq (
 .ops [
 .p 11 .mv [(.tmp 0)],
 .p 12 .nilc [(.tmp 11)],
 .p 13 (.fad 0) [(.tmp 12)],
 .ld 14 (.tmp 13),
 .gen (some 15) ⟨(some 15), (.range 175 (.tmp 14)), 0, "disk.go:164", #[⟨3, .data⟩], none⟩]) (
 .block 0 (
 .loop (
 .seq (
 .ops [
 .gen (some 16) ⟨(some 16), (.next (.tmp 15) false), 0, "disk.go:164", #[], none⟩,
 .p 17 (.ext 0) [(.tmp 16)]]) (
 .seq (
 .cond (.tmp 17) (
 .skip) (
 .exit 0)) (
 .block 1 (
 .seq (
 .ops [
 .gen (some 18) ⟨(some 18), (.entry (.tmp 15)), 0, "disk.go:164", #[], none⟩,
 .p 19 (.ext 0) [(.tmp 18)],
 .p 20 (.ext 1) [(.tmp 18)],
 .p 4 .mv [(.tmp 19)],
 .p 5 .mv [(.tmp 20)]]) (
 .dr (
 .one ⟨.p 21 .mv [(.tmp 3)], []⟩ (
 .one ⟨.p 22 .nilc [(.tmp 21)], []⟩ (
 .one ⟨.p 23 (.fad 0) [(.tmp 22)], []⟩ (
 .one ⟨.ld 24 (.tmp 23), []⟩ (
 .one ⟨.p 25 .mv [(.tmp 4)], []⟩ (
 .one ⟨.p 26 .mv [(.tmp 5)], []⟩ (
 .one ⟨.p 27 .nilc [(.tmp 26)], []⟩ (
 .one ⟨.p 28 (.fad 0) [(.tmp 27)], []⟩ (
 .one ⟨.ld 29 (.tmp 28), []⟩ (
 .one ⟨.p 31 .mv [(.tmp 5)], []⟩ (
 .one ⟨.p 32 .nilc [(.tmp 31)], []⟩ (
 .one ⟨.p 33 (.fad 1) [(.tmp 32)], []⟩ (
 .one ⟨.ld 34 (.tmp 33), []⟩ (
 .one ⟨.call (some 30) f_slices_Clone [(.tmp 29)], [.ld 34 (.tmp 33), .ld 24 (.tmp 23)]⟩ (
 .one ⟨.p 35 (.build [(.slice none 0 0), (.int .i64 0)] [(0, 1), (1, 1)]) [(.tmp 30), (.tmp 34)], []⟩ (
 .one ⟨.box 36 t_disk_file (.tmp 35), [.ld 34 (.tmp 33), .ld 24 (.tmp 23)]⟩ (
 .one ⟨.genu ⟨none, (.mapUpdate 175 (.tmp 24) (.tmp 25) (.tmp 36)), 0, "disk.go:165", #[⟨3, .data⟩, ⟨4, .data⟩, ⟨15, .data⟩, ⟨9, .chain⟩, ⟨0, .phase⟩, ⟨1, .phase⟩, ⟨2, .phase⟩, ⟨3, .phase⟩, ⟨4, .phase⟩, ⟨5, .phase⟩, ⟨6, .phase⟩, ⟨7, .phase⟩, ⟨8, .phase⟩, ⟨9, .phase⟩, ⟨10, .phase⟩, ⟨11, .phase⟩, ⟨12, .phase⟩, ⟨13, .phase⟩, ⟨14, .phase⟩, ⟨15, .phase⟩], none⟩, []⟩ (
 .nil)))))))))))))))))))))))))) (
 .seq (
 .ops [
 .p 37 .mv [(.tmp 3)],
 .p 2 .mv [(.tmp 37)]]) (
 .ret))))⟩

-- 68 shardlog/shardloglaw07.do; slots [(0, d), (1, a), (2, d), (3, a)]
noncomputable def m_law07_do : MF := ⟨64, [.t 4],
 .seq (
 .ops [
 .box 3 t_ref07_Act (.tmp 1),
 .p 4 .mv [(.const (.int .i64 0))]]) (
 .seq (
 .seq (
 .ops [
 .p 5 (.fad 0) [(.tmp 3)],
 .ld 6 (.tmp 5),
 .p 7 (.bin .eql) [(.tmp 6), (.const (.int .i64 0))]]) (
 .cond (.tmp 7) (
 .seq (
 .ops [
 .p 8 .mv [(.tmp 0)],
 .p 9 (.fad 1) [(.tmp 3)],
 .ld 10 (.tmp 9),
 .p 11 (.fad 3) [(.tmp 3)],
 .ld 12 (.tmp 11),
 .call (some 13) f_disk_Disk_Append [(.tmp 8), (.tmp 10), (.tmp 12)],
 .p 4 .mv [(.tmp 13)]]) (
 .ret)) (
 .skip))) (
 .seq (
 .seq (
 .ops [
 .p 14 (.fad 0) [(.tmp 3)],
 .ld 15 (.tmp 14),
 .p 16 (.bin .eql) [(.tmp 15), (.const (.int .i64 1))]]) (
 .cond (.tmp 16) (
 .seq (
 .ops [
 .p 17 .mv [(.tmp 0)],
 .p 18 (.fad 1) [(.tmp 3)],
 .ld 19 (.tmp 18),
 .call (some 20) f_disk_Disk_Sync [(.tmp 17), (.tmp 19)],
 .p 4 .mv [(.tmp 20)]]) (
 .ret)) (
 .skip))) (
 .seq (
 .seq (
 .ops [
 .p 21 (.fad 0) [(.tmp 3)],
 .ld 22 (.tmp 21),
 .p 23 (.bin .eql) [(.tmp 22), (.const (.int .i64 2))]]) (
 .cond (.tmp 23) (
 .seq (
 .ops [
 .p 24 .mv [(.tmp 0)],
 .p 25 (.fad 1) [(.tmp 3)],
 .ld 26 (.tmp 25),
 .p 27 (.fad 2) [(.tmp 3)],
 .ld 28 (.tmp 27),
 .call (some 29) f_disk_Disk_Rename [(.tmp 24), (.tmp 26), (.tmp 28)],
 .p 4 .mv [(.tmp 29)]]) (
 .ret)) (
 .skip))) (
 .seq (
 .seq (
 .ops [
 .p 30 (.fad 0) [(.tmp 3)],
 .ld 31 (.tmp 30),
 .p 32 (.bin .eql) [(.tmp 31), (.const (.int .i64 3))]]) (
 .cond (.tmp 32) (
 .seq (
 .ops [
 .p 33 .mv [(.tmp 0)],
 .p 34 (.fad 1) [(.tmp 3)],
 .ld 35 (.tmp 34),
 .call (some 36) f_disk_Disk_Delete [(.tmp 33), (.tmp 35)],
 .p 4 .mv [(.tmp 36)]]) (
 .ret)) (
 .skip))) (
 .seq (
 .seq (
 .ops [
 .p 37 (.fad 0) [(.tmp 3)],
 .ld 38 (.tmp 37),
 .p 39 (.bin .eql) [(.tmp 38), (.const (.int .i64 4))]]) (
 .cond (.tmp 39) (
 .seq (
 .ops [
 .p 40 .mv [(.tmp 0)],
 .p 41 (.fad 1) [(.tmp 3)],
 .ld 42 (.tmp 41),
 .p 43 (.fad 4) [(.tmp 3)],
 .ld 44 (.tmp 43),
 .p 45 (.fad 3) [(.tmp 3)],
 .ld 46 (.tmp 45),
 .p 47 .len [(.tmp 46)],
 .p 48 (.bin .add) [(.tmp 47), (.const (.int .i64 1))],
 .p 49 (.conv .u8) [(.tmp 48)],
 .call (some 50) f_disk_Disk_Turn [(.tmp 40), (.tmp 42), (.tmp 44), (.tmp 49)],
 .p 4 .mv [(.tmp 50)]]) (
 .ret)) (
 .skip))) (
 .seq (
 .seq (
 .ops [
 .p 51 (.fad 0) [(.tmp 3)],
 .ld 52 (.tmp 51),
 .p 53 (.bin .eql) [(.tmp 52), (.const (.int .i64 6))]]) (
 .cond (.tmp 53) (
 .seq (
 .ops [
 .p 54 .mv [(.tmp 0)],
 .p 55 (.fad 1) [(.tmp 3)],
 .ld 56 (.tmp 55),
 .p 57 (.fad 4) [(.tmp 3)],
 .ld 58 (.tmp 57),
 .call (some 59) f_disk_Disk_Trim [(.tmp 54), (.tmp 56), (.tmp 58)],
 .p 4 .mv [(.tmp 59)]]) (
 .ret)) (
 .skip))) (
 .seq (
 .ops [
 .p 60 .mv [(.tmp 0)],
 .p 61 (.fad 5) [(.tmp 3)],
 .ld 62 (.tmp 61),
 .call (some 63) f_disk_Disk_Crash [(.tmp 60), (.tmp 62)]]) (
 .seq (
 .ops [
 .p 4 .mv [(.const (.int .i64 0))]]) (
 .ret)))))))))⟩

-- 71 (*shardlog/disk.Disk).Crash; slots [(0, d), (1, keep), (2, d), (3, keep), (4, _), (5, name), (6, f), (7, rest), (8, n)]
noncomputable def m_disk_Disk_Crash : MF := ⟨69, [],
 .seq (
 .ops [
 .p 9 .mv [(.tmp 0)],
 .call (some 10) f_disk_Disk_Names [(.tmp 9)],
 .p 11 .len [(.tmp 10)],
 .p 12 .mv [(.const (.int .i64 0))]]) (
 .block 0 (
 .loop (
 .seq (
 .ops [
 .p 13 (.bin .lss) [(.tmp 12), (.tmp 11)]]) (
 .seq (
 .cond (.tmp 13) (
 .skip) (
 .exit 0)) (
 .seq (
 .block 1 (
 .seq (
 .ops [
 .p 14 (.ixs 1) [(.tmp 10), (.tmp 12)],
 .ld 15 (.tmp 14),
 .p 5 .mv [(.tmp 15)]]) (
 .seq (
 .ops [
 .p 16 .mv [(.tmp 0)],
 .p 17 .nilc [(.tmp 16)],
 .p 18 (.fad 0) [(.tmp 17)],
 .ld 19 (.tmp 18),
 .p 20 .mv [(.tmp 5)],
 .gen (some 21) ⟨(some 21), (.lookup 175 (.tmp 19) (.tmp 20) false), 179, "disk.go:147", #[⟨3, .data⟩, ⟨4, .data⟩], none⟩,
 .p 6 .mv [(.tmp 21)]]) (
 .seq (
 .dr (
 .one ⟨.p 22 .mv [(.tmp 6)], []⟩ (
 .one ⟨.p 23 .nilc [(.tmp 22)], []⟩ (
 .one ⟨.p 24 (.fad 0) [(.tmp 23)], []⟩ (
 .one ⟨.ld 25 (.tmp 24), []⟩ (
 .one ⟨.p 26 .len [(.tmp 25)], []⟩ (
 .one ⟨.p 27 .mv [(.tmp 6)], []⟩ (
 .one ⟨.p 28 .nilc [(.tmp 27)], []⟩ (
 .one ⟨.p 29 (.fad 1) [(.tmp 28)], []⟩ (
 .one ⟨.ld 30 (.tmp 29), []⟩ (
 .one ⟨.p 31 (.bin .sub) [(.tmp 26), (.tmp 30)], []⟩ (
 .one ⟨.p 7 .mv [(.tmp 31)], []⟩ (
 .nil))))))))))))) (
 .seq (
 .seq (
 .ops [
 .p 32 .mv [(.tmp 7)],
 .p 33 (.bin .eql) [(.tmp 32), (.const (.int .i64 0))]]) (
 .cond (.tmp 33) (
 .exit 1) (
 .skip))) (
 .seq (
 .ops [
 .p 8 .mv [(.const (.int .i64 0))]]) (
 .seq (
 .seq (
 .ops [
 .p 34 .mv [(.tmp 1)],
 .p 35 .len [(.tmp 34)],
 .p 36 (.bin .gtr) [(.tmp 35), (.const (.int .i64 0))]]) (
 .cond (.tmp 36) (
 .dr (
 .one ⟨.p 37 .mv [(.tmp 1)], []⟩ (
 .one ⟨.p 38 (.ixs 1) [(.tmp 37), (.const (.int .i64 0))], []⟩ (
 .one ⟨.ld 39 (.tmp 38), []⟩ (
 .one ⟨.p 41 .mv [(.tmp 7)], []⟩ (
 .one ⟨.p 42 (.bin .add) [(.tmp 41), (.const (.int .i64 1))], []⟩ (
 .one ⟨.p 43 (.conv .u64) [(.tmp 42)], []⟩ (
 .one ⟨.p 46 .mv [(.tmp 1)], []⟩ (
 .one ⟨.p 47 (.sls 1 true false false) [(.tmp 46), (.const (.int .i64 1))], []⟩ (
 .one ⟨.call (some 40) f_disk_distance [(.tmp 39)], []⟩ (
 .one ⟨.p 44 (.bin .rem) [(.tmp 40), (.tmp 43)], []⟩ (
 .one ⟨.p 45 (.conv .i64) [(.tmp 44)], []⟩ (
 .one ⟨.p 8 .mv [(.tmp 45)], []⟩ (
 .one ⟨.p 1 .mv [(.tmp 47)], []⟩ (
 .nil))))))))))))))) (
 .skip))) (
 .seq (
 .ops [
 .p 48 .mv [(.tmp 6)],
 .p 49 .nilc [(.tmp 48)],
 .p 50 (.fad 1) [(.tmp 49)],
 .ld 51 (.tmp 50),
 .p 52 .mv [(.tmp 8)],
 .p 53 (.bin .add) [(.tmp 51), (.tmp 52)],
 .p 54 .nilc [(.tmp 48)],
 .p 55 (.fad 1) [(.tmp 54)],
 .st 1 false (.tmp 55) (.tmp 53)]) (
 .dr (
 .one ⟨.p 56 .mv [(.tmp 6)], []⟩ (
 .one ⟨.p 57 .mv [(.tmp 6)], []⟩ (
 .one ⟨.p 58 .nilc [(.tmp 57)], []⟩ (
 .one ⟨.p 59 (.fad 0) [(.tmp 58)], []⟩ (
 .one ⟨.ld 60 (.tmp 59), []⟩ (
 .one ⟨.p 61 .mv [(.tmp 6)], []⟩ (
 .one ⟨.p 62 .nilc [(.tmp 61)], []⟩ (
 .one ⟨.p 63 (.fad 1) [(.tmp 62)], []⟩ (
 .one ⟨.ld 64 (.tmp 63), []⟩ (
 .one ⟨.p 65 (.sls 1 false true false) [(.tmp 60), (.tmp 64)], []⟩ (
 .one ⟨.p 66 .nilc [(.tmp 56)], []⟩ (
 .one ⟨.p 67 (.fad 0) [(.tmp 66)], []⟩ (
 .one ⟨.st 1 false (.tmp 67) (.tmp 65), []⟩ (
 .nil))))))))))))))))))))))) (
 .ops [
 .p 68 (.bin .add) [(.tmp 12), (.const (.int .i64 1))],
 .p 12 .mv [(.tmp 68)]]))))))⟩

-- 72 (*shardlog/disk.Disk).Names; slots [(0, d), (1, d)]
noncomputable def m_disk_Disk_Names : MF := ⟨9, [.t 2],
 .seq (
 .ops [
 .p 2 .mv [(.const (.slice none 0 0))]]) (
 .seq (
 .ops [
 .p 3 .mv [(.tmp 0)],
 .p 4 .nilc [(.tmp 3)],
 .p 5 (.fad 0) [(.tmp 4)],
 .ld 6 (.tmp 5),
 .call (some 7) f_maps_Keys [(.tmp 6)],
 .call (some 8) f_slices_Sorted [(.tmp 7)],
 .p 2 .mv [(.tmp 8)]]) (
 .ret))⟩

-- 73 shardlog/shardlogref01.Strings; slots [(0, a), (1, b), (2, a), (3, b), (5, i)]
noncomputable def m_ref01_Strings : MF := ⟨26, [.t 4],
 .seq (
 .ops [
 .p 4 .mv [(.const (.bool false))]]) (
 .seq (
 .seq (
 .ops [
 .p 6 .mv [(.tmp 0)],
 .p 7 .len [(.tmp 6)],
 .p 8 .mv [(.tmp 1)],
 .p 9 .len [(.tmp 8)],
 .p 10 (.bin .neq) [(.tmp 7), (.tmp 9)]]) (
 .cond (.tmp 10) (
 .seq (
 .ops [
 .p 4 .mv [(.const (.bool false))]]) (
 .ret)) (
 .skip))) (
 .seq (
 .seq (
 .ops [
 .p 5 .mv [(.const (.int .i64 0))]]) (
 .block 0 (
 .loop (
 .seq (
 .seq (
 .ops [
 .p 11 .mv [(.tmp 5)],
 .p 12 .mv [(.tmp 0)],
 .p 13 .len [(.tmp 12)],
 .p 14 (.bin .lss) [(.tmp 11), (.tmp 13)]]) (
 .cond (.tmp 14) (
 .skip) (
 .exit 0))) (
 .seq (
 .block 1 (
 .seq (
 .dr (
 .one ⟨.p 17 .mv [(.tmp 0)], []⟩ (
 .one ⟨.p 18 .mv [(.tmp 5)], []⟩ (
 .one ⟨.p 19 (.ixs 1) [(.tmp 17), (.tmp 18)], []⟩ (
 .one ⟨.ld 20 (.tmp 19), []⟩ (
 .one ⟨.p 21 .mv [(.tmp 1)], []⟩ (
 .one ⟨.p 22 .mv [(.tmp 5)], []⟩ (
 .one ⟨.p 23 (.ixs 1) [(.tmp 21), (.tmp 22)], []⟩ (
 .one ⟨.ld 24 (.tmp 23), []⟩ (
 .one ⟨.p 25 (.bin .neq) [(.tmp 20), (.tmp 24)], []⟩ (
 .nil))))))))))) (
 .cond (.tmp 25) (
 .seq (
 .ops [
 .p 4 .mv [(.const (.bool false))]]) (
 .ret)) (
 .skip)))) (
 .ops [
 .p 15 .mv [(.tmp 5)],
 .p 16 (.bin .add) [(.tmp 15), (.const (.int .i64 1))],
 .p 5 .mv [(.tmp 16)]])))))) (
 .seq (
 .ops [
 .p 4 .mv [(.const (.bool true))]]) (
 .ret))))⟩

-- 113 (*shardlog/disk.Disk).Delete; slots [(0, d), (1, name), (2, d), (3, name)]
noncomputable def m_disk_Disk_Delete : MF := ⟨17, [.t 4],
 .seq (
 .ops [
 .p 4 .mv [(.const (.int .i64 0))]]) (
 .seq (
 .seq (
 .ops [
 .p 5 .mv [(.tmp 0)],
 .p 6 .nilc [(.tmp 5)],
 .p 7 (.fad 0) [(.tmp 6)],
 .ld 8 (.tmp 7),
 .p 9 .mv [(.tmp 1)],
 .gen (some 10) ⟨(some 10), (.lookup 175 (.tmp 8) (.tmp 9) false), 179, "disk.go:103", #[⟨3, .data⟩, ⟨4, .data⟩], none⟩,
 .p 11 (.isnil .pt false) [(.tmp 10)]]) (
 .cond (.tmp 11) (
 .seq (
 .ops [
 .p 4 .mv [(.const (.int .i64 5))]]) (
 .ret)) (
 .skip))) (
 .seq (
 .ops [
 .p 12 .mv [(.tmp 0)],
 .p 13 .nilc [(.tmp 12)],
 .p 14 (.fad 0) [(.tmp 13)],
 .ld 15 (.tmp 14),
 .p 16 .mv [(.tmp 1)],
 .gen none ⟨none, (.call { callee := .builtin .delete, args := #[(.tmp 15), (.tmp 16)], argTypes := #[175, tStr] }), 0, "disk.go:106", #[⟨3, .data⟩, ⟨4, .data⟩], none⟩]) (
 .seq (
 .ops [
 .p 4 .mv [(.const (.int .i64 0))]]) (
 .ret))))⟩

-- 132 (*shardlog/disk.Disk).Used; slots [(0, d), (1, d), (3, n), (4, _), (5, f)]
noncomputable def m_disk_Disk_Used : MF := ⟨23, [.t 2],
 .seq (
 .ops [
 .p 2 .mv [(.const (.int .i64 0))]]) (
 .seq (
 .ops [
 .p 3 .mv [(.const (.int .i64 0))]]) (
 .seq (
 .seq (
 .ops [
 .p 6 .mv [(.tmp 0)],
 .p 7 .nilc [(.tmp 6)],
 .p 8 (.fad 0) [(.tmp 7)],
 .ld 9 (.tmp 8),
 .gen (some 10) ⟨(some 10), (.range 175 (.tmp 9)), 0, "disk.go:37", #[⟨3, .data⟩], none⟩]) (
 .block 0 (
 .loop (
 .seq (
 .ops [
 .gen (some 11) ⟨(some 11), (.next (.tmp 10) false), 0, "disk.go:37", #[], none⟩,
 .p 12 (.ext 0) [(.tmp 11)]]) (
 .seq (
 .cond (.tmp 12) (
 .skip) (
 .exit 0)) (
 .block 1 (
 .seq (
 .ops [
 .gen (some 13) ⟨(some 13), (.entry (.tmp 10)), 0, "disk.go:37", #[], none⟩,
 .p 14 (.ext 1) [(.tmp 13)],
 .p 5 .mv [(.tmp 14)]]) (
 .ops [
 .p 15 .mv [(.tmp 3)],
 .p 16 .mv [(.tmp 5)],
 .p 17 .nilc [(.tmp 16)],
 .p 18 (.fad 0) [(.tmp 17)],
 .ld 19 (.tmp 18),
 .p 20 .len [(.tmp 19)],
 .p 21 (.bin .add) [(.tmp 15), (.tmp 20)],
 .p 3 .mv [(.tmp 21)]])))))))) (
 .seq (
 .ops [
 .p 22 .mv [(.tmp 3)],
 .p 2 .mv [(.tmp 22)]]) (
 .ret))))⟩

theorem c_disk_Disk_Used : trF Try.prog f_disk_Disk_Used = some m_disk_Disk_Used := by kernel_rfl
-- 133 shardlog/disk.named; slots [(0, s), (1, s)]
noncomputable def m_disk_named : MF := ⟨11, [.t 2],
 .seq (
 .ops [
 .p 2 .mv [(.const (.bool false))]]) (
 .seq (
 .ops [
 .p 3 .mv [(.tmp 0)],
 .p 4 .lens [(.tmp 3)],
 .p 5 (.bin .geq) [(.tmp 4), (.const (.int .i64 1))],
 .p 6 .mv [(.tmp 5)],
 .gd 6 true (some 7) (.p 7 .mv [(.tmp 0)]),
 .gd 6 true (some 8) (.p 8 .lens [(.tmp 7)]),
 .gd 6 true (some 9) (.p 9 (.bin .leq) [(.tmp 8), (.const (.int .i64 24))]),
 .p 10 .pick [(.tmp 6), (.tmp 9), (.const (.bool false))],
 .p 2 .mv [(.tmp 10)]]) (
 .ret))⟩

theorem c_disk_named : trF Try.prog f_disk_named = some m_disk_named := by kernel_rfl
-- 138 (*shardlog/disk.Disk).Rename; slots [(0, d), (1, a), (2, b), (3, d), (4, a), (5, b), (7, f)]
noncomputable def m_disk_Disk_Rename : MF := ⟨35, [.t 6],
 .seq (
 .ops [
 .p 6 .mv [(.const (.int .i64 0))]]) (
 .seq (
 .seq (
 .ops [
 .p 8 .mv [(.tmp 1)],
 .call (some 9) f_disk_named [(.tmp 8)],
 .p 10 .not [(.tmp 9)],
 .p 11 .mv [(.tmp 10)],
 .gd 11 false (some 12) (.p 12 .mv [(.tmp 2)]),
 .gd 11 false (some 13) (.call (some 13) f_disk_named [(.tmp 12)]),
 .gd 11 false (some 14) (.p 14 .not [(.tmp 13)]),
 .p 15 .pick [(.tmp 11), (.const (.bool true)), (.tmp 14)]]) (
 .cond (.tmp 15) (
 .seq (
 .ops [
 .p 6 .mv [(.const (.int .i64 1))]]) (
 .ret)) (
 .skip))) (
 .seq (
 .ops [
 .p 16 .mv [(.tmp 0)],
 .p 17 .nilc [(.tmp 16)],
 .p 18 (.fad 0) [(.tmp 17)],
 .ld 19 (.tmp 18),
 .p 20 .mv [(.tmp 1)],
 .gen (some 21) ⟨(some 21), (.lookup 175 (.tmp 19) (.tmp 20) false), 179, "disk.go:92", #[⟨3, .data⟩, ⟨4, .data⟩], none⟩,
 .p 7 .mv [(.tmp 21)]]) (
 .seq (
 .seq (
 .ops [
 .p 22 .mv [(.tmp 7)],
 .p 23 (.isnil .pt false) [(.tmp 22)]]) (
 .cond (.tmp 23) (
 .seq (
 .ops [
 .p 6 .mv [(.const (.int .i64 5))]]) (
 .ret)) (
 .skip))) (
 .seq (
 .ops [
 .p 24 .mv [(.tmp 0)],
 .p 25 .nilc [(.tmp 24)],
 .p 26 (.fad 0) [(.tmp 25)],
 .ld 27 (.tmp 26),
 .p 28 .mv [(.tmp 1)],
 .gen none ⟨none, (.call { callee := .builtin .delete, args := #[(.tmp 27), (.tmp 28)], argTypes := #[175, tStr] }), 0, "disk.go:96", #[⟨3, .data⟩, ⟨4, .data⟩], none⟩]) (
 .seq (
 .ops [
 .p 29 .mv [(.tmp 0)],
 .p 30 .nilc [(.tmp 29)],
 .p 31 (.fad 0) [(.tmp 30)],
 .ld 32 (.tmp 31),
 .p 33 .mv [(.tmp 2)],
 .p 34 .mv [(.tmp 7)],
 .genu ⟨none, (.mapUpdate 175 (.tmp 32) (.tmp 33) (.tmp 34)), 0, "disk.go:97", #[⟨3, .data⟩, ⟨4, .data⟩, ⟨5, .data⟩, ⟨0, .phase⟩, ⟨1, .phase⟩, ⟨2, .phase⟩, ⟨3, .phase⟩, ⟨4, .phase⟩, ⟨5, .phase⟩], none⟩]) (
 .seq (
 .ops [
 .p 6 .mv [(.const (.int .i64 0))]]) (
 .ret)))))))⟩

-- 139 (*shardlog/disk.Disk).Turn; slots [(0, d), (1, name), (2, at), (3, by), (4, d), (5, name), (6, at), (7, by), (9, f)]
noncomputable def m_disk_Disk_Turn : MF := ⟨41, [.t 8],
 .seq (
 .ops [
 .p 8 .mv [(.const (.int .i64 0))]]) (
 .seq (
 .ops [
 .p 10 .mv [(.tmp 0)],
 .p 11 .nilc [(.tmp 10)],
 .p 12 (.fad 0) [(.tmp 11)],
 .ld 13 (.tmp 12),
 .p 14 .mv [(.tmp 1)],
 .gen (some 15) ⟨(some 15), (.lookup 175 (.tmp 13) (.tmp 14) false), 179, "disk.go:125", #[⟨3, .data⟩, ⟨4, .data⟩], none⟩,
 .p 9 .mv [(.tmp 15)]]) (
 .seq (
 .block 0 (
 .seq (
 .ops [
 .p 17 .mv [(.tmp 9)],
 .p 18 (.isnil .pt false) [(.tmp 17)],
 .p 16 .mv [(.tmp 18)]]) (
 .cond (.tmp 16) (
 .seq (
 .ops [
 .p 8 .mv [(.const (.int .i64 5))]]) (
 .ret)) (
 .seq (
 .ops [
 .p 20 .mv [(.tmp 2)],
 .p 21 (.bin .lss) [(.tmp 20), (.const (.int .i64 0))],
 .p 22 .mv [(.tmp 21)],
 .gd 22 false (some 23) (.p 23 .mv [(.tmp 2)]),
 .gd 22 false (some 24) (.p 24 .mv [(.tmp 9)]),
 .gd 22 false (some 25) (.p 25 .nilc [(.tmp 24)]),
 .gd 22 false (some 26) (.p 26 (.fad 0) [(.tmp 25)]),
 .gd 22 false (some 27) (.ld 27 (.tmp 26)),
 .gd 22 false (some 28) (.p 28 .len [(.tmp 27)]),
 .gd 22 false (some 29) (.p 29 (.bin .geq) [(.tmp 23), (.tmp 28)]),
 .p 30 .pick [(.tmp 22), (.const (.bool true)), (.tmp 29)],
 .p 19 .mv [(.tmp 30)]]) (
 .cond (.tmp 19) (
 .seq (
 .ops [
 .p 8 .mv [(.const (.int .i64 1))]]) (
 .ret)) (
 .skip)))))) (
 .seq (
 .ops [
 .p 31 .mv [(.tmp 9)],
 .p 32 .nilc [(.tmp 31)],
 .p 33 (.fad 0) [(.tmp 32)],
 .ld 34 (.tmp 33),
 .p 35 .mv [(.tmp 2)],
 .p 36 (.ixs 1) [(.tmp 34), (.tmp 35)],
 .ld 37 (.tmp 36),
 .p 38 .mv [(.tmp 3)],
 .p 39 (.bin .xor) [(.tmp 37), (.tmp 38)],
 .p 40 (.ixs 1) [(.tmp 34), (.tmp 35)],
 .st 1 false (.tmp 40) (.tmp 39)]) (
 .seq (
 .ops [
 .p 8 .mv [(.const (.int .i64 0))]]) (
 .ret)))))⟩

-- 140 (*shardlog/disk.Disk).Trim; slots [(0, d), (1, name), (2, n), (3, d), (4, name), (5, n), (7, f)]
noncomputable def m_disk_Disk_Trim : MF := ⟨48, [.t 6],
 .seq (
 .ops [
 .p 6 .mv [(.const (.int .i64 0))]]) (
 .seq (
 .ops [
 .p 8 .mv [(.tmp 0)],
 .p 9 .nilc [(.tmp 8)],
 .p 10 (.fad 0) [(.tmp 9)],
 .ld 11 (.tmp 10),
 .p 12 .mv [(.tmp 1)],
 .gen (some 13) ⟨(some 13), (.lookup 175 (.tmp 11) (.tmp 12) false), 179, "disk.go:112", #[⟨3, .data⟩, ⟨4, .data⟩], none⟩,
 .p 7 .mv [(.tmp 13)]]) (
 .seq (
 .block 0 (
 .seq (
 .ops [
 .p 15 .mv [(.tmp 7)],
 .p 16 (.isnil .pt false) [(.tmp 15)],
 .p 14 .mv [(.tmp 16)]]) (
 .cond (.tmp 14) (
 .seq (
 .ops [
 .p 6 .mv [(.const (.int .i64 5))]]) (
 .ret)) (
 .seq (
 .ops [
 .p 18 .mv [(.tmp 2)],
 .p 19 (.bin .lss) [(.tmp 18), (.const (.int .i64 0))],
 .p 20 .mv [(.tmp 19)],
 .gd 20 false (some 21) (.p 21 .mv [(.tmp 2)]),
 .gd 20 false (some 22) (.p 22 .mv [(.tmp 7)]),
 .gd 20 false (some 23) (.p 23 .nilc [(.tmp 22)]),
 .gd 20 false (some 24) (.p 24 (.fad 0) [(.tmp 23)]),
 .gd 20 false (some 25) (.ld 25 (.tmp 24)),
 .gd 20 false (some 26) (.p 26 .len [(.tmp 25)]),
 .gd 20 false (some 27) (.p 27 (.bin .gtr) [(.tmp 21), (.tmp 26)]),
 .p 28 .pick [(.tmp 20), (.const (.bool true)), (.tmp 27)],
 .p 17 .mv [(.tmp 28)]]) (
 .cond (.tmp 17) (
 .seq (
 .ops [
 .p 6 .mv [(.const (.int .i64 1))]]) (
 .ret)) (
 .skip)))))) (
 .seq (
 .dr (
 .one ⟨.p 29 .mv [(.tmp 7)], []⟩ (
 .one ⟨.p 30 .mv [(.tmp 7)], []⟩ (
 .one ⟨.p 31 .mv [(.tmp 7)], []⟩ (
 .one ⟨.p 32 .nilc [(.tmp 31)], []⟩ (
 .one ⟨.p 33 (.fad 0) [(.tmp 32)], []⟩ (
 .one ⟨.ld 34 (.tmp 33), []⟩ (
 .one ⟨.p 35 .mv [(.tmp 2)], []⟩ (
 .one ⟨.p 36 .mv [(.tmp 2)], []⟩ (
 .one ⟨.p 37 (.sls 1 false true true) [(.tmp 34), (.tmp 35), (.tmp 36)], []⟩ (
 .one ⟨.p 38 .mv [(.tmp 7)], []⟩ (
 .one ⟨.p 39 .nilc [(.tmp 38)], []⟩ (
 .one ⟨.p 40 (.fad 1) [(.tmp 39)], []⟩ (
 .one ⟨.ld 41 (.tmp 40), []⟩ (
 .one ⟨.p 42 .mv [(.tmp 2)], []⟩ (
 .one ⟨.p 43 .min [(.tmp 41), (.tmp 42)], []⟩ (
 .one ⟨.p 44 .nilc [(.tmp 29)], []⟩ (
 .one ⟨.p 45 (.fad 0) [(.tmp 44)], []⟩ (
 .one ⟨.st 1 false (.tmp 45) (.tmp 37), []⟩ (
 .one ⟨.p 46 .nilc [(.tmp 30)], []⟩ (
 .one ⟨.p 47 (.fad 1) [(.tmp 46)], []⟩ (
 .one ⟨.st 1 false (.tmp 47) (.tmp 43), []⟩ (
 .nil))))))))))))))))))))))) (
 .seq (
 .ops [
 .p 6 .mv [(.const (.int .i64 0))]]) (
 .ret)))))⟩

theorem c_disk_Disk_Trim : trF Try.prog f_disk_Disk_Trim = some m_disk_Disk_Trim := by kernel_rfl
-- 141 shardlog/disk.distance; slots [(0, n), (1, n)]
noncomputable def m_disk_distance : MF := ⟨10, [.t 2],
 .seq (
 .ops [
 .p 2 .mv [(.const (.int .u64 0))]]) (
 .seq (
 .seq (
 .ops [
 .p 3 .mv [(.tmp 0)],
 .p 4 (.bin .lss) [(.tmp 3), (.const (.int .i64 0))]]) (
 .cond (.tmp 4) (
 .seq (
 .ops [
 .p 5 .mv [(.tmp 0)],
 .p 6 (.conv .u64) [(.tmp 5)],
 .p 7 .neg [(.tmp 6)],
 .p 2 .mv [(.tmp 7)]]) (
 .ret)) (
 .skip))) (
 .seq (
 .ops [
 .p 8 .mv [(.tmp 0)],
 .p 9 (.conv .u64) [(.tmp 8)],
 .p 2 .mv [(.tmp 9)]]) (
 .ret)))⟩

-- 143 maps.Keys[map[string]*shardlog/disk.file,string,*shardlog/disk.file]; slots [(0, m), (1, m)]
noncomputable def m_maps_Keys : MF := ⟨4, [.t 2],
 .seq (
 .ops [
 .box 1 175 (.tmp 0),
 .p 2 .mv [(.const .nilFunc)]]) (
 .seq (
 .ops [
 .p 3 (.fn (.func f_maps_Keys_1) 0) [(.tmp 1)],
 .p 2 .mv [(.tmp 3)]]) (
 .ret))⟩

end Go.Proofs.Ytgpkbldlkadnjaa
end
section
/- Functions of the program in the small code (printed by wip/tool/Print.lean and mkmf2.py of this repo), each with its equation, held by the kernel. -/
set_option linter.unusedVariables false
namespace Go.Proofs.Ytgpkbldlkadnjaa
open Go Go.Sl
end Go.Proofs.Ytgpkbldlkadnjaa
end
section
/- Functions of the program in the small code (printed by wip/tool/Print.lean and mkmf2.py of this repo), each with its equation, held by the kernel. -/
set_option linter.unusedVariables false
namespace Go.Proofs.Ytgpkbldlkadnjaa
open Go Go.Sl
-- 80 shardlog/shardlogref19.Small; slots [(0, m), (1, m), (3, i)]
noncomputable def m_ref19_Small : MF := ⟨34, [.t 2],
 .seq (
 .ops [
 .box 1 t_api_Msg (.tmp 0),
 .p 2 .mv [(.const (.bool false))]]) (
 .seq (
 .seq (
 .ops [
 .p 3 .mv [(.const (.int .i64 0))]]) (
 .block 0 (
 .loop (
 .seq (
 .seq (
 .ops [
 .p 4 .mv [(.tmp 3)],
 .p 5 (.fad 10) [(.tmp 1)],
 .ld 6 (.tmp 5),
 .p 7 .len [(.tmp 6)],
 .p 8 (.bin .lss) [(.tmp 4), (.tmp 7)],
 .p 9 .mv [(.tmp 8)],
 .gd 9 true (some 10) (.p 10 .mv [(.tmp 3)]),
 .gd 9 true (some 11) (.p 11 (.bin .lss) [(.tmp 10), (.const (.int .i64 100))]),
 .p 12 .pick [(.tmp 9), (.tmp 11), (.const (.bool false))]]) (
 .cond (.tmp 12) (
 .skip) (
 .exit 0))) (
 .seq (
 .block 1 (
 .seq (
 .ops [
 .p 15 (.fad 10) [(.tmp 1)],
 .ld 16 (.tmp 15),
 .p 17 .mv [(.tmp 3)],
 .p 18 (.ixs 5) [(.tmp 16), (.tmp 17)],
 .p 19 (.fad 4) [(.tmp 18)],
 .ld 20 (.tmp 19),
 .p 21 .lens [(.tmp 20)],
 .p 22 (.bin .gtr) [(.tmp 21), (.const (.int .i64 600))]]) (
 .cond (.tmp 22) (
 .seq (
 .ops [
 .p 2 .mv [(.const (.bool false))]]) (
 .ret)) (
 .skip)))) (
 .ops [
 .p 13 .mv [(.tmp 3)],
 .p 14 (.bin .add) [(.tmp 13), (.const (.int .i64 1))],
 .p 3 .mv [(.tmp 14)]])))))) (
 .seq (
 .ops [
 .p 23 (.fad 10) [(.tmp 1)],
 .ld 24 (.tmp 23),
 .p 25 .len [(.tmp 24)],
 .p 26 (.bin .leq) [(.tmp 25), (.const (.int .i64 70))],
 .p 27 .mv [(.tmp 26)],
 .gd 27 true (some 28) (.p 28 (.fad 5) [(.tmp 1)]),
 .gd 27 true (some 29) (.p 29 (.fad 4) [(.tmp 28)]),
 .gd 27 true (some 30) (.ld 30 (.tmp 29)),
 .gd 27 true (some 31) (.p 31 .lens [(.tmp 30)]),
 .gd 27 true (some 32) (.p 32 (.bin .leq) [(.tmp 31), (.const (.int .i64 1000))]),
 .p 33 .pick [(.tmp 27), (.tmp 32), (.const (.bool false))],
 .p 2 .mv [(.tmp 33)]]) (
 .ret)))⟩

theorem c_ref19_Small : trF Try.prog f_ref19_Small = some m_ref19_Small := by kernel_rfl
-- 81 shardlog/shardlogref19.Same; slots [(0, a), (1, b), (2, a), (3, b)]
noncomputable def m_ref19_Same : MF := ⟨52, [.t 4],
 .seq (
 .ops [
 .box 2 t_api_Msg (.tmp 0),
 .box 3 t_api_Msg (.tmp 1),
 .p 4 .mv [(.const (.bool false))]]) (
 .seq (
 .ops [
 .p 5 (.fad 0) [(.tmp 2)],
 .ld 6 (.tmp 5),
 .p 7 (.fad 0) [(.tmp 3)],
 .ld 8 (.tmp 7),
 .p 9 (.bin .eql) [(.tmp 6), (.tmp 8)],
 .p 10 .mv [(.tmp 9)],
 .gd 10 true (some 11) (.p 11 (.fad 1) [(.tmp 2)]),
 .gd 10 true (some 12) (.ld 12 (.tmp 11)),
 .gd 10 true (some 13) (.p 13 (.fad 1) [(.tmp 3)]),
 .gd 10 true (some 14) (.ld 14 (.tmp 13)),
 .gd 10 true (some 15) (.p 15 (.bin .eql) [(.tmp 12), (.tmp 14)]),
 .p 16 .pick [(.tmp 10), (.tmp 15), (.const (.bool false))],
 .p 17 .mv [(.tmp 16)],
 .gd 17 true (some 18) (.p 18 (.fad 2) [(.tmp 2)]),
 .gd 17 true (some 19) (.ld 19 (.tmp 18)),
 .gd 17 true (some 20) (.p 20 (.fad 2) [(.tmp 3)]),
 .gd 17 true (some 21) (.ld 21 (.tmp 20)),
 .gd 17 true (some 22) (.p 22 (.bin .eql) [(.tmp 19), (.tmp 21)]),
 .p 23 .pick [(.tmp 17), (.tmp 22), (.const (.bool false))],
 .p 24 .mv [(.tmp 23)],
 .gd 24 true (some 25) (.p 25 (.fad 3) [(.tmp 2)]),
 .gd 24 true (some 26) (.ld 26 (.tmp 25)),
 .gd 24 true (some 27) (.p 27 (.fad 3) [(.tmp 3)]),
 .gd 24 true (some 28) (.ld 28 (.tmp 27)),
 .gd 24 true (some 29) (.p 29 (.bin .eql) [(.tmp 26), (.tmp 28)]),
 .p 30 .pick [(.tmp 24), (.tmp 29), (.const (.bool false))],
 .p 31 .mv [(.tmp 30)],
 .gd 31 true (some 32) (.p 32 (.fad 4) [(.tmp 2)]),
 .gd 31 true (some 33) (.ld 33 (.tmp 32)),
 .gd 31 true (some 34) (.p 34 (.fad 4) [(.tmp 3)]),
 .gd 31 true (some 35) (.ld 35 (.tmp 34)),
 .gd 31 true (some 36) (.p 36 (.bin .eql) [(.tmp 33), (.tmp 35)]),
 .p 37 .pick [(.tmp 31), (.tmp 36), (.const (.bool false))],
 .p 38 .mv [(.tmp 37)],
 .gd 38 true (some 39) (.p 39 (.fad 5) [(.tmp 2)]),
 .gd 38 true (some 40) (.ldn 40 5 (.tmp 39)),
 .gd 38 true (some 41) (.p 41 (.fad 5) [(.tmp 3)]),
 .gd 38 true (some 42) (.ldn 42 5 (.tmp 41)),
 .gd 38 true (some 43) (.gen (some 43) ⟨(some 43), (.binOp .eql t_api_Vote (.tmp 40) (.tmp 42) t_api_Vote), tBool, "ref.go:48", #[⟨35, .data⟩, ⟨37, .data⟩, ⟨33, .guard⟩], (some (33, true))⟩),
 .p 44 .pick [(.tmp 38), (.tmp 43), (.const (.bool false))],
 .p 45 .mv [(.tmp 44)],
 .gd 45 true (some 46) (.p 46 (.fad 10) [(.tmp 2)]),
 .gd 45 true (some 47) (.ld 47 (.tmp 46)),
 .gd 45 true (some 48) (.p 48 (.fad 10) [(.tmp 3)]),
 .gd 45 true (some 49) (.ld 49 (.tmp 48)),
 .gd 45 true (some 50) (.call (some 50) f_ref17_Same [(.tmp 47), (.tmp 49)]),
 .p 51 .pick [(.tmp 45), (.tmp 50), (.const (.bool false))],
 .p 4 .mv [(.tmp 51)]]) (
 .ret))⟩

theorem c_ref19_Same : trF Try.prog f_ref19_Same = some m_ref19_Same := by kernel_rfl
-- 92 shardlog/shardlogref17.Same; slots [(0, a), (1, b), (2, a), (3, b), (5, i)]
noncomputable def m_ref17_Same : MF := ⟨26, [.t 4],
 .seq (
 .ops [
 .p 4 .mv [(.const (.bool false))]]) (
 .seq (
 .seq (
 .ops [
 .p 6 .mv [(.tmp 0)],
 .p 7 .len [(.tmp 6)],
 .p 8 .mv [(.tmp 1)],
 .p 9 .len [(.tmp 8)],
 .p 10 (.bin .neq) [(.tmp 7), (.tmp 9)]]) (
 .cond (.tmp 10) (
 .seq (
 .ops [
 .p 4 .mv [(.const (.bool false))]]) (
 .ret)) (
 .skip))) (
 .seq (
 .seq (
 .ops [
 .p 5 .mv [(.const (.int .i64 0))]]) (
 .block 0 (
 .loop (
 .seq (
 .seq (
 .ops [
 .p 11 .mv [(.tmp 5)],
 .p 12 .mv [(.tmp 0)],
 .p 13 .len [(.tmp 12)],
 .p 14 (.bin .lss) [(.tmp 11), (.tmp 13)]]) (
 .cond (.tmp 14) (
 .skip) (
 .exit 0))) (
 .seq (
 .block 1 (
 .seq (
 .dr (
 .one ⟨.p 17 .mv [(.tmp 0)], []⟩ (
 .one ⟨.p 18 .mv [(.tmp 5)], []⟩ (
 .one ⟨.p 19 (.ixs 5) [(.tmp 17), (.tmp 18)], []⟩ (
 .one ⟨.ldn 20 5 (.tmp 19), []⟩ (
 .one ⟨.p 21 .mv [(.tmp 1)], []⟩ (
 .one ⟨.p 22 .mv [(.tmp 5)], []⟩ (
 .one ⟨.p 23 (.ixs 5) [(.tmp 21), (.tmp 22)], []⟩ (
 .one ⟨.ldn 24 5 (.tmp 23), []⟩ (
 .one ⟨.gen (some 25) ⟨(some 25), (.binOp .neq t_api_Vote (.tmp 20) (.tmp 24) t_api_Vote), tBool, "ref.go:55", #[⟨3, .data⟩, ⟨7, .data⟩], none⟩, []⟩ (
 .nil))))))))))) (
 .cond (.tmp 25) (
 .seq (
 .ops [
 .p 4 .mv [(.const (.bool false))]]) (
 .ret)) (
 .skip)))) (
 .ops [
 .p 15 .mv [(.tmp 5)],
 .p 16 (.bin .add) [(.tmp 15), (.const (.int .i64 1))],
 .p 5 .mv [(.tmp 16)]])))))) (
 .seq (
 .ops [
 .p 4 .mv [(.const (.bool true))]]) (
 .ret))))⟩

theorem c_ref17_Same : trF Try.prog f_ref17_Same = some m_ref17_Same := by kernel_rfl
end Go.Proofs.Ytgpkbldlkadnjaa
end
section
/- Element types of this program's slices; bodies of the functions that are taken as values. -/
set_option linter.unusedVariables false
set_option linter.unusedSimpArgs false
namespace Go.Sl
open Go.RowKit
theorem El.of {P : Program} {t e : TypeId} {s bytes : Nat} {z : Value} (h1 : P.underlying t = some (.slice e)) (h2 : (P.info? e).map (fun i => (i.zero, i.size, i.bytes)) = some (some z, s, bytes)) (h3 : z.cells.size = s) (h4 : 0 < s) : El P t e s bytes z := by
  refine ⟨h1, ?_, h3, h4⟩
  cases hi : P.info? e with
  | none => rw [hi] at h2; cases h2
  | some i =>
    rw [hi] at h2
    simp only [Option.map_some, Option.some.injEq, Prod.mk.injEq] at h2
    exact ⟨i, rfl, h2.1, h2.2.1, h2.2.2⟩
end Go.Sl
namespace Go.Proofs.Ytgpkbldlkadnjaa
open Go Go.Sl
theorem elB : El Try.prog 29 5 1 1 (.int .u8 0) := El.of (by kernel_rfl) (by kernel_rfl) rfl (by decide)
theorem elM : El Try.prog 22 29 1 24 (.slice none 0 0) := El.of (by kernel_rfl) (by kernel_rfl) rfl (by decide)
end Go.Proofs.Ytgpkbldlkadnjaa
end
section
/- Plain: the field's tables. -/
set_option linter.unusedVariables false
set_option linter.unusedSimpArgs false
namespace Go.Proofs.Ytgpkbldlkadnjaa
open Go Go.Sl

def stepX (x : Nat) : Nat := if 255 < 2 * x then (2 * x) ^^^ 285 else 2 * x
/-- the tables behind so many rounds: powers, exponents, the next power -/
def gfTab : Nat → List Nat × List Nat × Nat
  | 0 => (List.replicate 255 0, List.replicate 256 0, 1)
  | i + 1 => ((gfTab i).1.set i (gfTab i).2.2, (gfTab i).2.1.set (gfTab i).2.2 i, stepX (gfTab i).2.2)
theorem stepX_all : (List.range 256).all (fun x => decide (stepX x < 256)) = true := by decide +kernel
theorem stepX_lt (x : Nat) (h : x < 256) : stepX x < 256 := by
  have := List.all_eq_true.1 stepX_all x (List.mem_range.2 h)
  simpa using this
theorem gfTab_len : ∀ i, (gfTab i).1.length = 255 ∧ (gfTab i).2.1.length = 256
  | 0 => ⟨List.length_replicate, List.length_replicate⟩
  | i + 1 => by
    have := gfTab_len i
    exact ⟨by rw [gfTab, List.length_set]; exact this.1, by rw [gfTab, List.length_set]; exact this.2⟩
def VB (n : Nat) : Value := .int .u8 n
def VI (n : Nat) : Value := .int .i64 n
def gfCells (i : Nat) : List Value := (gfTab i).1.map VB ++ (gfTab i).2.1.map VI
/-- the field lies in block b -/
def FieldAt (w : World) (b : Nat) : Prop := ∃ e, w.heap[b]? = some (.cells (gfCells 255).toArray e (0, 0))
theorem FieldAt.fr {w w' : World} {M : Nat → Prop} {b : Nat} (h : FieldAt w b) (hf : Fr M w w') (hM : ¬ M b) : FieldAt w' b := by
  obtain ⟨e, h⟩ := h
  exact ⟨e, by rw [hf.same b (Array.getElem?_eq_some_iff.1 h).1 hM]; exact h⟩
theorem FieldAt.lt {w : World} {b : Nat} (h : FieldAt w b) : b < w.heap.size := by
  obtain ⟨e, h⟩ := h
  exact (Array.getElem?_eq_some_iff.1 h).1
def gexp (i : Nat) : Nat := (gfTab 255).1.getD i 0
def glog (a : Nat) : Nat := (gfTab 255).2.1.getD a 0
theorem FieldAt.log {w : World} {b : Nat} (h : FieldAt w b) {a : Nat} (ha : a < 256) : w.cell? ⟨b, 255 + a, none⟩ = some (VI (glog a)) := by
  obtain ⟨e, h⟩ := h
  have h1 := gfTab_len 255
  simp only [World.cell?, h, Option.isSome_none, Bool.false_eq_true, if_false, gfCells, glog, List.getElem?_toArray]
  rw [List.getElem?_append_right (by simp [h1])]
  simp only [List.length_map, h1.1, Nat.add_sub_cancel_left, List.getElem?_map, List.getD_eq_getElem?_getD, List.getElem?_eq_getElem (show a < (gfTab 255).2.1.length by omega)]
  rfl
theorem tab_bounds : (gfTab 255).1.all (fun n => decide (n < 256)) = true ∧ (gfTab 255).2.1.all (fun n => decide (n < 255)) = true := by decide +kernel
theorem gexp_lt (i : Nat) : gexp i < 256 := by
  unfold gexp
  rw [List.getD_eq_getElem?_getD]
  cases h : (gfTab 255).1[i]? with
  | none => simp
  | some n => have := List.all_eq_true.1 tab_bounds.1 n (List.mem_of_getElem? h); simpa using this
theorem glog_lt (a : Nat) : glog a < 255 := by
  unfold glog
  rw [List.getD_eq_getElem?_getD]
  cases h : (gfTab 255).2.1[a]? with
  | none => simp
  | some n => have := List.all_eq_true.1 tab_bounds.2 n (List.mem_of_getElem? h); simpa using this
/-- product and contrary, by the tables -/
def gmul (a b : UInt8) : UInt8 := if a = 0 ∨ b = 0 then 0 else UInt8.ofNat (gexp ((glog a.toNat + glog b.toNat) % 255))
def ginv (a : UInt8) : UInt8 := if a = 0 then 0 else UInt8.ofNat (gexp ((255 - glog a.toNat) % 255))
end Go.Proofs.Ytgpkbldlkadnjaa
end
section
/- Walks: the field. -/
set_option linter.unusedVariables false
set_option linter.unusedSimpArgs false
namespace Go.Proofs.Ytgpkbldlkadnjaa
open Go Go.Sl Go.RowKit

theorem u8_zero (x : UInt8) : x.toNat = 0 ↔ x = 0 := ⟨fun h => UInt8.toNat_inj.1 h, fun h => by rw [h]; rfl⟩
end Go.Proofs.Ytgpkbldlkadnjaa
end
section
/- Walks: rows of products, copies. -/
set_option linter.unusedVariables false
set_option linter.unusedSimpArgs false
namespace Go.Sl
/-- the row begins in new memory -/
def New' (B : Nat) (v : Value) : Prop := ∀ b, v.ownBlock = some b → B ≤ b
theorem New'.nil (B : Nat) : New' B (.slice none 0 0) := fun b h => by cases h
theorem New'.mono {B B' : Nat} {v : Value} (h : New' B v) (hb : B' ≤ B) : New' B' v := fun b hh => Nat.le_trans hb (h b hh)
theorem New'.app {B : Nat} {v v' : Value} {s s' : Nat} (h : New' B v) (hs : B ≤ s) (hat : v'.ownBlock = v.ownBlock ∨ ∃ b, v'.ownBlock = some b ∧ s ≤ b ∧ b < s') : New' B v' := by
  intro b hb
  rcases hat with hat | ⟨c, hc, h1, _⟩
  · exact h b (hat ▸ hb)
  · rw [hc] at hb; cases hb; omega
/-- what a new row's write leaves -/
theorem Fr.own {w w1 w2 : World} {v : Value} {M : Nat → Prop} (h : Fr M w w1) (hv : New' w.heap.size v) (k : Fr (fun b => v.ownBlock = some b) w1 w2) : Fr M w w2 :=
  h.step k fun b hb hM => absurd (hv b hM) (by omega)
end Go.Sl
namespace Go.Proofs.Ytgpkbldlkadnjaa
open Go Go.Sl Go.RowKit

/-- a new row of bytes -/
def NewRow (B : Nat) (w : World) (r : Value) (xs : List UInt8) : Prop := Ow w 5 1 r xs.length (xs.map U8) ∧ New' B r

end Go.Proofs.Ytgpkbldlkadnjaa
end
section
/- Words on matrices that are owned: a row of rows. -/
set_option linter.unusedVariables false
set_option linter.unusedSimpArgs false
namespace Go.Proofs.Ytgpkbldlkadnjaa
open Go Go.Sl Go.RowKit

/-- a matrix in memory of one's own: its spine r, the values of its rows -/
structure OM (w : World) (r : Value) (vs : List Value) (m : List (List UInt8)) : Prop where
  len : vs.length = m.length
  spine : Ow w 29 1 r m.length vs
  row : ∀ (j : Nat) (u : Value) (x : List UInt8), vs[j]? = some u → m[j]? = some x → Ow w 5 1 u x.length (x.map U8)
/-- the blocks that it takes -/
def Has (r : Value) (vs : List Value) (b : Nat) : Prop := r.ownBlock = some b ∨ ∃ (j : Nat) (u : Value), vs[j]? = some u ∧ u.ownBlock = some b
/-- no two of them the same -/
structure Dis (r : Value) (vs : List Value) : Prop where
  spine : ∀ (j : Nat) (u : Value) (b : Nat), vs[j]? = some u → u.ownBlock = some b → r.ownBlock ≠ some b
  rows : ∀ (i j : Nat) (u v : Value) (b : Nat), i ≠ j → vs[i]? = some u → vs[j]? = some v → u.ownBlock = some b → v.ownBlock ≠ some b

theorem OM.nil (w : World) : OM w (.slice none 0 0) [] [] := ⟨rfl, Ow.nil w 29 1, fun j u x h => by simp at h⟩
theorem Dis.nil (r : Value) : Dis r [] := ⟨fun j u b h => by simp at h, fun i j u v b _ h => by simp at h⟩
theorem Has.nil (b : Nat) : ¬ Has (.slice none 0 0) [] b := by
  rintro (h | ⟨j, u, h, _⟩)
  · cases h
  · simp at h
theorem OM.fr {w w' : World} {M : Nat → Prop} {r : Value} {vs : List Value} {m : List (List UInt8)} (h : OM w r vs m) (hf : Fr M w w') (hM : ∀ b, Has r vs b → ¬ M b) : OM w' r vs m :=
  ⟨h.len, h.spine.fr hf fun b hb => hM b (.inl hb), fun j u x hu hx => (h.row j u x hu hx).fr hf fun b hb => hM b (.inr ⟨j, u, hu, hb⟩)⟩
theorem OM.no {w w' : World} {r : Value} {vs : List Value} {m : List (List UInt8)} (h : OM w r vs m) (hf : Fr No w w') : OM w' r vs m := h.fr hf fun _ _ h => h
theorem OM.lt {w : World} {r : Value} {vs : List Value} {m : List (List UInt8)} (h : OM w r vs m) {b : Nat} (hb : Has r vs b) : b < w.heap.size := by
  rcases hb with hb | ⟨j, u, hu, hb⟩
  · exact h.spine.lt hb
  · have : j < m.length := by have := (List.getElem?_eq_some_iff.1 hu).1; rw [h.len] at this; exact this
    exact (h.row j u m[j] hu (List.getElem?_eq_getElem this)).lt hb
/-- as a matrix that is read -/
theorem OM.ms {w : World} {r : Value} {vs : List Value} {m : List (List UInt8)} (h : OM w r vs m) {B : Nat} (hB : ∀ b, Has r vs b → b < B) : MS w B r m := by
  refine ⟨vs, ?_, h.len, fun j u x hu hx => (h.row j u x hu hx).bs fun b hb => hB b (.inr ⟨j, u, hu, hb⟩)⟩
  have := h.spine
  rw [← h.len] at this
  exact this.rs fun b hb => hB b (.inl hb)
/-- a row more -/
theorem OM.push {w w1 w2 : World} {r r' u : Value} {vs : List Value} {m : List (List UInt8)} {x : List UInt8} (h : OM w r vs m) (hf : Fr (fun b => r.ownBlock = some b) w w1) (hsp : Ow w1 29 1 r' (m.length + 1) (vs ++ [u]))
    (hu : Ow w 5 1 u x.length (x.map U8)) (hd : Dis r vs) (hu1 : ∀ b, u.ownBlock = some b → r.ownBlock ≠ some b) : OM w1 r' (vs ++ [u]) (m ++ [x]) := by
  refine ⟨by simp [h.len], by simpa using hsp, fun j v y hv hy => ?_⟩
  by_cases hj : j < m.length
  · rw [List.getElem?_append_left (by rw [h.len]; exact hj)] at hv
    rw [List.getElem?_append_left hj] at hy
    exact (h.row j v y hv hy).fr hf fun b hb hM => hd.spine j v b hv hb hM
  · rw [List.getElem?_append_right (by rw [h.len]; omega)] at hv
    rw [List.getElem?_append_right (by omega)] at hy
    rw [h.len] at hv
    cases hk : j - m.length with
    | zero =>
      rw [hk] at hv hy
      simp only [List.getElem?_cons_zero, Option.some.injEq] at hv hy
      subst hv
      subst hy
      exact hu.fr hf fun b hb hM => hu1 b hb hM
    | succ k => rw [hk] at hv; simp at hv
theorem Dis.push {r r' u : Value} {vs : List Value} (hd : Dis r vs) (hr : ∀ b, r'.ownBlock = some b → (¬ ∃ (j : Nat) (v : Value), vs[j]? = some v ∧ v.ownBlock = some b) ∧ u.ownBlock ≠ some b)
    (hu : ∀ b, u.ownBlock = some b → ¬ ∃ (j : Nat) (v : Value), vs[j]? = some v ∧ v.ownBlock = some b) : Dis r' (vs ++ [u]) := by
  have key : ∀ j v, (vs ++ [u])[j]? = some v → vs[j]? = some v ∨ (j = vs.length ∧ v = u) := by
    intro j v hv
    by_cases hj : j < vs.length
    · rw [List.getElem?_append_left hj] at hv; exact .inl hv
    · rw [List.getElem?_append_right (by omega)] at hv
      cases hk : j - vs.length with
      | zero => rw [hk] at hv; simp at hv; exact .inr ⟨by omega, hv.symm⟩
      | succ k => rw [hk] at hv; simp at hv
  refine ⟨fun j v b hv hb hrb => ?_, fun i j v v' b hij hv hv' hb hb' => ?_⟩
  · rcases key j v hv with h | ⟨_, rfl⟩
    · exact (hr b hrb).1 ⟨j, v, h, hb⟩
    · exact (hr b hrb).2 hb
  · rcases key i v hv with h | ⟨e, rfl⟩ <;> rcases key j v' hv' with h' | ⟨e', rfl⟩
    · exact hd.rows i j v v' b hij h h' hb hb'
    · exact hu b hb' ⟨i, v, h, hb⟩
    · exact hu b hb ⟨j, v', h', hb'⟩
    · omega
/-- new memory alone -/
def NewM (B : Nat) (r : Value) (vs : List Value) : Prop := ∀ b, Has r vs b → B ≤ b
/-- a new matrix -/
def NewMat (B : Nat) (w : World) (r : Value) (m : List (List UInt8)) : Prop := ∃ vs, OM w r vs m ∧ Dis r vs ∧ NewM B r vs
theorem NewMat.nil (B : Nat) (w : World) : NewMat B w (.slice none 0 0) [] := ⟨[], OM.nil w, Dis.nil _, fun b h => absurd h (Has.nil b)⟩
theorem NewMat.no {B : Nat} {w w' : World} {r : Value} {m : List (List UInt8)} (h : NewMat B w r m) (hf : Fr No w w') : NewMat B w' r m := by
  obtain ⟨vs, h1, h2, h3⟩ := h
  exact ⟨vs, h1.no hf, h2, h3⟩
theorem NewMat.ms {B : Nat} {w : World} {r : Value} {m : List (List UInt8)} (h : NewMat B w r m) : MS w w.heap.size r m := by
  obtain ⟨vs, h1, h2, h3⟩ := h
  exact h1.ms fun b hb => h1.lt hb

end Go.Proofs.Ytgpkbldlkadnjaa
end
section
/- Walks: matrix.plus. -/
set_option linter.unusedVariables false
set_option linter.unusedSimpArgs false
namespace Go.Proofs.Ytgpkbldlkadnjaa
open Go Go.Sl Go.RowKit

/-- turned by one another, place by place -/
def xorL : List UInt8 → List UInt8 → List UInt8
  | a :: xs, b :: ys => (a ^^^ b) :: xorL xs ys
  | xs, _ => xs

theorem xorL_length : ∀ (xs ys : List UInt8), (xorL xs ys).length = xs.length
  | [], _ => by cases ‹List UInt8› <;> rfl
  | _ :: _, [] => rfl
  | x :: xs, y :: ys => by simp [xorL, xorL_length xs ys]
/-- bytes that are read, none of them in block g -/
def BN (w : World) (g : Nat) (v : Value) (xs : List UInt8) : Prop := ∃ A c, v = .slice A xs.length c ∧ ∀ j (hj : j < xs.length), ∃ ad, A = some ad ∧ ad.block ≠ g ∧ w.cell? (ad.add j) = some (U8 xs[j])
end Go.Proofs.Ytgpkbldlkadnjaa
end
section
/- Walks: copied, Rows, Mul, Coding. -/
set_option linter.unusedVariables false
set_option linter.unusedSimpArgs false
namespace Go.Proofs.Ytgpkbldlkadnjaa
open Go Go.Sl Go.RowKit

theorem NewRow.no {B : Nat} {w w' : World} {r : Value} {xs : List UInt8} (h : NewRow B w r xs) (hf : Fr No w w') : NewRow B w' r xs := ⟨h.1.no hf, h.2⟩
theorem NewRow.bs {B : Nat} {w : World} {r : Value} {xs : List UInt8} (h : NewRow B w r xs) : BS w w.heap.size r xs := h.1.bs fun b hb => h.1.lt hb

end Go.Proofs.Ytgpkbldlkadnjaa
end
section
/- Walks: Rows. -/
set_option linter.unusedVariables false
set_option linter.unusedSimpArgs false
set_option maxHeartbeats 3000000
attribute [local irreducible] Go.Sl.Chk Go.Sl.Br Go.Sl.Ld Go.Sl.Ldn Go.Sl.LdB Go.Sl.Stn Go.Sl.New Go.Sl.Run Go.Sl.RunU Go.Sl.RunX Go.Sl.Call Go.Sl.LoopK Go.Sl.RawK Go.Sl.Alt Go.Sl.ev Go.Sl.eget
namespace Go.Proofs.Ytgpkbldlkadnjaa
open Go Go.Sl Go.RowKit

def inR (m : List (List UInt8)) (i : Int) : Bool := decide (0 ≤ i) && decide (i < m.length)
def rowAt (m : List (List UInt8)) (i : Int) : List UInt8 := m.getD i.toNat []
def pick (m : List (List UInt8)) (at' : List Int) : List (List UInt8) := if at'.all (inR m) then at'.map (rowAt m) else []
def VL (n : Int) : Value := .int .i64 n

end Go.Proofs.Ytgpkbldlkadnjaa
end
section
/- Walks: Coding, One. -/
set_option linter.unusedVariables false
set_option linter.unusedSimpArgs false
set_option maxHeartbeats 3000000
attribute [local irreducible] Go.Sl.Chk Go.Sl.Br Go.Sl.Ld Go.Sl.Ldn Go.Sl.LdB Go.Sl.Stn Go.Sl.New Go.Sl.Run Go.Sl.RunU Go.Sl.RunX Go.Sl.Call Go.Sl.LoopK Go.Sl.RawK Go.Sl.Alt Go.Sl.ev Go.Sl.eget
namespace Go.Proofs.Ytgpkbldlkadnjaa
open Go Go.Sl Go.RowKit

theorem NewMat.mono {B B' : Nat} {w : World} {r : Value} {m : List (List UInt8)} (h : NewMat B w r m) (hB : B' ≤ B) : NewMat B' w r m := by
  obtain ⟨vs, h1, h2, h3⟩ := h
  exact ⟨vs, h1, h2, fun b hb => Nat.le_trans hB (h3 b hb)⟩

/-! ### Coding -/
def codeAt (k i j : Nat) : UInt8 := if k ≤ i then ginv (UInt8.ofNat (i ^^^ j)) else if i = j then 1 else 0
def codeRow (k i : Nat) : List UInt8 := (List.range k).map (codeAt k i)
def coding (k n : Nat) : List (List UInt8) := (List.range n).map (codeRow k)
def part (f : Nat → UInt8) (k j : Nat) : List UInt8 := (List.range k).map fun x => if x < j then f x else 0
end Go.Proofs.Ytgpkbldlkadnjaa
end
section
/- Walks: Mul. -/
set_option linter.unusedVariables false
set_option linter.unusedSimpArgs false
set_option maxHeartbeats 3000000
attribute [local irreducible] Go.Sl.Chk Go.Sl.Br Go.Sl.Ld Go.Sl.Ldn Go.Sl.LdB Go.Sl.Stn Go.Sl.New Go.Sl.Run Go.Sl.RunU Go.Sl.RunX Go.Sl.Call Go.Sl.LoopK Go.Sl.RawK Go.Sl.Alt Go.Sl.ev Go.Sl.eget
namespace Go.Proofs.Ytgpkbldlkadnjaa
open Go Go.Sl Go.RowKit

abbrev LL := List (List UInt8)
def rowAcc (b : List (List UInt8)) (r : List UInt8) (wd : Nat) : Nat → List UInt8
  | 0 => List.replicate wd 0
  | k + 1 => xorL (rowAcc b r wd k) ((b.getD k []).map (gmul (r.getD k 0)))
def width (m : List (List UInt8)) : Nat := (m.getD 0 []).length
def mulM (a b : List (List UInt8)) : List (List UInt8) := if width a = b.length then a.map (fun r => rowAcc b r (width b) r.length) else []
structure RightM (m : List (List UInt8)) : Prop where
  pos : 0 < m.length
  wide : 0 < width m
  all : ∀ x ∈ m, x.length = width m
structure Small (m : List (List UInt8)) : Prop where
  high : m.length ≤ 1000
  wide : ∀ x ∈ m, x.length ≤ 1000
theorem getD_of_lt {α : Type} {l : List α} {k : Nat} (d : α) (h : k < l.length) : l.getD k d = l[k] := by
  rw [List.getD_eq_getElem?_getD, List.getElem?_eq_getElem h]; rfl

end Go.Proofs.Ytgpkbldlkadnjaa
end
section
/- Two matrices of one's own, side by side: their rows swapped, replaced, turned. -/
set_option linter.unusedVariables false
set_option linter.unusedSimpArgs false
set_option maxHeartbeats 3000000
attribute [local irreducible] Go.Sl.Chk Go.Sl.Br Go.Sl.Ld Go.Sl.Ldn Go.Sl.LdB Go.Sl.Stn Go.Sl.New Go.Sl.Run Go.Sl.RunU Go.Sl.RunX Go.Sl.Call Go.Sl.LoopK Go.Sl.RawK Go.Sl.Alt Go.Sl.ev Go.Sl.eget
namespace Go.Proofs.Ytgpkbldlkadnjaa
open Go Go.Sl Go.RowKit

/-- the places c and i swapped -/
def sig (c i j : Nat) : Nat := if j = i then c else if j = c then i else j
def swp {α : Type} (d : α) (l : List α) (c i : Nat) : List α := (l.set c (l.getD i d)).set i (l.getD c d)
theorem swp_length {α : Type} (d : α) (l : List α) (c i : Nat) : (swp d l c i).length = l.length := by simp [swp]
theorem swp_get {α : Type} (d : α) {l : List α} {c i : Nat} (hc : c < l.length) (hi : i < l.length) (j : Nat) : (swp d l c i)[j]? = l[sig c i j]? := by
  unfold swp sig
  rw [getD_of_lt d hc, getD_of_lt d hi]
  rw [List.getElem?_set, List.length_set]
  by_cases h1 : i = j
  · subst h1; rw [if_pos rfl, if_pos hi, if_pos rfl, List.getElem?_eq_getElem hc]
  · rw [if_neg h1, if_neg (fun e => h1 e.symm), List.getElem?_set]
    by_cases h2 : c = j
    · subst h2; rw [if_pos rfl, if_pos hc, if_pos rfl, List.getElem?_eq_getElem hi]
    · rw [if_neg h2, if_neg (fun e => h2 e.symm)]
theorem sig_inj {c i j k : Nat} (h : sig c i j = sig c i k) : j = k := by
  unfold sig at h
  split at h <;> split at h <;> (try split at h) <;> (try split at h) <;> omega
theorem sig_lt {c i j n : Nat} (hc : c < n) (hi : i < n) (hj : j < n) : sig c i j < n := by
  unfold sig; split; exact hc; split; exact hi; exact hj

theorem OM.at {w : World} {r : Value} {vs : List Value} {m : List (List UInt8)} (h : OM w r vs m) {j : Nat} (hj : j < m.length) : ∃ u, vs[j]? = some u ∧ Ow w 5 1 u m[j].length (m[j].map U8) ∧
    ∃ g cap, r = .slice (some ⟨g, 0, none⟩) m.length cap ∧ w.cell? ⟨g, j, none⟩ = some u := by
  have hv : vs[j]? = some (vs[j]'(by rw [h.len]; exact hj)) := List.getElem?_eq_getElem _
  refine ⟨_, hv, h.row j _ _ hv (List.getElem?_eq_getElem hj), ?_⟩
  rcases h.spine.form with ⟨_, hn, _⟩ | ⟨g, cap, cur, rfl, _⟩
  · omega
  · exact ⟨g, cap, rfl, h.spine.cellAt hv⟩
theorem OM.at' {w : World} {g k cap : Nat} {vs : List Value} {m : List (List UInt8)} (h : OM w (.slice (some ⟨g, 0, none⟩) k cap) vs m) {j : Nat} (hj : j < m.length) : ∃ u, vs[j]? = some u ∧ Ow w 5 1 u m[j].length (m[j].map U8) ∧
    w.cell? ⟨g, j, none⟩ = some u := by
  obtain ⟨u, h1, h2, g', cap', e, h3⟩ := h.at hj
  simp only [Value.slice.injEq, Option.some.injEq, Addr.mk.injEq] at e
  refine ⟨u, h1, h2, ?_⟩
  rw [e.1.1]
  exact h3
/-- left and out -/
structure PM (w : World) (n : Nat) (rl : Value) (vl : List Value) (l : List (List UInt8)) (ro : Value) (vo : List Value) (o : List (List UInt8)) : Prop where
  left : OM w rl vl l
  out : OM w ro vo o
  dl : Dis rl vl
  do' : Dis ro vo
  apart : ∀ b, Has rl vl b → ¬ Has ro vo b
  ll : l.length = n
  lo : o.length = n
  wl : ∀ x ∈ l, x.length = n
  wo : ∀ x ∈ o, x.length = n
theorem PM.no {w w' : World} {n : Nat} {rl ro : Value} {vl vo : List Value} {l o : List (List UInt8)} (h : PM w n rl vl l ro vo o) (hf : Fr No w w') : PM w' n rl vl l ro vo o :=
  ⟨h.left.no hf, h.out.no hf, h.dl, h.do', h.apart, h.ll, h.lo, h.wl, h.wo⟩
/-- all of the blocks of the two -/
def Has2 (rl : Value) (vl : List Value) (ro : Value) (vo : List Value) (b : Nat) : Prop := Has rl vl b ∨ Has ro vo b

theorem mem_of_get {α : Type} {l l' : List α} {f : Nat → Nat} (h : ∀ j, l'[j]? = l[f j]?) {x : α} (hx : x ∈ l') : x ∈ l := by
  obtain ⟨j, hj⟩ := List.getElem?_of_mem hx
  rw [h j] at hj
  exact List.mem_of_getElem? hj
/-- a matrix, its rows in another order -/
theorem OM.reorder {w w' : World} {r : Value} {vs vs' : List Value} {m m' : List (List UInt8)} (h : OM w r vs m) (hd : Dis r vs) {f : Nat → Nat} (hv : ∀ j, vs'[j]? = vs[f j]?) (hm : ∀ j, m'[j]? = m[f j]?) (hlv : vs'.length = vs.length) (hlm : m'.length = m.length)
    (hsp : Ow w' 29 1 r m.length vs') (hf : Fr (fun b => r.ownBlock = some b) w w') : OM w' r vs' m' := by
  refine ⟨by rw [hlv, hlm]; exact h.len, by rw [hlm]; exact hsp, fun j u x hu hx => ?_⟩
  rw [hv] at hu
  rw [hm] at hx
  exact (h.row _ u x hu hx).fr hf fun b hb hr => hd.spine _ u b hu hb hr
theorem Dis.reorder {r : Value} {vs vs' : List Value} (hd : Dis r vs) {f : Nat → Nat} (hi : ∀ j k, f j = f k → j = k) (hv : ∀ j, vs'[j]? = vs[f j]?) : Dis r vs' :=
  ⟨fun j u b hu hb => by rw [hv] at hu; exact hd.spine _ u b hu hb, fun i j u v b hij hu hv' hb => by rw [hv] at hu hv'; exact hd.rows _ _ u v b (fun e => hij (hi _ _ e)) hu hv' hb⟩
theorem Has.reorder {r : Value} {vs vs' : List Value} {f : Nat → Nat} (hv : ∀ j, vs'[j]? = vs[f j]?) {b : Nat} (h : Has r vs' b) : Has r vs b := by
  rcases h with h | ⟨j, u, hu, hb⟩
  · exact .inl h
  · rw [hv] at hu; exact .inr ⟨_, u, hu, hb⟩
/-- both, two rows swapped -/
theorem PM.swap {w w' : World} {n : Nat} {rl ro : Value} {vl vo : List Value} {l o : List (List UInt8)} (h : PM w n rl vl l ro vo o) {c i : Nat} (hc : c < n) (hi : i < n)
    (hl : Ow w' 29 1 rl n (swp undef vl c i)) (ho : Ow w' 29 1 ro n (swp undef vo c i)) (hf : Fr (fun b => rl.ownBlock = some b ∨ ro.ownBlock = some b) w w') :
    PM w' n rl (swp undef vl c i) (swp [] l c i) ro (swp undef vo c i) (swp [] o c i) := by
  have hvl : vl.length = n := by rw [h.left.len]; exact h.ll
  have hvo : vo.length = n := by rw [h.out.len]; exact h.lo
  have e1 := swp_get undef (l := vl) (c := c) (i := i) (by omega) (by omega)
  have e2 := swp_get undef (l := vo) (c := c) (i := i) (by omega) (by omega)
  have e3 := swp_get [] (l := l) (c := c) (i := i) (by rw [h.ll]; exact hc) (by rw [h.ll]; exact hi)
  have e4 := swp_get [] (l := o) (c := c) (i := i) (by rw [h.lo]; exact hc) (by rw [h.lo]; exact hi)
  refine ⟨⟨by rw [swp_length, swp_length]; exact h.left.len, by rw [swp_length, h.ll]; exact hl, fun j u x hu hx => ?_⟩, ⟨by rw [swp_length, swp_length]; exact h.out.len, by rw [swp_length, h.lo]; exact ho, fun j u x hu hx => ?_⟩,
    h.dl.reorder (fun _ _ => sig_inj) e1, h.do'.reorder (fun _ _ => sig_inj) e2, fun b hb hb' => h.apart b (hb.reorder e1) (hb'.reorder e2),
    by rw [swp_length]; exact h.ll, by rw [swp_length]; exact h.lo, fun x hx => h.wl x (mem_of_get e3 hx), fun x hx => h.wo x (mem_of_get e4 hx)⟩
  · rw [e1] at hu
    rw [e3] at hx
    refine (h.left.row _ u x hu hx).fr hf fun b hb hr => ?_
    rcases hr with hr | hr
    · exact h.dl.spine _ u b hu hb hr
    · exact h.apart b (.inr ⟨_, u, hu, hb⟩) (.inl hr)
  · rw [e2] at hu
    rw [e4] at hx
    refine (h.out.row _ u x hu hx).fr hf fun b hb hr => ?_
    rcases hr with hr | hr
    · exact h.apart b (.inl hr) (.inr ⟨_, u, hu, hb⟩)
    · exact h.do'.spine _ u b hu hb hr

/-- a row replaced by a new one -/
theorem OM.put {w w' : World} {r u : Value} {vs : List Value} {m : List (List UInt8)} {x : List UInt8} {c : Nat} (h : OM w r vs m) (hd : Dis r vs) (hsp : Ow w' 29 1 r m.length (vs.set c u)) {M : Nat → Prop} (hf : Fr M w w') (hM : ∀ b, M b → ¬ ∃ (j : Nat) (v : Value), vs[j]? = some v ∧ v.ownBlock = some b)
    (hu : Ow w' 5 1 u x.length (x.map U8)) : OM w' r (vs.set c u) (m.set c x) := by
  refine ⟨by simp [h.len], by simpa using hsp, fun j v y hv hy => ?_⟩
  rw [List.getElem?_set] at hv hy
  by_cases hcj : c = j
  · subst hcj
    rw [if_pos rfl] at hv hy
    split at hv <;> split at hy <;> simp at hv hy
    subst hv
    subst hy
    exact hu
  · rw [if_neg hcj] at hv hy
    exact (h.row j v y hv hy).fr hf fun b hb hMb => hM b hMb ⟨j, v, hv, hb⟩
theorem Dis.put {r u : Value} {vs : List Value} {c : Nat} (hd : Dis r vs) (hu : ∀ b, u.ownBlock = some b → ¬ Has r vs b) : Dis r (vs.set c u) := by
  have key : ∀ (j : Nat) (v : Value), (vs.set c u)[j]? = some v → (j ≠ c ∧ vs[j]? = some v) ∨ (j = c ∧ v = u) := by
    intro j v hv
    rw [List.getElem?_set] at hv
    by_cases h : c = j
    · rw [if_pos h] at hv
      split at hv <;> simp at hv
      exact .inr ⟨h.symm, hv.symm⟩
    · rw [if_neg h] at hv; exact .inl ⟨fun e => h e.symm, hv⟩
  refine ⟨fun j v b hv hb hrb => ?_, fun i j v v' b hij hv hv' hb hb' => ?_⟩
  · rcases key j v hv with ⟨_, h⟩ | ⟨_, rfl⟩
    · exact hd.spine j v b h hb hrb
    · exact hu b hb (.inl hrb)
  · rcases key i v hv with ⟨_, h⟩ | ⟨e, rfl⟩ <;> rcases key j v' hv' with ⟨_, h'⟩ | ⟨e', rfl⟩
    · exact hd.rows i j v v' b hij h h' hb hb'
    · exact hu b hb' (.inr ⟨i, v, h, hb⟩)
    · exact hu b hb (.inr ⟨j, v', h', hb'⟩)
    · omega
theorem Has.put {r u : Value} {vs : List Value} {c b : Nat} (h : Has r (vs.set c u) b) : Has r vs b ∨ u.ownBlock = some b := by
  rcases h with h | ⟨j, v, hv, hb⟩
  · exact .inl (.inl h)
  · rw [List.getElem?_set] at hv
    by_cases hc : c = j
    · rw [if_pos hc] at hv
      split at hv <;> simp at hv
      subst hv
      exact .inr hb
    · rw [if_neg hc] at hv; exact .inl (.inr ⟨j, v, hv, hb⟩)
/-- a row turned where it lies -/
theorem OM.turn {w w' : World} {r u : Value} {vs : List Value} {m : List (List UInt8)} {x : List UInt8} {i g : Nat} (h : OM w r vs m) (hd : Dis r vs) (hv : vs[i]? = some u) (hg : u.ownBlock = some g) (hf : Fr (· = g) w w')
    (hu : Ow w' 5 1 u x.length (x.map U8)) : OM w' r vs (m.set i x) := by
  refine ⟨by simp [h.len], ?_, fun j v y hv' hy => ?_⟩
  · rw [List.length_set]
    exact h.spine.fr hf fun b hb e => by subst e; exact hd.spine i u b hv hg hb
  · rw [List.getElem?_set] at hy
    by_cases hij : i = j
    · subst hij
      rw [if_pos rfl] at hy
      rw [hv] at hv'
      split at hy <;> simp at hy hv'
      subst hv'
      subst hy
      exact hu
    · rw [if_neg hij] at hy
      exact (h.row j v y hv' hy).fr hf fun b hb e => by subst e; exact hd.rows i j u v b hij hv hv' hg hb
end Go.Proofs.Ytgpkbldlkadnjaa
end
section
/- Walks: pivot. -/
set_option linter.unusedVariables false
set_option linter.unusedSimpArgs false
set_option maxHeartbeats 3000000
attribute [local irreducible] Go.Sl.Chk Go.Sl.Br Go.Sl.Ld Go.Sl.Ldn Go.Sl.LdB Go.Sl.Stn Go.Sl.New Go.Sl.Run Go.Sl.RunU Go.Sl.RunX Go.Sl.Call Go.Sl.LoopK Go.Sl.RawK Go.Sl.Alt Go.Sl.ev Go.Sl.eget
namespace Go.Proofs.Ytgpkbldlkadnjaa
open Go Go.Sl Go.RowKit

def entry (l : List (List UInt8)) (i j : Nat) : UInt8 := (l.getD i []).getD j 0
def findP (l : List (List UInt8)) (n c : Nat) : Option Nat := (List.range n).find? fun i => decide (c ≤ i) && (entry l i c != 0)
theorem Ow.one {w : World} {e : TypeId} {s n : Nat} {v : Value} {cs : List Value} (h : Ow w e s v n cs) : v.oneCell' = true := by
  rcases h.form with ⟨rfl, _⟩ | ⟨_, _, _, rfl, _⟩ <;> rfl
theorem Ow.drew {w : World} {e : TypeId} {s n : Nat} {v : Value} {cs : List Value} (h : Ow w e s v n cs) : Ow w.drew e s v n cs := h

end Go.Proofs.Ytgpkbldlkadnjaa
end
