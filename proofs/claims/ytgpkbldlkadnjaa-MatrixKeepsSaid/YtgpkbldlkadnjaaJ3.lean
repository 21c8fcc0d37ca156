/- Numbers that functions and types have in this seat (printed by wip/tool/mkmf2.py of this repo). -/
import Derived.Test.YtgpkbldlkadnjaaChecked
import Derived.KernelRfl
import Derived.Test.YtgpkbldlkadnjaaJ1
import Derived.Test.YtgpkbldlkadnjaaJ2
section
namespace Go.Proofs.Ytgpkbldlkadnjaa
open Go
abbrev f_main_main : FuncId := 0
abbrev f_gosem_cut : FuncId := 1
abbrev f_gosem_cut_init : FuncId := 2
abbrev f_law04_MatrixProducts : FuncId := 3
abbrev f_law04_MatrixBack : FuncId := 4
abbrev f_law04_MatrixCodes : FuncId := 5
abbrev f_law04_MatrixAny : FuncId := 6
abbrev f_law04_MatrixKeeps : FuncId := 7
abbrev f_law04_MatrixTimes : FuncId := 8
abbrev f_law05_CodeEncodes : FuncId := 9
abbrev f_law05_CodeAny : FuncId := 10
abbrev f_law05_CodeDecodes : FuncId := 11
abbrev f_law05_CodeTurned : FuncId := 12
abbrev f_law05_CodeKeeps : FuncId := 13
abbrev f_law05_CodeMixed : FuncId := 14
abbrev f_law07_DiskKeeps : FuncId := 15
abbrev f_law07_DiskActs : FuncId := 16
abbrev f_law07_DiskSynced : FuncId := 17
abbrev f_law20_NetOrder : FuncId := 18
abbrev f_law20_NetFull : FuncId := 19
abbrev f_law20_NetKeeps : FuncId := 20
abbrev f_law20_NetActs : FuncId := 21
abbrev f_law20_NetLost : FuncId := 22
abbrev f_law18_LogKeeps : FuncId := 23
abbrev f_law18_LogCompacts : FuncId := 24
abbrev f_law18_LogReads : FuncId := 25
abbrev f_law18_LogSynced : FuncId := 26
abbrev f_law21_AcceptHears : FuncId := 27
abbrev f_law21_AcceptTwice : FuncId := 28
abbrev f_law22_LeadChosen : FuncId := 29
abbrev f_law22_LeadQuorums : FuncId := 30
abbrev f_law25_ScrubKeeps : FuncId := 31
abbrev f_law04_awake : FuncId := 32
abbrev f_matrix_Right : FuncId := 33
abbrev f_ref04_Right : FuncId := 34
abbrev f_ref04_Few : FuncId := 35
abbrev f_ref04_Same : FuncId := 36
abbrev f_matrix_Mul : FuncId := 37
abbrev f_ref04_Mul : FuncId := 38
abbrev f_matrix_One : FuncId := 39
abbrev f_matrix_Invert : FuncId := 40
abbrev f_ref04_Det : FuncId := 41
abbrev f_matrix_Coding : FuncId := 42
abbrev f_ref04_Coding : FuncId := 43
abbrev f_matrix_Rows : FuncId := 44
abbrev f_law05_awake : FuncId := 45
abbrev f_code_Encode : FuncId := 46
abbrev f_code_Right : FuncId := 47
abbrev f_ref05_Right : FuncId := 48
abbrev f_code_N : FuncId := 49
abbrev f_ref05_N : FuncId := 50
abbrev f_ref05_Encode : FuncId := 51
abbrev f_ref05_Shape : FuncId := 52
abbrev f_ref05_Without : FuncId := 53
abbrev f_code_Decode : FuncId := 54
abbrev f_ref05_There : FuncId := 55
abbrev f_code_Rebuild : FuncId := 56
abbrev f_ref01_Same : FuncId := 57
abbrev f_ref05_Agrees : FuncId := 58
abbrev f_law07_awake : FuncId := 59
abbrev f_disk_New : FuncId := 60
abbrev f_disk_Disk_Append : FuncId := 61
abbrev f_disk_Disk_Sync : FuncId := 62
abbrev f_disk_Disk_Read : FuncId := 63
abbrev f_disk_Disk_Synced : FuncId := 64
abbrev f_ref07_Few : FuncId := 65
abbrev f_disk_Disk_Copy : FuncId := 66
abbrev f_ref07_Do : FuncId := 67
abbrev f_law07_do : FuncId := 68
abbrev f_law07_same : FuncId := 69
abbrev f_ref07_Find : FuncId := 70
abbrev f_disk_Disk_Crash : FuncId := 71
abbrev f_disk_Disk_Names : FuncId := 72
abbrev f_ref01_Strings : FuncId := 73
abbrev f_law20_awake : FuncId := 74
abbrev f_net_New : FuncId := 75
abbrev f_net_Pool_Send : FuncId := 76
abbrev f_net_Pool_Next : FuncId := 77
abbrev f_net_Pool_Len : FuncId := 78
abbrev f_net_Pool_Twice : FuncId := 79
abbrev f_ref19_Small : FuncId := 80
abbrev f_ref19_Same : FuncId := 81
abbrev f_law20_few : FuncId := 82
abbrev f_net_Pool_Copy : FuncId := 83
abbrev f_law20_put : FuncId := 84
abbrev f_net_Pool_Drop : FuncId := 85
abbrev f_net_Pool_Cut : FuncId := 86
abbrev f_law18_awake : FuncId := 87
abbrev f_ref17_Right : FuncId := 88
abbrev f_log_Open : FuncId := 89
abbrev f_log_Log_Vote : FuncId := 90
abbrev f_log_Log_Votes : FuncId := 91
abbrev f_ref17_Same : FuncId := 92
abbrev f_law18_few : FuncId := 93
abbrev f_log_Log_Promise : FuncId := 94
abbrev f_log_Log_Promised : FuncId := 95
abbrev f_log_Log_Size : FuncId := 96
abbrev f_log_Log_Compact : FuncId := 97
abbrev f_log_Read : FuncId := 98
abbrev f_ref18_Read : FuncId := 99
abbrev f_law21_awake : FuncId := 100
abbrev f_law21_few : FuncId := 101
abbrev f_law21_wanted : FuncId := 102
abbrev f_accept_Hear : FuncId := 103
abbrev f_ref19_All : FuncId := 104
abbrev f_law22_awake : FuncId := 105
abbrev f_lead_Tell : FuncId := 106
abbrev f_lead_Quorum : FuncId := 107
abbrev f_law25_awake : FuncId := 108
abbrev f_law25_disks : FuncId := 109
abbrev f_scrub_New : FuncId := 110
abbrev f_scrub_Store_Put : FuncId := 111
abbrev f_scrub_Store_Disk : FuncId := 112
abbrev f_disk_Disk_Delete : FuncId := 113
abbrev f_scrub_Store_Get : FuncId := 114
abbrev f_slices_ContainsFunc : FuncId := 115
abbrev f_matrix_Right_1 : FuncId := 116
abbrev f_field_New : FuncId := 117
abbrev f_matrix_plus : FuncId := 118
abbrev f_field_Field_Row : FuncId := 119
abbrev f_ref03_Mul : FuncId := 120
abbrev f_matrix_copied : FuncId := 121
abbrev f_matrix_pivot : FuncId := 122
abbrev f_matrix_clearColumn : FuncId := 123
abbrev f_field_Field_Inv : FuncId := 124
abbrev f_ref03_Inv : FuncId := 125
abbrev f_slices_Clone : FuncId := 126
abbrev f_code_pieces : FuncId := 127
abbrev f_ref01_Text : FuncId := 128
abbrev f_code_there : FuncId := 129
abbrev f_code_value : FuncId := 130
abbrev f_code_agrees : FuncId := 131
abbrev f_disk_Disk_Used : FuncId := 132
abbrev f_disk_named : FuncId := 133
abbrev f_ref07_Named : FuncId := 134
abbrev f_ref07_Used : FuncId := 135
abbrev f_ref07_Without : FuncId := 136
abbrev f_ref07_Put : FuncId := 137
abbrev f_disk_Disk_Rename : FuncId := 138
abbrev f_disk_Disk_Turn : FuncId := 139
abbrev f_disk_Disk_Trim : FuncId := 140
abbrev f_disk_distance : FuncId := 141
abbrev f_slices_Sorted : FuncId := 142
abbrev f_maps_Keys : FuncId := 143
abbrev f_container_heap_Push : FuncId := 144
abbrev f_net_clone : FuncId := 145
abbrev f_container_heap_Pop : FuncId := 146
abbrev f_net_Pool_place : FuncId := 147
abbrev f_container_heap_Remove : FuncId := 148
abbrev f_slices_DeleteFunc : FuncId := 149
abbrev f_net_Pool_Cut_1 : FuncId := 150
abbrev f_container_heap_Init : FuncId := 151
abbrev f_log_scan : FuncId := 152
abbrev f_slot_Put : FuncId := 153
abbrev f_log_Log_add : FuncId := 154
abbrev f_log_says_sorted : FuncId := 155
abbrev f_slot_Promise : FuncId := 156
abbrev f_frame_All : FuncId := 157
abbrev f_log_Log_all : FuncId := 158
abbrev f_ref06_Scan : FuncId := 159
abbrev f_ref17_Get : FuncId := 160
abbrev f_ref18_add : FuncId := 161
abbrev f_ref19_Right : FuncId := 162
abbrev f_ref17_Put1 : FuncId := 163
abbrev f_msg_Right : FuncId := 164
abbrev f_accept_prepare : FuncId := 165
abbrev f_accept_vote : FuncId := 166
abbrev f_lead_New : FuncId := 167
abbrev f_lead_Leader_Prepares : FuncId := 168
abbrev f_lead_Leader_Hear : FuncId := 169
abbrev f_lead_Leader_Propose : FuncId := 170
abbrev f_lead_Leader_Chosen : FuncId := 171
abbrev f_lead_Leader_Value : FuncId := 172
abbrev f_lead_Leader_Leads : FuncId := 173
abbrev f_lead_Leader_Lost : FuncId := 174
abbrev f_lead_Leader_Ballot : FuncId := 175
abbrev f_lead_gather : FuncId := 176
abbrev f_slices_Sorted_2 : FuncId := 177
abbrev f_maps_Keys_2 : FuncId := 178
abbrev f_lead_told_says : FuncId := 179
abbrev f_scrub_Store_Scrub : FuncId := 180
abbrev f_scrub_Store_Repair : FuncId := 181
abbrev f_scrub_named : FuncId := 182
abbrev f_scrub_write : FuncId := 183
abbrev f_scrub_file : FuncId := 184
abbrev f_scrub_Store_shards : FuncId := 185
abbrev f_slices_IndexFunc : FuncId := 186
abbrev f_field_Field_Mul : FuncId := 187
abbrev f_wire_Text : FuncId := 188
abbrev f_slices_Chunk : FuncId := 189
abbrev f_ref01_Num : FuncId := 190
abbrev f_wire_CutText : FuncId := 191
abbrev f_slices_Concat : FuncId := 192
abbrev f_slices_Equal : FuncId := 193
abbrev f_slices_Collect : FuncId := 194
abbrev f_slices_Sort : FuncId := 195
abbrev f_maps_Keys_1 : FuncId := 196
abbrev f_container_heap_up : FuncId := 197
abbrev f_slices_Clone_2 : FuncId := 198
abbrev f_container_heap_down : FuncId := 199
abbrev f_slices_SortedFunc : FuncId := 200
abbrev f_slices_Values : FuncId := 201
abbrev f_net_before : FuncId := 202
abbrev f_slices_IndexFunc_2 : FuncId := 203
abbrev f_net_Pool_place_1 : FuncId := 204
abbrev f_frame_Scan : FuncId := 205
abbrev f_log_says_take : FuncId := 206
abbrev f_frame_Put : FuncId := 207
abbrev f_slot_Right : FuncId := 208
abbrev f_wire_Num : FuncId := 209
abbrev f_slot_full : FuncId := 210
abbrev f_maps_Keys_3 : FuncId := 211
abbrev f_slot_ballot : FuncId := 212
abbrev f_ref01_At : FuncId := 213
abbrev f_ref02_Sum : FuncId := 214
abbrev f_ref01_TextAt : FuncId := 215
abbrev f_msg_Right_1 : FuncId := 216
abbrev f_msg_bare : FuncId := 217
abbrev f_msg_rising : FuncId := 218
abbrev f_accept_refuse : FuncId := 219
abbrev f_slices_DeleteFunc_2 : FuncId := 220
abbrev f_accept_prepare_1 : FuncId := 221
abbrev f_accept_made : FuncId := 222
abbrev f_lead_Leader_promised : FuncId := 223
abbrev f_lead_Leader_accepts : FuncId := 224
abbrev f_slices_Collect_2 : FuncId := 225
abbrev f_slices_Sort_2 : FuncId := 226
abbrev f_maps_Keys_2_1 : FuncId := 227
abbrev f_strings_CutPrefix : FuncId := 228
abbrev f_scrub_shard : FuncId := 229
abbrev f_scrub_mend : FuncId := 230
abbrev f_slices_Contains : FuncId := 231
abbrev f_slices_Chunk_1 : FuncId := 232
abbrev f_wire_CutNum : FuncId := 233
abbrev f_slices_Grow : FuncId := 234
abbrev f_slices_AppendSeq : FuncId := 235
abbrev f_slices_pdqsortOrdered : FuncId := 236
abbrev f_math_bits_Len : FuncId := 237
abbrev f_slices_Collect_3 : FuncId := 238
abbrev f_slices_SortFunc : FuncId := 239
abbrev f_slices_Values_1 : FuncId := 240
abbrev f_cmp_Or : FuncId := 241
abbrev f_cmp_Compare : FuncId := 242
abbrev f_frame_Cut : FuncId := 243
abbrev f_slot_Get : FuncId := 244
abbrev f_frame_sum : FuncId := 245
abbrev f_maps_Keys_3_1 : FuncId := 246
abbrev f_slices_IndexFunc_3 : FuncId := 247
abbrev f_slices_ContainsFunc_2 : FuncId := 248
abbrev f_accept_made_1 : FuncId := 249
abbrev f_lead_Leader_begin : FuncId := 250
abbrev f_slices_AppendSeq_2 : FuncId := 251
abbrev f_slices_pdqsortOrdered_2 : FuncId := 252
abbrev f_internal_stringslite_CutPrefix : FuncId := 253
abbrev f_slices_Index : FuncId := 254
abbrev f_slices_insertionSortOrdered : FuncId := 255
abbrev f_slices_heapSortOrdered : FuncId := 256
abbrev f_slices_breakPatternsOrdered : FuncId := 257
abbrev f_slices_choosePivotOrdered : FuncId := 258
abbrev f_slices_reverseRangeOrdered : FuncId := 259
abbrev f_slices_partialInsertionSortOrdered : FuncId := 260
abbrev f_cmp_Less : FuncId := 261
abbrev f_slices_partitionEqualOrdered : FuncId := 262
abbrev f_slices_partitionOrdered : FuncId := 263
abbrev f_math_bits_Len32 : FuncId := 264
abbrev f_math_bits_Len64 : FuncId := 265
abbrev f_slices_AppendSeq_3 : FuncId := 266
abbrev f_slices_pdqsortCmpFunc : FuncId := 267
abbrev f_cmp_isNaN : FuncId := 268
abbrev f_slot_cut : FuncId := 269
abbrev f_check_Sum : FuncId := 270
abbrev f_slices_insertionSortOrdered_2 : FuncId := 271
abbrev f_slices_heapSortOrdered_2 : FuncId := 272
abbrev f_slices_breakPatternsOrdered_2 : FuncId := 273
abbrev f_slices_choosePivotOrdered_2 : FuncId := 274
abbrev f_slices_reverseRangeOrdered_2 : FuncId := 275
abbrev f_slices_partialInsertionSortOrdered_2 : FuncId := 276
abbrev f_cmp_Less_2 : FuncId := 277
abbrev f_slices_partitionEqualOrdered_2 : FuncId := 278
abbrev f_slices_partitionOrdered_2 : FuncId := 279
abbrev f_internal_stringslite_HasPrefix : FuncId := 280
abbrev f_slices_siftDownOrdered : FuncId := 281
abbrev f_slices_nextPowerOfTwo : FuncId := 282
abbrev f_slices_xorshift_Next : FuncId := 283
abbrev f_slices_medianAdjacentOrdered : FuncId := 284
abbrev f_slices_medianOrdered : FuncId := 285
abbrev f_cmp_isNaN_2 : FuncId := 286
abbrev f_slices_insertionSortCmpFunc : FuncId := 287
abbrev f_slices_heapSortCmpFunc : FuncId := 288
abbrev f_slices_breakPatternsCmpFunc : FuncId := 289
abbrev f_slices_choosePivotCmpFunc : FuncId := 290
abbrev f_slices_reverseRangeCmpFunc : FuncId := 291
abbrev f_slices_partialInsertionSortCmpFunc : FuncId := 292
abbrev f_slices_partitionEqualCmpFunc : FuncId := 293
abbrev f_slices_partitionCmpFunc : FuncId := 294
abbrev f_check_More : FuncId := 295
abbrev f_slices_siftDownOrdered_2 : FuncId := 296
abbrev f_slices_medianAdjacentOrdered_2 : FuncId := 297
abbrev f_slices_medianOrdered_2 : FuncId := 298
abbrev f_slices_order2Ordered : FuncId := 299
abbrev f_slices_siftDownCmpFunc : FuncId := 300
abbrev f_slices_medianAdjacentCmpFunc : FuncId := 301
abbrev f_slices_medianCmpFunc : FuncId := 302
abbrev f_check_word_eight : FuncId := 303
abbrev f_slices_order2Ordered_2 : FuncId := 304
abbrev f_slices_order2CmpFunc : FuncId := 305
abbrev f_check_word_bit : FuncId := 306
abbrev f_runtime_boundsError_Error : FuncId := 307
abbrev f_runtime_boundsError_RuntimeError : FuncId := 308
abbrev f_runtime_errorString_Error : FuncId := 309
abbrev f_runtime_errorString_RuntimeError : FuncId := 310
abbrev f_runtime_plainError_Error : FuncId := 311
abbrev f_runtime_plainError_RuntimeError : FuncId := 312
abbrev f_runtime_errorAddressString_Error : FuncId := 313
abbrev f_runtime_errorAddressString_RuntimeError : FuncId := 314
abbrev f_runtime_TypeAssertionError_Error : FuncId := 315
abbrev f_runtime_TypeAssertionError_RuntimeError : FuncId := 316
abbrev f_runtime_PanicNilError_Error : FuncId := 317
abbrev f_runtime_PanicNilError_RuntimeError : FuncId := 318
abbrev f_internal_abi_Type_Align : FuncId := 319
abbrev f_internal_abi_Type_Len : FuncId := 320
abbrev f_internal_runtime_maps_unhashableTypeError_Error : FuncId := 321
abbrev f_internal_runtime_maps_unhashableTypeError_RuntimeError : FuncId := 322
abbrev f_net_packets_Len : FuncId := 323
abbrev f_net_packets_Less : FuncId := 324
abbrev f_net_packets_Swap : FuncId := 325
abbrev f_net_packets_Pop : FuncId := 326
abbrev f_net_packets_Push : FuncId := 327
abbrev f_lead_Leader_Lose : FuncId := 328
abbrev f_internal_abi_Kind_String : FuncId := 329
abbrev tInt : TypeId := 3
abbrev tBool : TypeId := 4
abbrev tU8 : TypeId := 5
abbrev tStr : TypeId := 9
abbrev tRows : TypeId := 22
abbrev tBytes : TypeId := 29
abbrev tInts : TypeId := 33
abbrev tU32 : TypeId := 37
abbrev t_api_Shape : TypeId := 41
abbrev t_api_Errno : TypeId := 42
abbrev tU16 : TypeId := 60
abbrev t_ref07_Act : TypeId := 78
abbrev tStrs : TypeId := 87
abbrev t_api_Vote : TypeId := 95
abbrev tVotes : TypeId := 96
abbrev t_api_Msg : TypeId := 98
abbrev tBools : TypeId := 99
abbrev t_law20_Act : TypeId := 112
abbrev t_law20_packet : TypeId := 115
abbrev tMsgs : TypeId := 118
abbrev t_law18_Act : TypeId := 130
abbrev t_law22_Replica : TypeId := 144
abbrev tVoteRows : TypeId := 146
abbrev t_disk_Disk : TypeId := 177
abbrev t_disk_file : TypeId := 181
abbrev t_ref07_File : TypeId := 184
abbrev tU64 : TypeId := 189
abbrev t_net_packets : TypeId := 196
abbrev t_net_Pool : TypeId := 198
abbrev t_net_packet : TypeId := 203
abbrev t_log_Log : TypeId := 215
abbrev t_log_says : TypeId := 219
abbrev t_lead_told : TypeId := 247
abbrev t_scrub_Store : TypeId := 253
abbrev t_field_Field : TypeId := 261
abbrev t_lead_Leader : TypeId := 296
abbrev t_lead_entry : TypeId := 299
abbrev t_check_word : TypeId := 362
end Go.Proofs.Ytgpkbldlkadnjaa
end
section
/- Functions of the program in the small code (printed by wip/tool/Print.lean and mkmf2.py of this repo), each with its equation, held by the kernel. -/
set_option linter.unusedVariables false
namespace Go.Proofs.Ytgpkbldlkadnjaa
open Go Go.Sl
-- 3 shardlog/shardloglaw04.MatrixProducts; slots [(0, a), (1, b), (2, a), (3, b)]
noncomputable def m_law04_MatrixProducts : MF := ⟨58, [.t 4],
 .seq (
  .ops [
    .p 4 .mv [(.const (.bool false))]]) (
 .seq (
  .seq (
   .ops [
     .call (some 5) f_law04_awake [],
     .p 6 .not [(.tmp 5)],
     .p 7 .mv [(.tmp 6)],
     .gd 7 false (some 8) (.p 8 .mv [(.tmp 0)]),
     .gd 7 false (some 9) (.p 9 .len [(.tmp 8)]),
     .gd 7 false (some 10) (.p 10 (.bin .gtr) [(.tmp 9), (.const (.int .i64 12))]),
     .p 11 .pick [(.tmp 7), (.const (.bool true)), (.tmp 10)],
     .p 12 .mv [(.tmp 11)],
     .gd 12 false (some 13) (.p 13 .mv [(.tmp 1)]),
     .gd 12 false (some 14) (.p 14 .len [(.tmp 13)]),
     .gd 12 false (some 15) (.p 15 (.bin .gtr) [(.tmp 14), (.const (.int .i64 12))]),
     .p 16 .pick [(.tmp 12), (.const (.bool true)), (.tmp 15)]]) (
  .cond (.tmp 16) (
    .seq (
     .ops [
       .call (some 17) f_law04_awake [],
       .p 4 .mv [(.tmp 17)]]) (
    .ret)) (
    .skip))) (
 .seq (
  .seq (
   .ops [
     .p 18 .mv [(.tmp 0)],
     .call (some 19) f_matrix_Right [(.tmp 18)],
     .p 20 .mv [(.tmp 0)],
     .call (some 21) f_ref04_Right [(.tmp 20)],
     .p 22 (.binb .neq) [(.tmp 19), (.tmp 21)]]) (
  .cond (.tmp 22) (
    .seq (
     .ops [
       .p 4 .mv [(.const (.bool false))]]) (
    .ret)) (
    .skip))) (
 .seq (
  .seq (
   .ops [
     .p 23 .mv [(.tmp 0)],
     .call (some 24) f_ref04_Few [(.tmp 23), (.const (.int .i64 12))],
     .p 25 .not [(.tmp 24)],
     .p 26 .mv [(.tmp 25)],
     .gd 26 false (some 27) (.p 27 .mv [(.tmp 1)]),
     .gd 26 false (some 28) (.call (some 28) f_ref04_Few [(.tmp 27), (.const (.int .i64 12))]),
     .gd 26 false (some 29) (.p 29 .not [(.tmp 28)]),
     .p 30 .pick [(.tmp 26), (.const (.bool true)), (.tmp 29)]]) (
  .cond (.tmp 30) (
    .seq (
     .ops [
       .p 4 .mv [(.const (.bool true))]]) (
    .ret)) (
    .skip))) (
 .seq (
  .ops [
    .p 31 .mv [(.tmp 0)],
    .p 32 .mv [(.tmp 1)],
    .call (some 33) f_matrix_Mul [(.tmp 31), (.tmp 32)],
    .p 34 .mv [(.tmp 0)],
    .p 35 .mv [(.tmp 1)],
    .call (some 36) f_ref04_Mul [(.tmp 34), (.tmp 35)],
    .call (some 37) f_ref04_Same [(.tmp 33), (.tmp 36)],
    .p 38 .mv [(.tmp 37)],
    .gd 38 true (some 39) (.p 39 .mv [(.tmp 0)]),
    .gd 38 true (some 40) (.p 40 .len [(.tmp 39)]),
    .gd 38 true (some 41) (.call (some 41) f_matrix_One [(.tmp 40)]),
    .gd 38 true (some 42) (.p 42 .mv [(.tmp 0)]),
    .gd 38 true (some 43) (.call (some 43) f_matrix_Mul [(.tmp 41), (.tmp 42)]),
    .gd 38 true (some 44) (.p 44 .mv [(.tmp 0)]),
    .gd 38 true (some 45) (.call (some 45) f_ref04_Same [(.tmp 43), (.tmp 44)]),
    .p 46 .pick [(.tmp 38), (.tmp 45), (.const (.bool false))],
    .p 47 .mv [(.tmp 46)],
    .gd 47 true (some 48) (.p 48 .mv [(.tmp 0)]),
    .gd 47 true (some 49) (.p 49 .mv [(.tmp 0)]),
    .gd 47 true (some 50) (.p 50 (.ixs 1) [(.tmp 49), (.const (.int .i64 0))]),
    .gd 47 true (some 51) (.ld 51 (.tmp 50)),
    .gd 47 true (some 52) (.p 52 .len [(.tmp 51)]),
    .gd 47 true (some 53) (.call (some 53) f_matrix_One [(.tmp 52)]),
    .gd 47 true (some 54) (.call (some 54) f_matrix_Mul [(.tmp 48), (.tmp 53)]),
    .gd 47 true (some 55) (.p 55 .mv [(.tmp 0)]),
    .gd 47 true (some 56) (.call (some 56) f_ref04_Same [(.tmp 54), (.tmp 55)]),
    .p 57 .pick [(.tmp 47), (.tmp 56), (.const (.bool false))],
    .p 4 .mv [(.tmp 57)]]) (
 .ret)))))⟩

theorem c_law04_MatrixProducts : trF Try.prog f_law04_MatrixProducts = some m_law04_MatrixProducts := by kernel_rfl
-- 4 shardlog/shardloglaw04.MatrixBack; slots [(0, m), (1, m), (3, x), (4, ok)]
noncomputable def m_law04_MatrixBack : MF := ⟨58, [.t 2],
 .seq (
  .ops [
    .p 2 .mv [(.const (.bool false))]]) (
 .seq (
  .seq (
   .ops [
     .call (some 5) f_law04_awake [],
     .p 6 .not [(.tmp 5)],
     .p 7 .mv [(.tmp 6)],
     .gd 7 false (some 8) (.p 8 .mv [(.tmp 0)]),
     .gd 7 false (some 9) (.call (some 9) f_ref04_Few [(.tmp 8), (.const (.int .i64 5))]),
     .gd 7 false (some 10) (.p 10 .not [(.tmp 9)]),
     .p 11 .pick [(.tmp 7), (.const (.bool true)), (.tmp 10)]]) (
  .cond (.tmp 11) (
    .seq (
     .ops [
       .call (some 12) f_law04_awake [],
       .p 2 .mv [(.tmp 12)]]) (
    .ret)) (
    .skip))) (
 .seq (
  .ops [
    .p 14 .mv [(.tmp 0)],
    .call (some 15) f_matrix_Invert [(.tmp 14)],
    .p 13 .mv [(.tmp 15)],
    .p 16 (.ext 0) [(.tmp 13)],
    .p 17 (.ext 1) [(.tmp 13)],
    .p 3 .mv [(.tmp 16)],
    .p 4 .mv [(.tmp 17)]]) (
 .seq (
  .seq (
   .ops [
     .p 18 .mv [(.tmp 0)],
     .p 19 .len [(.tmp 18)],
     .p 20 .mv [(.tmp 0)],
     .p 21 (.ixs 1) [(.tmp 20), (.const (.int .i64 0))],
     .ld 22 (.tmp 21),
     .p 23 .len [(.tmp 22)],
     .p 24 (.bin .neq) [(.tmp 19), (.tmp 23)]]) (
  .cond (.tmp 24) (
    .seq (
     .ops [
       .p 25 .mv [(.tmp 4)],
       .p 26 .not [(.tmp 25)],
       .p 27 .mv [(.tmp 26)],
       .gd 27 true (some 28) (.p 28 .mv [(.tmp 3)]),
       .gd 27 true (some 29) (.p 29 .len [(.tmp 28)]),
       .gd 27 true (some 30) (.p 30 (.bin .eql) [(.tmp 29), (.const (.int .i64 0))]),
       .p 31 .pick [(.tmp 27), (.tmp 30), (.const (.bool false))],
       .p 2 .mv [(.tmp 31)]]) (
    .ret)) (
    .skip))) (
 .seq (
  .seq (
   .ops [
     .p 32 .mv [(.tmp 4)],
     .p 33 .mv [(.tmp 0)],
     .call (some 34) f_ref04_Det [(.tmp 33)],
     .p 35 (.bin .neq) [(.tmp 34), (.const (.int .u8 0))],
     .p 36 (.binb .neq) [(.tmp 32), (.tmp 35)]]) (
  .cond (.tmp 36) (
    .seq (
     .ops [
       .p 2 .mv [(.const (.bool false))]]) (
    .ret)) (
    .skip))) (
 .seq (
  .seq (
   .ops [
     .p 37 .mv [(.tmp 4)],
     .p 38 .not [(.tmp 37)]]) (
  .cond (.tmp 38) (
    .seq (
     .ops [
       .p 39 .mv [(.tmp 3)],
       .p 40 .len [(.tmp 39)],
       .p 41 (.bin .eql) [(.tmp 40), (.const (.int .i64 0))],
       .p 2 .mv [(.tmp 41)]]) (
    .ret)) (
    .skip))) (
 .seq (
  .ops [
    .p 42 .mv [(.tmp 0)],
    .p 43 .mv [(.tmp 3)],
    .call (some 44) f_ref04_Mul [(.tmp 42), (.tmp 43)],
    .p 45 .mv [(.tmp 0)],
    .p 46 .len [(.tmp 45)],
    .call (some 47) f_matrix_One [(.tmp 46)],
    .call (some 48) f_ref04_Same [(.tmp 44), (.tmp 47)],
    .p 49 .mv [(.tmp 48)],
    .gd 49 true (some 50) (.p 50 .mv [(.tmp 3)]),
    .gd 49 true (some 51) (.p 51 .mv [(.tmp 0)]),
    .gd 49 true (some 52) (.call (some 52) f_ref04_Mul [(.tmp 50), (.tmp 51)]),
    .gd 49 true (some 53) (.p 53 .mv [(.tmp 0)]),
    .gd 49 true (some 54) (.p 54 .len [(.tmp 53)]),
    .gd 49 true (some 55) (.call (some 55) f_matrix_One [(.tmp 54)]),
    .gd 49 true (some 56) (.call (some 56) f_ref04_Same [(.tmp 52), (.tmp 55)]),
    .p 57 .pick [(.tmp 49), (.tmp 56), (.const (.bool false))],
    .p 2 .mv [(.tmp 57)]]) (
 .ret)))))))⟩

theorem c_law04_MatrixBack : trF Try.prog f_law04_MatrixBack = some m_law04_MatrixBack := by kernel_rfl
-- 5 shardlog/shardloglaw04.MatrixCodes; slots [(0, k), (1, n), (2, at), (3, k), (4, n), (5, at), (7, c), (8, r), (9, m), (10, l), (11, i), (12, i)]
noncomputable def m_law04_MatrixCodes : MF := ⟨89, [.t 6],
 .seq (
  .ops [
    .p 6 .mv [(.const (.bool false))]]) (
 .seq (
  .ops [
    .p 13 .mv [(.tmp 0)],
    .p 14 (.bin .rem) [(.tmp 13), (.const (.int .u8 7))],
    .p 15 (.conv .i64) [(.tmp 14)],
    .p 16 (.bin .add) [(.const (.int .i64 1)), (.tmp 15)],
    .p 7 .mv [(.tmp 16)]]) (
 .seq (
  .ops [
    .p 17 .mv [(.tmp 7)],
    .p 18 .mv [(.tmp 1)],
    .p 19 (.bin .rem) [(.tmp 18), (.const (.int .u8 20))],
    .p 20 (.conv .i64) [(.tmp 19)],
    .p 21 (.bin .add) [(.tmp 17), (.tmp 20)],
    .p 8 .mv [(.tmp 21)]]) (
 .seq (
  .seq (
   .ops [
     .call (some 22) f_law04_awake [],
     .p 23 .not [(.tmp 22)],
     .p 24 .mv [(.tmp 23)],
     .gd 24 false (some 25) (.p 25 .mv [(.tmp 2)]),
     .gd 24 false (some 26) (.p 26 .len [(.tmp 25)]),
     .gd 24 false (some 27) (.p 27 (.bin .gtr) [(.tmp 26), (.const (.int .i64 50))]),
     .p 28 .pick [(.tmp 24), (.const (.bool true)), (.tmp 27)]]) (
  .cond (.tmp 28) (
    .seq (
     .ops [
       .call (some 29) f_law04_awake [],
       .p 6 .mv [(.tmp 29)]]) (
    .ret)) (
    .skip))) (
 .seq (
  .ops [
    .p 30 .mv [(.tmp 7)],
    .p 31 .mv [(.tmp 8)],
    .call (some 32) f_matrix_Coding [(.tmp 30), (.tmp 31)],
    .p 9 .mv [(.tmp 32)]]) (
 .seq (
  .seq (
   .ops [
     .p 33 .mv [(.tmp 9)],
     .p 34 .mv [(.tmp 7)],
     .p 35 .mv [(.tmp 8)],
     .call (some 36) f_ref04_Coding [(.tmp 34), (.tmp 35)],
     .call (some 37) f_ref04_Same [(.tmp 33), (.tmp 36)],
     .p 38 .not [(.tmp 37)]]) (
  .cond (.tmp 38) (
    .seq (
     .ops [
       .p 6 .mv [(.const (.bool false))]]) (
    .ret)) (
    .skip))) (
 .seq (
  .ops [
    .p 39 .mv [(.tmp 9)],
    .p 40 .mv [(.tmp 2)],
    .call (some 41) f_matrix_Rows [(.tmp 39), (.tmp 40)],
    .p 10 .mv [(.tmp 41)]]) (
 .seq (
  .seq (
   .ops [
     .p 11 .mv [(.const (.int .i64 0))]]) (
  .block 0 (
   .loop (
    .seq (
     .seq (
      .ops [
        .p 42 .mv [(.tmp 11)],
        .p 43 .mv [(.tmp 2)],
        .p 44 .len [(.tmp 43)],
        .p 45 (.bin .lss) [(.tmp 42), (.tmp 44)]]) (
     .cond (.tmp 45) (
       .skip) (
       .exit 0))) (
    .seq (
     .block 1 (
      .seq (
       .ops [
         .p 48 .mv [(.tmp 2)],
         .p 49 .mv [(.tmp 11)],
         .p 50 (.ixs 1) [(.tmp 48), (.tmp 49)],
         .ld 51 (.tmp 50),
         .p 52 (.bin .lss) [(.tmp 51), (.const (.int .i64 0))],
         .p 53 .mv [(.tmp 52)],
         .gd 53 false (some 54) (.p 54 .mv [(.tmp 2)]),
         .gd 53 false (some 55) (.p 55 .mv [(.tmp 11)]),
         .gd 53 false (some 56) (.p 56 (.ixs 1) [(.tmp 54), (.tmp 55)]),
         .gd 53 false (some 57) (.ld 57 (.tmp 56)),
         .gd 53 false (some 58) (.p 58 .mv [(.tmp 8)]),
         .gd 53 false (some 59) (.p 59 (.bin .geq) [(.tmp 57), (.tmp 58)]),
         .p 60 .pick [(.tmp 53), (.const (.bool true)), (.tmp 59)]]) (
      .cond (.tmp 60) (
        .seq (
         .ops [
           .p 61 .mv [(.tmp 10)],
           .p 62 .len [(.tmp 61)],
           .p 63 (.bin .eql) [(.tmp 62), (.const (.int .i64 0))],
           .p 6 .mv [(.tmp 63)]]) (
        .ret)) (
        .skip)))) (
    .ops [
      .p 46 .mv [(.tmp 11)],
      .p 47 (.bin .add) [(.tmp 46), (.const (.int .i64 1))],
      .p 11 .mv [(.tmp 47)]])))))) (
 .seq (
  .seq (
   .ops [
     .p 64 .mv [(.tmp 10)],
     .p 65 .len [(.tmp 64)],
     .p 66 .mv [(.tmp 2)],
     .p 67 .len [(.tmp 66)],
     .p 68 (.bin .neq) [(.tmp 65), (.tmp 67)]]) (
  .cond (.tmp 68) (
    .seq (
     .ops [
       .p 6 .mv [(.const (.bool false))]]) (
    .ret)) (
    .skip))) (
 .seq (
  .seq (
   .ops [
     .p 12 .mv [(.const (.int .i64 0))]]) (
  .block 2 (
   .loop (
    .seq (
     .seq (
      .ops [
        .p 69 .mv [(.tmp 12)],
        .p 70 .mv [(.tmp 2)],
        .p 71 .len [(.tmp 70)],
        .p 72 (.bin .lss) [(.tmp 69), (.tmp 71)]]) (
     .cond (.tmp 72) (
       .skip) (
       .exit 2))) (
    .seq (
     .block 3 (
      .seq (
       .dr [
         ⟨.p 75 .mv [(.tmp 10)], []⟩,
         ⟨.p 76 .mv [(.tmp 12)], []⟩,
         ⟨.p 77 (.ixs 1) [(.tmp 75), (.tmp 76)], []⟩,
         ⟨.ld 78 (.tmp 77), []⟩,
         ⟨.bs 79 (.tmp 78), []⟩,
         ⟨.p 80 .mv [(.tmp 9)], []⟩,
         ⟨.p 81 .mv [(.tmp 2)], []⟩,
         ⟨.p 82 .mv [(.tmp 12)], []⟩,
         ⟨.p 83 (.ixs 1) [(.tmp 81), (.tmp 82)], []⟩,
         ⟨.ld 84 (.tmp 83), []⟩,
         ⟨.p 85 (.ixs 1) [(.tmp 80), (.tmp 84)], []⟩,
         ⟨.ld 86 (.tmp 85), []⟩,
         ⟨.bs 87 (.tmp 86), []⟩,
         ⟨.p 88 (.bin .neq) [(.tmp 79), (.tmp 87)], []⟩]) (
      .cond (.tmp 88) (
        .seq (
         .ops [
           .p 6 .mv [(.const (.bool false))]]) (
        .ret)) (
        .skip)))) (
    .ops [
      .p 73 .mv [(.tmp 12)],
      .p 74 (.bin .add) [(.tmp 73), (.const (.int .i64 1))],
      .p 12 .mv [(.tmp 74)]])))))) (
 .seq (
  .ops [
    .p 6 .mv [(.const (.bool true))]]) (
 .ret)))))))))))⟩

theorem c_law04_MatrixCodes : trF Try.prog f_law04_MatrixCodes = some m_law04_MatrixCodes := by kernel_rfl
-- 6 shardlog/shardloglaw04.MatrixAny; slots [(0, k), (1, n), (2, seed), (3, k), (4, n), (5, seed), (7, c), (8, r), (9, at), (10, left), (11, s), (12, i), (13, m), (14, x), (15, ok)]
noncomputable def m_law04_MatrixAny : MF := ⟨78, [.t 6],
 .seq (
  .ops [
    .p 6 .mv [(.const (.bool false))]]) (
 .seq (
  .ops [
    .p 16 .mv [(.tmp 0)],
    .p 17 (.bin .rem) [(.tmp 16), (.const (.int .u8 5))],
    .p 18 (.conv .i64) [(.tmp 17)],
    .p 19 (.bin .add) [(.const (.int .i64 1)), (.tmp 18)],
    .p 7 .mv [(.tmp 19)]]) (
 .seq (
  .ops [
    .p 20 .mv [(.tmp 7)],
    .p 21 .mv [(.tmp 1)],
    .p 22 (.bin .rem) [(.tmp 21), (.const (.int .u8 8))],
    .p 23 (.conv .i64) [(.tmp 22)],
    .p 24 (.bin .add) [(.tmp 20), (.tmp 23)],
    .p 8 .mv [(.tmp 24)]]) (
 .seq (
  .seq (
   .ops [
     .call (some 25) f_law04_awake [],
     .p 26 .not [(.tmp 25)]]) (
  .cond (.tmp 26) (
    .seq (
     .ops [
       .p 6 .mv [(.const (.bool false))]]) (
    .ret)) (
    .skip))) (
 .seq (
  .ops [
    .p 9 .mv [(.const (.slice none 0 0))]]) (
 .seq (
  .ops [
    .p 27 .mv [(.tmp 7)],
    .p 10 .mv [(.tmp 27)]]) (
 .seq (
  .ops [
    .p 28 .mv [(.tmp 2)],
    .p 11 .mv [(.tmp 28)]]) (
 .seq (
  .seq (
   .ops [
     .p 12 .mv [(.const (.int .i64 0))]]) (
  .block 0 (
   .loop (
    .seq (
     .seq (
      .ops [
        .p 29 .mv [(.tmp 12)],
        .p 30 .mv [(.tmp 8)],
        .p 31 (.bin .lss) [(.tmp 29), (.tmp 30)]]) (
     .cond (.tmp 31) (
       .skip) (
       .exit 0))) (
    .seq (
     .block 1 (
      .seq (
       .seq (
        .ops [
          .p 34 .mv [(.tmp 8)],
          .p 35 .mv [(.tmp 12)],
          .p 36 (.bin .sub) [(.tmp 34), (.tmp 35)],
          .p 37 .mv [(.tmp 10)],
          .p 38 (.bin .eql) [(.tmp 36), (.tmp 37)],
          .p 39 .mv [(.tmp 38)],
          .gd 39 false (some 40) (.p 40 .mv [(.tmp 10)]),
          .gd 39 false (some 41) (.p 41 (.bin .gtr) [(.tmp 40), (.const (.int .i64 0))]),
          .gd 39 false (some 42) (.p 42 .mv [(.tmp 41)]),
          .gd 42 true (some 43) (.p 43 .mv [(.tmp 11)]),
          .gd 42 true (some 44) (.p 44 (.bin .rem) [(.tmp 43), (.const (.int .u32 2))]),
          .gd 42 true (some 45) (.p 45 (.bin .eql) [(.tmp 44), (.const (.int .u32 1))]),
          .gd 39 false (some 46) (.p 46 .pick [(.tmp 42), (.tmp 45), (.const (.bool false))]),
          .p 47 .pick [(.tmp 39), (.const (.bool true)), (.tmp 46)]]) (
       .cond (.tmp 47) (
         .seq (
          .ops [
            .p 48 .mv [(.tmp 9)],
            .p 49 .mv [(.tmp 12)],
            .bsl 50 tInt 1 [(.int .i64 0)] [(0, 1)] [(.tmp 49)],
            .app 51 #[tInts, tInts] tInts (.tmp 48) (.tmp 50),
            .p 9 .mv [(.tmp 51)]]) (
         .ops [
           .p 52 .mv [(.tmp 10)],
           .p 53 (.bin .sub) [(.tmp 52), (.const (.int .i64 1))],
           .p 10 .mv [(.tmp 53)]])) (
         .skip))) (
      .ops [
        .p 54 .mv [(.tmp 11)],
        .p 55 (.bin .quo) [(.tmp 54), (.const (.int .u32 2))],
        .p 11 .mv [(.tmp 55)]]))) (
    .ops [
      .p 32 .mv [(.tmp 12)],
      .p 33 (.bin .add) [(.tmp 32), (.const (.int .i64 1))],
      .p 12 .mv [(.tmp 33)]])))))) (
 .seq (
  .seq (
   .ops [
     .p 56 .mv [(.tmp 10)],
     .p 57 (.bin .neq) [(.tmp 56), (.const (.int .i64 0))]]) (
  .cond (.tmp 57) (
    .seq (
     .ops [
       .p 6 .mv [(.const (.bool false))]]) (
    .ret)) (
    .skip))) (
 .seq (
  .ops [
    .p 58 .mv [(.tmp 7)],
    .p 59 .mv [(.tmp 8)],
    .call (some 60) f_matrix_Coding [(.tmp 58), (.tmp 59)],
    .p 61 .mv [(.tmp 9)],
    .call (some 62) f_matrix_Rows [(.tmp 60), (.tmp 61)],
    .p 13 .mv [(.tmp 62)]]) (
 .seq (
  .ops [
    .p 64 .mv [(.tmp 13)],
    .call (some 65) f_matrix_Invert [(.tmp 64)],
    .p 63 .mv [(.tmp 65)],
    .p 66 (.ext 0) [(.tmp 63)],
    .p 67 (.ext 1) [(.tmp 63)],
    .p 14 .mv [(.tmp 66)],
    .p 15 .mv [(.tmp 67)]]) (
 .seq (
  .ops [
    .p 68 .mv [(.tmp 15)],
    .p 69 .mv [(.tmp 68)],
    .gd 69 true (some 70) (.p 70 .mv [(.tmp 14)]),
    .gd 69 true (some 71) (.p 71 .mv [(.tmp 13)]),
    .gd 69 true (some 72) (.call (some 72) f_ref04_Mul [(.tmp 70), (.tmp 71)]),
    .gd 69 true (some 73) (.p 73 .mv [(.tmp 7)]),
    .gd 69 true (some 74) (.p 74 .mv [(.tmp 7)]),
    .gd 69 true (some 75) (.call (some 75) f_ref04_Coding [(.tmp 73), (.tmp 74)]),
    .gd 69 true (some 76) (.call (some 76) f_ref04_Same [(.tmp 72), (.tmp 75)]),
    .p 77 .pick [(.tmp 69), (.tmp 76), (.const (.bool false))],
    .p 6 .mv [(.tmp 77)]]) (
 .ret))))))))))))⟩

theorem c_law04_MatrixAny : trF Try.prog f_law04_MatrixAny = some m_law04_MatrixAny := by kernel_rfl
-- 7 shardlog/shardloglaw04.MatrixKeeps; slots [(0, m), (1, m), (3, was), (4, i), (5, x), (6, ok), (7, i), (8, y), (9, i)]
noncomputable def m_law04_MatrixKeeps : MF := ⟨83, [.t 2],
 .seq (
  .ops [
    .p 2 .mv [(.const (.bool false))]]) (
 .seq (
  .seq (
   .ops [
     .call (some 10) f_law04_awake [],
     .p 11 .not [(.tmp 10)],
     .p 12 .mv [(.tmp 11)],
     .gd 12 false (some 13) (.p 13 .mv [(.tmp 0)]),
     .gd 12 false (some 14) (.call (some 14) f_ref04_Few [(.tmp 13), (.const (.int .i64 8))]),
     .gd 12 false (some 15) (.p 15 .not [(.tmp 14)]),
     .p 16 .pick [(.tmp 12), (.const (.bool true)), (.tmp 15)]]) (
  .cond (.tmp 16) (
    .seq (
     .ops [
       .call (some 17) f_law04_awake [],
       .p 2 .mv [(.tmp 17)]]) (
    .ret)) (
    .skip))) (
 .seq (
  .ops [
    .p 3 .mv [(.const (.slice none 0 0))]]) (
 .seq (
  .seq (
   .ops [
     .p 4 .mv [(.const (.int .i64 0))]]) (
  .block 0 (
   .loop (
    .seq (
     .seq (
      .ops [
        .p 18 .mv [(.tmp 4)],
        .p 19 .mv [(.tmp 0)],
        .p 20 .len [(.tmp 19)],
        .p 21 (.bin .lss) [(.tmp 18), (.tmp 20)]]) (
     .cond (.tmp 21) (
       .skip) (
       .exit 0))) (
    .seq (
     .block 1 (
      .ops [
        .p 24 .mv [(.tmp 3)],
        .bsl 25 tU8 0 [] [] [],
        .p 26 .mv [(.tmp 0)],
        .p 27 .mv [(.tmp 4)],
        .p 28 (.ixs 1) [(.tmp 26), (.tmp 27)],
        .ld 29 (.tmp 28),
        .app 30 #[tBytes, tBytes] tBytes (.tmp 25) (.tmp 29),
        .bsl 31 tBytes 1 [(.slice none 0 0)] [(0, 1)] [(.tmp 30)],
        .app 32 #[tRows, tRows] tRows (.tmp 24) (.tmp 31),
        .p 3 .mv [(.tmp 32)]])) (
    .ops [
      .p 22 .mv [(.tmp 4)],
      .p 23 (.bin .add) [(.tmp 22), (.const (.int .i64 1))],
      .p 4 .mv [(.tmp 23)]])))))) (
 .seq (
  .ops [
    .p 34 .mv [(.tmp 0)],
    .call (some 35) f_matrix_Invert [(.tmp 34)],
    .p 33 .mv [(.tmp 35)],
    .p 36 (.ext 0) [(.tmp 33)],
    .p 37 (.ext 1) [(.tmp 33)],
    .p 5 .mv [(.tmp 36)],
    .p 6 .mv [(.tmp 37)]]) (
 .seq (
  .seq (
   .ops [
     .p 7 .mv [(.const (.int .i64 0))]]) (
  .block 2 (
   .loop (
    .seq (
     .seq (
      .ops [
        .p 38 .mv [(.tmp 7)],
        .p 39 .mv [(.tmp 5)],
        .p 40 .len [(.tmp 39)],
        .p 41 (.bin .lss) [(.tmp 38), (.tmp 40)],
        .p 42 .mv [(.tmp 41)],
        .gd 42 true (some 43) (.p 43 .mv [(.tmp 6)]),
        .p 44 .pick [(.tmp 42), (.tmp 43), (.const (.bool false))]]) (
     .cond (.tmp 44) (
       .skip) (
       .exit 2))) (
    .seq (
     .block 3 (
      .dr [
        ⟨.p 47 .mv [(.tmp 5)], []⟩,
        ⟨.p 48 .mv [(.tmp 7)], []⟩,
        ⟨.p 49 (.ixs 1) [(.tmp 47), (.tmp 48)], []⟩,
        ⟨.ld 50 (.tmp 49), []⟩,
        ⟨.p 51 .mv [(.tmp 5)], []⟩,
        ⟨.p 52 .mv [(.tmp 7)], []⟩,
        ⟨.p 53 (.ixs 1) [(.tmp 51), (.tmp 52)], []⟩,
        ⟨.ld 54 (.tmp 53), []⟩,
        ⟨.p 55 (.ixs 1) [(.tmp 54), (.const (.int .i64 0))], []⟩,
        ⟨.ld 56 (.tmp 55), []⟩,
        ⟨.p 57 (.bin .xor) [(.tmp 56), (.const (.int .u8 255))], []⟩,
        ⟨.p 58 (.ixs 1) [(.tmp 50), (.const (.int .i64 0))], []⟩,
        ⟨.st 1 false (.tmp 58) (.tmp 57), []⟩])) (
    .ops [
      .p 45 .mv [(.tmp 7)],
      .p 46 (.bin .add) [(.tmp 45), (.const (.int .i64 1))],
      .p 7 .mv [(.tmp 46)]])))))) (
 .seq (
  .ops [
    .p 59 .mv [(.tmp 0)],
    .bsl 60 tInt 1 [(.int .i64 0)] [(0, 1)] [(.const (.int .i64 0))],
    .call (some 61) f_matrix_Rows [(.tmp 59), (.tmp 60)],
    .p 8 .mv [(.tmp 61)]]) (
 .seq (
  .seq (
   .ops [
     .p 9 .mv [(.const (.int .i64 0))]]) (
  .block 4 (
   .loop (
    .seq (
     .seq (
      .ops [
        .p 62 .mv [(.tmp 9)],
        .p 63 .mv [(.tmp 8)],
        .p 64 .len [(.tmp 63)],
        .p 65 (.bin .lss) [(.tmp 62), (.tmp 64)]]) (
     .cond (.tmp 65) (
       .skip) (
       .exit 4))) (
    .seq (
     .block 5 (
      .dr [
        ⟨.p 68 .mv [(.tmp 8)], []⟩,
        ⟨.p 69 .mv [(.tmp 9)], []⟩,
        ⟨.p 70 (.ixs 1) [(.tmp 68), (.tmp 69)], []⟩,
        ⟨.ld 71 (.tmp 70), []⟩,
        ⟨.p 72 .mv [(.tmp 8)], []⟩,
        ⟨.p 73 .mv [(.tmp 9)], []⟩,
        ⟨.p 74 (.ixs 1) [(.tmp 72), (.tmp 73)], []⟩,
        ⟨.ld 75 (.tmp 74), []⟩,
        ⟨.p 76 (.ixs 1) [(.tmp 75), (.const (.int .i64 0))], []⟩,
        ⟨.ld 77 (.tmp 76), []⟩,
        ⟨.p 78 (.bin .xor) [(.tmp 77), (.const (.int .u8 255))], []⟩,
        ⟨.p 79 (.ixs 1) [(.tmp 71), (.const (.int .i64 0))], []⟩,
        ⟨.st 1 false (.tmp 79) (.tmp 78), []⟩])) (
    .ops [
      .p 66 .mv [(.tmp 9)],
      .p 67 (.bin .add) [(.tmp 66), (.const (.int .i64 1))],
      .p 9 .mv [(.tmp 67)]])))))) (
 .seq (
  .ops [
    .p 80 .mv [(.tmp 0)],
    .p 81 .mv [(.tmp 3)],
    .call (some 82) f_ref04_Same [(.tmp 80), (.tmp 81)],
    .p 2 .mv [(.tmp 82)]]) (
 .ret)))))))))⟩

theorem c_law04_MatrixKeeps : trF Try.prog f_law04_MatrixKeeps = some m_law04_MatrixKeeps := by kernel_rfl
-- 8 shardlog/shardloglaw04.MatrixTimes; slots [(0, a), (1, b), (2, c), (3, a), (4, b), (5, c), (7, ab), (8, bc)]
noncomputable def m_law04_MatrixTimes : MF := ⟨84, [.t 6],
 .seq (
  .ops [
    .p 6 .mv [(.const (.bool false))]]) (
 .seq (
  .seq (
   .ops [
     .call (some 9) f_law04_awake [],
     .p 10 .not [(.tmp 9)],
     .p 11 .mv [(.tmp 10)],
     .gd 11 false (some 12) (.p 12 .mv [(.tmp 0)]),
     .gd 11 false (some 13) (.call (some 13) f_ref04_Few [(.tmp 12), (.const (.int .i64 6))]),
     .gd 11 false (some 14) (.p 14 .not [(.tmp 13)]),
     .p 15 .pick [(.tmp 11), (.const (.bool true)), (.tmp 14)],
     .p 16 .mv [(.tmp 15)],
     .gd 16 false (some 17) (.p 17 .mv [(.tmp 1)]),
     .gd 16 false (some 18) (.call (some 18) f_ref04_Few [(.tmp 17), (.const (.int .i64 6))]),
     .gd 16 false (some 19) (.p 19 .not [(.tmp 18)]),
     .p 20 .pick [(.tmp 16), (.const (.bool true)), (.tmp 19)],
     .p 21 .mv [(.tmp 20)],
     .gd 21 false (some 22) (.p 22 .mv [(.tmp 2)]),
     .gd 21 false (some 23) (.call (some 23) f_ref04_Few [(.tmp 22), (.const (.int .i64 6))]),
     .gd 21 false (some 24) (.p 24 .not [(.tmp 23)]),
     .p 25 .pick [(.tmp 21), (.const (.bool true)), (.tmp 24)],
     .p 26 .mv [(.tmp 25)],
     .gd 26 false (some 27) (.p 27 .mv [(.tmp 0)]),
     .gd 26 false (some 28) (.p 28 (.ixs 1) [(.tmp 27), (.const (.int .i64 0))]),
     .gd 26 false (some 29) (.ld 29 (.tmp 28)),
     .gd 26 false (some 30) (.p 30 .len [(.tmp 29)]),
     .gd 26 false (some 31) (.p 31 .mv [(.tmp 1)]),
     .gd 26 false (some 32) (.p 32 .len [(.tmp 31)]),
     .gd 26 false (some 33) (.p 33 (.bin .neq) [(.tmp 30), (.tmp 32)]),
     .p 34 .pick [(.tmp 26), (.const (.bool true)), (.tmp 33)],
     .p 35 .mv [(.tmp 34)],
     .gd 35 false (some 36) (.p 36 .mv [(.tmp 1)]),
     .gd 35 false (some 37) (.p 37 (.ixs 1) [(.tmp 36), (.const (.int .i64 0))]),
     .gd 35 false (some 38) (.ld 38 (.tmp 37)),
     .gd 35 false (some 39) (.p 39 .len [(.tmp 38)]),
     .gd 35 false (some 40) (.p 40 .mv [(.tmp 2)]),
     .gd 35 false (some 41) (.p 41 .len [(.tmp 40)]),
     .gd 35 false (some 42) (.p 42 (.bin .neq) [(.tmp 39), (.tmp 41)]),
     .p 43 .pick [(.tmp 35), (.const (.bool true)), (.tmp 42)]]) (
  .cond (.tmp 43) (
    .seq (
     .ops [
       .call (some 44) f_law04_awake [],
       .p 6 .mv [(.tmp 44)]]) (
    .ret)) (
    .skip))) (
 .seq (
  .ops [
    .p 45 .mv [(.tmp 0)],
    .p 46 .mv [(.tmp 1)],
    .call (some 47) f_matrix_Mul [(.tmp 45), (.tmp 46)],
    .p 7 .mv [(.tmp 47)]]) (
 .seq (
  .ops [
    .p 48 .mv [(.tmp 1)],
    .p 49 .mv [(.tmp 2)],
    .call (some 50) f_matrix_Mul [(.tmp 48), (.tmp 49)],
    .p 8 .mv [(.tmp 50)]]) (
 .seq (
  .seq (
   .ops [
     .p 51 .mv [(.tmp 7)],
     .call (some 52) f_matrix_Right [(.tmp 51)],
     .p 53 .not [(.tmp 52)],
     .p 54 .mv [(.tmp 53)],
     .gd 54 false (some 55) (.p 55 .mv [(.tmp 8)]),
     .gd 54 false (some 56) (.call (some 56) f_matrix_Right [(.tmp 55)]),
     .gd 54 false (some 57) (.p 57 .not [(.tmp 56)]),
     .p 58 .pick [(.tmp 54), (.const (.bool true)), (.tmp 57)]]) (
  .cond (.tmp 58) (
    .seq (
     .ops [
       .p 6 .mv [(.const (.bool false))]]) (
    .ret)) (
    .skip))) (
 .seq (
  .dr [
    ⟨.p 59 .mv [(.tmp 7)], []⟩,
    ⟨.p 60 .mv [(.tmp 2)], []⟩,
    ⟨.p 62 .mv [(.tmp 0)], []⟩,
    ⟨.p 63 .mv [(.tmp 8)], []⟩,
    ⟨.call (some 61) f_matrix_Mul [(.tmp 59), (.tmp 60)], []⟩,
    ⟨.call (some 64) f_matrix_Mul [(.tmp 62), (.tmp 63)], []⟩,
    ⟨.call (some 65) f_ref04_Same [(.tmp 61), (.tmp 64)], []⟩,
    ⟨.p 66 .mv [(.tmp 65)], []⟩,
    ⟨.gd 66 true (some 67) (.p 67 .mv [(.tmp 7)]), []⟩,
    ⟨.gd 66 true (some 68) (.p 68 .len [(.tmp 67)]), []⟩,
    ⟨.gd 66 true (some 69) (.p 69 .mv [(.tmp 0)]), []⟩,
    ⟨.gd 66 true (some 70) (.p 70 .len [(.tmp 69)]), []⟩,
    ⟨.gd 66 true (some 71) (.p 71 (.bin .eql) [(.tmp 68), (.tmp 70)]), []⟩,
    ⟨.p 72 .pick [(.tmp 66), (.tmp 71), (.const (.bool false))], []⟩,
    ⟨.p 73 .mv [(.tmp 72)], []⟩,
    ⟨.gd 73 true (some 74) (.p 74 .mv [(.tmp 7)]), []⟩,
    ⟨.gd 73 true (some 75) (.p 75 (.ixs 1) [(.tmp 74), (.const (.int .i64 0))]), []⟩,
    ⟨.gd 73 true (some 76) (.ld 76 (.tmp 75)), []⟩,
    ⟨.gd 73 true (some 77) (.p 77 .len [(.tmp 76)]), []⟩,
    ⟨.gd 73 true (some 78) (.p 78 .mv [(.tmp 1)]), []⟩,
    ⟨.gd 73 true (some 79) (.p 79 (.ixs 1) [(.tmp 78), (.const (.int .i64 0))]), []⟩,
    ⟨.gd 73 true (some 80) (.ld 80 (.tmp 79)), []⟩,
    ⟨.gd 73 true (some 81) (.p 81 .len [(.tmp 80)]), []⟩,
    ⟨.gd 73 true (some 82) (.p 82 (.bin .eql) [(.tmp 77), (.tmp 81)]), []⟩,
    ⟨.p 83 .pick [(.tmp 73), (.tmp 82), (.const (.bool false))], []⟩,
    ⟨.p 6 .mv [(.tmp 83)], []⟩]) (
 .ret))))))⟩

theorem c_law04_MatrixTimes : trF Try.prog f_law04_MatrixTimes = some m_law04_MatrixTimes := by kernel_rfl
-- 9 shardlog/shardloglaw05.CodeEncodes; slots [(0, s), (1, v), (2, s), (3, v), (5, l), (6, e)]
noncomputable def m_law05_CodeEncodes : MF := ⟨67, [.t 4],
 .seq (
  .ops [
    .box 2 t_api_Shape (.tmp 0),
    .p 4 .mv [(.const (.bool false))]]) (
 .seq (
  .seq (
   .ops [
     .call (some 7) f_law05_awake [],
     .p 8 .not [(.tmp 7)],
     .p 9 .mv [(.tmp 8)],
     .gd 9 false (some 10) (.p 10 .mv [(.tmp 1)]),
     .gd 9 false (some 11) (.p 11 .lens [(.tmp 10)]),
     .gd 9 false (some 12) (.p 12 (.bin .gtr) [(.tmp 11), (.const (.int .i64 1000))]),
     .p 13 .pick [(.tmp 9), (.const (.bool true)), (.tmp 12)]]) (
  .cond (.tmp 13) (
    .seq (
     .ops [
       .call (some 14) f_law05_awake [],
       .p 4 .mv [(.tmp 14)]]) (
    .ret)) (
    .skip))) (
 .seq (
  .ops [
    .ldn 16 2 (.tmp 2),
    .p 17 .mv [(.tmp 1)],
    .call (some 18) f_code_Encode [(.tmp 16), (.tmp 17)],
    .p 15 .mv [(.tmp 18)],
    .p 19 (.ext 0) [(.tmp 15)],
    .p 20 (.ext 1) [(.tmp 15)],
    .p 5 .mv [(.tmp 19)],
    .p 6 .mv [(.tmp 20)]]) (
 .seq (
  .seq (
   .dr [
     ⟨.ldn 21 2 (.tmp 2), []⟩,
     ⟨.ldn 23 2 (.tmp 2), []⟩,
     ⟨.call (some 22) f_code_Right [(.tmp 21)], [.ldn 23 2 (.tmp 2)]⟩,
     ⟨.call (some 24) f_ref05_Right [(.tmp 23)], []⟩,
     ⟨.p 25 (.binb .neq) [(.tmp 22), (.tmp 24)], []⟩]) (
  .cond (.tmp 25) (
    .seq (
     .ops [
       .p 4 .mv [(.const (.bool false))]]) (
    .ret)) (
    .skip))) (
 .seq (
  .seq (
   .ops [
     .ldn 26 2 (.tmp 2),
     .call (some 27) f_ref05_Right [(.tmp 26)],
     .p 28 .not [(.tmp 27)]]) (
  .cond (.tmp 28) (
    .seq (
     .ops [
       .p 29 .mv [(.tmp 6)],
       .p 30 (.bin .eql) [(.tmp 29), (.const (.int .i64 1))],
       .p 31 .mv [(.tmp 30)],
       .gd 31 true (some 32) (.p 32 .mv [(.tmp 5)]),
       .gd 31 true (some 33) (.p 33 .len [(.tmp 32)]),
       .gd 31 true (some 34) (.p 34 (.bin .eql) [(.tmp 33), (.const (.int .i64 0))]),
       .p 35 .pick [(.tmp 31), (.tmp 34), (.const (.bool false))],
       .p 36 .mv [(.tmp 35)],
       .gd 36 true (some 37) (.ldn 37 2 (.tmp 2)),
       .gd 36 true (some 38) (.call (some 38) f_code_N [(.tmp 37)]),
       .gd 36 true (some 39) (.p 39 (.bin .eql) [(.tmp 38), (.const (.int .i64 0))]),
       .p 40 .pick [(.tmp 36), (.tmp 39), (.const (.bool false))],
       .p 4 .mv [(.tmp 40)]]) (
    .ret)) (
    .skip))) (
 .seq (
  .seq (
   .ops [
     .p 41 .mv [(.tmp 1)],
     .p 42 .lens [(.tmp 41)],
     .p 43 (.bin .gtr) [(.tmp 42), (.const (.int .i64 512))]]) (
  .cond (.tmp 43) (
    .seq (
     .ops [
       .p 44 .mv [(.tmp 6)],
       .p 45 (.bin .eql) [(.tmp 44), (.const (.int .i64 7))],
       .p 46 .mv [(.tmp 45)],
       .gd 46 true (some 47) (.p 47 .mv [(.tmp 5)]),
       .gd 46 true (some 48) (.p 48 .len [(.tmp 47)]),
       .gd 46 true (some 49) (.p 49 (.bin .eql) [(.tmp 48), (.const (.int .i64 0))]),
       .p 50 .pick [(.tmp 46), (.tmp 49), (.const (.bool false))],
       .p 4 .mv [(.tmp 50)]]) (
    .ret)) (
    .skip))) (
 .seq (
  .dr [
    ⟨.p 51 .mv [(.tmp 6)], []⟩,
    ⟨.p 52 (.bin .eql) [(.tmp 51), (.const (.int .i64 0))], []⟩,
    ⟨.p 53 .mv [(.tmp 52)], []⟩,
    ⟨.gd 53 true (some 54) (.ldn 54 2 (.tmp 2)), []⟩,
    ⟨.gd 53 true (some 56) (.ldn 56 2 (.tmp 2)), []⟩,
    ⟨.gd 53 true (some 55) (.call (some 55) f_code_N [(.tmp 54)]), [.gd 53 true (some 56) (.ldn 56 2 (.tmp 2))]⟩,
    ⟨.gd 53 true (some 57) (.call (some 57) f_ref05_N [(.tmp 56)]), []⟩,
    ⟨.gd 53 true (some 58) (.p 58 (.bin .eql) [(.tmp 55), (.tmp 57)]), []⟩,
    ⟨.p 59 .pick [(.tmp 53), (.tmp 58), (.const (.bool false))], []⟩,
    ⟨.p 60 .mv [(.tmp 59)], []⟩,
    ⟨.gd 60 true (some 61) (.p 61 .mv [(.tmp 5)]), []⟩,
    ⟨.gd 60 true (some 62) (.ldn 62 2 (.tmp 2)), []⟩,
    ⟨.gd 60 true (some 63) (.p 63 .mv [(.tmp 1)]), []⟩,
    ⟨.gd 60 true (some 64) (.call (some 64) f_ref05_Encode [(.tmp 62), (.tmp 63)]), []⟩,
    ⟨.gd 60 true (some 65) (.call (some 65) f_ref04_Same [(.tmp 61), (.tmp 64)]), []⟩,
    ⟨.p 66 .pick [(.tmp 60), (.tmp 65), (.const (.bool false))], []⟩,
    ⟨.p 4 .mv [(.tmp 66)], []⟩]) (
 .ret)))))))⟩

theorem c_law05_CodeEncodes : trF Try.prog f_law05_CodeEncodes = some m_law05_CodeEncodes := by kernel_rfl
-- 10 shardlog/shardloglaw05.CodeAny; slots [(0, a), (1, b), (2, v), (3, gone), (4, a), (5, b), (6, v), (7, gone), (9, s), (10, l), (11, e), (12, x), (13, w), (14, f), (15, i), (16, y), (17, g)]
noncomputable def m_law05_CodeAny : MF := ⟨88, [.t 8],
 .seq (
  .ops [
    .p 8 .mv [(.const (.bool false))]]) (
 .seq (
  .ops [
    .p 18 .mv [(.tmp 0)],
    .p 19 .mv [(.tmp 1)],
    .call (some 20) f_ref05_Shape [(.tmp 18), (.tmp 19)],
    .new 9 t_api_Shape [(.int .i64 0), (.int .i64 0)],
    .st 2 true (.tmp 9) (.tmp 20)]) (
 .seq (
  .seq (
   .ops [
     .call (some 21) f_law05_awake [],
     .p 22 .not [(.tmp 21)],
     .p 23 .mv [(.tmp 22)],
     .gd 23 false (some 24) (.p 24 .mv [(.tmp 2)]),
     .gd 23 false (some 25) (.p 25 .lens [(.tmp 24)]),
     .gd 23 false (some 26) (.p 26 (.bin .gtr) [(.tmp 25), (.const (.int .i64 512))]),
     .p 27 .pick [(.tmp 23), (.const (.bool true)), (.tmp 26)]]) (
  .cond (.tmp 27) (
    .seq (
     .ops [
       .call (some 28) f_law05_awake [],
       .p 8 .mv [(.tmp 28)]]) (
    .ret)) (
    .skip))) (
 .seq (
  .ops [
    .ldn 30 2 (.tmp 9),
    .p 31 .mv [(.tmp 2)],
    .call (some 32) f_code_Encode [(.tmp 30), (.tmp 31)],
    .p 29 .mv [(.tmp 32)],
    .p 33 (.ext 0) [(.tmp 29)],
    .p 34 (.ext 1) [(.tmp 29)],
    .p 10 .mv [(.tmp 33)],
    .p 11 .mv [(.tmp 34)]]) (
 .seq (
  .seq (
   .ops [
     .p 35 .mv [(.tmp 11)],
     .p 36 (.bin .neq) [(.tmp 35), (.const (.int .i64 0))]]) (
  .cond (.tmp 36) (
    .seq (
     .ops [
       .p 8 .mv [(.const (.bool false))]]) (
    .ret)) (
    .skip))) (
 .seq (
  .ops [
    .p 37 .mv [(.tmp 10)],
    .p 38 .mv [(.tmp 3)],
    .call (some 39) f_ref05_Without [(.tmp 37), (.tmp 38)],
    .p 12 .mv [(.tmp 39)]]) (
 .seq (
  .ops [
    .ldn 41 2 (.tmp 9),
    .p 42 .mv [(.tmp 12)],
    .call (some 43) f_code_Decode [(.tmp 41), (.tmp 42)],
    .p 40 .mv [(.tmp 43)],
    .p 44 (.ext 0) [(.tmp 40)],
    .p 45 (.ext 1) [(.tmp 40)],
    .p 13 .mv [(.tmp 44)],
    .p 14 .mv [(.tmp 45)]]) (
 .seq (
  .seq (
   .dr [
     ⟨.p 46 .mv [(.tmp 12)], []⟩,
     ⟨.p 48 (.fad 0) [(.tmp 9)], []⟩,
     ⟨.ld 49 (.tmp 48), []⟩,
     ⟨.call (some 47) f_ref05_There [(.tmp 46)], [.ld 49 (.tmp 48)]⟩,
     ⟨.p 50 (.bin .lss) [(.tmp 47), (.tmp 49)], []⟩]) (
  .cond (.tmp 50) (
    .seq (
     .ops [
       .p 51 .mv [(.tmp 14)],
       .p 52 (.bin .eql) [(.tmp 51), (.const (.int .i64 3))],
       .p 53 .mv [(.tmp 52)],
       .gd 53 true (some 54) (.p 54 .mv [(.tmp 13)]),
       .gd 53 true (some 55) (.p 55 (.bin .eql) [(.tmp 54), (.const (.string .empty))]),
       .p 56 .pick [(.tmp 53), (.tmp 55), (.const (.bool false))],
       .p 8 .mv [(.tmp 56)]]) (
    .ret)) (
    .skip))) (
 .seq (
  .seq (
   .ops [
     .p 57 .mv [(.tmp 14)],
     .p 58 (.bin .neq) [(.tmp 57), (.const (.int .i64 0))],
     .p 59 .mv [(.tmp 58)],
     .gd 59 false (some 60) (.p 60 .mv [(.tmp 13)]),
     .gd 59 false (some 61) (.p 61 .mv [(.tmp 2)]),
     .gd 59 false (some 62) (.p 62 (.bin .neq) [(.tmp 60), (.tmp 61)]),
     .p 63 .pick [(.tmp 59), (.const (.bool true)), (.tmp 62)]]) (
  .cond (.tmp 63) (
    .seq (
     .ops [
       .p 8 .mv [(.const (.bool false))]]) (
    .ret)) (
    .skip))) (
 .seq (
  .seq (
   .ops [
     .p 15 .mv [(.const (.int .i64 0))]]) (
  .block 0 (
   .loop (
    .seq (
     .seq (
      .ops [
        .p 64 .mv [(.tmp 15)],
        .p 65 .mv [(.tmp 10)],
        .p 66 .len [(.tmp 65)],
        .p 67 (.bin .lss) [(.tmp 64), (.tmp 66)]]) (
     .cond (.tmp 67) (
       .skip) (
       .exit 0))) (
    .seq (
     .block 1 (
      .seq (
       .ops [
         .ldn 71 2 (.tmp 9),
         .p 72 .mv [(.tmp 12)],
         .p 73 .mv [(.tmp 15)],
         .call (some 74) f_code_Rebuild [(.tmp 71), (.tmp 72), (.tmp 73)],
         .p 70 .mv [(.tmp 74)],
         .p 75 (.ext 0) [(.tmp 70)],
         .p 76 (.ext 1) [(.tmp 70)],
         .p 16 .mv [(.tmp 75)],
         .p 17 .mv [(.tmp 76)]]) (
      .seq (
       .ops [
         .p 77 .mv [(.tmp 17)],
         .p 78 (.bin .neq) [(.tmp 77), (.const (.int .i64 0))],
         .p 79 .mv [(.tmp 78)],
         .gd 79 false (some 80) (.p 80 .mv [(.tmp 16)]),
         .gd 79 false (some 81) (.p 81 .mv [(.tmp 10)]),
         .gd 79 false (some 82) (.p 82 .mv [(.tmp 15)]),
         .gd 79 false (some 83) (.p 83 (.ixs 1) [(.tmp 81), (.tmp 82)]),
         .gd 79 false (some 84) (.ld 84 (.tmp 83)),
         .gd 79 false (some 85) (.call (some 85) f_ref01_Same [(.tmp 80), (.tmp 84)]),
         .gd 79 false (some 86) (.p 86 .not [(.tmp 85)]),
         .p 87 .pick [(.tmp 79), (.const (.bool true)), (.tmp 86)]]) (
      .cond (.tmp 87) (
        .seq (
         .ops [
           .p 8 .mv [(.const (.bool false))]]) (
        .ret)) (
        .skip))))) (
    .ops [
      .p 68 .mv [(.tmp 15)],
      .p 69 (.bin .add) [(.tmp 68), (.const (.int .i64 1))],
      .p 15 .mv [(.tmp 69)]])))))) (
 .seq (
  .ops [
    .p 8 .mv [(.const (.bool true))]]) (
 .ret)))))))))))⟩

theorem c_law05_CodeAny : trF Try.prog f_law05_CodeAny = some m_law05_CodeAny := by kernel_rfl
-- 11 shardlog/shardloglaw05.CodeDecodes; slots [(0, s), (1, l), (2, s), (3, l), (5, i), (6, v), (7, e)]
noncomputable def m_law05_CodeDecodes : MF := ⟨78, [.t 4],
 .seq (
  .ops [
    .box 2 t_api_Shape (.tmp 0),
    .p 4 .mv [(.const (.bool false))]]) (
 .seq (
  .seq (
   .ops [
     .call (some 8) f_law05_awake [],
     .p 9 .not [(.tmp 8)],
     .p 10 .mv [(.tmp 9)],
     .gd 10 false (some 11) (.p 11 .mv [(.tmp 1)]),
     .gd 10 false (some 12) (.p 12 .len [(.tmp 11)]),
     .gd 10 false (some 13) (.p 13 (.bin .gtr) [(.tmp 12), (.const (.int .i64 10))]),
     .p 14 .pick [(.tmp 10), (.const (.bool true)), (.tmp 13)]]) (
  .cond (.tmp 14) (
    .seq (
     .ops [
       .call (some 15) f_law05_awake [],
       .p 4 .mv [(.tmp 15)]]) (
    .ret)) (
    .skip))) (
 .seq (
  .seq (
   .ops [
     .p 5 .mv [(.const (.int .i64 0))]]) (
  .block 0 (
   .loop (
    .seq (
     .seq (
      .ops [
        .p 16 .mv [(.tmp 5)],
        .p 17 .mv [(.tmp 1)],
        .p 18 .len [(.tmp 17)],
        .p 19 (.bin .lss) [(.tmp 16), (.tmp 18)]]) (
     .cond (.tmp 19) (
       .skip) (
       .exit 0))) (
    .seq (
     .block 1 (
      .seq (
       .ops [
         .p 22 .mv [(.tmp 1)],
         .p 23 .mv [(.tmp 5)],
         .p 24 (.ixs 1) [(.tmp 22), (.tmp 23)],
         .ld 25 (.tmp 24),
         .p 26 .len [(.tmp 25)],
         .p 27 (.bin .gtr) [(.tmp 26), (.const (.int .i64 600))]]) (
      .cond (.tmp 27) (
        .seq (
         .ops [
           .p 4 .mv [(.const (.bool true))]]) (
        .ret)) (
        .skip)))) (
    .ops [
      .p 20 .mv [(.tmp 5)],
      .p 21 (.bin .add) [(.tmp 20), (.const (.int .i64 1))],
      .p 5 .mv [(.tmp 21)]])))))) (
 .seq (
  .ops [
    .ldn 29 2 (.tmp 2),
    .p 30 .mv [(.tmp 1)],
    .call (some 31) f_code_Decode [(.tmp 29), (.tmp 30)],
    .p 28 .mv [(.tmp 31)],
    .p 32 (.ext 0) [(.tmp 28)],
    .p 33 (.ext 1) [(.tmp 28)],
    .p 6 .mv [(.tmp 32)],
    .p 7 .mv [(.tmp 33)]]) (
 .seq (
  .seq (
   .ops [
     .ldn 34 2 (.tmp 2),
     .call (some 35) f_ref05_Right [(.tmp 34)],
     .p 36 .not [(.tmp 35)],
     .p 37 .mv [(.tmp 36)],
     .gd 37 false (some 38) (.p 38 .mv [(.tmp 1)]),
     .gd 37 false (some 39) (.p 39 .len [(.tmp 38)]),
     .gd 37 false (some 40) (.ldn 40 2 (.tmp 2)),
     .gd 37 false (some 41) (.call (some 41) f_ref05_N [(.tmp 40)]),
     .gd 37 false (some 42) (.p 42 (.bin .neq) [(.tmp 39), (.tmp 41)]),
     .p 43 .pick [(.tmp 37), (.const (.bool true)), (.tmp 42)]]) (
  .cond (.tmp 43) (
    .seq (
     .ops [
       .p 44 .mv [(.tmp 7)],
       .p 45 (.bin .eql) [(.tmp 44), (.const (.int .i64 1))],
       .p 46 .mv [(.tmp 45)],
       .gd 46 true (some 47) (.p 47 .mv [(.tmp 6)]),
       .gd 46 true (some 48) (.p 48 (.bin .eql) [(.tmp 47), (.const (.string .empty))]),
       .p 49 .pick [(.tmp 46), (.tmp 48), (.const (.bool false))],
       .p 4 .mv [(.tmp 49)]]) (
    .ret)) (
    .skip))) (
 .seq (
  .seq (
   .dr [
     ⟨.p 50 .mv [(.tmp 1)], []⟩,
     ⟨.p 52 (.fad 0) [(.tmp 2)], []⟩,
     ⟨.ld 53 (.tmp 52), []⟩,
     ⟨.call (some 51) f_ref05_There [(.tmp 50)], [.ld 53 (.tmp 52)]⟩,
     ⟨.p 54 (.bin .lss) [(.tmp 51), (.tmp 53)], []⟩]) (
  .cond (.tmp 54) (
    .seq (
     .ops [
       .p 55 .mv [(.tmp 7)],
       .p 56 (.bin .eql) [(.tmp 55), (.const (.int .i64 3))],
       .p 57 .mv [(.tmp 56)],
       .gd 57 true (some 58) (.p 58 .mv [(.tmp 6)]),
       .gd 57 true (some 59) (.p 59 (.bin .eql) [(.tmp 58), (.const (.string .empty))]),
       .p 60 .pick [(.tmp 57), (.tmp 59), (.const (.bool false))],
       .p 4 .mv [(.tmp 60)]]) (
    .ret)) (
    .skip))) (
 .seq (
  .seq (
   .ops [
     .p 61 .mv [(.tmp 7)],
     .p 62 (.bin .neq) [(.tmp 61), (.const (.int .i64 0))]]) (
  .cond (.tmp 62) (
    .seq (
     .ops [
       .p 63 .mv [(.tmp 7)],
       .p 64 (.bin .eql) [(.tmp 63), (.const (.int .i64 2))],
       .p 65 .mv [(.tmp 64)],
       .gd 65 true (some 66) (.p 66 .mv [(.tmp 6)]),
       .gd 65 true (some 67) (.p 67 (.bin .eql) [(.tmp 66), (.const (.string .empty))]),
       .p 68 .pick [(.tmp 65), (.tmp 67), (.const (.bool false))],
       .p 4 .mv [(.tmp 68)]]) (
    .ret)) (
    .skip))) (
 .seq (
  .ops [
    .p 69 .mv [(.tmp 6)],
    .p 70 .lens [(.tmp 69)],
    .p 71 (.bin .leq) [(.tmp 70), (.const (.int .i64 512))],
    .p 72 .mv [(.tmp 71)],
    .gd 72 true (some 73) (.ldn 73 2 (.tmp 2)),
    .gd 72 true (some 74) (.p 74 .mv [(.tmp 6)]),
    .gd 72 true (some 75) (.p 75 .mv [(.tmp 1)]),
    .gd 72 true (some 76) (.call (some 76) f_ref05_Agrees [(.tmp 73), (.tmp 74), (.tmp 75)]),
    .p 77 .pick [(.tmp 72), (.tmp 76), (.const (.bool false))],
    .p 4 .mv [(.tmp 77)]]) (
 .ret))))))))⟩

theorem c_law05_CodeDecodes : trF Try.prog f_law05_CodeDecodes = some m_law05_CodeDecodes := by kernel_rfl
-- 12 shardlog/shardloglaw05.CodeTurned; slots [(0, a), (1, b), (2, v), (3, which), (4, at), (5, turn), (6, a), (7, b), (8, v), (9, which), (10, at), (11, turn), (13, s), (14, l), (15, e), (16, x), (17, i), (18, w), (19, f)]
noncomputable def m_law05_CodeTurned : MF := ⟨101, [.t 12],
 .seq (
  .ops [
    .p 12 .mv [(.const (.bool false))]]) (
 .seq (
  .ops [
    .p 20 .mv [(.tmp 0)],
    .p 21 .mv [(.tmp 1)],
    .call (some 22) f_ref05_Shape [(.tmp 20), (.tmp 21)],
    .new 13 t_api_Shape [(.int .i64 0), (.int .i64 0)],
    .st 2 true (.tmp 13) (.tmp 22)]) (
 .seq (
  .seq (
   .ops [
     .call (some 23) f_law05_awake [],
     .p 24 .not [(.tmp 23)],
     .p 25 .mv [(.tmp 24)],
     .gd 25 false (some 26) (.p 26 .mv [(.tmp 2)]),
     .gd 25 false (some 27) (.p 27 .lens [(.tmp 26)]),
     .gd 25 false (some 28) (.p 28 (.bin .gtr) [(.tmp 27), (.const (.int .i64 512))]),
     .p 29 .pick [(.tmp 25), (.const (.bool true)), (.tmp 28)],
     .p 30 .mv [(.tmp 29)],
     .gd 30 false (some 31) (.p 31 .mv [(.tmp 5)]),
     .gd 30 false (some 32) (.p 32 (.bin .eql) [(.tmp 31), (.const (.int .u8 0))]),
     .p 33 .pick [(.tmp 30), (.const (.bool true)), (.tmp 32)]]) (
  .cond (.tmp 33) (
    .seq (
     .ops [
       .call (some 34) f_law05_awake [],
       .p 12 .mv [(.tmp 34)]]) (
    .ret)) (
    .skip))) (
 .seq (
  .ops [
    .ldn 36 2 (.tmp 13),
    .p 37 .mv [(.tmp 2)],
    .call (some 38) f_code_Encode [(.tmp 36), (.tmp 37)],
    .p 35 .mv [(.tmp 38)],
    .p 39 (.ext 0) [(.tmp 35)],
    .p 40 (.ext 1) [(.tmp 35)],
    .p 14 .mv [(.tmp 39)],
    .p 15 .mv [(.tmp 40)]]) (
 .seq (
  .seq (
   .ops [
     .p 41 .mv [(.tmp 15)],
     .p 42 (.bin .neq) [(.tmp 41), (.const (.int .i64 0))]]) (
  .cond (.tmp 42) (
    .seq (
     .ops [
       .p 12 .mv [(.const (.bool false))]]) (
    .ret)) (
    .skip))) (
 .seq (
  .ops [
    .p 43 .mv [(.tmp 14)],
    .call (some 44) f_ref05_Without [(.tmp 43), (.const (.int .u8 0))],
    .p 16 .mv [(.tmp 44)]]) (
 .seq (
  .ops [
    .p 45 .mv [(.tmp 3)],
    .p 46 (.conv .i64) [(.tmp 45)],
    .p 47 .mv [(.tmp 16)],
    .p 48 .len [(.tmp 47)],
    .p 49 (.bin .rem) [(.tmp 46), (.tmp 48)],
    .p 17 .mv [(.tmp 49)]]) (
 .seq (
  .dr [
    ⟨.p 50 .mv [(.tmp 16)], []⟩,
    ⟨.p 51 .mv [(.tmp 17)], []⟩,
    ⟨.p 52 (.ixs 1) [(.tmp 50), (.tmp 51)], []⟩,
    ⟨.ld 53 (.tmp 52), []⟩,
    ⟨.p 54 .mv [(.tmp 4)], []⟩,
    ⟨.p 55 (.conv .i64) [(.tmp 54)], []⟩,
    ⟨.p 56 .mv [(.tmp 16)], []⟩,
    ⟨.p 57 .mv [(.tmp 17)], []⟩,
    ⟨.p 58 (.ixs 1) [(.tmp 56), (.tmp 57)], []⟩,
    ⟨.ld 59 (.tmp 58), []⟩,
    ⟨.p 60 .len [(.tmp 59)], []⟩,
    ⟨.p 61 (.bin .rem) [(.tmp 55), (.tmp 60)], []⟩,
    ⟨.p 62 .mv [(.tmp 16)], []⟩,
    ⟨.p 63 .mv [(.tmp 17)], []⟩,
    ⟨.p 64 (.ixs 1) [(.tmp 62), (.tmp 63)], []⟩,
    ⟨.ld 65 (.tmp 64), []⟩,
    ⟨.p 66 .mv [(.tmp 4)], []⟩,
    ⟨.p 67 (.conv .i64) [(.tmp 66)], []⟩,
    ⟨.p 68 .mv [(.tmp 16)], []⟩,
    ⟨.p 69 .mv [(.tmp 17)], []⟩,
    ⟨.p 70 (.ixs 1) [(.tmp 68), (.tmp 69)], []⟩,
    ⟨.ld 71 (.tmp 70), []⟩,
    ⟨.p 72 .len [(.tmp 71)], []⟩,
    ⟨.p 73 (.bin .rem) [(.tmp 67), (.tmp 72)], []⟩,
    ⟨.p 74 (.ixs 1) [(.tmp 65), (.tmp 73)], []⟩,
    ⟨.ld 75 (.tmp 74), []⟩,
    ⟨.p 76 .mv [(.tmp 5)], []⟩,
    ⟨.p 77 (.bin .xor) [(.tmp 75), (.tmp 76)], []⟩,
    ⟨.p 78 (.ixs 1) [(.tmp 53), (.tmp 61)], []⟩,
    ⟨.st 1 false (.tmp 78) (.tmp 77), []⟩]) (
 .seq (
  .ops [
    .ldn 80 2 (.tmp 13),
    .p 81 .mv [(.tmp 16)],
    .call (some 82) f_code_Decode [(.tmp 80), (.tmp 81)],
    .p 79 .mv [(.tmp 82)],
    .p 83 (.ext 0) [(.tmp 79)],
    .p 84 (.ext 1) [(.tmp 79)],
    .p 18 .mv [(.tmp 83)],
    .p 19 .mv [(.tmp 84)]]) (
 .seq (
  .seq (
   .ops [
     .p 85 (.fad 1) [(.tmp 13)],
     .ld 86 (.tmp 85),
     .p 87 (.bin .gtr) [(.tmp 86), (.const (.int .i64 0))]]) (
  .cond (.tmp 87) (
    .seq (
     .ops [
       .p 88 .mv [(.tmp 19)],
       .p 89 (.bin .eql) [(.tmp 88), (.const (.int .i64 2))],
       .p 90 .mv [(.tmp 89)],
       .gd 90 true (some 91) (.p 91 .mv [(.tmp 18)]),
       .gd 90 true (some 92) (.p 92 (.bin .eql) [(.tmp 91), (.const (.string .empty))]),
       .p 93 .pick [(.tmp 90), (.tmp 92), (.const (.bool false))],
       .p 12 .mv [(.tmp 93)]]) (
    .ret)) (
    .skip))) (
 .seq (
  .ops [
    .p 94 .mv [(.tmp 18)],
    .p 95 .mv [(.tmp 2)],
    .p 96 (.bin .neq) [(.tmp 94), (.tmp 95)],
    .p 97 .mv [(.tmp 96)],
    .gd 97 false (some 98) (.p 98 .mv [(.tmp 19)]),
    .gd 97 false (some 99) (.p 99 (.bin .neq) [(.tmp 98), (.const (.int .i64 0))]),
    .p 100 .pick [(.tmp 97), (.const (.bool true)), (.tmp 99)],
    .p 12 .mv [(.tmp 100)]]) (
 .ret)))))))))))⟩

theorem c_law05_CodeTurned : trF Try.prog f_law05_CodeTurned = some m_law05_CodeTurned := by kernel_rfl
-- 13 shardlog/shardloglaw05.CodeKeeps; slots [(0, a), (1, b), (2, v), (3, a), (4, b), (5, v), (7, s), (8, l), (9, e), (10, was), (11, x), (12, _), (13, i), (14, m), (15, f)]
noncomputable def m_law05_CodeKeeps : MF := ⟨75, [.t 6],
 .seq (
  .ops [
    .p 6 .mv [(.const (.bool false))]]) (
 .seq (
  .ops [
    .p 16 .mv [(.tmp 0)],
    .p 17 .mv [(.tmp 1)],
    .call (some 18) f_ref05_Shape [(.tmp 16), (.tmp 17)],
    .new 7 t_api_Shape [(.int .i64 0), (.int .i64 0)],
    .st 2 true (.tmp 7) (.tmp 18)]) (
 .seq (
  .seq (
   .ops [
     .call (some 19) f_law05_awake [],
     .p 20 .not [(.tmp 19)],
     .p 21 .mv [(.tmp 20)],
     .gd 21 false (some 22) (.p 22 .mv [(.tmp 2)]),
     .gd 21 false (some 23) (.p 23 .lens [(.tmp 22)]),
     .gd 21 false (some 24) (.p 24 (.bin .gtr) [(.tmp 23), (.const (.int .i64 512))]),
     .p 25 .pick [(.tmp 21), (.const (.bool true)), (.tmp 24)]]) (
  .cond (.tmp 25) (
    .seq (
     .ops [
       .call (some 26) f_law05_awake [],
       .p 6 .mv [(.tmp 26)]]) (
    .ret)) (
    .skip))) (
 .seq (
  .ops [
    .ldn 28 2 (.tmp 7),
    .p 29 .mv [(.tmp 2)],
    .call (some 30) f_code_Encode [(.tmp 28), (.tmp 29)],
    .p 27 .mv [(.tmp 30)],
    .p 31 (.ext 0) [(.tmp 27)],
    .p 32 (.ext 1) [(.tmp 27)],
    .p 8 .mv [(.tmp 31)],
    .p 9 .mv [(.tmp 32)]]) (
 .seq (
  .seq (
   .ops [
     .p 33 .mv [(.tmp 9)],
     .p 34 (.bin .neq) [(.tmp 33), (.const (.int .i64 0))]]) (
  .cond (.tmp 34) (
    .seq (
     .ops [
       .p 6 .mv [(.const (.bool false))]]) (
    .ret)) (
    .skip))) (
 .seq (
  .ops [
    .p 35 .mv [(.tmp 8)],
    .call (some 36) f_ref05_Without [(.tmp 35), (.const (.int .u8 0))],
    .p 10 .mv [(.tmp 36)]]) (
 .seq (
  .ops [
    .ldn 38 2 (.tmp 7),
    .p 39 .mv [(.tmp 8)],
    .call (some 40) f_code_Rebuild [(.tmp 38), (.tmp 39), (.const (.int .i64 0))],
    .p 37 .mv [(.tmp 40)],
    .p 41 (.ext 0) [(.tmp 37)],
    .p 42 (.ext 1) [(.tmp 37)],
    .p 11 .mv [(.tmp 41)],
    .p 12 .mv [(.tmp 42)]]) (
 .seq (
  .seq (
   .ops [
     .p 13 .mv [(.const (.int .i64 0))]]) (
  .block 0 (
   .loop (
    .seq (
     .seq (
      .ops [
        .p 43 .mv [(.tmp 13)],
        .p 44 .mv [(.tmp 11)],
        .p 45 .len [(.tmp 44)],
        .p 46 (.bin .lss) [(.tmp 43), (.tmp 45)]]) (
     .cond (.tmp 46) (
       .skip) (
       .exit 0))) (
    .seq (
     .block 1 (
      .ops [
        .p 49 .mv [(.tmp 11)],
        .p 50 .mv [(.tmp 13)],
        .p 51 .mv [(.tmp 11)],
        .p 52 .mv [(.tmp 13)],
        .p 53 (.ixs 1) [(.tmp 51), (.tmp 52)],
        .ld 54 (.tmp 53),
        .p 55 (.bin .xor) [(.tmp 54), (.const (.int .u8 255))],
        .p 56 (.ixs 1) [(.tmp 49), (.tmp 50)],
        .st 1 false (.tmp 56) (.tmp 55)])) (
    .ops [
      .p 47 .mv [(.tmp 13)],
      .p 48 (.bin .add) [(.tmp 47), (.const (.int .i64 1))],
      .p 13 .mv [(.tmp 48)]])))))) (
 .seq (
  .ops [
    .ldn 58 2 (.tmp 7),
    .p 59 .mv [(.tmp 2)],
    .call (some 60) f_code_Encode [(.tmp 58), (.tmp 59)],
    .p 57 .mv [(.tmp 60)],
    .p 61 (.ext 0) [(.tmp 57)],
    .p 62 (.ext 1) [(.tmp 57)],
    .p 14 .mv [(.tmp 61)],
    .p 15 .mv [(.tmp 62)]]) (
 .seq (
  .ops [
    .p 63 .mv [(.tmp 15)],
    .p 64 (.bin .eql) [(.tmp 63), (.const (.int .i64 0))],
    .p 65 .mv [(.tmp 64)],
    .gd 65 true (some 66) (.p 66 .mv [(.tmp 8)]),
    .gd 65 true (some 67) (.p 67 .mv [(.tmp 10)]),
    .gd 65 true (some 68) (.call (some 68) f_ref04_Same [(.tmp 66), (.tmp 67)]),
    .p 69 .pick [(.tmp 65), (.tmp 68), (.const (.bool false))],
    .p 70 .mv [(.tmp 69)],
    .gd 70 true (some 71) (.p 71 .mv [(.tmp 14)]),
    .gd 70 true (some 72) (.p 72 .mv [(.tmp 10)]),
    .gd 70 true (some 73) (.call (some 73) f_ref04_Same [(.tmp 71), (.tmp 72)]),
    .p 74 .pick [(.tmp 70), (.tmp 73), (.const (.bool false))],
    .p 6 .mv [(.tmp 74)]]) (
 .ret))))))))))⟩

theorem c_law05_CodeKeeps : trF Try.prog f_law05_CodeKeeps = some m_law05_CodeKeeps := by kernel_rfl
-- 14 shardlog/shardloglaw05.CodeMixed; slots [(0, a), (1, b), (2, l), (3, a), (4, b), (5, l), (7, s), (8, v), (9, i), (10, x), (11, i), (12, m), (13, e), (14, i), (15, k)]
noncomputable def m_law05_CodeMixed : MF := ⟨204, [.t 6],
 .seq (
  .ops [
    .p 6 .mv [(.const (.bool false))]]) (
 .seq (
  .ops [
    .p 16 .mv [(.tmp 0)],
    .p 17 .mv [(.tmp 1)],
    .call (some 18) f_ref05_Shape [(.tmp 16), (.tmp 17)],
    .new 7 t_api_Shape [(.int .i64 0), (.int .i64 0)],
    .st 2 true (.tmp 7) (.tmp 18)]) (
 .seq (
  .seq (
   .ops [
     .call (some 19) f_law05_awake [],
     .p 20 .not [(.tmp 19)],
     .p 21 .mv [(.tmp 20)],
     .gd 21 false (some 22) (.p 22 .mv [(.tmp 2)]),
     .gd 21 false (some 23) (.p 23 .len [(.tmp 22)]),
     .gd 21 false (some 24) (.p 24 (.bin .gtr) [(.tmp 23), (.const (.int .i64 512))]),
     .p 25 .pick [(.tmp 21), (.const (.bool true)), (.tmp 24)]]) (
  .cond (.tmp 25) (
    .seq (
     .ops [
       .call (some 26) f_law05_awake [],
       .p 6 .mv [(.tmp 26)]]) (
    .ret)) (
    .skip))) (
 .seq (
  .ops [
    .new 8 64 [(.slice none 0 0), (.slice none 0 0), (.slice none 0 0), (.slice none 0 0)]]) (
 .seq (
  .seq (
   .ops [
     .p 9 .mv [(.const (.int .i64 0))]]) (
  .block 0 (
   .loop (
    .seq (
     .seq (
      .ops [
        .p 27 .mv [(.tmp 9)],
        .p 28 .mv [(.tmp 2)],
        .p 29 .len [(.tmp 28)],
        .p 30 (.bin .lss) [(.tmp 27), (.tmp 29)]]) (
     .cond (.tmp 30) (
       .skip) (
       .exit 0))) (
    .seq (
     .block 1 (
      .seq (
       .dr [
         ⟨.p 33 (.ixa 4 1) [(.tmp 8), (.const (.int .i64 0))], []⟩,
         ⟨.ld 34 (.tmp 33), []⟩,
         ⟨.p 35 .mv [(.tmp 2)], []⟩,
         ⟨.p 36 .mv [(.tmp 9)], []⟩,
         ⟨.p 37 (.ixs 3) [(.tmp 35), (.tmp 36)], []⟩,
         ⟨.p 38 (.ixa 3 1) [(.tmp 37), (.const (.int .i64 0))], []⟩,
         ⟨.ld 39 (.tmp 38), []⟩,
         ⟨.bsl 40 tU8 1 [(.int .u8 0)] [(0, 1)] [(.tmp 39)], [.ld 34 (.tmp 33)]⟩,
         ⟨.app 41 #[tBytes, tBytes] tBytes (.tmp 34) (.tmp 40), []⟩,
         ⟨.p 42 (.ixa 4 1) [(.tmp 8), (.const (.int .i64 0))], []⟩,
         ⟨.st 1 false (.tmp 42) (.tmp 41), []⟩]) (
      .seq (
       .dr [
         ⟨.p 43 (.ixa 4 1) [(.tmp 8), (.const (.int .i64 1))], []⟩,
         ⟨.ld 44 (.tmp 43), []⟩,
         ⟨.p 45 .mv [(.tmp 2)], []⟩,
         ⟨.p 46 .mv [(.tmp 9)], []⟩,
         ⟨.p 47 (.ixs 3) [(.tmp 45), (.tmp 46)], []⟩,
         ⟨.p 48 (.ixa 3 1) [(.tmp 47), (.const (.int .i64 1))], []⟩,
         ⟨.ld 49 (.tmp 48), []⟩,
         ⟨.bsl 50 tU8 1 [(.int .u8 0)] [(0, 1)] [(.tmp 49)], [.ld 44 (.tmp 43)]⟩,
         ⟨.app 51 #[tBytes, tBytes] tBytes (.tmp 44) (.tmp 50), []⟩,
         ⟨.p 52 (.ixa 4 1) [(.tmp 8), (.const (.int .i64 1))], []⟩,
         ⟨.st 1 false (.tmp 52) (.tmp 51), []⟩]) (
      .seq (
       .dr [
         ⟨.p 53 (.ixa 4 1) [(.tmp 8), (.const (.int .i64 2))], []⟩,
         ⟨.ld 54 (.tmp 53), []⟩,
         ⟨.p 55 .mv [(.tmp 2)], []⟩,
         ⟨.p 56 .mv [(.tmp 9)], []⟩,
         ⟨.p 57 (.ixs 3) [(.tmp 55), (.tmp 56)], []⟩,
         ⟨.p 58 (.ixa 3 1) [(.tmp 57), (.const (.int .i64 2))], []⟩,
         ⟨.ld 59 (.tmp 58), []⟩,
         ⟨.bsl 60 tU8 1 [(.int .u8 0)] [(0, 1)] [(.tmp 59)], [.ld 54 (.tmp 53)]⟩,
         ⟨.app 61 #[tBytes, tBytes] tBytes (.tmp 54) (.tmp 60), []⟩,
         ⟨.p 62 (.ixa 4 1) [(.tmp 8), (.const (.int .i64 2))], []⟩,
         ⟨.st 1 false (.tmp 62) (.tmp 61), []⟩]) (
      .dr [
        ⟨.p 63 (.ixa 4 1) [(.tmp 8), (.const (.int .i64 3))], []⟩,
        ⟨.ld 64 (.tmp 63), []⟩,
        ⟨.p 65 .mv [(.tmp 2)], []⟩,
        ⟨.p 66 .mv [(.tmp 9)], []⟩,
        ⟨.p 67 (.ixs 3) [(.tmp 65), (.tmp 66)], []⟩,
        ⟨.p 68 (.ixa 3 1) [(.tmp 67), (.const (.int .i64 0))], []⟩,
        ⟨.ld 69 (.tmp 68), []⟩,
        ⟨.p 70 .mv [(.tmp 2)], []⟩,
        ⟨.p 71 .mv [(.tmp 9)], []⟩,
        ⟨.p 72 (.ixs 3) [(.tmp 70), (.tmp 71)], []⟩,
        ⟨.p 73 (.ixa 3 1) [(.tmp 72), (.const (.int .i64 1))], []⟩,
        ⟨.ld 74 (.tmp 73), []⟩,
        ⟨.p 75 (.bin .xor) [(.tmp 69), (.tmp 74)], []⟩,
        ⟨.p 76 .mv [(.tmp 2)], []⟩,
        ⟨.p 77 .mv [(.tmp 9)], []⟩,
        ⟨.p 78 (.ixs 3) [(.tmp 76), (.tmp 77)], []⟩,
        ⟨.p 79 (.ixa 3 1) [(.tmp 78), (.const (.int .i64 2))], []⟩,
        ⟨.ld 80 (.tmp 79), []⟩,
        ⟨.p 81 (.bin .xor) [(.tmp 75), (.tmp 80)], []⟩,
        ⟨.bsl 82 tU8 1 [(.int .u8 0)] [(0, 1)] [(.tmp 81)], [.ld 80 (.tmp 79), .ld 74 (.tmp 73), .ld 69 (.tmp 68), .ld 64 (.tmp 63)]⟩,
        ⟨.app 83 #[tBytes, tBytes] tBytes (.tmp 64) (.tmp 82), [.ld 80 (.tmp 79), .ld 74 (.tmp 73), .ld 69 (.tmp 68)]⟩,
        ⟨.p 84 (.ixa 4 1) [(.tmp 8), (.const (.int .i64 3))], []⟩,
        ⟨.st 1 false (.tmp 84) (.tmp 83), []⟩]))))) (
    .ops [
      .p 31 .mv [(.tmp 9)],
      .p 32 (.bin .add) [(.tmp 31), (.const (.int .i64 1))],
      .p 9 .mv [(.tmp 32)]])))))) (
 .seq (
  .ops [
    .new 10 66 [(.slice none 0 0), (.slice none 0 0), (.slice none 0 0), (.slice none 0 0)]]) (
 .seq (
  .seq (
   .ops [
     .p 11 .mv [(.const (.int .i64 0))]]) (
  .block 2 (
   .loop (
    .seq (
     .seq (
      .ops [
        .p 85 .mv [(.tmp 11)],
        .p 86 (.bin .lss) [(.tmp 85), (.const (.int .i64 4))]]) (
     .cond (.tmp 86) (
       .skip) (
       .exit 2))) (
    .seq (
     .block 3 (
      .seq (
       .dr [
         ⟨.ldn 90 2 (.tmp 7), []⟩,
         ⟨.p 91 .mv [(.tmp 11)], []⟩,
         ⟨.p 92 (.ixa 4 1) [(.tmp 8), (.tmp 91)], []⟩,
         ⟨.ld 93 (.tmp 92), []⟩,
         ⟨.bs 94 (.tmp 93), []⟩,
         ⟨.call (some 95) f_code_Encode [(.tmp 90), (.tmp 94)], [.ld 93 (.tmp 92)]⟩,
         ⟨.p 89 .mv [(.tmp 95)], []⟩,
         ⟨.p 96 (.ext 0) [(.tmp 89)], []⟩,
         ⟨.p 97 (.ext 1) [(.tmp 89)], []⟩,
         ⟨.p 12 .mv [(.tmp 96)], []⟩,
         ⟨.p 13 .mv [(.tmp 97)], []⟩]) (
      .seq (
       .seq (
        .ops [
          .p 98 .mv [(.tmp 13)],
          .p 99 (.bin .neq) [(.tmp 98), (.const (.int .i64 0))],
          .p 100 .mv [(.tmp 99)],
          .gd 100 false (some 101) (.p 101 .mv [(.tmp 12)]),
          .gd 100 false (some 102) (.p 102 .len [(.tmp 101)]),
          .gd 100 false (some 103) (.ldn 103 2 (.tmp 7)),
          .gd 100 false (some 104) (.call (some 104) f_ref05_N [(.tmp 103)]),
          .gd 100 false (some 105) (.p 105 (.bin .neq) [(.tmp 102), (.tmp 104)]),
          .p 106 .pick [(.tmp 100), (.const (.bool true)), (.tmp 105)]]) (
       .cond (.tmp 106) (
         .seq (
          .ops [
            .p 6 .mv [(.const (.bool false))]]) (
         .ret)) (
         .skip))) (
      .ops [
        .p 107 .mv [(.tmp 11)],
        .p 108 .mv [(.tmp 12)],
        .p 109 (.ixa 4 1) [(.tmp 10), (.tmp 107)],
        .st 1 false (.tmp 109) (.tmp 108)])))) (
    .ops [
      .p 87 .mv [(.tmp 11)],
      .p 88 (.bin .add) [(.tmp 87), (.const (.int .i64 1))],
      .p 11 .mv [(.tmp 88)]])))))) (
 .seq (
  .seq (
   .ops [
     .p 14 .mv [(.const (.int .i64 0))]]) (
  .block 4 (
   .loop (
    .seq (
     .seq (
      .ops [
        .p 110 .mv [(.tmp 14)],
        .ldn 111 2 (.tmp 7),
        .call (some 112) f_ref05_N [(.tmp 111)],
        .p 113 (.bin .lss) [(.tmp 110), (.tmp 112)]]) (
     .cond (.tmp 113) (
       .skip) (
       .exit 4))) (
    .seq (
     .block 5 (
      .seq (
       .seq (
        .dr [
          ⟨.p 116 (.ixa 4 1) [(.tmp 10), (.const (.int .i64 0))], []⟩,
          ⟨.ld 117 (.tmp 116), []⟩,
          ⟨.p 118 .mv [(.tmp 14)], []⟩,
          ⟨.p 119 (.ixs 1) [(.tmp 117), (.tmp 118)], []⟩,
          ⟨.ld 120 (.tmp 119), []⟩,
          ⟨.p 121 .len [(.tmp 120)], []⟩,
          ⟨.p 122 (.ixa 4 1) [(.tmp 10), (.const (.int .i64 3))], []⟩,
          ⟨.ld 123 (.tmp 122), []⟩,
          ⟨.p 124 .mv [(.tmp 14)], []⟩,
          ⟨.p 125 (.ixs 1) [(.tmp 123), (.tmp 124)], []⟩,
          ⟨.ld 126 (.tmp 125), []⟩,
          ⟨.p 127 .len [(.tmp 126)], []⟩,
          ⟨.p 128 (.bin .neq) [(.tmp 121), (.tmp 127)], []⟩,
          ⟨.p 129 .mv [(.tmp 128)], []⟩,
          ⟨.gd 129 false (some 130) (.p 130 (.ixa 4 1) [(.tmp 10), (.const (.int .i64 1))]), []⟩,
          ⟨.gd 129 false (some 131) (.ld 131 (.tmp 130)), []⟩,
          ⟨.gd 129 false (some 132) (.p 132 .mv [(.tmp 14)]), []⟩,
          ⟨.gd 129 false (some 133) (.p 133 (.ixs 1) [(.tmp 131), (.tmp 132)]), []⟩,
          ⟨.gd 129 false (some 134) (.ld 134 (.tmp 133)), []⟩,
          ⟨.gd 129 false (some 135) (.p 135 .len [(.tmp 134)]), []⟩,
          ⟨.gd 129 false (some 136) (.p 136 (.ixa 4 1) [(.tmp 10), (.const (.int .i64 3))]), []⟩,
          ⟨.gd 129 false (some 137) (.ld 137 (.tmp 136)), []⟩,
          ⟨.gd 129 false (some 138) (.p 138 .mv [(.tmp 14)]), []⟩,
          ⟨.gd 129 false (some 139) (.p 139 (.ixs 1) [(.tmp 137), (.tmp 138)]), []⟩,
          ⟨.gd 129 false (some 140) (.ld 140 (.tmp 139)), []⟩,
          ⟨.gd 129 false (some 141) (.p 141 .len [(.tmp 140)]), []⟩,
          ⟨.gd 129 false (some 142) (.p 142 (.bin .neq) [(.tmp 135), (.tmp 141)]), []⟩,
          ⟨.p 143 .pick [(.tmp 129), (.const (.bool true)), (.tmp 142)], []⟩,
          ⟨.p 144 .mv [(.tmp 143)], []⟩,
          ⟨.gd 144 false (some 145) (.p 145 (.ixa 4 1) [(.tmp 10), (.const (.int .i64 2))]), []⟩,
          ⟨.gd 144 false (some 146) (.ld 146 (.tmp 145)), []⟩,
          ⟨.gd 144 false (some 147) (.p 147 .mv [(.tmp 14)]), []⟩,
          ⟨.gd 144 false (some 148) (.p 148 (.ixs 1) [(.tmp 146), (.tmp 147)]), []⟩,
          ⟨.gd 144 false (some 149) (.ld 149 (.tmp 148)), []⟩,
          ⟨.gd 144 false (some 150) (.p 150 .len [(.tmp 149)]), []⟩,
          ⟨.gd 144 false (some 151) (.p 151 (.ixa 4 1) [(.tmp 10), (.const (.int .i64 3))]), []⟩,
          ⟨.gd 144 false (some 152) (.ld 152 (.tmp 151)), []⟩,
          ⟨.gd 144 false (some 153) (.p 153 .mv [(.tmp 14)]), []⟩,
          ⟨.gd 144 false (some 154) (.p 154 (.ixs 1) [(.tmp 152), (.tmp 153)]), []⟩,
          ⟨.gd 144 false (some 155) (.ld 155 (.tmp 154)), []⟩,
          ⟨.gd 144 false (some 156) (.p 156 .len [(.tmp 155)]), []⟩,
          ⟨.gd 144 false (some 157) (.p 157 (.bin .neq) [(.tmp 150), (.tmp 156)]), []⟩,
          ⟨.p 158 .pick [(.tmp 144), (.const (.bool true)), (.tmp 157)], []⟩]) (
       .cond (.tmp 158) (
         .seq (
          .ops [
            .p 6 .mv [(.const (.bool false))]]) (
         .ret)) (
         .skip))) (
      .seq (
       .ops [
         .p 15 .mv [(.const (.int .i64 0))]]) (
      .block 6 (
       .loop (
        .seq (
         .seq (
          .ops [
            .p 159 .mv [(.tmp 15)],
            .p 160 (.ixa 4 1) [(.tmp 10), (.const (.int .i64 3))],
            .ld 161 (.tmp 160),
            .p 162 .mv [(.tmp 14)],
            .p 163 (.ixs 1) [(.tmp 161), (.tmp 162)],
            .ld 164 (.tmp 163),
            .p 165 .len [(.tmp 164)],
            .p 166 (.bin .lss) [(.tmp 159), (.tmp 165)]]) (
         .cond (.tmp 166) (
           .skip) (
           .exit 6))) (
        .seq (
         .block 7 (
          .seq (
           .dr [
             ⟨.p 169 (.ixa 4 1) [(.tmp 10), (.const (.int .i64 3))], []⟩,
             ⟨.ld 170 (.tmp 169), []⟩,
             ⟨.p 171 .mv [(.tmp 14)], []⟩,
             ⟨.p 172 (.ixs 1) [(.tmp 170), (.tmp 171)], []⟩,
             ⟨.ld 173 (.tmp 172), []⟩,
             ⟨.p 174 .mv [(.tmp 15)], []⟩,
             ⟨.p 175 (.ixs 1) [(.tmp 173), (.tmp 174)], []⟩,
             ⟨.ld 176 (.tmp 175), []⟩,
             ⟨.p 177 (.ixa 4 1) [(.tmp 10), (.const (.int .i64 0))], []⟩,
             ⟨.ld 178 (.tmp 177), []⟩,
             ⟨.p 179 .mv [(.tmp 14)], []⟩,
             ⟨.p 180 (.ixs 1) [(.tmp 178), (.tmp 179)], []⟩,
             ⟨.ld 181 (.tmp 180), []⟩,
             ⟨.p 182 .mv [(.tmp 15)], []⟩,
             ⟨.p 183 (.ixs 1) [(.tmp 181), (.tmp 182)], []⟩,
             ⟨.ld 184 (.tmp 183), []⟩,
             ⟨.p 185 (.ixa 4 1) [(.tmp 10), (.const (.int .i64 1))], []⟩,
             ⟨.ld 186 (.tmp 185), []⟩,
             ⟨.p 187 .mv [(.tmp 14)], []⟩,
             ⟨.p 188 (.ixs 1) [(.tmp 186), (.tmp 187)], []⟩,
             ⟨.ld 189 (.tmp 188), []⟩,
             ⟨.p 190 .mv [(.tmp 15)], []⟩,
             ⟨.p 191 (.ixs 1) [(.tmp 189), (.tmp 190)], []⟩,
             ⟨.ld 192 (.tmp 191), []⟩,
             ⟨.p 193 (.bin .xor) [(.tmp 184), (.tmp 192)], []⟩,
             ⟨.p 194 (.ixa 4 1) [(.tmp 10), (.const (.int .i64 2))], []⟩,
             ⟨.ld 195 (.tmp 194), []⟩,
             ⟨.p 196 .mv [(.tmp 14)], []⟩,
             ⟨.p 197 (.ixs 1) [(.tmp 195), (.tmp 196)], []⟩,
             ⟨.ld 198 (.tmp 197), []⟩,
             ⟨.p 199 .mv [(.tmp 15)], []⟩,
             ⟨.p 200 (.ixs 1) [(.tmp 198), (.tmp 199)], []⟩,
             ⟨.ld 201 (.tmp 200), []⟩,
             ⟨.p 202 (.bin .xor) [(.tmp 193), (.tmp 201)], []⟩,
             ⟨.p 203 (.bin .neq) [(.tmp 176), (.tmp 202)], []⟩]) (
          .cond (.tmp 203) (
            .seq (
             .ops [
               .p 6 .mv [(.const (.bool false))]]) (
            .ret)) (
            .skip)))) (
        .ops [
          .p 167 .mv [(.tmp 15)],
          .p 168 (.bin .add) [(.tmp 167), (.const (.int .i64 1))],
          .p 15 .mv [(.tmp 168)]])))))))) (
    .ops [
      .p 114 .mv [(.tmp 14)],
      .p 115 (.bin .add) [(.tmp 114), (.const (.int .i64 1))],
      .p 14 .mv [(.tmp 115)]])))))) (
 .seq (
  .ops [
    .p 6 .mv [(.const (.bool true))]]) (
 .ret)))))))))⟩

theorem c_law05_CodeMixed : trF Try.prog f_law05_CodeMixed = some m_law05_CodeMixed := by kernel_rfl
-- 32 shardlog/shardloglaw04.awake; slots [(1, m), (2, x), (3, ok), (4, _), (5, is)]
noncomputable def m_law04_awake : MF := ⟨58, [.t 0],
 .seq (
  .ops [
    .p 0 .mv [(.const (.bool false))]]) (
 .seq (
  .ops [
    .bsl 6 tU8 2 [(.int .u8 0), (.int .u8 0)] [(0, 1), (1, 1)] [(.const (.int .u8 0)), (.const (.int .u8 1))],
    .bsl 7 tU8 2 [(.int .u8 0), (.int .u8 0)] [(0, 1), (1, 1)] [(.const (.int .u8 1)), (.const (.int .u8 0))],
    .bsl 8 tBytes 2 [(.slice none 0 0), (.slice none 0 0)] [(0, 1), (1, 1)] [(.tmp 6), (.tmp 7)],
    .p 1 .mv [(.tmp 8)]]) (
 .seq (
  .ops [
    .p 10 .mv [(.tmp 1)],
    .call (some 11) f_matrix_Invert [(.tmp 10)],
    .p 9 .mv [(.tmp 11)],
    .p 12 (.ext 0) [(.tmp 9)],
    .p 13 (.ext 1) [(.tmp 9)],
    .p 2 .mv [(.tmp 12)],
    .p 3 .mv [(.tmp 13)]]) (
 .seq (
  .ops [
    .bsl 15 tU8 2 [(.int .u8 0), (.int .u8 0)] [(0, 1), (1, 1)] [(.const (.int .u8 1)), (.const (.int .u8 1))],
    .bsl 16 tU8 2 [(.int .u8 0), (.int .u8 0)] [(0, 1), (1, 1)] [(.const (.int .u8 1)), (.const (.int .u8 1))],
    .bsl 17 tBytes 2 [(.slice none 0 0), (.slice none 0 0)] [(0, 1), (1, 1)] [(.tmp 15), (.tmp 16)],
    .call (some 18) f_matrix_Invert [(.tmp 17)],
    .p 14 .mv [(.tmp 18)],
    .p 19 (.ext 0) [(.tmp 14)],
    .p 20 (.ext 1) [(.tmp 14)],
    .p 4 .mv [(.tmp 19)],
    .p 5 .mv [(.tmp 20)]]) (
 .seq (
  .ops [
    .p 21 .mv [(.tmp 3)],
    .p 22 .mv [(.tmp 21)],
    .gd 22 true (some 23) (.p 23 .mv [(.tmp 5)]),
    .gd 22 true (some 24) (.p 24 .not [(.tmp 23)]),
    .p 25 .pick [(.tmp 22), (.tmp 24), (.const (.bool false))],
    .p 26 .mv [(.tmp 25)],
    .gd 26 true (some 27) (.p 27 .mv [(.tmp 2)]),
    .gd 26 true (some 28) (.p 28 .mv [(.tmp 1)]),
    .gd 26 true (some 29) (.call (some 29) f_ref04_Same [(.tmp 27), (.tmp 28)]),
    .p 30 .pick [(.tmp 26), (.tmp 29), (.const (.bool false))],
    .p 31 .mv [(.tmp 30)],
    .gd 31 true (some 32) (.p 32 .mv [(.tmp 1)]),
    .gd 31 true (some 33) (.p 33 .mv [(.tmp 1)]),
    .gd 31 true (some 34) (.call (some 34) f_matrix_Mul [(.tmp 32), (.tmp 33)]),
    .gd 31 true (some 35) (.call (some 35) f_matrix_One [(.const (.int .i64 2))]),
    .gd 31 true (some 36) (.call (some 36) f_ref04_Same [(.tmp 34), (.tmp 35)]),
    .p 37 .pick [(.tmp 31), (.tmp 36), (.const (.bool false))],
    .p 38 .mv [(.tmp 37)],
    .gd 38 true (some 39) (.call (some 39) f_matrix_Coding [(.const (.int .i64 2)), (.const (.int .i64 3))]),
    .gd 38 true (some 40) (.p 40 .len [(.tmp 39)]),
    .gd 38 true (some 41) (.p 41 (.bin .eql) [(.tmp 40), (.const (.int .i64 3))]),
    .p 42 .pick [(.tmp 38), (.tmp 41), (.const (.bool false))],
    .p 43 .mv [(.tmp 42)],
    .gd 43 true (some 44) (.p 44 .mv [(.tmp 1)]),
    .gd 43 true (some 45) (.call (some 45) f_matrix_Right [(.tmp 44)]),
    .p 46 .pick [(.tmp 43), (.tmp 45), (.const (.bool false))],
    .p 47 .mv [(.tmp 46)],
    .gd 47 true (some 48) (.call (some 48) f_matrix_Right [(.const (.slice none 0 0))]),
    .gd 47 true (some 49) (.p 49 .not [(.tmp 48)]),
    .p 50 .pick [(.tmp 47), (.tmp 49), (.const (.bool false))],
    .p 51 .mv [(.tmp 50)],
    .gd 51 true (some 52) (.p 52 .mv [(.tmp 1)]),
    .gd 51 true (some 53) (.bsl 53 tInt 1 [(.int .i64 0)] [(0, 1)] [(.const (.int .i64 1))]),
    .gd 51 true (some 54) (.call (some 54) f_matrix_Rows [(.tmp 52), (.tmp 53)]),
    .gd 51 true (some 55) (.p 55 .len [(.tmp 54)]),
    .gd 51 true (some 56) (.p 56 (.bin .eql) [(.tmp 55), (.const (.int .i64 1))]),
    .p 57 .pick [(.tmp 51), (.tmp 56), (.const (.bool false))],
    .p 0 .mv [(.tmp 57)]]) (
 .ret)))))⟩

theorem c_law04_awake : trF Try.prog f_law04_awake = some m_law04_awake := by kernel_rfl
-- 33 shardlog/matrix.Right; slots [(0, m), (1, m)]
noncomputable def m_matrix_Right : MF := ⟨17, [.t 2],
 .seq (
  .ops [
    .box 1 tRows (.tmp 0),
    .p 2 .mv [(.const (.bool false))]]) (
 .seq (
  .seq (
   .ops [
     .ld 3 (.tmp 1),
     .p 4 .len [(.tmp 3)],
     .p 5 (.bin .eql) [(.tmp 4), (.const (.int .i64 0))],
     .p 6 .mv [(.tmp 5)],
     .gd 6 false (some 7) (.ld 7 (.tmp 1)),
     .gd 6 false (some 8) (.p 8 (.ixs 1) [(.tmp 7), (.const (.int .i64 0))]),
     .gd 6 false (some 9) (.ld 9 (.tmp 8)),
     .gd 6 false (some 10) (.p 10 .len [(.tmp 9)]),
     .gd 6 false (some 11) (.p 11 (.bin .eql) [(.tmp 10), (.const (.int .i64 0))]),
     .p 12 .pick [(.tmp 6), (.const (.bool true)), (.tmp 11)]]) (
  .cond (.tmp 12) (
    .seq (
     .ops [
       .p 2 .mv [(.const (.bool false))]]) (
    .ret)) (
    .skip))) (
 .seq (
  .ops [
    .ld 13 (.tmp 1),
    .p 14 (.fn (.func f_matrix_Right_1) 0) [(.tmp 1)],
    .call (some 15) f_slices_ContainsFunc [(.tmp 13), (.tmp 14)],
    .p 16 .not [(.tmp 15)],
    .p 2 .mv [(.tmp 16)]]) (
 .ret)))⟩

theorem c_matrix_Right : trF Try.prog f_matrix_Right = some m_matrix_Right := by kernel_rfl
-- 34 shardlog/shardlogref04.Right; slots [(0, m), (1, m), (3, i)]
noncomputable def m_ref04_Right : MF := ⟨30, [.t 2],
 .seq (
  .ops [
    .p 2 .mv [(.const (.bool false))]]) (
 .seq (
  .seq (
   .ops [
     .p 4 .mv [(.tmp 0)],
     .p 5 .len [(.tmp 4)],
     .p 6 (.bin .eql) [(.tmp 5), (.const (.int .i64 0))],
     .p 7 .mv [(.tmp 6)],
     .gd 7 false (some 8) (.p 8 .mv [(.tmp 0)]),
     .gd 7 false (some 9) (.p 9 (.ixs 1) [(.tmp 8), (.const (.int .i64 0))]),
     .gd 7 false (some 10) (.ld 10 (.tmp 9)),
     .gd 7 false (some 11) (.p 11 .len [(.tmp 10)]),
     .gd 7 false (some 12) (.p 12 (.bin .eql) [(.tmp 11), (.const (.int .i64 0))]),
     .p 13 .pick [(.tmp 7), (.const (.bool true)), (.tmp 12)]]) (
  .cond (.tmp 13) (
    .seq (
     .ops [
       .p 2 .mv [(.const (.bool false))]]) (
    .ret)) (
    .skip))) (
 .seq (
  .seq (
   .ops [
     .p 3 .mv [(.const (.int .i64 0))]]) (
  .block 0 (
   .loop (
    .seq (
     .seq (
      .ops [
        .p 14 .mv [(.tmp 3)],
        .p 15 .mv [(.tmp 0)],
        .p 16 .len [(.tmp 15)],
        .p 17 (.bin .lss) [(.tmp 14), (.tmp 16)]]) (
     .cond (.tmp 17) (
       .skip) (
       .exit 0))) (
    .seq (
     .block 1 (
      .seq (
       .dr [
         ⟨.p 20 .mv [(.tmp 0)], []⟩,
         ⟨.p 21 .mv [(.tmp 3)], []⟩,
         ⟨.p 22 (.ixs 1) [(.tmp 20), (.tmp 21)], []⟩,
         ⟨.ld 23 (.tmp 22), []⟩,
         ⟨.p 24 .len [(.tmp 23)], []⟩,
         ⟨.p 25 .mv [(.tmp 0)], []⟩,
         ⟨.p 26 (.ixs 1) [(.tmp 25), (.const (.int .i64 0))], []⟩,
         ⟨.ld 27 (.tmp 26), []⟩,
         ⟨.p 28 .len [(.tmp 27)], []⟩,
         ⟨.p 29 (.bin .neq) [(.tmp 24), (.tmp 28)], []⟩]) (
      .cond (.tmp 29) (
        .seq (
         .ops [
           .p 2 .mv [(.const (.bool false))]]) (
        .ret)) (
        .skip)))) (
    .ops [
      .p 18 .mv [(.tmp 3)],
      .p 19 (.bin .add) [(.tmp 18), (.const (.int .i64 1))],
      .p 3 .mv [(.tmp 19)]])))))) (
 .seq (
  .ops [
    .p 2 .mv [(.const (.bool true))]]) (
 .ret))))⟩

theorem c_ref04_Right : trF Try.prog f_ref04_Right = some m_ref04_Right := by kernel_rfl
-- 35 shardlog/shardlogref04.Few; slots [(0, m), (1, most), (2, m), (3, most)]
noncomputable def m_ref04_Few : MF := ⟨21, [.t 4],
 .seq (
  .ops [
    .p 4 .mv [(.const (.bool false))]]) (
 .seq (
  .ops [
    .p 5 .mv [(.tmp 0)],
    .p 6 .len [(.tmp 5)],
    .p 7 .mv [(.tmp 1)],
    .p 8 (.bin .leq) [(.tmp 6), (.tmp 7)],
    .p 9 .mv [(.tmp 8)],
    .gd 9 true (some 10) (.p 10 .mv [(.tmp 0)]),
    .gd 9 true (some 11) (.call (some 11) f_ref04_Right [(.tmp 10)]),
    .p 12 .pick [(.tmp 9), (.tmp 11), (.const (.bool false))],
    .p 13 .mv [(.tmp 12)],
    .gd 13 true (some 14) (.p 14 .mv [(.tmp 0)]),
    .gd 13 true (some 15) (.p 15 (.ixs 1) [(.tmp 14), (.const (.int .i64 0))]),
    .gd 13 true (some 16) (.ld 16 (.tmp 15)),
    .gd 13 true (some 17) (.p 17 .len [(.tmp 16)]),
    .gd 13 true (some 18) (.p 18 .mv [(.tmp 1)]),
    .gd 13 true (some 19) (.p 19 (.bin .leq) [(.tmp 17), (.tmp 18)]),
    .p 20 .pick [(.tmp 13), (.tmp 19), (.const (.bool false))],
    .p 4 .mv [(.tmp 20)]]) (
 .ret))⟩

theorem c_ref04_Few : trF Try.prog f_ref04_Few = some m_ref04_Few := by kernel_rfl
-- 36 shardlog/shardlogref04.Same; slots [(0, a), (1, b), (2, a), (3, b), (5, i)]
noncomputable def m_ref04_Same : MF := ⟨28, [.t 4],
 .seq (
  .ops [
    .p 4 .mv [(.const (.bool false))]]) (
 .seq (
  .seq (
   .ops [
     .p 6 .mv [(.tmp 0)],
     .p 7 .len [(.tmp 6)],
     .p 8 .mv [(.tmp 1)],
     .p 9 .len [(.tmp 8)],
     .p 10 (.bin .neq) [(.tmp 7), (.tmp 9)]]) (
  .cond (.tmp 10) (
    .seq (
     .ops [
       .p 4 .mv [(.const (.bool false))]]) (
    .ret)) (
    .skip))) (
 .seq (
  .seq (
   .ops [
     .p 5 .mv [(.const (.int .i64 0))]]) (
  .block 0 (
   .loop (
    .seq (
     .seq (
      .ops [
        .p 11 .mv [(.tmp 5)],
        .p 12 .mv [(.tmp 0)],
        .p 13 .len [(.tmp 12)],
        .p 14 (.bin .lss) [(.tmp 11), (.tmp 13)]]) (
     .cond (.tmp 14) (
       .skip) (
       .exit 0))) (
    .seq (
     .block 1 (
      .seq (
       .dr [
         ⟨.p 17 .mv [(.tmp 0)], []⟩,
         ⟨.p 18 .mv [(.tmp 5)], []⟩,
         ⟨.p 19 (.ixs 1) [(.tmp 17), (.tmp 18)], []⟩,
         ⟨.ld 20 (.tmp 19), []⟩,
         ⟨.bs 21 (.tmp 20), []⟩,
         ⟨.p 22 .mv [(.tmp 1)], []⟩,
         ⟨.p 23 .mv [(.tmp 5)], []⟩,
         ⟨.p 24 (.ixs 1) [(.tmp 22), (.tmp 23)], []⟩,
         ⟨.ld 25 (.tmp 24), []⟩,
         ⟨.bs 26 (.tmp 25), []⟩,
         ⟨.p 27 (.bin .neq) [(.tmp 21), (.tmp 26)], []⟩]) (
      .cond (.tmp 27) (
        .seq (
         .ops [
           .p 4 .mv [(.const (.bool false))]]) (
        .ret)) (
        .skip)))) (
    .ops [
      .p 15 .mv [(.tmp 5)],
      .p 16 (.bin .add) [(.tmp 15), (.const (.int .i64 1))],
      .p 5 .mv [(.tmp 16)]])))))) (
 .seq (
  .ops [
    .p 4 .mv [(.const (.bool true))]]) (
 .ret))))⟩

theorem c_ref04_Same : trF Try.prog f_ref04_Same = some m_ref04_Same := by kernel_rfl
-- 37 shardlog/matrix.Mul; slots [(0, a), (1, b), (2, a), (3, b), (5, f), (6, out), (7, _), (8, r), (9, row), (10, k), (11, c)]
noncomputable def m_matrix_Mul : MF := ⟨54, [.t 4],
 .seq (
  .ops [
    .p 4 .mv [(.const (.slice none 0 0))]]) (
 .seq (
  .seq (
   .ops [
     .p 12 .mv [(.tmp 0)],
     .p 13 (.ixs 1) [(.tmp 12), (.const (.int .i64 0))],
     .ld 14 (.tmp 13),
     .p 15 .len [(.tmp 14)],
     .p 16 .mv [(.tmp 1)],
     .p 17 .len [(.tmp 16)],
     .p 18 (.bin .neq) [(.tmp 15), (.tmp 17)]]) (
  .cond (.tmp 18) (
    .seq (
     .ops [
       .p 4 .mv [(.const (.slice none 0 0))]]) (
    .ret)) (
    .skip))) (
 .seq (
  .ops [
    .call (some 19) f_field_New [],
    .p 5 .mv [(.tmp 19)]]) (
 .seq (
  .ops [
    .p 6 .mv [(.const (.slice none 0 0))]]) (
 .seq (
  .seq (
   .ops [
     .p 20 .mv [(.tmp 0)],
     .p 21 .len [(.tmp 20)],
     .p 22 .mv [(.const (.int .i64 0))]]) (
  .block 0 (
   .loop (
    .seq (
     .ops [
       .p 23 (.bin .lss) [(.tmp 22), (.tmp 21)]]) (
    .seq (
     .cond (.tmp 23) (
       .skip) (
       .exit 0)) (
    .seq (
     .block 1 (
      .seq (
       .ops [
         .p 24 (.ixs 1) [(.tmp 20), (.tmp 22)],
         .ld 25 (.tmp 24),
         .p 8 .mv [(.tmp 25)]]) (
      .seq (
       .ops [
         .p 26 .mv [(.tmp 1)],
         .p 27 (.ixs 1) [(.tmp 26), (.const (.int .i64 0))],
         .ld 28 (.tmp 27),
         .p 29 .len [(.tmp 28)],
         .gen (some 30) ⟨(some 30), (.makeSlice tBytes (.tmp 29) (.tmp 29)), tBytes, "matrix.go:42", #[⟨3, .data⟩, ⟨3, .data⟩], none⟩,
         .p 9 .mv [(.tmp 30)]]) (
      .seq (
       .seq (
        .ops [
          .p 31 .mv [(.tmp 8)],
          .p 32 .len [(.tmp 31)],
          .p 33 .mv [(.const (.int .i64 0))]]) (
       .block 2 (
        .loop (
         .seq (
          .ops [
            .p 34 (.bin .lss) [(.tmp 33), (.tmp 32)]]) (
         .seq (
          .cond (.tmp 34) (
            .skip) (
            .exit 2)) (
         .seq (
          .block 3 (
           .seq (
            .ops [
              .p 35 .mv [(.tmp 33)],
              .p 36 (.ixs 1) [(.tmp 31), (.tmp 33)],
              .ld 37 (.tmp 36),
              .p 10 .mv [(.tmp 35)],
              .p 11 .mv [(.tmp 37)]]) (
           .ops [
             .p 38 .mv [(.tmp 9)],
             .p 39 .mv [(.tmp 5)],
             .p 40 .mv [(.tmp 11)],
             .p 41 .mv [(.tmp 1)],
             .p 42 .mv [(.tmp 10)],
             .p 43 (.ixs 1) [(.tmp 41), (.tmp 42)],
             .ld 44 (.tmp 43),
             .call (some 45) f_field_Field_Row [(.tmp 39), (.tmp 40), (.tmp 44)],
             .call (some 46) f_matrix_plus [(.tmp 38), (.tmp 45)]]))) (
         .ops [
           .p 47 (.bin .add) [(.tmp 33), (.const (.int .i64 1))],
           .p 33 .mv [(.tmp 47)]]))))))) (
      .ops [
        .p 48 .mv [(.tmp 6)],
        .p 49 .mv [(.tmp 9)],
        .bsl 50 tBytes 1 [(.slice none 0 0)] [(0, 1)] [(.tmp 49)],
        .app 51 #[tRows, tRows] tRows (.tmp 48) (.tmp 50),
        .p 6 .mv [(.tmp 51)]]))))) (
    .ops [
      .p 52 (.bin .add) [(.tmp 22), (.const (.int .i64 1))],
      .p 22 .mv [(.tmp 52)]]))))))) (
 .seq (
  .ops [
    .p 53 .mv [(.tmp 6)],
    .p 4 .mv [(.tmp 53)]]) (
 .ret))))))⟩

theorem c_matrix_Mul : trF Try.prog f_matrix_Mul = some m_matrix_Mul := by kernel_rfl
-- 38 shardlog/shardlogref04.Mul; slots [(0, a), (1, b), (2, a), (3, b), (5, out), (6, i), (7, row), (8, j), (9, x), (10, k)]
noncomputable def m_ref04_Mul : MF := ⟨64, [.t 4],
 .seq (
  .ops [
    .p 4 .mv [(.const (.slice none 0 0))]]) (
 .seq (
  .seq (
   .ops [
     .p 11 .mv [(.tmp 0)],
     .p 12 (.ixs 1) [(.tmp 11), (.const (.int .i64 0))],
     .ld 13 (.tmp 12),
     .p 14 .len [(.tmp 13)],
     .p 15 .mv [(.tmp 1)],
     .p 16 .len [(.tmp 15)],
     .p 17 (.bin .neq) [(.tmp 14), (.tmp 16)]]) (
  .cond (.tmp 17) (
    .seq (
     .ops [
       .p 4 .mv [(.const (.slice none 0 0))]]) (
    .ret)) (
    .skip))) (
 .seq (
  .ops [
    .p 5 .mv [(.const (.slice none 0 0))]]) (
 .seq (
  .seq (
   .ops [
     .p 6 .mv [(.const (.int .i64 0))]]) (
  .block 0 (
   .loop (
    .seq (
     .seq (
      .ops [
        .p 18 .mv [(.tmp 6)],
        .p 19 .mv [(.tmp 0)],
        .p 20 .len [(.tmp 19)],
        .p 21 (.bin .lss) [(.tmp 18), (.tmp 20)]]) (
     .cond (.tmp 21) (
       .skip) (
       .exit 0))) (
    .seq (
     .block 1 (
      .seq (
       .ops [
         .p 7 .mv [(.const (.slice none 0 0))]]) (
      .seq (
       .seq (
        .ops [
          .p 8 .mv [(.const (.int .i64 0))]]) (
       .block 2 (
        .loop (
         .seq (
          .seq (
           .ops [
             .p 24 .mv [(.tmp 8)],
             .p 25 .mv [(.tmp 1)],
             .p 26 (.ixs 1) [(.tmp 25), (.const (.int .i64 0))],
             .ld 27 (.tmp 26),
             .p 28 .len [(.tmp 27)],
             .p 29 (.bin .lss) [(.tmp 24), (.tmp 28)]]) (
          .cond (.tmp 29) (
            .skip) (
            .exit 2))) (
         .seq (
          .block 3 (
           .seq (
            .ops [
              .p 9 .mv [(.const (.int .u8 0))]]) (
           .seq (
            .seq (
             .ops [
               .p 10 .mv [(.const (.int .i64 0))]]) (
            .block 4 (
             .loop (
              .seq (
               .seq (
                .ops [
                  .p 32 .mv [(.tmp 10)],
                  .p 33 .mv [(.tmp 1)],
                  .p 34 .len [(.tmp 33)],
                  .p 35 (.bin .lss) [(.tmp 32), (.tmp 34)]]) (
               .cond (.tmp 35) (
                 .skip) (
                 .exit 4))) (
              .seq (
               .block 5 (
                .dr [
                  ⟨.p 38 .mv [(.tmp 9)], []⟩,
                  ⟨.p 39 .mv [(.tmp 0)], []⟩,
                  ⟨.p 40 .mv [(.tmp 6)], []⟩,
                  ⟨.p 41 (.ixs 1) [(.tmp 39), (.tmp 40)], []⟩,
                  ⟨.ld 42 (.tmp 41), []⟩,
                  ⟨.p 43 .mv [(.tmp 10)], []⟩,
                  ⟨.p 44 (.ixs 1) [(.tmp 42), (.tmp 43)], []⟩,
                  ⟨.ld 45 (.tmp 44), []⟩,
                  ⟨.p 46 .mv [(.tmp 1)], []⟩,
                  ⟨.p 47 .mv [(.tmp 10)], []⟩,
                  ⟨.p 48 (.ixs 1) [(.tmp 46), (.tmp 47)], []⟩,
                  ⟨.ld 49 (.tmp 48), []⟩,
                  ⟨.p 50 .mv [(.tmp 8)], []⟩,
                  ⟨.p 51 (.ixs 1) [(.tmp 49), (.tmp 50)], []⟩,
                  ⟨.ld 52 (.tmp 51), []⟩,
                  ⟨.call (some 53) f_ref03_Mul [(.tmp 45), (.tmp 52)], [.ld 49 (.tmp 48), .ld 42 (.tmp 41)]⟩,
                  ⟨.p 54 (.bin .xor) [(.tmp 38), (.tmp 53)], []⟩,
                  ⟨.p 9 .mv [(.tmp 54)], []⟩])) (
              .ops [
                .p 36 .mv [(.tmp 10)],
                .p 37 (.bin .add) [(.tmp 36), (.const (.int .i64 1))],
                .p 10 .mv [(.tmp 37)]])))))) (
           .ops [
             .p 55 .mv [(.tmp 7)],
             .p 56 .mv [(.tmp 9)],
             .bsl 57 tU8 1 [(.int .u8 0)] [(0, 1)] [(.tmp 56)],
             .app 58 #[tBytes, tBytes] tBytes (.tmp 55) (.tmp 57),
             .p 7 .mv [(.tmp 58)]])))) (
         .ops [
           .p 30 .mv [(.tmp 8)],
           .p 31 (.bin .add) [(.tmp 30), (.const (.int .i64 1))],
           .p 8 .mv [(.tmp 31)]])))))) (
      .ops [
        .p 59 .mv [(.tmp 5)],
        .p 60 .mv [(.tmp 7)],
        .bsl 61 tBytes 1 [(.slice none 0 0)] [(0, 1)] [(.tmp 60)],
        .app 62 #[tRows, tRows] tRows (.tmp 59) (.tmp 61),
        .p 5 .mv [(.tmp 62)]])))) (
    .ops [
      .p 22 .mv [(.tmp 6)],
      .p 23 (.bin .add) [(.tmp 22), (.const (.int .i64 1))],
      .p 6 .mv [(.tmp 23)]])))))) (
 .seq (
  .ops [
    .p 63 .mv [(.tmp 5)],
    .p 4 .mv [(.tmp 63)]]) (
 .ret)))))⟩

theorem c_ref04_Mul : trF Try.prog f_ref04_Mul = some m_ref04_Mul := by kernel_rfl
-- 39 shardlog/matrix.One; slots [(0, n), (1, n)]
noncomputable def m_matrix_One : MF := ⟨6, [.t 2],
 .seq (
  .ops [
    .p 2 .mv [(.const (.slice none 0 0))]]) (
 .seq (
  .ops [
    .p 3 .mv [(.tmp 0)],
    .p 4 .mv [(.tmp 0)],
    .call (some 5) f_matrix_Coding [(.tmp 3), (.tmp 4)],
    .p 2 .mv [(.tmp 5)]]) (
 .ret))⟩

theorem c_matrix_One : trF Try.prog f_matrix_One = some m_matrix_One := by kernel_rfl
-- 40 shardlog/matrix.Invert; slots [(0, m), (1, m), (4, f), (5, left), (6, out), (7, c)]
noncomputable def m_matrix_Invert : MF := ⟨38, [.t 2, .t 3],
 .seq (
  .ops [
    .p 2 .mv [(.const (.slice none 0 0))],
    .p 3 .mv [(.const (.bool false))]]) (
 .seq (
  .seq (
   .ops [
     .p 8 .mv [(.tmp 0)],
     .p 9 .len [(.tmp 8)],
     .p 10 .mv [(.tmp 0)],
     .p 11 (.ixs 1) [(.tmp 10), (.const (.int .i64 0))],
     .ld 12 (.tmp 11),
     .p 13 .len [(.tmp 12)],
     .p 14 (.bin .neq) [(.tmp 9), (.tmp 13)]]) (
  .cond (.tmp 14) (
    .seq (
     .ops [
       .p 2 .mv [(.const (.slice none 0 0))],
       .p 3 .mv [(.const (.bool false))]]) (
    .ret)) (
    .skip))) (
 .seq (
  .ops [
    .call (some 15) f_field_New [],
    .p 4 .mv [(.tmp 15)]]) (
 .seq (
  .ops [
    .p 16 .mv [(.tmp 0)],
    .call (some 17) f_matrix_copied [(.tmp 16)],
    .p 18 .mv [(.tmp 0)],
    .p 19 .len [(.tmp 18)],
    .call (some 20) f_matrix_One [(.tmp 19)],
    .p 5 .mv [(.tmp 17)],
    .p 6 .mv [(.tmp 20)]]) (
 .seq (
  .seq (
   .ops [
     .p 21 .mv [(.tmp 5)],
     .p 22 .len [(.tmp 21)],
     .p 23 .mv [(.const (.int .i64 0))]]) (
  .block 0 (
   .loop (
    .seq (
     .ops [
       .p 24 (.bin .lss) [(.tmp 23), (.tmp 22)]]) (
    .seq (
     .cond (.tmp 24) (
       .skip) (
       .exit 0)) (
    .seq (
     .block 1 (
      .seq (
       .ops [
         .p 25 .mv [(.tmp 23)],
         .p 7 .mv [(.tmp 25)]]) (
      .seq (
       .seq (
        .ops [
          .p 26 .mv [(.tmp 5)],
          .p 27 .mv [(.tmp 6)],
          .p 28 .mv [(.tmp 7)],
          .call (some 29) f_matrix_pivot [(.tmp 26), (.tmp 27), (.tmp 28)],
          .p 30 .not [(.tmp 29)]]) (
       .cond (.tmp 30) (
         .seq (
          .ops [
            .p 2 .mv [(.const (.slice none 0 0))],
            .p 3 .mv [(.const (.bool false))]]) (
         .ret)) (
         .skip))) (
      .ops [
        .p 31 .mv [(.tmp 4)],
        .p 32 .mv [(.tmp 5)],
        .p 33 .mv [(.tmp 6)],
        .p 34 .mv [(.tmp 7)],
        .call (some 35) f_matrix_clearColumn [(.tmp 31), (.tmp 32), (.tmp 33), (.tmp 34)]])))) (
    .ops [
      .p 36 (.bin .add) [(.tmp 23), (.const (.int .i64 1))],
      .p 23 .mv [(.tmp 36)]]))))))) (
 .seq (
  .ops [
    .p 37 .mv [(.tmp 6)],
    .p 2 .mv [(.tmp 37)],
    .p 3 .mv [(.const (.bool true))]]) (
 .ret))))))⟩

theorem c_matrix_Invert : trF Try.prog f_matrix_Invert = some m_matrix_Invert := by kernel_rfl
-- 41 shardlog/shardlogref04.Det; slots [(0, m), (1, m), (3, x), (4, i), (5, less), (6, k)]
noncomputable def m_ref04_Det : MF := ⟨57, [.t 2],
 .seq (
  .ops [
    .p 2 .mv [(.const (.int .u8 0))]]) (
 .seq (
  .seq (
   .ops [
     .p 7 .mv [(.tmp 0)],
     .p 8 .len [(.tmp 7)],
     .p 9 (.bin .eql) [(.tmp 8), (.const (.int .i64 1))]]) (
  .cond (.tmp 9) (
    .seq (
     .ops [
       .p 10 .mv [(.tmp 0)],
       .p 11 (.ixs 1) [(.tmp 10), (.const (.int .i64 0))],
       .ld 12 (.tmp 11),
       .p 13 (.ixs 1) [(.tmp 12), (.const (.int .i64 0))],
       .ld 14 (.tmp 13),
       .p 2 .mv [(.tmp 14)]]) (
    .ret)) (
    .skip))) (
 .seq (
  .ops [
    .p 3 .mv [(.const (.int .u8 0))]]) (
 .seq (
  .seq (
   .ops [
     .p 4 .mv [(.const (.int .i64 0))]]) (
  .block 0 (
   .loop (
    .seq (
     .seq (
      .ops [
        .p 15 .mv [(.tmp 4)],
        .p 16 .mv [(.tmp 0)],
        .p 17 .len [(.tmp 16)],
        .p 18 (.bin .lss) [(.tmp 15), (.tmp 17)]]) (
     .cond (.tmp 18) (
       .skip) (
       .exit 0))) (
    .seq (
     .block 1 (
      .seq (
       .ops [
         .p 5 .mv [(.const (.slice none 0 0))]]) (
      .seq (
       .seq (
        .ops [
          .p 6 .mv [(.const (.int .i64 0))]]) (
       .block 2 (
        .loop (
         .seq (
          .seq (
           .ops [
             .p 21 .mv [(.tmp 6)],
             .p 22 .mv [(.tmp 0)],
             .p 23 .len [(.tmp 22)],
             .p 24 (.bin .lss) [(.tmp 21), (.tmp 23)]]) (
          .cond (.tmp 24) (
            .skip) (
            .exit 2))) (
         .seq (
          .block 3 (
           .seq (
            .ops [
              .p 27 .mv [(.tmp 6)],
              .p 28 .mv [(.tmp 4)],
              .p 29 (.bin .neq) [(.tmp 27), (.tmp 28)]]) (
           .cond (.tmp 29) (
             .ops [
               .p 30 .mv [(.tmp 5)],
               .p 31 .mv [(.tmp 0)],
               .p 32 .mv [(.tmp 6)],
               .p 33 (.ixs 1) [(.tmp 31), (.tmp 32)],
               .ld 34 (.tmp 33),
               .p 35 (.sls 1 true false false) [(.tmp 34), (.const (.int .i64 1))],
               .bsl 36 tBytes 1 [(.slice none 0 0)] [(0, 1)] [(.tmp 35)],
               .app 37 #[tRows, tRows] tRows (.tmp 30) (.tmp 36),
               .p 5 .mv [(.tmp 37)]]) (
             .skip)))) (
         .ops [
           .p 25 .mv [(.tmp 6)],
           .p 26 (.bin .add) [(.tmp 25), (.const (.int .i64 1))],
           .p 6 .mv [(.tmp 26)]])))))) (
      .seq (
       .ops [
         .p 38 .mv [(.tmp 0)],
         .p 39 .mv [(.tmp 4)],
         .p 40 (.ixs 1) [(.tmp 38), (.tmp 39)],
         .ld 41 (.tmp 40),
         .p 42 (.ixs 1) [(.tmp 41), (.const (.int .i64 0))],
         .ld 43 (.tmp 42),
         .p 44 (.bin .neq) [(.tmp 43), (.const (.int .u8 0))]]) (
      .cond (.tmp 44) (
        .dr [
          ⟨.p 45 .mv [(.tmp 3)], []⟩,
          ⟨.p 46 .mv [(.tmp 0)], []⟩,
          ⟨.p 47 .mv [(.tmp 4)], []⟩,
          ⟨.p 48 (.ixs 1) [(.tmp 46), (.tmp 47)], []⟩,
          ⟨.ld 49 (.tmp 48), []⟩,
          ⟨.p 50 (.ixs 1) [(.tmp 49), (.const (.int .i64 0))], []⟩,
          ⟨.ld 51 (.tmp 50), []⟩,
          ⟨.p 52 .mv [(.tmp 5)], []⟩,
          ⟨.call (some 53) f_ref04_Det [(.tmp 52)], [.ld 51 (.tmp 50), .ld 49 (.tmp 48)]⟩,
          ⟨.call (some 54) f_ref03_Mul [(.tmp 51), (.tmp 53)], [.ld 49 (.tmp 48)]⟩,
          ⟨.p 55 (.bin .xor) [(.tmp 45), (.tmp 54)], []⟩,
          ⟨.p 3 .mv [(.tmp 55)], []⟩]) (
        .skip)))))) (
    .ops [
      .p 19 .mv [(.tmp 4)],
      .p 20 (.bin .add) [(.tmp 19), (.const (.int .i64 1))],
      .p 4 .mv [(.tmp 20)]])))))) (
 .seq (
  .ops [
    .p 56 .mv [(.tmp 3)],
    .p 2 .mv [(.tmp 56)]]) (
 .ret)))))⟩

theorem c_ref04_Det : trF Try.prog f_ref04_Det = some m_ref04_Det := by kernel_rfl
-- 42 shardlog/matrix.Coding; slots [(0, k), (1, n), (2, k), (3, n), (5, f), (6, out), (7, i), (8, row), (9, j)]
noncomputable def m_matrix_Coding : MF := ⟨49, [.t 4],
 .seq (
  .ops [
    .p 4 .mv [(.const (.slice none 0 0))]]) (
 .seq (
  .ops [
    .call (some 10) f_field_New [],
    .p 5 .mv [(.tmp 10)]]) (
 .seq (
  .ops [
    .p 6 .mv [(.const (.slice none 0 0))]]) (
 .seq (
  .seq (
   .ops [
     .p 11 .mv [(.tmp 1)],
     .p 12 .mv [(.const (.int .i64 0))]]) (
  .block 0 (
   .loop (
    .seq (
     .ops [
       .p 13 (.bin .lss) [(.tmp 12), (.tmp 11)]]) (
    .seq (
     .cond (.tmp 13) (
       .skip) (
       .exit 0)) (
    .seq (
     .block 1 (
      .seq (
       .ops [
         .p 14 .mv [(.tmp 12)],
         .p 7 .mv [(.tmp 14)]]) (
      .seq (
       .ops [
         .p 15 .mv [(.tmp 0)],
         .gen (some 16) ⟨(some 16), (.makeSlice tBytes (.tmp 15) (.tmp 15)), tBytes, "matrix.go:59", #[⟨0, .data⟩, ⟨0, .data⟩], none⟩,
         .p 8 .mv [(.tmp 16)]]) (
      .seq (
       .seq (
        .ops [
          .p 17 .mv [(.tmp 8)],
          .p 18 .len [(.tmp 17)],
          .p 19 .mv [(.const (.int .i64 0))]]) (
       .block 2 (
        .loop (
         .seq (
          .ops [
            .p 20 (.bin .lss) [(.tmp 19), (.tmp 18)]]) (
         .seq (
          .cond (.tmp 20) (
            .skip) (
            .exit 2)) (
         .seq (
          .block 3 (
           .seq (
            .ops [
              .p 21 .mv [(.tmp 19)],
              .p 9 .mv [(.tmp 21)]]) (
           .block 4 (
            .seq (
             .ops [
               .p 23 .mv [(.tmp 7)],
               .p 24 .mv [(.tmp 0)],
               .p 25 (.bin .geq) [(.tmp 23), (.tmp 24)],
               .p 22 .mv [(.tmp 25)]]) (
            .cond (.tmp 22) (
              .ops [
                .p 26 .mv [(.tmp 8)],
                .p 27 .mv [(.tmp 9)],
                .p 28 .mv [(.tmp 5)],
                .p 29 .mv [(.tmp 7)],
                .p 30 .mv [(.tmp 9)],
                .p 31 (.bin .xor) [(.tmp 29), (.tmp 30)],
                .p 32 (.conv .u8) [(.tmp 31)],
                .call (some 33) f_field_Field_Inv [(.tmp 28), (.tmp 32)],
                .p 34 (.ixs 1) [(.tmp 26), (.tmp 27)],
                .st 1 false (.tmp 34) (.tmp 33)]) (
              .seq (
               .ops [
                 .p 36 .mv [(.tmp 7)],
                 .p 37 .mv [(.tmp 9)],
                 .p 38 (.bin .eql) [(.tmp 36), (.tmp 37)],
                 .p 35 .mv [(.tmp 38)]]) (
              .cond (.tmp 35) (
                .ops [
                  .p 39 .mv [(.tmp 8)],
                  .p 40 .mv [(.tmp 9)],
                  .p 41 (.ixs 1) [(.tmp 39), (.tmp 40)],
                  .st 1 false (.tmp 41) (.const (.int .u8 1))]) (
                .skip)))))))) (
         .ops [
           .p 42 (.bin .add) [(.tmp 19), (.const (.int .i64 1))],
           .p 19 .mv [(.tmp 42)]]))))))) (
      .ops [
        .p 43 .mv [(.tmp 6)],
        .p 44 .mv [(.tmp 8)],
        .bsl 45 tBytes 1 [(.slice none 0 0)] [(0, 1)] [(.tmp 44)],
        .app 46 #[tRows, tRows] tRows (.tmp 43) (.tmp 45),
        .p 6 .mv [(.tmp 46)]]))))) (
    .ops [
      .p 47 (.bin .add) [(.tmp 12), (.const (.int .i64 1))],
      .p 12 .mv [(.tmp 47)]]))))))) (
 .seq (
  .ops [
    .p 48 .mv [(.tmp 6)],
    .p 4 .mv [(.tmp 48)]]) (
 .ret)))))⟩

theorem c_matrix_Coding : trF Try.prog f_matrix_Coding = some m_matrix_Coding := by kernel_rfl
-- 43 shardlog/shardlogref04.Coding; slots [(0, k), (1, n), (2, k), (3, n), (5, out), (6, i), (7, row), (8, j), (9, x)]
noncomputable def m_ref04_Coding : MF := ⟨40, [.t 4],
 .seq (
  .ops [
    .p 4 .mv [(.const (.slice none 0 0))]]) (
 .seq (
  .ops [
    .p 5 .mv [(.const (.slice none 0 0))]]) (
 .seq (
  .seq (
   .ops [
     .p 6 .mv [(.const (.int .i64 0))]]) (
  .block 0 (
   .loop (
    .seq (
     .seq (
      .ops [
        .p 10 .mv [(.tmp 6)],
        .p 11 .mv [(.tmp 1)],
        .p 12 (.bin .lss) [(.tmp 10), (.tmp 11)]]) (
     .cond (.tmp 12) (
       .skip) (
       .exit 0))) (
    .seq (
     .block 1 (
      .seq (
       .ops [
         .p 7 .mv [(.const (.slice none 0 0))]]) (
      .seq (
       .seq (
        .ops [
          .p 8 .mv [(.const (.int .i64 0))]]) (
       .block 2 (
        .loop (
         .seq (
          .seq (
           .ops [
             .p 15 .mv [(.tmp 8)],
             .p 16 .mv [(.tmp 0)],
             .p 17 (.bin .lss) [(.tmp 15), (.tmp 16)]]) (
          .cond (.tmp 17) (
            .skip) (
            .exit 2))) (
         .seq (
          .block 3 (
           .seq (
            .ops [
              .p 9 .mv [(.const (.int .u8 0))]]) (
           .seq (
            .seq (
             .ops [
               .p 20 .mv [(.tmp 6)],
               .p 21 .mv [(.tmp 8)],
               .p 22 (.bin .eql) [(.tmp 20), (.tmp 21)]]) (
            .cond (.tmp 22) (
              .ops [
                .p 9 .mv [(.const (.int .u8 1))]]) (
              .skip))) (
           .seq (
            .seq (
             .ops [
               .p 23 .mv [(.tmp 6)],
               .p 24 .mv [(.tmp 0)],
               .p 25 (.bin .geq) [(.tmp 23), (.tmp 24)]]) (
            .cond (.tmp 25) (
              .ops [
                .p 26 .mv [(.tmp 6)],
                .p 27 .mv [(.tmp 8)],
                .p 28 (.bin .xor) [(.tmp 26), (.tmp 27)],
                .p 29 (.conv .u8) [(.tmp 28)],
                .call (some 30) f_ref03_Inv [(.tmp 29)],
                .p 9 .mv [(.tmp 30)]]) (
              .skip))) (
           .ops [
             .p 31 .mv [(.tmp 7)],
             .p 32 .mv [(.tmp 9)],
             .bsl 33 tU8 1 [(.int .u8 0)] [(0, 1)] [(.tmp 32)],
             .app 34 #[tBytes, tBytes] tBytes (.tmp 31) (.tmp 33),
             .p 7 .mv [(.tmp 34)]]))))) (
         .ops [
           .p 18 .mv [(.tmp 8)],
           .p 19 (.bin .add) [(.tmp 18), (.const (.int .i64 1))],
           .p 8 .mv [(.tmp 19)]])))))) (
      .ops [
        .p 35 .mv [(.tmp 5)],
        .p 36 .mv [(.tmp 7)],
        .bsl 37 tBytes 1 [(.slice none 0 0)] [(0, 1)] [(.tmp 36)],
        .app 38 #[tRows, tRows] tRows (.tmp 35) (.tmp 37),
        .p 5 .mv [(.tmp 38)]])))) (
    .ops [
      .p 13 .mv [(.tmp 6)],
      .p 14 (.bin .add) [(.tmp 13), (.const (.int .i64 1))],
      .p 6 .mv [(.tmp 14)]])))))) (
 .seq (
  .ops [
    .p 39 .mv [(.tmp 5)],
    .p 4 .mv [(.tmp 39)]]) (
 .ret))))⟩

theorem c_ref04_Coding : trF Try.prog f_ref04_Coding = some m_ref04_Coding := by kernel_rfl
-- 44 shardlog/matrix.Rows; slots [(0, m), (1, at), (2, m), (3, at), (5, out), (6, _), (7, i)]
noncomputable def m_matrix_Rows : MF := ⟨32, [.t 4],
 .seq (
  .ops [
    .p 4 .mv [(.const (.slice none 0 0))]]) (
 .seq (
  .ops [
    .p 5 .mv [(.const (.slice none 0 0))]]) (
 .seq (
  .seq (
   .ops [
     .p 8 .mv [(.tmp 1)],
     .p 9 .len [(.tmp 8)],
     .p 10 .mv [(.const (.int .i64 0))]]) (
  .block 0 (
   .loop (
    .seq (
     .ops [
       .p 11 (.bin .lss) [(.tmp 10), (.tmp 9)]]) (
    .seq (
     .cond (.tmp 11) (
       .skip) (
       .exit 0)) (
    .seq (
     .block 1 (
      .seq (
       .ops [
         .p 12 (.ixs 1) [(.tmp 8), (.tmp 10)],
         .ld 13 (.tmp 12),
         .p 7 .mv [(.tmp 13)]]) (
      .seq (
       .seq (
        .ops [
          .p 14 .mv [(.tmp 7)],
          .p 15 (.bin .lss) [(.tmp 14), (.const (.int .i64 0))],
          .p 16 .mv [(.tmp 15)],
          .gd 16 false (some 17) (.p 17 .mv [(.tmp 7)]),
          .gd 16 false (some 18) (.p 18 .mv [(.tmp 0)]),
          .gd 16 false (some 19) (.p 19 .len [(.tmp 18)]),
          .gd 16 false (some 20) (.p 20 (.bin .geq) [(.tmp 17), (.tmp 19)]),
          .p 21 .pick [(.tmp 16), (.const (.bool true)), (.tmp 20)]]) (
       .cond (.tmp 21) (
         .seq (
          .ops [
            .p 4 .mv [(.const (.slice none 0 0))]]) (
         .ret)) (
         .skip))) (
      .ops [
        .p 22 .mv [(.tmp 5)],
        .p 23 .mv [(.tmp 0)],
        .p 24 .mv [(.tmp 7)],
        .p 25 (.ixs 1) [(.tmp 23), (.tmp 24)],
        .ld 26 (.tmp 25),
        .call (some 27) f_slices_Clone [(.tmp 26)],
        .bsl 28 tBytes 1 [(.slice none 0 0)] [(0, 1)] [(.tmp 27)],
        .app 29 #[tRows, tRows] tRows (.tmp 22) (.tmp 28),
        .p 5 .mv [(.tmp 29)]])))) (
    .ops [
      .p 30 (.bin .add) [(.tmp 10), (.const (.int .i64 1))],
      .p 10 .mv [(.tmp 30)]]))))))) (
 .seq (
  .ops [
    .p 31 .mv [(.tmp 5)],
    .p 4 .mv [(.tmp 31)]]) (
 .ret))))⟩

theorem c_matrix_Rows : trF Try.prog f_matrix_Rows = some m_matrix_Rows := by kernel_rfl
-- 45 shardlog/shardloglaw05.awake; slots [(1, s), (2, l), (3, e), (4, v), (5, f), (6, b), (7, g), (8, _), (9, h)]
noncomputable def m_law05_awake : MF := ⟨82, [.t 0],
 .seq (
  .ops [
    .p 0 .mv [(.const (.bool false))]]) (
 .seq (
  .ops [
    .p 10 (.build [(.int .i64 0), (.int .i64 0)] [(0, 1), (1, 1)]) [(.const (.int .i64 2)), (.const (.int .i64 1))],
    .new 1 t_api_Shape [(.int .i64 0), (.int .i64 0)],
    .st 2 true (.tmp 1) (.tmp 10)]) (
 .seq (
  .ops [
    .ldn 12 2 (.tmp 1),
    .call (some 13) f_code_Encode [(.tmp 12), (.const (.string ⟨#[104, 101, 108, 108, 111]⟩))],
    .p 11 .mv [(.tmp 13)],
    .p 14 (.ext 0) [(.tmp 11)],
    .p 15 (.ext 1) [(.tmp 11)],
    .p 2 .mv [(.tmp 14)],
    .p 3 .mv [(.tmp 15)]]) (
 .seq (
  .seq (
   .ops [
     .p 16 .mv [(.tmp 3)],
     .p 17 (.bin .neq) [(.tmp 16), (.const (.int .i64 0))],
     .p 18 .mv [(.tmp 17)],
     .gd 18 false (some 19) (.p 19 .mv [(.tmp 2)]),
     .gd 18 false (some 20) (.p 20 .len [(.tmp 19)]),
     .gd 18 false (some 21) (.p 21 (.bin .neq) [(.tmp 20), (.const (.int .i64 4))]),
     .p 22 .pick [(.tmp 18), (.const (.bool true)), (.tmp 21)]]) (
  .cond (.tmp 22) (
    .seq (
     .ops [
       .p 0 .mv [(.const (.bool false))]]) (
    .ret)) (
    .skip))) (
 .seq (
  .dr [
    ⟨.ldn 24 2 (.tmp 1), []⟩,
    ⟨.p 25 .mv [(.tmp 2)], []⟩,
    ⟨.p 26 (.ixs 1) [(.tmp 25), (.const (.int .i64 1))], []⟩,
    ⟨.ld 27 (.tmp 26), []⟩,
    ⟨.p 28 .mv [(.tmp 2)], []⟩,
    ⟨.p 29 (.ixs 1) [(.tmp 28), (.const (.int .i64 3))], []⟩,
    ⟨.ld 30 (.tmp 29), []⟩,
    ⟨.bsl 31 tBytes 4 [(.slice none 0 0), (.slice none 0 0), (.slice none 0 0), (.slice none 0 0)] [(0, 1), (1, 1), (2, 1), (3, 1)] [(.const (.slice none 0 0)), (.tmp 27), (.const (.slice none 0 0)), (.tmp 30)], [.ldn 24 2 (.tmp 1)]⟩,
    ⟨.call (some 32) f_code_Decode [(.tmp 24), (.tmp 31)], []⟩,
    ⟨.p 23 .mv [(.tmp 32)], []⟩,
    ⟨.p 33 (.ext 0) [(.tmp 23)], []⟩,
    ⟨.p 34 (.ext 1) [(.tmp 23)], []⟩,
    ⟨.p 4 .mv [(.tmp 33)], []⟩,
    ⟨.p 5 .mv [(.tmp 34)], []⟩]) (
 .seq (
  .dr [
    ⟨.ldn 36 2 (.tmp 1), []⟩,
    ⟨.p 37 .mv [(.tmp 2)], []⟩,
    ⟨.p 38 (.ixs 1) [(.tmp 37), (.const (.int .i64 1))], []⟩,
    ⟨.ld 39 (.tmp 38), []⟩,
    ⟨.p 40 .mv [(.tmp 2)], []⟩,
    ⟨.p 41 (.ixs 1) [(.tmp 40), (.const (.int .i64 3))], []⟩,
    ⟨.ld 42 (.tmp 41), []⟩,
    ⟨.bsl 43 tBytes 4 [(.slice none 0 0), (.slice none 0 0), (.slice none 0 0), (.slice none 0 0)] [(0, 1), (1, 1), (2, 1), (3, 1)] [(.const (.slice none 0 0)), (.tmp 39), (.const (.slice none 0 0)), (.tmp 42)], [.ldn 36 2 (.tmp 1)]⟩,
    ⟨.call (some 44) f_code_Rebuild [(.tmp 36), (.tmp 43), (.const (.int .i64 2))], []⟩,
    ⟨.p 35 .mv [(.tmp 44)], []⟩,
    ⟨.p 45 (.ext 0) [(.tmp 35)], []⟩,
    ⟨.p 46 (.ext 1) [(.tmp 35)], []⟩,
    ⟨.p 6 .mv [(.tmp 45)], []⟩,
    ⟨.p 7 .mv [(.tmp 46)], []⟩]) (
 .seq (
  .dr [
    ⟨.ldn 48 2 (.tmp 1), []⟩,
    ⟨.p 49 .mv [(.tmp 2)], []⟩,
    ⟨.p 50 (.ixs 1) [(.tmp 49), (.const (.int .i64 0))], []⟩,
    ⟨.ld 51 (.tmp 50), []⟩,
    ⟨.bsl 52 tBytes 4 [(.slice none 0 0), (.slice none 0 0), (.slice none 0 0), (.slice none 0 0)] [(0, 1), (1, 1), (2, 1), (3, 1)] [(.tmp 51), (.const (.slice none 0 0)), (.const (.slice none 0 0)), (.const (.slice none 0 0))], [.ldn 48 2 (.tmp 1)]⟩,
    ⟨.call (some 53) f_code_Decode [(.tmp 48), (.tmp 52)], []⟩,
    ⟨.p 47 .mv [(.tmp 53)], []⟩,
    ⟨.p 54 (.ext 0) [(.tmp 47)], []⟩,
    ⟨.p 55 (.ext 1) [(.tmp 47)], []⟩,
    ⟨.p 8 .mv [(.tmp 54)], []⟩,
    ⟨.p 9 .mv [(.tmp 55)], []⟩]) (
 .seq (
  .ops [
    .p 56 .mv [(.tmp 5)],
    .p 57 (.bin .eql) [(.tmp 56), (.const (.int .i64 0))],
    .p 58 .mv [(.tmp 57)],
    .gd 58 true (some 59) (.p 59 .mv [(.tmp 4)]),
    .gd 58 true (some 60) (.p 60 (.bin .eql) [(.tmp 59), (.const (.string ⟨#[104, 101, 108, 108, 111]⟩))]),
    .p 61 .pick [(.tmp 58), (.tmp 60), (.const (.bool false))],
    .p 62 .mv [(.tmp 61)],
    .gd 62 true (some 63) (.p 63 .mv [(.tmp 7)]),
    .gd 62 true (some 64) (.p 64 (.bin .eql) [(.tmp 63), (.const (.int .i64 0))]),
    .p 65 .pick [(.tmp 62), (.tmp 64), (.const (.bool false))],
    .p 66 .mv [(.tmp 65)],
    .gd 66 true (some 67) (.p 67 .mv [(.tmp 6)]),
    .gd 66 true (some 68) (.p 68 .mv [(.tmp 2)]),
    .gd 66 true (some 69) (.p 69 (.ixs 1) [(.tmp 68), (.const (.int .i64 2))]),
    .gd 66 true (some 70) (.ld 70 (.tmp 69)),
    .gd 66 true (some 71) (.call (some 71) f_ref01_Same [(.tmp 67), (.tmp 70)]),
    .p 72 .pick [(.tmp 66), (.tmp 71), (.const (.bool false))],
    .p 73 .mv [(.tmp 72)],
    .gd 73 true (some 74) (.p 74 .mv [(.tmp 9)]),
    .gd 73 true (some 75) (.p 75 (.bin .eql) [(.tmp 74), (.const (.int .i64 3))]),
    .p 76 .pick [(.tmp 73), (.tmp 75), (.const (.bool false))],
    .p 77 .mv [(.tmp 76)],
    .gd 77 true (some 78) (.ldn 78 2 (.tmp 1)),
    .gd 77 true (some 79) (.call (some 79) f_code_N [(.tmp 78)]),
    .gd 77 true (some 80) (.p 80 (.bin .eql) [(.tmp 79), (.const (.int .i64 4))]),
    .p 81 .pick [(.tmp 77), (.tmp 80), (.const (.bool false))],
    .p 0 .mv [(.tmp 81)]]) (
 .ret))))))))⟩

theorem c_law05_awake : trF Try.prog f_law05_awake = some m_law05_awake := by kernel_rfl
end Go.Proofs.Ytgpkbldlkadnjaa
end
section
/- Functions of the program in the small code (printed by wip/tool/Print.lean and mkmf2.py of this repo), each with its equation, held by the kernel. -/
set_option linter.unusedVariables false
namespace Go.Proofs.Ytgpkbldlkadnjaa
open Go Go.Sl
-- 46 shardlog/code.Encode; slots [(0, s), (1, v), (2, s), (3, v)]
noncomputable def m_code_Encode : MF := ⟨24, [.t 4, .t 5],
 .seq (
  .ops [
    .box 2 t_api_Shape (.tmp 0),
    .p 4 .mv [(.const (.slice none 0 0))],
    .p 5 .mv [(.const (.int .i64 0))]]) (
 .seq (
  .block 0 (
   .seq (
    .ops [
      .ldn 7 2 (.tmp 2),
      .call (some 8) f_code_Right [(.tmp 7)],
      .p 9 .not [(.tmp 8)],
      .p 6 .mv [(.tmp 9)]]) (
   .cond (.tmp 6) (
     .seq (
      .ops [
        .p 4 .mv [(.const (.slice none 0 0))],
        .p 5 .mv [(.const (.int .i64 1))]]) (
     .ret)) (
     .seq (
      .ops [
        .p 11 .mv [(.tmp 1)],
        .p 12 .lens [(.tmp 11)],
        .p 13 (.bin .gtr) [(.tmp 12), (.const (.int .i64 512))],
        .p 10 .mv [(.tmp 13)]]) (
     .cond (.tmp 10) (
       .seq (
        .ops [
          .p 4 .mv [(.const (.slice none 0 0))],
          .p 5 .mv [(.const (.int .i64 7))]]) (
       .ret)) (
       .skip)))))) (
 .seq (
  .dr [
    ⟨.p 14 (.fad 0) [(.tmp 2)], []⟩,
    ⟨.ld 15 (.tmp 14), []⟩,
    ⟨.ldn 16 2 (.tmp 2), []⟩,
    ⟨.p 19 (.fad 0) [(.tmp 2)], []⟩,
    ⟨.ld 20 (.tmp 19), []⟩,
    ⟨.p 21 .mv [(.tmp 1)], []⟩,
    ⟨.call (some 17) f_code_N [(.tmp 16)], [.ld 20 (.tmp 19), .ld 15 (.tmp 14)]⟩,
    ⟨.call (some 18) f_matrix_Coding [(.tmp 15), (.tmp 17)], [.ld 20 (.tmp 19)]⟩,
    ⟨.call (some 22) f_code_pieces [(.tmp 20), (.tmp 21)], []⟩,
    ⟨.call (some 23) f_matrix_Mul [(.tmp 18), (.tmp 22)], []⟩,
    ⟨.p 4 .mv [(.tmp 23)], []⟩,
    ⟨.p 5 .mv [(.const (.int .i64 0))], []⟩]) (
 .ret)))⟩

theorem c_code_Encode : trF Try.prog f_code_Encode = some m_code_Encode := by kernel_rfl
-- 47 shardlog/code.Right; slots [(0, s), (1, s)]
noncomputable def m_code_Right : MF := ⟨30, [.t 2],
 .seq (
  .ops [
    .box 1 t_api_Shape (.tmp 0),
    .p 2 .mv [(.const (.bool false))]]) (
 .seq (
  .ops [
    .p 3 (.fad 0) [(.tmp 1)],
    .ld 4 (.tmp 3),
    .p 5 (.bin .geq) [(.tmp 4), (.const (.int .i64 1))],
    .p 6 .mv [(.tmp 5)],
    .gd 6 true (some 7) (.p 7 (.fad 0) [(.tmp 1)]),
    .gd 6 true (some 8) (.ld 8 (.tmp 7)),
    .gd 6 true (some 9) (.p 9 (.bin .leq) [(.tmp 8), (.const (.int .i64 7))]),
    .p 10 .pick [(.tmp 6), (.tmp 9), (.const (.bool false))],
    .p 11 .mv [(.tmp 10)],
    .gd 11 true (some 12) (.p 12 (.fad 1) [(.tmp 1)]),
    .gd 11 true (some 13) (.ld 13 (.tmp 12)),
    .gd 11 true (some 14) (.p 14 (.bin .geq) [(.tmp 13), (.const (.int .i64 0))]),
    .p 15 .pick [(.tmp 11), (.tmp 14), (.const (.bool false))],
    .p 16 .mv [(.tmp 15)],
    .gd 16 true (some 17) (.p 17 (.fad 1) [(.tmp 1)]),
    .gd 16 true (some 18) (.ld 18 (.tmp 17)),
    .gd 16 true (some 19) (.p 19 (.bin .leq) [(.tmp 18), (.const (.int .i64 7))]),
    .p 20 .pick [(.tmp 16), (.tmp 19), (.const (.bool false))],
    .p 21 .mv [(.tmp 20)],
    .gd 21 true (some 22) (.p 22 (.fad 0) [(.tmp 1)]),
    .gd 21 true (some 23) (.ld 23 (.tmp 22)),
    .gd 21 true (some 24) (.p 24 (.fad 1) [(.tmp 1)]),
    .gd 21 true (some 25) (.ld 25 (.tmp 24)),
    .gd 21 true (some 26) (.p 26 (.bin .mul) [(.const (.int .i64 2)), (.tmp 25)]),
    .gd 21 true (some 27) (.p 27 (.bin .add) [(.tmp 23), (.tmp 26)]),
    .gd 21 true (some 28) (.p 28 (.bin .leq) [(.tmp 27), (.const (.int .i64 7))]),
    .p 29 .pick [(.tmp 21), (.tmp 28), (.const (.bool false))],
    .p 2 .mv [(.tmp 29)]]) (
 .ret))⟩

theorem c_code_Right : trF Try.prog f_code_Right = some m_code_Right := by kernel_rfl
-- 48 shardlog/shardlogref05.Right; slots [(0, s), (1, s)]
noncomputable def m_ref05_Right : MF := ⟨32, [.t 2],
 .seq (
  .ops [
    .box 1 t_api_Shape (.tmp 0),
    .p 2 .mv [(.const (.bool false))]]) (
 .seq (
  .ops [
    .p 3 (.fad 0) [(.tmp 1)],
    .ld 4 (.tmp 3),
    .p 5 (.bin .geq) [(.tmp 4), (.const (.int .i64 1))],
    .p 6 .mv [(.tmp 5)],
    .gd 6 true (some 7) (.p 7 (.fad 0) [(.tmp 1)]),
    .gd 6 true (some 8) (.ld 8 (.tmp 7)),
    .gd 6 true (some 9) (.p 9 (.bin .leq) [(.tmp 8), (.const (.int .i64 7))]),
    .p 10 .pick [(.tmp 6), (.tmp 9), (.const (.bool false))],
    .p 11 .mv [(.tmp 10)],
    .gd 11 true (some 12) (.p 12 (.fad 1) [(.tmp 1)]),
    .gd 11 true (some 13) (.ld 13 (.tmp 12)),
    .gd 11 true (some 14) (.p 14 (.bin .geq) [(.tmp 13), (.const (.int .i64 0))]),
    .p 15 .pick [(.tmp 11), (.tmp 14), (.const (.bool false))],
    .p 16 .mv [(.tmp 15)],
    .gd 16 true (some 17) (.p 17 (.fad 1) [(.tmp 1)]),
    .gd 16 true (some 18) (.ld 18 (.tmp 17)),
    .gd 16 true (some 19) (.p 19 (.bin .leq) [(.tmp 18), (.const (.int .i64 3))]),
    .p 20 .pick [(.tmp 16), (.tmp 19), (.const (.bool false))],
    .p 21 .mv [(.tmp 20)],
    .gd 21 true (some 22) (.p 22 (.fad 0) [(.tmp 1)]),
    .gd 21 true (some 23) (.ld 23 (.tmp 22)),
    .gd 21 true (some 24) (.p 24 (.fad 1) [(.tmp 1)]),
    .gd 21 true (some 25) (.ld 25 (.tmp 24)),
    .gd 21 true (some 26) (.p 26 (.bin .add) [(.tmp 23), (.tmp 25)]),
    .gd 21 true (some 27) (.p 27 (.fad 1) [(.tmp 1)]),
    .gd 21 true (some 28) (.ld 28 (.tmp 27)),
    .gd 21 true (some 29) (.p 29 (.bin .add) [(.tmp 26), (.tmp 28)]),
    .gd 21 true (some 30) (.p 30 (.bin .leq) [(.tmp 29), (.const (.int .i64 7))]),
    .p 31 .pick [(.tmp 21), (.tmp 30), (.const (.bool false))],
    .p 2 .mv [(.tmp 31)]]) (
 .ret))⟩

theorem c_ref05_Right : trF Try.prog f_ref05_Right = some m_ref05_Right := by kernel_rfl
-- 49 shardlog/code.N; slots [(0, s), (1, s)]
noncomputable def m_code_N : MF := ⟨12, [.t 2],
 .seq (
  .ops [
    .box 1 t_api_Shape (.tmp 0),
    .p 2 .mv [(.const (.int .i64 0))]]) (
 .seq (
  .seq (
   .ops [
     .ldn 3 2 (.tmp 1),
     .call (some 4) f_code_Right [(.tmp 3)],
     .p 5 .not [(.tmp 4)]]) (
  .cond (.tmp 5) (
    .seq (
     .ops [
       .p 2 .mv [(.const (.int .i64 0))]]) (
    .ret)) (
    .skip))) (
 .seq (
  .ops [
    .p 6 (.fad 0) [(.tmp 1)],
    .ld 7 (.tmp 6),
    .p 8 (.fad 1) [(.tmp 1)],
    .ld 9 (.tmp 8),
    .p 10 (.bin .mul) [(.const (.int .i64 2)), (.tmp 9)],
    .p 11 (.bin .add) [(.tmp 7), (.tmp 10)],
    .p 2 .mv [(.tmp 11)]]) (
 .ret)))⟩

theorem c_code_N : trF Try.prog f_code_N = some m_code_N := by kernel_rfl
-- 50 shardlog/shardlogref05.N; slots [(0, s), (1, s)]
noncomputable def m_ref05_N : MF := ⟨11, [.t 2],
 .seq (
  .ops [
    .box 1 t_api_Shape (.tmp 0),
    .p 2 .mv [(.const (.int .i64 0))]]) (
 .seq (
  .ops [
    .p 3 (.fad 0) [(.tmp 1)],
    .ld 4 (.tmp 3),
    .p 5 (.fad 1) [(.tmp 1)],
    .ld 6 (.tmp 5),
    .p 7 (.bin .add) [(.tmp 4), (.tmp 6)],
    .p 8 (.fad 1) [(.tmp 1)],
    .ld 9 (.tmp 8),
    .p 10 (.bin .add) [(.tmp 7), (.tmp 9)],
    .p 2 .mv [(.tmp 10)]]) (
 .ret))⟩

theorem c_ref05_N : trF Try.prog f_ref05_N = some m_ref05_N := by kernel_rfl
-- 51 shardlog/shardlogref05.Encode; slots [(0, s), (1, v), (2, s), (3, v), (5, b), (6, n), (7, p), (8, i)]
noncomputable def m_ref05_Encode : MF := ⟨50, [.t 4],
 .seq (
  .ops [
    .box 2 t_api_Shape (.tmp 0),
    .p 4 .mv [(.const (.slice none 0 0))]]) (
 .seq (
  .ops [
    .p 9 .mv [(.tmp 1)],
    .call (some 10) f_ref01_Text [(.tmp 9)],
    .p 5 .mv [(.tmp 10)]]) (
 .seq (
  .block 0 (
   .loop (
    .seq (
     .seq (
      .ops [
        .p 11 .mv [(.tmp 5)],
        .p 12 .len [(.tmp 11)],
        .p 13 (.fad 0) [(.tmp 2)],
        .ld 14 (.tmp 13),
        .p 15 (.bin .rem) [(.tmp 12), (.tmp 14)],
        .p 16 (.bin .neq) [(.tmp 15), (.const (.int .i64 0))]]) (
     .cond (.tmp 16) (
       .skip) (
       .exit 0))) (
    .block 1 (
     .ops [
       .p 17 .mv [(.tmp 5)],
       .bsl 18 tU8 1 [(.int .u8 0)] [(0, 1)] [(.const (.int .u8 0))],
       .app 19 #[tBytes, tBytes] tBytes (.tmp 17) (.tmp 18),
       .p 5 .mv [(.tmp 19)]]))))) (
 .seq (
  .ops [
    .p 20 .mv [(.tmp 5)],
    .p 21 .len [(.tmp 20)],
    .p 22 (.fad 0) [(.tmp 2)],
    .ld 23 (.tmp 22),
    .p 24 (.bin .quo) [(.tmp 21), (.tmp 23)],
    .p 6 .mv [(.tmp 24)]]) (
 .seq (
  .ops [
    .p 7 .mv [(.const (.slice none 0 0))]]) (
 .seq (
  .seq (
   .ops [
     .p 8 .mv [(.const (.int .i64 0))]]) (
  .block 2 (
   .loop (
    .seq (
     .seq (
      .ops [
        .p 25 .mv [(.tmp 8)],
        .p 26 (.fad 0) [(.tmp 2)],
        .ld 27 (.tmp 26),
        .p 28 (.bin .lss) [(.tmp 25), (.tmp 27)]]) (
     .cond (.tmp 28) (
       .skip) (
       .exit 2))) (
    .seq (
     .block 3 (
      .ops [
        .p 31 .mv [(.tmp 7)],
        .p 32 .mv [(.tmp 5)],
        .p 33 .mv [(.tmp 8)],
        .p 34 .mv [(.tmp 6)],
        .p 35 (.bin .mul) [(.tmp 33), (.tmp 34)],
        .p 36 .mv [(.tmp 8)],
        .p 37 (.bin .add) [(.tmp 36), (.const (.int .i64 1))],
        .p 38 .mv [(.tmp 6)],
        .p 39 (.bin .mul) [(.tmp 37), (.tmp 38)],
        .p 40 (.sls 1 true true false) [(.tmp 32), (.tmp 35), (.tmp 39)],
        .bsl 41 tBytes 1 [(.slice none 0 0)] [(0, 1)] [(.tmp 40)],
        .app 42 #[tRows, tRows] tRows (.tmp 31) (.tmp 41),
        .p 7 .mv [(.tmp 42)]])) (
    .ops [
      .p 29 .mv [(.tmp 8)],
      .p 30 (.bin .add) [(.tmp 29), (.const (.int .i64 1))],
      .p 8 .mv [(.tmp 30)]])))))) (
 .seq (
  .dr [
    ⟨.p 43 (.fad 0) [(.tmp 2)], []⟩,
    ⟨.ld 44 (.tmp 43), []⟩,
    ⟨.ldn 45 2 (.tmp 2), []⟩,
    ⟨.p 48 .mv [(.tmp 7)], []⟩,
    ⟨.call (some 46) f_ref05_N [(.tmp 45)], [.ld 44 (.tmp 43)]⟩,
    ⟨.call (some 47) f_ref04_Coding [(.tmp 44), (.tmp 46)], []⟩,
    ⟨.call (some 49) f_ref04_Mul [(.tmp 47), (.tmp 48)], []⟩,
    ⟨.p 4 .mv [(.tmp 49)], []⟩]) (
 .ret)))))))⟩

theorem c_ref05_Encode : trF Try.prog f_ref05_Encode = some m_ref05_Encode := by kernel_rfl
-- 52 shardlog/shardlogref05.Shape; slots [(0, a), (1, b), (2, a), (3, b), (5, f)]
noncomputable def m_ref05_Shape : MF := ⟨18, [.cn 4 2],
 .seq (
  .ops [
    .new 4 t_api_Shape [(.int .i64 0), (.int .i64 0)]]) (
 .seq (
  .ops [
    .p 6 .mv [(.tmp 1)],
    .p 7 (.bin .rem) [(.tmp 6), (.const (.int .u8 4))],
    .p 8 (.conv .i64) [(.tmp 7)],
    .p 5 .mv [(.tmp 8)]]) (
 .seq (
  .ops [
    .p 9 .mv [(.tmp 0)],
    .p 10 (.conv .i64) [(.tmp 9)],
    .p 11 .mv [(.tmp 5)],
    .p 12 (.bin .mul) [(.const (.int .i64 2)), (.tmp 11)],
    .p 13 (.bin .sub) [(.const (.int .i64 7)), (.tmp 12)],
    .p 14 (.bin .rem) [(.tmp 10), (.tmp 13)],
    .p 15 (.bin .add) [(.const (.int .i64 1)), (.tmp 14)],
    .p 16 .mv [(.tmp 5)],
    .p 17 (.build [(.int .i64 0), (.int .i64 0)] [(0, 1), (1, 1)]) [(.tmp 15), (.tmp 16)],
    .st 2 true (.tmp 4) (.tmp 17)]) (
 .ret)))⟩

theorem c_ref05_Shape : trF Try.prog f_ref05_Shape = some m_ref05_Shape := by kernel_rfl
-- 53 shardlog/shardlogref05.Without; slots [(0, l), (1, bits), (2, l), (3, bits), (5, out), (6, i)]
noncomputable def m_ref05_Without : MF := ⟨32, [.t 4],
 .seq (
  .ops [
    .p 4 .mv [(.const (.slice none 0 0))]]) (
 .seq (
  .ops [
    .p 5 .mv [(.const (.slice none 0 0))]]) (
 .seq (
  .seq (
   .ops [
     .p 6 .mv [(.const (.int .i64 0))]]) (
  .block 0 (
   .loop (
    .seq (
     .seq (
      .ops [
        .p 7 .mv [(.tmp 6)],
        .p 8 .mv [(.tmp 0)],
        .p 9 .len [(.tmp 8)],
        .p 10 (.bin .lss) [(.tmp 7), (.tmp 9)]]) (
     .cond (.tmp 10) (
       .skip) (
       .exit 0))) (
    .seq (
     .block 1 (
      .seq (
       .ops [
         .p 13 .mv [(.tmp 1)],
         .p 14 .mv [(.tmp 6)],
         .p 15 (.conv .u64) [(.tmp 14)],
         .p 16 (.bin .shr) [(.tmp 13), (.tmp 15)],
         .p 17 (.bin .and) [(.tmp 16), (.const (.int .u8 1))],
         .p 18 (.bin .eql) [(.tmp 17), (.const (.int .u8 1))]]) (
      .cond (.tmp 18) (
        .ops [
          .p 19 .mv [(.tmp 5)],
          .bsl 20 tBytes 1 [(.slice none 0 0)] [(0, 1)] [(.const (.slice none 0 0))],
          .app 21 #[tRows, tRows] tRows (.tmp 19) (.tmp 20),
          .p 5 .mv [(.tmp 21)]]) (
        .ops [
          .p 22 .mv [(.tmp 5)],
          .bsl 23 tU8 0 [] [] [],
          .p 24 .mv [(.tmp 0)],
          .p 25 .mv [(.tmp 6)],
          .p 26 (.ixs 1) [(.tmp 24), (.tmp 25)],
          .ld 27 (.tmp 26),
          .app 28 #[tBytes, tBytes] tBytes (.tmp 23) (.tmp 27),
          .bsl 29 tBytes 1 [(.slice none 0 0)] [(0, 1)] [(.tmp 28)],
          .app 30 #[tRows, tRows] tRows (.tmp 22) (.tmp 29),
          .p 5 .mv [(.tmp 30)]])))) (
    .ops [
      .p 11 .mv [(.tmp 6)],
      .p 12 (.bin .add) [(.tmp 11), (.const (.int .i64 1))],
      .p 6 .mv [(.tmp 12)]])))))) (
 .seq (
  .ops [
    .p 31 .mv [(.tmp 5)],
    .p 4 .mv [(.tmp 31)]]) (
 .ret))))⟩

theorem c_ref05_Without : trF Try.prog f_ref05_Without = some m_ref05_Without := by kernel_rfl
-- 54 shardlog/code.Decode; slots [(0, s), (1, l), (2, s), (3, l), (6, at), (7, first), (8, x), (9, ok), (10, v)]
noncomputable def m_code_Decode : MF := ⟨70, [.t 4, .t 5],
 .seq (
  .ops [
    .box 2 t_api_Shape (.tmp 0),
    .p 4 .mv [(.const (.string .empty))],
    .p 5 .mv [(.const (.int .i64 0))]]) (
 .seq (
  .seq (
   .ops [
     .ldn 11 2 (.tmp 2),
     .call (some 12) f_code_Right [(.tmp 11)],
     .p 13 .not [(.tmp 12)],
     .p 14 .mv [(.tmp 13)],
     .gd 14 false (some 15) (.p 15 .mv [(.tmp 1)]),
     .gd 14 false (some 16) (.p 16 .len [(.tmp 15)]),
     .gd 14 false (some 17) (.ldn 17 2 (.tmp 2)),
     .gd 14 false (some 18) (.call (some 18) f_code_N [(.tmp 17)]),
     .gd 14 false (some 19) (.p 19 (.bin .neq) [(.tmp 16), (.tmp 18)]),
     .p 20 .pick [(.tmp 14), (.const (.bool true)), (.tmp 19)]]) (
  .cond (.tmp 20) (
    .seq (
     .ops [
       .p 4 .mv [(.const (.string .empty))],
       .p 5 .mv [(.const (.int .i64 1))]]) (
    .ret)) (
    .skip))) (
 .seq (
  .ops [
    .p 21 .mv [(.tmp 1)],
    .call (some 22) f_code_there [(.tmp 21)],
    .p 6 .mv [(.tmp 22)]]) (
 .seq (
  .seq (
   .ops [
     .p 23 .mv [(.tmp 6)],
     .p 24 .len [(.tmp 23)],
     .p 25 (.fad 0) [(.tmp 2)],
     .ld 26 (.tmp 25),
     .p 27 (.bin .lss) [(.tmp 24), (.tmp 26)]]) (
  .cond (.tmp 27) (
    .seq (
     .ops [
       .p 4 .mv [(.const (.string .empty))],
       .p 5 .mv [(.const (.int .i64 3))]]) (
    .ret)) (
    .skip))) (
 .seq (
  .ops [
    .p 28 .mv [(.tmp 1)],
    .p 29 .mv [(.tmp 6)],
    .p 30 (.fad 0) [(.tmp 2)],
    .ld 31 (.tmp 30),
    .p 32 (.sls 1 false true false) [(.tmp 29), (.tmp 31)],
    .call (some 33) f_matrix_Rows [(.tmp 28), (.tmp 32)],
    .p 7 .mv [(.tmp 33)]]) (
 .seq (
  .seq (
   .ops [
     .p 34 .mv [(.tmp 7)],
     .call (some 35) f_matrix_Right [(.tmp 34)],
     .p 36 .not [(.tmp 35)]]) (
  .cond (.tmp 36) (
    .seq (
     .ops [
       .p 4 .mv [(.const (.string .empty))],
       .p 5 .mv [(.const (.int .i64 2))]]) (
    .ret)) (
    .skip))) (
 .seq (
  .dr [
    ⟨.p 38 (.fad 0) [(.tmp 2)], []⟩,
    ⟨.ld 39 (.tmp 38), []⟩,
    ⟨.ldn 40 2 (.tmp 2), []⟩,
    ⟨.p 43 .mv [(.tmp 6)], []⟩,
    ⟨.p 44 (.fad 0) [(.tmp 2)], []⟩,
    ⟨.ld 45 (.tmp 44), []⟩,
    ⟨.p 46 (.sls 1 false true false) [(.tmp 43), (.tmp 45)], []⟩,
    ⟨.call (some 41) f_code_N [(.tmp 40)], [.ld 45 (.tmp 44), .ld 39 (.tmp 38)]⟩,
    ⟨.call (some 42) f_matrix_Coding [(.tmp 39), (.tmp 41)], [.ld 45 (.tmp 44)]⟩,
    ⟨.call (some 47) f_matrix_Rows [(.tmp 42), (.tmp 46)], [.ld 45 (.tmp 44)]⟩,
    ⟨.call (some 48) f_matrix_Invert [(.tmp 47)], [.ld 45 (.tmp 44)]⟩,
    ⟨.p 37 .mv [(.tmp 48)], []⟩,
    ⟨.p 49 (.ext 0) [(.tmp 37)], []⟩,
    ⟨.p 50 (.ext 1) [(.tmp 37)], []⟩,
    ⟨.p 8 .mv [(.tmp 49)], []⟩,
    ⟨.p 9 .mv [(.tmp 50)], []⟩]) (
 .seq (
  .seq (
   .ops [
     .p 51 .mv [(.tmp 9)],
     .p 52 .not [(.tmp 51)]]) (
  .cond (.tmp 52) (
    .seq (
     .ops [
       .p 4 .mv [(.const (.string .empty))],
       .p 5 .mv [(.const (.int .i64 2))]]) (
    .ret)) (
    .skip))) (
 .seq (
  .ops [
    .p 54 .mv [(.tmp 8)],
    .p 55 .mv [(.tmp 7)],
    .call (some 56) f_matrix_Mul [(.tmp 54), (.tmp 55)],
    .call (some 57) f_code_value [(.tmp 56)],
    .p 53 .mv [(.tmp 57)],
    .p 58 (.ext 0) [(.tmp 53)],
    .p 59 (.ext 1) [(.tmp 53)],
    .p 10 .mv [(.tmp 58)],
    .p 9 .mv [(.tmp 59)]]) (
 .seq (
  .seq (
   .ops [
     .p 60 .mv [(.tmp 9)],
     .p 61 .not [(.tmp 60)],
     .p 62 .mv [(.tmp 61)],
     .gd 62 false (some 63) (.ldn 63 2 (.tmp 2)),
     .gd 62 false (some 64) (.p 64 .mv [(.tmp 10)]),
     .gd 62 false (some 65) (.p 65 .mv [(.tmp 1)]),
     .gd 62 false (some 66) (.call (some 66) f_code_agrees [(.tmp 63), (.tmp 64), (.tmp 65)]),
     .gd 62 false (some 67) (.p 67 .not [(.tmp 66)]),
     .p 68 .pick [(.tmp 62), (.const (.bool true)), (.tmp 67)]]) (
  .cond (.tmp 68) (
    .seq (
     .ops [
       .p 4 .mv [(.const (.string .empty))],
       .p 5 .mv [(.const (.int .i64 2))]]) (
    .ret)) (
    .skip))) (
 .seq (
  .ops [
    .p 69 .mv [(.tmp 10)],
    .p 4 .mv [(.tmp 69)],
    .p 5 .mv [(.const (.int .i64 0))]]) (
 .ret)))))))))))⟩

theorem c_code_Decode : trF Try.prog f_code_Decode = some m_code_Decode := by kernel_rfl
-- 55 shardlog/shardlogref05.There; slots [(0, l), (1, l), (3, n), (4, i)]
noncomputable def m_ref05_There : MF := ⟨20, [.t 2],
 .seq (
  .ops [
    .p 2 .mv [(.const (.int .i64 0))]]) (
 .seq (
  .ops [
    .p 3 .mv [(.const (.int .i64 0))]]) (
 .seq (
  .seq (
   .ops [
     .p 4 .mv [(.const (.int .i64 0))]]) (
  .block 0 (
   .loop (
    .seq (
     .seq (
      .ops [
        .p 5 .mv [(.tmp 4)],
        .p 6 .mv [(.tmp 0)],
        .p 7 .len [(.tmp 6)],
        .p 8 (.bin .lss) [(.tmp 5), (.tmp 7)]]) (
     .cond (.tmp 8) (
       .skip) (
       .exit 0))) (
    .seq (
     .block 1 (
      .seq (
       .ops [
         .p 11 .mv [(.tmp 0)],
         .p 12 .mv [(.tmp 4)],
         .p 13 (.ixs 1) [(.tmp 11), (.tmp 12)],
         .ld 14 (.tmp 13),
         .p 15 .len [(.tmp 14)],
         .p 16 (.bin .gtr) [(.tmp 15), (.const (.int .i64 0))]]) (
      .cond (.tmp 16) (
        .ops [
          .p 17 .mv [(.tmp 3)],
          .p 18 (.bin .add) [(.tmp 17), (.const (.int .i64 1))],
          .p 3 .mv [(.tmp 18)]]) (
        .skip)))) (
    .ops [
      .p 9 .mv [(.tmp 4)],
      .p 10 (.bin .add) [(.tmp 9), (.const (.int .i64 1))],
      .p 4 .mv [(.tmp 10)]])))))) (
 .seq (
  .ops [
    .p 19 .mv [(.tmp 3)],
    .p 2 .mv [(.tmp 19)]]) (
 .ret))))⟩

theorem c_ref05_There : trF Try.prog f_ref05_There = some m_ref05_There := by kernel_rfl
-- 56 shardlog/code.Rebuild; slots [(0, s), (1, l), (2, i), (3, s), (4, l), (5, i), (8, v), (9, e), (10, all)]
noncomputable def m_code_Rebuild : MF := ⟨46, [.t 6, .t 7],
 .seq (
  .ops [
    .box 3 t_api_Shape (.tmp 0),
    .p 6 .mv [(.const (.slice none 0 0))],
    .p 7 .mv [(.const (.int .i64 0))]]) (
 .seq (
  .seq (
   .ops [
     .ldn 11 2 (.tmp 3),
     .call (some 12) f_code_Right [(.tmp 11)],
     .p 13 .not [(.tmp 12)],
     .p 14 .mv [(.tmp 13)],
     .gd 14 false (some 15) (.p 15 .mv [(.tmp 2)]),
     .gd 14 false (some 16) (.p 16 (.bin .lss) [(.tmp 15), (.const (.int .i64 0))]),
     .p 17 .pick [(.tmp 14), (.const (.bool true)), (.tmp 16)],
     .p 18 .mv [(.tmp 17)],
     .gd 18 false (some 19) (.p 19 .mv [(.tmp 2)]),
     .gd 18 false (some 20) (.ldn 20 2 (.tmp 3)),
     .gd 18 false (some 21) (.call (some 21) f_code_N [(.tmp 20)]),
     .gd 18 false (some 22) (.p 22 (.bin .geq) [(.tmp 19), (.tmp 21)]),
     .p 23 .pick [(.tmp 18), (.const (.bool true)), (.tmp 22)]]) (
  .cond (.tmp 23) (
    .seq (
     .ops [
       .p 6 .mv [(.const (.slice none 0 0))],
       .p 7 .mv [(.const (.int .i64 1))]]) (
    .ret)) (
    .skip))) (
 .seq (
  .ops [
    .ldn 25 2 (.tmp 3),
    .p 26 .mv [(.tmp 1)],
    .call (some 27) f_code_Decode [(.tmp 25), (.tmp 26)],
    .p 24 .mv [(.tmp 27)],
    .p 28 (.ext 0) [(.tmp 24)],
    .p 29 (.ext 1) [(.tmp 24)],
    .p 8 .mv [(.tmp 28)],
    .p 9 .mv [(.tmp 29)]]) (
 .seq (
  .seq (
   .ops [
     .p 30 .mv [(.tmp 9)],
     .p 31 (.bin .neq) [(.tmp 30), (.const (.int .i64 0))]]) (
  .cond (.tmp 31) (
    .seq (
     .ops [
       .p 32 .mv [(.tmp 9)],
       .p 6 .mv [(.const (.slice none 0 0))],
       .p 7 .mv [(.tmp 32)]]) (
    .ret)) (
    .skip))) (
 .seq (
  .ops [
    .ldn 34 2 (.tmp 3),
    .p 35 .mv [(.tmp 8)],
    .call (some 36) f_code_Encode [(.tmp 34), (.tmp 35)],
    .p 33 .mv [(.tmp 36)],
    .p 37 (.ext 0) [(.tmp 33)],
    .p 38 (.ext 1) [(.tmp 33)],
    .p 10 .mv [(.tmp 37)],
    .p 9 .mv [(.tmp 38)]]) (
 .seq (
  .seq (
   .ops [
     .p 39 .mv [(.tmp 9)],
     .p 40 (.bin .neq) [(.tmp 39), (.const (.int .i64 0))]]) (
  .cond (.tmp 40) (
    .seq (
     .ops [
       .p 41 .mv [(.tmp 9)],
       .p 6 .mv [(.const (.slice none 0 0))],
       .p 7 .mv [(.tmp 41)]]) (
    .ret)) (
    .skip))) (
 .seq (
  .ops [
    .p 42 .mv [(.tmp 10)],
    .p 43 .mv [(.tmp 2)],
    .p 44 (.ixs 1) [(.tmp 42), (.tmp 43)],
    .ld 45 (.tmp 44),
    .p 6 .mv [(.tmp 45)],
    .p 7 .mv [(.const (.int .i64 0))]]) (
 .ret)))))))⟩

theorem c_code_Rebuild : trF Try.prog f_code_Rebuild = some m_code_Rebuild := by kernel_rfl
-- 57 shardlog/shardlogref01.Same; slots [(0, a), (1, b), (2, a), (3, b)]
noncomputable def m_ref01_Same : MF := ⟨10, [.t 4],
 .seq (
  .ops [
    .p 4 .mv [(.const (.bool false))]]) (
 .seq (
  .ops [
    .p 5 .mv [(.tmp 0)],
    .bs 6 (.tmp 5),
    .p 7 .mv [(.tmp 1)],
    .bs 8 (.tmp 7),
    .p 9 (.bin .eql) [(.tmp 6), (.tmp 8)],
    .p 4 .mv [(.tmp 9)]]) (
 .ret))⟩

theorem c_ref01_Same : trF Try.prog f_ref01_Same = some m_ref01_Same := by kernel_rfl
-- 58 shardlog/shardlogref05.Agrees; slots [(0, s), (1, v), (2, l), (3, s), (4, v), (5, l), (7, all), (8, i)]
noncomputable def m_ref05_Agrees : MF := ⟨36, [.t 6],
 .seq (
  .ops [
    .box 3 t_api_Shape (.tmp 0),
    .p 6 .mv [(.const (.bool false))]]) (
 .seq (
  .ops [
    .ldn 9 2 (.tmp 3),
    .p 10 .mv [(.tmp 1)],
    .call (some 11) f_ref05_Encode [(.tmp 9), (.tmp 10)],
    .p 7 .mv [(.tmp 11)]]) (
 .seq (
  .seq (
   .ops [
     .p 8 .mv [(.const (.int .i64 0))]]) (
  .block 0 (
   .loop (
    .seq (
     .seq (
      .ops [
        .p 12 .mv [(.tmp 8)],
        .p 13 .mv [(.tmp 2)],
        .p 14 .len [(.tmp 13)],
        .p 15 (.bin .lss) [(.tmp 12), (.tmp 14)]]) (
     .cond (.tmp 15) (
       .skip) (
       .exit 0))) (
    .seq (
     .block 1 (
      .seq (
       .dr [
         ⟨.p 18 .mv [(.tmp 2)], []⟩,
         ⟨.p 19 .mv [(.tmp 8)], []⟩,
         ⟨.p 20 (.ixs 1) [(.tmp 18), (.tmp 19)], []⟩,
         ⟨.ld 21 (.tmp 20), []⟩,
         ⟨.p 22 .len [(.tmp 21)], []⟩,
         ⟨.p 23 (.bin .gtr) [(.tmp 22), (.const (.int .i64 0))], []⟩,
         ⟨.p 24 .mv [(.tmp 23)], []⟩,
         ⟨.gd 24 true (some 25) (.p 25 .mv [(.tmp 2)]), []⟩,
         ⟨.gd 24 true (some 26) (.p 26 .mv [(.tmp 8)]), []⟩,
         ⟨.gd 24 true (some 27) (.p 27 (.ixs 1) [(.tmp 25), (.tmp 26)]), []⟩,
         ⟨.gd 24 true (some 28) (.ld 28 (.tmp 27)), []⟩,
         ⟨.gd 24 true (some 29) (.p 29 .mv [(.tmp 7)]), []⟩,
         ⟨.gd 24 true (some 30) (.p 30 .mv [(.tmp 8)]), []⟩,
         ⟨.gd 24 true (some 31) (.p 31 (.ixs 1) [(.tmp 29), (.tmp 30)]), []⟩,
         ⟨.gd 24 true (some 32) (.ld 32 (.tmp 31)), []⟩,
         ⟨.gd 24 true (some 33) (.call (some 33) f_ref01_Same [(.tmp 28), (.tmp 32)]), [.ld 21 (.tmp 20)]⟩,
         ⟨.gd 24 true (some 34) (.p 34 .not [(.tmp 33)]), []⟩,
         ⟨.p 35 .pick [(.tmp 24), (.tmp 34), (.const (.bool false))], []⟩]) (
      .cond (.tmp 35) (
        .seq (
         .ops [
           .p 6 .mv [(.const (.bool false))]]) (
        .ret)) (
        .skip)))) (
    .ops [
      .p 16 .mv [(.tmp 8)],
      .p 17 (.bin .add) [(.tmp 16), (.const (.int .i64 1))],
      .p 8 .mv [(.tmp 17)]])))))) (
 .seq (
  .ops [
    .p 6 .mv [(.const (.bool true))]]) (
 .ret))))⟩

theorem c_ref05_Agrees : trF Try.prog f_ref05_Agrees = some m_ref05_Agrees := by kernel_rfl
-- 115 slices.ContainsFunc[[][]byte,[]byte]; slots [(0, s), (1, f), (2, s), (3, f)]
noncomputable def m_slices_ContainsFunc : MF := ⟨9, [.t 4],
 .seq (
  .ops [
    .p 4 .mv [(.const (.bool false))]]) (
 .seq (
  .ops [
    .p 5 .mv [(.tmp 0)],
    .p 6 .mv [(.tmp 1)],
    .call (some 7) f_slices_IndexFunc [(.tmp 5), (.tmp 6)],
    .p 8 (.bin .geq) [(.tmp 7), (.const (.int .i64 0))],
    .p 4 .mv [(.tmp 8)]]) (
 .ret))⟩

theorem c_slices_ContainsFunc : trF Try.prog f_slices_ContainsFunc = some m_slices_ContainsFunc := by kernel_rfl
-- 116 shardlog/matrix.Right$1; slots [(0, r), (2, r)]
noncomputable def m_matrix_Right_1 : MF := ⟨11, [.t 3],
 .seq (
  .ops [
    .p 3 .mv [(.const (.bool false))]]) (
 .seq (
  .ops [
    .p 4 .mv [(.tmp 0)],
    .p 5 .len [(.tmp 4)],
    .ld 6 (.tmp 1),
    .p 7 (.ixs 1) [(.tmp 6), (.const (.int .i64 0))],
    .ld 8 (.tmp 7),
    .p 9 .len [(.tmp 8)],
    .p 10 (.bin .neq) [(.tmp 5), (.tmp 9)],
    .p 3 .mv [(.tmp 10)]]) (
 .ret))⟩

theorem c_matrix_Right_1 : trF Try.prog f_matrix_Right_1 = some m_matrix_Right_1 := by kernel_rfl
-- 117 shardlog/field.New; slots [(1, f), (2, x), (3, i)]
noncomputable def m_field_New : MF := ⟨30, [.t 0],
 .seq (
  .ops [
    .p 0 .mv [(.const (.pointer none))]]) (
 .seq (
  .ops [
    .p 4 (.build (List.replicate 255 (.int .u8 0) ++ List.replicate 256 (.int .i64 0)) []) [],
    .box 5 t_field_Field (.tmp 4),
    .p 1 .mv [(.tmp 5)]]) (
 .seq (
  .ops [
    .p 2 .mv [(.const (.int .i64 1))]]) (
 .seq (
  .seq (
   .ops [
     .p 6 .mv [(.const (.int .i64 0))]]) (
  .block 0 (
   .loop (
    .seq (
     .ops [
       .p 7 (.bin .lss) [(.tmp 6), (.const (.int .i64 255))]]) (
    .seq (
     .cond (.tmp 7) (
       .skip) (
       .exit 0)) (
    .seq (
     .block 1 (
      .seq (
       .ops [
         .p 8 .mv [(.tmp 6)],
         .p 3 .mv [(.tmp 8)]]) (
      .seq (
       .dr [
         ⟨.p 9 .mv [(.tmp 1)], []⟩,
         ⟨.p 10 .mv [(.tmp 3)], []⟩,
         ⟨.p 11 .mv [(.tmp 1)], []⟩,
         ⟨.p 12 .mv [(.tmp 2)], []⟩,
         ⟨.p 13 .mv [(.tmp 2)], []⟩,
         ⟨.p 14 (.conv .u8) [(.tmp 13)], []⟩,
         ⟨.p 15 .mv [(.tmp 3)], []⟩,
         ⟨.p 16 .nilc [(.tmp 9)], []⟩,
         ⟨.p 17 (.fad 0) [(.tmp 16)], []⟩,
         ⟨.p 18 (.ixa 255 1) [(.tmp 17), (.tmp 10)], []⟩,
         ⟨.p 19 .nilc [(.tmp 11)], []⟩,
         ⟨.p 20 (.fad 255) [(.tmp 19)], []⟩,
         ⟨.st 1 false (.tmp 18) (.tmp 14), []⟩,
         ⟨.p 21 (.ixa 256 1) [(.tmp 20), (.tmp 12)], []⟩,
         ⟨.st 1 false (.tmp 21) (.tmp 15), []⟩]) (
      .seq (
       .ops [
         .p 22 .mv [(.tmp 2)],
         .p 23 (.bin .shl) [(.tmp 22), (.const (.int .u64 1))],
         .p 2 .mv [(.tmp 23)]]) (
      .seq (
       .ops [
         .p 24 .mv [(.tmp 2)],
         .p 25 (.bin .gtr) [(.tmp 24), (.const (.int .i64 255))]]) (
      .cond (.tmp 25) (
        .ops [
          .p 26 .mv [(.tmp 2)],
          .p 27 (.bin .xor) [(.tmp 26), (.const (.int .i64 285))],
          .p 2 .mv [(.tmp 27)]]) (
        .skip))))))) (
    .ops [
      .p 28 (.bin .add) [(.tmp 6), (.const (.int .i64 1))],
      .p 6 .mv [(.tmp 28)]]))))))) (
 .seq (
  .ops [
    .p 29 .mv [(.tmp 1)],
    .p 0 .mv [(.tmp 29)]]) (
 .ret)))))⟩

theorem c_field_New : trF Try.prog f_field_New = some m_field_New := by kernel_rfl
-- 118 shardlog/matrix.plus; slots [(0, a), (1, b), (2, a), (3, b), (4, i), (5, x)]
noncomputable def m_matrix_plus : MF := ⟨21, [],
 .seq (
  .ops [
    .p 6 .mv [(.tmp 1)],
    .p 7 .len [(.tmp 6)],
    .p 8 .mv [(.const (.int .i64 0))]]) (
 .block 0 (
  .loop (
   .seq (
    .ops [
      .p 9 (.bin .lss) [(.tmp 8), (.tmp 7)]]) (
   .seq (
    .cond (.tmp 9) (
      .skip) (
      .exit 0)) (
   .seq (
    .block 1 (
     .seq (
      .ops [
        .p 10 .mv [(.tmp 8)],
        .p 11 (.ixs 1) [(.tmp 6), (.tmp 8)],
        .ld 12 (.tmp 11),
        .p 4 .mv [(.tmp 10)],
        .p 5 .mv [(.tmp 12)]]) (
     .ops [
       .p 13 .mv [(.tmp 0)],
       .p 14 .mv [(.tmp 4)],
       .p 15 (.ixs 1) [(.tmp 13), (.tmp 14)],
       .ld 16 (.tmp 15),
       .p 17 .mv [(.tmp 5)],
       .p 18 (.bin .xor) [(.tmp 16), (.tmp 17)],
       .p 19 (.ixs 1) [(.tmp 13), (.tmp 14)],
       .st 1 false (.tmp 19) (.tmp 18)]))) (
   .ops [
     .p 20 (.bin .add) [(.tmp 8), (.const (.int .i64 1))],
     .p 8 .mv [(.tmp 20)]]))))))⟩

theorem c_matrix_plus : trF Try.prog f_matrix_plus = some m_matrix_plus := by kernel_rfl
-- 119 (*shardlog/field.Field).Row; slots [(0, f), (1, c), (2, b), (3, f), (4, c), (5, b), (7, times), (8, out), (9, _), (10, x)]
noncomputable def m_field_Field_Row : MF := ⟨28, [.t 6],
 .seq (
  .ops [
    .p 6 .mv [(.const (.slice none 0 0))]]) (
 .seq (
  .ops [
    .p 11 .mv [(.tmp 0)],
    .p 12 (.fn (.func f_field_Field_Mul) 1) [(.tmp 11)],
    .p 7 .mv [(.tmp 12)]]) (
 .seq (
  .ops [
    .p 8 .mv [(.const (.slice none 0 0))]]) (
 .seq (
  .seq (
   .ops [
     .p 13 .mv [(.tmp 2)],
     .p 14 .len [(.tmp 13)],
     .p 15 .mv [(.const (.int .i64 0))]]) (
  .block 0 (
   .loop (
    .seq (
     .ops [
       .p 16 (.bin .lss) [(.tmp 15), (.tmp 14)]]) (
    .seq (
     .cond (.tmp 16) (
       .skip) (
       .exit 0)) (
    .seq (
     .block 1 (
      .seq (
       .ops [
         .p 17 (.ixs 1) [(.tmp 13), (.tmp 15)],
         .ld 18 (.tmp 17),
         .p 10 .mv [(.tmp 18)]]) (
      .ops [
        .p 19 .mv [(.tmp 8)],
        .p 20 .mv [(.tmp 7)],
        .p 21 .mv [(.tmp 1)],
        .p 22 .mv [(.tmp 10)],
        .callv (some 23) (.tmp 20) [(.tmp 21), (.tmp 22)],
        .bsl 24 tU8 1 [(.int .u8 0)] [(0, 1)] [(.tmp 23)],
        .app 25 #[tBytes, tBytes] tBytes (.tmp 19) (.tmp 24),
        .p 8 .mv [(.tmp 25)]]))) (
    .ops [
      .p 26 (.bin .add) [(.tmp 15), (.const (.int .i64 1))],
      .p 15 .mv [(.tmp 26)]]))))))) (
 .seq (
  .ops [
    .p 27 .mv [(.tmp 8)],
    .p 6 .mv [(.tmp 27)]]) (
 .ret)))))⟩

theorem c_field_Field_Row : trF Try.prog f_field_Field_Row = some m_field_Field_Row := by kernel_rfl
-- 120 shardlog/shardlogref03.Mul; slots [(0, a), (1, b), (2, a), (3, b), (5, x), (6, y), (7, out), (8, i)]
noncomputable def m_ref03_Mul : MF := ⟨33, [.t 4],
 .seq (
  .ops [
    .p 4 .mv [(.const (.int .u8 0))]]) (
 .seq (
  .ops [
    .p 9 .mv [(.tmp 0)],
    .p 10 (.conv .i64) [(.tmp 9)],
    .p 5 .mv [(.tmp 10)]]) (
 .seq (
  .ops [
    .p 11 .mv [(.tmp 1)],
    .p 12 (.conv .i64) [(.tmp 11)],
    .p 6 .mv [(.tmp 12)]]) (
 .seq (
  .ops [
    .p 7 .mv [(.const (.int .i64 0))]]) (
 .seq (
  .seq (
   .ops [
     .p 8 .mv [(.const (.int .i64 0))]]) (
  .block 0 (
   .loop (
    .seq (
     .seq (
      .ops [
        .p 13 .mv [(.tmp 8)],
        .p 14 (.bin .lss) [(.tmp 13), (.const (.int .i64 8))]]) (
     .cond (.tmp 14) (
       .skip) (
       .exit 0))) (
    .seq (
     .block 1 (
      .seq (
       .seq (
        .ops [
          .p 17 .mv [(.tmp 6)],
          .p 18 (.bin .rem) [(.tmp 17), (.const (.int .i64 2))],
          .p 19 (.bin .eql) [(.tmp 18), (.const (.int .i64 1))]]) (
       .cond (.tmp 19) (
         .ops [
           .p 20 .mv [(.tmp 7)],
           .p 21 .mv [(.tmp 5)],
           .p 22 (.bin .xor) [(.tmp 20), (.tmp 21)],
           .p 7 .mv [(.tmp 22)]]) (
         .skip))) (
      .seq (
       .ops [
         .p 23 .mv [(.tmp 6)],
         .p 24 (.bin .quo) [(.tmp 23), (.const (.int .i64 2))],
         .p 6 .mv [(.tmp 24)]]) (
      .seq (
       .ops [
         .p 25 .mv [(.tmp 5)],
         .p 26 (.bin .mul) [(.tmp 25), (.const (.int .i64 2))],
         .p 5 .mv [(.tmp 26)]]) (
      .seq (
       .ops [
         .p 27 .mv [(.tmp 5)],
         .p 28 (.bin .geq) [(.tmp 27), (.const (.int .i64 256))]]) (
      .cond (.tmp 28) (
        .ops [
          .p 29 .mv [(.tmp 5)],
          .p 30 (.bin .xor) [(.tmp 29), (.const (.int .i64 285))],
          .p 5 .mv [(.tmp 30)]]) (
        .skip))))))) (
    .ops [
      .p 15 .mv [(.tmp 8)],
      .p 16 (.bin .add) [(.tmp 15), (.const (.int .i64 1))],
      .p 8 .mv [(.tmp 16)]])))))) (
 .seq (
  .ops [
    .p 31 .mv [(.tmp 7)],
    .p 32 (.conv .u8) [(.tmp 31)],
    .p 4 .mv [(.tmp 32)]]) (
 .ret))))))⟩

theorem c_ref03_Mul : trF Try.prog f_ref03_Mul = some m_ref03_Mul := by kernel_rfl
-- 121 shardlog/matrix.copied; slots [(0, m), (1, m), (3, out), (4, _), (5, r)]
noncomputable def m_matrix_copied : MF := ⟨19, [.t 2],
 .seq (
  .ops [
    .p 2 .mv [(.const (.slice none 0 0))]]) (
 .seq (
  .ops [
    .p 3 .mv [(.const (.slice none 0 0))]]) (
 .seq (
  .seq (
   .ops [
     .p 6 .mv [(.tmp 0)],
     .p 7 .len [(.tmp 6)],
     .p 8 .mv [(.const (.int .i64 0))]]) (
  .block 0 (
   .loop (
    .seq (
     .ops [
       .p 9 (.bin .lss) [(.tmp 8), (.tmp 7)]]) (
    .seq (
     .cond (.tmp 9) (
       .skip) (
       .exit 0)) (
    .seq (
     .block 1 (
      .seq (
       .ops [
         .p 10 (.ixs 1) [(.tmp 6), (.tmp 8)],
         .ld 11 (.tmp 10),
         .p 5 .mv [(.tmp 11)]]) (
      .ops [
        .p 12 .mv [(.tmp 3)],
        .p 13 .mv [(.tmp 5)],
        .call (some 14) f_slices_Clone [(.tmp 13)],
        .bsl 15 tBytes 1 [(.slice none 0 0)] [(0, 1)] [(.tmp 14)],
        .app 16 #[tRows, tRows] tRows (.tmp 12) (.tmp 15),
        .p 3 .mv [(.tmp 16)]]))) (
    .ops [
      .p 17 (.bin .add) [(.tmp 8), (.const (.int .i64 1))],
      .p 8 .mv [(.tmp 17)]]))))))) (
 .seq (
  .ops [
    .p 18 .mv [(.tmp 3)],
    .p 2 .mv [(.tmp 18)]]) (
 .ret))))⟩

theorem c_matrix_copied : trF Try.prog f_matrix_copied = some m_matrix_copied := by kernel_rfl
-- 122 shardlog/matrix.pivot; slots [(0, m), (1, out), (2, c), (3, m), (4, out), (5, c), (7, i)]
noncomputable def m_matrix_pivot : MF := ⟨51, [.t 6],
 .seq (
  .ops [
    .p 6 .mv [(.const (.bool false))]]) (
 .seq (
  .seq (
   .ops [
     .p 8 .mv [(.tmp 2)],
     .p 7 .mv [(.tmp 8)]]) (
  .block 0 (
   .loop (
    .seq (
     .seq (
      .ops [
        .p 9 .mv [(.tmp 7)],
        .p 10 .mv [(.tmp 0)],
        .p 11 .len [(.tmp 10)],
        .p 12 (.bin .lss) [(.tmp 9), (.tmp 11)]]) (
     .cond (.tmp 12) (
       .skip) (
       .exit 0))) (
    .seq (
     .block 1 (
      .seq (
       .ops [
         .p 15 .mv [(.tmp 0)],
         .p 16 .mv [(.tmp 7)],
         .p 17 (.ixs 1) [(.tmp 15), (.tmp 16)],
         .ld 18 (.tmp 17),
         .p 19 .mv [(.tmp 2)],
         .p 20 (.ixs 1) [(.tmp 18), (.tmp 19)],
         .ld 21 (.tmp 20),
         .p 22 (.bin .neq) [(.tmp 21), (.const (.int .u8 0))]]) (
      .cond (.tmp 22) (
        .seq (
         .dr [
           ⟨.p 23 .mv [(.tmp 0)], []⟩,
           ⟨.p 24 .mv [(.tmp 2)], []⟩,
           ⟨.p 25 .mv [(.tmp 0)], []⟩,
           ⟨.p 26 .mv [(.tmp 7)], []⟩,
           ⟨.p 27 .mv [(.tmp 0)], []⟩,
           ⟨.p 28 .mv [(.tmp 7)], []⟩,
           ⟨.p 29 (.ixs 1) [(.tmp 27), (.tmp 28)], []⟩,
           ⟨.ld 30 (.tmp 29), []⟩,
           ⟨.p 31 .mv [(.tmp 0)], []⟩,
           ⟨.p 32 .mv [(.tmp 2)], []⟩,
           ⟨.p 33 (.ixs 1) [(.tmp 31), (.tmp 32)], []⟩,
           ⟨.ld 34 (.tmp 33), []⟩,
           ⟨.p 35 (.ixs 1) [(.tmp 23), (.tmp 24)], []⟩,
           ⟨.st 1 false (.tmp 35) (.tmp 30), []⟩,
           ⟨.p 36 (.ixs 1) [(.tmp 25), (.tmp 26)], []⟩,
           ⟨.st 1 false (.tmp 36) (.tmp 34), []⟩]) (
        .seq (
         .dr [
           ⟨.p 37 .mv [(.tmp 1)], []⟩,
           ⟨.p 38 .mv [(.tmp 2)], []⟩,
           ⟨.p 39 .mv [(.tmp 1)], []⟩,
           ⟨.p 40 .mv [(.tmp 7)], []⟩,
           ⟨.p 41 .mv [(.tmp 1)], []⟩,
           ⟨.p 42 .mv [(.tmp 7)], []⟩,
           ⟨.p 43 (.ixs 1) [(.tmp 41), (.tmp 42)], []⟩,
           ⟨.ld 44 (.tmp 43), []⟩,
           ⟨.p 45 .mv [(.tmp 1)], []⟩,
           ⟨.p 46 .mv [(.tmp 2)], []⟩,
           ⟨.p 47 (.ixs 1) [(.tmp 45), (.tmp 46)], []⟩,
           ⟨.ld 48 (.tmp 47), []⟩,
           ⟨.p 49 (.ixs 1) [(.tmp 37), (.tmp 38)], []⟩,
           ⟨.st 1 false (.tmp 49) (.tmp 44), []⟩,
           ⟨.p 50 (.ixs 1) [(.tmp 39), (.tmp 40)], []⟩,
           ⟨.st 1 false (.tmp 50) (.tmp 48), []⟩]) (
        .seq (
         .ops [
           .p 6 .mv [(.const (.bool true))]]) (
        .ret)))) (
        .skip)))) (
    .ops [
      .p 13 .mv [(.tmp 7)],
      .p 14 (.bin .add) [(.tmp 13), (.const (.int .i64 1))],
      .p 7 .mv [(.tmp 14)]])))))) (
 .seq (
  .ops [
    .p 6 .mv [(.const (.bool false))]]) (
 .ret)))⟩

theorem c_matrix_pivot : trF Try.prog f_matrix_pivot = some m_matrix_pivot := by kernel_rfl
-- 123 shardlog/matrix.clearColumn; slots [(0, f), (1, m), (2, out), (3, c), (4, f), (5, m), (6, out), (7, c), (8, x), (9, i), (10, y)]
noncomputable def m_matrix_clearColumn : MF := ⟨84, [],
 .seq (
  .ops [
    .p 11 .mv [(.tmp 0)],
    .p 12 .mv [(.tmp 1)],
    .p 13 .mv [(.tmp 3)],
    .p 14 (.ixs 1) [(.tmp 12), (.tmp 13)],
    .ld 15 (.tmp 14),
    .p 16 .mv [(.tmp 3)],
    .p 17 (.ixs 1) [(.tmp 15), (.tmp 16)],
    .ld 18 (.tmp 17),
    .call (some 19) f_field_Field_Inv [(.tmp 11), (.tmp 18)],
    .p 8 .mv [(.tmp 19)]]) (
 .seq (
  .dr [
    ⟨.p 20 .mv [(.tmp 1)], []⟩,
    ⟨.p 21 .mv [(.tmp 3)], []⟩,
    ⟨.p 22 .mv [(.tmp 2)], []⟩,
    ⟨.p 23 .mv [(.tmp 3)], []⟩,
    ⟨.p 24 .mv [(.tmp 0)], []⟩,
    ⟨.p 25 .mv [(.tmp 8)], []⟩,
    ⟨.p 26 .mv [(.tmp 1)], []⟩,
    ⟨.p 27 .mv [(.tmp 3)], []⟩,
    ⟨.p 28 (.ixs 1) [(.tmp 26), (.tmp 27)], []⟩,
    ⟨.ld 29 (.tmp 28), []⟩,
    ⟨.p 31 .mv [(.tmp 0)], []⟩,
    ⟨.p 32 .mv [(.tmp 8)], []⟩,
    ⟨.p 33 .mv [(.tmp 2)], []⟩,
    ⟨.p 34 .mv [(.tmp 3)], []⟩,
    ⟨.p 35 (.ixs 1) [(.tmp 33), (.tmp 34)], []⟩,
    ⟨.ld 36 (.tmp 35), []⟩,
    ⟨.call (some 30) f_field_Field_Row [(.tmp 24), (.tmp 25), (.tmp 29)], [.ld 36 (.tmp 35)]⟩,
    ⟨.call (some 37) f_field_Field_Row [(.tmp 31), (.tmp 32), (.tmp 36)], []⟩,
    ⟨.p 38 (.ixs 1) [(.tmp 20), (.tmp 21)], []⟩,
    ⟨.st 1 false (.tmp 38) (.tmp 30), []⟩,
    ⟨.p 39 (.ixs 1) [(.tmp 22), (.tmp 23)], []⟩,
    ⟨.st 1 false (.tmp 39) (.tmp 37), []⟩]) (
 .seq (
  .ops [
    .p 40 .mv [(.tmp 1)],
    .p 41 .len [(.tmp 40)],
    .p 42 .mv [(.const (.int .i64 0))]]) (
 .block 0 (
  .loop (
   .seq (
    .ops [
      .p 43 (.bin .lss) [(.tmp 42), (.tmp 41)]]) (
   .seq (
    .cond (.tmp 43) (
      .skip) (
      .exit 0)) (
   .seq (
    .block 1 (
     .seq (
      .ops [
        .p 44 .mv [(.tmp 42)],
        .p 9 .mv [(.tmp 44)]]) (
     .seq (
      .ops [
        .p 45 .mv [(.tmp 1)],
        .p 46 .mv [(.tmp 9)],
        .p 47 (.ixs 1) [(.tmp 45), (.tmp 46)],
        .ld 48 (.tmp 47),
        .p 49 .mv [(.tmp 3)],
        .p 50 (.ixs 1) [(.tmp 48), (.tmp 49)],
        .ld 51 (.tmp 50),
        .p 10 .mv [(.tmp 51)]]) (
     .seq (
      .ops [
        .p 52 .mv [(.tmp 9)],
        .p 53 .mv [(.tmp 3)],
        .p 54 (.bin .neq) [(.tmp 52), (.tmp 53)],
        .p 55 .mv [(.tmp 54)],
        .gd 55 true (some 56) (.p 56 .mv [(.tmp 10)]),
        .gd 55 true (some 57) (.p 57 (.bin .neq) [(.tmp 56), (.const (.int .u8 0))]),
        .p 58 .pick [(.tmp 55), (.tmp 57), (.const (.bool false))]]) (
     .cond (.tmp 58) (
       .seq (
        .dr [
          ⟨.p 59 .mv [(.tmp 1)], []⟩,
          ⟨.p 60 .mv [(.tmp 9)], []⟩,
          ⟨.p 61 (.ixs 1) [(.tmp 59), (.tmp 60)], []⟩,
          ⟨.ld 62 (.tmp 61), []⟩,
          ⟨.p 63 .mv [(.tmp 0)], []⟩,
          ⟨.p 64 .mv [(.tmp 10)], []⟩,
          ⟨.p 65 .mv [(.tmp 1)], []⟩,
          ⟨.p 66 .mv [(.tmp 3)], []⟩,
          ⟨.p 67 (.ixs 1) [(.tmp 65), (.tmp 66)], []⟩,
          ⟨.ld 68 (.tmp 67), []⟩,
          ⟨.call (some 69) f_field_Field_Row [(.tmp 63), (.tmp 64), (.tmp 68)], [.ld 62 (.tmp 61)]⟩,
          ⟨.call (some 70) f_matrix_plus [(.tmp 62), (.tmp 69)], []⟩]) (
       .dr [
         ⟨.p 71 .mv [(.tmp 2)], []⟩,
         ⟨.p 72 .mv [(.tmp 9)], []⟩,
         ⟨.p 73 (.ixs 1) [(.tmp 71), (.tmp 72)], []⟩,
         ⟨.ld 74 (.tmp 73), []⟩,
         ⟨.p 75 .mv [(.tmp 0)], []⟩,
         ⟨.p 76 .mv [(.tmp 10)], []⟩,
         ⟨.p 77 .mv [(.tmp 2)], []⟩,
         ⟨.p 78 .mv [(.tmp 3)], []⟩,
         ⟨.p 79 (.ixs 1) [(.tmp 77), (.tmp 78)], []⟩,
         ⟨.ld 80 (.tmp 79), []⟩,
         ⟨.call (some 81) f_field_Field_Row [(.tmp 75), (.tmp 76), (.tmp 80)], [.ld 74 (.tmp 73)]⟩,
         ⟨.call (some 82) f_matrix_plus [(.tmp 74), (.tmp 81)], []⟩])) (
       .skip)))))) (
   .ops [
     .p 83 (.bin .add) [(.tmp 42), (.const (.int .i64 1))],
     .p 42 .mv [(.tmp 83)]]))))))))⟩

theorem c_matrix_clearColumn : trF Try.prog f_matrix_clearColumn = some m_matrix_clearColumn := by kernel_rfl
-- 124 (*shardlog/field.Field).Inv; slots [(0, f), (1, a), (2, f), (3, a)]
noncomputable def m_field_Field_Inv : MF := ⟨20, [.t 4],
 .seq (
  .ops [
    .p 4 .mv [(.const (.int .u8 0))]]) (
 .seq (
  .seq (
   .ops [
     .p 5 .mv [(.tmp 1)],
     .p 6 (.bin .eql) [(.tmp 5), (.const (.int .u8 0))]]) (
  .cond (.tmp 6) (
    .seq (
     .ops [
       .p 4 .mv [(.const (.int .u8 0))]]) (
    .ret)) (
    .skip))) (
 .seq (
  .dr [
    ⟨.p 7 .mv [(.tmp 0)], []⟩,
    ⟨.p 8 .mv [(.tmp 0)], []⟩,
    ⟨.p 9 .mv [(.tmp 1)], []⟩,
    ⟨.p 10 .nilc [(.tmp 8)], []⟩,
    ⟨.p 11 (.fad 255) [(.tmp 10)], []⟩,
    ⟨.p 12 (.ixa 256 1) [(.tmp 11), (.tmp 9)], []⟩,
    ⟨.ld 13 (.tmp 12), []⟩,
    ⟨.p 14 (.bin .sub) [(.const (.int .i64 255)), (.tmp 13)], []⟩,
    ⟨.p 15 (.bin .rem) [(.tmp 14), (.const (.int .i64 255))], []⟩,
    ⟨.p 16 .nilc [(.tmp 7)], []⟩,
    ⟨.p 17 (.fad 0) [(.tmp 16)], []⟩,
    ⟨.p 18 (.ixa 255 1) [(.tmp 17), (.tmp 15)], []⟩,
    ⟨.ld 19 (.tmp 18), []⟩,
    ⟨.p 4 .mv [(.tmp 19)], []⟩]) (
 .ret)))⟩

theorem c_field_Field_Inv : trF Try.prog f_field_Field_Inv = some m_field_Field_Inv := by kernel_rfl
-- 125 shardlog/shardlogref03.Inv; slots [(0, a), (1, a), (3, b)]
noncomputable def m_ref03_Inv : MF := ⟨15, [.t 2],
 .seq (
  .ops [
    .p 2 .mv [(.const (.int .u8 0))]]) (
 .seq (
  .seq (
   .ops [
     .p 3 .mv [(.const (.int .i64 1))]]) (
  .block 0 (
   .loop (
    .seq (
     .seq (
      .ops [
        .p 4 .mv [(.tmp 3)],
        .p 5 (.bin .lss) [(.tmp 4), (.const (.int .i64 256))]]) (
     .cond (.tmp 5) (
       .skip) (
       .exit 0))) (
    .seq (
     .block 1 (
      .seq (
       .ops [
         .p 8 .mv [(.tmp 0)],
         .p 9 .mv [(.tmp 3)],
         .p 10 (.conv .u8) [(.tmp 9)],
         .call (some 11) f_ref03_Mul [(.tmp 8), (.tmp 10)],
         .p 12 (.bin .eql) [(.tmp 11), (.const (.int .u8 1))]]) (
      .cond (.tmp 12) (
        .seq (
         .ops [
           .p 13 .mv [(.tmp 3)],
           .p 14 (.conv .u8) [(.tmp 13)],
           .p 2 .mv [(.tmp 14)]]) (
        .ret)) (
        .skip)))) (
    .ops [
      .p 6 .mv [(.tmp 3)],
      .p 7 (.bin .add) [(.tmp 6), (.const (.int .i64 1))],
      .p 3 .mv [(.tmp 7)]])))))) (
 .seq (
  .ops [
    .p 2 .mv [(.const (.int .u8 0))]]) (
 .ret)))⟩

theorem c_ref03_Inv : trF Try.prog f_ref03_Inv = some m_ref03_Inv := by kernel_rfl
-- 126 slices.Clone[[]byte,byte]; slots [(0, s), (1, s)]
noncomputable def m_slices_Clone : MF := ⟨8, [.t 2],
 .seq (
  .ops [
    .p 2 .mv [(.const (.slice none 0 0))]]) (
 .seq (
  .seq (
   .ops [
     .p 3 .mv [(.tmp 0)],
     .p 4 (.isnil .sl false) [(.tmp 3)]]) (
  .cond (.tmp 4) (
    .seq (
     .ops [
       .p 2 .mv [(.const (.slice none 0 0))]]) (
    .ret)) (
    .skip))) (
 .seq (
  .ops [
    .bsl 5 tU8 0 [] [] [],
    .p 6 .mv [(.tmp 0)],
    .app 7 #[tBytes, tBytes] tBytes (.tmp 5) (.tmp 6),
    .p 2 .mv [(.tmp 7)]]) (
 .ret)))⟩

theorem c_slices_Clone : trF Try.prog f_slices_Clone = some m_slices_Clone := by kernel_rfl
-- 127 shardlog/code.pieces; slots [(0, k), (1, v), (2, k), (3, v), (5, b), (6, out), (7, c)]: not here
-- 128 shardlog/shardlogref01.Text; slots [(0, s), (1, s)]
noncomputable def m_ref01_Text : MF := ⟨9, [.t 2],
 .seq (
  .ops [
    .p 2 .mv [(.const (.slice none 0 0))]]) (
 .seq (
  .ops [
    .p 3 .mv [(.tmp 0)],
    .p 4 .lens [(.tmp 3)],
    .call (some 5) f_ref01_Num [(.tmp 4)],
    .p 6 .mv [(.tmp 0)],
    .gen (some 7) ⟨(some 7), (.convert tStr tBytes (.tmp 6)), tBytes, "ref.go:13", #[⟨3, .data⟩], none⟩,
    .app 8 #[tBytes, tBytes] tBytes (.tmp 5) (.tmp 7),
    .p 2 .mv [(.tmp 8)]]) (
 .ret))⟩

theorem c_ref01_Text : trF Try.prog f_ref01_Text = some m_ref01_Text := by kernel_rfl
-- 129 shardlog/code.there; slots [(0, l), (1, l), (3, out), (4, i), (5, b)]
noncomputable def m_code_there : MF := ⟨22, [.t 2],
 .seq (
  .ops [
    .p 2 .mv [(.const (.slice none 0 0))]]) (
 .seq (
  .ops [
    .p 3 .mv [(.const (.slice none 0 0))]]) (
 .seq (
  .seq (
   .ops [
     .p 6 .mv [(.tmp 0)],
     .p 7 .len [(.tmp 6)],
     .p 8 .mv [(.const (.int .i64 0))]]) (
  .block 0 (
   .loop (
    .seq (
     .ops [
       .p 9 (.bin .lss) [(.tmp 8), (.tmp 7)]]) (
    .seq (
     .cond (.tmp 9) (
       .skip) (
       .exit 0)) (
    .seq (
     .block 1 (
      .seq (
       .ops [
         .p 10 .mv [(.tmp 8)],
         .p 11 (.ixs 1) [(.tmp 6), (.tmp 8)],
         .ld 12 (.tmp 11),
         .p 4 .mv [(.tmp 10)],
         .p 5 .mv [(.tmp 12)]]) (
      .seq (
       .ops [
         .p 13 .mv [(.tmp 5)],
         .p 14 .len [(.tmp 13)],
         .p 15 (.bin .gtr) [(.tmp 14), (.const (.int .i64 0))]]) (
      .cond (.tmp 15) (
        .ops [
          .p 16 .mv [(.tmp 3)],
          .p 17 .mv [(.tmp 4)],
          .bsl 18 tInt 1 [(.int .i64 0)] [(0, 1)] [(.tmp 17)],
          .app 19 #[tInts, tInts] tInts (.tmp 16) (.tmp 18),
          .p 3 .mv [(.tmp 19)]]) (
        .skip))))) (
    .ops [
      .p 20 (.bin .add) [(.tmp 8), (.const (.int .i64 1))],
      .p 8 .mv [(.tmp 20)]]))))))) (
 .seq (
  .ops [
    .p 21 .mv [(.tmp 3)],
    .p 2 .mv [(.tmp 21)]]) (
 .ret))))⟩

theorem c_code_there : trF Try.prog f_code_there = some m_code_there := by kernel_rfl
-- 130 shardlog/code.value; slots [(0, p), (1, p), (4, v), (5, _), (6, ok)]
noncomputable def m_code_value : MF := ⟨21, [.t 2, .t 3],
 .seq (
  .ops [
    .p 2 .mv [(.const (.string .empty))],
    .p 3 .mv [(.const (.bool false))]]) (
 .seq (
  .ops [
    .p 8 .mv [(.tmp 0)],
    .call (some 9) f_slices_Concat [(.tmp 8)],
    .call (some 10) f_wire_CutText [(.tmp 9)],
    .p 7 .mv [(.tmp 10)],
    .p 11 (.ext 0) [(.tmp 7)],
    .p 12 (.ext 1) [(.tmp 7)],
    .p 13 (.ext 2) [(.tmp 7)],
    .p 4 .mv [(.tmp 11)],
    .p 5 .mv [(.tmp 12)],
    .p 6 .mv [(.tmp 13)]]) (
 .seq (
  .ops [
    .p 14 .mv [(.tmp 4)],
    .p 15 .mv [(.tmp 6)],
    .p 16 .mv [(.tmp 15)],
    .gd 16 true (some 17) (.p 17 .mv [(.tmp 4)]),
    .gd 16 true (some 18) (.p 18 .lens [(.tmp 17)]),
    .gd 16 true (some 19) (.p 19 (.bin .leq) [(.tmp 18), (.const (.int .i64 512))]),
    .p 20 .pick [(.tmp 16), (.tmp 19), (.const (.bool false))],
    .p 2 .mv [(.tmp 14)],
    .p 3 .mv [(.tmp 20)]]) (
 .ret)))⟩

theorem c_code_value : trF Try.prog f_code_value = some m_code_value := by kernel_rfl
-- 131 shardlog/code.agrees; slots [(0, s), (1, v), (2, l), (3, s), (4, v), (5, l), (7, all), (8, e), (9, _), (10, i)]
noncomputable def m_code_agrees : MF := ⟨37, [.t 6],
 .seq (
  .ops [
    .box 3 t_api_Shape (.tmp 0),
    .p 6 .mv [(.const (.bool false))]]) (
 .seq (
  .ops [
    .ldn 12 2 (.tmp 3),
    .p 13 .mv [(.tmp 1)],
    .call (some 14) f_code_Encode [(.tmp 12), (.tmp 13)],
    .p 11 .mv [(.tmp 14)],
    .p 15 (.ext 0) [(.tmp 11)],
    .p 16 (.ext 1) [(.tmp 11)],
    .p 7 .mv [(.tmp 15)],
    .p 8 .mv [(.tmp 16)]]) (
 .seq (
  .seq (
   .ops [
     .p 17 .mv [(.tmp 8)],
     .p 18 (.bin .neq) [(.tmp 17), (.const (.int .i64 0))]]) (
  .cond (.tmp 18) (
    .seq (
     .ops [
       .p 6 .mv [(.const (.bool false))]]) (
    .ret)) (
    .skip))) (
 .seq (
  .seq (
   .ops [
     .p 19 .mv [(.tmp 2)],
     .call (some 20) f_code_there [(.tmp 19)],
     .p 21 .len [(.tmp 20)],
     .p 22 .mv [(.const (.int .i64 0))]]) (
  .block 0 (
   .loop (
    .seq (
     .ops [
       .p 23 (.bin .lss) [(.tmp 22), (.tmp 21)]]) (
    .seq (
     .cond (.tmp 23) (
       .skip) (
       .exit 0)) (
    .seq (
     .block 1 (
      .seq (
       .ops [
         .p 24 (.ixs 1) [(.tmp 20), (.tmp 22)],
         .ld 25 (.tmp 24),
         .p 10 .mv [(.tmp 25)]]) (
      .seq (
       .dr [
         ⟨.p 26 .mv [(.tmp 7)], []⟩,
         ⟨.p 27 .mv [(.tmp 10)], []⟩,
         ⟨.p 28 (.ixs 1) [(.tmp 26), (.tmp 27)], []⟩,
         ⟨.ld 29 (.tmp 28), []⟩,
         ⟨.p 30 .mv [(.tmp 2)], []⟩,
         ⟨.p 31 .mv [(.tmp 10)], []⟩,
         ⟨.p 32 (.ixs 1) [(.tmp 30), (.tmp 31)], []⟩,
         ⟨.ld 33 (.tmp 32), []⟩,
         ⟨.call (some 34) f_slices_Equal [(.tmp 29), (.tmp 33)], []⟩,
         ⟨.p 35 .not [(.tmp 34)], []⟩]) (
      .cond (.tmp 35) (
        .seq (
         .ops [
           .p 6 .mv [(.const (.bool false))]]) (
        .ret)) (
        .skip))))) (
    .ops [
      .p 36 (.bin .add) [(.tmp 22), (.const (.int .i64 1))],
      .p 22 .mv [(.tmp 36)]]))))))) (
 .seq (
  .ops [
    .p 6 .mv [(.const (.bool true))]]) (
 .ret)))))⟩

theorem c_code_agrees : trF Try.prog f_code_agrees = some m_code_agrees := by kernel_rfl
-- 186 slices.IndexFunc[[][]byte,[]byte]; slots [(0, s), (1, f), (2, s), (3, f), (5, i)]
noncomputable def m_slices_IndexFunc : MF := ⟨19, [.t 4],
 .seq (
  .ops [
    .p 4 .mv [(.const (.int .i64 0))]]) (
 .seq (
  .seq (
   .ops [
     .p 6 .mv [(.tmp 0)],
     .p 7 .len [(.tmp 6)],
     .p 8 .mv [(.const (.int .i64 0))]]) (
  .block 0 (
   .loop (
    .seq (
     .ops [
       .p 9 (.bin .lss) [(.tmp 8), (.tmp 7)]]) (
    .seq (
     .cond (.tmp 9) (
       .skip) (
       .exit 0)) (
    .seq (
     .block 1 (
      .seq (
       .ops [
         .p 10 .mv [(.tmp 8)],
         .p 5 .mv [(.tmp 10)]]) (
      .seq (
       .ops [
         .p 11 .mv [(.tmp 1)],
         .p 12 .mv [(.tmp 0)],
         .p 13 .mv [(.tmp 5)],
         .p 14 (.ixs 1) [(.tmp 12), (.tmp 13)],
         .ld 15 (.tmp 14),
         .callv (some 16) (.tmp 11) [(.tmp 15)]]) (
      .cond (.tmp 16) (
        .seq (
         .ops [
           .p 17 .mv [(.tmp 5)],
           .p 4 .mv [(.tmp 17)]]) (
        .ret)) (
        .skip))))) (
    .ops [
      .p 18 (.bin .add) [(.tmp 8), (.const (.int .i64 1))],
      .p 8 .mv [(.tmp 18)]]))))))) (
 .seq (
  .ops [
    .p 4 .mv [(.const (.int .i64 (-1)))]]) (
 .ret)))⟩

theorem c_slices_IndexFunc : trF Try.prog f_slices_IndexFunc = some m_slices_IndexFunc := by kernel_rfl
-- 187 (*shardlog/field.Field).Mul; slots [(0, f), (1, a), (2, b), (3, f), (4, a), (5, b)]
noncomputable def m_field_Field_Mul : MF := ⟨32, [.t 6],
 .seq (
  .ops [
    .p 6 .mv [(.const (.int .u8 0))]]) (
 .seq (
  .seq (
   .ops [
     .p 7 .mv [(.tmp 1)],
     .p 8 (.bin .eql) [(.tmp 7), (.const (.int .u8 0))],
     .p 9 .mv [(.tmp 8)],
     .gd 9 false (some 10) (.p 10 .mv [(.tmp 2)]),
     .gd 9 false (some 11) (.p 11 (.bin .eql) [(.tmp 10), (.const (.int .u8 0))]),
     .p 12 .pick [(.tmp 9), (.const (.bool true)), (.tmp 11)]]) (
  .cond (.tmp 12) (
    .seq (
     .ops [
       .p 6 .mv [(.const (.int .u8 0))]]) (
    .ret)) (
    .skip))) (
 .seq (
  .dr [
    ⟨.p 13 .mv [(.tmp 0)], []⟩,
    ⟨.p 14 .mv [(.tmp 0)], []⟩,
    ⟨.p 15 .mv [(.tmp 1)], []⟩,
    ⟨.p 16 .nilc [(.tmp 14)], []⟩,
    ⟨.p 17 (.fad 255) [(.tmp 16)], []⟩,
    ⟨.p 18 (.ixa 256 1) [(.tmp 17), (.tmp 15)], []⟩,
    ⟨.ld 19 (.tmp 18), []⟩,
    ⟨.p 20 .mv [(.tmp 0)], []⟩,
    ⟨.p 21 .mv [(.tmp 2)], []⟩,
    ⟨.p 22 .nilc [(.tmp 20)], []⟩,
    ⟨.p 23 (.fad 255) [(.tmp 22)], []⟩,
    ⟨.p 24 (.ixa 256 1) [(.tmp 23), (.tmp 21)], []⟩,
    ⟨.ld 25 (.tmp 24), []⟩,
    ⟨.p 26 (.bin .add) [(.tmp 19), (.tmp 25)], []⟩,
    ⟨.p 27 (.bin .rem) [(.tmp 26), (.const (.int .i64 255))], []⟩,
    ⟨.p 28 .nilc [(.tmp 13)], []⟩,
    ⟨.p 29 (.fad 0) [(.tmp 28)], []⟩,
    ⟨.p 30 (.ixa 255 1) [(.tmp 29), (.tmp 27)], []⟩,
    ⟨.ld 31 (.tmp 30), []⟩,
    ⟨.p 6 .mv [(.tmp 31)], []⟩]) (
 .ret)))⟩

theorem c_field_Field_Mul : trF Try.prog f_field_Field_Mul = some m_field_Field_Mul := by kernel_rfl
-- 188 shardlog/wire.Text; slots [(0, s), (1, s)]
noncomputable def m_wire_Text : MF := ⟨8, [.t 2],
 .seq (
  .ops [
    .p 2 .mv [(.const (.slice none 0 0))]]) (
 .seq (
  .ops [
    .p 3 .mv [(.tmp 0)],
    .p 4 .lens [(.tmp 3)],
    .call (some 5) f_wire_Num [(.tmp 4)],
    .p 6 .mv [(.tmp 0)],
    .app 7 #[tBytes, tStr] tBytes (.tmp 5) (.tmp 6),
    .p 2 .mv [(.tmp 7)]]) (
 .ret))⟩

theorem c_wire_Text : trF Try.prog f_wire_Text = some m_wire_Text := by kernel_rfl
-- 189 slices.Chunk[[]byte,byte]; slots [(0, s), (1, n), (2, s), (3, n)]
noncomputable def m_slices_Chunk : MF := ⟨9, [.t 4],
 .seq (
  .ops [
    .box 2 tBytes (.tmp 0),
    .box 3 tInt (.tmp 1),
    .p 4 .mv [(.const .nilFunc)]]) (
 .seq (
  .seq (
   .ops [
     .ld 5 (.tmp 3),
     .p 6 (.bin .lss) [(.tmp 5), (.const (.int .i64 1))]]) (
  .cond (.tmp 6) (
    .ops [
      .p 7 (.ifc tStr) [(.const (.string ⟨#[99, 97, 110, 110, 111, 116, 32, 98, 101, 32, 108, 101, 115, 115, 32, 116, 104, 97, 110, 32, 49]⟩))],
      .gen none ⟨none, (.panic (.tmp 7)), 0, "iter.go:99", #[⟨0, .data⟩], none⟩]) (
    .skip))) (
 .seq (
  .ops [
    .p 8 (.fn (.func f_slices_Chunk_1) 0) [(.tmp 2), (.tmp 3)],
    .p 4 .mv [(.tmp 8)]]) (
 .ret)))⟩

theorem c_slices_Chunk : trF Try.prog f_slices_Chunk = some m_slices_Chunk := by kernel_rfl
-- 190 shardlog/shardlogref01.Num; slots [(0, n), (1, n)]
noncomputable def m_ref01_Num : MF := ⟨24, [.t 2],
 .seq (
  .ops [
    .p 2 .mv [(.const (.slice none 0 0))]]) (
 .seq (
  .seq (
   .ops [
     .p 3 .mv [(.tmp 0)],
     .p 4 (.bin .lss) [(.tmp 3), (.const (.int .i64 0))],
     .p 5 .mv [(.tmp 4)],
     .gd 5 false (some 6) (.p 6 .mv [(.tmp 0)]),
     .gd 5 false (some 7) (.p 7 (.bin .gtr) [(.tmp 6), (.const (.int .i64 4294967295))]),
     .p 8 .pick [(.tmp 5), (.const (.bool true)), (.tmp 7)]]) (
  .cond (.tmp 8) (
    .seq (
     .ops [
       .p 2 .mv [(.const (.slice none 0 0))]]) (
    .ret)) (
    .skip))) (
 .seq (
  .ops [
    .p 9 .mv [(.tmp 0)],
    .p 10 (.bin .quo) [(.tmp 9), (.const (.int .i64 16777216))],
    .p 11 (.conv .u8) [(.tmp 10)],
    .p 12 .mv [(.tmp 0)],
    .p 13 (.bin .quo) [(.tmp 12), (.const (.int .i64 65536))],
    .p 14 (.bin .rem) [(.tmp 13), (.const (.int .i64 256))],
    .p 15 (.conv .u8) [(.tmp 14)],
    .p 16 .mv [(.tmp 0)],
    .p 17 (.bin .quo) [(.tmp 16), (.const (.int .i64 256))],
    .p 18 (.bin .rem) [(.tmp 17), (.const (.int .i64 256))],
    .p 19 (.conv .u8) [(.tmp 18)],
    .p 20 .mv [(.tmp 0)],
    .p 21 (.bin .rem) [(.tmp 20), (.const (.int .i64 256))],
    .p 22 (.conv .u8) [(.tmp 21)],
    .bsl 23 tU8 4 [(.int .u8 0), (.int .u8 0), (.int .u8 0), (.int .u8 0)] [(0, 1), (1, 1), (2, 1), (3, 1)] [(.tmp 11), (.tmp 15), (.tmp 19), (.tmp 22)],
    .p 2 .mv [(.tmp 23)]]) (
 .ret)))⟩

theorem c_ref01_Num : trF Try.prog f_ref01_Num = some m_ref01_Num := by kernel_rfl
-- 191 shardlog/wire.CutText; slots [(0, b), (1, b), (5, n), (6, rest), (7, ok)]
noncomputable def m_wire_CutText : MF := ⟨29, [.t 2, .t 3, .t 4],
 .seq (
  .ops [
    .p 2 .mv [(.const (.string .empty))],
    .p 3 .mv [(.const (.slice none 0 0))],
    .p 4 .mv [(.const (.bool false))]]) (
 .seq (
  .ops [
    .p 9 .mv [(.tmp 0)],
    .call (some 10) f_wire_CutNum [(.tmp 9)],
    .p 8 .mv [(.tmp 10)],
    .p 11 (.ext 0) [(.tmp 8)],
    .p 12 (.ext 1) [(.tmp 8)],
    .p 13 (.ext 2) [(.tmp 8)],
    .p 5 .mv [(.tmp 11)],
    .p 6 .mv [(.tmp 12)],
    .p 7 .mv [(.tmp 13)]]) (
 .seq (
  .seq (
   .ops [
     .p 14 .mv [(.tmp 7)],
     .p 15 .not [(.tmp 14)],
     .p 16 .mv [(.tmp 15)],
     .gd 16 false (some 17) (.p 17 .mv [(.tmp 5)]),
     .gd 16 false (some 18) (.p 18 .mv [(.tmp 6)]),
     .gd 16 false (some 19) (.p 19 .len [(.tmp 18)]),
     .gd 16 false (some 20) (.p 20 (.bin .gtr) [(.tmp 17), (.tmp 19)]),
     .p 21 .pick [(.tmp 16), (.const (.bool true)), (.tmp 20)]]) (
  .cond (.tmp 21) (
    .seq (
     .ops [
       .p 2 .mv [(.const (.string .empty))],
       .p 3 .mv [(.const (.slice none 0 0))],
       .p 4 .mv [(.const (.bool false))]]) (
    .ret)) (
    .skip))) (
 .seq (
  .dr [
    ⟨.p 22 .mv [(.tmp 6)], []⟩,
    ⟨.p 23 .mv [(.tmp 5)], []⟩,
    ⟨.p 24 (.sls 1 false true false) [(.tmp 22), (.tmp 23)], []⟩,
    ⟨.bs 25 (.tmp 24), []⟩,
    ⟨.p 26 .mv [(.tmp 6)], []⟩,
    ⟨.p 27 .mv [(.tmp 5)], []⟩,
    ⟨.p 28 (.sls 1 true false false) [(.tmp 26), (.tmp 27)], []⟩,
    ⟨.p 2 .mv [(.tmp 25)], []⟩,
    ⟨.p 3 .mv [(.tmp 28)], []⟩,
    ⟨.p 4 .mv [(.const (.bool true))], []⟩]) (
 .ret))))⟩

theorem c_wire_CutText : trF Try.prog f_wire_CutText = some m_wire_CutText := by kernel_rfl
-- 192 slices.Concat[[]byte,byte]; slots [(0, slices), (1, slices), (3, size), (4, _), (5, s), (6, newslice), (7, _), (8, s)]
noncomputable def m_slices_Concat : MF := ⟨36, [.t 2],
 .seq (
  .ops [
    .p 2 .mv [(.const (.slice none 0 0))]]) (
 .seq (
  .ops [
    .p 3 .mv [(.const (.int .i64 0))]]) (
 .seq (
  .seq (
   .ops [
     .p 9 .mv [(.tmp 0)],
     .p 10 .len [(.tmp 9)],
     .p 11 .mv [(.const (.int .i64 0))]]) (
  .block 0 (
   .loop (
    .seq (
     .ops [
       .p 12 (.bin .lss) [(.tmp 11), (.tmp 10)]]) (
    .seq (
     .cond (.tmp 12) (
       .skip) (
       .exit 0)) (
    .seq (
     .block 1 (
      .seq (
       .ops [
         .p 13 (.ixs 1) [(.tmp 9), (.tmp 11)],
         .ld 14 (.tmp 13),
         .p 5 .mv [(.tmp 14)]]) (
      .seq (
       .ops [
         .p 15 .mv [(.tmp 3)],
         .p 16 .mv [(.tmp 5)],
         .p 17 .len [(.tmp 16)],
         .p 18 (.bin .add) [(.tmp 15), (.tmp 17)],
         .p 3 .mv [(.tmp 18)]]) (
      .seq (
       .ops [
         .p 19 .mv [(.tmp 3)],
         .p 20 (.bin .lss) [(.tmp 19), (.const (.int .i64 0))]]) (
      .cond (.tmp 20) (
        .ops [
          .p 21 (.ifc tStr) [(.const (.string ⟨#[108, 101, 110, 32, 111, 117, 116, 32, 111, 102, 32, 114, 97, 110, 103, 101]⟩))],
          .gen none ⟨none, (.panic (.tmp 21)), 0, "slices.go:496", #[⟨0, .data⟩], none⟩]) (
        .skip)))))) (
    .ops [
      .p 22 (.bin .add) [(.tmp 11), (.const (.int .i64 1))],
      .p 11 .mv [(.tmp 22)]]))))))) (
 .seq (
  .ops [
    .p 23 .mv [(.tmp 3)],
    .call (some 24) f_slices_Grow [(.const (.slice none 0 0)), (.tmp 23)],
    .p 6 .mv [(.tmp 24)]]) (
 .seq (
  .seq (
   .ops [
     .p 25 .mv [(.tmp 0)],
     .p 26 .len [(.tmp 25)],
     .p 27 .mv [(.const (.int .i64 0))]]) (
  .block 2 (
   .loop (
    .seq (
     .ops [
       .p 28 (.bin .lss) [(.tmp 27), (.tmp 26)]]) (
    .seq (
     .cond (.tmp 28) (
       .skip) (
       .exit 2)) (
    .seq (
     .block 3 (
      .seq (
       .ops [
         .p 29 (.ixs 1) [(.tmp 25), (.tmp 27)],
         .ld 30 (.tmp 29),
         .p 8 .mv [(.tmp 30)]]) (
      .ops [
        .p 31 .mv [(.tmp 6)],
        .p 32 .mv [(.tmp 8)],
        .app 33 #[tBytes, tBytes] tBytes (.tmp 31) (.tmp 32),
        .p 6 .mv [(.tmp 33)]]))) (
    .ops [
      .p 34 (.bin .add) [(.tmp 27), (.const (.int .i64 1))],
      .p 27 .mv [(.tmp 34)]]))))))) (
 .seq (
  .ops [
    .p 35 .mv [(.tmp 6)],
    .p 2 .mv [(.tmp 35)]]) (
 .ret))))))⟩

theorem c_slices_Concat : trF Try.prog f_slices_Concat = some m_slices_Concat := by kernel_rfl
-- 193 slices.Equal[[]byte,byte]; slots [(0, s1), (1, s2), (2, s1), (3, s2), (5, i)]
noncomputable def m_slices_Equal : MF := ⟨26, [.t 4],
 .seq (
  .ops [
    .p 4 .mv [(.const (.bool false))]]) (
 .seq (
  .seq (
   .ops [
     .p 6 .mv [(.tmp 0)],
     .p 7 .len [(.tmp 6)],
     .p 8 .mv [(.tmp 1)],
     .p 9 .len [(.tmp 8)],
     .p 10 (.bin .neq) [(.tmp 7), (.tmp 9)]]) (
  .cond (.tmp 10) (
    .seq (
     .ops [
       .p 4 .mv [(.const (.bool false))]]) (
    .ret)) (
    .skip))) (
 .seq (
  .seq (
   .ops [
     .p 11 .mv [(.tmp 0)],
     .p 12 .len [(.tmp 11)],
     .p 13 .mv [(.const (.int .i64 0))]]) (
  .block 0 (
   .loop (
    .seq (
     .ops [
       .p 14 (.bin .lss) [(.tmp 13), (.tmp 12)]]) (
    .seq (
     .cond (.tmp 14) (
       .skip) (
       .exit 0)) (
    .seq (
     .block 1 (
      .seq (
       .ops [
         .p 15 .mv [(.tmp 13)],
         .p 5 .mv [(.tmp 15)]]) (
      .seq (
       .dr [
         ⟨.p 16 .mv [(.tmp 0)], []⟩,
         ⟨.p 17 .mv [(.tmp 5)], []⟩,
         ⟨.p 18 (.ixs 1) [(.tmp 16), (.tmp 17)], []⟩,
         ⟨.ld 19 (.tmp 18), []⟩,
         ⟨.p 20 .mv [(.tmp 1)], []⟩,
         ⟨.p 21 .mv [(.tmp 5)], []⟩,
         ⟨.p 22 (.ixs 1) [(.tmp 20), (.tmp 21)], []⟩,
         ⟨.ld 23 (.tmp 22), []⟩,
         ⟨.p 24 (.bin .neq) [(.tmp 19), (.tmp 23)], []⟩]) (
      .cond (.tmp 24) (
        .seq (
         .ops [
           .p 4 .mv [(.const (.bool false))]]) (
        .ret)) (
        .skip))))) (
    .ops [
      .p 25 (.bin .add) [(.tmp 13), (.const (.int .i64 1))],
      .p 13 .mv [(.tmp 25)]]))))))) (
 .seq (
  .ops [
    .p 4 .mv [(.const (.bool true))]]) (
 .ret))))⟩

theorem c_slices_Equal : trF Try.prog f_slices_Equal = some m_slices_Equal := by kernel_rfl
-- 209 shardlog/wire.Num; slots [(0, n), (1, n)]
noncomputable def m_wire_Num : MF := ⟨21, [.t 2],
 .seq (
  .ops [
    .p 2 .mv [(.const (.slice none 0 0))]]) (
 .seq (
  .seq (
   .ops [
     .p 3 .mv [(.tmp 0)],
     .p 4 (.bin .lss) [(.tmp 3), (.const (.int .i64 0))],
     .p 5 .mv [(.tmp 4)],
     .gd 5 false (some 6) (.p 6 .mv [(.tmp 0)]),
     .gd 5 false (some 7) (.p 7 (.bin .gtr) [(.tmp 6), (.const (.int .i64 4294967295))]),
     .p 8 .pick [(.tmp 5), (.const (.bool true)), (.tmp 7)]]) (
  .cond (.tmp 8) (
    .seq (
     .ops [
       .p 2 .mv [(.const (.slice none 0 0))]]) (
    .ret)) (
    .skip))) (
 .seq (
  .ops [
    .p 9 .mv [(.tmp 0)],
    .p 10 (.bin .shr) [(.tmp 9), (.const (.int .u64 24))],
    .p 11 (.conv .u8) [(.tmp 10)],
    .p 12 .mv [(.tmp 0)],
    .p 13 (.bin .shr) [(.tmp 12), (.const (.int .u64 16))],
    .p 14 (.conv .u8) [(.tmp 13)],
    .p 15 .mv [(.tmp 0)],
    .p 16 (.bin .shr) [(.tmp 15), (.const (.int .u64 8))],
    .p 17 (.conv .u8) [(.tmp 16)],
    .p 18 .mv [(.tmp 0)],
    .p 19 (.conv .u8) [(.tmp 18)],
    .bsl 20 tU8 4 [(.int .u8 0), (.int .u8 0), (.int .u8 0), (.int .u8 0)] [(0, 1), (1, 1), (2, 1), (3, 1)] [(.tmp 11), (.tmp 14), (.tmp 17), (.tmp 19)],
    .p 2 .mv [(.tmp 20)]]) (
 .ret)))⟩

theorem c_wire_Num : trF Try.prog f_wire_Num = some m_wire_Num := by kernel_rfl
-- 232 slices.Chunk[[]byte,byte]$1; slots [(0, yield), (3, yield), (4, i), (5, end)]
noncomputable def m_slices_Chunk_1 : MF := ⟨31, [],
 .seq (
  .ops [
    .p 4 .mv [(.const (.int .i64 0))]]) (
 .block 0 (
  .loop (
   .seq (
    .seq (
     .ops [
       .p 6 .mv [(.tmp 4)],
       .ld 7 (.tmp 1),
       .p 8 .len [(.tmp 7)],
       .p 9 (.bin .lss) [(.tmp 6), (.tmp 8)]]) (
    .cond (.tmp 9) (
      .skip) (
      .exit 0))) (
   .seq (
    .block 1 (
     .seq (
      .dr [
        ⟨.ld 13 (.tmp 2), []⟩,
        ⟨.ld 14 (.tmp 1), []⟩,
        ⟨.p 15 .mv [(.tmp 4)], []⟩,
        ⟨.p 16 (.sls 1 true false false) [(.tmp 14), (.tmp 15)], []⟩,
        ⟨.p 17 .len [(.tmp 16)], []⟩,
        ⟨.p 18 .min [(.tmp 13), (.tmp 17)], []⟩,
        ⟨.p 5 .mv [(.tmp 18)], []⟩]) (
     .seq (
      .ops [
        .p 19 .mv [(.tmp 0)],
        .ld 20 (.tmp 1),
        .p 21 .mv [(.tmp 4)],
        .p 22 .mv [(.tmp 4)],
        .p 23 .mv [(.tmp 5)],
        .p 24 (.bin .add) [(.tmp 22), (.tmp 23)],
        .p 25 .mv [(.tmp 4)],
        .p 26 .mv [(.tmp 5)],
        .p 27 (.bin .add) [(.tmp 25), (.tmp 26)],
        .p 28 (.sls 1 true true true) [(.tmp 20), (.tmp 21), (.tmp 24), (.tmp 27)],
        .callv (some 29) (.tmp 19) [(.tmp 28)],
        .p 30 .not [(.tmp 29)]]) (
     .cond (.tmp 30) (
       .ret) (
       .skip))))) (
   .ops [
     .p 10 .mv [(.tmp 4)],
     .ld 11 (.tmp 2),
     .p 12 (.bin .add) [(.tmp 10), (.tmp 11)],
     .p 4 .mv [(.tmp 12)]])))))⟩

theorem c_slices_Chunk_1 : trF Try.prog f_slices_Chunk_1 = some m_slices_Chunk_1 := by kernel_rfl
-- 233 shardlog/wire.CutNum; slots [(0, b), (1, b), (5, n), (6, _), (7, c)]
noncomputable def m_wire_CutNum : MF := ⟨28, [.t 2, .t 3, .t 4],
 .seq (
  .ops [
    .p 2 .mv [(.const (.int .i64 0))],
    .p 3 .mv [(.const (.slice none 0 0))],
    .p 4 .mv [(.const (.bool false))]]) (
 .seq (
  .seq (
   .ops [
     .p 8 .mv [(.tmp 0)],
     .p 9 .len [(.tmp 8)],
     .p 10 (.bin .lss) [(.tmp 9), (.const (.int .i64 4))]]) (
  .cond (.tmp 10) (
    .seq (
     .ops [
       .p 2 .mv [(.const (.int .i64 0))],
       .p 3 .mv [(.const (.slice none 0 0))],
       .p 4 .mv [(.const (.bool false))]]) (
    .ret)) (
    .skip))) (
 .seq (
  .ops [
    .p 5 .mv [(.const (.int .i64 0))]]) (
 .seq (
  .seq (
   .ops [
     .p 11 .mv [(.tmp 0)],
     .p 12 (.sls 1 false true false) [(.tmp 11), (.const (.int .i64 4))],
     .p 13 .len [(.tmp 12)],
     .p 14 .mv [(.const (.int .i64 0))]]) (
  .block 0 (
   .loop (
    .seq (
     .ops [
       .p 15 (.bin .lss) [(.tmp 14), (.tmp 13)]]) (
    .seq (
     .cond (.tmp 15) (
       .skip) (
       .exit 0)) (
    .seq (
     .block 1 (
      .seq (
       .ops [
         .p 16 (.ixs 1) [(.tmp 12), (.tmp 14)],
         .ld 17 (.tmp 16),
         .p 7 .mv [(.tmp 17)]]) (
      .ops [
        .p 18 .mv [(.tmp 5)],
        .p 19 (.bin .shl) [(.tmp 18), (.const (.int .u64 8))],
        .p 20 .mv [(.tmp 7)],
        .p 21 (.conv .i64) [(.tmp 20)],
        .p 22 (.bin .or) [(.tmp 19), (.tmp 21)],
        .p 5 .mv [(.tmp 22)]]))) (
    .ops [
      .p 23 (.bin .add) [(.tmp 14), (.const (.int .i64 1))],
      .p 14 .mv [(.tmp 23)]]))))))) (
 .seq (
  .ops [
    .p 24 .mv [(.tmp 5)],
    .p 25 .mv [(.tmp 0)],
    .p 26 (.sls 1 true false false) [(.tmp 25), (.const (.int .i64 4))],
    .call (some 27) f_slices_Clone [(.tmp 26)],
    .p 2 .mv [(.tmp 24)],
    .p 3 .mv [(.tmp 27)],
    .p 4 .mv [(.const (.bool true))]]) (
 .ret)))))⟩

theorem c_wire_CutNum : trF Try.prog f_wire_CutNum = some m_wire_CutNum := by kernel_rfl
-- 234 slices.Grow[[]byte,byte]; slots [(0, s), (1, n), (2, s), (3, n)]
noncomputable def m_slices_Grow : MF := ⟨27, [.t 4],
 .seq (
  .ops [
    .p 4 .mv [(.const (.slice none 0 0))]]) (
 .seq (
  .seq (
   .ops [
     .p 5 .mv [(.tmp 1)],
     .p 6 (.bin .lss) [(.tmp 5), (.const (.int .i64 0))]]) (
  .cond (.tmp 6) (
    .ops [
      .p 7 (.ifc tStr) [(.const (.string ⟨#[99, 97, 110, 110, 111, 116, 32, 98, 101, 32, 110, 101, 103, 97, 116, 105, 118, 101]⟩))],
      .gen none ⟨none, (.panic (.tmp 7)), 0, "slices.go:424", #[⟨0, .data⟩], none⟩]) (
    .skip))) (
 .seq (
  .seq (
   .ops [
     .p 8 .mv [(.tmp 1)],
     .p 9 .mv [(.tmp 0)],
     .p 10 .cap [(.tmp 9)],
     .p 11 .mv [(.tmp 0)],
     .p 12 .len [(.tmp 11)],
     .p 13 (.bin .sub) [(.tmp 10), (.tmp 12)],
     .p 14 (.bin .sub) [(.tmp 8), (.tmp 13)],
     .p 1 .mv [(.tmp 14)]]) (
  .seq (
   .ops [
     .p 15 .mv [(.tmp 1)],
     .p 16 (.bin .gtr) [(.tmp 15), (.const (.int .i64 0))]]) (
  .cond (.tmp 16) (
    .ops [
      .p 17 .mv [(.tmp 0)],
      .p 18 .mv [(.tmp 0)],
      .p 19 .cap [(.tmp 18)],
      .p 20 (.sls 1 false true false) [(.tmp 17), (.tmp 19)],
      .p 21 .mv [(.tmp 1)],
      .app 22 #[tBytes, tInt] tBytes (.tmp 20) (.tmp 21),
      .p 23 .mv [(.tmp 0)],
      .p 24 .len [(.tmp 23)],
      .p 25 (.sls 1 false true false) [(.tmp 22), (.tmp 24)],
      .p 0 .mv [(.tmp 25)]]) (
    .skip)))) (
 .seq (
  .ops [
    .p 26 .mv [(.tmp 0)],
    .p 4 .mv [(.tmp 26)]]) (
 .ret))))⟩

theorem c_slices_Grow : trF Try.prog f_slices_Grow = some m_slices_Grow := by kernel_rfl
end Go.Proofs.Ytgpkbldlkadnjaa
end
section
/- Element types of this program's slices; bodies of the functions that are taken as values. -/
set_option linter.unusedVariables false
set_option linter.unusedSimpArgs false
namespace Go.Sl
open Go.RowKit
theorem El.of {P : Program} {t e : TypeId} {s bytes : Nat} {z : Value} (h1 : P.underlying t = some (.slice e)) (h2 : (P.info? e).map (fun i => (i.zero, i.size, i.bytes)) = some (some z, s, bytes)) (h3 : z.cells.size = s) (h4 : 0 < s) : El P t e s bytes z := by
  refine ⟨h1, ?_, h3, h4⟩
  cases hi : P.info? e with
  | none => rw [hi] at h2; cases h2
  | some i =>
    rw [hi] at h2
    simp only [Option.map_some, Option.some.injEq, Prod.mk.injEq] at h2
    exact ⟨i, rfl, h2.1, h2.2.1, h2.2.2⟩
end Go.Sl
namespace Go.Proofs.Ytgpkbldlkadnjaa
open Go Go.Sl
theorem elB : El Try.prog 29 5 1 1 (.int .u8 0) := El.of (by kernel_rfl) (by kernel_rfl) rfl (by decide)
theorem elM : El Try.prog 22 29 1 24 (.slice none 0 0) := El.of (by kernel_rfl) (by kernel_rfl) rfl (by decide)
theorem hb60 : hasBody Try.prog f_field_Field_Mul = true := by kernel_rfl
theorem hb43 : hasBody Try.prog f_matrix_Right_1 = true := by kernel_rfl
end Go.Proofs.Ytgpkbldlkadnjaa
end
