/- Functions of the program in the small code (printed by wip/tool/Print.lean and mkmf2.py of this repo), each with its equation, held by the kernel. -/
import Derived.Test.YtgpkbldlkadnjaaJ3
import Derived.Test.YtgpkbldlkadnjaaJ1
import Derived.Test.YtgpkbldlkadnjaaJ4
import Derived.Test.YtgpkbldlkadnjaaJ5
import Derived.Shelf.SlIter.Nil
import Derived.Shelf.SlIterI.Nil
import Derived.Shelf.SortM.Plain
import Derived.Shelf.SortM.SortNone
section
set_option linter.unusedVariables false
namespace Go.Proofs.Ytgpkbldlkadnjaa
open Go Go.Sl
-- 15 shardlog/shardloglaw07.DiskKeeps; slots [(0, b), (1, b), (3, d), (4, own), (5, i), (6, x), (7, _), (8, y), (9, _), (10, same), (11, i), (12, z), (13, _)]
-- 59 shardlog/shardloglaw07.awake; slots [(1, d), (2, e), (3, f), (4, g), (5, h), (6, s), (7, _), (8, b), (9, i)]
-- 60 shardlog/disk.New; slots [(0, capacity), (1, capacity)]
noncomputable def m_disk_New : MF := ⟨9, [.t 2],
 .seq (
 .ops [
 .p 2 .mv [(.const (.pointer none))]]) (
 .seq (
 .ops [
 .gen (some 3) ⟨(some 3), (.makeMap 175 none), 175, "disk.go:25", #[], none⟩,
 .p 4 .mv [(.tmp 0)],
 .p 5 .max [(.tmp 4), (.const (.int .i64 0))],
 .p 6 .min [(.tmp 5), (.const (.int .i64 65536))],
 .p 7 (.build [(.map none), (.int .i64 0)] [(0, 1), (1, 1)]) [(.tmp 3), (.tmp 6)],
 .box 8 t_disk_Disk (.tmp 7),
 .p 2 .mv [(.tmp 8)]]) (
 .ret))⟩

theorem c_disk_New : trF Try.prog f_disk_New = some m_disk_New := by kernel_rfl
-- 61 (*shardlog/disk.Disk).Append; slots [(0, d), (1, name), (2, b), (3, d), (4, name), (5, b), (7, f)]
noncomputable def m_disk_Disk_Append : MF := ⟨52, [.t 6],
 .seq (
 .ops [
 .p 6 .mv [(.const (.int .i64 0))]]) (
 .seq (
 .block 0 (
 .seq (
 .ops [
 .p 9 .mv [(.tmp 1)],
 .call (some 10) f_disk_named [(.tmp 9)],
 .p 11 .not [(.tmp 10)],
 .p 8 .mv [(.tmp 11)]]) (
 .cond (.tmp 8) (
 .seq (
 .ops [
 .p 6 .mv [(.const (.int .i64 1))]]) (
 .ret)) (
 .seq (
 .dr (
 .one ⟨.p 13 .mv [(.tmp 2)], []⟩ (
 .one ⟨.p 14 .len [(.tmp 13)], []⟩ (
 .one ⟨.p 15 .mv [(.tmp 0)], []⟩ (
 .one ⟨.p 16 .nilc [(.tmp 15)], []⟩ (
 .one ⟨.p 17 (.fad 1) [(.tmp 16)], []⟩ (
 .one ⟨.ld 18 (.tmp 17), []⟩ (
 .one ⟨.p 19 .mv [(.tmp 0)], []⟩ (
 .one ⟨.call (some 20) f_disk_Disk_Used [(.tmp 19)], [.ld 18 (.tmp 17)]⟩ (
 .one ⟨.p 21 (.bin .sub) [(.tmp 18), (.tmp 20)], []⟩ (
 .one ⟨.p 22 (.bin .gtr) [(.tmp 14), (.tmp 21)], []⟩ (
 .one ⟨.p 12 .mv [(.tmp 22)], []⟩ (
 .nil))))))))))))) (
 .cond (.tmp 12) (
 .seq (
 .ops [
 .p 6 .mv [(.const (.int .i64 4))]]) (
 .ret)) (
 .skip)))))) (
 .seq (
 .seq (
 .ops [
 .p 23 .mv [(.tmp 0)],
 .p 24 .nilc [(.tmp 23)],
 .p 25 (.fad 0) [(.tmp 24)],
 .ld 26 (.tmp 25),
 .p 27 .mv [(.tmp 1)],
 .gen (some 28) ⟨(some 28), (.lookup 175 (.tmp 26) (.tmp 27) false), 179, "disk.go:51", #[⟨3, .data⟩, ⟨4, .data⟩], none⟩,
 .p 29 (.isnil .pt false) [(.tmp 28)]]) (
 .cond (.tmp 29) (
 .ops [
 .p 30 .mv [(.tmp 0)],
 .p 31 .nilc [(.tmp 30)],
 .p 32 (.fad 0) [(.tmp 31)],
 .ld 33 (.tmp 32),
 .p 34 .mv [(.tmp 1)],
 .p 35 (.build [(.slice none 0 0), (.int .i64 0)] []) [],
 .box 36 t_disk_file (.tmp 35),
 .genu ⟨none, (.mapUpdate 175 (.tmp 33) (.tmp 34) (.tmp 36)), 0, "disk.go:52", #[⟨3, .data⟩, ⟨4, .data⟩, ⟨6, .data⟩, ⟨0, .phase⟩, ⟨1, .phase⟩, ⟨2, .phase⟩, ⟨3, .phase⟩, ⟨4, .phase⟩, ⟨5, .phase⟩, ⟨6, .phase⟩], none⟩]) (
 .skip))) (
 .seq (
 .ops [
 .p 37 .mv [(.tmp 0)],
 .p 38 .nilc [(.tmp 37)],
 .p 39 (.fad 0) [(.tmp 38)],
 .ld 40 (.tmp 39),
 .p 41 .mv [(.tmp 1)],
 .gen (some 42) ⟨(some 42), (.lookup 175 (.tmp 40) (.tmp 41) false), 179, "disk.go:54", #[⟨3, .data⟩, ⟨4, .data⟩], none⟩,
 .p 7 .mv [(.tmp 42)]]) (
 .seq (
 .ops [
 .p 43 .mv [(.tmp 7)],
 .p 44 .mv [(.tmp 7)],
 .p 45 .nilc [(.tmp 44)],
 .p 46 (.fad 0) [(.tmp 45)],
 .ld 47 (.tmp 46),
 .p 48 .mv [(.tmp 2)],
 .app 49 #[tBytes, tBytes] tBytes (.tmp 47) (.tmp 48),
 .p 50 .nilc [(.tmp 43)],
 .p 51 (.fad 0) [(.tmp 50)],
 .st 1 false (.tmp 51) (.tmp 49)]) (
 .seq (
 .ops [
 .p 6 .mv [(.const (.int .i64 0))]]) (
 .ret))))))⟩

theorem c_disk_Disk_Append : trF Try.prog f_disk_Disk_Append = some m_disk_Disk_Append := by kernel_rfl
-- 62 (*shardlog/disk.Disk).Sync; slots [(0, d), (1, name), (2, d), (3, name), (5, f)]
noncomputable def m_disk_Disk_Sync : MF := ⟨22, [.t 4],
 .seq (
 .ops [
 .p 4 .mv [(.const (.int .i64 0))]]) (
 .seq (
 .ops [
 .p 6 .mv [(.tmp 0)],
 .p 7 .nilc [(.tmp 6)],
 .p 8 (.fad 0) [(.tmp 7)],
 .ld 9 (.tmp 8),
 .p 10 .mv [(.tmp 1)],
 .gen (some 11) ⟨(some 11), (.lookup 175 (.tmp 9) (.tmp 10) false), 179, "disk.go:61", #[⟨3, .data⟩, ⟨4, .data⟩], none⟩,
 .p 5 .mv [(.tmp 11)]]) (
 .seq (
 .seq (
 .ops [
 .p 12 .mv [(.tmp 5)],
 .p 13 (.isnil .pt false) [(.tmp 12)]]) (
 .cond (.tmp 13) (
 .seq (
 .ops [
 .p 4 .mv [(.const (.int .i64 5))]]) (
 .ret)) (
 .skip))) (
 .seq (
 .ops [
 .p 14 .mv [(.tmp 5)],
 .p 15 .mv [(.tmp 5)],
 .p 16 .nilc [(.tmp 15)],
 .p 17 (.fad 0) [(.tmp 16)],
 .ld 18 (.tmp 17),
 .p 19 .len [(.tmp 18)],
 .p 20 .nilc [(.tmp 14)],
 .p 21 (.fad 1) [(.tmp 20)],
 .st 1 false (.tmp 21) (.tmp 19)]) (
 .seq (
 .ops [
 .p 4 .mv [(.const (.int .i64 0))]]) (
 .ret)))))⟩

theorem c_disk_Disk_Sync : trF Try.prog f_disk_Disk_Sync = some m_disk_Disk_Sync := by kernel_rfl
-- 63 (*shardlog/disk.Disk).Read; slots [(0, d), (1, name), (2, d), (3, name), (6, f)]
noncomputable def m_disk_Disk_Read : MF := ⟨20, [.t 4, .t 5],
 .seq (
 .ops [
 .p 4 .mv [(.const (.slice none 0 0))],
 .p 5 .mv [(.const (.int .i64 0))]]) (
 .seq (
 .ops [
 .p 7 .mv [(.tmp 0)],
 .p 8 .nilc [(.tmp 7)],
 .p 9 (.fad 0) [(.tmp 8)],
 .ld 10 (.tmp 9),
 .p 11 .mv [(.tmp 1)],
 .gen (some 12) ⟨(some 12), (.lookup 175 (.tmp 10) (.tmp 11) false), 179, "disk.go:71", #[⟨3, .data⟩, ⟨4, .data⟩], none⟩,
 .p 6 .mv [(.tmp 12)]]) (
 .seq (
 .seq (
 .ops [
 .p 13 .mv [(.tmp 6)],
 .p 14 (.isnil .pt false) [(.tmp 13)]]) (
 .cond (.tmp 14) (
 .seq (
 .ops [
 .p 4 .mv [(.const (.slice none 0 0))],
 .p 5 .mv [(.const (.int .i64 5))]]) (
 .ret)) (
 .skip))) (
 .seq (
 .ops [
 .p 15 .mv [(.tmp 6)],
 .p 16 .nilc [(.tmp 15)],
 .p 17 (.fad 0) [(.tmp 16)],
 .ld 18 (.tmp 17),
 .call (some 19) f_slices_Clone [(.tmp 18)],
 .p 4 .mv [(.tmp 19)],
 .p 5 .mv [(.const (.int .i64 0))]]) (
 .ret))))⟩

theorem c_disk_Disk_Read : trF Try.prog f_disk_Disk_Read = some m_disk_Disk_Read := by kernel_rfl
-- 64 (*shardlog/disk.Disk).Synced; slots [(0, d), (1, name), (2, d), (3, name), (6, f)]
-- 65 shardlog/shardlogref07.Few; slots [(0, l), (1, l), (3, n), (4, i)]
-- 66 (*shardlog/disk.Disk).Copy; slots [(0, d), (1, d), (3, out), (4, name), (5, f)]
noncomputable def m_disk_Disk_Copy : MF := ⟨38, [.t 2],
 .seq (
 .ops [
 .p 2 .mv [(.const (.pointer none))]]) (
 .seq (
 .ops [
 .p 6 .mv [(.tmp 0)],
 .p 7 .nilc [(.tmp 6)],
 .p 8 (.fad 1) [(.tmp 7)],
 .ld 9 (.tmp 8),
 .call (some 10) f_disk_New [(.tmp 9)],
 .p 3 .mv [(.tmp 10)]]) (
 .seq (
 .seq (
 .ops [
 .p 11 .mv [(.tmp 0)],
 .p 12 .nilc [(.tmp 11)],
 .p 13 (.fad 0) [(.tmp 12)],
 .ld 14 (.tmp 13),
 .gen (some 15) ⟨(some 15), (.range 175 (.tmp 14)), 0, "disk.go:164", #[⟨3, .data⟩], none⟩]) (
 .block 0 (
 .loop (
 .seq (
 .ops [
 .gen (some 16) ⟨(some 16), (.next (.tmp 15) false), 0, "disk.go:164", #[], none⟩,
 .p 17 (.ext 0) [(.tmp 16)]]) (
 .seq (
 .cond (.tmp 17) (
 .skip) (
 .exit 0)) (
 .block 1 (
 .seq (
 .ops [
 .gen (some 18) ⟨(some 18), (.entry (.tmp 15)), 0, "disk.go:164", #[], none⟩,
 .p 19 (.ext 0) [(.tmp 18)],
 .p 20 (.ext 1) [(.tmp 18)],
 .p 4 .mv [(.tmp 19)],
 .p 5 .mv [(.tmp 20)]]) (
 .dr (
 .one ⟨.p 21 .mv [(.tmp 3)], []⟩ (
 .one ⟨.p 22 .nilc [(.tmp 21)], []⟩ (
 .one ⟨.p 23 (.fad 0) [(.tmp 22)], []⟩ (
 .one ⟨.ld 24 (.tmp 23), []⟩ (
 .one ⟨.p 25 .mv [(.tmp 4)], []⟩ (
 .one ⟨.p 26 .mv [(.tmp 5)], []⟩ (
 .one ⟨.p 27 .nilc [(.tmp 26)], []⟩ (
 .one ⟨.p 28 (.fad 0) [(.tmp 27)], []⟩ (
 .one ⟨.ld 29 (.tmp 28), []⟩ (
 .one ⟨.p 31 .mv [(.tmp 5)], []⟩ (
 .one ⟨.p 32 .nilc [(.tmp 31)], []⟩ (
 .one ⟨.p 33 (.fad 1) [(.tmp 32)], []⟩ (
 .one ⟨.ld 34 (.tmp 33), []⟩ (
 .one ⟨.call (some 30) f_slices_Clone [(.tmp 29)], [.ld 34 (.tmp 33), .ld 24 (.tmp 23)]⟩ (
 .one ⟨.p 35 (.build [(.slice none 0 0), (.int .i64 0)] [(0, 1), (1, 1)]) [(.tmp 30), (.tmp 34)], []⟩ (
 .one ⟨.box 36 t_disk_file (.tmp 35), [.ld 34 (.tmp 33), .ld 24 (.tmp 23)]⟩ (
 .one ⟨.genu ⟨none, (.mapUpdate 175 (.tmp 24) (.tmp 25) (.tmp 36)), 0, "disk.go:165", #[⟨3, .data⟩, ⟨4, .data⟩, ⟨15, .data⟩, ⟨9, .chain⟩, ⟨0, .phase⟩, ⟨1, .phase⟩, ⟨2, .phase⟩, ⟨3, .phase⟩, ⟨4, .phase⟩, ⟨5, .phase⟩, ⟨6, .phase⟩, ⟨7, .phase⟩, ⟨8, .phase⟩, ⟨9, .phase⟩, ⟨10, .phase⟩, ⟨11, .phase⟩, ⟨12, .phase⟩, ⟨13, .phase⟩, ⟨14, .phase⟩, ⟨15, .phase⟩], none⟩, []⟩ (
 .nil)))))))))))))))))))))))))) (
 .seq (
 .ops [
 .p 37 .mv [(.tmp 3)],
 .p 2 .mv [(.tmp 37)]]) (
 .ret))))⟩

theorem c_disk_Disk_Copy : trF Try.prog f_disk_Disk_Copy = some m_disk_Disk_Copy := by kernel_rfl
-- 68 shardlog/shardloglaw07.do; slots [(0, d), (1, a), (2, d), (3, a)]
-- 71 (*shardlog/disk.Disk).Crash; slots [(0, d), (1, keep), (2, d), (3, keep), (4, _), (5, name), (6, f), (7, rest), (8, n)]
-- 72 (*shardlog/disk.Disk).Names; slots [(0, d), (1, d)]
noncomputable def m_disk_Disk_Names : MF := ⟨9, [.t 2],
 .seq (
 .ops [
 .p 2 .mv [(.const (.slice none 0 0))]]) (
 .seq (
 .ops [
 .p 3 .mv [(.tmp 0)],
 .p 4 .nilc [(.tmp 3)],
 .p 5 (.fad 0) [(.tmp 4)],
 .ld 6 (.tmp 5),
 .call (some 7) f_maps_Keys [(.tmp 6)],
 .call (some 8) f_slices_Sorted [(.tmp 7)],
 .p 2 .mv [(.tmp 8)]]) (
 .ret))⟩

theorem c_disk_Disk_Names : trF Try.prog f_disk_Disk_Names = some m_disk_Disk_Names := by kernel_rfl
-- 73 shardlog/shardlogref01.Strings; slots [(0, a), (1, b), (2, a), (3, b), (5, i)]
-- 113 (*shardlog/disk.Disk).Delete; slots [(0, d), (1, name), (2, d), (3, name)]
noncomputable def m_disk_Disk_Delete : MF := ⟨17, [.t 4],
 .seq (
 .ops [
 .p 4 .mv [(.const (.int .i64 0))]]) (
 .seq (
 .seq (
 .ops [
 .p 5 .mv [(.tmp 0)],
 .p 6 .nilc [(.tmp 5)],
 .p 7 (.fad 0) [(.tmp 6)],
 .ld 8 (.tmp 7),
 .p 9 .mv [(.tmp 1)],
 .gen (some 10) ⟨(some 10), (.lookup 175 (.tmp 8) (.tmp 9) false), 179, "disk.go:103", #[⟨3, .data⟩, ⟨4, .data⟩], none⟩,
 .p 11 (.isnil .pt false) [(.tmp 10)]]) (
 .cond (.tmp 11) (
 .seq (
 .ops [
 .p 4 .mv [(.const (.int .i64 5))]]) (
 .ret)) (
 .skip))) (
 .seq (
 .ops [
 .p 12 .mv [(.tmp 0)],
 .p 13 .nilc [(.tmp 12)],
 .p 14 (.fad 0) [(.tmp 13)],
 .ld 15 (.tmp 14),
 .p 16 .mv [(.tmp 1)],
 .gen none ⟨none, (.call { callee := .builtin .delete, args := #[(.tmp 15), (.tmp 16)], argTypes := #[175, tStr] }), 0, "disk.go:106", #[⟨3, .data⟩, ⟨4, .data⟩], none⟩]) (
 .seq (
 .ops [
 .p 4 .mv [(.const (.int .i64 0))]]) (
 .ret))))⟩

theorem c_disk_Disk_Delete : trF Try.prog f_disk_Disk_Delete = some m_disk_Disk_Delete := by kernel_rfl
-- 132 (*shardlog/disk.Disk).Used; slots [(0, d), (1, d), (3, n), (4, _), (5, f)]
noncomputable def m_disk_Disk_Used : MF := ⟨23, [.t 2],
 .seq (
 .ops [
 .p 2 .mv [(.const (.int .i64 0))]]) (
 .seq (
 .ops [
 .p 3 .mv [(.const (.int .i64 0))]]) (
 .seq (
 .seq (
 .ops [
 .p 6 .mv [(.tmp 0)],
 .p 7 .nilc [(.tmp 6)],
 .p 8 (.fad 0) [(.tmp 7)],
 .ld 9 (.tmp 8),
 .gen (some 10) ⟨(some 10), (.range 175 (.tmp 9)), 0, "disk.go:37", #[⟨3, .data⟩], none⟩]) (
 .block 0 (
 .loop (
 .seq (
 .ops [
 .gen (some 11) ⟨(some 11), (.next (.tmp 10) false), 0, "disk.go:37", #[], none⟩,
 .p 12 (.ext 0) [(.tmp 11)]]) (
 .seq (
 .cond (.tmp 12) (
 .skip) (
 .exit 0)) (
 .block 1 (
 .seq (
 .ops [
 .gen (some 13) ⟨(some 13), (.entry (.tmp 10)), 0, "disk.go:37", #[], none⟩,
 .p 14 (.ext 1) [(.tmp 13)],
 .p 5 .mv [(.tmp 14)]]) (
 .ops [
 .p 15 .mv [(.tmp 3)],
 .p 16 .mv [(.tmp 5)],
 .p 17 .nilc [(.tmp 16)],
 .p 18 (.fad 0) [(.tmp 17)],
 .ld 19 (.tmp 18),
 .p 20 .len [(.tmp 19)],
 .p 21 (.bin .add) [(.tmp 15), (.tmp 20)],
 .p 3 .mv [(.tmp 21)]])))))))) (
 .seq (
 .ops [
 .p 22 .mv [(.tmp 3)],
 .p 2 .mv [(.tmp 22)]]) (
 .ret))))⟩

theorem c_disk_Disk_Used : trF Try.prog f_disk_Disk_Used = some m_disk_Disk_Used := by kernel_rfl
-- 133 shardlog/disk.named; slots [(0, s), (1, s)]
noncomputable def m_disk_named : MF := ⟨11, [.t 2],
 .seq (
 .ops [
 .p 2 .mv [(.const (.bool false))]]) (
 .seq (
 .ops [
 .p 3 .mv [(.tmp 0)],
 .p 4 .lens [(.tmp 3)],
 .p 5 (.bin .geq) [(.tmp 4), (.const (.int .i64 1))],
 .p 6 .mv [(.tmp 5)],
 .gd 6 true (some 7) (.p 7 .mv [(.tmp 0)]),
 .gd 6 true (some 8) (.p 8 .lens [(.tmp 7)]),
 .gd 6 true (some 9) (.p 9 (.bin .leq) [(.tmp 8), (.const (.int .i64 24))]),
 .p 10 .pick [(.tmp 6), (.tmp 9), (.const (.bool false))],
 .p 2 .mv [(.tmp 10)]]) (
 .ret))⟩

theorem c_disk_named : trF Try.prog f_disk_named = some m_disk_named := by kernel_rfl
-- 138 (*shardlog/disk.Disk).Rename; slots [(0, d), (1, a), (2, b), (3, d), (4, a), (5, b), (7, f)]
noncomputable def m_disk_Disk_Rename : MF := ⟨35, [.t 6],
 .seq (
 .ops [
 .p 6 .mv [(.const (.int .i64 0))]]) (
 .seq (
 .seq (
 .ops [
 .p 8 .mv [(.tmp 1)],
 .call (some 9) f_disk_named [(.tmp 8)],
 .p 10 .not [(.tmp 9)],
 .p 11 .mv [(.tmp 10)],
 .gd 11 false (some 12) (.p 12 .mv [(.tmp 2)]),
 .gd 11 false (some 13) (.call (some 13) f_disk_named [(.tmp 12)]),
 .gd 11 false (some 14) (.p 14 .not [(.tmp 13)]),
 .p 15 .pick [(.tmp 11), (.const (.bool true)), (.tmp 14)]]) (
 .cond (.tmp 15) (
 .seq (
 .ops [
 .p 6 .mv [(.const (.int .i64 1))]]) (
 .ret)) (
 .skip))) (
 .seq (
 .ops [
 .p 16 .mv [(.tmp 0)],
 .p 17 .nilc [(.tmp 16)],
 .p 18 (.fad 0) [(.tmp 17)],
 .ld 19 (.tmp 18),
 .p 20 .mv [(.tmp 1)],
 .gen (some 21) ⟨(some 21), (.lookup 175 (.tmp 19) (.tmp 20) false), 179, "disk.go:92", #[⟨3, .data⟩, ⟨4, .data⟩], none⟩,
 .p 7 .mv [(.tmp 21)]]) (
 .seq (
 .seq (
 .ops [
 .p 22 .mv [(.tmp 7)],
 .p 23 (.isnil .pt false) [(.tmp 22)]]) (
 .cond (.tmp 23) (
 .seq (
 .ops [
 .p 6 .mv [(.const (.int .i64 5))]]) (
 .ret)) (
 .skip))) (
 .seq (
 .ops [
 .p 24 .mv [(.tmp 0)],
 .p 25 .nilc [(.tmp 24)],
 .p 26 (.fad 0) [(.tmp 25)],
 .ld 27 (.tmp 26),
 .p 28 .mv [(.tmp 1)],
 .gen none ⟨none, (.call { callee := .builtin .delete, args := #[(.tmp 27), (.tmp 28)], argTypes := #[175, tStr] }), 0, "disk.go:96", #[⟨3, .data⟩, ⟨4, .data⟩], none⟩]) (
 .seq (
 .ops [
 .p 29 .mv [(.tmp 0)],
 .p 30 .nilc [(.tmp 29)],
 .p 31 (.fad 0) [(.tmp 30)],
 .ld 32 (.tmp 31),
 .p 33 .mv [(.tmp 2)],
 .p 34 .mv [(.tmp 7)],
 .genu ⟨none, (.mapUpdate 175 (.tmp 32) (.tmp 33) (.tmp 34)), 0, "disk.go:97", #[⟨3, .data⟩, ⟨4, .data⟩, ⟨5, .data⟩, ⟨0, .phase⟩, ⟨1, .phase⟩, ⟨2, .phase⟩, ⟨3, .phase⟩, ⟨4, .phase⟩, ⟨5, .phase⟩], none⟩]) (
 .seq (
 .ops [
 .p 6 .mv [(.const (.int .i64 0))]]) (
 .ret)))))))⟩

theorem c_disk_Disk_Rename : trF Try.prog f_disk_Disk_Rename = some m_disk_Disk_Rename := by kernel_rfl
-- 139 (*shardlog/disk.Disk).Turn; slots [(0, d), (1, name), (2, at), (3, by), (4, d), (5, name), (6, at), (7, by), (9, f)]
-- 140 (*shardlog/disk.Disk).Trim; slots [(0, d), (1, name), (2, n), (3, d), (4, name), (5, n), (7, f)]
-- 141 shardlog/disk.distance; slots [(0, n), (1, n)]
-- 143 maps.Keys[map[string]*shardlog/disk.file,string,*shardlog/disk.file]; slots [(0, m), (1, m)]
noncomputable def m_maps_Keys : MF := ⟨4, [.t 2],
 .seq (
 .ops [
 .box 1 175 (.tmp 0),
 .p 2 .mv [(.const .nilFunc)]]) (
 .seq (
 .ops [
 .p 3 (.fn (.func f_maps_Keys_1) 0) [(.tmp 1)],
 .p 2 .mv [(.tmp 3)]]) (
 .ret))⟩

theorem c_maps_Keys : trF Try.prog f_maps_Keys = some m_maps_Keys := by kernel_rfl
end Go.Proofs.Ytgpkbldlkadnjaa
end
section
/- Functions of the program in the small code (printed by wip/tool/Print.lean and mkmf2.py of this repo), each with its equation, held by the kernel. -/
set_option linter.unusedVariables false
namespace Go.Proofs.Ytgpkbldlkadnjaa
open Go Go.Sl
end Go.Proofs.Ytgpkbldlkadnjaa
end
section
/- Contracts over data: the disk. -/
set_option linter.unusedVariables false
set_option linter.unusedSimpArgs false
set_option maxHeartbeats 3000000
attribute [local irreducible] Go.Sl.Chk Go.Sl.Br Go.Sl.Or2 Go.Sl.Ld Go.Sl.Ldn Go.Sl.LdB Go.Sl.Stn Go.Sl.New Go.Sl.Run Go.Sl.RunU Go.Sl.RunX Go.Sl.Call Go.Sl.LoopK Go.Sl.RawK Go.Sl.Alt Go.Sl.Om Go.Sl.xpk Go.Sl.xgpk Go.Sl.xglk Go.Sl.DLd Go.Sl.DLdG Go.Sl.DBs Go.Sl.DCall Go.Sl.DApp Go.Sl.DGen Go.Sl.DGenU Go.Sl.DGC Go.Sl.DLoop Go.Sl.DRaw Go.Sl.DRet Go.Sl.Ent Go.Sl.dget Go.Sl.dv Go.Sl.ev Go.Sl.eget
namespace Go.Proofs.Ytgpkbldlkadnjaa
open Go Go.Sl Go.RowKit
abbrev FileS := Bs × Bs × Nat
abbrev strV (b : Bs) : Value := .string ⟨b.toArray⟩
def fileO (f : FileS) : D := .box t_disk_file [bytesO f.2.1, iD f.2.2]
def namesV (fs : List FileS) : List Value := fs.map fun f => strV f.1
def diskO (fs : List FileS) (most : Nat) : D := .box t_disk_Disk [.mp (namesV fs) (fs.map fileO), iD most]
theorem key_str {b : Bs} (h : b.length ≤ 1000000) : keyOf Try.prog 9 (strV b) = some (.string b) := by
 unfold keyOf
 rw [show Try.prog.underlying 9 = some TypeDesc.string from Try.underlying9]
 simp [mapKey, Try.underlying9, ByteArray.size, maxLen]
 omega
theorem sz_s (v : Bs) : (⟨v.toArray⟩ : ByteArray).size = v.length := by simp [ByteArray.size]
theorem kd9 : Go.Maps.Keyed Try.prog 9 := Go.Maps.string_keyed Try.underlying9
theorem new_o (c : Int) (hc : -9223372036854775808 ≤ c ∧ c ≤ 9223372036854775807) : DNew Try.prog f_disk_New [iD c] (fun i => .hp i 0) (diskO [] (min (max c 0) 65536).toNat) := by
 intro nx
 refine xcalls c_disk_New (by simp only [m_disk_New, List.length]; decide) ?_
 simp only [m_disk_New]; refine WK ?_; try with_reducible exact trivial
 refine dmakemap ?_
 refine WK ?_; try with_reducible exact trivial
 have hf := RT.fold (r := [(nx + 1, .box t_disk_Disk [.h nx, .sc (.int .i64 (min (max c 0) 65536))]), (nx, .mp [] [])]) nx (nx + 1) 0 (d := .mp [] []) (c := .box t_disk_Disk [.h nx, .sc (.int .i64 (min (max c 0) 65536))]) (l := [.h nx, .sc (.int .i64 (min (max c 0) 65536))]) (by refine WK ?_; try with_reducible exact trivial) (by omega) (by refine WK ?_; try with_reducible exact trivial) rfl rfl
 simp -dsimp (disch := omega) only [rget_here, rget_there, rset_here, rset_there, rdel_here, rdel_there, withKids, List.set_cons_zero] at hf
 refine dret_rt (t' := .mk _) hf ?_
 refine dret ⟨nx + 1, by omega, by omega, rfl, ?_⟩
 rw [show (min (max c 0) 65536) = (((min (max c 0) 65536).toNat : Nat) : Int) by omega]
 rfl
def DAct (P : Program) (f : FuncId) (ds : Nat → List D) (t : D) (d : D) (t' : D) : Prop := ∀ i nx, i < nx → DCalls P f (ds i) [(i, t)] nx (fun d' r' nx' => d' = d ∧ r' = [(i, t')])
theorem rpick_one {r : Roots} {i : Nat} {t : D} (h : rget r i = some t) : rpick [i] r = ([(i, t)], rdel r i) := by
 simp only [rpick, h]
theorem dact {P : Program} {held : List Nat} {r : Roots} {nx : Nat} {K : D → Roots → Nat → Prop} {f : FuncId} {ds : Nat → List D} {t t' d : D} {tg : TagF K} (i : Nat) (h : DAct P f ds t d t') (hi : i < nx) (hg : rget r i = some t) (hh : i ∉ held)
  (k : ∀ nx', nx ≤ nx' → K d ((i, t') :: rdel r i) nx') : DCall P f (ds i) held r nx K tg :=
 dcallR [i] (rpick_one hg) (h i nx hi) (fun j hj => by
  simp only [rget]
  rw [if_neg (fun e => hh (by rw [e]; exact hj))]) fun d' ro nx' hn ⟨h1, h2⟩ => by
   subst h1; subst h2; exact k nx' hn
def findF (fs : List FileS) (n : Bs) : Option Nat := fs.findIdx? fun f => decide (f.1 = n)
theorem findF_some {fs : List FileS} {n : Bs} {j : Nat} (h : findF fs n = some j) : ∃ f, fs[j]? = some f ∧ f.1 = n := by
 unfold findF at h
 rw [List.findIdx?_eq_some_iff_getElem] at h
 obtain ⟨hj, h1, _⟩ := h
 exact ⟨fs[j], List.getElem?_eq_getElem hj, by simpa using h1⟩
theorem findF_none {fs : List FileS} {n : Bs} (h : findF fs n = none) : strV n ∉ namesV fs := by
 unfold findF at h
 rw [List.findIdx?_eq_none_iff] at h
 intro hm
 obtain ⟨f, hf, he⟩ := List.mem_map.1 hm
 have h1 := h f hf
 simp only [decide_eq_false_iff_not] at h1
 refine h1 ?_
 have := congrArg (fun v : Value => match v with | .string b => b.data.toList | _ => []) he
 simpa using this
def Small1 (fs : List FileS) : Prop := ∀ f ∈ fs, f.1.length ≤ 1000 ∧ f.2.1.length ≤ 1000000
theorem small_keys {fs : List FileS} (h : Small1 fs) : ∀ x ∈ namesV fs, ∃ l, keyOf Try.prog 9 x = some l := fun x hx => by
 obtain ⟨f, hf, rfl⟩ := List.mem_map.1 hx
 exact ⟨_, key_str (by have := (h f hf).1; omega)⟩
theorem disk_back0 {m i most : Nat} {fs : List FileS} (h3 : m ≠ i) : RT [(m, .mp (namesV fs) (fs.map fileO)), (i, .box t_disk_Disk [.h m, iD most])] [(i, diskO fs most)] := by
 have f2 := RT.fold (r := [(m, .mp (namesV fs) (fs.map fileO)), (i, .box t_disk_Disk [.h m, iD most])]) m i 0 (d := .mp (namesV fs) (fs.map fileO)) (c := .box t_disk_Disk [.h m, iD most]) (l := [.h m, iD most]) (by refine WK ?_; try with_reducible exact trivial) h3 (by refine WK ?_; try with_reducible exact trivial) rfl rfl
 simp -dsimp (disch := omega) only [rget_here, rget_there, rset_here, rset_there, rdel_here, rdel_there, withKids, List.set_cons_zero] at f2
 exact f2
theorem disk_back {a m i j most : Nat} {fs : List FileS} {f : FileS} (n b : Bs) (sy : Nat) (hj : fs[j]? = some f) (hn : f.1 = n) (h1 : a ≠ m) (h2 : a ≠ i) (h3 : m ≠ i) :
  RT [(a, .box t_disk_file [bytesO b, iD sy]), (m, .mp (namesV fs) ((fs.map fileO).set j (.hp a 0))), (i, .box t_disk_Disk [.h m, iD most])] [(i, diskO (fs.set j (n, b, sy)) most)] := by
 have hlt := (List.getElem?_eq_some_iff.1 hj).1
 have f1 := RT.fold (r := [(a, .box t_disk_file [bytesO b, iD sy]), (m, .mp (namesV fs) ((fs.map fileO).set j (.hp a 0))), (i, .box t_disk_Disk [.h m, iD most])]) a m j (d := .box t_disk_file [bytesO b, iD sy]) (c := .mp (namesV fs) ((fs.map fileO).set j (.hp a 0))) (l := (fs.map fileO).set j (.hp a 0)) (by refine WK ?_; try with_reducible exact trivial) h1 (by refine WK ?_; try with_reducible exact trivial) rfl (List.getElem?_set_self (by rw [List.length_map]; exact hlt))
 simp -dsimp (disch := omega) only [rget_here, rget_there, rset_here, rset_there, rdel_here, rdel_there, withKids, List.set_set] at f1
 have e1 : (fs.map fileO).set j (.box t_disk_file [bytesO b, iD sy]) = (fs.set j (n, b, sy)).map fileO := by rw [List.map_set]; rfl
 have e2 : namesV fs = namesV (fs.set j (n, b, sy)) := by
  unfold namesV
  rw [List.map_set]
  exact (set_same (by rw [List.getElem?_map, hj, ← hn]; rfl)).symm
 have f1' : RT [(a, .box t_disk_file [bytesO b, iD sy]), (m, .mp (namesV fs) ((fs.map fileO).set j (.hp a 0))), (i, .box t_disk_Disk [.h m, iD most])] [(m, .mp (namesV (fs.set j (n, b, sy))) ((fs.set j (n, b, sy)).map fileO)), (i, .box t_disk_Disk [.h m, iD most])] := by
  rw [← e2, ← e1]; exact f1
 exact f1'.trans (disk_back0 h3)
theorem disk_back1 {q a m i j most : Nat} {fs : List FileS} {f : FileS} (n b : Bs) (sy : Nat) (hj : fs[j]? = some f) (hn : f.1 = n) (h0 : q ≠ a) (h4 : q ≠ m) (h5 : q ≠ i) (h1 : a ≠ m) (h2 : a ≠ i) (h3 : m ≠ i) :
  RT [(q, bytesO b), (a, .box t_disk_file [.h q, iD sy]), (m, .mp (namesV fs) ((fs.map fileO).set j (.hp a 0))), (i, .box t_disk_Disk [.h m, iD most])] [(i, diskO (fs.set j (n, b, sy)) most)] := by
 have f1 := RT.fold (r := [(q, bytesO b), (a, .box t_disk_file [.h q, iD sy]), (m, .mp (namesV fs) ((fs.map fileO).set j (.hp a 0))), (i, .box t_disk_Disk [.h m, iD most])]) q a 0 (d := bytesO b) (c := .box t_disk_file [.h q, iD sy]) (l := [.h q, iD sy]) (by refine WK ?_; try with_reducible exact trivial) h0 (by refine WK ?_; try with_reducible exact trivial) rfl rfl
 simp -dsimp (disch := omega) only [rget_here, rget_there, rset_here, rset_there, rdel_here, rdel_there, withKids, List.set_cons_zero] at f1
 exact f1.trans (disk_back n b sy hj hn h1 h2 h3)
theorem zero179 (w : World) : (zeroValue 179).run Try.prog w = .ok (.pointer none) w := by kernel_rfl
def syncF (fs : List FileS) (n : Bs) : List FileS := match findF fs n with | none => fs | some j => fs.set j (n, (fs.getD j default).2.1, (fs.getD j default).2.1.length)
def noneE (fs : List FileS) (n : Bs) : Nat := match findF fs n with | none => 5 | some _ => 0
theorem sync_a (fs : List FileS) (most : Nat) (n : Bs) (hs : Small1 fs) (hn : n.length ≤ 1000) : DAct Try.prog f_disk_Disk_Sync (fun i => [.hp i 0, strD n]) (diskO fs most) (iD (noneE fs n)) (diskO (syncF fs n) most) := by
 intro i nx hi
 refine xcalls c_disk_Disk_Sync (by simp only [m_disk_Disk_Sync, List.length]; decide) ?_
 rw [show [(i, diskO fs most)] = [(i, .box t_disk_Disk [.mp (namesV fs) (fs.map fileO), iD most])] from rfl]
 simp only [m_disk_Disk_Sync]; refine WK ?_; try with_reducible exact trivial
 cases hfn : findF fs n with
 | none =>
  refine dlook_no (i := nx) (ks := namesV fs) (l := fs.map fileO) (key := strV n) (by refine WK ?_; try with_reducible exact trivial) (by refine WK ?_; try with_reducible exact trivial) (rget_here _ _ _) kd9 Try.underlying175 (z := .pointer none) zero179 (key_str (by omega)) (small_keys hs) (findF_none hfn) ?_
  refine WK ?_; try with_reducible exact trivial
  refine dret_rt (t' := .mk _) (disk_back0 (by omega)) ?_
  refine dret ⟨?_, ?_⟩ <;> simp only [noneE, syncF, hfn] <;> rfl
 | some j =>
  obtain ⟨f, hj, hfe⟩ := findF_some hfn
  refine dlook_box (i := nx) (j := j) (ks := namesV fs) (l := fs.map fileO) (key := strV n) (eb := t_disk_file) (lc := [bytesO f.2.1, iD f.2.2]) (by refine WK ?_; try with_reducible exact trivial) (by refine WK ?_; try with_reducible exact trivial) (rget_here _ _ _) kd9 Try.underlying175 (key_str (by omega)) (small_keys hs) (by unfold namesV; rw [List.getElem?_map, hj, ← hfe]; rfl) (by rw [List.getElem?_map, hj]; rfl) ?_
  refine WK ?_; try with_reducible exact trivial
  refine dret_rt (t' := .mk _) (disk_back1 n f.2.1 f.2.1.length hj hfe (by omega) (by omega) (by omega) (by omega) (by omega) (by omega)) ?_
  have hgd : fs.getD j default = f := by rw [List.getD_eq_getElem?_getD, hj]; rfl
  refine dret ⟨?_, ?_⟩ <;> simp only [noneE, syncF, hfn, hgd] <;> rfl
def DActN (P : Program) (f : FuncId) (ds : Nat → List D) (t : D) (g : Nat → D) (tn t' : D) : Prop := ∀ i nx, i < nx → DCalls P f (ds i) [(i, t)] nx (fun d' r' nx' => ∃ k, nx ≤ k ∧ k < nx' ∧ d' = g k ∧ r' = [(k, tn), (i, t')])
theorem dactn {P : Program} {held : List Nat} {r : Roots} {nx : Nat} {K : D → Roots → Nat → Prop} {f : FuncId} {ds : Nat → List D} {t t' tn : D} {g : Nat → D} {tg : TagF K} (i : Nat) (h : DActN P f ds t g tn t') (hi : i < nx) (hg : rget r i = some t) (hh : i ∉ held)
  (k : ∀ k nx', nx ≤ k → k < nx' → K (g k) ((k, tn) :: (i, t') :: rdel r i) nx') : DCall P f (ds i) held r nx K tg :=
 dcallR [i] (rpick_one hg) (h i nx hi) (fun j hj => by
  simp only [rget]
  rw [if_neg (fun e => hh (by rw [e]; exact hj))]) fun d' ro nx' hn ⟨k', h1, h2, h3, h4⟩ => by
   subst h3; subst h4; exact k k' nx' h1 h2
theorem bytesO_noZ (b : Bs) : NoZ (bytesO b) := noZ_row fun d hd => by obtain ⟨x, _, rfl⟩ := List.mem_map.1 hd; exact trivial
theorem lend_new {P : Program} {held : List Nat} {r : Roots} {nx : Nat} {K : D → Roots → Nat → Prop} (i : Nat) {b : Bs} {f : FuncId} {ds ds' : List D} {t : D} {tg : TagF K} (hg : rget r i = some (bytesO b)) (hds : ds.map (dres (rset r i (bytesD b))) = ds') (hc : DNew P f ds' (fun i => .h i) t) (ht : NoZ t)
  (k : ∀ i nx', nx ≤ i → i < nx' → K (.h i) ((i, t) :: r) nx') : DCall P f ds held r nx K tg := by
 have h := RT.frz i hg (by simp only [frzOk]; exact (bytesO_frz b).1)
 simp only [frzR, frz, (bytesO_frz b).2] at h
 subst hds
 exact dnew_lend h hc ht noZs_h k
theorem read_a (fs : List FileS) (most : Nat) (n : Bs) {j : Nat} {f : FileS} (hs : Small1 fs) (hn : n.length ≤ 1000) (hfn : findF fs n = some j) (hj : fs[j]? = some f) : DActN Try.prog f_disk_Disk_Read (fun i => [.hp i 0, strD n]) (diskO fs most) (fun k => .tup [.h k, iD 0]) (bytesO f.2.1) (diskO fs most) := by
 intro i nx hi
 have hsf := hs f (List.mem_of_getElem? hj)
 refine xcalls c_disk_Disk_Read (by simp only [m_disk_Disk_Read, List.length]; decide) ?_
 rw [show [(i, diskO fs most)] = [(i, .box t_disk_Disk [.mp (namesV fs) (fs.map fileO), iD most])] from rfl]
 simp only [m_disk_Disk_Read]; refine WK ?_; try with_reducible exact trivial
 obtain ⟨f', hj', hfe⟩ := findF_some hfn
 rw [hj] at hj'
 cases hj'
 refine dlook_box (i := nx) (j := j) (ks := namesV fs) (l := fs.map fileO) (key := strV n) (eb := t_disk_file) (lc := [bytesO f.2.1, iD f.2.2]) (by refine WK ?_; try with_reducible exact trivial) (by refine WK ?_; try with_reducible exact trivial) (rget_here _ _ _) kd9 Try.underlying175 (key_str (by omega)) (small_keys hs) (by unfold namesV; rw [List.getElem?_map, hj, ← hfe]; rfl) (by rw [List.getElem?_map, hj]; rfl) ?_
 refine WK ?_; try with_reducible exact trivial
 refine lend_new (nx + 2) (rget_here _ _ _) rfl (by simp -dsimp (disch := omega) only [↓MC.xwp, ↓xopsWp, ↓xdr, ↓MOp.xwp, dvs, dv, dvu, dvo, dvp, dgb, dGd, dBool, cond_true, cond_false, asFn, dget, dput, dput?, dead?, dres, ptr, bsc, cv, uo, uof, unopt, xpr, xdevr, xev0, cutK, cutN, xldk, xldn, xbsk, xst, xgp, glc, vExt, vFldA, vFld, vFad, vIxs, vIxa, vIxvA, vIxv, vSls, vLen, vPick, vNilc, vIsnil, dev0, devr, dsl, dif, dcells, dover, dbuild, scs, rowOf, strideOf, dtk, dtake, done1, pev, pbin, pint, pbool, pstr, psl, vnil, ↓thenD, ↓blockD, ↓retX, ↓xres, xcell, tupD, argD, dkeep, ckLive, kp, xdone, xheld, dstD, isLdM, ldOp, ldIds, ldSlots, selfOk, nb, dst1, inDone, allDone, apart, slotsApart, heldAll, heldOk, Op.operands, Nat.reduceAdd, forall_eq_or_imp, D.plain, reduceCtorEq, if_true, if_false, ↓reduceIte, ne_eq, Bool.cond_true, Bool.cond_false, forall_const, implies_true, forall_eq, Int.reduceEq, Int.reduceLT, Int.reduceLE, Int.reduceAdd, Int.reduceSub, Int.reduceMul, Int.reduceToNat, Nat.reduceMul, Nat.reduceLeDiff, Nat.reduceLT, Nat.reduceSub, Nat.reduceBEq, Nat.reduceEqDiff, matD, bytesD, iD, intsD, boolD, strD, bD, DB, List.map_cons, List.map_nil, dres]; exact clone_o f.2.1 (by omega)) (bytesO_noZ _) fun k n1 h1 h2 => ?_
 refine WK ?_; try with_reducible exact trivial
 refine dret_rt (t' := .mk _) (RT.cons _ (disk_back1 n f.2.1 f.2.2 hj hfe (by omega) (by omega) (by omega) (by omega) (by omega) (by omega))) ?_
 have hsame : fs.set j (n, f.2.1, f.2.2) = fs := set_same (by rw [hj, ← hfe])
 rw [hsame]
 exact dret ⟨k, by omega, by omega, rfl, rfl⟩
theorem read_no (fs : List FileS) (most : Nat) (n : Bs) (hs : Small1 fs) (hn : n.length ≤ 1000) (hfn : findF fs n = none) : DAct Try.prog f_disk_Disk_Read (fun i => [.hp i 0, strD n]) (diskO fs most) (.tup [.sc (.slice none 0 0), iD 5]) (diskO fs most) := by
 intro i nx hi
 refine xcalls c_disk_Disk_Read (by simp only [m_disk_Disk_Read, List.length]; decide) ?_
 rw [show [(i, diskO fs most)] = [(i, .box t_disk_Disk [.mp (namesV fs) (fs.map fileO), iD most])] from rfl]
 simp only [m_disk_Disk_Read]; refine WK ?_; try with_reducible exact trivial
 refine dlook_no (i := nx) (ks := namesV fs) (l := fs.map fileO) (key := strV n) (by refine WK ?_; try with_reducible exact trivial) (by refine WK ?_; try with_reducible exact trivial) (rget_here _ _ _) kd9 Try.underlying175 (z := .pointer none) zero179 (key_str (by omega)) (small_keys hs) (findF_none hfn) ?_
 refine WK ?_; try with_reducible exact trivial
 refine dret_rt (t' := .mk _) (disk_back0 (by omega)) ?_
 exact dret ⟨rfl, rfl⟩
def delF (fs : List FileS) (n : Bs) : List FileS := match findF fs n with | none => fs | some j => fs.eraseIdx j
theorem delete_a (fs : List FileS) (most : Nat) (n : Bs) (hs : Small1 fs) (hn : n.length ≤ 1000) : DAct Try.prog f_disk_Disk_Delete (fun i => [.hp i 0, strD n]) (diskO fs most) (iD (noneE fs n)) (diskO (delF fs n) most) := by
 intro i nx hi
 refine xcalls c_disk_Disk_Delete (by simp only [m_disk_Disk_Delete, List.length]; decide) ?_
 rw [show [(i, diskO fs most)] = [(i, .box t_disk_Disk [.mp (namesV fs) (fs.map fileO), iD most])] from rfl]
 simp only [m_disk_Disk_Delete]; refine WK ?_; try with_reducible exact trivial
 cases hfn : findF fs n with
 | none =>
  refine dlook_no (i := nx) (ks := namesV fs) (l := fs.map fileO) (key := strV n) (by refine WK ?_; try with_reducible exact trivial) (by refine WK ?_; try with_reducible exact trivial) (rget_here _ _ _) kd9 Try.underlying175 (z := .pointer none) zero179 (key_str (by omega)) (small_keys hs) (findF_none hfn) ?_
  refine WK ?_; try with_reducible exact trivial
  refine dret_rt (t' := .mk _) (disk_back0 (by omega)) ?_
  refine dret ⟨?_, ?_⟩ <;> simp only [noneE, delF, hfn] <;> rfl
 | some j =>
  obtain ⟨f, hj, hfe⟩ := findF_some hfn
  refine dlook_box (i := nx) (j := j) (ks := namesV fs) (l := fs.map fileO) (key := strV n) (eb := t_disk_file) (lc := [bytesO f.2.1, iD f.2.2]) (by refine WK ?_; try with_reducible exact trivial) (by refine WK ?_; try with_reducible exact trivial) (rget_here _ _ _) kd9 Try.underlying175 (key_str (by omega)) (small_keys hs) (by unfold namesV; rw [List.getElem?_map, hj, ← hfe]; rfl) (by rw [List.getElem?_map, hj]; rfl) ?_
  have hkj : (namesV fs)[j]? = some (strV n) := by unfold namesV; rw [List.getElem?_map, hj, ← hfe]; rfl
  have hlt := (List.getElem?_eq_some_iff.1 hj).1
  refine WK ?_; try with_reducible exact trivial
  refine dmapdel_tree (i := nx) (j := j) (ks := namesV fs) (l := (fs.map fileO).set j (.hp (nx + 1) 0)) (key := strV n) (by refine WK ?_; try with_reducible exact trivial) (by refine WK ?_; try with_reducible exact trivial) (by rw [rget_there (by omega), rget_here]) kd9 Try.underlying175 (key_str (by omega)) (small_keys hs) hkj (List.getElem?_set_self (by rw [List.length_map]; exact hlt)) (by simp) ?_
  refine WK ?_; try with_reducible exact trivial
  have e1 : ((fs.map fileO).set j (.hp (nx + 1) 0)).eraseIdx j = (fs.eraseIdx j).map fileO := by
   rw [List.eraseIdx_set_eq]; exact (erase_map fileO fs j).symm
  have e2 : (namesV fs).eraseIdx j = namesV (fs.eraseIdx j) := (erase_map (fun f : FileS => strV f.1) fs j).symm
  rw [e1, e2]
  have hd := RT.del (r := [(nx + 1, .box t_disk_file [bytesO f.2.1, iD f.2.2]), (nx, .mp (namesV (fs.eraseIdx j)) ((fs.eraseIdx j).map fileO)), (i, .box t_disk_Disk [.h nx, iD most])]) (nx + 1)
  rw [rdel_here] at hd
  refine dret_rt (t' := .mk _) (hd.trans (disk_back0 (by omega))) ?_
  refine dret ⟨?_, ?_⟩ <;> simp only [noneE, delF, hfn] <;> rfl
def namedB (n : Bs) : Bool := decide ((1 : Int) ≤ (n.length : Int)) && decide ((n.length : Int) ≤ 24)
theorem named_d (n : Bs) : DFun Try.prog f_disk_named [strD n] (boolD (namedB n)) := by
 intro nx
 refine xcalls c_disk_named (by simp only [m_disk_named, List.length]; decide) ?_
 simp only [m_disk_named]; refine WKX @sz_s ?_; try with_reducible exact trivial
 exact dret ⟨rfl, rfl⟩
def turnF (fs : List FileS) (n : Bs) (at' : Int) (by' : UInt8) : List FileS := match findF fs n with
 | none => fs
 | some j => let f := fs.getD j default; if 0 ≤ at' ∧ at' < f.2.1.length then fs.set j (n, f.2.1.set at'.toNat (gt f.2.1 at'.toNat ^^^ by'), f.2.2) else fs
def trimF (fs : List FileS) (n : Bs) (at' : Int) : List FileS := match findF fs n with
 | none => fs
 | some j => let f := fs.getD j default; if 0 ≤ at' ∧ at' ≤ f.2.1.length then fs.set j (n, f.2.1.take at'.toNat, min f.2.2 at'.toNat) else fs
end Go.Proofs.Ytgpkbldlkadnjaa
end
section
/- Contracts over data: promises and votes as records. -/
set_option linter.unusedVariables false
set_option linter.unusedSimpArgs false
set_option maxHeartbeats 3000000
attribute [local irreducible] Go.Sl.Chk Go.Sl.Br Go.Sl.Or2 Go.Sl.Ld Go.Sl.Ldn Go.Sl.LdB Go.Sl.Stn Go.Sl.New Go.Sl.Run Go.Sl.RunU Go.Sl.RunX Go.Sl.Call Go.Sl.LoopK Go.Sl.RawK Go.Sl.Alt Go.Sl.Om Go.Sl.xpk Go.Sl.xgpk Go.Sl.xglk Go.Sl.DLd Go.Sl.DLdG Go.Sl.DBs Go.Sl.DCall Go.Sl.DApp Go.Sl.DGen Go.Sl.DGenU Go.Sl.DGC Go.Sl.DLoop Go.Sl.DRaw Go.Sl.DRet Go.Sl.Ent Go.Sl.dget Go.Sl.dv Go.Sl.ev Go.Sl.eget
namespace Go.Proofs.Ytgpkbldlkadnjaa
open Go Go.Sl Go.RowKit
structure VoteS where
 slot : Int
 ballot : Int
 origin : Int
 full : Bool
 bytes : Bs
def RightV (v : VoteS) : Prop := 0 ≤ v.slot ∧ v.slot < 64 ∧ 1 ≤ v.origin ∧ v.origin ≤ v.ballot ∧ v.ballot ≤ 2147483647 ∧ v.bytes.length ≤ 520
instance (v : VoteS) : Decidable (RightV v) := by unfold RightV; infer_instance
end Go.Proofs.Ytgpkbldlkadnjaa
end
section
/- Contracts over data: records read. -/
set_option linter.unusedVariables false
set_option linter.unusedSimpArgs false
set_option maxHeartbeats 3000000
attribute [local irreducible] Go.Sl.Chk Go.Sl.Br Go.Sl.Or2 Go.Sl.Ld Go.Sl.Ldn Go.Sl.LdB Go.Sl.Stn Go.Sl.New Go.Sl.Run Go.Sl.RunU Go.Sl.RunX Go.Sl.Call Go.Sl.LoopK Go.Sl.RawK Go.Sl.Alt Go.Sl.Om Go.Sl.xpk Go.Sl.xgpk Go.Sl.xglk Go.Sl.DLd Go.Sl.DLdG Go.Sl.DBs Go.Sl.DCall Go.Sl.DApp Go.Sl.DGen Go.Sl.DGenU Go.Sl.DGC Go.Sl.DLoop Go.Sl.DRaw Go.Sl.DRet Go.Sl.Ent Go.Sl.dget Go.Sl.dv Go.Sl.ev Go.Sl.eget
namespace Go.Proofs.Ytgpkbldlkadnjaa
open Go Go.Sl Go.RowKit
def kindN (b : Bs) : Nat := if b.length < 4 then 0 else numAt b
theorem cutnum_k (b : Bs) (hl : b.length ≤ 1000000000) : DFun Try.prog f_wire_CutNum [bytesD b] (.tup [iD (kindN b), bytesD (b.drop 4), boolD (decide (4 ≤ b.length))]) := by
 have h := cutnum_d b hl
 rcases Nat.lt_or_ge b.length 4 with k | k
 ·rw [if_pos k] at h
  rw [kindN, if_pos k, List.drop_of_length_le (by omega), decide_eq_false (by omega)]
  exact h
 ·rw [if_neg (by omega)] at h
  rw [kindN, if_neg (by omega), decide_eq_true k]
  exact h
def zeroV : VoteS := ⟨0, 0, 0, false, []⟩
inductive RecS where
 | bad
 | promise (b : Nat)
 | vote (v : VoteS)
end Go.Proofs.Ytgpkbldlkadnjaa
end
section
/- The walk over data: a box lent for a call that reads it, beside what the call turns. -/
set_option linter.unusedVariables false
set_option linter.unusedSimpArgs false
namespace Go.Sl
open Go.RowKit
section
variable {E : En} {w w' : World} {Z Z' : Nat → Prop} {T T' : Nat → Option Value} {F : Nat → Nat} {r : Roots} {nx : Nat}
variable {P : Program} {held : List Nat} {e e' : Env} {de : DEnv} {K : D → Roots → Nat → Prop}
theorem noZ_roots : ∀ {r : Roots} {G : Nat → Nat}, (∀ p ∈ r, NoZ p.2) → RL w Z T r G → RL w Z' T r G
 | [], G, h, hr => hr
 | p :: r, G, h, ⟨v, F1, F2, h1, h2, h3, h4⟩ => ⟨v, F1, F2, h1, h p (by simp) _ _ _ _ _ _ h2, noZ_roots (fun q hq => h q (by simp [hq])) h3, h4⟩
theorem dcall_lend (i : Nat) {eb : TypeId} {l : List D} {f : FuncId} {ds : List D} {tg : TagF K} (hg : rget r i = some (.box eb l)) (hp : ∀ x ∈ l, x.plain)
  (hc : DCalls P f ds (rset r i (.fbx l)) nx (fun d ro nx' => rget ro i = some (.fbx l) ∧ (∀ p ∈ rdel ro i, NoZ p.2) ∧ NoZs d ∧ K d ((i, .box eb l) :: rdel ro i) nx')) (hh : ∀ j ∈ held, j = i) : DCall P f ds held r nx K tg := by
 intro E w Z T F vs ok hrs
 obtain ⟨v, F1, F2, h1, h2, h3, h4, h5⟩ := ok.roots.get hg
 simp only [Ro] at h2
 obtain ⟨b, us, F0, rfl, hb, hl, hF1⟩ := h2
 obtain ⟨hrl, hF0⟩ := RoL.rs hp hl
 have hob : own (.pointer (some ⟨b, 0, none⟩)) b = 1 := by simp [own, blk]
 have hbF : 0 < F b := by rw [h3, hF1]; omega
 have hblt := ok.lt b hbF
 have hF2b : F2 b = 0 := by have := ok.one b; have := h3 b; have := hF1 b; omega
 have hF2 : ∀ x, F2 x ≤ F x := fun x => by have := h3 x; omega
 have hz1 : ∀ x, Z x → (fun x => Z x ∨ x = b) x := fun x hx => .inl hx
 have hro : Ro w (fun x => Z x ∨ x = b) T (.fbx l) (.pointer (some ⟨b, 0, none⟩)) (fun _ => 0) := by
  simp only [Ro]
  exact ⟨⟨b, rfl, box_fz hb (RsL.keep (fun _ _ => rfl) hz1 (fun _ _ h => h) _ _ hrl) (.inr rfl)⟩, fun _ => trivial⟩
 have hrl1 := h5 w (fun x => Z x ∨ x = b) T (.fbx l) _ _ (fun _ _ => rfl) hz1 (fun _ _ h => h) h1 hro
 have hok : Ok ⟨w, fun x => Z x ∨ x = b, T, F2, nx⟩ w (fun x => Z x ∨ x = b) T F2 (rset r i (.fbx l)) nx := ⟨Fr.refl _ _, fun _ h => h, fun _ _ h => .inl h, fun _ _ => Nat.le_refl _, fun _ _ h => h, fun x => Nat.le_trans (hF2 x) (ok.one x), fun x hx => ok.lt x (Nat.lt_of_lt_of_le hx (hF2 x)), fun x hx => by
  rcases hx with hx | hx
  ·exact ⟨(ok.zlt x hx).1, by have := (ok.zlt x hx).2; have := hF2 x; omega⟩
  ·subst hx; exact ⟨hblt, hF2b⟩, ok.t, ok.cell, Nat.le_refl _, hrl1.cast fun x => by simp⟩
 refine (hc w _ T F2 vs hok (RsL.keep (fun _ _ => rfl) hz1 (fun _ _ h => h) _ _ hrs)).mono fun en w' ⟨v', hv', d, ro, nx', Z', T', F', p, q, g1, g2, g3, g4⟩ => ?_
 have hsz := p.fr.size
 dsimp only at hsz
 have hsame : ∀ x, x < w.heap.size → F2 x = 0 → w'.heap[x]? = w.heap[x]? := fun x hx h0 => p.fr.same x hx (by dsimp only; omega)
 obtain ⟨v0, G1, G2, t1, t2, t3, t4, _⟩ := p.roots.get g1
 have hG : ∀ x, x < w.heap.size → G2 x ≤ F2 x := fun x hx => by have := p.fo x hx; have := t3 x; dsimp only at *; omega
 have hG1 : ∀ x, G2 x ≤ 1 := fun x => by have := p.one x; have := t3 x; omega
 have hGl : ∀ x, 0 < G2 x → x < w'.heap.size := fun x hx => p.lt x (by have := t3 x; omega)
 have hob0 : ∀ x, x ≠ b → own (.pointer (some ⟨b, 0, none⟩)) x = 0 := fun x hx => by simp [own, blk, Ne.symm hx]
 have hzb : ∀ x, Z x → F2 x = 0 ∧ x < w.heap.size ∧ x ≠ b := fun x hx => by
  have hq := ok.zlt x hx; have := hF2 x
  exact ⟨by omega, hq.1, fun e => by subst e; omega⟩
 have hRo : Ro w' Z T' (.box eb l) (.pointer (some ⟨b, 0, none⟩)) (own (.pointer (some ⟨b, 0, none⟩))) := by
  simp only [Ro]
  exact ⟨b, us, fun _ => 0, rfl, (hsame b hblt hF2b).trans hb, RoL.of (RsL.keep (fun x hx => hsame x (hzb x hx).2.1 (hzb x hx).1) (fun _ h => h) p.names _ _ hrl), fun x => by simp⟩
 refine ⟨v', hv', d, (i, .box eb l) :: rdel ro i, nx', Z, T', fun x => own (.pointer (some ⟨b, 0, none⟩)) x + G2 x, ?_, ?_, g3 _ _ _ _ _ q, g4⟩
 ·have hle : ∀ x, x < w.heap.size → own (.pointer (some ⟨b, 0, none⟩)) x + G2 x ≤ F x := fun x hx => by have := hG x hx; have := h3 x; have := hF1 x; omega
  refine ⟨ok.fr.step p.fr (fun x hx hM => ?_), ok.z, ok.zo, fun x hx => ?_, fun j u hu => p.names j u (ok.names j u hu), fun x => ?_, fun x hx => ?_, fun x hx => ?_, p.t, p.cell, Nat.le_trans ok.ge p.ge, ⟨_, _, G2, p.names _ _ h1, hRo, noZ_roots g2 t4, fun x => rfl⟩⟩
  ·have := ok.fo x hx; have := hF2 x; dsimp only at hM; show 0 < E.F x; omega
  ·have hs := ok.fr.size
   exact Nat.le_trans (hle x (by omega)) (ok.fo x hx)
  ·by_cases hx : x < w.heap.size
   ·exact Nat.le_trans (hle x hx) (ok.one x)
   ·rw [hob0 x (fun e => hx (by rw [e]; exact hblt))]; have := hG1 x; omega
  ·by_cases hxb : x = b
   ·subst hxb; omega
   ·rw [hob0 x hxb] at hx; exact hGl x (by omega)
  ·obtain ⟨z1, z2, z3⟩ := hzb x hx
   refine ⟨by omega, ?_⟩
   have := hG x z2
   have := hob0 x z3
   omega
 ·refine ⟨fun x hx => hsame x (hzb x hx).2.1 (hzb x hx).1, fun _ h => h, p.names, fun j hj ho u bu hu hbk => ?_⟩
  rw [hh j hj, h1] at hu
  cases hu
  simp only [blk, Option.some.injEq] at hbk
  subst hbk
  exact hsame b hblt hF2b
theorem rget_rset_at {i : Nat} {d c : D} : ∀ {r : Roots}, rget r i = some c → rget (rset r i d) i = some d
 | [], h => by simp [rget] at h
 | p :: r, h => by
  simp only [rget] at h
  simp only [rset]
  by_cases hp : p.1 = i
  ·simp [hp, rget]
  ·rw [if_neg hp] at h
   rw [if_neg hp]
   simp only [rget, if_neg hp]
   exact rget_rset_at h
theorem dcall_take (i off : Nat) {eb : TypeId} {l lm : List D} {ks : List Value} {f : FuncId} {ds : List D} {t t' : TagF K} (hg : rget r i = some (.box eb l)) (hx : l[off]? = some (.mp ks lm)) (hh : ∀ j ∈ held, j = i)
  (k : DCall P f ds held ((nx, .mp ks lm) :: rset r i (.box eb (l.set off (.h nx)))) (nx + 1) K t') : DCall P f ds held r nx K t := by
 intro E w Z T F vs ok hrs
 obtain ⟨v, b, u, Fx, a1, a2, a3, a4, _⟩ := own_cell (nx := nx) (Cont.box eb) ok.roots hg hx
 have hT := tset_ext (v := u) (ok.t nx (Nat.le_refl _))
 have hone := tree_cell a4 (.inr (.inr ⟨_, _, rfl⟩))
 have hr' : RL w Z (tset T nx u) r F := ok.roots.keep (fun _ h => h) hT (fun _ _ => rfl)
 obtain ⟨v', b', u', Fx', c1, c2, c3, c4, c5⟩ := own_cell (nx := nx) (Cont.box eb) hr' hg hx
 rw [hT i _ a1] at c1
 cases c1
 rw [a2] at c2
 cases c2
 rw [a3] at c3
 cases c3
 have hne : nx ≠ i := fun e => by subst e; rw [ok.t nx (Nat.le_refl _)] at a1; cases a1
 obtain ⟨o1, o2⟩ := ok.name (held := held) hone (fun _ => rfl) (c5 (.h nx) (by simp only [Rs]; exact tset_same _ _ _) (tset_same _ _ _))
 refine (k E w Z _ F vs o1 (RsL.keep (fun _ _ => rfl) (fun _ h => h) hT _ _ hrs)).mono fun en w' ⟨v2, hv2, d, r', nx', Z', T', F', p1, p2, p3⟩ => ⟨v2, hv2, d, r', nx', Z', T', F', p1, o2.trans p2 fun j hj ho => .inl ?_, p3⟩
 rw [hh j hj]
 unfold heldOk
 rw [rget_there hne, rget_rset_at hg]
 trivial
theorem noZ_listN : ∀ {l : List D}, (∀ d ∈ l, NoZ d) → ∀ (w : World) (Z Z' : Nat → Prop) (T : Nat → Option Value) (us : List Value) (F : Nat → Nat), RoL w Z T l us F → RoL w Z' T l us F
 | [], _, w, Z, Z', T, us, F, h => by simp only [RoL] at h ⊢; exact h
 | d :: l, hl, w, Z, Z', T, us, F, h => by
  simp only [RoL] at h ⊢
  obtain ⟨u, us', F1, F2, rfl, h1, h2, h3⟩ := h
  exact ⟨u, us', F1, F2, rfl, hl d (by simp) w Z Z' T u F1 h1, noZ_listN (fun d hd => hl d (by simp [hd])) w Z Z' T us' F2 h2, h3⟩
theorem noZ_sc (v : Value) : NoZ (.sc v) := fun w Z Z' T u F h => by simp only [Ro, Rs] at h ⊢; exact h
theorem noZ_box {e : TypeId} {l : List D} (h : ∀ d ∈ l, NoZ d) : NoZ (.box e l) := fun w Z Z' T v F hr => by
 simp only [Ro] at hr ⊢
 obtain ⟨b, us, F', h0, h1, h2, h3⟩ := hr
 exact ⟨b, us, F', h0, h1, noZ_listN h w Z Z' T us F' h2, h3⟩
theorem noZ_mp {ks : List Value} {l : List D} (h : ∀ d ∈ l, NoZ d) : NoZ (.mp ks l) := fun w Z Z' T v F hr => by
 simp only [Ro] at hr ⊢
 obtain ⟨b, us, F', h0, h1, h2, h3⟩ := hr
 exact ⟨b, us, F', h0, h1, noZ_listN h w Z Z' T us F' h2, h3⟩
end
end Go.Sl
end
section
/- Contracts over data: the disk, part 2. -/
set_option linter.unusedVariables false
set_option linter.unusedSimpArgs false
set_option maxHeartbeats 3000000
attribute [local irreducible] Go.Sl.Chk Go.Sl.Br Go.Sl.Or2 Go.Sl.Ld Go.Sl.Ldn Go.Sl.LdB Go.Sl.Stn Go.Sl.New Go.Sl.Run Go.Sl.RunU Go.Sl.RunX Go.Sl.Call Go.Sl.LoopK Go.Sl.RawK Go.Sl.Alt Go.Sl.Om Go.Sl.xpk Go.Sl.xgpk Go.Sl.xglk Go.Sl.DLd Go.Sl.DLdG Go.Sl.DBs Go.Sl.DCall Go.Sl.DApp Go.Sl.DGen Go.Sl.DGenU Go.Sl.DGC Go.Sl.DLoop Go.Sl.DRaw Go.Sl.DRet Go.Sl.Ent Go.Sl.dget Go.Sl.dv Go.Sl.ev Go.Sl.eget
namespace Go.Proofs.Ytgpkbldlkadnjaa
open Go Go.Sl Go.RowKit
def usedN (fs : List FileS) : Nat := (fs.map fun f => f.2.1.length).sum
theorem sum_all (fs : List FileS) : ((List.range fs.length).map fun j => (fs.getD j default).2.1.length).sum = usedN fs := by
 rw [usedN]
 congr 1
 refine List.ext_getElem (by simp) fun k h1 h2 => ?_
 simp at h1
 simp [List.getD_eq_getElem?_getD, h1]
theorem perm_filter {S : List Nat} {N : Nat} (h : S.Nodup) (hl : ∀ j ∈ S, j < N) : S.Perm ((List.range N).filter fun j => decide (j ∈ S)) :=
 (List.perm_ext_iff_of_nodup h (List.nodup_range.filter _)).2 fun j => by
  simp only [List.mem_filter, List.mem_range, decide_eq_true_eq]
  exact ⟨fun hj => ⟨hl j hj, hj⟩, fun hj => hj.2⟩
theorem nodup_le {S : List Nat} {N : Nat} (h : S.Nodup) (hl : ∀ j ∈ S, j < N) : S.length ≤ N := by
 rw [(perm_filter h hl).length_eq]
 have := List.length_filter_le (fun j => decide (j ∈ S)) (List.range N)
 simpa using this
theorem sum_filter_le (p : Nat → Bool) (g : Nat → Nat) : ∀ l : List Nat, ((l.filter p).map g).sum ≤ (l.map g).sum
 | [] => by simp
 | x :: l => by
  have := sum_filter_le p g l
  rw [List.filter_cons]
  split
  ·simp only [List.map_cons, List.sum_cons]; omega
  ·simp only [List.map_cons, List.sum_cons]; omega
theorem sum_part {S : List Nat} {fs : List FileS} (h : S.Nodup) (hl : ∀ j ∈ S, j < fs.length) : (S.map fun j => (fs.getD j default).2.1.length).sum ≤ usedN fs := by
 rw [((perm_filter h hl).map _).sum_nat, ← sum_all]
 exact sum_filter_le _ _ _
theorem perm_range {S : List Nat} {N : Nat} (h : S.Nodup) (hl : ∀ j ∈ S, j < N) (ha : ∀ j, j < N → j ∈ S) : S.Perm (List.range N) :=
 (List.perm_ext_iff_of_nodup h List.nodup_range).2 fun j => ⟨fun hj => List.mem_range.2 (hl j hj), fun hj => ha j (List.mem_range.1 hj)⟩
theorem used_l (fs : List FileS) (most : Nat) (hs : Small1 fs) (hu : usedN fs ≤ 1000000) {i m nx : Nat} (hi : i < nx) (hm : m < nx) (hne : m ≠ i) : DCalls Try.prog f_disk_Disk_Used [.hp i 0] [(m, .mp (namesV fs) (fs.map fileO)), (i, .fbx [.h m, iD most])] nx (fun d ro _ => d = iD (usedN fs) ∧ ro = [(m, .mp (namesV fs) (fs.map fileO)), (i, .fbx [.h m, iD most])]) := by
 refine xcalls c_disk_Disk_Used (by simp only [m_disk_Disk_Used, List.length]; decide) ?_
 simp only [m_disk_Disk_Used]; refine WK ?_; try with_reducible exact trivial
 refine drange (im := m) (ks := namesV fs) (l := fs.map fileO) (by refine WK ?_; try with_reducible exact trivial) (rget_here _ _ _) Try.underlying175 ?_
 refine WK ?_; try with_reducible exact trivial
 refine dloop [0, 3, 10] (fun s : List Nat × Nat => ([(0, .hp i 0), (3, iD ((s.1.map fun j => (fs.getD j default).2.1.length).sum : Nat)), (10, .h (nx))], [(nx, .abs (ItA m (namesV fs) (fs.map fileO) s.1)), (i, .fbx [.h m, iD most])], s.2)) (fun s => s.1.Nodup ∧ (∀ j ∈ s.1, j < fs.length) ∧ nx < s.2) (fun s => fs.length - s.1.length) ([], nx + 1) ⟨List.nodup_nil, by simp, by dsimp only; omega⟩ (Ent.of (by with_unfolding_all rfl) rfl) ?_
 rintro ⟨S, n⟩ ⟨hS, hSl, hn⟩
 dsimp only at hS hSl hn ⊢
 have hSlen : S.length ≤ fs.length := nodup_le hS hSl
 refine WK ?_; try with_reducible exact trivial
 refine dnext (ni := nx) (im := m) (ks := namesV fs) (l := fs.map fileO) (S := S) (by refine WK ?_; try with_reducible exact trivial) (rget_here _ _ _) (by simp) (fun hall => ?_) (fun j key hj hjS => ?_)
 ·refine WK ?_; try with_reducible exact trivial
  have hp : S.Perm (List.range fs.length) := perm_range hS hSl (fun j hj => hall j (by unfold namesV; rw [List.length_map]; exact hj))
  have hsum : (S.map fun j => (fs.getD j default).2.1.length).sum = usedN fs := by
   rw [(hp.map _).sum_nat, sum_all]
  rw [hsum]
  refine dret_rt (t' := .mk _) (RT.itdone nx m (rget_here _ _ _)) ?_
  rw [rdel_here]
  exact dret ⟨rfl, rfl⟩
 ·have hjl : j < fs.length := by have := (List.getElem?_eq_some_iff.1 hj).1; unfold namesV at this; rwa [List.length_map] at this
  have hfj : fs[j]? = some fs[j] := List.getElem?_eq_getElem hjl
  have hgd : fs.getD j default = fs[j] := by rw [List.getD_eq_getElem?_getD, hfj]; rfl
  refine WK ?_; try with_reducible exact trivial
  refine dentry_box (ni := nx) (im := m) (j := j) (ks := namesV fs) (l := fs.map fileO) (S := S) (key := key) (eb := t_disk_file) (lc := [bytesO fs[j].2.1, iD fs[j].2.2]) (by refine WK ?_; try with_reducible exact trivial) (rget_here _ _ _) hj (by rw [List.getElem?_map, hfj]; rfl) ?_
  have hS2 : (S ++ [j]).Nodup := List.nodup_append.2 ⟨hS, by simp, by simp only [List.mem_singleton]; rintro a ha b rfl e; exact hjS (e ▸ ha)⟩
  have hSl2 : ∀ k ∈ S ++ [j], k < fs.length := fun k hk => by
   rcases List.mem_append.1 hk with h | h
   ·exact hSl k h
   ·simp only [List.mem_singleton] at h; omega
  have hpart := sum_part hS2 hSl2
  have hadd : ((S ++ [j]).map fun j => (fs.getD j default).2.1.length).sum = (S.map fun j => (fs.getD j default).2.1.length).sum + fs[j].2.1.length := by
   rw [List.map_append, List.sum_append, List.map_cons, List.map_nil, List.sum_cons, hgd]; rfl
  refine WK ?_; try with_reducible exact trivial
  refine ⟨(S ++ [j], n + 2), ⟨hS2, hSl2, by dsimp only; omega⟩, by dsimp only; rw [List.length_append, List.length_singleton]; have := nodup_le hS2 hSl2; rw [List.length_append, List.length_singleton] at this; omega, ?_⟩
  dsimp only
  rw [hadd]
  have f1 := RT.fold (r := [(n + 1, bytesO fs[j].2.1), (n, .box t_disk_file [.h (n + 1), iD fs[j].2.2]), (nx, .abs (ItA m (namesV fs) ((fs.map fileO).set j (.hp n 0)) (S ++ [j]))), (i, .fbx [.h m, iD most])]) (n + 1) n 0 (d := bytesO fs[j].2.1) (c := .box t_disk_file [.h (n + 1), iD fs[j].2.2]) (l := [.h (n + 1), iD fs[j].2.2]) (by refine WK ?_; try with_reducible exact trivial) (by omega) (by refine WK ?_; try with_reducible exact trivial) rfl rfl
  simp -dsimp (disch := omega) only [rget_here, rget_there, rset_here, rset_there, rdel_here, rdel_there, withKids, List.set_cons_zero] at f1
  have f2 := RT.itfold (r := [(n, .box t_disk_file [bytesO fs[j].2.1, iD fs[j].2.2]), (nx, .abs (ItA m (namesV fs) ((fs.map fileO).set j (.hp n 0)) (S ++ [j]))), (i, .fbx [.h m, iD most])]) n nx m j (ks := namesV fs) (l := (fs.map fileO).set j (.hp n 0)) (S := S ++ [j]) (d := .box t_disk_file [bytesO fs[j].2.1, iD fs[j].2.2]) (rget_here _ _ _) (by omega) (by rw [rget_there (by omega), rget_here]) (List.getElem?_set_self (by rw [List.length_map]; exact hjl))
  have e1 : ((fs.map fileO).set j (.hp n 0)).set j (.box t_disk_file [bytesO fs[j].2.1, iD fs[j].2.2]) = fs.map fileO := by
   rw [List.set_set]
   exact set_same (by rw [List.getElem?_map, hfj]; rfl)
  rw [e1] at f2
  simp -dsimp (disch := omega) only [↓MC.xwp, ↓xopsWp, ↓xdr, ↓MOp.xwp, dvs, dv, dvu, dvo, dvp, dgb, dGd, dBool, cond_true, cond_false, asFn, dget, dput, dput?, dead?, dres, ptr, bsc, cv, uo, uof, unopt, xpr, xdevr, xev0, cutK, cutN, xldk, xldn, xbsk, xst, xgp, glc, vExt, vFldA, vFld, vFad, vIxs, vIxa, vIxvA, vIxv, vSls, vLen, vPick, vNilc, vIsnil, dev0, devr, dsl, dif, dcells, dover, dbuild, scs, rowOf, strideOf, dtk, dtake, done1, pev, pbin, pint, pbool, pstr, psl, vnil, ↓thenD, ↓blockD, ↓retX, ↓xres, xcell, tupD, argD, dkeep, ckLive, kp, xdone, xheld, dstD, isLdM, ldOp, ldIds, ldSlots, selfOk, nb, dst1, inDone, allDone, apart, slotsApart, heldAll, heldOk, Op.operands, Nat.reduceAdd, forall_eq_or_imp, D.plain, reduceCtorEq, if_true, if_false, ↓reduceIte, ne_eq, Bool.cond_true, Bool.cond_false, forall_const, implies_true, forall_eq, Int.reduceEq, Int.reduceLT, Int.reduceLE, Int.reduceAdd, Int.reduceSub, Int.reduceMul, Int.reduceToNat, Nat.reduceMul, Nat.reduceLeDiff, Nat.reduceLT, Nat.reduceSub, Nat.reduceBEq, Nat.reduceEqDiff, matD, bytesD, iD, intsD, boolD, strD, bD, DB] at f2
  refine (Ent.of_rt (f1.trans f2)).trans ?_
  exact (Ent.of (by with_unfolding_all rfl) rfl)
end Go.Proofs.Ytgpkbldlkadnjaa
end
section
/- Contracts over data: the disk, part 3. -/
set_option linter.unusedVariables false
set_option linter.unusedSimpArgs false
set_option maxHeartbeats 3000000
attribute [local irreducible] Go.Sl.Chk Go.Sl.Br Go.Sl.Or2 Go.Sl.Ld Go.Sl.Ldn Go.Sl.LdB Go.Sl.Stn Go.Sl.New Go.Sl.Run Go.Sl.RunU Go.Sl.RunX Go.Sl.Call Go.Sl.LoopK Go.Sl.RawK Go.Sl.Alt Go.Sl.Om Go.Sl.xpk Go.Sl.xgpk Go.Sl.xglk Go.Sl.DLd Go.Sl.DLdG Go.Sl.DBs Go.Sl.DCall Go.Sl.DApp Go.Sl.DGen Go.Sl.DGenU Go.Sl.DGC Go.Sl.DLoop Go.Sl.DRaw Go.Sl.DRet Go.Sl.Ent Go.Sl.dget Go.Sl.dv Go.Sl.ev Go.Sl.eget
namespace Go.Proofs.Ytgpkbldlkadnjaa
open Go Go.Sl Go.RowKit
def appF (fs : List FileS) (most : Nat) (n b : Bs) : List FileS :=
 if namedB n = false then fs else if (most : Int) - usedN fs < b.length then fs else
 match findF fs n with
 | none => fs ++ [(n, b, 0)]
 | some j => fs.set j (n, (fs.getD j default).2.1 ++ b, (fs.getD j default).2.2)
def appE (fs : List FileS) (most : Nat) (n b : Bs) : Nat :=
 if namedB n = false then 1 else if (most : Int) - usedN fs < b.length then 4 else 0
theorem dcalls_imp {P : Program} {f : FuncId} {ds : List D} {r : Roots} {nx : Nat} {Q Q' : D → Roots → Nat → Prop} (h : DCalls P f ds r nx Q) (k : ∀ d ro nx', nx ≤ nx' → Q d ro nx' → Q' d ro nx') : DCalls P f ds r nx Q' := fun w Z T F vs ok hrs =>
 (h w Z T F vs ok hrs).mono fun en w' ⟨v, hv, d, r', nx', Z', T', F', o1, o2, o3⟩ => ⟨v, hv, d, r', nx', Z', T', F', o1, o2, k d r' nx' o1.ge o3⟩
theorem append_a (fs : List FileS) (most : Nat) (n b : Bs) (hs : Small1 fs) (hu : usedN fs ≤ 1000000) (hm : most ≤ 1000000) (hn : n.length ≤ 1000) (hb : b.length ≤ 1000000) : DAct Try.prog f_disk_Disk_Append (fun i => [.hp i 0, strD n, bytesD b]) (diskO fs most) (iD (appE fs most n b)) (diskO (appF fs most n b) most) := by
 intro i nx hi
 refine xcalls c_disk_Disk_Append (by simp only [m_disk_Disk_Append, List.length]; decide) ?_
 simp only [m_disk_Disk_Append]; refine WK ?_; try with_reducible exact trivial
 refine dfun (named_d n) fun n1 h1 => ?_
 refine WK ?_; try with_reducible exact trivial
 cases hnm : namedB n with
 | false =>
  refine WK ?_; try with_reducible exact trivial
  refine dret ⟨?_, ?_⟩ <;> simp only [appE, appF, hnm, if_true] <;> rfl
 | true =>
  rw [show [(i, diskO fs most)] = [(i, .box t_disk_Disk [.mp (namesV fs) (fs.map fileO), iD most])] from rfl]
  refine WK ?_; try with_reducible exact trivial
  refine dcall_take i 0 (t' := .mk _) (rget_here _ _ _) rfl (by simp) ?_
  rw [rset_here, List.set_cons_zero]
  refine dcall_lend i (eb := t_disk_Disk) (l := [.h n1, iD most]) (by rw [rget_there (by omega)]; exact rget_here _ _ _) (by simp [D.plain]) ?_ (by simp)
  have hul := used_l fs most hs hu (i := i) (m := n1) (nx := n1 + 1) (by omega) (by omega) (by omega)
  rw [rset_there (by omega), rset_here]
  refine dcalls_imp hul fun d ro n2 h2 ⟨hd, hro⟩ => ?_
  subst hd; subst hro
  refine ⟨by refine WK ?_; try with_reducible exact trivial, ?_, noZs_sc _, ?_⟩
  ·rw [rdel_there (by omega), rdel_here]
   intro p hp
   simp only [List.mem_singleton] at hp
   subst hp
   refine noZ_mp fun d hd => ?_
   obtain ⟨f, _, rfl⟩ := List.mem_map.1 hd
   refine noZ_box fun d hd => ?_
   simp only [List.mem_cons, List.not_mem_nil, or_false] at hd
   rcases hd with rfl | rfl
   ·exact bytesO_noZ _
   ·exact noZ_sc _
  rw [rdel_there (by omega), rdel_here]
  refine WK ?_; try with_reducible exact trivial
  have hpk := RT.only (r := [(i, .box t_disk_Disk [.h n1, iD most]), (n1, .mp (namesV fs) (fs.map fileO))]) [n1, i]
  simp -dsimp (disch := omega) only [rget_here, rget_there, rset_here, rset_there, rdel_here, rdel_there, rpick] at hpk
  refine brd (fun hful => ?_) (fun hful => ?_)
  ·refine WK ?_; try with_reducible exact trivial
   refine dret_rt (t' := .mk _) (hpk.trans (disk_back0 (by omega))) ?_
   refine dret ⟨?_, ?_⟩ <;> simp only [appE, appF, hnm, hful, if_true, Bool.true_eq_false, if_false] <;> rfl
  ·refine WK ?_; try with_reducible exact trivial
   cases hfn : findF fs n with
   | none =>
    refine dlook_no (i := n1) (ks := namesV fs) (l := fs.map fileO) (key := strV n) (by refine WK ?_; try with_reducible exact trivial) (by refine WK ?_; try with_reducible exact trivial) (by rw [rget_there (by omega), rget_here]) kd9 Try.underlying175 (z := .pointer none) zero179 (key_str (by omega)) (small_keys hs) (findF_none hfn) ?_
    refine WK ?_; try with_reducible exact trivial
    refine dmapput_no (i := n1) (ks := namesV fs) (l := fs.map fileO) (key := strV n) (d := .hp n2 0) (by refine WK ?_; try with_reducible exact trivial) (by refine WK ?_; try with_reducible exact trivial) (by refine WK ?_; try with_reducible exact trivial) (by refine WK ?_; try with_reducible exact trivial) kd9 Try.underlying175 (key_str (by omega)) (small_keys hs) (findF_none hfn) (by simp only [D.plain]) (by simp) ?_
    have hks2 : ∀ x ∈ namesV fs ++ [strV n], ∃ l, keyOf Try.prog 9 x = some l := fun x hx => by
     rcases List.mem_append.1 hx with h | h
     ·exact small_keys hs x h
     ·simp only [List.mem_singleton] at h; subst h; exact ⟨_, key_str (by omega)⟩
    have hll : (namesV fs).length = fs.length := by unfold namesV; rw [List.length_map]
    have hg2 : (fs.map fileO ++ [D.hp n2 0])[fs.length]? = some (.hp n2 0) := by rw [List.getElem?_append_right (by rw [List.length_map]; exact Nat.le_refl _), List.length_map, Nat.sub_self]; rfl
    refine WK ?_; try with_reducible exact trivial
    refine dlook_at (i := n1) (j := fs.length) (ks := namesV fs ++ [strV n]) (l := fs.map fileO ++ [.hp n2 0]) (key := strV n) (d := .hp n2 0) (by refine WK ?_; try with_reducible exact trivial) (by refine WK ?_; try with_reducible exact trivial) (by refine WK ?_; try with_reducible exact trivial) kd9 Try.underlying175 (key_str (by omega)) hks2 (by rw [List.getElem?_append_right (by omega), hll, Nat.sub_self]; rfl) hg2 (by simp only [D.plain]) ?_
    refine WK ?_; try with_reducible exact trivial
    refine dapp_nil (m := b.length) (l' := b.map bD) elB (DSrc.sl _ _ _) (by simp) bDs_done (by omega) (by omega) ?_
    refine WK ?_; try with_reducible exact trivial
    have f1 := RT.fold (r := [(n2 + 1, bytesO b), (n2, .box t_disk_file [.h (n2 + 1), .sc (.int .i64 0)]), (i, .box t_disk_Disk [.h n1, iD most]), (n1, .mp (namesV fs ++ [strV n]) (fs.map fileO ++ [.hp n2 0]))]) (n2 + 1) n2 0 (d := bytesO b) (c := .box t_disk_file [.h (n2 + 1), .sc (.int .i64 0)]) (l := [.h (n2 + 1), .sc (.int .i64 0)]) (rget_here _ _ _) (by omega) (by refine WK ?_; try with_reducible exact trivial) rfl rfl
    simp -dsimp (disch := omega) only [rget_here, rget_there, rset_here, rset_there, rdel_here, rdel_there, withKids, List.set_cons_zero] at f1
    have f2 := RT.fold (r := [(n2, .box t_disk_file [bytesO b, .sc (.int .i64 0)]), (i, .box t_disk_Disk [.h n1, iD most]), (n1, .mp (namesV fs ++ [strV n]) (fs.map fileO ++ [.hp n2 0]))]) n2 n1 fs.length (d := .box t_disk_file [bytesO b, .sc (.int .i64 0)]) (c := .mp (namesV fs ++ [strV n]) (fs.map fileO ++ [.hp n2 0])) (l := fs.map fileO ++ [.hp n2 0]) (rget_here _ _ _) (by omega) (by refine WK ?_; try with_reducible exact trivial) rfl hg2
    have es : (fs.map fileO ++ [D.hp n2 0]).set fs.length (.box t_disk_file [bytesO b, .sc (.int .i64 0)]) = (fs ++ [(n, b, 0)]).map fileO := by
     rw [List.set_append_right _ _ (by rw [List.length_map]; exact Nat.le_refl _), List.length_map, Nat.sub_self, List.map_append]
     rfl
    have en : namesV fs ++ [strV n] = namesV (fs ++ [(n, b, 0)]) := by unfold namesV; rw [List.map_append]; rfl
    simp only [withKids] at f2
    rw [es] at f2
    simp -dsimp (disch := omega) only [↓MC.xwp, ↓xopsWp, ↓xdr, ↓MOp.xwp, dvs, dv, dvu, dvo, dvp, dgb, dGd, dBool, cond_true, cond_false, asFn, dget, dput, dput?, dead?, dres, ptr, bsc, cv, uo, uof, unopt, xpr, xdevr, xev0, cutK, cutN, xldk, xldn, xbsk, xst, xgp, glc, vExt, vFldA, vFld, vFad, vIxs, vIxa, vIxvA, vIxv, vSls, vLen, vPick, vNilc, vIsnil, dev0, devr, dsl, dif, dcells, dover, dbuild, scs, rowOf, strideOf, dtk, dtake, done1, pev, pbin, pint, pbool, pstr, psl, vnil, ↓thenD, ↓blockD, ↓retX, ↓xres, xcell, tupD, argD, dkeep, ckLive, kp, xdone, xheld, dstD, isLdM, ldOp, ldIds, ldSlots, selfOk, nb, dst1, inDone, allDone, apart, slotsApart, heldAll, heldOk, Op.operands, Nat.reduceAdd, forall_eq_or_imp, D.plain, reduceCtorEq, if_true, if_false, ↓reduceIte, ne_eq, Bool.cond_true, Bool.cond_false, forall_const, implies_true, forall_eq, Int.reduceEq, Int.reduceLT, Int.reduceLE, Int.reduceAdd, Int.reduceSub, Int.reduceMul, Int.reduceToNat, Nat.reduceMul, Nat.reduceLeDiff, Nat.reduceLT, Nat.reduceSub, Nat.reduceBEq, Nat.reduceEqDiff, matD, bytesD, iD, intsD, boolD, strD, bD, DB] at f2
    have f3 := RT.only (r := [(i, .box t_disk_Disk [.h n1, iD most]), (n1, .mp (namesV (fs ++ [(n, b, 0)])) ((fs ++ [(n, b, 0)]).map fileO))]) [n1, i]
    simp -dsimp (disch := omega) only [rget_here, rget_there, rset_here, rset_there, rdel_here, rdel_there, rpick] at f3
    have f4 := RT.trans f3 (disk_back0 (by omega))
    rw [← en] at f4
    refine dret_rt (t' := .mk _) ((RT.trans f1 f2).trans f4) ?_
    refine dret ⟨?_, ?_⟩ <;> simp only [appE, appF, hnm, hful, hfn, Bool.true_eq_false, if_false] <;> rfl
   | some j =>
    obtain ⟨f, hj, hfe⟩ := findF_some hfn
    have hsf := hs f (List.mem_of_getElem? hj)
    have hgd : fs.getD j default = f := by rw [List.getD_eq_getElem?_getD, hj]; rfl
    have hlt := (List.getElem?_eq_some_iff.1 hj).1
    have hkj : (namesV fs)[j]? = some (strV n) := by unfold namesV; rw [List.getElem?_map, hj, ← hfe]; rfl
    refine dlook_box (i := n1) (j := j) (ks := namesV fs) (l := fs.map fileO) (key := strV n) (eb := t_disk_file) (lc := [bytesO f.2.1, iD f.2.2]) (by refine WK ?_; try with_reducible exact trivial) (by refine WK ?_; try with_reducible exact trivial) (by rw [rget_there (by omega), rget_here]) kd9 Try.underlying175 (key_str (by omega)) (small_keys hs) hkj (by rw [List.getElem?_map, hj]; rfl) ?_
    refine WK ?_; try with_reducible exact trivial
    refine dlook_at (i := n1) (j := j) (ks := namesV fs) (l := (fs.map fileO).set j (.hp n2 0)) (key := strV n) (d := .hp n2 0) (by refine WK ?_; try with_reducible exact trivial) (by refine WK ?_; try with_reducible exact trivial) (by refine WK ?_; try with_reducible exact trivial) kd9 Try.underlying175 (key_str (by omega)) (small_keys hs) hkj (List.getElem?_set_self (by rw [List.length_map]; exact hlt)) (by simp only [D.plain]) ?_
    refine WK ?_; try with_reducible exact trivial
    refine dapp (i := n2 + 1) (m := b.length) (l' := b.map bD) elB (l := f.2.1.map bD) (n := f.2.1.length) (by refine WK ?_; try with_reducible exact trivial) (DSrc.sl _ _ _) (by simp) bDs_done (by omega) (by omega) (by simp) ?_
    refine WK ?_; try with_reducible exact trivial
    have er : D.row 5 1 (f.2.1.length + b.length) (f.2.1.map bD ++ b.map bD) = bytesO (f.2.1 ++ b) := by simp only [bytesO, List.length_append, List.map_append]
    rw [er]
    have f3 := RT.only (r := [(n2 + 2, bytesO (f.2.1 ++ b)), (n2, .box t_disk_file [.h (n2 + 2), iD f.2.2]), (i, .box t_disk_Disk [.h n1, iD most]), (n1, .mp (namesV fs) ((fs.map fileO).set j (.hp n2 0)))]) [n2 + 2, n2, n1, i]
    simp -dsimp (disch := omega) only [rget_here, rget_there, rset_here, rset_there, rdel_here, rdel_there, rpick] at f3
    refine dret_rt (t' := .mk _) (RT.trans f3 (disk_back1 n (f.2.1 ++ b) f.2.2 hj hfe (by omega) (by omega) (by omega) (by omega) (by omega) (by omega))) ?_
    refine dret ⟨?_, ?_⟩ <;> simp only [appE, appF, hnm, hful, hfn, hgd, Bool.true_eq_false, if_false] <;> rfl
end Go.Proofs.Ytgpkbldlkadnjaa
end
section
/- Contracts over data: the disk, part 4. -/
set_option linter.unusedVariables false
set_option linter.unusedSimpArgs false
set_option maxHeartbeats 3000000
attribute [local irreducible] Go.Sl.Chk Go.Sl.Br Go.Sl.Or2 Go.Sl.Ld Go.Sl.Ldn Go.Sl.LdB Go.Sl.Stn Go.Sl.New Go.Sl.Run Go.Sl.RunU Go.Sl.RunX Go.Sl.Call Go.Sl.LoopK Go.Sl.RawK Go.Sl.Alt Go.Sl.Om Go.Sl.xpk Go.Sl.xgpk Go.Sl.xglk Go.Sl.DLd Go.Sl.DLdG Go.Sl.DBs Go.Sl.DCall Go.Sl.DApp Go.Sl.DGen Go.Sl.DGenU Go.Sl.DGC Go.Sl.DLoop Go.Sl.DRaw Go.Sl.DRet Go.Sl.Ent Go.Sl.dget Go.Sl.dv Go.Sl.ev Go.Sl.eget
namespace Go.Proofs.Ytgpkbldlkadnjaa
open Go Go.Sl Go.RowKit
theorem disk_app {a m i most : Nat} {fs : List FileS} (n b : Bs) (sy : Nat) (h1 : a ≠ m) (h2 : a ≠ i) (h3 : m ≠ i) :
  RT [(a, .box t_disk_file [bytesO b, iD sy]), (m, .mp (namesV fs ++ [strV n]) (fs.map fileO ++ [.hp a 0])), (i, .box t_disk_Disk [.h m, iD most])] [(i, diskO (fs ++ [(n, b, sy)]) most)] := by
 have hg2 : (fs.map fileO ++ [D.hp a 0])[fs.length]? = some (.hp a 0) := by rw [List.getElem?_append_right (by rw [List.length_map]; exact Nat.le_refl _), List.length_map, Nat.sub_self]; rfl
 have f2 := RT.fold (r := [(a, .box t_disk_file [bytesO b, iD sy]), (m, .mp (namesV fs ++ [strV n]) (fs.map fileO ++ [.hp a 0])), (i, .box t_disk_Disk [.h m, iD most])]) a m fs.length (d := .box t_disk_file [bytesO b, iD sy]) (c := .mp (namesV fs ++ [strV n]) (fs.map fileO ++ [.hp a 0])) (l := fs.map fileO ++ [.hp a 0]) (rget_here _ _ _) h1 (by rw [rget_there h1, rget_here]) rfl hg2
 have es : (fs.map fileO ++ [D.hp a 0]).set fs.length (.box t_disk_file [bytesO b, iD sy]) = (fs ++ [(n, b, sy)]).map fileO := by
  rw [List.set_append_right _ _ (by rw [List.length_map]; exact Nat.le_refl _), List.length_map, Nat.sub_self, List.map_append]
  rfl
 have en : namesV fs ++ [strV n] = namesV (fs ++ [(n, b, sy)]) := by unfold namesV; rw [List.map_append]; rfl
 simp only [withKids] at f2
 rw [es, rdel_here, rset_here] at f2
 have f4 := disk_back0 (m := m) (i := i) (most := most) (fs := fs ++ [(n, b, sy)]) h3
 rw [← en] at f4
 exact f2.trans f4
def renF (fs : List FileS) (a b : Bs) : List FileS :=
 if namedB a = false ∨ namedB b = false then fs else match findF fs a with
 | none => fs
 | some j => match findF (fs.eraseIdx j) b with
  | none => fs.eraseIdx j ++ [(b, (fs.getD j default).2)]
  | some k => (fs.eraseIdx j).set k (b, (fs.getD j default).2)
def renE (fs : List FileS) (a b : Bs) : Nat := if namedB a = false ∨ namedB b = false then 1 else noneE fs a
theorem rename_a (fs : List FileS) (most : Nat) (a b : Bs) (hs : Small1 fs) (ha : a.length ≤ 1000) (hb : b.length ≤ 1000) : DAct Try.prog f_disk_Disk_Rename (fun i => [.hp i 0, strD a, strD b]) (diskO fs most) (iD (renE fs a b)) (diskO (renF fs a b) most) := by
 intro i nx hi
 refine xcalls c_disk_Disk_Rename (by simp only [m_disk_Disk_Rename, List.length]; decide) ?_
 simp only [m_disk_Disk_Rename]; refine WK ?_; try with_reducible exact trivial
 refine dfun (named_d a) fun n1 h1 => ?_
 refine WK ?_; try with_reducible exact trivial
 cases hna : namedB a with
 | false =>
  refine dgc_f ?_
  refine WK ?_; try with_reducible exact trivial
  refine dret ⟨?_, ?_⟩ <;> simp only [renE, renF, hna, true_or, if_true] <;> rfl
 | true =>
  refine WK ?_; try with_reducible exact trivial
  refine dfun (named_d b) fun n2 h2 => ?_
  refine WK ?_; try with_reducible exact trivial
  cases hnb : namedB b with
  | false =>
   refine WK ?_; try with_reducible exact trivial
   refine dret ⟨?_, ?_⟩ <;> simp only [renE, renF, hnb, or_true, if_true] <;> rfl
  | true =>
   have hno : ¬ (namedB a = false ∨ namedB b = false) := by rw [hna, hnb]; simp
   rw [show [(i, diskO fs most)] = [(i, .box t_disk_Disk [.mp (namesV fs) (fs.map fileO), iD most])] from rfl]
   refine WK ?_; try with_reducible exact trivial
   cases hfn : findF fs a with
   | none =>
    refine dlook_no (i := n2) (ks := namesV fs) (l := fs.map fileO) (key := strV a) (by refine WK ?_; try with_reducible exact trivial) (by refine WK ?_; try with_reducible exact trivial) (rget_here _ _ _) kd9 Try.underlying175 (z := .pointer none) zero179 (key_str (by omega)) (small_keys hs) (findF_none hfn) ?_
    refine WK ?_; try with_reducible exact trivial
    refine dret_rt (t' := .mk _) (disk_back0 (by omega)) ?_
    refine dret ⟨?_, ?_⟩ <;> simp only [renE, renF, if_neg hno, hfn, noneE] <;> rfl
   | some j =>
    obtain ⟨f, hj, hfe⟩ := findF_some hfn
    have hgd : fs.getD j default = f := by rw [List.getD_eq_getElem?_getD, hj]; rfl
    have hlt := (List.getElem?_eq_some_iff.1 hj).1
    have hkj : (namesV fs)[j]? = some (strV a) := by unfold namesV; rw [List.getElem?_map, hj, ← hfe]; rfl
    have hs1 : Small1 (fs.eraseIdx j) := fun g hg => hs g (List.mem_of_mem_eraseIdx hg)
    have e1 : ∀ x : D, ((fs.map fileO).set j x).eraseIdx j = (fs.eraseIdx j).map fileO := fun x => by
     rw [List.eraseIdx_set_eq]; exact (erase_map fileO fs j).symm
    have e2 : (namesV fs).eraseIdx j = namesV (fs.eraseIdx j) := (erase_map (fun f : FileS => strV f.1) fs j).symm
    refine dlook_box (i := n2) (j := j) (ks := namesV fs) (l := fs.map fileO) (key := strV a) (eb := t_disk_file) (lc := [bytesO f.2.1, iD f.2.2]) (by refine WK ?_; try with_reducible exact trivial) (by refine WK ?_; try with_reducible exact trivial) (rget_here _ _ _) kd9 Try.underlying175 (key_str (by omega)) (small_keys hs) hkj (by rw [List.getElem?_map, hj]; rfl) ?_
    refine WK ?_; try with_reducible exact trivial
    refine dmapdel_tree (i := n2) (j := j) (ks := namesV fs) (l := (fs.map fileO).set j (.hp (n2 + 1) 0)) (key := strV a) (by refine WK ?_; try with_reducible exact trivial) (by refine WK ?_; try with_reducible exact trivial) (by rw [rget_there (by omega), rget_here]) kd9 Try.underlying175 (key_str (by omega)) (small_keys hs) hkj (List.getElem?_set_self (by rw [List.length_map]; exact hlt)) (by simp) ?_
    rw [e1, e2]
    refine WK ?_; try with_reducible exact trivial
    cases hfk : findF (fs.eraseIdx j) b with
    | none =>
     refine dmapput_no (i := n2) (ks := namesV (fs.eraseIdx j)) (l := (fs.eraseIdx j).map fileO) (key := strV b) (d := .hp (n2 + 1) 0) (by refine WK ?_; try with_reducible exact trivial) (by refine WK ?_; try with_reducible exact trivial) (by refine WK ?_; try with_reducible exact trivial) (by rw [rget_there (by omega), rget_here]) kd9 Try.underlying175 (key_str (by omega)) (small_keys hs1) (findF_none hfk) (by simp only [D.plain]) (by simp) ?_
     refine WK ?_; try with_reducible exact trivial
     refine dret_rt (t' := .mk _) (disk_app b f.2.1 f.2.2 (by omega) (by omega) (by omega)) ?_
     refine dret ⟨?_, ?_⟩ <;> simp only [renE, renF, if_neg hno, hfn, hfk, hgd, noneE] <;> rfl
    | some k =>
     obtain ⟨g, hk, hge⟩ := findF_some hfk
     refine dmapput_at (i := n2) (j := k) (ks := namesV (fs.eraseIdx j)) (l := (fs.eraseIdx j).map fileO) (key := strV b) (d := .hp (n2 + 1) 0) (d0 := fileO g) (by refine WK ?_; try with_reducible exact trivial) (by refine WK ?_; try with_reducible exact trivial) (by refine WK ?_; try with_reducible exact trivial) (by rw [rget_there (by omega), rget_here]) kd9 Try.underlying175 (key_str (by omega)) (small_keys hs1) (by unfold namesV; rw [List.getElem?_map, hk, ← hge]; rfl) (by rw [List.getElem?_map, hk]; rfl) (by simp only [D.plain]) (by simp) ?_
     refine WK ?_; try with_reducible exact trivial
     refine dret_rt (t' := .mk _) (disk_back b f.2.1 f.2.2 hk hge (by omega) (by omega) (by omega)) ?_
     refine dret ⟨?_, ?_⟩ <;> simp only [renE, renF, if_neg hno, hfn, hfk, hgd, noneE] <;> rfl
end Go.Proofs.Ytgpkbldlkadnjaa
end
section
/- Contracts over data: the disk, part 5: a copy. -/
set_option linter.unusedVariables false
set_option linter.unusedSimpArgs false
set_option maxHeartbeats 3000000
attribute [local irreducible] Go.Sl.Chk Go.Sl.Br Go.Sl.Or2 Go.Sl.Ld Go.Sl.Ldn Go.Sl.LdB Go.Sl.Stn Go.Sl.New Go.Sl.Run Go.Sl.RunU Go.Sl.RunX Go.Sl.Call Go.Sl.LoopK Go.Sl.RawK Go.Sl.Alt Go.Sl.Om Go.Sl.xpk Go.Sl.xgpk Go.Sl.xglk Go.Sl.DLd Go.Sl.DLdG Go.Sl.DBs Go.Sl.DCall Go.Sl.DApp Go.Sl.DGen Go.Sl.DGenU Go.Sl.DGC Go.Sl.DLoop Go.Sl.DRaw Go.Sl.DRet Go.Sl.Ent Go.Sl.dget Go.Sl.dv Go.Sl.ev Go.Sl.eget
namespace Go.Proofs.Ytgpkbldlkadnjaa
open Go Go.Sl Go.RowKit
set_option maxRecDepth 100000 in
theorem copy_a (fs : List FileS) (most : Nat) (hs : Small1 fs) (hm : most ≤ 65536) (hnd : (namesV fs).Nodup) {i nx : Nat} (hi : i < nx) : DCalls Try.prog f_disk_Disk_Copy [.hp i 0] [(i, diskO fs most)] nx (fun d ro nx' => ∃ k fs', nx ≤ k ∧ k < nx' ∧ d = .hp k 0 ∧ fs'.Perm fs ∧ ro = [(k, diskO fs' most), (i, diskO fs most)]) := by
 refine xcalls c_disk_Disk_Copy (by simp only [m_disk_Disk_Copy, List.length]; decide) ?_
 rw [show [(i, diskO fs most)] = [(i, .box t_disk_Disk [.mp (namesV fs) (fs.map fileO), iD most])] from rfl]
 simp only [m_disk_Disk_Copy]; refine WK ?_; try with_reducible exact trivial
 refine dnew (new_o most (by omega)) fun k n1 h1 h2 => ?_
 rw [show (min (max (most : Int) 0) 65536).toNat = most by omega, show diskO [] most = .box t_disk_Disk [.mp [] [], iD most] from rfl]
 refine WK ?_; try with_reducible exact trivial
 refine drange (im := n1) (ks := namesV fs) (l := fs.map fileO) (by refine WK ?_; try with_reducible exact trivial) (rget_here _ _ _) Try.underlying175 ?_
 refine WK ?_; try with_reducible exact trivial
 refine dloop [0, 3, 15] (fun s : List Nat × Nat => ([(0, .hp i 0), (3, .hp k 0), (15, .h (n1 + 1))], [(n1 + 1, .abs (ItA n1 (namesV fs) (fs.map fileO) s.1)), (k, diskO (s.1.map fun j => fs.getD j default) most), (i, .box t_disk_Disk [.h n1, iD most])], s.2)) (fun s => s.1.Nodup ∧ (∀ j ∈ s.1, j < fs.length) ∧ n1 + 1 < s.2) (fun s => fs.length - s.1.length) ([], n1 + 2) ⟨List.nodup_nil, by simp, by dsimp only; omega⟩ (Ent.of (by with_unfolding_all rfl) rfl) ?_
 rintro ⟨S, n⟩ ⟨hS, hSl, hn⟩
 dsimp only at hS hSl hn ⊢
 have hSlen : S.length ≤ fs.length := nodup_le hS hSl
 rw [show diskO (S.map fun j => fs.getD j default) most = .box t_disk_Disk [.mp (namesV (S.map fun j => fs.getD j default)) ((S.map fun j => fs.getD j default).map fileO), iD most] from rfl]
 refine WK ?_; try with_reducible exact trivial
 refine dnext (ni := n1 + 1) (im := n1) (ks := namesV fs) (l := fs.map fileO) (S := S) (by refine WK ?_; try with_reducible exact trivial) (rget_here _ _ _) (by simp) (fun hall => ?_) (fun j key hj hjS => ?_)
 ·refine WK ?_; try with_reducible exact trivial
  have hp : S.Perm (List.range fs.length) := perm_range hS hSl (fun j hj => hall j (by unfold namesV; rw [List.length_map]; exact hj))
  have hpf : (S.map fun j => fs.getD j default).Perm fs := by
   refine (hp.map _).trans (List.Perm.of_eq ?_)
   refine List.ext_getElem (by simp) fun q h1 h2 => ?_
   simp at h1
   simp [List.getD_eq_getElem?_getD, h1]
  generalize (S.map fun j => fs.getD j default) = fs' at hpf ⊢
  have f1 := RT.itdone (r := [(n1 + 1, .abs (ItA n1 (namesV fs) (fs.map fileO) S)), (k, .box t_disk_Disk [.mp (namesV fs') (fs'.map fileO), iD most]), (i, .box t_disk_Disk [.h n1, iD most])]) (n1 + 1) n1 (rget_here _ _ _)
  rw [rdel_here] at f1
  have f2 := RT.only (r := [(n1, .mp (namesV fs) (fs.map fileO)), (k, .box t_disk_Disk [.mp (namesV fs') (fs'.map fileO), iD most]), (i, .box t_disk_Disk [.h n1, iD most])]) [k, n1, i]
  simp -dsimp (disch := omega) only [rget_here, rget_there, rset_here, rset_there, rdel_here, rdel_there, rpick] at f2
  refine dret_rt (t' := .mk _) ((RT.trans f1 f2).trans (RT.cons _ (disk_back0 (by omega)))) ?_
  exact dret ⟨k, fs', by omega, by omega, rfl, hpf, rfl⟩
 ·have hjl : j < fs.length := by have := (List.getElem?_eq_some_iff.1 hj).1; unfold namesV at this; rwa [List.length_map] at this
  have hfj : fs[j]? = some fs[j] := List.getElem?_eq_getElem hjl
  have hgd : fs.getD j default = fs[j] := by rw [List.getD_eq_getElem?_getD, hfj]; rfl
  have hsf := hs fs[j] (List.getElem_mem hjl)
  refine WK ?_; try with_reducible exact trivial
  refine dentry_box (ni := n1 + 1) (im := n1) (j := j) (ks := namesV fs) (l := fs.map fileO) (S := S) (key := key) (eb := t_disk_file) (lc := [bytesO fs[j].2.1, iD fs[j].2.2]) (by refine WK ?_; try with_reducible exact trivial) (rget_here _ _ _) hj (by rw [List.getElem?_map, hfj]; rfl) ?_
  refine WK ?_; try with_reducible exact trivial
  refine lend_new (n + 2) (rget_here _ _ _) rfl (by simp -dsimp (disch := omega) only [↓MC.xwp, ↓xopsWp, ↓xdr, ↓MOp.xwp, dvs, dv, dvu, dvo, dvp, dgb, dGd, dBool, cond_true, cond_false, asFn, dget, dput, dput?, dead?, dres, ptr, bsc, cv, uo, uof, unopt, xpr, xdevr, xev0, cutK, cutN, xldk, xldn, xbsk, xst, xgp, glc, vExt, vFldA, vFld, vFad, vIxs, vIxa, vIxvA, vIxv, vSls, vLen, vPick, vNilc, vIsnil, dev0, devr, dsl, dif, dcells, dover, dbuild, scs, rowOf, strideOf, dtk, dtake, done1, pev, pbin, pint, pbool, pstr, psl, vnil, ↓thenD, ↓blockD, ↓retX, ↓xres, xcell, tupD, argD, dkeep, ckLive, kp, xdone, xheld, dstD, isLdM, ldOp, ldIds, ldSlots, selfOk, nb, dst1, inDone, allDone, apart, slotsApart, heldAll, heldOk, Op.operands, Nat.reduceAdd, forall_eq_or_imp, D.plain, reduceCtorEq, if_true, if_false, ↓reduceIte, ne_eq, Bool.cond_true, Bool.cond_false, forall_const, implies_true, forall_eq, Int.reduceEq, Int.reduceLT, Int.reduceLE, Int.reduceAdd, Int.reduceSub, Int.reduceMul, Int.reduceToNat, Nat.reduceMul, Nat.reduceLeDiff, Nat.reduceLT, Nat.reduceSub, Nat.reduceBEq, Nat.reduceEqDiff, matD, bytesD, iD, intsD, boolD, strD, bD, DB, List.map_cons, List.map_nil, dres]; exact clone_o fs[j].2.1 (by omega)) (bytesO_noZ _) fun c n2 g1 g2 => ?_
  have hkey : key = strV fs[j].1 := by
   unfold namesV at hj
   rw [List.getElem?_map, hfj] at hj
   exact (Option.some.inj hj).symm
  subst hkey
  have hnk : strV fs[j].1 ∉ namesV (S.map fun j => fs.getD j default) := by
   intro hmem
   unfold namesV at hmem
   rw [List.map_map] at hmem
   obtain ⟨q, hq, heq⟩ := List.mem_map.1 hmem
   have hql := hSl q hq
   have hqn : (namesV fs)[q]? = some (strV fs[j].1) := by
    unfold namesV
    rw [List.getElem?_map, List.getElem?_eq_getElem hql, ← heq]
    simp [List.getD_eq_getElem?_getD, hql]
   have := (List.getElem?_inj (by unfold namesV; rw [List.length_map]; exact hql) hnd).1 (hqn.trans hj.symm)
   subst this
   exact hjS hq
  have hsS : Small1 (S.map fun j => fs.getD j default) := fun g hg => by
   obtain ⟨q, hq, rfl⟩ := List.mem_map.1 hg
   have hql := hSl q hq
   rw [List.getD_eq_getElem?_getD, List.getElem?_eq_getElem hql]
   exact hs _ (List.getElem_mem hql)
  generalize hSg : (S.map fun j => fs.getD j default) = gs at hnk hsS ⊢
  refine WK ?_; try with_reducible exact trivial
  refine dmapput_no (i := n + 1) (ks := namesV gs) (l := gs.map fileO) (key := strV fs[j].1) (d := .hp n2 0) (by refine WK ?_; try with_reducible exact trivial) (by refine WK ?_; try with_reducible exact trivial) (by refine WK ?_; try with_reducible exact trivial) (by refine WK ?_; try with_reducible exact trivial) kd9 Try.underlying175 (key_str (by omega)) (small_keys hsS) hnk (by simp only [D.plain]) (by simp) ?_
  refine WK ?_; try with_reducible exact trivial
  have hS2 : (S ++ [j]).Nodup := List.nodup_append.2 ⟨hS, by simp, by simp only [List.mem_singleton]; rintro a ha b rfl e; exact hjS (e ▸ ha)⟩
  have hSl2 : ∀ q ∈ S ++ [j], q < fs.length := fun q hq => by
   rcases List.mem_append.1 hq with h | h
   ·exact hSl q h
   ·simp only [List.mem_singleton] at h; omega
  refine ⟨(S ++ [j], n2 + 1), ⟨hS2, hSl2, by dsimp only; omega⟩, by dsimp only; rw [List.length_append, List.length_singleton]; have := nodup_le hS2 hSl2; rw [List.length_append, List.length_singleton] at this; omega, ?_⟩
  dsimp only
  have hmap : (S ++ [j]).map (fun j => fs.getD j default) = gs ++ [fs[j]] := by rw [List.map_append, hSg, List.map_cons, List.map_nil, hgd]
  rw [hmap]
  generalize hb : fs[j].2.1 = b at *
  generalize hy : fs[j].2.2 = sy at *
  have g1' := RT.fold (r := [(n2, .box t_disk_file [.h c, iD sy]), (c, bytesO b), (n + 2, bytesO b), (n + 1, .mp (namesV gs ++ [strV fs[j].1]) (gs.map fileO ++ [.hp n2 0])), (n, .box t_disk_file [.h (n + 2), iD sy]), (n1 + 1, .abs (ItA n1 (namesV fs) ((fs.map fileO).set j (.hp n 0)) (S ++ [j]))), (k, .box t_disk_Disk [.h (n + 1), iD most]), (i, .box t_disk_Disk [.h n1, iD most])]) c n2 0 (d := bytesO b) (c := .box t_disk_file [.h c, iD sy]) (l := [.h c, iD sy]) (by repeat (first | exact rget_here _ _ _ | rw [rget_there (by omega)])) (by omega) (by repeat (first | exact rget_here _ _ _ | rw [rget_there (by omega)])) rfl rfl
  simp -dsimp (disch := omega) only [↓MC.xwp, ↓xopsWp, ↓xdr, ↓MOp.xwp, dvs, dv, dvu, dvo, dvp, dgb, dGd, dBool, cond_true, cond_false, asFn, dget, dput, dput?, dead?, dres, ptr, bsc, cv, uo, uof, unopt, xpr, xdevr, xev0, cutK, cutN, xldk, xldn, xbsk, xst, xgp, glc, vExt, vFldA, vFld, vFad, vIxs, vIxa, vIxvA, vIxv, vSls, vLen, vPick, vNilc, vIsnil, dev0, devr, dsl, dif, dcells, dover, dbuild, scs, rowOf, strideOf, dtk, dtake, done1, pev, pbin, pint, pbool, pstr, psl, vnil, ↓thenD, ↓blockD, ↓retX, ↓xres, xcell, tupD, argD, dkeep, ckLive, kp, xdone, xheld, dstD, isLdM, ldOp, ldIds, ldSlots, selfOk, nb, dst1, inDone, allDone, apart, slotsApart, heldAll, heldOk, Op.operands, Nat.reduceAdd, forall_eq_or_imp, D.plain, reduceCtorEq, if_true, if_false, ↓reduceIte, ne_eq, Bool.cond_true, Bool.cond_false, forall_const, implies_true, forall_eq, Int.reduceEq, Int.reduceLT, Int.reduceLE, Int.reduceAdd, Int.reduceSub, Int.reduceMul, Int.reduceToNat, Nat.reduceMul, Nat.reduceLeDiff, Nat.reduceLT, Nat.reduceSub, Nat.reduceBEq, Nat.reduceEqDiff, matD, bytesD, iD, intsD, boolD, strD, bD, DB, withKids, List.set_cons_zero] at g1'
  have g2' := RT.fold (r := [(n2, .box t_disk_file [bytesO b, iD sy]), (n + 2, bytesO b), (n + 1, .mp (namesV gs ++ [strV fs[j].1]) (gs.map fileO ++ [.hp n2 0])), (n, .box t_disk_file [.h (n + 2), iD sy]), (n1 + 1, .abs (ItA n1 (namesV fs) ((fs.map fileO).set j (.hp n 0)) (S ++ [j]))), (k, .box t_disk_Disk [.h (n + 1), iD most]), (i, .box t_disk_Disk [.h n1, iD most])]) (n + 2) n 0 (d := bytesO b) (c := .box t_disk_file [.h (n + 2), iD sy]) (l := [.h (n + 2), iD sy]) (by repeat (first | exact rget_here _ _ _ | rw [rget_there (by omega)])) (by omega) (by repeat (first | exact rget_here _ _ _ | rw [rget_there (by omega)])) rfl rfl
  simp -dsimp (disch := omega) only [↓MC.xwp, ↓xopsWp, ↓xdr, ↓MOp.xwp, dvs, dv, dvu, dvo, dvp, dgb, dGd, dBool, cond_true, cond_false, asFn, dget, dput, dput?, dead?, dres, ptr, bsc, cv, uo, uof, unopt, xpr, xdevr, xev0, cutK, cutN, xldk, xldn, xbsk, xst, xgp, glc, vExt, vFldA, vFld, vFad, vIxs, vIxa, vIxvA, vIxv, vSls, vLen, vPick, vNilc, vIsnil, dev0, devr, dsl, dif, dcells, dover, dbuild, scs, rowOf, strideOf, dtk, dtake, done1, pev, pbin, pint, pbool, pstr, psl, vnil, ↓thenD, ↓blockD, ↓retX, ↓xres, xcell, tupD, argD, dkeep, ckLive, kp, xdone, xheld, dstD, isLdM, ldOp, ldIds, ldSlots, selfOk, nb, dst1, inDone, allDone, apart, slotsApart, heldAll, heldOk, Op.operands, Nat.reduceAdd, forall_eq_or_imp, D.plain, reduceCtorEq, if_true, if_false, ↓reduceIte, ne_eq, Bool.cond_true, Bool.cond_false, forall_const, implies_true, forall_eq, Int.reduceEq, Int.reduceLT, Int.reduceLE, Int.reduceAdd, Int.reduceSub, Int.reduceMul, Int.reduceToNat, Nat.reduceMul, Nat.reduceLeDiff, Nat.reduceLT, Nat.reduceSub, Nat.reduceBEq, Nat.reduceEqDiff, matD, bytesD, iD, intsD, boolD, strD, bD, DB, withKids, List.set_cons_zero] at g2'
  have hbx : fileO fs[j] = .box t_disk_file [bytesO b, iD sy] := by rw [fileO, hb, hy]
  have g3' := RT.itfold (r := [(n2, .box t_disk_file [bytesO b, iD sy]), (n + 1, .mp (namesV gs ++ [strV fs[j].1]) (gs.map fileO ++ [.hp n2 0])), (n, .box t_disk_file [bytesO b, iD sy]), (n1 + 1, .abs (ItA n1 (namesV fs) ((fs.map fileO).set j (.hp n 0)) (S ++ [j]))), (k, .box t_disk_Disk [.h (n + 1), iD most]), (i, .box t_disk_Disk [.h n1, iD most])]) n (n1 + 1) n1 j (ks := namesV fs) (l := (fs.map fileO).set j (.hp n 0)) (S := S ++ [j]) (d := .box t_disk_file [bytesO b, iD sy]) (by repeat (first | exact rget_here _ _ _ | rw [rget_there (by omega)])) (by omega) (by repeat (first | exact rget_here _ _ _ | rw [rget_there (by omega)])) (List.getElem?_set_self (by rw [List.length_map]; exact hjl))
  have e1 : ((fs.map fileO).set j (.hp n 0)).set j (.box t_disk_file [bytesO b, iD sy]) = fs.map fileO := by
   rw [List.set_set, ← hbx]
   exact set_same (by rw [List.getElem?_map, hfj]; rfl)
  rw [e1] at g3'
  simp -dsimp (disch := omega) only [↓MC.xwp, ↓xopsWp, ↓xdr, ↓MOp.xwp, dvs, dv, dvu, dvo, dvp, dgb, dGd, dBool, cond_true, cond_false, asFn, dget, dput, dput?, dead?, dres, ptr, bsc, cv, uo, uof, unopt, xpr, xdevr, xev0, cutK, cutN, xldk, xldn, xbsk, xst, xgp, glc, vExt, vFldA, vFld, vFad, vIxs, vIxa, vIxvA, vIxv, vSls, vLen, vPick, vNilc, vIsnil, dev0, devr, dsl, dif, dcells, dover, dbuild, scs, rowOf, strideOf, dtk, dtake, done1, pev, pbin, pint, pbool, pstr, psl, vnil, ↓thenD, ↓blockD, ↓retX, ↓xres, xcell, tupD, argD, dkeep, ckLive, kp, xdone, xheld, dstD, isLdM, ldOp, ldIds, ldSlots, selfOk, nb, dst1, inDone, allDone, apart, slotsApart, heldAll, heldOk, Op.operands, Nat.reduceAdd, forall_eq_or_imp, D.plain, reduceCtorEq, if_true, if_false, ↓reduceIte, ne_eq, Bool.cond_true, Bool.cond_false, forall_const, implies_true, forall_eq, Int.reduceEq, Int.reduceLT, Int.reduceLE, Int.reduceAdd, Int.reduceSub, Int.reduceMul, Int.reduceToNat, Nat.reduceMul, Nat.reduceLeDiff, Nat.reduceLT, Nat.reduceSub, Nat.reduceBEq, Nat.reduceEqDiff, matD, bytesD, iD, intsD, boolD, strD, bD, DB] at g3'
  have hg2 : (gs.map fileO ++ [D.hp n2 0])[gs.length]? = some (.hp n2 0) := by rw [List.getElem?_append_right (by rw [List.length_map]; exact Nat.le_refl _), List.length_map, Nat.sub_self]; rfl
  have g4' := RT.fold (r := [(n2, .box t_disk_file [bytesO b, iD sy]), (n + 1, .mp (namesV gs ++ [strV fs[j].1]) (gs.map fileO ++ [.hp n2 0])), (n1 + 1, .abs (ItA n1 (namesV fs) (fs.map fileO) (S ++ [j]))), (k, .box t_disk_Disk [.h (n + 1), iD most]), (i, .box t_disk_Disk [.h n1, iD most])]) n2 (n + 1) gs.length (d := .box t_disk_file [bytesO b, iD sy]) (c := .mp (namesV gs ++ [strV fs[j].1]) (gs.map fileO ++ [.hp n2 0])) (l := gs.map fileO ++ [.hp n2 0]) (by repeat (first | exact rget_here _ _ _ | rw [rget_there (by omega)])) (by omega) (by repeat (first | exact rget_here _ _ _ | rw [rget_there (by omega)])) rfl hg2
  have es : (gs.map fileO ++ [D.hp n2 0]).set gs.length (.box t_disk_file [bytesO b, iD sy]) = (gs ++ [fs[j]]).map fileO := by
   rw [List.set_append_right _ _ (by rw [List.length_map]; exact Nat.le_refl _), List.length_map, Nat.sub_self, List.map_append, ← hbx]
   rfl
  have en : namesV gs ++ [strV fs[j].1] = namesV (gs ++ [fs[j]]) := by unfold namesV; rw [List.map_append]; rfl
  simp only [withKids] at g4'
  rw [es] at g4'
  simp -dsimp (disch := omega) only [↓MC.xwp, ↓xopsWp, ↓xdr, ↓MOp.xwp, dvs, dv, dvu, dvo, dvp, dgb, dGd, dBool, cond_true, cond_false, asFn, dget, dput, dput?, dead?, dres, ptr, bsc, cv, uo, uof, unopt, xpr, xdevr, xev0, cutK, cutN, xldk, xldn, xbsk, xst, xgp, glc, vExt, vFldA, vFld, vFad, vIxs, vIxa, vIxvA, vIxv, vSls, vLen, vPick, vNilc, vIsnil, dev0, devr, dsl, dif, dcells, dover, dbuild, scs, rowOf, strideOf, dtk, dtake, done1, pev, pbin, pint, pbool, pstr, psl, vnil, ↓thenD, ↓blockD, ↓retX, ↓xres, xcell, tupD, argD, dkeep, ckLive, kp, xdone, xheld, dstD, isLdM, ldOp, ldIds, ldSlots, selfOk, nb, dst1, inDone, allDone, apart, slotsApart, heldAll, heldOk, Op.operands, Nat.reduceAdd, forall_eq_or_imp, D.plain, reduceCtorEq, if_true, if_false, ↓reduceIte, ne_eq, Bool.cond_true, Bool.cond_false, forall_const, implies_true, forall_eq, Int.reduceEq, Int.reduceLT, Int.reduceLE, Int.reduceAdd, Int.reduceSub, Int.reduceMul, Int.reduceToNat, Nat.reduceMul, Nat.reduceLeDiff, Nat.reduceLT, Nat.reduceSub, Nat.reduceBEq, Nat.reduceEqDiff, matD, bytesD, iD, intsD, boolD, strD, bD, DB] at g4'
  have g5' := RT.fold (r := [(n + 1, .mp (namesV (gs ++ [fs[j]])) ((gs ++ [fs[j]]).map fileO)), (n1 + 1, .abs (ItA n1 (namesV fs) (fs.map fileO) (S ++ [j]))), (k, .box t_disk_Disk [.h (n + 1), iD most]), (i, .box t_disk_Disk [.h n1, iD most])]) (n + 1) k 0 (d := .mp (namesV (gs ++ [fs[j]])) ((gs ++ [fs[j]]).map fileO)) (c := .box t_disk_Disk [.h (n + 1), iD most]) (l := [.h (n + 1), iD most]) (by repeat (first | exact rget_here _ _ _ | rw [rget_there (by omega)])) (by omega) (by repeat (first | exact rget_here _ _ _ | rw [rget_there (by omega)])) rfl rfl
  simp -dsimp (disch := omega) only [↓MC.xwp, ↓xopsWp, ↓xdr, ↓MOp.xwp, dvs, dv, dvu, dvo, dvp, dgb, dGd, dBool, cond_true, cond_false, asFn, dget, dput, dput?, dead?, dres, ptr, bsc, cv, uo, uof, unopt, xpr, xdevr, xev0, cutK, cutN, xldk, xldn, xbsk, xst, xgp, glc, vExt, vFldA, vFld, vFad, vIxs, vIxa, vIxvA, vIxv, vSls, vLen, vPick, vNilc, vIsnil, dev0, devr, dsl, dif, dcells, dover, dbuild, scs, rowOf, strideOf, dtk, dtake, done1, pev, pbin, pint, pbool, pstr, psl, vnil, ↓thenD, ↓blockD, ↓retX, ↓xres, xcell, tupD, argD, dkeep, ckLive, kp, xdone, xheld, dstD, isLdM, ldOp, ldIds, ldSlots, selfOk, nb, dst1, inDone, allDone, apart, slotsApart, heldAll, heldOk, Op.operands, Nat.reduceAdd, forall_eq_or_imp, D.plain, reduceCtorEq, if_true, if_false, ↓reduceIte, ne_eq, Bool.cond_true, Bool.cond_false, forall_const, implies_true, forall_eq, Int.reduceEq, Int.reduceLT, Int.reduceLE, Int.reduceAdd, Int.reduceSub, Int.reduceMul, Int.reduceToNat, Nat.reduceMul, Nat.reduceLeDiff, Nat.reduceLT, Nat.reduceSub, Nat.reduceBEq, Nat.reduceEqDiff, matD, bytesD, iD, intsD, boolD, strD, bD, DB, withKids, List.set_cons_zero] at g5'
  rw [← en] at g5'
  refine (Ent.of_rt ((((RT.trans g1' g2').trans g3').trans g4').trans g5')).trans ?_
  rw [en]
  exact (Ent.of (by with_unfolding_all rfl) rfl)
end Go.Proofs.Ytgpkbldlkadnjaa
end
section
/- The walk over data: the keys of a map that is owned, sorted: slices.Sorted of maps.Keys, as the kit's contract has it. -/
set_option linter.unusedVariables false
set_option linter.unusedSimpArgs false
namespace Go.Sl
open Go.RowKit Go.Proofs
open Go.WideElems (rd rg Fit)
section
variable {E : En} {w w' : World} {Z Z' : Nat → Prop} {T T' : Nat → Option Value} {F : Nat → Nat} {r : Roots} {nx : Nat}
variable {P : Program} {held : List Nat} {e e' : Env} {de : DEnv} {K : D → Roots → Nat → Prop}
theorem Ok.newtree (h : Ok E w Z T F r nx) {v : Value} {d : D} {G : Nat → Nat} (hf : Fr No w w') (h1 : v.oneCell' = true) (hd : Ro w' Z (tset T nx v) d v G)
  (hG : ∀ b, G b ≤ 1 ∧ (0 < G b → w.heap.size ≤ b ∧ b < w'.heap.size)) (held : List Nat) : Ok E w' Z (tset T nx v) (fun b => G b + F b) ((nx, d) :: r) (nx + 1) ∧ Grow r w Z T w' Z (tset T nx v) held := by
 have hG0 : ∀ b, b < w.heap.size → G b = 0 := fun b hb => by
  rcases Nat.eq_zero_or_pos (G b) with h0 | h0
  ·exact h0
  ·have := ((hG b).2 h0).1; omega
 have hF0 : ∀ b, w.heap.size ≤ b → F b = 0 := fun b hb => by
  rcases Nat.eq_zero_or_pos (F b) with h0 | h0
  ·exact h0
  ·have := h.lt b h0; omega
 have hsame : ∀ b, b < w.heap.size → w'.heap[b]? = w.heap[b]? := fun b hb => hf.same b hb fun h => h
 have hT := tset_ext (v := v) (h.t nx (Nat.le_refl _))
 have hsz := hf.size
 refine ⟨⟨h.fr.then hf, h.z, h.zo, fun b hb => ?_, fun i u hu => hT i u (h.names i u hu), fun b => ?_, fun b hb => ?_, fun b hb => ?_, fun i hi => ?_, fun i u hu => ?_, Nat.le_succ_of_le h.ge, ?_⟩, ⟨fun b hb => hsame b (h.zlt b hb).1, fun b hb => hb, hT, ?_⟩⟩
 ·have := h.fo b hb
  have := h.fr.size
  rw [hG0 b (by omega)]
  omega
 ·have := h.one b
  have := (hG b).1
  rcases Nat.lt_or_ge b w.heap.size with hb | hb
  ·rw [hG0 b hb]; omega
  ·rw [hF0 b hb]; omega
 ·rcases Nat.lt_or_ge b w.heap.size with hb' | hb'
  ·omega
  ·rw [hF0 b hb'] at hb; exact ((hG b).2 (by omega)).2
 ·have := h.zlt b hb
  refine ⟨by omega, ?_⟩
  rw [hG0 b this.1]
  omega
 ·unfold tset
  rw [if_neg (by omega)]
  exact h.t i (by omega)
 ·unfold tset at hu
  by_cases e : i = nx
  ·rw [if_pos e] at hu; cases hu; exact h1
  ·rw [if_neg e] at hu; exact h.cell i u hu
 ·exact ⟨v, G, F, tset_same _ _ _, hd, h.roots.keep (fun _ h => h) hT fun b hb => hsame b (by
   rcases hb with hb | hb
   ·exact h.lt b hb
   ·exact (h.zlt b hb).1), fun b => rfl⟩
 ·intro i hi ho u b hu hbk
  obtain ⟨d', F1, F2, _, _, h3, h4, _⟩ := held_foot h.roots ho hu hbk
  exact hsame b (h.lt b (by rw [h3]; omega))
theorem dcall_low {f : FuncId} {ds : List D} {t : D} {tg : TagF K} (h : ∀ (w : World) (Z : Nat → Prop) (T : Nat → Option Value) (F : Nat → Nat) (vs : List Value), (∀ b, 0 < F b → b < w.heap.size) → RL w Z T r F → RsL w Z T ds vs →
  Calls P f vs.toArray w fun en w' => ∃ v, en = .returned v ∧ (Fr No w w' ∧ v.oneCell' = true ∧ ∀ T', ∃ G, Ro w' Z T' t v G ∧ ∀ b, G b ≤ 1 ∧ (0 < G b → w.heap.size ≤ b ∧ b < w'.heap.size)))
  (k : K (.h nx) ((nx, t) :: r) (nx + 1)) : DCall P f ds held r nx K tg := by
 intro E w Z T F vs ok hrs
 refine (h w Z T F vs (fun b hb => ok.lt b hb) ok.roots hrs).mono fun en w' ⟨v, he, hf, hc, hr⟩ => ?_
 obtain ⟨G, g1, g2⟩ := hr (tset T nx v)
 obtain ⟨o1, o2⟩ := ok.newtree hf hc g1 g2 held
 exact ⟨v, he, .h nx, _, nx + 1, Z, tset T nx v, _, o1, o2, by simp only [Rs]; exact tset_same _ _ _, k⟩
theorem Mp.owns {b : Nat} {ks us : List Value} {es : Array MapEntry} {clock : Nat} {kt : TypeId} (h : Mp w b ks us es clock) (hks : ∀ x ∈ ks, ∃ l, keyOf P kt x = some l) (hn : ks.length ≤ maxLen) :
  w.ownsMap (H := Unit) P kt (fun _ => some (.nil, [])) b ks.length (.map ((es.toList.map (rg P kt fun _ => some (.nil, []))).foldr DataW.insert [])) := by
 have hl : es.size = ks.length := by rw [← h.key]; simp
 refine ⟨es, clock, h.at_, ⟨by omega, ⟨h.old, h.born, by rw [h.key]; exact h.nodup⟩, fun x hx => ?_⟩, Nat.le_of_eq hl, rfl⟩
 obtain ⟨l, hl⟩ := h.keys hks x hx
 exact ⟨(l, .nil), by simp [rd, hl]⟩
theorem own_size {b n : Nat} {ks us : List Value} {es : Array MapEntry} {clock : Nat} {kt : TypeId} (h : Mp w b ks us es clock) : Maps.size (H := Unit) (.map ((es.toList.map (rg P kt fun _ => some (.nil, []))).foldr DataW.insert [])) = ks.length := by
 show ((es.toList.map _).foldr DataW.insert []).length = _
 rw [(WideShapes.sorted_perm _).length_eq, List.length_map, ← h.key, List.length_map]
theorem Mp.strKeys {b : Nat} {ns : List (List UInt8)} {us : List Value} {es : Array MapEntry} {clock : Nat} {kt : TypeId} (h : Mp w b (ns.map encStr) us es clock) (hks : ∀ x ∈ ns, keyOf P kt (encStr x) = some (.string x)) :
  (Go.strKeys (H := Unit) (.map ((es.toList.map (rg P kt fun _ => some (.nil, []))).foldr DataW.insert []))).Perm ns := by
 show (((es.toList.map _).foldr DataW.insert []).map _).Perm ns
 refine ((WideShapes.sorted_perm _).map _).trans (List.Perm.of_eq ?_)
 rw [List.map_map]
 have h1 : ∀ e ∈ es.toList, ∃ x, e.key = encStr x ∧ x ∈ ns := fun e he => by
  have : e.key ∈ ns.map encStr := by rw [← h.key]; exact List.mem_map.2 ⟨e, he, rfl⟩
  obtain ⟨x, hx, he'⟩ := List.mem_map.1 this
  exact ⟨x, he'.symm, hx⟩
 have hinj : Function.Injective encStr := fun x y => encStr_inj
 refine (List.map_inj_right (f := encStr) hinj).1 ?_
 rw [← h.key, List.map_map]
 refine List.map_congr_left fun e he => ?_
 obtain ⟨x, hx, hm⟩ := h1 e he
 simp only [Function.comp, rg, rd, hx, hks x hm, Option.map_some, Option.bind_some, Option.getD_some, strOf]
end
def SortedS (P : Program) (sf kf : FuncId) (kt : TypeId) : Prop := ∀ (w : World) (Bm b nn : Nat) (D0 : DataW Unit), Bm < w.heap.size → w.cell? ⟨Bm, 0, none⟩ = some (.map (some b)) → w.ownsMap P kt (fun _ => some (.nil, [])) b nn D0 → Maps.size D0 ≤ 1000000 →
 Calls P sf #[.func (.func kf) #[] #[.pointer (some ⟨Bm, 0, none⟩)]] w fun e w' => ∃ (v : Value) (ss : List (List UInt8)), e = .returned v ∧ ss.Perm (strKeys D0) ∧
  w'.ownsRow w.heap.size kt 1 v ss.length ((ss.mergeSort (fun x y => decide (x ≤ y))).map encStr) ∧ Below w.heap.size w w'
section
variable {E : En} {w w' : World} {Z Z' : Nat → Prop} {T T' : Nat → Option Value} {F : Nat → Nat} {r : Roots} {nx : Nat}
variable {P : Program} {held : List Nat} {e e' : Env} {de : DEnv} {K : D → Roots → Nat → Prop}
theorem row_new {base : Nat} {e : TypeId} {v : Value} {n : Nat} {vs : List Value} (h : w'.ownsRow base e 1 v n vs) (Z : Nat → Prop) (T' : Nat → Option Value) (hb : base ≤ w'.heap.size) :
  v.oneCell' = true ∧ ∃ G, Ro w' Z T' (.row e 1 n (vs.map .sc)) v G ∧ ∀ b, G b ≤ 1 ∧ (0 < G b → base ≤ b ∧ b < w'.heap.size) := by
 have ho := Ow.of_row h
 refine ⟨by rcases ho.2 with ⟨rfl, _⟩ | ⟨g, cap, cur, rfl, _⟩ <;> rfl, own v, ?_, fun b => ⟨own_le v b, fun hp => ?_⟩⟩
 ·simp only [Ro]
  exact ⟨vs, fun _ => 0, ho, RoL.of (RsL.sc vs), fun b => by simp only [Nat.zero_add]⟩
 ·rcases h.2 with ⟨rfl, _⟩ | ⟨g, cap, cur, rfl, hbase, hg, _⟩
  ·simp [own, blk] at hp
  ·have : g = b := by
    by_cases e : g = b
    ·exact e
    ·simp [own, blk, e] at hp
   subst this
   exact ⟨hbase, (Array.getElem?_eq_some_iff.1 hg).1⟩
theorem keys_open {c m : Nat} {tc : TypeId} {ks : List Value} {l : List D} (hr : RL w Z T r F) (hc : rget r c = some (.box tc [.h m])) (hm : rget r m = some (.mp ks l)) {u : Value} (hu : Rs w Z T (.hp c 0) u) (hlt : ∀ b, 0 < F b → b < w.heap.size) :
  ∃ Bm b us es clock, u = .pointer (some ⟨Bm, 0, none⟩) ∧ Bm < w.heap.size ∧ w.cell? ⟨Bm, 0, none⟩ = some (.map (some b)) ∧ Mp w b ks us es clock := by
 obtain ⟨Bm, x, Fx, rfl, hcell, hx⟩ := box_cell (v := undef) hr hc hu
 obtain ⟨hx, _⟩ := hx.rs (by simp only [D.plain])
 simp only [Rs] at hx
 obtain ⟨v, F1, F2, hT, ho, _⟩ := hr.get hm
 rw [hx] at hT
 cases hT
 simp only [Ro] at ho
 obtain ⟨b, us, F', rfl, ⟨es, clock, hmp⟩, _⟩ := ho
 exact ⟨Bm, b, us, es, clock, rfl, cell_block_lt hcell, hcell, hmp⟩
theorem dsortedS {sf kf : FuncId} {kt : TypeId} (hs : SortedS P sf kf kt) {c m : Nat} {tc : TypeId} {ns : List (List UInt8)} {l : List D} {tg : TagF K} (hc : rget r c = some (.box tc [.h m])) (hm : rget r m = some (.mp (ns.map encStr) l)) (hn : ns.length ≤ 1000000)
  (hks : ∀ x ∈ ns, keyOf P kt (encStr x) = some (.string x)) (k : K (.h nx) ((nx, .row kt 1 ns.length ((ns.mergeSort leB).map fun s => .sc (encStr s))) :: r) (nx + 1)) : DCall P sf [.fn kf [] [.hp c 0]] held r nx K tg := by
 refine dcall_low (t := .row kt 1 ns.length ((ns.mergeSort leB).map fun s => .sc (encStr s))) (fun w Z T F vs hlt hr hrs => ?_) k
 obtain ⟨v, rfl, hv⟩ := rsl1 hrs
 simp only [Rs] at hv
 obtain ⟨us, vs, rfl, h1, h2⟩ := hv
 simp only [RsL] at h1
 subst h1
 obtain ⟨u, rfl, hu⟩ := rsl1 h2
 obtain ⟨Bm, b, us, es, clock, rfl, hB, hcell, hmp⟩ := keys_open hr hc hm hu hlt
 have hks' : ∀ x ∈ ns.map encStr, ∃ l, keyOf P kt x = some l := fun x hx => by
  obtain ⟨y, hy, rfl⟩ := List.mem_map.1 hx
  exact ⟨_, hks y hy⟩
 refine (hs w Bm b _ _ hB hcell (hmp.owns hks' (by rw [List.length_map]; simp only [maxLen]; omega)) (by rw [own_size (n := 0) hmp, List.length_map]; exact hn)).mono ?_
 rintro e w' ⟨v, ss, rfl, hp, hrow, hb⟩
 have hp' := hp.trans (hmp.strKeys hks)
 rw [mergeSort_of_perm hp', hp'.length_eq] at hrow
 have hbs := hb.size
 obtain ⟨o1, -⟩ := row_new hrow Z T hbs
 refine ⟨v, rfl, Fr.of_below hb, o1, fun T' => ?_⟩
 obtain ⟨-, G, g1, g2⟩ := row_new hrow Z T' hbs
 rw [List.map_map] at g1
 exact ⟨G, g1, g2⟩
end
end Go.Sl
end
section
/- The kit's contracts on maps.Keys, slices.Sorted, slices.Sort, at this program (printed by wip/tool/mksort.py of this repo). -/
set_option linter.unusedVariables false
namespace Go.Proofs.Ytgpkbldlkadnjaa
open Go Go.RowKit Go.Maps Go.Sort Go.Shelf Go.Sl
def r_keysS : Ren := ⟨fun x => match x with
 | 7 => 143
 | 10 => 196
 | n => n, fun x => match x with
 | 23 => 175
 | 26 => 9
 | 3 => 179
 | 28 => 193
 | 0 => 0
 | 27 => 192
 | 33 => 178
 | 4 => 4
 | n => n, fun n => n⟩
set_option maxRecDepth 100000 in
theorem l_keysS : SlLaysZ.n7 Try.prog r_keysS where
 mixed := rfl
 f7 := ⟨"maps.Keys[map[string]*shardlog/disk.file,string,*shardlog/disk.file]", of_decide_eq_true rfl, Try.func143.trans (congrArg some rfl)⟩
 f10 := ⟨"maps.Keys[map[string]*shardlog/disk.file,string,*shardlog/disk.file]$1", of_decide_eq_true rfl, Try.func196.trans (congrArg some rfl)⟩
 t0 := Try.underlying0
 a0 := Try.isAgg0
 z0 := Try.sizeOf0
 v0 := Try.zeroValue0
 t4 := Try.underlying4
 a4 := Try.isAgg4
 z4 := Try.sizeOf4
 v4 := Try.zeroValue4
 t23 := Try.underlying175
 a23 := Try.isAgg175
 z23 := Try.sizeOf175
 v23 := Try.zeroValue175
 t26 := Try.underlying9
 a26 := Try.isAgg9
 z26 := Try.sizeOf9
 v26 := Try.zeroValue9
 t27 := Try.underlying192
 a27 := Try.isAgg192
 z27 := Try.sizeOf192
 v27 := Try.zeroValue192
 t28 := Try.underlying193
 a28 := Try.isAgg193
 z28 := Try.sizeOf193
 v28 := Try.zeroValue193
 t33 := Try.underlying178
 a33 := Try.isAgg178
 z33 := Try.sizeOf178
 v33 := Try.zeroValue178

def r_sortedS : Ren := ⟨fun x => match x with
 | 6 => 142
 | 8 => 194
 | 9 => 195
 | 11 => 235
 | 13 => 237
 | 12 => 236
 | 23 => 264
 | 24 => 265
 | 14 => 255
 | 15 => 256
 | 16 => 257
 | 17 => 258
 | 18 => 259
 | 19 => 260
 | 20 => 261
 | 21 => 262
 | 22 => 263
 | 25 => 281
 | 26 => 282
 | 27 => 283
 | 28 => 284
 | 29 => 285
 | 30 => 286
 | 31 => 299
 | n => n, fun x => match x with
 | 26 => 9
 | 28 => 193
 | 24 => 87
 | 0 => 0
 | 3 => 3
 | 37 => 147
 | 48 => 37
 | 50 => 189
 | 4 => 4
 | 40 => 325
 | 39 => 324
 | 45 => 330
 | 5 => 5
 | 9 => 9
 | 51 => 342
 | 55 => 346
 | 57 => 357
 | 58 => 358
 | 33 => 178
 | n => n, fun n => n⟩
set_option maxRecDepth 100000 in
theorem l_sortedS : SlLaysZ.n6 Try.prog r_sortedS where
 mixed := rfl
 f6 := ⟨"slices.Sorted[string]", of_decide_eq_true rfl, Try.func142.trans (congrArg some rfl)⟩
 f8 := ⟨"slices.Collect[string]", of_decide_eq_true rfl, Try.func194.trans (congrArg some rfl)⟩
 f11 := ⟨"slices.AppendSeq[[]string,string]", of_decide_eq_true rfl, Try.func235.trans (congrArg some rfl)⟩
 t0 := Try.underlying0
 a0 := Try.isAgg0
 z0 := Try.sizeOf0
 v0 := Try.zeroValue0
 t24 := Try.underlying87
 a24 := Try.isAgg87
 z24 := Try.sizeOf87
 v24 := Try.zeroValue87
 t26 := Try.underlying9
 a26 := Try.isAgg9
 z26 := Try.sizeOf9
 v26 := Try.zeroValue9
 t28 := Try.underlying193
 a28 := Try.isAgg193
 z28 := Try.sizeOf193
 v28 := Try.zeroValue193
 i26 := by kernel_rfl
def r_sortS : Ren := ⟨fun x => match x with
 | 6 => 195
 | 8 => 237
 | 9 => 236
 | 19 => 264
 | 20 => 265
 | 21 => 255
 | 22 => 256
 | 23 => 257
 | 24 => 258
 | 25 => 259
 | 26 => 260
 | 27 => 261
 | 28 => 262
 | 29 => 263
 | 36 => 281
 | 31 => 282
 | 32 => 283
 | 37 => 284
 | 38 => 285
 | 39 => 286
 | 41 => 299
 | n => n, fun x => match x with
 | 27 => 87
 | 29 => 9
 | 3 => 3
 | 32 => 147
 | 26 => 87
 | 0 => 0
 | 44 => 37
 | 46 => 189
 | 4 => 4
 | 36 => 325
 | 35 => 324
 | 41 => 330
 | 5 => 5
 | 9 => 9
 | 53 => 342
 | 57 => 346
 | 63 => 357
 | 64 => 358
 | n => n, fun n => n⟩
set_option maxRecDepth 100000 in
theorem l_sortS : SlLaysM.n6 Try.prog r_sortS where
 mixed := rfl
 f6 := ⟨"slices.Sort[[]string,string]", of_decide_eq_true rfl, Try.func195.trans (congrArg some rfl)⟩
 f8 := Try.func237.trans (congrArg some rfl)
 f9 := ⟨"slices.pdqsortOrdered[string]", of_decide_eq_true rfl, Try.func236.trans (congrArg some rfl)⟩
 f19 := Try.func264.trans (congrArg some rfl)
 f20 := Try.func265.trans (congrArg some rfl)
 f21 := ⟨"slices.insertionSortOrdered[string]", of_decide_eq_true rfl, Try.func255.trans (congrArg some rfl)⟩
 f22 := ⟨"slices.heapSortOrdered[string]", of_decide_eq_true rfl, Try.func256.trans (congrArg some rfl)⟩
 f23 := ⟨"slices.breakPatternsOrdered[string]", of_decide_eq_true rfl, Try.func257.trans (congrArg some rfl)⟩
 f24 := ⟨"slices.choosePivotOrdered[string]", of_decide_eq_true rfl, Try.func258.trans (congrArg some rfl)⟩
 f25 := ⟨"slices.reverseRangeOrdered[string]", of_decide_eq_true rfl, Try.func259.trans (congrArg some rfl)⟩
 f26 := ⟨"slices.partialInsertionSortOrdered[string]", of_decide_eq_true rfl, Try.func260.trans (congrArg some rfl)⟩
 f27 := ⟨"cmp.Less[string]", of_decide_eq_true rfl, Try.func261.trans (congrArg some rfl)⟩
 f28 := ⟨"slices.partitionEqualOrdered[string]", of_decide_eq_true rfl, Try.func262.trans (congrArg some rfl)⟩
 f29 := ⟨"slices.partitionOrdered[string]", of_decide_eq_true rfl, Try.func263.trans (congrArg some rfl)⟩
 f31 := Try.func282.trans (congrArg some rfl)
 f32 := Try.func283.trans (congrArg some rfl)
 f36 := ⟨"slices.siftDownOrdered[string]", of_decide_eq_true rfl, Try.func281.trans (congrArg some rfl)⟩
 f37 := ⟨"slices.medianAdjacentOrdered[string]", of_decide_eq_true rfl, Try.func284.trans (congrArg some rfl)⟩
 f38 := ⟨"slices.medianOrdered[string]", of_decide_eq_true rfl, Try.func285.trans (congrArg some rfl)⟩
 f39 := ⟨"cmp.isNaN[string]", of_decide_eq_true rfl, Try.func286.trans (congrArg some rfl)⟩
 f41 := ⟨"slices.order2Ordered[string]", of_decide_eq_true rfl, Try.func299.trans (congrArg some rfl)⟩
 t0 := Try.underlying0
 a0 := Try.isAgg0
 z0 := Try.sizeOf0
 v0 := Try.zeroValue0
 t3 := Try.underlying3
 a3 := Try.isAgg3
 z3 := Try.sizeOf3
 v3 := Try.zeroValue3
 t4 := Try.underlying4
 a4 := Try.isAgg4
 z4 := Try.sizeOf4
 v4 := Try.zeroValue4
 t5 := Try.underlying5
 a5 := Try.isAgg5
 z5 := Try.sizeOf5
 v5 := Try.zeroValue5
 t9 := Try.underlying9
 a9 := Try.isAgg9
 z9 := Try.sizeOf9
 v9 := Try.zeroValue9
 t26 := Try.underlying87
 a26 := Try.isAgg87
 z26 := Try.sizeOf87
 v26 := Try.zeroValue87
 t27 := Try.underlying87
 a27 := Try.isAgg87
 z27 := Try.sizeOf87
 v27 := Try.zeroValue87
 t29 := Try.underlying9
 a29 := Try.isAgg9
 z29 := Try.sizeOf9
 v29 := Try.zeroValue9
 t32 := Try.underlying147
 a32 := Try.isAgg147
 z32 := Try.sizeOf147
 v32 := Try.zeroValue147
 t35 := Try.underlying324
 a35 := Try.isAgg324
 z35 := Try.sizeOf324
 v35 := Try.zeroValue324
 t36 := Try.underlying325
 a36 := Try.isAgg325
 z36 := Try.sizeOf325
 v36 := Try.zeroValue325
 t41 := Try.underlying330
 a41 := Try.isAgg330
 z41 := Try.sizeOf330
 v41 := Try.zeroValue330
 t44 := Try.underlying37
 a44 := Try.isAgg37
 z44 := Try.sizeOf37
 v44 := Try.zeroValue37
 t46 := Try.underlying189
 a46 := Try.isAgg189
 z46 := Try.sizeOf189
 v46 := Try.zeroValue189
 t53 := Try.underlying342
 a53 := Try.isAgg342
 z53 := Try.sizeOf342
 v53 := Try.zeroValue342
 t57 := Try.underlying346
 a57 := Try.isAgg346
 z57 := Try.sizeOf346
 v57 := Try.zeroValue346
 t63 := Try.underlying357
 a63 := Try.isAgg357
 z63 := Try.sizeOf357
 v63 := Try.zeroValue357
 t64 := Try.underlying358
 a64 := Try.isAgg358
 z64 := Try.sizeOf358
 v64 := Try.zeroValue358

theorem sorts_S (m : Nat) : AnyZ.SortsIn Try.prog r_sortedS Fence.wide m :=
 ⟨fun blk off cap ss W hH hblk hsz => callsIn_wide.2 (AnyM.slices_Sort_string l_sortS blk off cap ss W hH hblk hsz),
  fun p cap W => callsIn_wide.2 (AnyM.slices_Sort_string_none l_sortS p cap W)⟩
set_option maxHeartbeats 1000000 in
theorem sorted_S : SortedS Try.prog 142 196 9 := by
 intro w Bm b nn D0 hB hc hown hmax
 have hseq : SeqGives Fence.wide 2 Try.prog 196 #[.pointer (some ⟨Bm, 0, none⟩)] encStr (fun ss => ss.Perm (strKeys D0)) (Maps.size D0) w :=
  AnyZ.keys_gives (ρ := r_keysS) { l_keysS with } Fence.wide _ trivial rfl (by omega) Bm b nn D0 w hB hc hown
 refine (callsIn_wide (n := 5)).1 ((AnyZ.sorted_in l_sortedS Fence.wide 5 trivial trivial trivial trivial rfl (by omega) (sorts_S _) (enters_of Try.func195 (by kernel_rfl) rfl) 196 #[.pointer (some ⟨Bm, 0, none⟩)] trivial (enters_of Try.func196 (by kernel_rfl) rfl) _ _ (by simp only [maxLen]; omega) (by omega) _ hseq).mono ?_)
 rintro e w' ⟨v, ss, he, hS, hrow, hnil, hb⟩
 exact ⟨v, ss, he, hS, hrow, hb⟩
end Go.Proofs.Ytgpkbldlkadnjaa
end
section
/- Contracts over data: the disk: Names. -/
set_option linter.unusedVariables false
set_option linter.unusedSimpArgs false
set_option maxHeartbeats 3000000
attribute [local irreducible] Go.Sl.Chk Go.Sl.Br Go.Sl.Or2 Go.Sl.Ld Go.Sl.Ldn Go.Sl.LdB Go.Sl.Stn Go.Sl.New Go.Sl.Run Go.Sl.RunU Go.Sl.RunX Go.Sl.Call Go.Sl.LoopK Go.Sl.RawK Go.Sl.Alt Go.Sl.Om Go.Sl.xpk Go.Sl.xgpk Go.Sl.xglk Go.Sl.DLd Go.Sl.DLdG Go.Sl.DBs Go.Sl.DCall Go.Sl.DApp Go.Sl.DGen Go.Sl.DGenU Go.Sl.DGC Go.Sl.DLoop Go.Sl.DRaw Go.Sl.DRet Go.Sl.Ent Go.Sl.dget Go.Sl.dv Go.Sl.ev Go.Sl.eget
namespace Go.Proofs.Ytgpkbldlkadnjaa
open Go Go.Sl Go.RowKit
def strsO (l : List Bs) : D := .row tStr 1 l.length (l.map strD)
def namesL (fs : List FileS) : List Bs := (fs.map fun f => f.1).mergeSort leB
theorem namesL_len (fs : List FileS) : (namesL fs).length = fs.length := by unfold namesL; rw [List.length_mergeSort, List.length_map]
theorem keys_d (m : Nat) : DNew Try.prog f_maps_Keys [.h m] (fun i => .fn f_maps_Keys_1 [] [.hp i 0]) (.box 175 [.h m]) := by
 intro nx
 refine xcalls c_maps_Keys (by simp only [m_maps_Keys, List.length]; decide) ?_
 simp -dsimp (disch := omega) only [↓MC.xwp, ↓xopsWp, ↓xdr, ↓MOp.xwp, dvs, dv, dvu, dvo, dvp, dgb, dGd, dBool, cond_true, cond_false, asFn, dget, dput, dput?, dead?, dres, ptr, bsc, cv, uo, uof, unopt, xpr, xdevr, xev0, cutK, cutN, xldk, xldn, xbsk, xst, xgp, glc, vExt, vFldA, vFld, vFad, vIxs, vIxa, vIxvA, vIxv, vSls, vLen, vPick, vNilc, vIsnil, dev0, devr, dsl, dif, dcells, dover, dbuild, scs, rowOf, strideOf, dtk, dtake, done1, pev, pbin, pint, pbool, pstr, psl, vnil, ↓thenD, ↓blockD, ↓retX, ↓xres, xcell, tupD, argD, dkeep, ckLive, kp, xdone, xheld, dstD, isLdM, ldOp, ldIds, ldSlots, selfOk, nb, dst1, inDone, allDone, apart, slotsApart, heldAll, heldOk, Op.operands, Nat.reduceAdd, forall_eq_or_imp, D.plain, reduceCtorEq, if_true, if_false, ↓reduceIte, ne_eq, Bool.cond_true, Bool.cond_false, forall_const, implies_true, forall_eq, Int.reduceEq, Int.reduceLT, Int.reduceLE, Int.reduceAdd, Int.reduceSub, Int.reduceMul, Int.reduceToNat, Nat.reduceMul, Nat.reduceLeDiff, Nat.reduceLT, Nat.reduceSub, Nat.reduceBEq, Nat.reduceEqDiff, matD, bytesD, iD, intsD, boolD, strD, bD, DB, m_maps_Keys, rget]
 exact dret ⟨nx, by omega, by omega, rfl, rfl⟩
theorem names_a (fs : List FileS) (most : Nat) (hs : Small1 fs) (hl : fs.length ≤ 1000000) : DActN Try.prog f_disk_Disk_Names (fun i => [.hp i 0]) (diskO fs most) (fun k => .h k) (strsO (namesL fs)) (diskO fs most) := by
 intro i nx hi
 refine xcalls c_disk_Disk_Names (by simp only [m_disk_Disk_Names, List.length]; decide) ?_
 rw [show [(i, diskO fs most)] = [(i, .box t_disk_Disk [.mp (namesV fs) (fs.map fileO), iD most])] from rfl]
 simp only [m_disk_Disk_Names]; refine WK ?_; try with_reducible exact trivial
 refine dnew (keys_d nx) fun c n1 h1 h2 => ?_
 refine WK ?_; try with_reducible exact trivial
 refine dsortedS sorted_S (c := c) (m := nx) (ns := fs.map fun f => f.1) (rget_here _ _ _) (by rw [rget_there (by omega), rget_here, List.map_map]; rfl) (by rw [List.length_map]; exact hl) (fun x hx => ?_) ?_
 ·obtain ⟨f, hf, rfl⟩ := List.mem_map.1 hx
  exact key_str (by have := (hs f hf).1; omega)
 ·refine WK ?_; try with_reducible exact trivial
  have hd := RT.del (r := [(n1, strsO (namesL fs)), (c, .box 175 [.h nx]), (nx, .mp (namesV fs) (fs.map fileO)), (i, .box t_disk_Disk [.h nx, iD most])]) c
  rw [rdel_there (by omega), rdel_here] at hd
  have e : D.row 9 1 fs.length (((fs.map fun f => f.1).mergeSort leB).map fun s => D.sc (encStr s)) = strsO (namesL fs) := by unfold strsO; rw [namesL_len]; rfl
  rw [e]
  exact dret_rt (t' := .mk _) (hd.trans (RT.cons _ (disk_back0 (by omega)))) (dret ⟨n1, by omega, by omega, rfl, rfl⟩)
end Go.Proofs.Ytgpkbldlkadnjaa
end
section
/- Contracts over data: what a log says. -/
set_option linter.unusedVariables false
set_option linter.unusedSimpArgs false
set_option maxHeartbeats 3000000
attribute [local irreducible] Go.Sl.Chk Go.Sl.Br Go.Sl.Or2 Go.Sl.Ld Go.Sl.Ldn Go.Sl.LdB Go.Sl.Stn Go.Sl.New Go.Sl.Run Go.Sl.RunU Go.Sl.RunX Go.Sl.Call Go.Sl.LoopK Go.Sl.RawK Go.Sl.Alt Go.Sl.Om Go.Sl.xpk Go.Sl.xgpk Go.Sl.xglk Go.Sl.DLd Go.Sl.DLdG Go.Sl.DBs Go.Sl.DCall Go.Sl.DApp Go.Sl.DGen Go.Sl.DGenU Go.Sl.DGC Go.Sl.DLoop Go.Sl.DRaw Go.Sl.DRet Go.Sl.Ent Go.Sl.dget Go.Sl.dv Go.Sl.ev Go.Sl.eget
namespace Go.Proofs.Ytgpkbldlkadnjaa
open Go Go.Sl Go.RowKit
instance : Inhabited VoteS := ⟨zeroV⟩
def okR : RecS → Bool
 | .bad => false
 | _ => true
end Go.Proofs.Ytgpkbldlkadnjaa
end
section
/- Contracts over data: what a log says: sorted, scan. -/
set_option linter.unusedVariables false
set_option linter.unusedSimpArgs false
set_option maxHeartbeats 3000000
attribute [local irreducible] Go.Sl.Chk Go.Sl.Br Go.Sl.Or2 Go.Sl.Ld Go.Sl.Ldn Go.Sl.LdB Go.Sl.Stn Go.Sl.New Go.Sl.Run Go.Sl.RunU Go.Sl.RunX Go.Sl.Call Go.Sl.LoopK Go.Sl.RawK Go.Sl.Alt Go.Sl.Om Go.Sl.xpk Go.Sl.xgpk Go.Sl.xglk Go.Sl.DLd Go.Sl.DLdG Go.Sl.DBs Go.Sl.DCall Go.Sl.DApp Go.Sl.DGen Go.Sl.DGenU Go.Sl.DGC Go.Sl.DLoop Go.Sl.DRaw Go.Sl.DRet Go.Sl.Ent Go.Sl.dget Go.Sl.dv Go.Sl.ev Go.Sl.eget
namespace Go.Proofs.Ytgpkbldlkadnjaa
open Go Go.Sl Go.RowKit
end Go.Proofs.Ytgpkbldlkadnjaa
end
section
/- Contracts over data: a number's distance from 0. -/
set_option linter.unusedVariables false
set_option linter.unusedSimpArgs false
set_option maxHeartbeats 3000000
attribute [local irreducible] Go.Sl.Chk Go.Sl.Br Go.Sl.Or2 Go.Sl.Ld Go.Sl.Ldn Go.Sl.LdB Go.Sl.Stn Go.Sl.New Go.Sl.Run Go.Sl.RunU Go.Sl.RunX Go.Sl.Call Go.Sl.LoopK Go.Sl.RawK Go.Sl.Alt Go.Sl.Om Go.Sl.xpk Go.Sl.xgpk Go.Sl.xglk Go.Sl.DLd Go.Sl.DLdG Go.Sl.DBs Go.Sl.DCall Go.Sl.DApp Go.Sl.DGen Go.Sl.DGenU Go.Sl.DGC Go.Sl.DLoop Go.Sl.DRaw Go.Sl.DRet Go.Sl.Ent Go.Sl.dget Go.Sl.dv Go.Sl.ev Go.Sl.eget
namespace Go.Proofs.Ytgpkbldlkadnjaa
open Go Go.Sl Go.RowKit
end Go.Proofs.Ytgpkbldlkadnjaa
end
section
/- Contracts over data: the disk: Crash. -/
set_option linter.unusedVariables false
set_option linter.unusedSimpArgs false
set_option maxHeartbeats 3000000
attribute [local irreducible] Go.Sl.Chk Go.Sl.Br Go.Sl.Or2 Go.Sl.Ld Go.Sl.Ldn Go.Sl.LdB Go.Sl.Stn Go.Sl.New Go.Sl.Run Go.Sl.RunU Go.Sl.RunX Go.Sl.Call Go.Sl.LoopK Go.Sl.RawK Go.Sl.Alt Go.Sl.Om Go.Sl.xpk Go.Sl.xgpk Go.Sl.xglk Go.Sl.DLd Go.Sl.DLdG Go.Sl.DBs Go.Sl.DCall Go.Sl.DApp Go.Sl.DGen Go.Sl.DGenU Go.Sl.DGC Go.Sl.DLoop Go.Sl.DRaw Go.Sl.DRet Go.Sl.Ent Go.Sl.dget Go.Sl.dv Go.Sl.ev Go.Sl.eget
namespace Go.Proofs.Ytgpkbldlkadnjaa
open Go Go.Sl Go.RowKit
def crash1 (f : FileS) (keep : List Int) : FileS × List Int :=
 if f.2.1.length = f.2.2 then (f, keep) else match keep with
 | [] => ((f.1, f.2.1.take f.2.2, f.2.2), [])
 | k :: ks => ((f.1, f.2.1.take (f.2.2 + k.natAbs % (f.2.1.length - f.2.2 + 1)), f.2.2 + k.natAbs % (f.2.1.length - f.2.2 + 1)), ks)
def crashN : List Bs → List FileS → List Int → List FileS
 | [], fs, _ => fs
 | n :: ns, fs, keep => match findF fs n with
  | none => crashN ns fs keep
  | some j => crashN ns (fs.set j (crash1 (fs.getD j default) keep).1) (crash1 (fs.getD j default) keep).2
def crashF (fs : List FileS) (keep : List Int) : List FileS := crashN (namesL fs) fs keep
def Synced1 (fs : List FileS) : Prop := ∀ f ∈ fs, f.2.2 ≤ f.2.1.length
def Keep1 (keep : List Int) : Prop := ∀ k ∈ keep, -9223372036854775808 ≤ k ∧ k ≤ 9223372036854775807
theorem crash1_name (f : FileS) (keep : List Int) : (crash1 f keep).1.1 = f.1 := by
 unfold crash1
 split
 ·rfl
 ·cases keep <;> rfl
theorem small_set {fs : List FileS} {j : Nat} {f : FileS} (h : Small1 fs) (hf : f.1.length ≤ 1000 ∧ f.2.1.length ≤ 1000000) : Small1 (fs.set j f) := fun g hg => by
 rcases List.mem_or_eq_of_mem_set hg with h1 | rfl
 ·exact h g h1
 ·exact hf
theorem sync_set {fs : List FileS} {j : Nat} {f : FileS} (h : Synced1 fs) (hf : f.2.2 ≤ f.2.1.length) : Synced1 (fs.set j f) := fun g hg => by
 rcases List.mem_or_eq_of_mem_set hg with h1 | rfl
 ·exact h g h1
 ·exact hf
theorem set_names {fs : List FileS} {j : Nat} {f : FileS} {x : Bs × Nat} (hj : fs[j]? = some f) : ((fs.set j (f.1, x)).map fun f => f.1) = fs.map fun f => f.1 := by
 rw [List.map_set]
 exact set_same (by rw [List.getElem?_map, hj]; rfl)
end Go.Proofs.Ytgpkbldlkadnjaa
end
section
/- The walk over data: bytes of a constant string: the row is marked, and never written again. -/
set_option linter.unusedVariables false
set_option linter.unusedSimpArgs false
namespace Go.Sl
open Go.RowKit
section
variable {E : En} {w w' : World} {Z Z' : Nat → Prop} {T T' : Nat → Option Value} {F : Nat → Nat} {r : Roots} {nx : Nat}
variable {P : Program} {held : List Nat} {e e' : Env} {de : DEnv} {K : D → Roots → Nat → Prop}
end
end Go.Sl
end
