/- Functions of the program in the small code (printed by wip/tool/Print.lean and mkmf2.py of this repo), each with its equation, held by the kernel. -/
import Derived.Test.YtgpkbldlkadnjaaGreatJ3
import Derived.Test.YtgpkbldlkadnjaaGreatJ1
import Derived.Test.YtgpkbldlkadnjaaGreatJ2
import Derived.Carry
import Derived.ChangeMaps5
import Derived.Maps.RangeRun
set_option linter.unusedVariables false
set_option linter.unusedSimpArgs false
section
namespace Go.Proofs.YtgpkbldlkadnjaaGreat
open Go Go.Sl
-- 11 shardlog/shardloglaw18.awake; Ae [(1, d), (2, l), (3, v), (4, e), (5, f), (6, g), (7, m)]
noncomputable def m_law18_awake : MF := ⟨60, [.t 0],
 .seq (
 .ops [
 .p 0 .mv [(.const (.bool false))]]) (
 .seq (
 .ops [
 .call (some 8) LZ [(.const (.int .i64 1000))],
 .p 1 .mv [(.tmp 8)]]) (
 .seq (
 .seq (
 .ops [
 .p 9 .mv [(.tmp 1)],
 .p 10 (.isnil .pt false) [(.tmp 9)]]) (
 .cond (.tmp 10) (
 .seq (
 .ops [
 .p 0 .mv [(.const (.bool false))]]) (
 .ret)) (
 .skip))) (
 .seq (
 .ops [
 .p 11 .mv [(.tmp 1)],
 .call (some 12) IM [(.tmp 11)],
 .p 2 .mv [(.tmp 12)]]) (
 .seq (
 .seq (
 .ops [
 .p 13 .mv [(.tmp 2)],
 .p 14 (.isnil .pt false) [(.tmp 13)]]) (
 .cond (.tmp 14) (
 .seq (
 .ops [
 .p 0 .mv [(.const (.bool false))]]) (
 .ret)) (
 .skip))) (
 .seq (
 .ops [
 .p 15 (.build [(.int .i64 0), (.int .i64 0), (.int .i64 0), (.bool false), (.string .empty)] [(0, 1), (1, 1), (2, 1), (4, 1)]) [(.const (.int .i64 1)), (.const (.int .i64 9)), (.const (.int .i64 9)), (.const (.string ⟨#[120]⟩))],
 .new 3 Ah [(.int .i64 0), (.int .i64 0), (.int .i64 0), (.bool false), (.string .empty)],
 .st 5 true (.tmp 3) (.tmp 15)]) (
 .seq (
 .ops [
 .p 16 .mv [(.tmp 2)],
 .call (some 17) EO [(.tmp 16), (.const (.int .i64 3))],
 .p 4 .mv [(.tmp 17)]]) (
 .seq (
 .ops [
 .p 18 .mv [(.tmp 2)],
 .ldn 19 5 (.tmp 3),
 .call (some 20) Io [(.tmp 18), (.tmp 19)],
 .p 5 .mv [(.tmp 20)]]) (
 .seq (
 .ops [
 .p 21 .mv [(.tmp 2)],
 .call (some 22) EO [(.tmp 21), (.const (.int .i64 9))],
 .p 6 .mv [(.tmp 22)]]) (
 .seq (
 .ops [
 .p 23 .mv [(.tmp 1)],
 .call (some 24) IM [(.tmp 23)],
 .p 7 .mv [(.tmp 24)]]) (
 .seq (
 .ops [
 .p 25 .mv [(.tmp 4)],
 .p 26 (.bin .eql) [(.tmp 25), (.const (.int .i64 0))],
 .p 27 .mv [(.tmp 26)],
 .gd 27 true (some 28) (.p 28 .mv [(.tmp 5)]),
 .gd 27 true (some 29) (.p 29 (.bin .eql) [(.tmp 28), (.const (.int .i64 0))]),
 .p 30 .pick [(.tmp 27), (.tmp 29), (.const (.bool false))],
 .p 31 .mv [(.tmp 30)],
 .gd 31 true (some 32) (.p 32 .mv [(.tmp 6)]),
 .gd 31 true (some 33) (.p 33 (.bin .eql) [(.tmp 32), (.const (.int .i64 1))]),
 .p 34 .pick [(.tmp 31), (.tmp 33), (.const (.bool false))],
 .p 35 .mv [(.tmp 34)],
 .gd 35 true (some 36) (.p 36 .mv [(.tmp 7)]),
 .gd 35 true (some 37) (.p 37 (.isnil .pt true) [(.tmp 36)]),
 .p 38 .pick [(.tmp 35), (.tmp 37), (.const (.bool false))],
 .p 39 .mv [(.tmp 38)],
 .gd 39 true (some 40) (.p 40 .mv [(.tmp 7)]),
 .gd 39 true (some 41) (.call (some 41) Fh [(.tmp 40)]),
 .gd 39 true (some 42) (.p 42 (.bin .eql) [(.tmp 41), (.const (.int .i64 9))]),
 .p 43 .pick [(.tmp 39), (.tmp 42), (.const (.bool false))],
 .p 44 .mv [(.tmp 43)],
 .gd 44 true (some 45) (.p 45 .mv [(.tmp 7)]),
 .gd 44 true (some 46) (.call (some 46) FH [(.tmp 45)]),
 .gd 44 true (some 47) (.p 47 .len [(.tmp 46)]),
 .gd 44 true (some 48) (.p 48 (.bin .eql) [(.tmp 47), (.const (.int .i64 1))]),
 .p 49 .pick [(.tmp 44), (.tmp 48), (.const (.bool false))],
 .p 50 .mv [(.tmp 49)],
 .gd 50 true (some 51) (.p 51 .mv [(.tmp 2)]),
 .gd 50 true (some 52) (.call (some 52) Ip [(.tmp 51)]),
 .gd 50 true (some 53) (.p 53 (.bin .eql) [(.tmp 52), (.const (.int .i64 57))]),
 .p 54 .pick [(.tmp 50), (.tmp 53), (.const (.bool false))],
 .p 55 .mv [(.tmp 54)],
 .gd 55 true (some 56) (.p 56 .mv [(.tmp 2)]),
 .gd 55 true (some 57) (.call (some 57) FU [(.tmp 56)]),
 .gd 55 true (some 58) (.p 58 (.bin .eql) [(.tmp 57), (.const (.int .i64 0))]),
 .p 59 .pick [(.tmp 55), (.tmp 58), (.const (.bool false))],
 .p 0 .mv [(.tmp 59)]]) (
 .ret)))))))))))⟩

theorem UH : trF Tryz.prog I8 = some m_law18_awake := by kernel_rfl
-- 12 shardlog/shardloglaw18.few; Ae [(0, l), (1, l), (3, i)]
noncomputable def m_law18_few : MF := ⟨34, [.t 2],
 .seq (
 .ops [
 .p 2 .mv [(.const (.bool false))]]) (
 .seq (
 .seq (
 .ops [
 .p 3 .mv [(.const (.int .i64 0))]]) (
 .block 0 (
 .loop (
 .seq (
 .seq (
 .ops [
 .p 4 .mv [(.tmp 3)],
 .p 5 .mv [(.tmp 0)],
 .p 6 .len [(.tmp 5)],
 .p 7 (.bin .lss) [(.tmp 4), (.tmp 6)],
 .p 8 .mv [(.tmp 7)],
 .gd 8 true (some 9) (.p 9 .mv [(.tmp 3)]),
 .gd 8 true (some 10) (.p 10 (.bin .lss) [(.tmp 9), (.const (.int .i64 100))]),
 .p 11 .pick [(.tmp 8), (.tmp 10), (.const (.bool false))]]) (
 .cond (.tmp 11) (
 .skip) (
 .exit 0))) (
 .seq (
 .block 1 (
 .seq (
 .ops [
 .p 14 .mv [(.tmp 0)],
 .p 15 .mv [(.tmp 3)],
 .p 16 (.ixs 8) [(.tmp 14), (.tmp 15)],
 .p 17 (.fad 2) [(.tmp 16)],
 .p 18 (.fad 4) [(.tmp 17)],
 .ld 19 (.tmp 18),
 .p 20 .lens [(.tmp 19)],
 .p 21 (.bin .gtr) [(.tmp 20), (.const (.int .i64 600))],
 .p 22 .mv [(.tmp 21)],
 .gd 22 false (some 23) (.p 23 .mv [(.tmp 0)]),
 .gd 22 false (some 24) (.p 24 .mv [(.tmp 3)]),
 .gd 22 false (some 25) (.p 25 (.ixs 8) [(.tmp 23), (.tmp 24)]),
 .gd 22 false (some 26) (.p 26 (.fad 7) [(.tmp 25)]),
 .gd 22 false (some 27) (.ld 27 (.tmp 26)),
 .gd 22 false (some 28) (.p 28 .len [(.tmp 27)]),
 .gd 22 false (some 29) (.p 29 (.bin .gtr) [(.tmp 28), (.const (.int .i64 10))]),
 .p 30 .pick [(.tmp 22), (.const (.bool true)), (.tmp 29)]]) (
 .cond (.tmp 30) (
 .seq (
 .ops [
 .p 2 .mv [(.const (.bool false))]]) (
 .ret)) (
 .skip)))) (
 .ops [
 .p 12 .mv [(.tmp 3)],
 .p 13 (.bin .add) [(.tmp 12), (.const (.int .i64 1))],
 .p 3 .mv [(.tmp 13)]])))))) (
 .seq (
 .ops [
 .p 31 .mv [(.tmp 0)],
 .p 32 .len [(.tmp 31)],
 .p 33 (.bin .leq) [(.tmp 32), (.const (.int .i64 40))],
 .p 2 .mv [(.tmp 33)]]) (
 .ret)))⟩

theorem YE : trF Tryz.prog Nv = some m_law18_few := by kernel_rfl
-- 14 shardlog/log.Open; Ae [(0, d), (1, d), (3, b), (4, e), (5, s), (6, n)]
noncomputable def m_log_Open : MF := ⟨28, [.t 2],
 .seq (
 .ops [
 .p 2 .mv [(.const (.pointer none))]]) (
 .seq (
 .ops [
 .p 8 .mv [(.tmp 0)],
 .call (some 9) DR [(.tmp 8), (.const (.string ⟨#[108, 111, 103]⟩))],
 .p 7 .mv [(.tmp 9)],
 .p 10 (.ext 0) [(.tmp 7)],
 .p 11 (.ext 1) [(.tmp 7)],
 .p 3 .mv [(.tmp 10)],
 .p 4 .mv [(.tmp 11)]]) (
 .seq (
 .ops [
 .p 13 .mv [(.tmp 3)],
 .call (some 14) OL [(.tmp 13)],
 .p 12 .mv [(.tmp 14)],
 .p 15 (.ext 0) [(.tmp 12)],
 .p 16 (.ext 1) [(.tmp 12)],
 .p 5 .mv [(.tmp 15)],
 .p 6 .mv [(.tmp 16)]]) (
 .seq (
 .seq (
 .ops [
 .p 17 .mv [(.tmp 4)],
 .p 18 (.bin .eql) [(.tmp 17), (.const (.int .i64 0))]]) (
 .cond (.tmp 18) (
 .seq (
 .ops [
 .p 19 .mv [(.tmp 0)],
 .p 20 .mv [(.tmp 6)],
 .call (some 21) IQ [(.tmp 19), (.const (.string ⟨#[108, 111, 103]⟩)), (.tmp 20)]]) (
 .ops [
 .p 22 .mv [(.tmp 0)],
 .call (some 23) EY [(.tmp 22), (.const (.string ⟨#[108, 111, 103]⟩))]])) (
 .skip))) (
 .seq (
 .ops [
 .p 24 .mv [(.tmp 0)],
 .p 25 .mv [(.tmp 5)],
 .p 26 (.build [(.pointer none), (.pointer none)] [(0, 1), (1, 1)]) [(.tmp 24), (.tmp 25)],
 .box 27 Qk (.tmp 26),
 .p 2 .mv [(.tmp 27)]]) (
 .ret)))))⟩

theorem Aae : trF Tryz.prog IM = some m_log_Open := by kernel_rfl
-- 16 shardlog/shardlogref17.Right; Ae [(0, v), (1, v)]
noncomputable def m_ref17_Right : MF := ⟨34, [.t 2],
 .seq (
 .ops [
 .box 1 Ah (.tmp 0),
 .p 2 .mv [(.const (.bool false))]]) (
 .seq (
 .ops [
 .p 3 (.fad 0) [(.tmp 1)],
 .ld 4 (.tmp 3),
 .p 5 (.bin .geq) [(.tmp 4), (.const (.int .i64 0))],
 .p 6 .mv [(.tmp 5)],
 .gd 6 true (some 7) (.p 7 (.fad 0) [(.tmp 1)]),
 .gd 6 true (some 8) (.ld 8 (.tmp 7)),
 .gd 6 true (some 9) (.p 9 (.bin .leq) [(.tmp 8), (.const (.int .i64 63))]),
 .p 10 .pick [(.tmp 6), (.tmp 9), (.const (.bool false))],
 .p 11 .mv [(.tmp 10)],
 .gd 11 true (some 12) (.p 12 (.fad 2) [(.tmp 1)]),
 .gd 11 true (some 13) (.ld 13 (.tmp 12)),
 .gd 11 true (some 14) (.p 14 (.bin .geq) [(.tmp 13), (.const (.int .i64 1))]),
 .p 15 .pick [(.tmp 11), (.tmp 14), (.const (.bool false))],
 .p 16 .mv [(.tmp 15)],
 .gd 16 true (some 17) (.p 17 (.fad 2) [(.tmp 1)]),
 .gd 16 true (some 18) (.ld 18 (.tmp 17)),
 .gd 16 true (some 19) (.p 19 (.fad 1) [(.tmp 1)]),
 .gd 16 true (some 20) (.ld 20 (.tmp 19)),
 .gd 16 true (some 21) (.p 21 (.bin .leq) [(.tmp 18), (.tmp 20)]),
 .p 22 .pick [(.tmp 16), (.tmp 21), (.const (.bool false))],
 .p 23 .mv [(.tmp 22)],
 .gd 23 true (some 24) (.p 24 (.fad 1) [(.tmp 1)]),
 .gd 23 true (some 25) (.ld 25 (.tmp 24)),
 .gd 23 true (some 26) (.p 26 (.bin .leq) [(.tmp 25), (.const (.int .i64 2147483647))]),
 .p 27 .pick [(.tmp 23), (.tmp 26), (.const (.bool false))],
 .p 28 .mv [(.tmp 27)],
 .gd 28 true (some 29) (.p 29 (.fad 4) [(.tmp 1)]),
 .gd 28 true (some 30) (.ld 30 (.tmp 29)),
 .gd 28 true (some 31) (.p 31 .lens [(.tmp 30)]),
 .gd 28 true (some 32) (.p 32 (.bin .leq) [(.tmp 31), (.const (.int .i64 520))]),
 .p 33 .pick [(.tmp 28), (.tmp 32), (.const (.bool false))],
 .p 2 .mv [(.tmp 33)]]) (
 .ret))⟩

theorem UD : trF Tryz.prog FO = some m_ref17_Right := by kernel_rfl
-- 17 (*shardlog/log.Log).Promise; Ae [(0, l), (1, b), (2, l), (3, b), (5, rec), (6, e)]
noncomputable def m_log_Log_Promise : MF := ⟨28, [.t 4],
 .seq (
 .ops [
 .p 4 .mv [(.const (.int .i64 0))]]) (
 .seq (
 .ops [
 .p 8 .mv [(.tmp 1)],
 .call (some 9) F9 [(.tmp 8)],
 .p 7 .mv [(.tmp 9)],
 .p 10 (.ext 0) [(.tmp 7)],
 .p 11 (.ext 1) [(.tmp 7)],
 .p 5 .mv [(.tmp 10)],
 .p 6 .mv [(.tmp 11)]]) (
 .seq (
 .seq (
 .ops [
 .p 12 .mv [(.tmp 6)],
 .p 13 (.bin .neq) [(.tmp 12), (.const (.int .i64 0))],
 .p 14 .mv [(.tmp 13)],
 .gd 14 false (some 15) (.p 15 .mv [(.tmp 1)]),
 .gd 14 false (some 16) (.p 16 .mv [(.tmp 0)]),
 .gd 14 false (some 17) (.p 17 .nilc [(.tmp 16)]),
 .gd 14 false (some 18) (.p 18 (.fad 1) [(.tmp 17)]),
 .gd 14 false (some 19) (.ld 19 (.tmp 18)),
 .gd 14 false (some 20) (.p 20 .nilc [(.tmp 19)]),
 .gd 14 false (some 21) (.p 21 (.fad 0) [(.tmp 20)]),
 .gd 14 false (some 22) (.ld 22 (.tmp 21)),
 .gd 14 false (some 23) (.p 23 (.bin .leq) [(.tmp 15), (.tmp 22)]),
 .p 24 .pick [(.tmp 14), (.const (.bool true)), (.tmp 23)]]) (
 .cond (.tmp 24) (
 .seq (
 .ops [
 .p 4 .mv [(.const (.int .i64 1))]]) (
 .ret)) (
 .skip))) (
 .seq (
 .ops [
 .p 25 .mv [(.tmp 0)],
 .p 26 .mv [(.tmp 5)],
 .call (some 27) I7 [(.tmp 25), (.tmp 26)],
 .p 4 .mv [(.tmp 27)]]) (
 .ret))))⟩

theorem P6 : trF Tryz.prog EO = some m_log_Log_Promise := by kernel_rfl
-- 18 (*shardlog/log.Log).Vote; Ae [(0, l), (1, v), (2, l), (3, v), (5, rec), (6, e)]
noncomputable def m_log_Log_Vote : MF := ⟨29, [.t 4],
 .seq (
 .ops [
 .box 3 Ah (.tmp 1),
 .p 4 .mv [(.const (.int .i64 0))]]) (
 .seq (
 .ops [
 .ldn 8 5 (.tmp 3),
 .call (some 9) JY [(.tmp 8)],
 .p 7 .mv [(.tmp 9)],
 .p 10 (.ext 0) [(.tmp 7)],
 .p 11 (.ext 1) [(.tmp 7)],
 .p 5 .mv [(.tmp 10)],
 .p 6 .mv [(.tmp 11)]]) (
 .seq (
 .seq (
 .dr (
 .one ⟨.p 12 .mv [(.tmp 6)], []⟩ (
 .one ⟨.p 13 (.bin .neq) [(.tmp 12), (.const (.int .i64 0))], []⟩ (
 .one ⟨.p 14 .mv [(.tmp 13)], []⟩ (
 .one ⟨.gd 14 false (some 15) (.p 15 (.fad 1) [(.tmp 3)]), []⟩ (
 .one ⟨.gd 14 false (some 16) (.ld 16 (.tmp 15)), []⟩ (
 .one ⟨.gd 14 false (some 17) (.p 17 .mv [(.tmp 0)]), []⟩ (
 .one ⟨.gd 14 false (some 18) (.p 18 .nilc [(.tmp 17)]), []⟩ (
 .one ⟨.gd 14 false (some 19) (.p 19 (.fad 1) [(.tmp 18)]), []⟩ (
 .one ⟨.gd 14 false (some 20) (.ld 20 (.tmp 19)), []⟩ (
 .one ⟨.gd 14 false (some 21) (.p 21 .nilc [(.tmp 20)]), []⟩ (
 .one ⟨.gd 14 false (some 22) (.p 22 (.fad 0) [(.tmp 21)]), []⟩ (
 .one ⟨.gd 14 false (some 23) (.ld 23 (.tmp 22)), []⟩ (
 .one ⟨.gd 14 false (some 24) (.p 24 (.bin .lss) [(.tmp 16), (.tmp 23)]), []⟩ (
 .one ⟨.p 25 .pick [(.tmp 14), (.const (.bool true)), (.tmp 24)], []⟩ (
 .nil)))))))))))))))) (
 .cond (.tmp 25) (
 .seq (
 .ops [
 .p 4 .mv [(.const (.int .i64 1))]]) (
 .ret)) (
 .skip))) (
 .seq (
 .ops [
 .p 26 .mv [(.tmp 0)],
 .p 27 .mv [(.tmp 5)],
 .call (some 28) I7 [(.tmp 26), (.tmp 27)],
 .p 4 .mv [(.tmp 28)]]) (
 .ret))))⟩

theorem Uf : trF Tryz.prog Io = some m_log_Log_Vote := by kernel_rfl
-- 19 (*shardlog/log.Log).Compact; Ae [(0, l), (1, l), (3, e)]
noncomputable def m_log_Log_Compact : MF := ⟨25, [.t 2],
 .seq (
 .ops [
 .p 2 .mv [(.const (.int .i64 0))]]) (
 .seq (
 .seq (
 .dr (
 .one ⟨.p 4 .mv [(.tmp 0)], []⟩ (
 .one ⟨.p 5 .nilc [(.tmp 4)], []⟩ (
 .one ⟨.p 6 (.fad 0) [(.tmp 5)], []⟩ (
 .one ⟨.ld 7 (.tmp 6), []⟩ (
 .one ⟨.p 8 .mv [(.tmp 0)], []⟩ (
 .one ⟨.call (some 9) KF [(.tmp 8)], [.ld 7 (.tmp 6)]⟩ (
 .one ⟨.call (some 10) Ny [(.tmp 9)], [.ld 7 (.tmp 6)]⟩ (
 .one ⟨.call (some 11) Fj [(.tmp 7), (.const (.string ⟨#[110, 101, 119]⟩)), (.tmp 10)], []⟩ (
 .one ⟨.p 3 .mv [(.tmp 11)], []⟩ (
 .nil))))))))))) (
 .seq (
 .ops [
 .p 12 .mv [(.tmp 3)],
 .p 13 (.bin .neq) [(.tmp 12), (.const (.int .i64 0))]]) (
 .cond (.tmp 13) (
 .seq (
 .ops [
 .p 14 .mv [(.tmp 3)],
 .p 2 .mv [(.tmp 14)]]) (
 .ret)) (
 .skip)))) (
 .seq (
 .ops [
 .p 15 .mv [(.tmp 0)],
 .p 16 .nilc [(.tmp 15)],
 .p 17 (.fad 0) [(.tmp 16)],
 .ld 18 (.tmp 17),
 .call (some 19) EY [(.tmp 18), (.const (.string ⟨#[110, 101, 119]⟩))]]) (
 .seq (
 .ops [
 .p 20 .mv [(.tmp 0)],
 .p 21 .nilc [(.tmp 20)],
 .p 22 (.fad 0) [(.tmp 21)],
 .ld 23 (.tmp 22),
 .call (some 24) Hw [(.tmp 23), (.const (.string ⟨#[110, 101, 119]⟩)), (.const (.string ⟨#[108, 111, 103]⟩))],
 .p 2 .mv [(.tmp 24)]]) (
 .ret))))⟩

theorem P7 : trF Tryz.prog FU = some m_log_Log_Compact := by kernel_rfl
-- 21 shardlog/shardlogref18.Read; Ae [(0, b), (1, b), (5, recs), (6, _), (7, most), (8, used), (9, votes), (10, i), (11, n), (12, v), (13, ok)]
noncomputable def m_ref18_Read : MF := ⟨65, [.t 2, .t 3, .t 4],
 .seq (
 .ops [
 .p 2 .mv [(.const (.int .i64 0))],
 .p 3 .mv [(.const (.slice none 0 0))],
 .p 4 .mv [(.const (.int .i64 0))]]) (
 .seq (
 .ops [
 .p 15 .mv [(.tmp 0)],
 .call (some 16) LW [(.tmp 15)],
 .p 14 .mv [(.tmp 16)],
 .p 17 (.ext 0) [(.tmp 14)],
 .p 18 (.ext 1) [(.tmp 14)],
 .p 5 .mv [(.tmp 17)],
 .p 6 .mv [(.tmp 18)]]) (
 .seq (
 .ops [
 .p 7 .mv [(.const (.int .i64 0))]]) (
 .seq (
 .ops [
 .p 8 .mv [(.const (.int .i64 0))]]) (
 .seq (
 .ops [
 .p 9 .mv [(.const (.slice none 0 0))]]) (
 .seq (
 .seq (
 .ops [
 .p 10 .mv [(.const (.int .i64 0))]]) (
 .block 0 (
 .loop (
 .seq (
 .seq (
 .ops [
 .p 19 .mv [(.tmp 10)],
 .p 20 .mv [(.tmp 5)],
 .p 21 .len [(.tmp 20)],
 .p 22 (.bin .lss) [(.tmp 19), (.tmp 21)]]) (
 .cond (.tmp 22) (
 .skip) (
 .exit 0))) (
 .seq (
 .block 1 (
 .seq (
 .ops [
 .p 26 .mv [(.tmp 5)],
 .p 27 .mv [(.tmp 10)],
 .p 28 (.ixs 1) [(.tmp 26), (.tmp 27)],
 .ld 29 (.tmp 28),
 .call (some 30) Ns [(.tmp 29)],
 .p 25 .mv [(.tmp 30)],
 .p 31 (.ext 0) [(.tmp 25)],
 .p 32 (.ext 1) [(.tmp 25)],
 .p 33 (.ext 2) [(.tmp 25)],
 .new 12 Ah [(.int .i64 0), (.int .i64 0), (.int .i64 0), (.bool false), (.string .empty)],
 .p 11 .mv [(.tmp 31)],
 .st 5 true (.tmp 12) (.tmp 32),
 .p 13 .mv [(.tmp 33)]]) (
 .seq (
 .seq (
 .ops [
 .p 34 .mv [(.tmp 13)],
 .p 35 .not [(.tmp 34)]]) (
 .cond (.tmp 35) (
 .seq (
 .ops [
 .p 36 .mv [(.tmp 7)],
 .p 37 .mv [(.tmp 9)],
 .p 38 .mv [(.tmp 8)],
 .p 2 .mv [(.tmp 36)],
 .p 3 .mv [(.tmp 37)],
 .p 4 .mv [(.tmp 38)]]) (
 .ret)) (
 .skip))) (
 .seq (
 .ops [
 .p 39 .mv [(.tmp 8)],
 .p 40 (.bin .add) [(.tmp 39), (.const (.int .i64 12))],
 .p 41 .mv [(.tmp 5)],
 .p 42 .mv [(.tmp 10)],
 .p 43 (.ixs 1) [(.tmp 41), (.tmp 42)],
 .ld 44 (.tmp 43),
 .p 45 .len [(.tmp 44)],
 .p 46 (.bin .add) [(.tmp 40), (.tmp 45)],
 .p 8 .mv [(.tmp 46)]]) (
 .seq (
 .seq (
 .ops [
 .p 47 .mv [(.tmp 11)],
 .p 48 .mv [(.tmp 7)],
 .p 49 (.bin .gtr) [(.tmp 47), (.tmp 48)]]) (
 .cond (.tmp 49) (
 .ops [
 .p 50 .mv [(.tmp 11)],
 .p 7 .mv [(.tmp 50)]]) (
 .skip))) (
 .seq (
 .seq (
 .ops [
 .p 51 .mv [(.tmp 11)],
 .p 52 (.bin .gtr) [(.tmp 51), (.const (.int .i64 0))]]) (
 .cond (.tmp 52) (
 .exit 1) (
 .skip))) (
 .seq (
 .seq (
 .ops [
 .p 53 (.fad 1) [(.tmp 12)],
 .ld 54 (.tmp 53),
 .p 55 .mv [(.tmp 7)],
 .p 56 (.bin .gtr) [(.tmp 54), (.tmp 55)]]) (
 .cond (.tmp 56) (
 .ops [
 .p 57 (.fad 1) [(.tmp 12)],
 .ld 58 (.tmp 57),
 .p 7 .mv [(.tmp 58)]]) (
 .skip))) (
 .ops [
 .p 59 .mv [(.tmp 9)],
 .ldn 60 5 (.tmp 12),
 .call (some 61) Jc [(.tmp 59), (.tmp 60)],
 .p 9 .mv [(.tmp 61)]])))))))) (
 .ops [
 .p 23 .mv [(.tmp 10)],
 .p 24 (.bin .add) [(.tmp 23), (.const (.int .i64 1))],
 .p 10 .mv [(.tmp 24)]])))))) (
 .seq (
 .ops [
 .p 62 .mv [(.tmp 7)],
 .p 63 .mv [(.tmp 9)],
 .p 64 .mv [(.tmp 8)],
 .p 2 .mv [(.tmp 62)],
 .p 3 .mv [(.tmp 63)],
 .p 4 .mv [(.tmp 64)]]) (
 .ret)))))))⟩

theorem WR : trF Tryz.prog LU = some m_ref18_Read := by kernel_rfl
-- 23 (*shardlog/log.Log).Promised; Ae [(0, l), (1, l)]
noncomputable def m_log_Log_Promised : MF := ⟨10, [.t 2],
 .seq (
 .ops [
 .p 2 .mv [(.const (.int .i64 0))]]) (
 .seq (
 .ops [
 .p 3 .mv [(.tmp 0)],
 .p 4 .nilc [(.tmp 3)],
 .p 5 (.fad 1) [(.tmp 4)],
 .ld 6 (.tmp 5),
 .p 7 .nilc [(.tmp 6)],
 .p 8 (.fad 0) [(.tmp 7)],
 .ld 9 (.tmp 8),
 .p 2 .mv [(.tmp 9)]]) (
 .ret))⟩

theorem O0 : trF Tryz.prog Fh = some m_log_Log_Promised := by kernel_rfl
-- 25 (*shardlog/log.Log).Votes; Ae [(0, l), (1, l)]
noncomputable def m_log_Log_Votes : MF := ⟨8, [.t 2],
 .seq (
 .ops [
 .p 2 .mv [(.const (.slice none 0 0))]]) (
 .seq (
 .ops [
 .p 3 .mv [(.tmp 0)],
 .p 4 .nilc [(.tmp 3)],
 .p 5 (.fad 1) [(.tmp 4)],
 .ld 6 (.tmp 5),
 .call (some 7) Il [(.tmp 6)],
 .p 2 .mv [(.tmp 7)]]) (
 .ret))⟩

theorem RH : trF Tryz.prog FH = some m_log_Log_Votes := by kernel_rfl
-- 26 (*shardlog/log.Log).Size; Ae [(0, l), (1, l), (3, b), (4, _)]
noncomputable def m_log_Log_Size : MF := ⟨15, [.t 2],
 .seq (
 .ops [
 .p 2 .mv [(.const (.int .i64 0))]]) (
 .seq (
 .ops [
 .p 6 .mv [(.tmp 0)],
 .p 7 .nilc [(.tmp 6)],
 .p 8 (.fad 0) [(.tmp 7)],
 .ld 9 (.tmp 8),
 .call (some 10) DR [(.tmp 9), (.const (.string ⟨#[108, 111, 103]⟩))],
 .p 5 .mv [(.tmp 10)],
 .p 11 (.ext 0) [(.tmp 5)],
 .p 12 (.ext 1) [(.tmp 5)],
 .p 3 .mv [(.tmp 11)],
 .p 4 .mv [(.tmp 12)]]) (
 .seq (
 .ops [
 .p 13 .mv [(.tmp 3)],
 .p 14 .len [(.tmp 13)],
 .p 2 .mv [(.tmp 14)]]) (
 .ret)))⟩

theorem Ug : trF Tryz.prog Ip = some m_log_Log_Size := by kernel_rfl
-- 52 shardlog/log.scan; Ae [(0, b), (1, b), (4, s), (5, recs), (6, _), (7, n), (8, _), (9, r)]
noncomputable def m_log_scan : MF := ⟨36, [.t 2, .t 3],
 .seq (
 .ops [
 .p 2 .mv [(.const (.pointer none))],
 .p 3 .mv [(.const (.int .i64 0))]]) (
 .seq (
 .ops [
 .gen (some 10) ⟨(some 10), (.makeMap 111 none), 111, "log.go:50", #[], none⟩,
 .p 11 (.build [(.int .i64 0), (.map none)] [(1, 1)]) [(.tmp 10)],
 .box 12 FZ (.tmp 11),
 .p 4 .mv [(.tmp 12)]]) (
 .seq (
 .ops [
 .p 14 .mv [(.tmp 0)],
 .call (some 15) LY [(.tmp 14)],
 .p 13 .mv [(.tmp 15)],
 .p 16 (.ext 0) [(.tmp 13)],
 .p 17 (.ext 1) [(.tmp 13)],
 .p 5 .mv [(.tmp 16)],
 .p 6 .mv [(.tmp 17)]]) (
 .seq (
 .ops [
 .p 7 .mv [(.const (.int .i64 0))]]) (
 .seq (
 .seq (
 .ops [
 .p 18 .mv [(.tmp 5)],
 .p 19 .len [(.tmp 18)],
 .p 20 .mv [(.const (.int .i64 0))]]) (
 .block 0 (
 .loop (
 .seq (
 .ops [
 .p 21 (.bin .lss) [(.tmp 20), (.tmp 19)]]) (
 .seq (
 .cond (.tmp 21) (
 .skip) (
 .exit 0)) (
 .seq (
 .block 1 (
 .seq (
 .ops [
 .p 22 (.ixs 1) [(.tmp 18), (.tmp 20)],
 .ld 23 (.tmp 22),
 .p 9 .mv [(.tmp 23)]]) (
 .seq (
 .seq (
 .ops [
 .p 24 .mv [(.tmp 4)],
 .p 25 .mv [(.tmp 9)],
 .call (some 26) G6 [(.tmp 24), (.tmp 25)],
 .p 27 .not [(.tmp 26)]]) (
 .cond (.tmp 27) (
 .exit 0) (
 .skip))) (
 .ops [
 .p 28 .mv [(.tmp 7)],
 .p 29 .mv [(.tmp 9)],
 .call (some 30) Jf [(.tmp 29)],
 .p 31 .len [(.tmp 30)],
 .p 32 (.bin .add) [(.tmp 28), (.tmp 31)],
 .p 7 .mv [(.tmp 32)]])))) (
 .ops [
 .p 33 (.bin .add) [(.tmp 20), (.const (.int .i64 1))],
 .p 20 .mv [(.tmp 33)]]))))))) (
 .seq (
 .ops [
 .p 34 .mv [(.tmp 4)],
 .p 35 .mv [(.tmp 7)],
 .p 2 .mv [(.tmp 34)],
 .p 3 .mv [(.tmp 35)]]) (
 .ret))))))⟩

theorem Aad : trF Tryz.prog OL = some m_log_scan := by kernel_rfl
-- 58 shardlog/slot.Promise; Ae [(0, b), (1, b)]
noncomputable def m_slot_Promise : MF := ⟨12, [.t 2, .t 3],
 .seq (
 .ops [
 .p 2 .mv [(.const (.slice none 0 0))],
 .p 3 .mv [(.const (.int .i64 0))]]) (
 .seq (
 .seq (
 .ops [
 .p 4 .mv [(.tmp 0)],
 .call (some 5) GY [(.tmp 4)],
 .p 6 .not [(.tmp 5)]]) (
 .cond (.tmp 6) (
 .seq (
 .ops [
 .p 2 .mv [(.const (.slice none 0 0))],
 .p 3 .mv [(.const (.int .i64 1))]]) (
 .ret)) (
 .skip))) (
 .seq (
 .ops [
 .call (some 7) DL [(.const (.int .i64 1))],
 .p 8 .mv [(.tmp 0)],
 .call (some 9) DL [(.tmp 8)],
 .bsl 10 Ap 2 [(.slice none 0 0), (.slice none 0 0)] [(0, 1), (1, 1)] [(.tmp 7), (.tmp 9)],
 .call (some 11) D8 [(.tmp 10)],
 .p 2 .mv [(.tmp 11)],
 .p 3 .mv [(.const (.int .i64 0))]]) (
 .ret)))⟩

theorem Ub : trF Tryz.prog F9 = some m_slot_Promise := by kernel_rfl
-- 59 (*shardlog/log.Log).add; Ae [(0, l), (1, rec), (2, l), (3, rec), (5, e)]
noncomputable def m_log_Log_add : MF := ⟨27, [.t 4],
 .seq (
 .ops [
 .p 4 .mv [(.const (.int .i64 0))]]) (
 .seq (
 .seq (
 .dr (
 .one ⟨.p 6 .mv [(.tmp 0)], []⟩ (
 .one ⟨.p 7 .nilc [(.tmp 6)], []⟩ (
 .one ⟨.p 8 (.fad 0) [(.tmp 7)], []⟩ (
 .one ⟨.ld 9 (.tmp 8), []⟩ (
 .one ⟨.p 10 .mv [(.tmp 1)], []⟩ (
 .one ⟨.call (some 11) Jf [(.tmp 10)], [.ld 9 (.tmp 8)]⟩ (
 .one ⟨.call (some 12) Fj [(.tmp 9), (.const (.string ⟨#[108, 111, 103]⟩)), (.tmp 11)], []⟩ (
 .one ⟨.p 5 .mv [(.tmp 12)], []⟩ (
 .nil)))))))))) (
 .seq (
 .ops [
 .p 13 .mv [(.tmp 5)],
 .p 14 (.bin .neq) [(.tmp 13), (.const (.int .i64 0))]]) (
 .cond (.tmp 14) (
 .seq (
 .ops [
 .p 15 .mv [(.tmp 5)],
 .p 4 .mv [(.tmp 15)]]) (
 .ret)) (
 .skip)))) (
 .seq (
 .ops [
 .p 16 .mv [(.tmp 0)],
 .p 17 .nilc [(.tmp 16)],
 .p 18 (.fad 0) [(.tmp 17)],
 .ld 19 (.tmp 18),
 .call (some 20) EY [(.tmp 19), (.const (.string ⟨#[108, 111, 103]⟩))]]) (
 .seq (
 .ops [
 .p 21 .mv [(.tmp 0)],
 .p 22 .nilc [(.tmp 21)],
 .p 23 (.fad 1) [(.tmp 22)],
 .ld 24 (.tmp 23),
 .p 25 .mv [(.tmp 1)],
 .call (some 26) G6 [(.tmp 24), (.tmp 25)]]) (
 .seq (
 .ops [
 .p 4 .mv [(.const (.int .i64 0))]]) (
 .ret)))))⟩

theorem UG : trF Tryz.prog I7 = some m_log_Log_add := by kernel_rfl
-- 60 shardlog/slot.Put; Ae [(0, v), (1, v)]
noncomputable def m_slot_Put : MF := ⟨26, [.t 2, .t 3],
 .seq (
 .ops [
 .box 1 Ah (.tmp 0),
 .p 2 .mv [(.const (.slice none 0 0))],
 .p 3 .mv [(.const (.int .i64 0))]]) (
 .seq (
 .seq (
 .ops [
 .ldn 4 5 (.tmp 1),
 .call (some 5) LQ [(.tmp 4)],
 .p 6 .not [(.tmp 5)]]) (
 .cond (.tmp 6) (
 .seq (
 .ops [
 .p 2 .mv [(.const (.slice none 0 0))],
 .p 3 .mv [(.const (.int .i64 1))]]) (
 .ret)) (
 .skip))) (
 .seq (
 .dr (
 .one ⟨.p 8 (.fad 0) [(.tmp 1)], []⟩ (
 .one ⟨.ld 9 (.tmp 8), []⟩ (
 .one ⟨.p 11 (.fad 1) [(.tmp 1)], []⟩ (
 .one ⟨.ld 12 (.tmp 11), []⟩ (
 .one ⟨.p 14 (.fad 2) [(.tmp 1)], []⟩ (
 .one ⟨.ld 15 (.tmp 14), []⟩ (
 .one ⟨.p 17 (.fad 3) [(.tmp 1)], []⟩ (
 .one ⟨.ld 18 (.tmp 17), []⟩ (
 .one ⟨.p 21 (.fad 4) [(.tmp 1)], []⟩ (
 .one ⟨.ld 22 (.tmp 21), []⟩ (
 .one ⟨.call (some 7) DL [(.const (.int .i64 2))], [.ld 22 (.tmp 21), .ld 18 (.tmp 17), .ld 15 (.tmp 14), .ld 12 (.tmp 11), .ld 9 (.tmp 8)]⟩ (
 .one ⟨.call (some 10) DL [(.tmp 9)], [.ld 22 (.tmp 21), .ld 18 (.tmp 17), .ld 15 (.tmp 14), .ld 12 (.tmp 11)]⟩ (
 .one ⟨.call (some 13) DL [(.tmp 12)], [.ld 22 (.tmp 21), .ld 18 (.tmp 17), .ld 15 (.tmp 14)]⟩ (
 .one ⟨.call (some 16) DL [(.tmp 15)], [.ld 22 (.tmp 21), .ld 18 (.tmp 17)]⟩ (
 .one ⟨.call (some 19) Nq [(.tmp 18)], [.ld 22 (.tmp 21)]⟩ (
 .one ⟨.call (some 20) DL [(.tmp 19)], [.ld 22 (.tmp 21)]⟩ (
 .one ⟨.call (some 23) Kv [(.tmp 22)], []⟩ (
 .one ⟨.bsl 24 Ap 6 [(.slice none 0 0), (.slice none 0 0), (.slice none 0 0), (.slice none 0 0), (.slice none 0 0), (.slice none 0 0)] [(0, 1), (1, 1), (2, 1), (3, 1), (4, 1), (5, 1)] [(.tmp 7), (.tmp 10), (.tmp 13), (.tmp 16), (.tmp 20), (.tmp 23)], []⟩ (
 .one ⟨.call (some 25) D8 [(.tmp 24)], []⟩ (
 .one ⟨.p 2 .mv [(.tmp 25)], []⟩ (
 .one ⟨.p 3 .mv [(.const (.int .i64 0))], []⟩ (
 .nil))))))))))))))))))))))) (
 .ret)))⟩

theorem Aaa : trF Tryz.prog JY = some m_slot_Put := by kernel_rfl
-- 61 shardlog/frame.All; Ae [(0, recs), (1, recs), (3, out), (4, _), (5, r)]
noncomputable def m_frame_All : MF := ⟨18, [.t 2],
 .seq (
 .ops [
 .p 2 .mv [(.const (.slice none 0 0))]]) (
 .seq (
 .ops [
 .p 3 .mv [(.const (.slice none 0 0))]]) (
 .seq (
 .seq (
 .ops [
 .p 6 .mv [(.tmp 0)],
 .p 7 .len [(.tmp 6)],
 .p 8 .mv [(.const (.int .i64 0))]]) (
 .block 0 (
 .loop (
 .seq (
 .ops [
 .p 9 (.bin .lss) [(.tmp 8), (.tmp 7)]]) (
 .seq (
 .cond (.tmp 9) (
 .skip) (
 .exit 0)) (
 .seq (
 .block 1 (
 .seq (
 .ops [
 .p 10 (.ixs 1) [(.tmp 6), (.tmp 8)],
 .ld 11 (.tmp 10),
 .p 5 .mv [(.tmp 11)]]) (
 .ops [
 .p 12 .mv [(.tmp 3)],
 .p 13 .mv [(.tmp 5)],
 .call (some 14) Jf [(.tmp 13)],
 .app 15 #[Ap, Ap] Ap (.tmp 12) (.tmp 14),
 .p 3 .mv [(.tmp 15)]]))) (
 .ops [
 .p 16 (.bin .add) [(.tmp 8), (.const (.int .i64 1))],
 .p 8 .mv [(.tmp 16)]]))))))) (
 .seq (
 .ops [
 .p 17 .mv [(.tmp 3)],
 .p 2 .mv [(.tmp 17)]]) (
 .ret))))⟩

theorem YI : trF Tryz.prog Ny = some m_frame_All := by kernel_rfl
-- 62 (*shardlog/log.Log).all; Ae [(0, l), (1, l), (3, out), (4, rec), (5, e), (6, _), (7, v), (8, rec), (9, _)]
noncomputable def m_log_Log_all : MF := ⟨45, [.t 2],
 .seq (
 .ops [
 .p 2 .mv [(.const (.slice none 0 0))]]) (
 .seq (
 .ops [
 .p 3 .mv [(.const (.slice none 0 0))]]) (
 .seq (
 .seq (
 .ops [
 .p 11 .mv [(.tmp 0)],
 .p 12 .nilc [(.tmp 11)],
 .p 13 (.fad 1) [(.tmp 12)],
 .ld 14 (.tmp 13),
 .p 15 .nilc [(.tmp 14)],
 .p 16 (.fad 0) [(.tmp 15)],
 .ld 17 (.tmp 16),
 .call (some 18) F9 [(.tmp 17)],
 .p 10 .mv [(.tmp 18)],
 .p 19 (.ext 0) [(.tmp 10)],
 .p 20 (.ext 1) [(.tmp 10)],
 .p 4 .mv [(.tmp 19)],
 .p 5 .mv [(.tmp 20)]]) (
 .seq (
 .ops [
 .p 21 .mv [(.tmp 5)],
 .p 22 (.bin .eql) [(.tmp 21), (.const (.int .i64 0))]]) (
 .cond (.tmp 22) (
 .ops [
 .p 23 .mv [(.tmp 3)],
 .p 24 .mv [(.tmp 4)],
 .bsl 25 Ap 1 [(.slice none 0 0)] [(0, 1)] [(.tmp 24)],
 .app 26 #[JG, JG] JG (.tmp 23) (.tmp 25),
 .p 3 .mv [(.tmp 26)]]) (
 .skip)))) (
 .seq (
 .seq (
 .ops [
 .p 27 .mv [(.tmp 0)],
 .call (some 28) FH [(.tmp 27)],
 .p 29 .len [(.tmp 28)],
 .p 30 .mv [(.const (.int .i64 0))]]) (
 .block 0 (
 .loop (
 .seq (
 .ops [
 .p 31 (.bin .lss) [(.tmp 30), (.tmp 29)]]) (
 .seq (
 .cond (.tmp 31) (
 .skip) (
 .exit 0)) (
 .seq (
 .block 1 (
 .seq (
 .ops [
 .p 32 (.ixs 5) [(.tmp 28), (.tmp 30)],
 .ldn 33 5 (.tmp 32),
 .new 7 Ah [(.int .i64 0), (.int .i64 0), (.int .i64 0), (.bool false), (.string .empty)],
 .st 5 true (.tmp 7) (.tmp 33)]) (
 .seq (
 .ops [
 .ldn 35 5 (.tmp 7),
 .call (some 36) JY [(.tmp 35)],
 .p 34 .mv [(.tmp 36)],
 .p 37 (.ext 0) [(.tmp 34)],
 .p 38 (.ext 1) [(.tmp 34)],
 .p 8 .mv [(.tmp 37)],
 .p 9 .mv [(.tmp 38)]]) (
 .ops [
 .p 39 .mv [(.tmp 3)],
 .p 40 .mv [(.tmp 8)],
 .bsl 41 Ap 1 [(.slice none 0 0)] [(0, 1)] [(.tmp 40)],
 .app 42 #[JG, JG] JG (.tmp 39) (.tmp 41),
 .p 3 .mv [(.tmp 42)]])))) (
 .ops [
 .p 43 (.bin .add) [(.tmp 30), (.const (.int .i64 1))],
 .p 30 .mv [(.tmp 43)]]))))))) (
 .seq (
 .ops [
 .p 44 .mv [(.tmp 3)],
 .p 2 .mv [(.tmp 44)]]) (
 .ret)))))⟩

theorem UF : trF Tryz.prog KF = some m_log_Log_all := by kernel_rfl
-- 66 shardlog/shardlogref06.Scan; Ae [(0, b), (1, b), (4, out), (5, at), (6, n), (7, rec)]
noncomputable def m_ref06_Scan : MF := ⟨70, [.t 2, .t 3],
 .seq (
 .ops [
 .p 2 .mv [(.const (.slice none 0 0))],
 .p 3 .mv [(.const (.int .i64 0))]]) (
 .seq (
 .ops [
 .p 4 .mv [(.const (.slice none 0 0))]]) (
 .seq (
 .ops [
 .p 5 .mv [(.const (.int .i64 0))]]) (
 .block 0 (
 .loop (
 .block 1 (
 .seq (
 .ops [
 .p 8 .mv [(.tmp 0)],
 .p 9 .mv [(.tmp 5)],
 .call (some 10) DN [(.tmp 8), (.tmp 9)],
 .p 6 .mv [(.tmp 10)]]) (
 .seq (
 .seq (
 .ops [
 .p 11 .mv [(.tmp 6)],
 .p 12 (.bin .lss) [(.tmp 11), (.const (.int .i64 0))],
 .p 13 .mv [(.tmp 12)],
 .gd 13 false (some 14) (.p 14 .mv [(.tmp 6)]),
 .gd 13 false (some 15) (.p 15 (.bin .gtr) [(.tmp 14), (.const (.int .i64 65535))]),
 .p 16 .pick [(.tmp 13), (.const (.bool true)), (.tmp 15)],
 .p 17 .mv [(.tmp 16)],
 .gd 17 false (some 18) (.p 18 .mv [(.tmp 5)]),
 .gd 17 false (some 19) (.p 19 (.bin .add) [(.tmp 18), (.const (.int .i64 12))]),
 .gd 17 false (some 20) (.p 20 .mv [(.tmp 6)]),
 .gd 17 false (some 21) (.p 21 (.bin .add) [(.tmp 19), (.tmp 20)]),
 .gd 17 false (some 22) (.p 22 .mv [(.tmp 0)]),
 .gd 17 false (some 23) (.p 23 .len [(.tmp 22)]),
 .gd 17 false (some 24) (.p 24 (.bin .gtr) [(.tmp 21), (.tmp 23)]),
 .p 25 .pick [(.tmp 17), (.const (.bool true)), (.tmp 24)]]) (
 .cond (.tmp 25) (
 .seq (
 .ops [
 .p 26 .mv [(.tmp 4)],
 .p 27 .mv [(.tmp 5)],
 .p 2 .mv [(.tmp 26)],
 .p 3 .mv [(.tmp 27)]]) (
 .ret)) (
 .skip))) (
 .seq (
 .ops [
 .p 28 .mv [(.tmp 0)],
 .p 29 .mv [(.tmp 5)],
 .p 30 (.bin .add) [(.tmp 29), (.const (.int .i64 12))],
 .p 31 .mv [(.tmp 5)],
 .p 32 (.bin .add) [(.tmp 31), (.const (.int .i64 12))],
 .p 33 .mv [(.tmp 6)],
 .p 34 (.bin .add) [(.tmp 32), (.tmp 33)],
 .p 35 (.sls 1 true true false) [(.tmp 28), (.tmp 30), (.tmp 34)],
 .p 7 .mv [(.tmp 35)]]) (
 .seq (
 .seq (
 .dr (
 .one ⟨.p 36 .mv [(.tmp 0)], []⟩ (
 .one ⟨.p 37 .mv [(.tmp 5)], []⟩ (
 .one ⟨.p 38 (.bin .add) [(.tmp 37), (.const (.int .i64 4))], []⟩ (
 .one ⟨.p 40 .mv [(.tmp 0)], []⟩ (
 .one ⟨.p 41 .mv [(.tmp 5)], []⟩ (
 .one ⟨.p 42 .mv [(.tmp 5)], []⟩ (
 .one ⟨.p 43 (.bin .add) [(.tmp 42), (.const (.int .i64 4))], []⟩ (
 .one ⟨.p 44 (.sls 1 true true false) [(.tmp 40), (.tmp 41), (.tmp 43)], []⟩ (
 .one ⟨.call (some 39) DN [(.tmp 36), (.tmp 38)], []⟩ (
 .one ⟨.call (some 45) H8 [(.tmp 44)], []⟩ (
 .one ⟨.p 46 (.conv .i64) [(.tmp 45)], []⟩ (
 .one ⟨.p 47 (.bin .neq) [(.tmp 39), (.tmp 46)], []⟩ (
 .one ⟨.p 48 .mv [(.tmp 47)], []⟩ (
 .one ⟨.gd 48 false (some 49) (.p 49 .mv [(.tmp 0)]), []⟩ (
 .one ⟨.gd 48 false (some 50) (.p 50 .mv [(.tmp 5)]), []⟩ (
 .one ⟨.gd 48 false (some 51) (.p 51 (.bin .add) [(.tmp 50), (.const (.int .i64 8))]), []⟩ (
 .one ⟨.gd 48 false (some 53) (.p 53 .mv [(.tmp 7)]), []⟩ (
 .one ⟨.gd 48 false (some 52) (.call (some 52) DN [(.tmp 49), (.tmp 51)]), []⟩ (
 .one ⟨.gd 48 false (some 54) (.call (some 54) H8 [(.tmp 53)]), []⟩ (
 .one ⟨.gd 48 false (some 55) (.p 55 (.conv .i64) [(.tmp 54)]), []⟩ (
 .one ⟨.gd 48 false (some 56) (.p 56 (.bin .neq) [(.tmp 52), (.tmp 55)]), []⟩ (
 .one ⟨.p 57 .pick [(.tmp 48), (.const (.bool true)), (.tmp 56)], []⟩ (
 .nil)))))))))))))))))))))))) (
 .cond (.tmp 57) (
 .seq (
 .ops [
 .p 58 .mv [(.tmp 4)],
 .p 59 .mv [(.tmp 5)],
 .p 2 .mv [(.tmp 58)],
 .p 3 .mv [(.tmp 59)]]) (
 .ret)) (
 .skip))) (
 .seq (
 .ops [
 .p 60 .mv [(.tmp 4)],
 .bsl 61 tU8 0 [] [] [],
 .p 62 .mv [(.tmp 7)],
 .app 63 #[Ap, Ap] Ap (.tmp 61) (.tmp 62),
 .bsl 64 Ap 1 [(.slice none 0 0)] [(0, 1)] [(.tmp 63)],
 .app 65 #[JG, JG] JG (.tmp 60) (.tmp 64),
 .p 4 .mv [(.tmp 65)]]) (
 .ops [
 .p 66 .mv [(.tmp 5)],
 .p 67 (.bin .add) [(.tmp 66), (.const (.int .i64 12))],
 .p 68 .mv [(.tmp 6)],
 .p 69 (.bin .add) [(.tmp 67), (.tmp 68)],
 .p 5 .mv [(.tmp 69)]])))))))))))⟩

theorem WU : trF Tryz.prog LW = some m_ref06_Scan := by kernel_rfl
-- 67 shardlog/shardlogref17.Get; Ae [(0, rec), (1, rec), (5, b), (6, s), (7, n), (8, full), (9, v)]
noncomputable def m_ref17_Get : MF := ⟨70, [.t 2, .cn 3 5, .t 4],
 .seq (
 .ops [
 .p 2 .mv [(.const (.int .i64 0))],
 .new 3 Ah [(.int .i64 0), (.int .i64 0), (.int .i64 0), (.bool false), (.string .empty)],
 .p 4 .mv [(.const (.bool false))]]) (
 .seq (
 .seq (
 .ops [
 .p 10 .mv [(.tmp 0)],
 .call (some 11) DN [(.tmp 10), (.const (.int .i64 0))],
 .p 12 (.bin .eql) [(.tmp 11), (.const (.int .i64 1))]]) (
 .cond (.tmp 12) (
 .seq (
 .ops [
 .p 13 .mv [(.tmp 0)],
 .call (some 14) DN [(.tmp 13), (.const (.int .i64 4))],
 .p 5 .mv [(.tmp 14)]]) (
 .seq (
 .seq (
 .ops [
 .p 15 .mv [(.tmp 0)],
 .p 16 .len [(.tmp 15)],
 .p 17 (.bin .eql) [(.tmp 16), (.const (.int .i64 8))],
 .p 18 .mv [(.tmp 17)],
 .gd 18 true (some 19) (.p 19 .mv [(.tmp 5)]),
 .gd 18 true (some 20) (.p 20 (.bin .geq) [(.tmp 19), (.const (.int .i64 1))]),
 .p 21 .pick [(.tmp 18), (.tmp 20), (.const (.bool false))],
 .p 22 .mv [(.tmp 21)],
 .gd 22 true (some 23) (.p 23 .mv [(.tmp 5)]),
 .gd 22 true (some 24) (.p 24 (.bin .leq) [(.tmp 23), (.const (.int .i64 2147483647))]),
 .p 25 .pick [(.tmp 22), (.tmp 24), (.const (.bool false))]]) (
 .cond (.tmp 25) (
 .seq (
 .ops [
 .p 26 .mv [(.tmp 5)],
 .p 27 (.build [(.int .i64 0), (.int .i64 0), (.int .i64 0), (.bool false), (.string .empty)] []) [],
 .p 2 .mv [(.tmp 26)],
 .st 5 true (.tmp 3) (.tmp 27),
 .p 4 .mv [(.const (.bool true))]]) (
 .ret)) (
 .skip))) (
 .seq (
 .ops [
 .p 28 (.build [(.int .i64 0), (.int .i64 0), (.int .i64 0), (.bool false), (.string .empty)] []) [],
 .p 2 .mv [(.const (.int .i64 0))],
 .st 5 true (.tmp 3) (.tmp 28),
 .p 4 .mv [(.const (.bool false))]]) (
 .ret)))) (
 .skip))) (
 .seq (
 .ops [
 .p 30 .mv [(.tmp 0)],
 .call (some 31) JZ [(.tmp 30), (.const (.int .i64 20))],
 .p 29 .mv [(.tmp 31)],
 .p 32 (.ext 0) [(.tmp 29)],
 .p 33 (.ext 1) [(.tmp 29)],
 .p 6 .mv [(.tmp 32)],
 .p 7 .mv [(.tmp 33)]]) (
 .seq (
 .ops [
 .p 34 .mv [(.tmp 0)],
 .call (some 35) DN [(.tmp 34), (.const (.int .i64 16))],
 .p 8 .mv [(.tmp 35)]]) (
 .seq (
 .ops [
 .p 36 .mv [(.tmp 0)],
 .call (some 37) DN [(.tmp 36), (.const (.int .i64 4))],
 .p 38 .mv [(.tmp 0)],
 .call (some 39) DN [(.tmp 38), (.const (.int .i64 8))],
 .p 40 .mv [(.tmp 0)],
 .call (some 41) DN [(.tmp 40), (.const (.int .i64 12))],
 .p 42 .mv [(.tmp 8)],
 .p 43 (.bin .eql) [(.tmp 42), (.const (.int .i64 1))],
 .p 44 .mv [(.tmp 6)],
 .p 45 (.build [(.int .i64 0), (.int .i64 0), (.int .i64 0), (.bool false), (.string .empty)] [(0, 1), (1, 1), (2, 1), (3, 1), (4, 1)]) [(.tmp 37), (.tmp 39), (.tmp 41), (.tmp 43), (.tmp 44)],
 .new 9 Ah [(.int .i64 0), (.int .i64 0), (.int .i64 0), (.bool false), (.string .empty)],
 .st 5 true (.tmp 9) (.tmp 45)]) (
 .seq (
 .seq (
 .ops [
 .p 46 .mv [(.tmp 0)],
 .call (some 47) DN [(.tmp 46), (.const (.int .i64 0))],
 .p 48 (.bin .eql) [(.tmp 47), (.const (.int .i64 2))],
 .p 49 .mv [(.tmp 48)],
 .gd 49 true (some 50) (.p 50 .mv [(.tmp 7)]),
 .gd 49 true (some 51) (.p 51 (.bin .gtr) [(.tmp 50), (.const (.int .i64 0))]),
 .p 52 .pick [(.tmp 49), (.tmp 51), (.const (.bool false))],
 .p 53 .mv [(.tmp 52)],
 .gd 53 true (some 54) (.p 54 .mv [(.tmp 0)]),
 .gd 53 true (some 55) (.p 55 .len [(.tmp 54)]),
 .gd 53 true (some 56) (.p 56 .mv [(.tmp 7)]),
 .gd 53 true (some 57) (.p 57 (.bin .add) [(.const (.int .i64 20)), (.tmp 56)]),
 .gd 53 true (some 58) (.p 58 (.bin .eql) [(.tmp 55), (.tmp 57)]),
 .p 59 .pick [(.tmp 53), (.tmp 58), (.const (.bool false))],
 .p 60 .mv [(.tmp 59)],
 .gd 60 true (some 61) (.p 61 .mv [(.tmp 8)]),
 .gd 60 true (some 62) (.p 62 (.bin .leq) [(.tmp 61), (.const (.int .i64 1))]),
 .p 63 .pick [(.tmp 60), (.tmp 62), (.const (.bool false))],
 .p 64 .mv [(.tmp 63)],
 .gd 64 true (some 65) (.ldn 65 5 (.tmp 9)),
 .gd 64 true (some 66) (.call (some 66) FO [(.tmp 65)]),
 .p 67 .pick [(.tmp 64), (.tmp 66), (.const (.bool false))]]) (
 .cond (.tmp 67) (
 .seq (
 .dr (
 .one ⟨.ldn 68 5 (.tmp 9), []⟩ (
 .one ⟨.p 2 .mv [(.const (.int .i64 0))], []⟩ (
 .one ⟨.st 5 true (.tmp 3) (.tmp 68), []⟩ (
 .one ⟨.p 4 .mv [(.const (.bool true))], []⟩ (
 .nil)))))) (
 .ret)) (
 .skip))) (
 .seq (
 .ops [
 .p 69 (.build [(.int .i64 0), (.int .i64 0), (.int .i64 0), (.bool false), (.string .empty)] []) [],
 .p 2 .mv [(.const (.int .i64 0))],
 .st 5 true (.tmp 3) (.tmp 69),
 .p 4 .mv [(.const (.bool false))]]) (
 .ret)))))))⟩

theorem Yz : trF Tryz.prog Ns = some m_ref17_Get := by kernel_rfl
-- 68 shardlog/shardlogref18.add; Ae [(0, l), (1, v), (2, l), (3, v), (5, i)]
noncomputable def m_ref18_add : MF := ⟨34, [.t 4],
 .seq (
 .ops [
 .box 3 Ah (.tmp 1),
 .p 4 .mv [(.const (.slice none 0 0))]]) (
 .seq (
 .seq (
 .ops [
 .p 5 .mv [(.const (.int .i64 0))]]) (
 .block 0 (
 .loop (
 .seq (
 .seq (
 .ops [
 .p 6 .mv [(.tmp 5)],
 .p 7 .mv [(.tmp 0)],
 .p 8 .len [(.tmp 7)],
 .p 9 (.bin .lss) [(.tmp 6), (.tmp 8)]]) (
 .cond (.tmp 9) (
 .skip) (
 .exit 0))) (
 .seq (
 .block 1 (
 .seq (
 .dr (
 .one ⟨.p 12 .mv [(.tmp 0)], []⟩ (
 .one ⟨.p 13 .mv [(.tmp 5)], []⟩ (
 .one ⟨.p 14 (.ixs 5) [(.tmp 12), (.tmp 13)], []⟩ (
 .one ⟨.p 15 (.fad 0) [(.tmp 14)], []⟩ (
 .one ⟨.ld 16 (.tmp 15), []⟩ (
 .one ⟨.p 17 (.fad 0) [(.tmp 3)], []⟩ (
 .one ⟨.ld 18 (.tmp 17), []⟩ (
 .one ⟨.p 19 (.bin .eql) [(.tmp 16), (.tmp 18)], []⟩ (
 .one ⟨.p 20 .mv [(.tmp 19)], []⟩ (
 .one ⟨.gd 20 true (some 21) (.p 21 .mv [(.tmp 0)]), []⟩ (
 .one ⟨.gd 20 true (some 22) (.p 22 .mv [(.tmp 5)]), []⟩ (
 .one ⟨.gd 20 true (some 23) (.p 23 (.ixs 5) [(.tmp 21), (.tmp 22)]), []⟩ (
 .one ⟨.gd 20 true (some 24) (.p 24 (.fad 1) [(.tmp 23)]), []⟩ (
 .one ⟨.gd 20 true (some 25) (.ld 25 (.tmp 24)), []⟩ (
 .one ⟨.gd 20 true (some 26) (.p 26 (.fad 1) [(.tmp 3)]), []⟩ (
 .one ⟨.gd 20 true (some 27) (.ld 27 (.tmp 26)), []⟩ (
 .one ⟨.gd 20 true (some 28) (.p 28 (.bin .gtr) [(.tmp 25), (.tmp 27)]), []⟩ (
 .one ⟨.p 29 .pick [(.tmp 20), (.tmp 28), (.const (.bool false))], []⟩ (
 .nil)))))))))))))))))))) (
 .cond (.tmp 29) (
 .seq (
 .ops [
 .p 30 .mv [(.tmp 0)],
 .p 4 .mv [(.tmp 30)]]) (
 .ret)) (
 .skip)))) (
 .ops [
 .p 10 .mv [(.tmp 5)],
 .p 11 (.bin .add) [(.tmp 10), (.const (.int .i64 1))],
 .p 5 .mv [(.tmp 11)]])))))) (
 .seq (
 .ops [
 .p 31 .mv [(.tmp 0)],
 .ldn 32 5 (.tmp 3),
 .call (some 33) Ik [(.tmp 31), (.tmp 32)],
 .p 4 .mv [(.tmp 33)]]) (
 .ret)))⟩

theorem Yw : trF Tryz.prog Jc = some m_ref18_add := by kernel_rfl
-- 70 (*shardlog/log.says).sorted; Ae [(0, s), (1, s), (3, out), (4, _), (5, k)]
noncomputable def m_log_says_sorted : MF := ⟨28, [.t 2],
 .seq (
 .ops [
 .p 2 .mv [(.const (.slice none 0 0))]]) (
 .seq (
 .ops [
 .p 3 .mv [(.const (.slice none 0 0))]]) (
 .seq (
 .seq (
 .ops [
 .p 6 .mv [(.tmp 0)],
 .p 7 .nilc [(.tmp 6)],
 .p 8 (.fad 1) [(.tmp 7)],
 .ld 9 (.tmp 8),
 .call (some 10) KE [(.tmp 9)],
 .call (some 11) PV [(.tmp 10)],
 .p 12 .len [(.tmp 11)],
 .p 13 .mv [(.const (.int .i64 0))]]) (
 .block 0 (
 .loop (
 .seq (
 .ops [
 .p 14 (.bin .lss) [(.tmp 13), (.tmp 12)]]) (
 .seq (
 .cond (.tmp 14) (
 .skip) (
 .exit 0)) (
 .seq (
 .block 1 (
 .seq (
 .ops [
 .p 15 (.ixs 1) [(.tmp 11), (.tmp 13)],
 .ld 16 (.tmp 15),
 .p 5 .mv [(.tmp 16)]]) (
 .ops [
 .p 17 .mv [(.tmp 3)],
 .p 18 .mv [(.tmp 0)],
 .p 19 .nilc [(.tmp 18)],
 .p 20 (.fad 1) [(.tmp 19)],
 .ld 21 (.tmp 20),
 .p 22 .mv [(.tmp 5)],
 .gen (some 23) ⟨(some 23), (.lookup 111 (.tmp 21) (.tmp 22) false), Ah, "log.go:43", #[⟨4, .data⟩, ⟨5, .data⟩], none⟩,
 .bsl 24 Ah 1 [(.int .i64 0), (.int .i64 0), (.int .i64 0), (.bool false), (.string .empty)] [(0, 5)] [(.tmp 23)],
 .app 25 #[Cc, Cc] Cc (.tmp 17) (.tmp 24),
 .p 3 .mv [(.tmp 25)]]))) (
 .ops [
 .p 26 (.bin .add) [(.tmp 13), (.const (.int .i64 1))],
 .p 13 .mv [(.tmp 26)]]))))))) (
 .seq (
 .ops [
 .p 27 .mv [(.tmp 3)],
 .p 2 .mv [(.tmp 27)]]) (
 .ret))))⟩

theorem P5 : trF Tryz.prog Il = some m_log_says_sorted := by kernel_rfl
-- 77 shardlog/shardlogref01.TextAt; Ae [(0, b), (1, at), (2, b), (3, at), (6, n)]
noncomputable def m_ref01_TextAt : MF := ⟨32, [.t 4, .t 5],
 .seq (
 .ops [
 .p 4 .mv [(.const (.string .empty))],
 .p 5 .mv [(.const (.int .i64 0))]]) (
 .seq (
 .ops [
 .p 7 .mv [(.tmp 0)],
 .p 8 .mv [(.tmp 1)],
 .call (some 9) DN [(.tmp 7), (.tmp 8)],
 .p 6 .mv [(.tmp 9)]]) (
 .seq (
 .seq (
 .ops [
 .p 10 .mv [(.tmp 6)],
 .p 11 (.bin .lss) [(.tmp 10), (.const (.int .i64 0))],
 .p 12 .mv [(.tmp 11)],
 .gd 12 false (some 13) (.p 13 .mv [(.tmp 1)]),
 .gd 12 false (some 14) (.p 14 (.bin .add) [(.tmp 13), (.const (.int .i64 4))]),
 .gd 12 false (some 15) (.p 15 .mv [(.tmp 6)]),
 .gd 12 false (some 16) (.p 16 (.bin .add) [(.tmp 14), (.tmp 15)]),
 .gd 12 false (some 17) (.p 17 .mv [(.tmp 0)]),
 .gd 12 false (some 18) (.p 18 .len [(.tmp 17)]),
 .gd 12 false (some 19) (.p 19 (.bin .gtr) [(.tmp 16), (.tmp 18)]),
 .p 20 .pick [(.tmp 12), (.const (.bool true)), (.tmp 19)]]) (
 .cond (.tmp 20) (
 .seq (
 .ops [
 .p 4 .mv [(.const (.string .empty))],
 .p 5 .mv [(.const (.int .i64 0))]]) (
 .ret)) (
 .skip))) (
 .seq (
 .ops [
 .p 21 .mv [(.tmp 0)],
 .p 22 .mv [(.tmp 1)],
 .p 23 (.bin .add) [(.tmp 22), (.const (.int .i64 4))],
 .p 24 .mv [(.tmp 1)],
 .p 25 (.bin .add) [(.tmp 24), (.const (.int .i64 4))],
 .p 26 .mv [(.tmp 6)],
 .p 27 (.bin .add) [(.tmp 25), (.tmp 26)],
 .p 28 (.sls 1 true true false) [(.tmp 21), (.tmp 23), (.tmp 27)],
 .bs 29 (.tmp 28),
 .p 30 .mv [(.tmp 6)],
 .p 31 (.bin .add) [(.const (.int .i64 4)), (.tmp 30)],
 .p 4 .mv [(.tmp 29)],
 .p 5 .mv [(.tmp 31)]]) (
 .ret))))⟩

theorem Ue : trF Tryz.prog JZ = some m_ref01_TextAt := by kernel_rfl
-- 78 shardlog/shardlogref01.At; Ae [(0, b), (1, at), (2, b), (3, at)]
noncomputable def m_ref01_At : MF := ⟨39, [.t 4],
 .seq (
 .ops [
 .p 4 .mv [(.const (.int .i64 0))]]) (
 .seq (
 .seq (
 .ops [
 .p 5 .mv [(.tmp 1)],
 .p 6 (.bin .add) [(.tmp 5), (.const (.int .i64 4))],
 .p 7 .mv [(.tmp 0)],
 .p 8 .len [(.tmp 7)],
 .p 9 (.bin .gtr) [(.tmp 6), (.tmp 8)]]) (
 .cond (.tmp 9) (
 .seq (
 .ops [
 .p 4 .mv [(.const (.int .i64 (-1)))]]) (
 .ret)) (
 .skip))) (
 .seq (
 .dr (
 .one ⟨.p 10 .mv [(.tmp 0)], []⟩ (
 .one ⟨.p 11 .mv [(.tmp 1)], []⟩ (
 .one ⟨.p 12 (.ixs 1) [(.tmp 10), (.tmp 11)], []⟩ (
 .one ⟨.ld 13 (.tmp 12), []⟩ (
 .one ⟨.p 14 (.conv .i64) [(.tmp 13)], []⟩ (
 .one ⟨.p 15 (.bin .mul) [(.const (.int .i64 16777216)), (.tmp 14)], []⟩ (
 .one ⟨.p 16 .mv [(.tmp 0)], []⟩ (
 .one ⟨.p 17 .mv [(.tmp 1)], []⟩ (
 .one ⟨.p 18 (.bin .add) [(.tmp 17), (.const (.int .i64 1))], []⟩ (
 .one ⟨.p 19 (.ixs 1) [(.tmp 16), (.tmp 18)], []⟩ (
 .one ⟨.ld 20 (.tmp 19), []⟩ (
 .one ⟨.p 21 (.conv .i64) [(.tmp 20)], []⟩ (
 .one ⟨.p 22 (.bin .mul) [(.const (.int .i64 65536)), (.tmp 21)], []⟩ (
 .one ⟨.p 23 (.bin .add) [(.tmp 15), (.tmp 22)], []⟩ (
 .one ⟨.p 24 .mv [(.tmp 0)], []⟩ (
 .one ⟨.p 25 .mv [(.tmp 1)], []⟩ (
 .one ⟨.p 26 (.bin .add) [(.tmp 25), (.const (.int .i64 2))], []⟩ (
 .one ⟨.p 27 (.ixs 1) [(.tmp 24), (.tmp 26)], []⟩ (
 .one ⟨.ld 28 (.tmp 27), []⟩ (
 .one ⟨.p 29 (.conv .i64) [(.tmp 28)], []⟩ (
 .one ⟨.p 30 (.bin .mul) [(.const (.int .i64 256)), (.tmp 29)], []⟩ (
 .one ⟨.p 31 (.bin .add) [(.tmp 23), (.tmp 30)], []⟩ (
 .one ⟨.p 32 .mv [(.tmp 0)], []⟩ (
 .one ⟨.p 33 .mv [(.tmp 1)], []⟩ (
 .one ⟨.p 34 (.bin .add) [(.tmp 33), (.const (.int .i64 3))], []⟩ (
 .one ⟨.p 35 (.ixs 1) [(.tmp 32), (.tmp 34)], []⟩ (
 .one ⟨.ld 36 (.tmp 35), []⟩ (
 .one ⟨.p 37 (.conv .i64) [(.tmp 36)], []⟩ (
 .one ⟨.p 38 (.bin .add) [(.tmp 31), (.tmp 37)], []⟩ (
 .one ⟨.p 4 .mv [(.tmp 38)], []⟩ (
 .nil)))))))))))))))))))))))))))))))) (
 .ret)))⟩

theorem Aac : trF Tryz.prog DN = some m_ref01_At := by kernel_rfl
-- 101 shardlog/frame.Scan; Ae [(0, b), (1, b), (4, out), (5, all), (6, rec), (7, rest), (8, ok)]
noncomputable def m_frame_Scan : MF := ⟨29, [.t 2, .t 3],
 .seq (
 .ops [
 .p 2 .mv [(.const (.slice none 0 0))],
 .p 3 .mv [(.const (.int .i64 0))]]) (
 .seq (
 .ops [
 .p 4 .mv [(.const (.slice none 0 0))]]) (
 .seq (
 .ops [
 .p 9 .mv [(.tmp 0)],
 .p 10 .len [(.tmp 9)],
 .p 5 .mv [(.tmp 10)]]) (
 .block 0 (
 .loop (
 .block 1 (
 .seq (
 .ops [
 .p 12 .mv [(.tmp 0)],
 .call (some 13) Nw [(.tmp 12)],
 .p 11 .mv [(.tmp 13)],
 .p 14 (.ext 0) [(.tmp 11)],
 .p 15 (.ext 1) [(.tmp 11)],
 .p 16 (.ext 2) [(.tmp 11)],
 .p 6 .mv [(.tmp 14)],
 .p 7 .mv [(.tmp 15)],
 .p 8 .mv [(.tmp 16)]]) (
 .seq (
 .seq (
 .ops [
 .p 17 .mv [(.tmp 8)],
 .p 18 .not [(.tmp 17)]]) (
 .cond (.tmp 18) (
 .seq (
 .ops [
 .p 19 .mv [(.tmp 4)],
 .p 20 .mv [(.tmp 5)],
 .p 21 .mv [(.tmp 0)],
 .p 22 .len [(.tmp 21)],
 .p 23 (.bin .sub) [(.tmp 20), (.tmp 22)],
 .p 2 .mv [(.tmp 19)],
 .p 3 .mv [(.tmp 23)]]) (
 .ret)) (
 .skip))) (
 .seq (
 .ops [
 .p 24 .mv [(.tmp 4)],
 .p 25 .mv [(.tmp 6)],
 .bsl 26 Ap 1 [(.slice none 0 0)] [(0, 1)] [(.tmp 25)],
 .app 27 #[JG, JG] JG (.tmp 24) (.tmp 26),
 .p 4 .mv [(.tmp 27)]]) (
 .ops [
 .p 28 .mv [(.tmp 7)],
 .p 0 .mv [(.tmp 28)]])))))))))⟩

theorem WX : trF Tryz.prog LY = some m_frame_Scan := by kernel_rfl
-- 102 (*shardlog/log.says).take; Ae [(0, s), (1, rec), (2, s), (3, rec), (5, b), (6, v), (7, e)]
noncomputable def m_log_says_take : MF := ⟨49, [.t 4],
 .seq (
 .ops [
 .p 4 .mv [(.const (.bool false))]]) (
 .seq (
 .ops [
 .p 9 .mv [(.tmp 1)],
 .call (some 10) OJ [(.tmp 9)],
 .p 8 .mv [(.tmp 10)],
 .p 11 (.ext 0) [(.tmp 8)],
 .p 12 (.ext 1) [(.tmp 8)],
 .p 13 (.ext 2) [(.tmp 8)],
 .new 6 Ah [(.int .i64 0), (.int .i64 0), (.int .i64 0), (.bool false), (.string .empty)],
 .p 5 .mv [(.tmp 11)],
 .st 5 true (.tmp 6) (.tmp 12),
 .p 7 .mv [(.tmp 13)]]) (
 .seq (
 .seq (
 .ops [
 .p 14 .mv [(.tmp 7)],
 .p 15 (.bin .neq) [(.tmp 14), (.const (.int .i64 0))]]) (
 .cond (.tmp 15) (
 .seq (
 .ops [
 .p 4 .mv [(.const (.bool false))]]) (
 .ret)) (
 .skip))) (
 .seq (
 .dr (
 .one ⟨.p 16 .mv [(.tmp 0)], []⟩ (
 .one ⟨.p 17 .mv [(.tmp 0)], []⟩ (
 .one ⟨.p 18 .nilc [(.tmp 17)], []⟩ (
 .one ⟨.p 19 (.fad 0) [(.tmp 18)], []⟩ (
 .one ⟨.ld 20 (.tmp 19), []⟩ (
 .one ⟨.p 21 .mv [(.tmp 5)], []⟩ (
 .one ⟨.p 22 (.fad 1) [(.tmp 6)], []⟩ (
 .one ⟨.ld 23 (.tmp 22), []⟩ (
 .one ⟨.p 24 .max [(.tmp 20), (.tmp 21), (.tmp 23)], []⟩ (
 .one ⟨.p 25 .nilc [(.tmp 16)], []⟩ (
 .one ⟨.p 26 (.fad 0) [(.tmp 25)], []⟩ (
 .one ⟨.st 1 false (.tmp 26) (.tmp 24), []⟩ (
 .nil)))))))))))))) (
 .seq (
 .seq (
 .dr (
 .one ⟨.p 27 .mv [(.tmp 5)], []⟩ (
 .one ⟨.p 28 (.bin .eql) [(.tmp 27), (.const (.int .i64 0))], []⟩ (
 .one ⟨.p 29 .mv [(.tmp 28)], []⟩ (
 .one ⟨.gd 29 true (some 30) (.p 30 (.fad 1) [(.tmp 6)]), []⟩ (
 .one ⟨.gd 29 true (some 31) (.ld 31 (.tmp 30)), []⟩ (
 .one ⟨.gd 29 true (some 32) (.p 32 .mv [(.tmp 0)]), []⟩ (
 .one ⟨.gd 29 true (some 33) (.p 33 .nilc [(.tmp 32)]), []⟩ (
 .one ⟨.gd 29 true (some 34) (.p 34 (.fad 1) [(.tmp 33)]), []⟩ (
 .one ⟨.gd 29 true (some 35) (.ld 35 (.tmp 34)), []⟩ (
 .one ⟨.gd 29 true (some 36) (.p 36 (.fad 0) [(.tmp 6)]), []⟩ (
 .one ⟨.gd 29 true (some 37) (.ld 37 (.tmp 36)), []⟩ (
 .one ⟨.gd 29 true (some 38) (.gen (some 38) ⟨(some 38), (.lookup 111 (.tmp 35) (.tmp 37) false), Ah, "log.go:33", #[⟨8, .data⟩, ⟨10, .data⟩, ⟨2, .guard⟩], (some (2, true))⟩), [.gd 29 true (some 31) (.ld 31 (.tmp 30))]⟩ (
 .one ⟨.gd 29 true (some 39) (.p 39 (.fld 1 1 false) [(.tmp 38)]), []⟩ (
 .one ⟨.gd 29 true (some 40) (.p 40 (.bin .geq) [(.tmp 31), (.tmp 39)]), []⟩ (
 .one ⟨.p 41 .pick [(.tmp 29), (.tmp 40), (.const (.bool false))], []⟩ (
 .nil))))))))))))))))) (
 .cond (.tmp 41) (
 .dr (
 .one ⟨.p 42 .mv [(.tmp 0)], []⟩ (
 .one ⟨.p 43 .nilc [(.tmp 42)], []⟩ (
 .one ⟨.p 44 (.fad 1) [(.tmp 43)], []⟩ (
 .one ⟨.ld 45 (.tmp 44), []⟩ (
 .one ⟨.p 46 (.fad 0) [(.tmp 6)], []⟩ (
 .one ⟨.ld 47 (.tmp 46), []⟩ (
 .one ⟨.ldn 48 5 (.tmp 6), []⟩ (
 .one ⟨.genu ⟨none, (.mapUpdate 111 (.tmp 45) (.tmp 47) (.tmp 48)), 0, "log.go:34", #[⟨3, .data⟩, ⟨5, .data⟩, ⟨6, .data⟩, ⟨0, .phase⟩, ⟨1, .phase⟩, ⟨2, .phase⟩, ⟨3, .phase⟩, ⟨4, .phase⟩, ⟨5, .phase⟩, ⟨6, .phase⟩], none⟩, []⟩ (
 .nil)))))))))) (
 .skip))) (
 .seq (
 .ops [
 .p 4 .mv [(.const (.bool true))]]) (
 .ret))))))⟩

theorem RG : trF Tryz.prog G6 = some m_log_says_take := by kernel_rfl
-- 103 shardlog/frame.Put; Ae [(0, rec), (1, rec), (3, n)]
noncomputable def m_frame_Put : MF := ⟨18, [.t 2],
 .seq (
 .ops [
 .p 2 .mv [(.const (.slice none 0 0))]]) (
 .seq (
 .seq (
 .ops [
 .p 4 .mv [(.tmp 0)],
 .p 5 .len [(.tmp 4)],
 .p 6 (.bin .gtr) [(.tmp 5), (.const (.int .i64 65535))]]) (
 .cond (.tmp 6) (
 .seq (
 .ops [
 .p 2 .mv [(.const (.slice none 0 0))]]) (
 .ret)) (
 .skip))) (
 .seq (
 .ops [
 .p 7 .mv [(.tmp 0)],
 .p 8 .len [(.tmp 7)],
 .call (some 9) DL [(.tmp 8)],
 .p 3 .mv [(.tmp 9)]]) (
 .seq (
 .ops [
 .p 10 .mv [(.tmp 3)],
 .p 11 .mv [(.tmp 3)],
 .call (some 12) Gg [(.tmp 11)],
 .p 13 .mv [(.tmp 0)],
 .call (some 14) Gg [(.tmp 13)],
 .p 15 .mv [(.tmp 0)],
 .bsl 16 Ap 4 [(.slice none 0 0), (.slice none 0 0), (.slice none 0 0), (.slice none 0 0)] [(0, 1), (1, 1), (2, 1), (3, 1)] [(.tmp 10), (.tmp 12), (.tmp 14), (.tmp 15)],
 .call (some 17) D8 [(.tmp 16)],
 .p 2 .mv [(.tmp 17)]]) (
 .ret))))⟩

theorem YG : trF Tryz.prog Jf = some m_frame_Put := by kernel_rfl
-- 105 shardlog/shardlogref02.Sum; Ae [(0, b), (1, b), (3, w), (4, i), (5, k), (6, odd)]
noncomputable def m_ref02_Sum : MF := ⟨34, [.t 2],
 .seq (
 .ops [
 .p 2 .mv [(.const (.int .u32 0))]]) (
 .seq (
 .ops [
 .p 3 .mv [(.const (.int .u32 4294967295))]]) (
 .seq (
 .seq (
 .ops [
 .p 4 .mv [(.const (.int .i64 0))]]) (
 .block 0 (
 .loop (
 .seq (
 .seq (
 .ops [
 .p 7 .mv [(.tmp 4)],
 .p 8 .mv [(.tmp 0)],
 .p 9 .len [(.tmp 8)],
 .p 10 (.bin .lss) [(.tmp 7), (.tmp 9)]]) (
 .cond (.tmp 10) (
 .skip) (
 .exit 0))) (
 .seq (
 .block 1 (
 .seq (
 .ops [
 .p 13 .mv [(.tmp 3)],
 .p 14 .mv [(.tmp 0)],
 .p 15 .mv [(.tmp 4)],
 .p 16 (.ixs 1) [(.tmp 14), (.tmp 15)],
 .ld 17 (.tmp 16),
 .p 18 (.conv .u32) [(.tmp 17)],
 .p 19 (.bin .xor) [(.tmp 13), (.tmp 18)],
 .p 3 .mv [(.tmp 19)]]) (
 .seq (
 .ops [
 .p 5 .mv [(.const (.int .i64 0))]]) (
 .block 2 (
 .loop (
 .seq (
 .seq (
 .ops [
 .p 20 .mv [(.tmp 5)],
 .p 21 (.bin .lss) [(.tmp 20), (.const (.int .i64 8))]]) (
 .cond (.tmp 21) (
 .skip) (
 .exit 2))) (
 .seq (
 .block 3 (
 .seq (
 .ops [
 .p 24 .mv [(.tmp 3)],
 .p 25 (.bin .rem) [(.tmp 24), (.const (.int .u32 2))],
 .p 26 (.bin .eql) [(.tmp 25), (.const (.int .u32 1))],
 .p 6 .mv [(.tmp 26)]]) (
 .seq (
 .ops [
 .p 27 .mv [(.tmp 3)],
 .p 28 (.bin .quo) [(.tmp 27), (.const (.int .u32 2))],
 .p 3 .mv [(.tmp 28)]]) (
 .seq (
 .ops [
 .p 29 .mv [(.tmp 6)]]) (
 .cond (.tmp 29) (
 .ops [
 .p 30 .mv [(.tmp 3)],
 .p 31 (.bin .xor) [(.tmp 30), (.const (.int .u32 2197175160))],
 .p 3 .mv [(.tmp 31)]]) (
 .skip)))))) (
 .ops [
 .p 22 .mv [(.tmp 5)],
 .p 23 (.bin .add) [(.tmp 22), (.const (.int .i64 1))],
 .p 5 .mv [(.tmp 23)]])))))))) (
 .ops [
 .p 11 .mv [(.tmp 4)],
 .p 12 (.bin .add) [(.tmp 11), (.const (.int .i64 1))],
 .p 4 .mv [(.tmp 12)]])))))) (
 .seq (
 .ops [
 .p 32 .mv [(.tmp 3)],
 .p 33 (.bin .sub) [(.const (.int .u32 4294967295)), (.tmp 32)],
 .p 2 .mv [(.tmp 33)]]) (
 .ret))))⟩

theorem YB : trF Tryz.prog H8 = some m_ref02_Sum := by kernel_rfl
-- 107 shardlog/slot.ballot; Ae [(0, b), (1, b)]
noncomputable def m_slot_ballot : MF := ⟨9, [.t 2],
 .seq (
 .ops [
 .p 2 .mv [(.const (.bool false))]]) (
 .seq (
 .ops [
 .p 3 .mv [(.tmp 0)],
 .p 4 (.bin .geq) [(.tmp 3), (.const (.int .i64 1))],
 .p 5 .mv [(.tmp 4)],
 .gd 5 true (some 6) (.p 6 .mv [(.tmp 0)]),
 .gd 5 true (some 7) (.p 7 (.bin .leq) [(.tmp 6), (.const (.int .i64 2147483647))]),
 .p 8 .pick [(.tmp 5), (.tmp 7), (.const (.bool false))],
 .p 2 .mv [(.tmp 8)]]) (
 .ret))⟩

theorem UB : trF Tryz.prog GY = some m_slot_ballot := by kernel_rfl
-- 110 shardlog/slot.Right; Ae [(0, v), (1, v)]
noncomputable def m_slot_Right : MF := ⟨34, [.t 2],
 .seq (
 .ops [
 .box 1 Ah (.tmp 0),
 .p 2 .mv [(.const (.bool false))]]) (
 .seq (
 .ops [
 .p 3 (.fad 0) [(.tmp 1)],
 .ld 4 (.tmp 3),
 .p 5 (.bin .geq) [(.tmp 4), (.const (.int .i64 0))],
 .p 6 .mv [(.tmp 5)],
 .gd 6 true (some 7) (.p 7 (.fad 0) [(.tmp 1)]),
 .gd 6 true (some 8) (.ld 8 (.tmp 7)),
 .gd 6 true (some 9) (.p 9 (.bin .lss) [(.tmp 8), (.const (.int .i64 64))]),
 .p 10 .pick [(.tmp 6), (.tmp 9), (.const (.bool false))],
 .p 11 .mv [(.tmp 10)],
 .gd 11 true (some 12) (.p 12 (.fad 1) [(.tmp 1)]),
 .gd 11 true (some 13) (.ld 13 (.tmp 12)),
 .gd 11 true (some 14) (.call (some 14) GY [(.tmp 13)]),
 .p 15 .pick [(.tmp 11), (.tmp 14), (.const (.bool false))],
 .p 16 .mv [(.tmp 15)],
 .gd 16 true (some 17) (.p 17 (.fad 2) [(.tmp 1)]),
 .gd 16 true (some 18) (.ld 18 (.tmp 17)),
 .gd 16 true (some 19) (.call (some 19) GY [(.tmp 18)]),
 .p 20 .pick [(.tmp 16), (.tmp 19), (.const (.bool false))],
 .p 21 .mv [(.tmp 20)],
 .gd 21 true (some 22) (.p 22 (.fad 2) [(.tmp 1)]),
 .gd 21 true (some 23) (.ld 23 (.tmp 22)),
 .gd 21 true (some 24) (.p 24 (.fad 1) [(.tmp 1)]),
 .gd 21 true (some 25) (.ld 25 (.tmp 24)),
 .gd 21 true (some 26) (.p 26 (.bin .leq) [(.tmp 23), (.tmp 25)]),
 .p 27 .pick [(.tmp 21), (.tmp 26), (.const (.bool false))],
 .p 28 .mv [(.tmp 27)],
 .gd 28 true (some 29) (.p 29 (.fad 4) [(.tmp 1)]),
 .gd 28 true (some 30) (.ld 30 (.tmp 29)),
 .gd 28 true (some 31) (.p 31 .lens [(.tmp 30)]),
 .gd 28 true (some 32) (.p 32 (.bin .leq) [(.tmp 31), (.const (.int .i64 520))]),
 .p 33 .pick [(.tmp 28), (.tmp 32), (.const (.bool false))],
 .p 2 .mv [(.tmp 33)]]) (
 .ret))⟩

theorem WQ : trF Tryz.prog LQ = some m_slot_Right := by kernel_rfl
-- 111 shardlog/slot.full; Ae [(0, is), (1, is)]
noncomputable def m_slot_full : MF := ⟨4, [.t 2],
 .seq (
 .ops [
 .p 2 .mv [(.const (.int .i64 0))]]) (
 .seq (
 .seq (
 .ops [
 .p 3 .mv [(.tmp 0)]]) (
 .cond (.tmp 3) (
 .seq (
 .ops [
 .p 2 .mv [(.const (.int .i64 1))]]) (
 .ret)) (
 .skip))) (
 .seq (
 .ops [
 .p 2 .mv [(.const (.int .i64 0))]]) (
 .ret)))⟩

theorem Yv : trF Tryz.prog Nq = some m_slot_full := by kernel_rfl
-- 115 shardlog/shardlogref17.Put1; Ae [(0, l), (1, v), (2, l), (3, v), (5, at), (6, rest)]
noncomputable def m_ref17_Put1 : MF := ⟨54, [.t 4],
 .seq (
 .ops [
 .box 3 Ah (.tmp 1),
 .p 4 .mv [(.const (.slice none 0 0))]]) (
 .seq (
 .ops [
 .p 5 .mv [(.const (.int .i64 0))]]) (
 .seq (
 .block 0 (
 .loop (
 .seq (
 .seq (
 .dr (
 .one ⟨.p 7 .mv [(.tmp 5)], []⟩ (
 .one ⟨.p 8 .mv [(.tmp 0)], []⟩ (
 .one ⟨.p 9 .len [(.tmp 8)], []⟩ (
 .one ⟨.p 10 (.bin .lss) [(.tmp 7), (.tmp 9)], []⟩ (
 .one ⟨.p 11 .mv [(.tmp 10)], []⟩ (
 .one ⟨.gd 11 true (some 12) (.p 12 .mv [(.tmp 0)]), []⟩ (
 .one ⟨.gd 11 true (some 13) (.p 13 .mv [(.tmp 5)]), []⟩ (
 .one ⟨.gd 11 true (some 14) (.p 14 (.ixs 5) [(.tmp 12), (.tmp 13)]), []⟩ (
 .one ⟨.gd 11 true (some 15) (.p 15 (.fad 0) [(.tmp 14)]), []⟩ (
 .one ⟨.gd 11 true (some 16) (.ld 16 (.tmp 15)), []⟩ (
 .one ⟨.gd 11 true (some 17) (.p 17 (.fad 0) [(.tmp 3)]), []⟩ (
 .one ⟨.gd 11 true (some 18) (.ld 18 (.tmp 17)), []⟩ (
 .one ⟨.gd 11 true (some 19) (.p 19 (.bin .lss) [(.tmp 16), (.tmp 18)]), []⟩ (
 .one ⟨.p 20 .pick [(.tmp 11), (.tmp 19), (.const (.bool false))], []⟩ (
 .nil)))))))))))))))) (
 .cond (.tmp 20) (
 .skip) (
 .exit 0))) (
 .block 1 (
 .ops [
 .p 21 .mv [(.tmp 5)],
 .p 22 (.bin .add) [(.tmp 21), (.const (.int .i64 1))],
 .p 5 .mv [(.tmp 22)]]))))) (
 .seq (
 .ops [
 .p 23 .mv [(.tmp 0)],
 .p 24 .mv [(.tmp 5)],
 .p 25 (.sls 5 true false false) [(.tmp 23), (.tmp 24)],
 .p 6 .mv [(.tmp 25)]]) (
 .seq (
 .seq (
 .dr (
 .one ⟨.p 26 .mv [(.tmp 5)], []⟩ (
 .one ⟨.p 27 .mv [(.tmp 0)], []⟩ (
 .one ⟨.p 28 .len [(.tmp 27)], []⟩ (
 .one ⟨.p 29 (.bin .lss) [(.tmp 26), (.tmp 28)], []⟩ (
 .one ⟨.p 30 .mv [(.tmp 29)], []⟩ (
 .one ⟨.gd 30 true (some 31) (.p 31 .mv [(.tmp 0)]), []⟩ (
 .one ⟨.gd 30 true (some 32) (.p 32 .mv [(.tmp 5)]), []⟩ (
 .one ⟨.gd 30 true (some 33) (.p 33 (.ixs 5) [(.tmp 31), (.tmp 32)]), []⟩ (
 .one ⟨.gd 30 true (some 34) (.p 34 (.fad 0) [(.tmp 33)]), []⟩ (
 .one ⟨.gd 30 true (some 35) (.ld 35 (.tmp 34)), []⟩ (
 .one ⟨.gd 30 true (some 36) (.p 36 (.fad 0) [(.tmp 3)]), []⟩ (
 .one ⟨.gd 30 true (some 37) (.ld 37 (.tmp 36)), []⟩ (
 .one ⟨.gd 30 true (some 38) (.p 38 (.bin .eql) [(.tmp 35), (.tmp 37)]), []⟩ (
 .one ⟨.p 39 .pick [(.tmp 30), (.tmp 38), (.const (.bool false))], []⟩ (
 .nil)))))))))))))))) (
 .cond (.tmp 39) (
 .ops [
 .p 40 .mv [(.tmp 0)],
 .p 41 .mv [(.tmp 5)],
 .p 42 (.bin .add) [(.tmp 41), (.const (.int .i64 1))],
 .p 43 (.sls 5 true false false) [(.tmp 40), (.tmp 42)],
 .p 6 .mv [(.tmp 43)]]) (
 .skip))) (
 .seq (
 .dr (
 .one ⟨.p 45 .mv [(.tmp 0)], []⟩ (
 .one ⟨.p 46 .mv [(.tmp 5)], []⟩ (
 .one ⟨.p 47 (.sls 5 false true false) [(.tmp 45), (.tmp 46)], []⟩ (
 .one ⟨.ldn 49 5 (.tmp 3), []⟩ (
 .one ⟨.p 52 .mv [(.tmp 6)], []⟩ (
 .alt ⟨.bsl 44 Ah 0 [] [] [], [.ldn 49 5 (.tmp 3)]⟩ (
 .alt ⟨.app 48 #[Cc, Cc] Cc (.tmp 44) (.tmp 47), [.ldn 49 5 (.tmp 3)]⟩ (
 .one ⟨.bsl 50 Ah 1 [(.int .i64 0), (.int .i64 0), (.int .i64 0), (.bool false), (.string .empty)] [(0, 5)] [(.tmp 49)], []⟩ (
 .one ⟨.app 51 #[Cc, Cc] Cc (.tmp 48) (.tmp 50), []⟩ (
 .one ⟨.app 53 #[Cc, Cc] Cc (.tmp 51) (.tmp 52), []⟩ (
 .one ⟨.p 4 .mv [(.tmp 53)], []⟩ (
 .nil))))) ⟨.bsl 50 Ah 1 [(.int .i64 0), (.int .i64 0), (.int .i64 0), (.bool false), (.string .empty)] [(0, 5)] [(.tmp 49)], []⟩ (
 .one ⟨.app 48 #[Cc, Cc] Cc (.tmp 44) (.tmp 47), []⟩ (
 .one ⟨.app 51 #[Cc, Cc] Cc (.tmp 48) (.tmp 50), []⟩ (
 .one ⟨.app 53 #[Cc, Cc] Cc (.tmp 51) (.tmp 52), []⟩ (
 .one ⟨.p 4 .mv [(.tmp 53)], []⟩ (
 .nil)))))) ⟨.bsl 50 Ah 1 [(.int .i64 0), (.int .i64 0), (.int .i64 0), (.bool false), (.string .empty)] [(0, 5)] [(.tmp 49)], []⟩ (
 .one ⟨.bsl 44 Ah 0 [] [] [], []⟩ (
 .one ⟨.app 48 #[Cc, Cc] Cc (.tmp 44) (.tmp 47), []⟩ (
 .one ⟨.app 51 #[Cc, Cc] Cc (.tmp 48) (.tmp 50), []⟩ (
 .one ⟨.app 53 #[Cc, Cc] Cc (.tmp 51) (.tmp 52), []⟩ (
 .one ⟨.p 4 .mv [(.tmp 53)], []⟩ (
 .nil))))))))))))) (
 .ret))))))⟩

theorem WT : trF Tryz.prog Ik = some m_ref17_Put1 := by kernel_rfl
-- 117 maps.Keys[map[int]shardlog/api.Vote,int,shardlog/api.Vote]; Ae [(0, m), (1, m)]
noncomputable def m_maps_Keys_3 : MF := ⟨4, [.t 2],
 .seq (
 .ops [
 .box 1 111 (.tmp 0),
 .p 2 .mv [(.const .nilFunc)]]) (
 .seq (
 .ops [
 .p 3 (.fn (.func MI) 0) [(.tmp 1)],
 .p 2 .mv [(.tmp 3)]]) (
 .ret))⟩

theorem UE : trF Tryz.prog KE = some m_maps_Keys_3 := by kernel_rfl
-- 142 shardlog/frame.Cut; Ae [(0, b), (1, b), (5, n), (6, _), (7, _), (8, body)]
noncomputable def m_frame_Cut : MF := ⟨53, [.t 2, .t 3, .t 4],
 .seq (
 .ops [
 .p 2 .mv [(.const (.slice none 0 0))],
 .p 3 .mv [(.const (.slice none 0 0))],
 .p 4 .mv [(.const (.bool false))]]) (
 .seq (
 .seq (
 .ops [
 .p 9 .mv [(.tmp 0)],
 .p 10 .len [(.tmp 9)],
 .p 11 (.bin .lss) [(.tmp 10), (.const (.int .i64 12))]]) (
 .cond (.tmp 11) (
 .seq (
 .ops [
 .p 2 .mv [(.const (.slice none 0 0))],
 .p 3 .mv [(.const (.slice none 0 0))],
 .p 4 .mv [(.const (.bool false))]]) (
 .ret)) (
 .skip))) (
 .seq (
 .ops [
 .p 13 .mv [(.tmp 0)],
 .call (some 14) DW [(.tmp 13)],
 .p 12 .mv [(.tmp 14)],
 .p 15 (.ext 0) [(.tmp 12)],
 .p 16 (.ext 1) [(.tmp 12)],
 .p 17 (.ext 2) [(.tmp 12)],
 .p 5 .mv [(.tmp 15)],
 .p 6 .mv [(.tmp 16)],
 .p 7 .mv [(.tmp 17)]]) (
 .seq (
 .ops [
 .p 18 .mv [(.tmp 0)],
 .p 19 (.sls 1 true false false) [(.tmp 18), (.const (.int .i64 12))],
 .call (some 20) EX [(.tmp 19)],
 .p 8 .mv [(.tmp 20)]]) (
 .seq (
 .seq (
 .dr (
 .one ⟨.p 21 .mv [(.tmp 5)], []⟩ (
 .one ⟨.p 22 (.bin .gtr) [(.tmp 21), (.const (.int .i64 65535))], []⟩ (
 .one ⟨.p 23 .mv [(.tmp 22)], []⟩ (
 .one ⟨.gd 23 false (some 24) (.p 24 .mv [(.tmp 5)]), []⟩ (
 .one ⟨.gd 23 false (some 25) (.p 25 .mv [(.tmp 8)]), []⟩ (
 .one ⟨.gd 23 false (some 26) (.p 26 .len [(.tmp 25)]), []⟩ (
 .one ⟨.gd 23 false (some 27) (.p 27 (.bin .gtr) [(.tmp 24), (.tmp 26)]), []⟩ (
 .one ⟨.p 28 .pick [(.tmp 23), (.const (.bool true)), (.tmp 27)], []⟩ (
 .one ⟨.p 29 .mv [(.tmp 28)], []⟩ (
 .one ⟨.gd 29 false (some 30) (.p 30 .mv [(.tmp 0)]), []⟩ (
 .one ⟨.gd 29 false (some 31) (.p 31 (.sls 1 false true false) [(.tmp 30), (.const (.int .i64 12))]), []⟩ (
 .one ⟨.gd 29 false (some 32) (.p 32 .mv [(.tmp 0)]), []⟩ (
 .one ⟨.gd 29 false (some 33) (.p 33 (.sls 1 false true false) [(.tmp 32), (.const (.int .i64 4))]), []⟩ (
 .one ⟨.gd 29 false (some 34) (.p 34 .mv [(.tmp 0)]), []⟩ (
 .one ⟨.gd 29 false (some 35) (.p 35 (.sls 1 false true false) [(.tmp 34), (.const (.int .i64 4))]), []⟩ (
 .one ⟨.gd 29 false (some 37) (.p 37 .mv [(.tmp 8)]), []⟩ (
 .one ⟨.gd 29 false (some 38) (.p 38 .mv [(.tmp 5)]), []⟩ (
 .one ⟨.gd 29 false (some 39) (.p 39 (.sls 1 false true false) [(.tmp 37), (.tmp 38)]), []⟩ (
 .one ⟨.gd 29 false (some 36) (.call (some 36) Gg [(.tmp 35)]), []⟩ (
 .one ⟨.gd 29 false (some 40) (.call (some 40) Gg [(.tmp 39)]), []⟩ (
 .one ⟨.gd 29 false (some 41) (.bsl 41 Ap 3 [(.slice none 0 0), (.slice none 0 0), (.slice none 0 0)] [(0, 1), (1, 1), (2, 1)] [(.tmp 33), (.tmp 36), (.tmp 40)]), []⟩ (
 .one ⟨.gd 29 false (some 42) (.call (some 42) D8 [(.tmp 41)]), []⟩ (
 .one ⟨.gd 29 false (some 43) (.call (some 43) Gf [(.tmp 31), (.tmp 42)]), []⟩ (
 .one ⟨.gd 29 false (some 44) (.p 44 .not [(.tmp 43)]), []⟩ (
 .one ⟨.p 45 .pick [(.tmp 29), (.const (.bool true)), (.tmp 44)], []⟩ (
 .nil))))))))))))))))))))))))))) (
 .cond (.tmp 45) (
 .seq (
 .ops [
 .p 2 .mv [(.const (.slice none 0 0))],
 .p 3 .mv [(.const (.slice none 0 0))],
 .p 4 .mv [(.const (.bool false))]]) (
 .ret)) (
 .skip))) (
 .seq (
 .dr (
 .one ⟨.p 46 .mv [(.tmp 8)], []⟩ (
 .one ⟨.p 47 .mv [(.tmp 5)], []⟩ (
 .one ⟨.p 48 .mv [(.tmp 5)], []⟩ (
 .one ⟨.p 49 (.sls 1 false true true) [(.tmp 46), (.tmp 47), (.tmp 48)], []⟩ (
 .one ⟨.p 50 .mv [(.tmp 8)], []⟩ (
 .one ⟨.p 51 .mv [(.tmp 5)], []⟩ (
 .one ⟨.p 52 (.sls 1 true false false) [(.tmp 50), (.tmp 51)], []⟩ (
 .one ⟨.p 2 .mv [(.tmp 49)], []⟩ (
 .one ⟨.p 3 .mv [(.tmp 52)], []⟩ (
 .one ⟨.p 4 .mv [(.const (.bool true))], []⟩ (
 .nil)))))))))))) (
 .ret))))))⟩

theorem YH : trF Tryz.prog Nw = some m_frame_Cut := by kernel_rfl
-- 144 shardlog/slot.Get; Ae [(0, rec), (1, rec), (5, kind), (6, rest), (7, _), (8, b), (9, _), (10, _), (11, again), (12, e), (13, v), (14, again), (15, e)]
noncomputable def m_slot_Get : MF := ⟨63, [.t 2, .cn 3 5, .t 4],
 .seq (
 .ops [
 .p 2 .mv [(.const (.int .i64 0))],
 .new 3 Ah [(.int .i64 0), (.int .i64 0), (.int .i64 0), (.bool false), (.string .empty)],
 .p 4 .mv [(.const (.int .i64 0))]]) (
 .seq (
 .ops [
 .p 17 .mv [(.tmp 0)],
 .call (some 18) DW [(.tmp 17)],
 .p 16 .mv [(.tmp 18)],
 .p 19 (.ext 0) [(.tmp 16)],
 .p 20 (.ext 1) [(.tmp 16)],
 .p 21 (.ext 2) [(.tmp 16)],
 .p 5 .mv [(.tmp 19)],
 .p 6 .mv [(.tmp 20)],
 .p 7 .mv [(.tmp 21)]]) (
 .seq (
 .seq (
 .ops [
 .p 22 .mv [(.tmp 5)]]) (
 .block 0 (
 .seq (
 .ops [
 .p 24 (.bin .eql) [(.tmp 22), (.const (.int .i64 1))],
 .p 23 .mv [(.tmp 24)]]) (
 .cond (.tmp 23) (
 .seq (
 .ops [
 .p 26 .mv [(.tmp 6)],
 .call (some 27) DW [(.tmp 26)],
 .p 25 .mv [(.tmp 27)],
 .p 28 (.ext 0) [(.tmp 25)],
 .p 29 (.ext 1) [(.tmp 25)],
 .p 30 (.ext 2) [(.tmp 25)],
 .p 8 .mv [(.tmp 28)],
 .p 9 .mv [(.tmp 29)],
 .p 10 .mv [(.tmp 30)]]) (
 .seq (
 .ops [
 .p 32 .mv [(.tmp 8)],
 .call (some 33) F9 [(.tmp 32)],
 .p 31 .mv [(.tmp 33)],
 .p 34 (.ext 0) [(.tmp 31)],
 .p 35 (.ext 1) [(.tmp 31)],
 .p 11 .mv [(.tmp 34)],
 .p 12 .mv [(.tmp 35)]]) (
 .seq (
 .ops [
 .p 36 .mv [(.tmp 12)],
 .p 37 (.bin .eql) [(.tmp 36), (.const (.int .i64 0))],
 .p 38 .mv [(.tmp 37)],
 .gd 38 true (some 39) (.p 39 .mv [(.tmp 11)]),
 .gd 38 true (some 40) (.p 40 .mv [(.tmp 0)]),
 .gd 38 true (some 41) (.call (some 41) Gf [(.tmp 39), (.tmp 40)]),
 .p 42 .pick [(.tmp 38), (.tmp 41), (.const (.bool false))]]) (
 .cond (.tmp 42) (
 .seq (
 .ops [
 .p 43 .mv [(.tmp 8)],
 .p 44 (.build [(.int .i64 0), (.int .i64 0), (.int .i64 0), (.bool false), (.string .empty)] []) [],
 .p 2 .mv [(.tmp 43)],
 .st 5 true (.tmp 3) (.tmp 44),
 .p 4 .mv [(.const (.int .i64 0))]]) (
 .ret)) (
 .skip))))) (
 .seq (
 .ops [
 .p 46 (.bin .eql) [(.tmp 22), (.const (.int .i64 2))],
 .p 45 .mv [(.tmp 46)]]) (
 .cond (.tmp 45) (
 .seq (
 .ops [
 .p 47 .mv [(.tmp 6)],
 .call (some 48) OI [(.tmp 47)],
 .new 13 Ah [(.int .i64 0), (.int .i64 0), (.int .i64 0), (.bool false), (.string .empty)],
 .st 5 true (.tmp 13) (.tmp 48)]) (
 .seq (
 .ops [
 .ldn 50 5 (.tmp 13),
 .call (some 51) JY [(.tmp 50)],
 .p 49 .mv [(.tmp 51)],
 .p 52 (.ext 0) [(.tmp 49)],
 .p 53 (.ext 1) [(.tmp 49)],
 .p 14 .mv [(.tmp 52)],
 .p 15 .mv [(.tmp 53)]]) (
 .seq (
 .ops [
 .p 54 .mv [(.tmp 15)],
 .p 55 (.bin .eql) [(.tmp 54), (.const (.int .i64 0))],
 .p 56 .mv [(.tmp 55)],
 .gd 56 true (some 57) (.p 57 .mv [(.tmp 14)]),
 .gd 56 true (some 58) (.p 58 .mv [(.tmp 0)]),
 .gd 56 true (some 59) (.call (some 59) Gf [(.tmp 57), (.tmp 58)]),
 .p 60 .pick [(.tmp 56), (.tmp 59), (.const (.bool false))]]) (
 .cond (.tmp 60) (
 .seq (
 .dr (
 .one ⟨.ldn 61 5 (.tmp 13), []⟩ (
 .one ⟨.p 2 .mv [(.const (.int .i64 0))], []⟩ (
 .one ⟨.st 5 true (.tmp 3) (.tmp 61), []⟩ (
 .one ⟨.p 4 .mv [(.const (.int .i64 0))], []⟩ (
 .nil)))))) (
 .ret)) (
 .skip))))) (
 .skip))))))) (
 .seq (
 .ops [
 .p 62 (.build [(.int .i64 0), (.int .i64 0), (.int .i64 0), (.bool false), (.string .empty)] []) [],
 .p 2 .mv [(.const (.int .i64 0))],
 .st 5 true (.tmp 3) (.tmp 62),
 .p 4 .mv [(.const (.int .i64 2))]]) (
 .ret))))⟩

theorem Aab : trF Tryz.prog OJ = some m_slot_Get := by kernel_rfl
-- 145 shardlog/frame.sum; Ae [(0, b), (1, b)]
noncomputable def m_frame_sum : MF := ⟨7, [.t 2],
 .seq (
 .ops [
 .p 2 .mv [(.const (.slice none 0 0))]]) (
 .seq (
 .ops [
 .p 3 .mv [(.tmp 0)],
 .call (some 4) Nz [(.tmp 3)],
 .p 5 (.conv .i64) [(.tmp 4)],
 .call (some 6) DL [(.tmp 5)],
 .p 2 .mv [(.tmp 6)]]) (
 .ret))⟩

theorem YF : trF Tryz.prog Gg = some m_frame_sum := by kernel_rfl
-- 163 shardlog/slot.cut; Ae [(0, b), (1, b), (3, n), (4, ok), (5, i), (6, s), (7, _), (8, _)]
noncomputable def m_slot_cut : MF := ⟨39, [.cn 2 5],
 .seq (
 .ops [
 .new 2 Ah [(.int .i64 0), (.int .i64 0), (.int .i64 0), (.bool false), (.string .empty)]]) (
 .seq (
 .ops [
 .new 3 215 [(.int .i64 0), (.int .i64 0), (.int .i64 0), (.int .i64 0)]]) (
 .seq (
 .ops [
 .p 4 .mv [(.const (.bool true))]]) (
 .seq (
 .seq (
 .ops [
 .p 9 .mv [(.const (.int .i64 0))]]) (
 .block 0 (
 .loop (
 .seq (
 .ops [
 .p 10 (.bin .lss) [(.tmp 9), (.const (.int .i64 4))]]) (
 .seq (
 .cond (.tmp 10) (
 .skip) (
 .exit 0)) (
 .seq (
 .block 1 (
 .seq (
 .ops [
 .p 11 .mv [(.tmp 9)],
 .p 5 .mv [(.tmp 11)]]) (
 .seq (
 .ops [
 .p 12 .mv [(.tmp 4)]]) (
 .cond (.tmp 12) (
 .ops [
 .p 14 .mv [(.tmp 5)],
 .p 15 .mv [(.tmp 0)],
 .call (some 16) DW [(.tmp 15)],
 .p 13 .mv [(.tmp 16)],
 .p 17 (.ext 0) [(.tmp 13)],
 .p 18 (.ext 1) [(.tmp 13)],
 .p 19 (.ext 2) [(.tmp 13)],
 .p 20 (.ixa 4 1) [(.tmp 3), (.tmp 14)],
 .st 1 false (.tmp 20) (.tmp 17),
 .p 0 .mv [(.tmp 18)],
 .p 4 .mv [(.tmp 19)]]) (
 .skip))))) (
 .ops [
 .p 21 (.bin .add) [(.tmp 9), (.const (.int .i64 1))],
 .p 9 .mv [(.tmp 21)]]))))))) (
 .seq (
 .ops [
 .p 23 .mv [(.tmp 0)],
 .call (some 24) Ij [(.tmp 23)],
 .p 22 .mv [(.tmp 24)],
 .p 25 (.ext 0) [(.tmp 22)],
 .p 26 (.ext 1) [(.tmp 22)],
 .p 27 (.ext 2) [(.tmp 22)],
 .p 6 .mv [(.tmp 25)],
 .p 7 .mv [(.tmp 26)],
 .p 8 .mv [(.tmp 27)]]) (
 .seq (
 .ops [
 .p 28 (.ixa 4 1) [(.tmp 3), (.const (.int .i64 0))],
 .ld 29 (.tmp 28),
 .p 30 (.ixa 4 1) [(.tmp 3), (.const (.int .i64 1))],
 .ld 31 (.tmp 30),
 .p 32 (.ixa 4 1) [(.tmp 3), (.const (.int .i64 2))],
 .ld 33 (.tmp 32),
 .p 34 (.ixa 4 1) [(.tmp 3), (.const (.int .i64 3))],
 .ld 35 (.tmp 34),
 .p 36 (.bin .eql) [(.tmp 35), (.const (.int .i64 1))],
 .p 37 .mv [(.tmp 6)],
 .p 38 (.build [(.int .i64 0), (.int .i64 0), (.int .i64 0), (.bool false), (.string .empty)] [(0, 1), (1, 1), (2, 1), (3, 1), (4, 1)]) [(.tmp 29), (.tmp 31), (.tmp 33), (.tmp 36), (.tmp 37)],
 .st 5 true (.tmp 2) (.tmp 38)]) (
 .ret))))))⟩

theorem Z9 : trF Tryz.prog OI = some m_slot_cut := by kernel_rfl
-- 164 shardlog/check.Sum; Ae [(0, b), (1, b)]
noncomputable def m_check_Sum : MF := ⟨5, [.t 2],
 .seq (
 .ops [
 .p 2 .mv [(.const (.int .u32 0))]]) (
 .seq (
 .ops [
 .p 3 .mv [(.tmp 0)],
 .call (some 4) L6 [(.const (.int .u32 0)), (.tmp 3)],
 .p 2 .mv [(.tmp 4)]]) (
 .ret))⟩

theorem YJ : trF Tryz.prog Nz = some m_check_Sum := by kernel_rfl
-- 171 shardlog/check.More; Ae [(0, sum), (1, b), (2, sum), (3, b), (5, w), (6, _), (7, c)]
noncomputable def m_check_More : MF := ⟨22, [.t 4],
 .seq (
 .ops [
 .p 4 .mv [(.const (.int .u32 0))]]) (
 .seq (
 .ops [
 .p 8 .mv [(.tmp 0)],
 .p 9 (.bin .xor) [(.tmp 8), (.const (.int .u32 4294967295))],
 .p 5 .mv [(.tmp 9)]]) (
 .seq (
 .seq (
 .ops [
 .p 10 .mv [(.tmp 1)],
 .p 11 .len [(.tmp 10)],
 .p 12 .mv [(.const (.int .i64 0))]]) (
 .block 0 (
 .loop (
 .seq (
 .ops [
 .p 13 (.bin .lss) [(.tmp 12), (.tmp 11)]]) (
 .seq (
 .cond (.tmp 13) (
 .skip) (
 .exit 0)) (
 .seq (
 .block 1 (
 .seq (
 .ops [
 .p 14 (.ixs 1) [(.tmp 10), (.tmp 12)],
 .ld 15 (.tmp 14),
 .p 7 .mv [(.tmp 15)]]) (
 .ops [
 .p 16 .mv [(.tmp 5)],
 .p 17 .mv [(.tmp 7)],
 .call (some 18) Hy [(.tmp 16), (.tmp 17)],
 .p 5 .mv [(.tmp 18)]]))) (
 .ops [
 .p 19 (.bin .add) [(.tmp 12), (.const (.int .i64 1))],
 .p 12 .mv [(.tmp 19)]]))))))) (
 .seq (
 .ops [
 .p 20 .mv [(.tmp 5)],
 .p 21 (.bin .xor) [(.tmp 20), (.const (.int .u32 4294967295))],
 .p 4 .mv [(.tmp 21)]]) (
 .ret))))⟩

theorem WZ : trF Tryz.prog L6 = some m_check_More := by kernel_rfl
-- 192 (shardlog/check.word).eight; Ae [(0, w), (1, b), (2, w), (3, b), (5, step)]
noncomputable def m_check_word_eight : MF := ⟨17, [.t 4],
 .seq (
 .ops [
 .p 4 .mv [(.const (.int .u32 0))]]) (
 .seq (
 .ops [
 .p 5 .mv [(.func Gu)]]) (
 .seq (
 .ops [
 .p 6 .mv [(.tmp 0)],
 .p 7 .mv [(.tmp 1)],
 .p 8 (.conv .u32) [(.tmp 7)],
 .p 9 (.bin .xor) [(.tmp 6), (.tmp 8)],
 .p 0 .mv [(.tmp 9)]]) (
 .seq (
 .seq (
 .ops [
 .p 10 .mv [(.const (.int .i64 0))]]) (
 .block 0 (
 .loop (
 .seq (
 .ops [
 .p 11 (.bin .lss) [(.tmp 10), (.const (.int .i64 8))]]) (
 .seq (
 .cond (.tmp 11) (
 .skip) (
 .exit 0)) (
 .seq (
 .block 1 (
 .ops [
 .p 12 .mv [(.tmp 5)],
 .p 13 .mv [(.tmp 0)],
 .callv (some 14) (.tmp 12) [(.tmp 13)],
 .p 0 .mv [(.tmp 14)]])) (
 .ops [
 .p 15 (.bin .add) [(.tmp 10), (.const (.int .i64 1))],
 .p 10 .mv [(.tmp 15)]]))))))) (
 .seq (
 .ops [
 .p 16 .mv [(.tmp 0)],
 .p 4 .mv [(.tmp 16)]]) (
 .ret)))))⟩

theorem O5 : trF Tryz.prog Hy = some m_check_word_eight := by kernel_rfl
-- 203 (shardlog/check.word).bit; Ae [(0, w), (1, w)]
noncomputable def m_check_word_bit : MF := ⟨11, [.t 2],
 .seq (
 .ops [
 .p 2 .mv [(.const (.int .u32 0))]]) (
 .seq (
 .seq (
 .ops [
 .p 3 .mv [(.tmp 0)],
 .p 4 (.bin .and) [(.tmp 3), (.const (.int .u32 1))],
 .p 5 (.bin .eql) [(.tmp 4), (.const (.int .u32 1))]]) (
 .cond (.tmp 5) (
 .seq (
 .ops [
 .p 6 .mv [(.tmp 0)],
 .p 7 (.bin .shr) [(.tmp 6), (.const (.int .u64 1))],
 .p 8 (.bin .xor) [(.tmp 7), (.const (.int .u32 2197175160))],
 .p 2 .mv [(.tmp 8)]]) (
 .ret)) (
 .skip))) (
 .seq (
 .ops [
 .p 9 .mv [(.tmp 0)],
 .p 10 (.bin .shr) [(.tmp 9), (.const (.int .u64 1))],
 .p 2 .mv [(.tmp 10)]]) (
 .ret)))⟩

theorem QL : trF Tryz.prog Gu = some m_check_word_bit := by kernel_rfl
end Go.Proofs.YtgpkbldlkadnjaaGreat
end
section
set_option maxHeartbeats 3000000
attribute [local irreducible] Go.Sl.Chk Go.Sl.Br Go.Sl.Or2 Go.Sl.Ld Go.Sl.Ldn Go.Sl.LdB Go.Sl.Stn Go.Sl.New Go.Sl.Run Go.Sl.BZ Go.Sl.BQ Go.Sl.Call Go.Sl.Bc Go.Sl.Cb Go.Sl.Alt Go.Sl.Om Go.Sl.xpk Go.Sl.Dk Go.Sl.Dl Go.Sl.DLd Go.Sl.CZ Go.Sl.DBs Go.Sl.AO Go.Sl.Cf Go.Sl.CB Go.Sl.BC Go.Sl.DGC Go.Sl.BG Go.Sl.Dw Go.Sl.Ce Go.Sl.Ent Go.Sl.AZ Go.Sl.dv Go.Sl.ev Go.Sl.AU
namespace Go.Proofs.YtgpkbldlkadnjaaGreat
open Go Go.Sl Go.RowKit
abbrev cD (w : Nat) : D := .sc (.int .u32 (w : Int))
def TZ (w : Nat) : Nat := if w % 2 = 1 then (w / 2) ^^^ 2197175160 else w / 2
def ZZ : Nat → Nat → Nat
 | 0, w => w
 | k + 1, w => ZZ k (TZ w)
def IZ (w : Nat) (b : UInt8) : Nat := ZZ 8 (w ^^^ b.toNat)
def Dy (b : Bs) : Nat := b.foldl IZ 4294967295 ^^^ 4294967295
theorem MM {a b : Nat} (ha : a < 4294967296) (hb : b < 4294967296) : a ^^^ b < 4294967296 := Nat.xor_lt_two_pow (n := 32) ha hb
theorem Aa3 {w : Nat} (h : w < 4294967296) : TZ w < 4294967296 := by
 unfold TZ
 split
 ·exact MM (by omega) (by omega)
 ·omega
theorem Aa0 : ∀ (k : Nat) {w : Nat}, w < 4294967296 → ZZ k w < 4294967296
 | 0, _, h => h
 | k + 1, _, h => Aa0 k (Aa3 h)
theorem VL {w : Nat} (b : UInt8) (h : w < 4294967296) : IZ w b < 4294967296 := Aa0 8 (MM h (by have := b.toNat_lt; omega))
theorem AaS : ∀ (l : Bs) {w : Nat}, w < 4294967296 → l.foldl IZ w < 4294967296
 | [], _, h => h
 | b :: l, _, h => AaS l (VL b h)
theorem Ju (b : Bs) : Dy b < 4294967296 := MM (AaS b (by omega)) (by omega)
theorem wrap32 {n : Nat} (h : n < 4294967296) : IntKind.u32.wrap (n : Int) = n := by
 simp only [IntKind.wrap, IntKind.bits, IntKind.signed]
 simp
 omega
theorem of32 {x : Nat} (h : x < 4294967296) : (BitVec.ofInt 32 (x : Int)).toNat = x := by
 rw [BitVec.toNat_ofInt]
 omega
theorem Aan {a b : Nat} (ha : a < 4294967296) (hb : b < 4294967296) : IntKind.u32.wrap ((BitVec.ofInt IntKind.u32.bits (a : Int) ^^^ BitVec.ofInt IntKind.u32.bits (b : Int)).toNat : Int) = ((a ^^^ b : Nat) : Int) := by
 show IntKind.u32.wrap ((BitVec.ofInt 32 (a : Int) ^^^ BitVec.ofInt 32 (b : Int)).toNat : Int) = _
 rw [BitVec.toNat_xor, of32 ha, of32 hb, wrap32 (MM ha hb)]
theorem Xf {a : Nat} (ha : a < 4294967296) : IntKind.u32.wrap ((BitVec.ofInt IntKind.u32.bits (a : Int) ^^^ BitVec.ofInt IntKind.u32.bits 4294967295).toNat : Int) = ((a ^^^ 4294967295 : Nat) : Int) := Aan (b := 4294967295) ha (by omega)
theorem UM {a : Nat} (ha : a < 4294967296) : IntKind.u32.wrap ((BitVec.ofInt IntKind.u32.bits (a : Int) ^^^ BitVec.ofInt IntKind.u32.bits 2197175160).toNat : Int) = ((a ^^^ 2197175160 : Nat) : Int) := Aan (b := 2197175160) ha (by omega)
theorem and32 {a : Nat} (ha : a < 4294967296) : IntKind.u32.wrap ((BitVec.ofInt IntKind.u32.bits (a : Int) &&& BitVec.ofInt IntKind.u32.bits 1).toNat : Int) = ((a % 2 : Nat) : Int) := by
 show IntKind.u32.wrap ((BitVec.ofInt 32 (a : Int) &&& BitVec.ofInt 32 ((1 : Nat) : Int)).toNat : Int) = _
 rw [BitVec.toNat_and, of32 ha, of32 (by omega), Nat.and_one_is_mod, wrap32 (by omega)]
theorem half32 {a : Nat} (ha : a < 4294967296) : IntKind.u32.wrap ((a : Int) / 2) = ((a / 2 : Nat) : Int) := by
 rw [show (a : Int) / 2 = ((a / 2 : Nat) : Int) by omega, wrap32 (by omega)]
theorem not32 {a : Nat} (ha : a < 4294967296) : IntKind.u32.wrap (4294967295 - (a : Int)) = ((a ^^^ 4294967295 : Nat) : Int) := by
 have h : a ^^^ 4294967295 = 4294967295 - a := by
  have h1 : (BitVec.ofNat 32 a ^^^ BitVec.allOnes 32).toNat = (~~~ (BitVec.ofNat 32 a)).toNat := by rw [BitVec.xor_allOnes]
  rw [BitVec.toNat_xor, BitVec.toNat_not, BitVec.toNat_ofNat, BitVec.toNat_allOnes, Nat.mod_eq_of_lt (by omega)] at h1
  simpa using h1
 rw [h, show (4294967295 : Int) - (a : Int) = ((4294967295 - a : Nat) : Int) by omega, wrap32 (by omega)]
theorem fdiv1 (a : Nat) : (a : Int).fdiv (2 ^ Nat.min 1 IntKind.u32.bits) = ((a / 2 : Nat) : Int) := by
 have h : ((2 : Int) ^ Nat.min 1 IntKind.u32.bits) = 2 := rfl
 rw [h, Int.fdiv_eq_ediv_of_nonneg _ (by omega)]
 omega
theorem bit_d (w : Nat) (h : w < 4294967296) : DJ Tryz.prog Gu [cD w] (cD (TZ w)) := by
 intro nx
 refine AA QL (by simp only [m_check_word_bit, List.length]; decide) ?_
 rcases (by omega : w % 2 = 1 ∨ w % 2 = 0) with e | e
 ·simp only [m_check_word_bit]; refine WKX (And.intro @and32 @e) ?_; try with_reducible exact trivial
  rw [fdiv1, UM (by omega)]
  exact Bl ⟨by rw [TZ, if_pos e], rfl⟩
 ·simp only [m_check_word_bit]; refine WKX (And.intro @and32 @e) ?_; try with_reducible exact trivial
  rw [fdiv1]
  exact Bl ⟨by rw [TZ, if_neg (by omega)], rfl⟩
theorem AeG (w : Nat) (b : UInt8) (h : w < 4294967296) : DJ Tryz.prog Hy [cD w, bD b] (cD (IZ w b)) := by
 intro nx
 refine AA O5 (by simp only [m_check_word_eight, List.length]; decide) ?_
 have hb := b.toNat_lt
 have hx : w ^^^ b.toNat < 4294967296 := MM h (by omega)
 have e1 : IntKind.u32.wrap (b.toNat : Int) = b.toNat := wrap32 (by omega)
 have e2 := Aan (a := w) (b := b.toNat) h (by omega)
 simp -dsimp (disch := omega) only [↓MC.xwp, ↓CX, ↓xdr, ↓MOp.xwp, dvs, dv, dvu, dvo, dvp, dgb, dGd, EC, cond_true, cond_false, Hz, AZ, BM, DF, Ee, Dx, ptr, bsc, cv, uo, uof, Bq, xpr, Eo, ET, GL, Gj, H9, G8, Ia, xst, xgp, glc, Ho, Ew, Hl, Hm, Hf, Hg, Eu, He, GM, Ha, Es, Et, Dc, Df, Gi, dsl, dif, CO, CE, BL, scs, rowOf, Bz, dtk, Ed, BR, pev, FV, GH, D5, GV, psl, Eb, ↓Eg, ↓Dh, ↓GR, ↓FX, Ea, Gn, Gx, Dv, BK, kp, Dq, DX, FQ, DV, GI, C9, Bg, BH, nb, FT, CS, BB, apart, Az, BA, heldOk, Op.operands, Nat.reduceAdd, forall_eq_or_imp, D.plain, reduceCtorEq, if_true, if_false, ↓reduceIte, ne_eq, Bool.cond_true, Bool.cond_false, forall_const, implies_true, forall_eq, Int.reduceEq, Int.reduceLT, Int.reduceLE, Int.reduceAdd, Int.reduceSub, Int.reduceMul, Int.reduceToNat, Nat.reduceMul, Nat.reduceLeDiff, Nat.reduceLT, Nat.reduceSub, Nat.reduceBEq, Nat.reduceEqDiff, ES, bytesD, iD, Ec, AX, DZ, bD, DB, m_check_word_eight, U8, e1, e2]
 refine E5 [0, 5, 10] (fun s : Nat × Nat × Nat => ([(0, cD s.2.1), (5, .fn Gu [] []), (10, iD (s.1 : Nat))], [], s.2.2)) (fun s => s.1 ≤ 8 ∧ s.2.1 < 4294967296 ∧ ZZ (8 - s.1) s.2.1 = IZ w b) (fun s => 8 - s.1) (0, w ^^^ b.toNat, nx) ⟨by omega, hx, rfl⟩ (Ent.of (by with_unfolding_all rfl) rfl) ?_
 rintro ⟨k, v, n⟩ ⟨q1, q2, q3⟩
 dsimp only at q1 q2 q3 ⊢
 refine WK ?_; try with_reducible exact trivial
 refine brd (fun hlt => ?_) (fun hge => ?_)
 ·rw [show 8 - k = (8 - (k + 1)) + 1 by omega] at q3
  simp only [ZZ] at q3
  refine WK ?_; try with_reducible exact trivial
  refine chk (by kernel_rfl) ?_
  refine Ba (bit_d v q2) fun n1 h1 => ?_
  refine WK ?_; try with_reducible exact trivial
  exact ⟨(k + 1, TZ v, n1), ⟨by dsimp only; omega, Aa3 q2, q3⟩, by dsimp only; omega, (Ent.of (by with_unfolding_all rfl) rfl)⟩
 ·refine WK ?_; try with_reducible exact trivial
  rw [show 8 - k = 0 by omega] at q3
  exact Bl ⟨by rw [← q3]; rfl, rfl⟩
theorem more_d (w : Nat) (b : Bs) (h : w < 4294967296) (hl : b.length ≤ 1000000000) : DJ Tryz.prog L6 [cD w, bytesD b] (cD (b.foldl IZ (w ^^^ 4294967295) ^^^ 4294967295)) := by
 intro nx
 refine AA WZ (by simp only [m_check_More, List.length]; decide) ?_
 have e2 := Xf h
 simp only [m_check_More]; refine WKX @e2 ?_; try with_reducible exact trivial
 refine E5 [5, 10, 11, 12] (fun s : Nat × Nat × Nat => ([(5, cD s.2.1), (10, bytesD b), (11, iD (b.length : Nat)), (12, iD (s.1 : Nat))], [], s.2.2)) (fun s => s.1 ≤ b.length ∧ s.2.1 < 4294967296 ∧ (b.drop s.1).foldl IZ s.2.1 = b.foldl IZ (w ^^^ 4294967295)) (fun s => b.length - s.1) (0, w ^^^ 4294967295, nx) ⟨by omega, MM h (by omega), rfl⟩ (Ent.of (by with_unfolding_all rfl) rfl) ?_
 rintro ⟨k, v, n⟩ ⟨q1, q2, q3⟩
 dsimp only at q1 q2 q3 ⊢
 refine WK ?_; try with_reducible exact trivial
 refine brd (fun hlt => ?_) (fun hge => ?_)
 ·have hkl : k < b.length := by omega
  rw [List.drop_eq_getElem_cons hkl, ← EG hkl, List.foldl_cons] at q3
  refine WK ?_; try with_reducible exact trivial
  refine Ba (AeG v (gt b k) q2) fun n1 h1 => ?_
  refine WK ?_; try with_reducible exact trivial
  exact ⟨(k + 1, IZ v (gt b k), n1), ⟨by dsimp only; omega, VL _ q2, q3⟩, by dsimp only; omega, (Ent.of (by with_unfolding_all rfl) rfl)⟩
 ·rw [List.drop_of_length_le (by omega)] at q3
  refine WKX @Xf ?_; try with_reducible exact trivial
  exact Bl ⟨by rw [← q3]; rfl, rfl⟩
theorem sum_d (b : Bs) (hl : b.length ≤ 1000000000) : DJ Tryz.prog Nz [bytesD b] (cD (Dy b)) := by
 intro nx
 refine AA YJ (by simp only [m_check_Sum, List.length]; decide) ?_
 simp only [m_check_Sum]; refine WK ?_; try with_reducible exact trivial
 refine Ba (more_d 0 b (by omega) hl) fun n1 h1 => ?_
 refine WK ?_; try with_reducible exact trivial
 exact Bl ⟨by rw [Nat.zero_xor]; rfl, rfl⟩
theorem Qs (b : Bs) (hl : b.length ≤ 1000000000) : DJ Tryz.prog H8 [bytesD b] (cD (Dy b)) := by
 intro nx
 refine AA YB (by simp only [m_ref02_Sum, List.length]; decide) ?_
 simp only [m_ref02_Sum]; refine WK ?_; try with_reducible exact trivial
 refine E5 [0, 3, 4] (fun s : Nat × Nat × Nat => ([(0, bytesD b), (3, cD s.2.1), (4, iD (s.1 : Nat))], [], s.2.2)) (fun s => s.1 ≤ b.length ∧ s.2.1 < 4294967296 ∧ (b.drop s.1).foldl IZ s.2.1 = b.foldl IZ 4294967295) (fun s => b.length - s.1) (0, 4294967295, nx) ⟨by omega, by dsimp only; omega, rfl⟩ (Ent.of (by with_unfolding_all rfl) rfl) ?_
 rintro ⟨k, v, n⟩ ⟨q1, q2, q3⟩
 dsimp only at q1 q2 q3 ⊢
 refine WK ?_; try with_reducible exact trivial
 refine brd (fun hlt => ?_) (fun hge => ?_)
 ·have hkl : k < b.length := by omega
  rw [List.drop_eq_getElem_cons hkl, ← EG hkl, List.foldl_cons] at q3
  have hb := (gt b k).toNat_lt
  have hx : v ^^^ (gt b k).toNat < 4294967296 := MM q2 (by omega)
  have e1 : IntKind.u32.wrap ((gt b k).toNat : Int) = (gt b k).toNat := wrap32 (by omega)
  have e2 := Aan (a := v) (b := (gt b k).toNat) q2 (by omega)
  simp -dsimp (disch := omega) only [↓MC.xwp, ↓CX, ↓xdr, ↓MOp.xwp, dvs, dv, dvu, dvo, dvp, dgb, dGd, EC, cond_true, cond_false, Hz, AZ, BM, DF, Ee, Dx, ptr, bsc, cv, uo, uof, Bq, xpr, Eo, ET, GL, Gj, H9, G8, Ia, xst, xgp, glc, Ho, Ew, Hl, Hm, Hf, Hg, Eu, He, GM, Ha, Es, Et, Dc, Df, Gi, dsl, dif, CO, CE, BL, scs, rowOf, Bz, dtk, Ed, BR, pev, FV, GH, D5, GV, psl, Eb, ↓Eg, ↓Dh, ↓GR, ↓FX, Ea, Gn, Gx, Dv, BK, kp, Dq, DX, FQ, DV, GI, C9, Bg, BH, nb, FT, CS, BB, apart, Az, BA, heldOk, Op.operands, Nat.reduceAdd, forall_eq_or_imp, D.plain, reduceCtorEq, if_true, if_false, ↓reduceIte, ne_eq, Bool.cond_true, Bool.cond_false, forall_const, implies_true, forall_eq, Int.reduceEq, Int.reduceLT, Int.reduceLE, Int.reduceAdd, Int.reduceSub, Int.reduceMul, Int.reduceToNat, Nat.reduceMul, Nat.reduceLeDiff, Nat.reduceLT, Nat.reduceSub, Nat.reduceBEq, Nat.reduceEqDiff, ES, bytesD, iD, Ec, AX, DZ, bD, DB, U8, e1, e2]
  refine E5 [0, 3, 4, 5] (fun s : Nat × Nat => ([(0, bytesD b), (3, cD s.2), (4, iD (k : Nat)), (5, iD (s.1 : Nat))], [], n)) (fun s => s.1 ≤ 8 ∧ s.2 < 4294967296 ∧ ZZ (8 - s.1) s.2 = IZ v (gt b k)) (fun s => 8 - s.1) (0, v ^^^ (gt b k).toNat) ⟨by omega, hx, rfl⟩ (Ent.of (by with_unfolding_all rfl) rfl) ?_
  rintro ⟨j, u⟩ ⟨p1, p2, p3⟩
  dsimp only at p1 p2 p3 ⊢
  refine WK ?_; try with_reducible exact trivial
  refine brd (fun hlt2 => ?_) (fun hge2 => ?_)
  ·have hj : 8 - j = (8 - (j + 1)) + 1 := by omega
   rw [hj] at p3
   simp only [ZZ] at p3
   have hu := half32 p2
   have hu2 : IntKind.u32.wrap ((u / 2 : Nat) : Int) = ((u / 2 : Nat) : Int) := wrap32 (by omega)
   rcases (by omega : u % 2 = 1 ∨ u % 2 = 0) with e | e
   ·refine WKX (And.intro @hu @hu2) ?_; try with_reducible exact trivial
    rw [UM (by omega)]
    have hc : TZ u = (u / 2) ^^^ 2197175160 := by rw [TZ, if_pos e]
    rw [hc] at p3
    exact ⟨(j + 1, (u / 2) ^^^ 2197175160), ⟨by dsimp only; omega, MM (by omega) (by omega), p3⟩, by dsimp only; omega, (Ent.of (by with_unfolding_all rfl) rfl)⟩
   ·refine WKX (And.intro @hu @hu2) ?_; try with_reducible exact trivial
    have hc : TZ u = u / 2 := by rw [TZ, if_neg (by omega)]
    rw [hc] at p3
    exact ⟨(j + 1, u / 2), ⟨by dsimp only; omega, by dsimp only; omega, p3⟩, by dsimp only; omega, (Ent.of (by with_unfolding_all rfl) rfl)⟩
  ·refine WK ?_; try with_reducible exact trivial
   rw [show 8 - j = 0 by omega] at p3
   exact ⟨(k + 1, u, n), ⟨by dsimp only; omega, p2, by dsimp only; rw [show u = IZ v (gt b k) from p3]; exact q3⟩, by dsimp only; omega, (Ent.of (by with_unfolding_all rfl) rfl)⟩
 ·rw [List.drop_of_length_le (by omega)] at q3
  refine WKX @not32 ?_; try with_reducible exact trivial
  exact Bl ⟨by rw [Dy, ← q3]; rfl, rfl⟩
def frameB (rec : Bs) : Bs := Ar rec.length ++ (Ar (Dy (Ar rec.length)) ++ (Ar (Dy rec) ++ rec))
theorem AQ (rec : Bs) : (frameB rec).length = rec.length + 12 := by
 simp only [frameB, List.length_append, AL]
 omega
theorem fsum_o (b : Bs) (hl : b.length ≤ 1000000000) : MB Tryz.prog Gg [bytesD b] (fun i => .h i) (AC (Ar (Dy b))) := by
 intro nx
 refine AA YF (by simp only [m_frame_sum, List.length]; decide) ?_
 have hs := Ju b
 simp only [m_frame_sum]; refine WK ?_; try with_reducible exact trivial
 refine Ba (sum_d b hl) fun n1 h1 => ?_
 refine WK ?_; try with_reducible exact trivial
 refine Rz (AcN (Dy b) hs) fun i n2 h2 h3 => ?_
 refine WK ?_; try with_reducible exact trivial
 refine AY [i] (t := .mk _) ?_
 refine WKR ?_; try with_reducible exact trivial
 exact BI ⟨i, by omega, h3, rfl, rfl⟩
theorem WE (b : Bs) (hl : b.length ≤ 1000000000) : DJ Tryz.prog Gg [bytesD b] (bytesD (Ar (Dy b))) :=
 (fsum_o b hl).fn (BV _).1 (by rw [(BV _).2])
theorem ZH (rec : Bs) (hl : rec.length ≤ 65535) : DJ Tryz.prog Jf [bytesD rec] (bytesD (frameB rec)) := by
 intro nx
 refine AA YG (by simp only [m_frame_Put, List.length]; decide) ?_
 simp only [m_frame_Put]; refine WK ?_; try with_reducible exact trivial
 refine Ba (Q8 rec.length (by omega)) fun n1 h1 => ?_
 refine WK ?_; try with_reducible exact trivial
 refine Ba (WE (Ar rec.length) (by rw [AL]; omega)) fun n2 h2 => ?_
 refine WK ?_; try with_reducible exact trivial
 refine Ba (WE rec (by omega)) fun n3 h3 => ?_
 refine WK ?_; try with_reducible exact trivial
 refine Gw n3 (t' := .mk _) (Aa _ _ _) (by simp [D.plain]) List.not_mem_nil ?_
 rw [A8]
 simp only [List.map_cons, List.map_nil, Dx, Aa]
 have hb := AQ rec
 refine Ba (PZ [Ar rec.length, Ar (Dy (Ar rec.length)), Ar (Dy rec), rec] (by simp) (by simp only [List.flatten_cons, List.flatten_nil, List.append_nil, List.length_append, AL]; omega)) fun n4 h4 => ?_
 refine WK ?_; try with_reducible exact trivial
 exact Bl ⟨by simp only [List.flatten_cons, List.flatten_nil, List.append_nil, frameB], rfl⟩
theorem EH {X : Prop} {Y : D → Prop} {t : Tag X} {u : A7 Y} (d : D) (h : Y (.opt false d)) : DGC false X Y t u := by
 unfold DGC
 exact ⟨fun h => (by cases h), fun _ => ⟨d, h⟩⟩
def Jt (b : Bs) : Option (Bs × Bs) :=
 if b.length < 12 then none else if 65535 < BD b then none else if b.length - 12 < BD b then none else
 if b.take 12 = b.take 4 ++ (Ar (Dy (b.take 4)) ++ Ar (Dy ((b.drop 12).take (BD b)))) then some ((b.drop 12).take (BD b), (b.drop 12).drop (BD b)) else none
def cutD : Option (Bs × Bs) → D
 | none => .tup [bytesD [], bytesD [], AX false]
 | some p => .tup [bytesD p.1, bytesD p.2, AX true]
theorem Aat (b : Bs) (k : Nat) : D.sl (b.length - k) (List.take (b.length - k) (List.drop k (b.map bD))) = bytesD (b.drop k) := by
 rw [← List.map_drop, List.take_of_length_le (by simp)]
 simp
theorem NW (b : Bs) (k : Nat) (h : k ≤ b.length) : D.sl k (List.take k (b.map bD)) = bytesD (b.take k) := by
 simp only [bytesD, List.length_take, Nat.min_eq_left h, List.map_take]
set_option maxRecDepth 100000 in
theorem fcut_d (b : Bs) (hl : b.length ≤ 1000000) : DJ Tryz.prog Nw [bytesD b] (cutD (Jt b)) := by
 intro nx
 refine AA YH (by simp only [m_frame_Cut, List.length]; decide) ?_
 rcases Nat.lt_or_ge b.length 12 with h | h
 ·simp only [m_frame_Cut]; refine WK ?_; try with_reducible exact trivial
  refine Gv (t' := .mk _) ?_
  exact BI ⟨by rw [Jt, if_pos h]; rfl, rfl⟩
 ·have hn := Nj b
  have hd : (b.drop 12).length = b.length - 12 := by simp
  simp only [m_frame_Cut]; refine WK ?_; try with_reducible exact trivial
  refine Ba (TT b (by omega)) fun n1 h1 => ?_
  rw [if_neg (by omega)]
  refine WK ?_; try with_reducible exact trivial
  rw [Aat]
  refine Ba (Aa2 (b.drop 12) (by omega)) fun n2 h2 => ?_
  rcases (by omega : (65535 < BD b ∨ b.length - 12 < BD b) ∨ (BD b ≤ 65535 ∧ BD b ≤ b.length - 12)) with h5 | ⟨h5, h6⟩
  ·have hc : Jt b = none := by
    rcases h5 with h5 | h5
    ·rw [Jt, if_neg (by omega), if_pos h5]
    ·rw [Jt, if_neg (by omega)]
     split
     ·rfl
     ·simp [h5]
   rw [hc]
   rcases Nat.lt_or_ge 65535 (BD b) with h6 | h6
   ·refine WKX @hd ?_; try with_reducible exact trivial
    refine EH (bytesD []) ?_
    refine WKX @hd ?_; try with_reducible exact trivial
    refine EH (bytesD []) ?_
    refine WKX @hd ?_; try with_reducible exact trivial
    refine EH (bytesD []) ?_
    refine WKX @hd ?_; try with_reducible exact trivial
    refine EH (AX true) ?_
    refine WKX @hd ?_; try with_reducible exact trivial
    refine Gv (t' := .mk _) ?_
    exact BI ⟨rfl, rfl⟩
   ·refine WKX @hd ?_; try with_reducible exact trivial
    refine EH (bytesD []) ?_
    refine WKX @hd ?_; try with_reducible exact trivial
    refine EH (bytesD []) ?_
    refine WKX @hd ?_; try with_reducible exact trivial
    refine EH (bytesD []) ?_
    refine WKX @hd ?_; try with_reducible exact trivial
    refine EH (AX true) ?_
    refine WKX @hd ?_; try with_reducible exact trivial
    refine Gv (t' := .mk _) ?_
    exact BI ⟨rfl, rfl⟩
  ·refine WKX @hd ?_; try with_reducible exact trivial
   rw [NW b 4 (by omega)]
   refine Ba (WE (b.take 4) (by rw [List.length_take]; omega)) fun n3 h7 => ?_
   refine WKX @hd ?_; try with_reducible exact trivial
   rw [NW (b.drop 12) (BD b) (by omega)]
   refine Ba (WE ((b.drop 12).take (BD b)) (by rw [List.length_take]; omega)) fun n4 h8 => ?_
   refine WKX @hd ?_; try with_reducible exact trivial
   refine Gw n4 (t' := .mk _) (Aa _ _ _) (by simp [D.plain]) (by simp only [List.mem_cons, List.not_mem_nil, or_false, not_false_eq_true]; try omega) ?_
   rw [A8]
   simp only [List.map_cons, List.map_nil, Dx, Aa]
   refine Ba (PZ [b.take 4, Ar (Dy (b.take 4)), Ar (Dy ((b.drop 12).take (BD b)))] (by simp) (by simp only [List.flatten_cons, List.flatten_nil, List.append_nil, List.length_append, AL, List.length_take]; omega)) fun n5 h9 => ?_
   refine WKX @hd ?_; try with_reducible exact trivial
   rw [NW b 12 (by omega), show [b.take 4, Ar (Dy (b.take 4)), Ar (Dy ((b.drop 12).take (BD b)))].flatten = b.take 4 ++ (Ar (Dy (b.take 4)) ++ Ar (Dy ((b.drop 12).take (BD b)))) by simp]
   refine Ba (WJ (b.take 12) _ (by rw [List.length_take]; omega)) fun n6 h10 => ?_
   have hc : Jt b = if b.take 12 = b.take 4 ++ (Ar (Dy (b.take 4)) ++ Ar (Dy ((b.drop 12).take (BD b)))) then some ((b.drop 12).take (BD b), (b.drop 12).drop (BD b)) else none := by
    rw [Jt, if_neg (by omega), if_neg (by omega), if_neg (by omega)]
   rw [hc]
   rcases Decidable.em (b.take 12 = b.take 4 ++ (Ar (Dy (b.take 4)) ++ Ar (Dy ((b.drop 12).take (BD b))))) with e | e
   ·rw [decide_eq_true e, if_pos e]
    refine WKX @hd ?_; try with_reducible exact trivial
    rw [← hd, Aat (b.drop 12) (BD b), NW (b.drop 12) (BD b) (by omega)]
    exact Bl ⟨rfl, rfl⟩
   ·rw [decide_eq_false e, if_neg e]
    refine WKX @hd ?_; try with_reducible exact trivial
    refine Gv (t' := .mk _) ?_
    exact Bl ⟨rfl, rfl⟩
theorem Oc {i nx : Nat} {held : List Nat} {r : Ad} {K : D → Ad → Nat → Prop} {tg : A7 K} (L : LL) (b : Bs) (j : Nat) (hne : j ≠ i) (hg : AP r i = some (.row Ap 1 L.length (L.map bytesD))) (hj : AP r j = some (.row Ap 1 1 [bytesD b])) (hl : L.length ≤ 2000000) (hh : i ∉ held)
  (k : K (.h nx) ((nx, .row Ap 1 (L ++ [b]).length ((L ++ [b]).map bytesD)) :: Ej r i) (nx + 1)) : Cf Tryz.prog #[JG, JG] JG (.h i) (.h j) held r nx K tg :=
 Jm (i := i) (m := 1) (l' := [bytesD b]) elM (l := L.map bytesD) (n := L.length) hg (FW.row hj (by simp [D.plain])) rfl (by simp [BR]) (by omega) (by omega) hh (by
  have e1 : (L ++ [b]).length = L.length + 1 := by simp
  have e2 : (L ++ [b]).map bytesD = L.map bytesD ++ [bytesD b] := by simp
  rw [← e1, ← e2]; exact k)
def Iy : Nat → Bs → LL × Bs
 | 0, b => ([], b)
 | k + 1, b => match Jt b with
  | none => ([], b)
  | some p => (p.1 :: (Iy k p.2).1, (Iy k p.2).2)
def EN (b : Bs) : LL × Bs := Iy b.length b
theorem NJ {b : Bs} {p : Bs × Bs} (h : Jt b = some p) : p.1.length + p.2.length + 12 = b.length ∧ p.1.length ≤ 65535 := by
 unfold Jt at h
 split at h
 ·cases h
 ·split at h
  ·cases h
  ·split at h
   ·cases h
   ·split at h
    ·cases h
     simp only [List.length_take, List.length_drop]
     omega
    ·cases h
theorem Ls : ∀ (k : Nat) (b : Bs), b.length ≤ k → Iy k b = Iy b.length b
 | 0, b, h => by rw [show b.length = 0 by omega]
 | k + 1, b, h => by
  cases b with
  | nil => simp [Iy, Jt]
  | cons x l =>
   simp only [List.length_cons, Iy]
   cases hc : Jt (x :: l) with
   | none => rfl
   | some p =>
    have hl := (NJ hc).1
    simp only [List.length_cons] at hl h
    dsimp only
    rw [Ls k p.2 (by omega), Ls l.length p.2 (by omega)]
theorem Qr (b : Bs) : EN b = match Jt b with
  | none => ([], b)
  | some p => (p.1 :: (EN p.2).1, (EN p.2).2) := by
 unfold EN
 cases b with
 | nil => simp [Iy, Jt]
 | cons x l =>
  simp only [List.length_cons, Iy]
  cases hc : Jt (x :: l) with
  | none => rfl
  | some p =>
   have hl := (NJ hc).1
   simp only [List.length_cons] at hl
   dsimp only
   rw [Ls l.length p.2 (by omega)]
set_option maxRecDepth 100000 in
theorem AeE (b : Bs) (hl : b.length ≤ 1000000) : DJ Tryz.prog LY [bytesD b] (.tup [ES (EN b).1, iD ((b.length : Int) - ((EN b).2.length : Int))]) := by
 intro nx
 refine AA WX (by simp only [m_frame_Scan, List.length]; decide) ?_
 simp only [m_frame_Scan]; refine WK ?_; try with_reducible exact trivial
 refine E5 [0, 4, 5] (fun s : Bs × LL × Nat × Nat => ([(0, bytesD s.1), (4, .h s.2.2.1), (5, iD (b.length : Nat))], [(s.2.2.1, .row Ap 1 s.2.1.length (s.2.1.map bytesD))], s.2.2.2)) (fun s => s.1.length ≤ b.length ∧ s.2.1.length + s.1.length ≤ b.length ∧ s.2.1 ++ (EN s.1).1 = (EN b).1 ∧ (EN s.1).2 = (EN b).2 ∧ s.2.2.1 < s.2.2.2) (fun s => s.1.length) (b, [], nx, nx + 1) ⟨Nat.le_refl _, by simp, rfl, rfl, by dsimp only; omega⟩ ((Ent.nil 4 Ap 1 (by with_unfolding_all rfl) rfl).trans (Ent.of (by with_unfolding_all rfl) rfl)) ?_
 rintro ⟨c, L, q, n⟩ ⟨q1, q2, q3, q4, q5⟩
 dsimp only at q1 q2 q3 q4 q5 ⊢
 refine WK ?_; try with_reducible exact trivial
 refine Ba (fcut_d c (by omega)) fun n1 h1 => ?_
 rw [Qr c] at q3 q4
 cases hc : Jt c with
 | none =>
  rw [hc] at q3 q4
  dsimp only at q3 q4
  simp only [cutD]
  refine WK ?_; try with_reducible exact trivial
  refine ND q (Aa _ _ _) (fun x hx => by obtain ⟨y, _, rfl⟩ := List.mem_map.1 hx; simp [D.plain]) ?_
  rw [A8]
  simp only [TP, List.map_cons, List.map_nil, Dx, Aa]
  refine Bl ⟨?_, rfl⟩
  rw [← q3, ← q4, List.append_nil]
 | some p =>
  rw [hc] at q3 q4
  dsimp only at q3 q4
  have hcl := NJ hc
  simp only [cutD]
  refine WK ?_; try with_reducible exact trivial
  refine Oc L p.1 n1 (by omega) (by (repeat rw [Ac (by omega)]); exact Aa _ _ _) (by (repeat rw [Ac (by omega)]); exact Aa _ _ _) (by omega) (by simp only [List.mem_cons, List.not_mem_nil, or_false, not_false_eq_true]; try omega) ?_
  refine WK ?_; try with_reducible exact trivial
  refine ⟨(p.2, L ++ [p.1], n1 + 1, n1 + 2), ⟨by dsimp only; omega, by dsimp only; rw [List.length_append, List.length_singleton]; omega, by dsimp only; rw [List.append_assoc]; exact q3, q4, by dsimp only; omega⟩, by dsimp only; omega, (Ent.only [n1 + 1] _ _ _).trans (by simp -dsimp (disch := omega) only [Bf, Aa, Ac, Ai, Aj]; exact (Ent.of (by with_unfolding_all rfl) rfl))⟩
end Go.Proofs.YtgpkbldlkadnjaaGreat
end
section
namespace Go.Sl
open Go.RowKit
open Go.Maps (Keyed)
open Go.ChangeMaps (setBlock heap_setBlock_same heap_setBlock_other)
section
variable {E : En} {w w' : World} {Z Z' : Nat → Prop} {T T' : Nat → Option Value} {F : Nat → Nat} {r : Ad} {nx : Nat}
variable {P : Program} {held : List Nat} {e e' : Env} {de : DEnv} {K : D → Ad → Nat → Prop}
theorem Yj {t : TypeId} {dst : Option Nat} {ty : TypeId} {pos : String} {af : Array Edge} {gu} {tg : A7 K} (k : K (.h nx) ((nx, .mp [] []) :: r) (nx + 1)) :
  CB P ⟨dst, .makeMap t none, ty, pos, af, gu⟩ de held r nx K tg := by
 intro E w Z T F en h he
 refine ⟨by simp [Op.operands, known], ?_⟩
 obtain ⟨o1, o2⟩ := h.alloc (held := held) (w' := w.alloc (.map #[] 0)) (o := .map #[] 0) (v := .map (some w.heap.size)) (d := .mp [] []) (by simp) (Fr.alloc w _) rfl rfl (by
  simp only [Ro]
  exact ⟨w.heap.size, [], fun _ => 0, rfl, ⟨_, _, Mp.made (heap_alloc_new w _)⟩, by simp only [RoL]; exact ⟨trivial, fun _ => trivial⟩, fun b => by simp⟩)
 exact .inl ⟨.map (some w.heap.size), w.alloc (.map #[] 0), by simp only [execOp, Option.map_none, Sem.run_bind, run_makeMap, Result.andThen_ok, Sem.run_pure], _, _, _, _, _, _, o1, o2, by simp only [Rs]; exact Bi _ _ _, k⟩
theorem Ok.map (h : Ok E w Z T F r nx) {i : Nat} {ks : List Value} {l : List D} (hg : AP r i = some (.mp ks l)) : ∃ b us es clock G F2, T i = some (.map (some b)) ∧ Mp w b ks us es clock ∧ RoL w Z T l us G ∧ (∀ c, F c = G c + own (.map (some b)) c + F2 c) ∧ RL w Z T (Ej r i) F2 := by
 obtain ⟨v, F1, F2, h1, h2, h3, h4, _⟩ := h.roots.get hg
 simp only [Ro] at h2
 obtain ⟨b, us, G, rfl, ⟨es, c, hm⟩, h5, h6⟩ := h2
 exact ⟨b, us, es, c, G, F2, h1, hm, h5, fun x => by rw [h3, h6], h4⟩
theorem PX {t kt et : TypeId} {m x : Operand} {ok : Bool} {dst : Option Nat} {ty : TypeId} {pos : String} {af : Array Edge} {gu} {tg : A7 K} {i j : Nat} {ks : List Value} {l : List D} {key : Value} {kl : Lit} {d : D}
  (hm : dv de r m = some (.h i)) (hx : dv de r x = some (.sc key)) (hg : AP r i = some (.mp ks l)) (Kd : Keyed P kt) (ht : P.underlying t = some (.map kt et)) (hkey : keyOf P kt key = some kl) (hks : ∀ x ∈ ks, ∃ l, keyOf P kt x = some l)
  (hj : ks[j]? = some key) (hd : l[j]? = some d) (hp : d.plain) (k : K (if ok then .tup [d, .sc (.bool true)] else d) r nx) : CB P ⟨dst, .lookup t m x ok, ty, pos, af, gu⟩ de held r nx K tg := by
 intro E w Z T F en h he
 obtain ⟨v1, hv1, hr1⟩ := D6 h.roots he hm
 obtain ⟨v2, hv2, hr2⟩ := D6 h.roots he hx
 simp only [Rs] at hr1 hr2
 subst hr2
 obtain ⟨b, us, es, clock, G, F2, h1, h2, h3, h4, h5⟩ := h.map hg
 rw [h1] at hr1
 cases hr1
 obtain ⟨u, F3, F4, hu, hru, _⟩ := h3.get hd
 have hrs := (Ro.rs hp hru).1
 refine ⟨by simp [Op.operands, known, hv1, hv2], ?_⟩
 refine .inl ⟨if ok = true then .tuple #[u, .bool true] else u, w, by simp only [execOp, rho, hv1, hv2, Option.getD_some, Sem.run_bind, h2.look_at Kd ht hkey hks hj hu ok, Result.andThen_ok, Sem.run_pure], _, _, _, _, _, _, h, Grow.refl _ _ _ _ _, ?_, k⟩
 cases ok
 ·exact hrs
 ·simp only [if_true, Rs]
  exact ⟨[u, .bool true], rfl, by simp only [RsL]; exact ⟨u, _, rfl, hrs, _, _, rfl, by simp only [Rs], rfl⟩⟩
theorem KY {t kt et : TypeId} {m x : Operand} {ok : Bool} {dst : Option Nat} {ty : TypeId} {pos : String} {af : Array Edge} {gu} {tg : A7 K} {i : Nat} {ks : List Value} {l : List D} {key z : Value} {kl : Lit}
  (hm : dv de r m = some (.h i)) (hx : dv de r x = some (.sc key)) (hg : AP r i = some (.mp ks l)) (Kd : Keyed P kt) (ht : P.underlying t = some (.map kt et)) (hz : ∀ w, (zeroValue et).run P w = .ok z w) (hkey : keyOf P kt key = some kl) (hks : ∀ x ∈ ks, ∃ l, keyOf P kt x = some l)
  (hn : key ∉ ks) (k : K (if ok then .tup [cv z, .sc (.bool false)] else cv z) r nx) : CB P ⟨dst, .lookup t m x ok, ty, pos, af, gu⟩ de held r nx K tg := by
 intro E w Z T F en h he
 obtain ⟨v1, hv1, hr1⟩ := D6 h.roots he hm
 obtain ⟨v2, hv2, hr2⟩ := D6 h.roots he hx
 simp only [Rs] at hr1 hr2
 subst hr2
 obtain ⟨b, us, es, clock, G, F2, h1, h2, h3, h4, h5⟩ := h.map hg
 rw [h1] at hr1
 cases hr1
 refine ⟨by simp [Op.operands, known, hv1, hv2], ?_⟩
 refine .inl ⟨if ok = true then .tuple #[z, .bool false] else z, w, by simp only [execOp, rho, hv1, hv2, Option.getD_some, Sem.run_bind, h2.look_no Kd ht (hz w) hkey hks hn ok, Result.andThen_ok, Sem.run_pure], _, _, _, _, _, _, h, Grow.refl _ _ _ _ _, ?_, k⟩
 cases ok
 ·exact AaZ _ _ _ _
 ·simp only [if_true, Rs]
  exact ⟨[z, .bool false], rfl, by simp only [RsL]; exact ⟨z, _, rfl, AaZ _ _ _ _, _, _, rfl, by simp only [Rs], rfl⟩⟩
theorem Ok.mapset (h : Ok E w Z T F r nx) {i : Nat} {ks : List Value} {l : List D} (hg : AP r i = some (.mp ks l)) (hh : i ∉ held) : ∃ b us es clock G, T i = some (.map (some b)) ∧ Mp w b ks us es clock ∧ RoL w Z T l us G ∧
  ∀ (es' : Array MapEntry) (c' : Nat) (ks' us' : List Value) (l' : List D) (G' : Nat → Nat), (∀ w', w'.heap[b]? = some (.map es' c') → Mp w' b ks' us' es' c') → RoL w Z T l' us' G' → (∀ c, G' c ≤ G c) →
   ∃ F', Ok E (setBlock w b (.map es' c')) Z T F' (Dn r i (.mp ks' l')) nx ∧ Grow r w Z T (setBlock w b (.map es' c')) Z T held := by
 obtain ⟨v, F1, F2, h1, h2, h3, h4, h5⟩ := h.roots.get hg
 simp only [Ro] at h2
 obtain ⟨b, us, G, rfl, ⟨es, c, hm⟩, h6, h7⟩ := h2
 refine ⟨b, us, es, c, G, h1, hm, h6, fun es' c' ks' us' l' G' hmp hro hle => ?_⟩
 have hown : own (.map (some b)) b = 1 := by simp [own, blk]
 have hone : F b ≤ 1 := h.one b
 have hGb : G b = 0 ∧ F2 b = 0 := by have := h3 b; have := h7 b; omega
 have hzb : ∀ x, Z x → x ≠ b := fun x hx e => by
  have := (h.zlt x hx).2
  have := h3 x; have := h7 x
  subst e
  omega
 have hother : ∀ x, x ≠ b → (setBlock w b (.map es' c')).heap[x]? = w.heap[x]? := fun x hx => heap_setBlock_other hm.at_ _ hx
 have hfr : Fr (· = b) w (setBlock w b (.map es' c')) := ⟨rfl, rfl, rfl, by simp [setBlock], fun x _ hx => hother x hx⟩
 have hro' : RoL (setBlock w b (.map es' c')) Z T l' us' G' := RoL.keep (fun _ h => h) (fun _ _ h => h) l' us' G' (fun x hx => hother x (by
  rcases hx with hx | hx
  ·intro e; subst e; have := hle x; omega
  ·exact hzb x hx)) hro
 have hd' : Ro (setBlock w b (.map es' c')) Z T (.mp ks' l') (.map (some b)) (fun x => G' x + own (.map (some b)) x) := by
  simp only [Ro]
  exact ⟨b, us', G', rfl, ⟨es', c', hmp _ (heap_setBlock_same hm.at_ _)⟩, hro', fun _ => rfl⟩
 have hrl := h5 (setBlock w b (.map es' c')) Z T (.mp ks' l') (.map (some b)) _ (fun x hx => hother x (by
  rcases hx with hx | hx
  ·intro e; subst e; omega
  ·exact hzb x hx)) (fun _ h => h) (fun _ _ h => h) h1 hd'
 obtain ⟨o1, o2⟩ := h.write (d' := .mp ks' l') h1 (b0 := b) rfl h3 (F1' := fun x => G' x + own (.map (some b)) x) (fun x => by have := h7 x; have := hle x; omega) (by have := h7 b; omega) hfr hrl hh h4
 exact ⟨_, o1, o2⟩
variable {KU : Ad → Nat → Prop}
theorem OT {t kt et : TypeId} {m x v : Operand} {dst : Option Nat} {ty : TypeId} {pos : String} {af : Array Edge} {gu} {tg : A7 KU} {i : Nat} {ks : List Value} {l : List D} {key : Value} {kl : Lit} {d : D}
  (hm : dv de r m = some (.h i)) (hx : dv de r x = some (.sc key)) (hv : dv de r v = some d) (hg : AP r i = some (.mp ks l)) (Kd : Keyed P kt) (ht : P.underlying t = some (.map kt et)) (hkey : keyOf P kt key = some kl) (hks : ∀ x ∈ ks, ∃ l, keyOf P kt x = some l)
  (hn : key ∉ ks) (hp : d.plain) (hh : i ∉ held) (k : KU (Dn r i (.mp (ks ++ [key]) (l ++ [d]))) nx) : BC P ⟨dst, .mapUpdate t m x v, ty, pos, af, gu⟩ de held r nx KU tg := by
 intro E w Z T F en h he
 obtain ⟨v1, hv1, hr1⟩ := D6 h.roots he hm
 obtain ⟨v2, hv2, hr2⟩ := D6 h.roots he hx
 obtain ⟨v3, hv3, hr3⟩ := D6 h.roots he hv
 simp only [Rs] at hr1 hr2
 subst hr2
 obtain ⟨b, us, es, clock, G, h1, h2, h3, put⟩ := h.mapset (held := held) hg hh
 rw [h1] at hr1
 cases hr1
 obtain ⟨es', c', hrun, hmp⟩ := h2.put_no Kd ht hkey hks hn v3
 obtain ⟨F', o1, o2⟩ := put es' c' _ _ (l ++ [d]) G hmp (by
  have := RoL.append h3 (RoL.of (l := [d]) (us := [v3]) (by simp only [RsL]; exact ⟨v3, _, rfl, hr3, rfl⟩))
  simpa using this) (fun _ => Nat.le_refl _)
 refine ⟨by simp [Op.operands, known, hv1, hv2, hv3], _, ?_, _, _, _, _, _, o1, o2, k⟩
 simp only [execOp, rho, hv1, hv2, hv3, Option.getD_some, Sem.run_bind, hrun, Result.andThen_ok, Sem.run_pure]
theorem TR {t kt et : TypeId} {m x v : Operand} {dst : Option Nat} {ty : TypeId} {pos : String} {af : Array Edge} {gu} {tg : A7 KU} {i j : Nat} {ks : List Value} {l : List D} {key : Value} {kl : Lit} {d d0 : D}
  (hm : dv de r m = some (.h i)) (hx : dv de r x = some (.sc key)) (hv : dv de r v = some d) (hg : AP r i = some (.mp ks l)) (Kd : Keyed P kt) (ht : P.underlying t = some (.map kt et)) (hkey : keyOf P kt key = some kl) (hks : ∀ x ∈ ks, ∃ l, keyOf P kt x = some l)
  (hj : ks[j]? = some key) (hd0 : l[j]? = some d0) (hp : d.plain) (hh : i ∉ held) (k : KU (Dn r i (.mp ks (l.set j d))) nx) : BC P ⟨dst, .mapUpdate t m x v, ty, pos, af, gu⟩ de held r nx KU tg := by
 intro E w Z T F en h he
 obtain ⟨v1, hv1, hr1⟩ := D6 h.roots he hm
 obtain ⟨v2, hv2, hr2⟩ := D6 h.roots he hx
 obtain ⟨v3, hv3, hr3⟩ := D6 h.roots he hv
 simp only [Rs] at hr1 hr2
 subst hr2
 obtain ⟨b, us, es, clock, G, h1, h2, h3, put⟩ := h.mapset (held := held) hg hh
 rw [h1] at hr1
 cases hr1
 obtain ⟨u, F3, F4, hu, hru, hG, hset⟩ := h3.get hd0
 obtain ⟨es', c', hrun, hmp⟩ := h2.put_at Kd ht hkey hks hj hu v3
 obtain ⟨F', o1, o2⟩ := put es' c' _ _ (l.set j d) _ hmp (hset d v3 _ (Ro.of hr3)) (fun c => by have := hG c; omega)
 refine ⟨by simp [Op.operands, known, hv1, hv2, hv3], _, ?_, _, _, _, _, _, o1, o2, k⟩
 simp only [execOp, rho, hv1, hv2, hv3, Option.getD_some, Sem.run_bind, hrun, Result.andThen_ok, Sem.run_pure]
end
end Go.Sl
end
section
namespace Go.Sl
open Go.RowKit
open Go.Maps (Keyed)
section
variable {E : En} {w w' : World} {Z Z' : Nat → Prop} {T T' : Nat → Option Value} {F : Nat → Nat} {r : Ad} {nx : Nat}
variable {P : Program} {held : List Nat} {e e' : Env} {de : DEnv} {K : D → Ad → Nat → Prop}
theorem U4 (hr : RL w Z T r F) {i j : Nat} {ks : List Value} {l : List D} {x : D} (hg : AP r i = some (.mp ks l)) (hx : l[j]? = some x) :
  ∃ b us es clock u Fx, T i = some (.map (some b)) ∧ Mp w b ks us es clock ∧ us[j]? = some u ∧ Ro w Z T x u Fx ∧
   ∀ d', Rs w Z T d' u → T nx = some u → RL w Z T ((nx, x) :: Dn r i (.mp ks (l.set j d'))) F := by
 obtain ⟨v, F1, F2, h1, h2, h3, h4, h5⟩ := hr.get hg
 simp only [Ro] at h2
 obtain ⟨b, us, G, rfl, ⟨es, clock, hm⟩, h6, h7⟩ := h2
 obtain ⟨u, Fa, Fb, g1, g2, g3, g4⟩ := h6.get hx
 refine ⟨b, us, es, clock, u, Fa, h1, hm, g1, g2, fun d' hd' ht => ?_⟩
 have hro : Ro w Z T (.mp ks (l.set j d')) (.map (some b)) (fun c => (0 + Fb c) + own (.map (some b)) c) := by
  simp only [Ro]
  refine ⟨b, us, fun c => 0 + Fb c, rfl, ⟨es, clock, hm⟩, ?_, fun c => rfl⟩
  have := g4 d' u (fun _ => 0) (Ro.of hd')
  rw [F6 g1] at this
  exact this
 have := h5 w Z T _ _ _ (fun _ _ => rfl) (fun _ h => h) (fun _ _ h => h) h1 hro
 exact ⟨u, Fa, _, ht, g2, this, fun y => by
  have e1 := h3 y
  have e2 := h7 y
  have e3 := g3 y
  show F y = Fa y + (0 + Fb y + own _ y + F2 y)
  omega⟩
theorem JB {t kt et : TypeId} {m x : Operand} {ok : Bool} {dst : Option Nat} {ty : TypeId} {pos : String} {af : Array Edge} {gu} {tg : A7 K} {i j : Nat} {ks : List Value} {l : List D} {key : Value} {kl : Lit} {eb : TypeId} {lc : List D}
  (hm : dv de r m = some (.h i)) (hx : dv de r x = some (.sc key)) (hg : AP r i = some (.mp ks l)) (Kd : Keyed P kt) (ht : P.underlying t = some (.map kt et)) (hkey : keyOf P kt key = some kl) (hks : ∀ x ∈ ks, ∃ l, keyOf P kt x = some l)
  (hj : ks[j]? = some key) (hd : l[j]? = some (.box eb lc)) (k : K (if ok then .tup [.hp nx 0, .sc (.bool true)] else .hp nx 0) ((nx, .box eb lc) :: Dn r i (.mp ks (l.set j (.hp nx 0)))) (nx + 1)) : CB P ⟨dst, .lookup t m x ok, ty, pos, af, gu⟩ de held r nx K tg := by
 intro E w Z T F en h he
 obtain ⟨v1, hv1, hr1⟩ := D6 h.roots he hm
 obtain ⟨v2, hv2, hr2⟩ := D6 h.roots he hx
 simp only [Rs] at hr1 hr2
 subst hr2
 obtain ⟨b, us, es, clock, u, Fx, h1, h2, hu, hru, _⟩ := U4 (nx := nx) h.roots hg hd
 rw [h1] at hr1
 cases hr1
 have hone := Jy hru (.inl ⟨_, _, rfl⟩)
 have hT := Ey (v := u) (h.t nx (Nat.le_refl _))
 have hr' : RL w Z (Ei T nx u) r F := h.roots.keep (fun _ h => h) hT (fun _ _ => rfl)
 obtain ⟨b', us', es', clock', u', Fx', k1, k2, ku, kru, kk⟩ := U4 (nx := nx) hr' hg hd
 rw [hT i _ h1] at k1
 cases k1
 have hus : us' = us := by rw [← k2.val, ← h2.val]; have := k2.at_.symm.trans h2.at_; cases this; rfl
 subst hus
 rw [hu] at ku
 cases ku
 have hrs : Rs w Z (Ei T nx u) (.hp nx 0) u := by
  simp only [Ro] at hru
  obtain ⟨b2, us2, F2', rfl, _⟩ := hru
  simp only [Rs]
  exact ⟨_, b2, Bi _ _ _, rfl, rfl⟩
 obtain ⟨o1, o2⟩ := h.name (held := held) hone (fun _ => rfl) (kk (.hp nx 0) hrs (Bi _ _ _))
 refine ⟨by simp [Op.operands, known, hv1, hv2], ?_⟩
 refine .inl ⟨if ok = true then .tuple #[u, .bool true] else u, w, by simp only [execOp, rho, hv1, hv2, Option.getD_some, Sem.run_bind, h2.look_at Kd ht hkey hks hj hu ok, Result.andThen_ok, Sem.run_pure], _, _, _, _, _, _, o1, o2, ?_, k⟩
 cases ok
 ·exact hrs
 ·simp only [if_true, Rs]
  simp only [Rs] at hrs
  exact ⟨[u, .bool true], rfl, by simp only [RsL]; exact ⟨u, _, rfl, by simp only [Rs]; exact hrs, _, _, rfl, by simp only [Rs], rfl⟩⟩
theorem RT.drop (p off : Nat) {c d : D} {l : List D} (hp : AP r p = some c) (hk : kids c = some l) (hl : l[off]? = some d) : RT r (Dn r p (Ep c (l.set off .dead))) := fun E w Z T F nx h => by
 obtain ⟨u, G1, G2, g1, g2, g3, g4, g5⟩ := h.roots.get hp
 obtain ⟨us, K1, K2, k1, k2, k3⟩ := g2.kid hk
 obtain ⟨x, X1, X2, x1, x2, x3, x4⟩ := k1.get hl
 have hset : us.set off x = us := by
  obtain ⟨hlt, he⟩ := List.getElem?_eq_some_iff.1 x1
  rw [← he]
  exact List.set_getElem_self hlt
 have hro := k3 (l.set off .dead) _ (by have := x4 .dead x (fun _ => 0) (Ro.of (by simp only [Rs])); rw [hset] at this; exact this)
 have hrl := g5 w Z T _ u _ (fun _ _ => rfl) (fun _ h => h) (fun _ _ h => h) g1 hro
 refine ⟨Z, _, h.swapR (fun _ h => h) (fun b hb => .inl hb) (fun b => ?_) (fun b hb => ?_) hrl, fun _ h => h⟩
 ·have := g3 b; have := k2 b; have := x3 b
  show 0 + X2 b + K2 b + G2 b ≤ F b
  omega
 ·have := (h.zlt b hb).2; have := g3 b; have := k2 b; have := x3 b
  show 0 + X2 b + K2 b + G2 b = 0
  omega
theorem U0 : ∀ {l : List D} {us : List Value} {G : Nat → Nat}, RoL w Z T l us G → ∀ j, ∃ G', RoL w Z T (l.eraseIdx j) (us.eraseIdx j) G' ∧ ∀ b, G' b ≤ G b
 | [], us, G, h, j => by simp only [RoL] at h; obtain ⟨rfl, h0⟩ := h; exact ⟨fun _ => 0, by simp [RoL], fun b => Nat.zero_le _⟩
 | d :: l, us, G, h, 0 => by
  simp only [RoL] at h
  obtain ⟨u, us', F1, F2, rfl, _, h2, h3⟩ := h
  exact ⟨F2, by simpa using h2, fun b => by rw [h3]; omega⟩
 | d :: l, us, G, h, j + 1 => by
  simp only [RoL] at h
  obtain ⟨u, us', F1, F2, rfl, h1, h2, h3⟩ := h
  obtain ⟨G', g1, g2⟩ := U0 h2 j
  refine ⟨fun b => F1 b + G' b, ?_, fun b => by have := g2 b; show F1 b + G' b ≤ G b; rw [h3]; omega⟩
  simp only [List.eraseIdx_cons_succ, RoL]
  exact ⟨u, _, F1, G', rfl, h1, g1, fun _ => rfl⟩
theorem WM {t t2 kt et : TypeId} {m x : Operand} {dst : Option Nat} {ty : TypeId} {pos : String} {af : Array Edge} {gu} {tg : A7 K} {i j : Nat} {ks : List Value} {l : List D} {key : Value} {kl : Lit} {d0 : D}
  (hm : dv de r m = some (.h i)) (hx : dv de r x = some (.sc key)) (hg : AP r i = some (.mp ks l)) (Kd : Keyed P kt) (ht : P.underlying t = some (.map kt et)) (hkey : keyOf P kt key = some kl) (hks : ∀ x ∈ ks, ∃ l, keyOf P kt x = some l)
  (hj : ks[j]? = some key) (hd0 : l[j]? = some d0) (hh : i ∉ held) (k : K (.tup []) (Dn r i (.mp (ks.eraseIdx j) (l.eraseIdx j))) nx) : CB P ⟨dst, .call { callee := .builtin .delete, args := #[m, x], argTypes := #[t, t2] }, ty, pos, af, gu⟩ de held r nx K tg := by
 intro E w Z T F en h he
 obtain ⟨v1, hv1, hr1⟩ := D6 h.roots he hm
 obtain ⟨v2, hv2, hr2⟩ := D6 h.roots he hx
 simp only [Rs] at hr1 hr2
 subst hr2
 obtain ⟨b, us, es, clock, G, h1, h2, h3, put⟩ := h.mapset (held := held) hg hh
 rw [h1] at hr1
 cases hr1
 obtain ⟨u, F3, F4, hu, hru, hG, hset⟩ := h3.get hd0
 obtain ⟨es', hrun, hmp⟩ := h2.drop_at Kd ht hkey hks hj hu t2 ty
 obtain ⟨G', hg1, hg2⟩ := U0 h3 j
 obtain ⟨F', o1, o2⟩ := put es' clock _ _ (l.eraseIdx j) G' hmp hg1 hg2
 refine ⟨by simp [Op.operands, Call.operands, known, hv1, hv2], .inl ⟨.tuple #[], _, ?_, _, _, _, _, _, _, o1, o2, by simp only [Rs]; exact ⟨[], rfl, by simp only [RsL]⟩, k⟩⟩
 have e : execOp (rho en) ⟨dst, .call { callee := .builtin .delete, args := #[m, x], argTypes := #[t, t2] }, ty, pos, af, gu⟩ = (do pure (.value (← Builtin.delete_ #[t, t2] ty (#[m, x].map (rho en))))) := rfl
 rw [e]
 simp [rho, hv1, hv2, hrun, Result.andThen]
end
end Go.Sl
end
section
namespace Go.Sl
open Go.RowKit
open Go.ChangeMaps (setBlock heap_setBlock_same heap_setBlock_other)
def ItP (im : Nat) (ks : List Value) (l : List D) (S : List Nat) (w : World) (Z : Nat → Prop) (T : Nat → Option Value) (v : Value) (F : Nat → Nat) : Prop :=
 ∃ (rb b : Nat) (us : List Value) (es : Array MapEntry) (clock since last : Nat) (seen : Array Nat) (G : Nat → Nat),
  v = .pointer (some ⟨rb, 0, none⟩) ∧ T im = some (.map (some b)) ∧ Mp w b ks us es clock ∧ (∀ e ∈ es.toList, e.born < since) ∧ since ≤ last ∧ (S ≠ [] → last = clock) ∧ RoL w Z T l us G ∧
  w.heap[rb]? = some (.mapIter (some b) since seen last) ∧ seen.toList = S.map (fun j => ((es.toList[j]?).map (·.born)).getD 0) ∧ (∀ j ∈ S, j < ks.length) ∧ since ≤ clock ∧ rb ≠ b ∧ ∀ c, F c = (G c + own (.map (some b)) c) + own v c
def ItA (im : Nat) (ks : List Value) (l : List D) (S : List Nat) : Ab where
 p := ItP im ks l S
 keep := fun {w w' Z Z' T T' v F} h hw hZ hT => by
  obtain ⟨rb, b, us, es, clock, since, last, seen, G, h1, h2, h3, h4, h5, h6, h7, h8, h9, h10, h11, h12, h13⟩ := h
  have hb : 0 < F b := by rw [h13]; simp [own, blk]; omega
  have hr : 0 < F rb := by rw [h13, h1]; simp [own, blk]
  refine ⟨rb, b, us, es, clock, since, last, seen, G, h1, hT _ _ h2, ⟨(hw b (.inl hb)).trans h3.at_, h3.key, h3.val, h3.nodup, h3.born, h3.old⟩, h4, h5, h6, ?_, (hw rb (.inl hr)).trans h8, h9, h10, h11, h12, h13⟩
  exact RoL.keep hZ hT l us G (fun x hx => hw x (hx.imp_left fun hx => by rw [h13]; omega)) h7
section
variable {E : En} {w w' : World} {Z Z' : Nat → Prop} {T T' : Nat → Option Value} {F : Nat → Nat} {r : Ad} {nx : Nat}
variable {P : Program} {held : List Nat} {e e' : Env} {de : DEnv} {K : D → Ad → Nat → Prop}
theorem drange {t kt et : TypeId} {m : Operand} {dst : Option Nat} {ty : TypeId} {pos : String} {af : Array Edge} {gu} {tg : A7 K} {im : Nat} {ks : List Value} {l : List D}
  (hm : dv de r m = some (.h im)) (hg : AP r im = some (.mp ks l)) (ht : P.underlying t = some (.map kt et)) (k : K (.h nx) ((nx, .abs (ItA im ks l [])) :: Ej r im) (nx + 1)) :
  CB P ⟨dst, .range t m, ty, pos, af, gu⟩ de held r nx K tg := by
 intro E w Z T F en h he
 obtain ⟨v1, hv1, hr1⟩ := D6 h.roots he hm
 simp only [Rs] at hr1
 obtain ⟨v, F1, F2, h1, h2, h3, h4, h5⟩ := h.roots.get hg
 simp only [Ro] at h2
 obtain ⟨b, us, G, rfl, ⟨es, clock, hmp⟩, h6, h7⟩ := h2
 rw [h1] at hr1
 cases hr1
 have hbF : 0 < F b := by rw [h3, h7]; simp [own, blk]; omega
 have hlt := h.lt b hbF
 let w1 := w.alloc (.mapIter (some b) clock #[] clock)
 have hsame : ∀ x, x < w.heap.size → w1.heap[x]? = w.heap[x]? := fun x hx => heap_alloc_old w _ hx
 -- the iterator alone, then with its map
 let A0 : Ab := ⟨fun w Z T v F => F = own v, fun h _ _ _ => h⟩
 obtain ⟨o1, o2⟩ := h.alloc (held := held) (w' := w1) (o := .mapIter (some b) clock #[] clock) (v := .pointer (some ⟨w.heap.size, 0, none⟩)) (d := .abs A0) (by simp [w1]) (Fr.alloc w _) rfl rfl (by simp only [Ro]; rfl)
 have hT := Ey (v := .pointer (some ⟨w.heap.size, 0, none⟩)) (h.t nx (Nat.le_refl _))
 have hk : ∀ x, 0 < F x ∨ Z x → w1.heap[x]? = w.heap[x]? := fun x hx => hsame x (by
  rcases hx with hx | hx
  ·exact h.lt x hx
  ·exact (h.zlt x hx).1)
 have hro : Ro w1 Z (Ei T nx (.pointer (some ⟨w.heap.size, 0, none⟩))) (.abs (ItA im ks l [])) (.pointer (some ⟨w.heap.size, 0, none⟩)) (fun c => (G c + own (.map (some b)) c) + own (.pointer (some ⟨w.heap.size, 0, none⟩)) c) := by
  simp only [Ro]
  refine ⟨w.heap.size, b, us, es, clock, clock, clock, #[], G, rfl, hT _ _ h1, ⟨(hsame b hlt).trans hmp.at_, hmp.key, hmp.val, hmp.nodup, hmp.born, hmp.old⟩, hmp.old, Nat.le_refl _, fun h => absurd rfl h, ?_, heap_alloc_new w _, rfl, by simp, Nat.le_refl _, by omega, fun c => rfl⟩
  exact RoL.keep (fun _ h => h) hT l us G (fun x hx => hk x (hx.imp_left fun hx => by rw [h3, h7]; omega)) h6
 have hrl : RL w1 Z (Ei T nx (.pointer (some ⟨w.heap.size, 0, none⟩))) ((nx, .abs (ItA im ks l [])) :: Ej r im) (fun c => own (.pointer (some ⟨w.heap.size, 0, none⟩)) c + F c) :=
  ⟨_, _, F2, Bi _ _ _, hro, h4.keep (fun _ h => h) hT (fun x hx => hk x (hx.imp_left fun hx => by rw [h3]; omega)), fun c => by
   have := h3 c; have := h7 c
   show own _ c + F c = G c + own (.map (some b)) c + own _ c + F2 c
   omega⟩
 have ok2 := o1.swapR (fun _ h => h) (fun b hb => .inl hb) (fun b => Nat.le_refl _) (fun b hb => (o1.zlt b hb).2) hrl
 refine ⟨by simp [Op.operands, known, hv1], ?_⟩
 exact .inl ⟨.pointer (some ⟨w.heap.size, 0, none⟩), w1, by simp only [execOp, rho, hv1, Option.getD_some, Sem.run_bind, run_range_map w t kt et b es clock ht hmp.at_, Result.andThen_ok, Sem.run_pure]; rfl, _, _, _, _, _, _, ok2, o2, by simp only [Rs]; exact Bi _ _ _, k⟩
theorem Ac4 {b : Nat} {ks us : List Value} {es : Array MapEntry} {clock : Nat} (h : Mp w b ks us es clock) {e : MapEntry} (he : e ∈ es.toList) : ∃ j : Nat, es.toList[j]? = some e ∧ ks[j]? = some e.key ∧ us[j]? = some e.val := by
 obtain ⟨j, hj, rfl⟩ := List.getElem_of_mem he
 refine ⟨j, List.getElem?_eq_getElem hj, ?_, ?_⟩
 ·rw [← h.key, List.getElem?_map, List.getElem?_eq_getElem hj]; rfl
 ·rw [← h.val, List.getElem?_map, List.getElem?_eq_getElem hj]; rfl
theorem XE {b : Nat} {ks us : List Value} {es : Array MapEntry} {clock : Nat} (h : Mp w b ks us es clock) {S : List Nat} (hS : ∀ j ∈ S, j < ks.length) {j : Nat} {e : MapEntry} (he : es.toList[j]? = some e) :
  e.born ∈ S.map (fun j => ((es.toList[j]?).map (·.born)).getD 0) ↔ j ∈ S := by
 have hlen : es.toList.length = ks.length := by rw [← h.key, List.length_map]
 constructor
 ·intro hm
  obtain ⟨j', hj', heq⟩ := List.mem_map.1 hm
  have hlt := hS j' hj'
  have hl' : j' < es.toList.length := by omega
  rw [List.getElem?_eq_getElem hl'] at heq
  simp only [Option.map_some, Option.getD_some] at heq
  have h1 : (es.toList.map (·.born))[j']? = some e.born := by rw [List.getElem?_map, List.getElem?_eq_getElem hl', ← heq]; rfl
  have h2 : (es.toList.map (·.born))[j]? = some e.born := by rw [List.getElem?_map, he]; rfl
  have := (List.getElem?_inj (by rw [List.length_map]; exact hl') h.born).1 (h1.trans h2.symm)
  subst this
  exact hj'
 ·intro hj
  exact List.mem_map.2 ⟨j, hj, by rw [he]; rfl⟩
theorem Abm {rb : Nat} {o o' : Obj} (h : w.heap[rb]? = some o) : (setBlock w rb o').heap[rb]? = some o' := by
 have hlt := (Array.getElem?_eq_some_iff.1 h).1
 simp [setBlock, hlt]
theorem Zk {rb x : Nat} {o : Obj} (hx : x ≠ rb) : (setBlock w rb o).heap[x]? = w.heap[x]? := by
 simp only [setBlock]
 rw [Array.getElem?_setIfInBounds_ne (Ne.symm hx)]
theorem AaN (h : Ok E w Z T F r nx) {ni im : Nat} {ks : List Value} {l : List D} {S : List Nat} (hg : AP r ni = some (.abs (ItA im ks l S))) (hh : ni ∉ held) {rb b since last : Nat} {us : List Value} {es : Array MapEntry} {clock : Nat} {seen : Array Nat} {e : MapEntry} {j : Nat}
  (hv : T ni = some (.pointer (some ⟨rb, 0, none⟩))) (hmp : Mp w b ks us es clock) (hit : w.heap[rb]? = some (.mapIter (some b) since seen last)) (he : es.toList[j]? = some e) :
  ∃ F', Ok E (setBlock w rb (.mapIter (some b) since (seen.push e.born) clock)) Z T F' (Dn r ni (.abs (ItA im ks l (S ++ [j])))) nx ∧ Grow r w Z T (setBlock w rb (.mapIter (some b) since (seen.push e.born) clock)) Z T held := by
 obtain ⟨v, F1, F2, h1, h2, h3, h4, h5⟩ := h.roots.get hg
 rw [hv] at h1
 cases h1
 simp only [Ro] at h2
 obtain ⟨rb', b', us', es', clock', since', last', seen', G, g1, g2, g3, g4, g5, g6, g7, g8, g9, g10, g11, g12, g13⟩ := h2
 cases g1
 rw [hit] at g8
 cases g8
 have hes := hmp.at_.symm.trans g3.at_
 cases hes
 obtain rfl : us' = us := by rw [← g3.val, ← hmp.val]
 have hlen : es.toList.length = ks.length := by rw [← g3.key, List.length_map]
 have hjl : j < ks.length := by have := (List.getElem?_eq_some_iff.1 he).1; omega
 have hrb1 : 0 < F1 rb := by rw [g13]; simp [own, blk]
 have hbF : 0 < F1 b := by rw [g13]; simp [own, blk]; omega
 have hzrb : ∀ x, Z x → x ≠ rb := fun x hx e => by
  have := (h.zlt x hx).2
  have := h3 x
  subst e
  omega
 have hother : ∀ x, x ≠ rb → (setBlock w rb (.mapIter (some b) since (seen.push e.born) clock)).heap[x]? = w.heap[x]? := fun x hx => Zk hx
 have hone : F rb ≤ 1 := h.one rb
 have hG : G rb = 0 ∧ F2 rb = 0 := by
  have := h3 rb; have := g13 rb
  have : own (.pointer (some ⟨rb, 0, none⟩)) rb = 1 := by simp [own, blk]
  omega
 have hfr : Fr (· = rb) w (setBlock w rb (.mapIter (some b) since (seen.push e.born) clock)) := ⟨rfl, rfl, rfl, by simp [setBlock], fun x _ hx => hother x hx⟩
 have hd' : Ro (setBlock w rb (.mapIter (some b) since (seen.push e.born) clock)) Z T (.abs (ItA im ks l (S ++ [j]))) (.pointer (some ⟨rb, 0, none⟩)) F1 := by
  simp only [Ro]
  refine ⟨rb, b, us', es, clock, since, clock, seen.push e.born, G, rfl, g2, ⟨(hother b (Ne.symm g12)).trans g3.at_, g3.key, g3.val, g3.nodup, g3.born, g3.old⟩, g4, g11, fun _ => rfl, ?_, Abm hit, ?_, ?_, g11, g12, g13⟩
  ·exact RoL.keep (fun _ h => h) (fun _ _ h => h) l us' G (fun x hx => hother x (by
    rcases hx with hx | hx
    ·intro e; subst e; omega
    ·exact hzrb x hx)) g7
  ·rw [Array.toList_push, g9, List.map_append, List.map_cons, List.map_nil, he]
   rfl
  ·intro k hk
   rcases List.mem_append.1 hk with hk | hk
   ·exact g10 k hk
   ·simp only [List.mem_singleton] at hk; omega
 have hrl := h5 (setBlock w rb (.mapIter (some b) since (seen.push e.born) clock)) Z T (.abs (ItA im ks l (S ++ [j]))) (.pointer (some ⟨rb, 0, none⟩)) F1 (fun x hx => hother x (by
  rcases hx with hx | hx
  ·intro e; subst e; omega
  ·exact hzrb x hx)) (fun _ h => h) (fun _ _ h => h) hv hd'
 obtain ⟨o1, o2⟩ := h.write (d' := .abs (ItA im ks l (S ++ [j]))) hv (b0 := rb) rfl h3 (F1' := F1) (fun _ => Nat.le_refl _) hrb1 hfr hrl hh h4
 exact ⟨_, o1, o2⟩
theorem dnext {it : Operand} {dst : Option Nat} {ty : TypeId} {pos : String} {af : Array Edge} {gu} {tg : A7 K} {ni im : Nat} {ks : List Value} {l : List D} {S : List Nat}
  (hm : dv de r it = some (.h ni)) (hg : AP r ni = some (.abs (ItA im ks l S))) (hh : ni ∉ held)
  (k0 : (∀ j, j < ks.length → j ∈ S) → K (.tup [.sc (.bool false)]) r nx)
  (k1 : ∀ j key, ks[j]? = some key → j ∉ S → K (.tup [.sc (.bool true), .sc key, .dead]) (Dn r ni (.abs (ItA im ks l (S ++ [j])))) nx) :
  CB P ⟨dst, .next it false, ty, pos, af, gu⟩ de held r nx K tg := by
 intro E w Z T F en h he
 obtain ⟨v1, hv1, hr1⟩ := D6 h.roots he hm
 simp only [Rs] at hr1
 obtain ⟨v, F1, F2, h1, h2, h3, h4, h5⟩ := h.roots.get hg
 rw [hr1] at h1
 cases h1
 simp only [Ro] at h2
 obtain ⟨rb, b, us, es, clock, since, last, seen, G, rfl, g2, g3, g4, g5, g6, g7, g8, g9, g10, g11, g12, g13⟩ := h2
 refine ⟨by simp [Op.operands, known, hv1], ?_⟩
 have hlen : es.toList.length = ks.length := by rw [← g3.key, List.length_map]
 rcases run_next_at (P := P) w ty rb b since last seen es clock g8 g3.at_ g4 g5 with ⟨hl, hrun⟩ | ⟨e, hel, w1, hw1, hrun⟩
 ·refine .inl ⟨.tuple #[.bool false], w, by simp only [execOp, rho, hv1, Option.getD_some, Sem.run_bind, hrun, Result.andThen_ok, Sem.run_pure], _, _, _, _, _, _, h, Grow.refl _ _ _ _ _, ?_, k0 fun j hj => ?_⟩
  ·simp only [Rs]
   exact ⟨[.bool false], rfl, by simp only [RsL]; exact ⟨_, _, rfl, by simp only [Rs], rfl⟩⟩
  ·have hje : es.toList[j]? = some es.toList[j] := List.getElem?_eq_getElem (by omega)
   refine (XE g3 g10 hje).1 ?_
   rw [← g9]
   have hno : es.toList[j] ∉ (leftOf es seen).toList := by
    intro hc
    have : (leftOf es seen).toList.length = 0 := by rw [Array.length_toList]; exact hl
    rw [List.eq_nil_of_length_eq_zero this] at hc
    cases hc
   unfold leftOf at hno
   simp only [Array.toList_filter, List.mem_filter, not_and] at hno
   have := hno (List.getElem_mem _)
   simpa using this
 ·have hmem : e ∈ es.toList ∧ e.born ∉ seen.toList := by
   unfold leftOf at hel
   simp only [Array.toList_filter, List.mem_filter] at hel
   exact ⟨hel.1, by simpa using hel.2⟩
  obtain ⟨j, hj, hk, hu⟩ := Ac4 g3 hmem.1
  have hjS : j ∉ S := fun hc => hmem.2 (by rw [g9]; exact (XE g3 g10 hj).2 hc)
  have fin : ∀ w0, w0 = w ∨ w0 = w.drew → ∃ F', Ok E (setBlock w0 rb (.mapIter (some b) since (seen.push e.born) clock)) Z T F' (Dn r ni (.abs (ItA im ks l (S ++ [j])))) nx ∧ Grow r w Z T (setBlock w0 rb (.mapIter (some b) since (seen.push e.born) clock)) Z T held := fun w0 hw0 => by
   rcases hw0 with rfl | rfl
   ·exact AaN h hg hh hr1 g3 g8 hj
   ·obtain ⟨F', o1, o2⟩ := AaN (held := held) (h.drew) hg hh hr1 (w := w.drew) ⟨g3.at_, g3.key, g3.val, g3.nodup, g3.born, g3.old⟩ g8 hj
    exact ⟨F', o1, ⟨o2.zs, o2.zz, o2.tt, o2.hd⟩⟩
  obtain ⟨F', o1, o2⟩ := fin w1 hw1
  refine .inl ⟨.tuple #[.bool true, e.key, e.val], _, by simp only [execOp, rho, hv1, Option.getD_some, Sem.run_bind, hrun, Result.andThen_ok, Sem.run_pure], _, _, _, _, _, _, o1, o2, ?_, k1 j e.key hk hjS⟩
  simp only [Rs]
  exact ⟨[.bool true, e.key, e.val], rfl, by simp only [RsL]; exact ⟨_, _, rfl, by simp only [Rs], _, _, rfl, by simp only [Rs], _, _, rfl, by simp only [Rs], rfl⟩⟩
theorem ZR {it : Operand} {dst : Option Nat} {ty : TypeId} {pos : String} {af : Array Edge} {gu} {tg : A7 K} {ni im j : Nat} {ks : List Value} {l : List D} {S : List Nat} {key : Value} {eb : TypeId} {lc : List D}
  (hm : dv de r it = some (.h ni)) (hg : AP r ni = some (.abs (ItA im ks l (S ++ [j])))) (hj : ks[j]? = some key) (hd : l[j]? = some (.box eb lc))
  (k : K (.tup [.sc key, .hp nx 0]) ((nx, .box eb lc) :: Dn r ni (.abs (ItA im ks (l.set j (.hp nx 0)) (S ++ [j])))) (nx + 1)) :
  CB P ⟨dst, .entry it, ty, pos, af, gu⟩ de held r nx K tg := by
 intro E w Z T F en h he
 obtain ⟨v1, hv1, hr1⟩ := D6 h.roots he hm
 simp only [Rs] at hr1
 obtain ⟨v, F1, F2, h1, h2, h3, h4, h5⟩ := h.roots.get hg
 rw [hr1] at h1
 cases h1
 simp only [Ro] at h2
 obtain ⟨rb, b, us, es, clock, since, last, seen, G, rfl, g2, g3, g4, g5, g6, g7, g8, g9, g10, g11, g12, g13⟩ := h2
 obtain rfl : last = clock := g6 (by simp)
 have hlen : es.toList.length = ks.length := by rw [← g3.key, List.length_map]
 have hjl := (List.getElem?_eq_some_iff.1 hj).1
 have hje : es.toList[j]? = some (es.toList[j]'(by omega)) := List.getElem?_eq_getElem (by omega)
 generalize (es.toList[j]'(by omega)) = e0 at hje
 have hkey : e0.key = key := by
  have : ks[j]? = some e0.key := by rw [← g3.key, List.getElem?_map, hje]; rfl
  rw [hj] at this; exact (Option.some.inj this).symm
 have huj : us[j]? = some e0.val := by rw [← g3.val, List.getElem?_map, hje]; rfl
 have hseen : seen = ((S.map fun j => ((es.toList[j]?).map (·.born)).getD 0).toArray).push e0.born := by
  apply Array.toList_inj.1
  rw [g9, List.map_append, List.map_cons, List.map_nil, hje, Array.toList_push]
  rfl
 have hrun := run_entry_at (P := P) w rb b since _ es last e0 (by rw [← hseen]; exact g8) g3.at_ (List.mem_of_getElem? hje) g3.born
 have hT := Ey (v := e0.val) (h.t nx (Nat.le_refl _))
 have g7' : RoL w Z (Ei T nx e0.val) l us G := RoL.keep (fun _ h => h) hT l us G (fun _ _ => rfl) g7
 obtain ⟨u, Fa, Fb, q1, q2, q3, q4⟩ := g7'.get hd
 rw [huj] at q1
 cases q1
 have hone := Jy q2 (.inl ⟨_, _, rfl⟩)
 have hrs : Rs w Z (Ei T nx e0.val) (.hp nx 0) e0.val := by
  simp only [Ro] at q2
  obtain ⟨b2, us2, F2', q5, _⟩ := q2
  simp only [Rs]
  exact ⟨_, b2, Bi _ _ _, by rw [q5]; rfl, q5⟩
 have hro : Ro w Z (Ei T nx e0.val) (.abs (ItA im ks (l.set j (.hp nx 0)) (S ++ [j]))) (.pointer (some ⟨rb, 0, none⟩)) (fun c => ((0 + Fb c) + own (.map (some b)) c) + own (.pointer (some ⟨rb, 0, none⟩)) c) := by
  simp only [Ro]
  have hh := q4 (.hp nx 0) e0.val (fun _ => 0) (Ro.of hrs)
  rw [F6 huj] at hh
  exact ⟨rb, b, us, es, last, since, last, seen, fun c => 0 + Fb c, rfl, hT _ _ g2, g3, g4, g5, fun _ => rfl, hh, g8, g9, g10, g11, g12, fun c => rfl⟩
 have hr' : RL w Z (Ei T nx e0.val) r F := h.roots.keep (fun _ h => h) hT (fun _ _ => rfl)
 have hrl := h5 w Z (Ei T nx e0.val) _ _ _ (fun _ _ => rfl) (fun _ h => h) hT (hT _ _ hr1) hro
 obtain ⟨o1, o2⟩ := h.name (held := held) hone (fun _ => rfl) (r' := (nx, .box eb lc) :: Dn r ni (.abs (ItA im ks (l.set j (.hp nx 0)) (S ++ [j])))) ⟨e0.val, Fa, _, Bi _ _ _, q2, hrl, fun c => by
  have := h3 c; have := g13 c; have := q3 c
  show F c = Fa c + (0 + Fb c + own (.map (some b)) c + own _ c + F2 c)
  omega⟩
 refine ⟨by simp [Op.operands, known, hv1], ?_⟩
 refine .inl ⟨.tuple #[e0.key, e0.val], w, by simp only [execOp, rho, hv1, Option.getD_some, Sem.run_bind, hrun, Result.andThen_ok, Sem.run_pure], _, _, _, _, _, _, o1, o2, ?_, k⟩
 simp only [Rs] at hrs ⊢
 exact ⟨[e0.key, e0.val], rfl, by simp only [RsL]; exact ⟨_, _, rfl, by simp only [Rs]; exact hkey, _, _, rfl, by simp only [Rs]; exact hrs, rfl⟩⟩
theorem RT.itfold (i ni im j : Nat) {ks : List Value} {l : List D} {S : List Nat} {d : D} (hi : AP r i = some d) (hne : i ≠ ni) (hp : AP r ni = some (.abs (ItA im ks l S))) (hl : l[j]? = some (Q3 i d)) :
  RT r (Dn (Ej r i) ni (.abs (ItA im ks (l.set j d) S))) := fun E w Z T F nx h => by
 obtain ⟨v, F1, F2, h1, h2, h3, h4, _⟩ := h.roots.get hi
 have hp2 : AP (Ej r i) ni = some (.abs (ItA im ks l S)) := by rw [Jz hne]; exact hp
 obtain ⟨u, G1, G2, g1, g2, g3, g4, g5⟩ := h4.get hp2
 simp only [Ro] at g2
 obtain ⟨rb, b, us, es, clock, since, last, seen, G, rfl, k2, k3, k4, k5, k6, k7, k8, k9, k10, k11, k12, k13⟩ := g2
 obtain ⟨x, X1, X2, x1, x2, x3, x4⟩ := k7.get hl
 obtain ⟨x5, x6⟩ := x2.rs (QZ i d)
 have hx : x = v := Aay h2 h1 x5
 subst hx
 have hset : us.set j x = us := by
  obtain ⟨hlt, he⟩ := List.getElem?_eq_some_iff.1 x1
  rw [← he]
  exact List.set_getElem_self hlt
 have hh := x4 d x F1 h2
 rw [hset] at hh
 have hro : Ro w Z T (.abs (ItA im ks (l.set j d) S)) (.pointer (some ⟨rb, 0, none⟩)) (fun c => ((F1 c + X2 c) + own (.map (some b)) c) + own (.pointer (some ⟨rb, 0, none⟩)) c) := by
  simp only [Ro]
  exact ⟨rb, b, us, es, clock, since, last, seen, _, rfl, k2, k3, k4, k5, k6, hh, k8, k9, k10, k11, k12, fun c => rfl⟩
 have hrl := g5 w Z T _ _ _ (fun _ _ => rfl) (fun _ h => h) (fun _ _ h => h) g1 hro
 refine ⟨Z, F, h.swapR (fun _ h => h) (fun b hb => .inl hb) (fun b => Nat.le_refl _) (fun b hb => (h.zlt b hb).2) (hrl.cast fun c => ?_), fun _ h => h⟩
 show F c = F1 c + X2 c + own (.map (some b)) c + own _ c + G2 c
 have := h3 c; have := g3 c; have := k13 c; have := x3 c; have := x6 c
 omega
theorem RT.itdone (ni im : Nat) {ks : List Value} {l : List D} {S : List Nat} (hg : AP r ni = some (.abs (ItA im ks l S))) : RT r ((im, .mp ks l) :: Ej r ni) := fun E w Z T F nx h => by
 obtain ⟨v, F1, F2, h1, h2, h3, h4, _⟩ := h.roots.get hg
 simp only [Ro] at h2
 obtain ⟨rb, b, us, es, clock, since, last, seen, G, rfl, k2, k3, k4, k5, k6, k7, k8, k9, k10, k11, k12, k13⟩ := h2
 have hro : Ro w Z T (.mp ks l) (.map (some b)) (fun c => G c + own (.map (some b)) c) := by
  simp only [Ro]
  exact ⟨b, us, G, rfl, ⟨es, clock, k3⟩, k7, fun c => rfl⟩
 refine ⟨Z, fun c => (G c + own (.map (some b)) c) + F2 c, h.swapR (fun _ h => h) (fun b hb => .inl hb) (fun c => ?_) (fun c hc => ?_) ⟨_, _, F2, k2, hro, h4, fun c => rfl⟩, fun _ h => h⟩
 ·have := h3 c; have := k13 c
  show G c + own (.map (some b)) c + F2 c ≤ F c
  omega
 ·have := (h.zlt c hc).2; have := h3 c; have := k13 c
  show G c + own (.map (some b)) c + F2 c = 0
  omega
end
end Go.Sl
end
section
namespace Go.Sl
open Go.RowKit
section
variable {E : En} {w w' : World} {Z Z' : Nat → Prop} {T T' : Nat → Option Value} {F : Nat → Nat} {r : Ad} {nx : Nat}
variable {P : Program} {held : List Nat} {e e' : Env} {de : DEnv} {K : D → Ad → Nat → Prop}
def NoZ (t : D) : Prop := ∀ (w : World) (Z Z' : Nat → Prop) (T : Nat → Option Value) (v : Value) (F : Nat → Nat), Ro w Z T t v F → Ro w Z' T t v F
def NoZs (d : D) : Prop := ∀ (w : World) (Z Z' : Nat → Prop) (T : Nat → Option Value) (v : Value), Rs w Z T d v → Rs w Z' T d v
def isSc : D → Prop
 | .sc _ => True
 | _ => False
theorem X0 : ∀ {l : List D}, (∀ d ∈ l, isSc d) → ∀ (w : World) (Z Z' : Nat → Prop) (T : Nat → Option Value) (us : List Value) (F : Nat → Nat), RoL w Z T l us F → RoL w Z' T l us F
 | [], _, w, Z, Z', T, us, F, h => by simp only [RoL] at h ⊢; exact h
 | d :: l, hl, w, Z, Z', T, us, F, h => by
  simp only [RoL] at h ⊢
  obtain ⟨u, us', F1, F2, rfl, h1, h2, h3⟩ := h
  refine ⟨u, us', F1, F2, rfl, ?_, X0 (fun d hd => hl d (by simp [hd])) w Z Z' T us' F2 h2, h3⟩
  have := hl d (by simp)
  cases d <;> simp only [isSc] at this
  simp only [Ro, Rs] at h1 ⊢
  exact h1
theorem Aeo {e s n : Nat} {l : List D} (h : ∀ d ∈ l, isSc d) : NoZ (.row e s n l) := fun w Z Z' T v F hr => by
 simp only [Ro] at hr ⊢
 obtain ⟨us, F', h1, h2, h3⟩ := hr
 exact ⟨us, F', h1, X0 h w Z Z' T us F' h2, h3⟩
theorem noZs_h (i : Nat) : NoZs (.h i) := fun w Z Z' T v h => by simp only [Rs] at h ⊢; exact h
theorem Aen (v : Value) : NoZs (.sc v) := fun w Z Z' T u h => by simp only [Rs] at h ⊢; exact h
theorem RT.cons (p : Nat × D) {r' : Ad} (h : RT r r') : RT (p :: r) (p :: r') := fun E w Z T F nx ok => by
 obtain ⟨v, F1, F2, h1, h2, h3, h4⟩ := ok.roots
 have hok : Ok ⟨w, Z, T, F2, nx⟩ w Z T F2 r nx := ⟨Fr.refl _ _, fun _ h => h, fun _ _ h => .inl h, fun _ _ => Nat.le_refl _, fun _ _ h => h, fun b => by have := ok.one b; have := h4 b; omega, fun b hb => ok.lt b (by have := h4 b; omega), fun b hb => ⟨(ok.zlt b hb).1, by have := (ok.zlt b hb).2; have := h4 b; omega⟩, ok.t, ok.cell, Nat.le_refl _, h3⟩
 obtain ⟨Z', F', o, z⟩ := h _ _ _ _ _ _ hok
 have hs := ok.fr.size
 have hF : ∀ b, F' b ≤ F2 b := fun b => by
  rcases Nat.eq_zero_or_pos (F' b) with h0 | h0
  ·omega
  ·exact o.fo b (o.lt b h0)
 have hz : ∀ b, Z' b → F1 b = 0 := fun b hb => by
  rcases o.zo b (o.zlt b hb).1 hb with k | k
  ·have := (ok.zlt b k).2; have := h4 b; omega
  ·have := ok.one b; have := h4 b; dsimp only at k; omega
 refine ⟨Z', fun b => F1 b + F' b, ⟨ok.fr, fun b hb => z b (ok.z b hb), fun b hb hz' => ?_, fun b hb => ?_, ok.names, fun b => ?_, fun b hb => ?_, fun b hb => ⟨(o.zlt b hb).1, ?_⟩, ok.t, ok.cell, ok.ge, ⟨v, F1, F', h1, Ro.keep z (fun _ _ h => h) _ _ _ (fun _ _ => rfl) h2, o.roots, fun _ => rfl⟩⟩, z⟩
 ·rcases o.zo b (o.zlt b hz').1 hz' with k | k
  ·exact ok.zo b hb k
  ·have := ok.fo b hb; have := h4 b; dsimp only at k; exact .inr (by omega)
 ·have := ok.fo b hb; have := h4 b; have := hF b; omega
 ·have := ok.one b; have := h4 b; have := hF b; omega
 ·exact ok.lt b (by have := h4 b; have := hF b; (try dsimp only at hb); omega)
 ·have := (o.zlt b hb).2; have := hz b hb; omega
theorem AbD {r1 : Ad} {f : FuncId} {ds : List D} {g : Nat → D} {t : D} {tg : A7 K} (h : RT r r1) (hc : MB P f (ds.map (Dx r1)) g t) (ht : NoZ t) (hgz : ∀ i, NoZs (g i))
  (k : ∀ i nx', nx ≤ i → i < nx' → K (g i) ((i, t) :: r) nx') : AO P f ds held r nx K tg := by
 intro E w Z T F vs ok hrs
 obtain ⟨Z1, F1, o1, z1⟩ := h E w Z T F nx ok
 have hrs1 : RsL w Z1 T (ds.map (Dx r1)) vs := RsL.res o1.roots (RsL.keep (fun _ _ => rfl) z1 (fun _ _ h => h) _ _ hrs)
 have hok : Ok ⟨w, Z1, T, fun _ => 0, nx⟩ w Z1 T (fun _ => 0) [] nx := ⟨Fr.refl _ _, fun _ h => h, fun _ _ h => .inl h, fun _ _ => Nat.le_refl _, fun _ _ h => h, fun b => by simp, fun b hb => by simp at hb, fun b hb => ⟨(o1.zlt b hb).1, rfl⟩, o1.t, o1.cell, Nat.le_refl _, fun _ => rfl⟩
 refine (hc nx w Z1 T _ vs hok hrs1).mono fun en w' ⟨v, hv, d, r', nx', Z', T', F', p1, p2, i, q1, q2, q3, q4⟩ => ?_
 subst q3; subst q4
 have hsz := p1.fr.size
 have hsame : ∀ b, b < w.heap.size → w'.heap[b]? = w.heap[b]? := fun b hb => p1.fr.same b hb (by simp)
 have hF0 : ∀ b, b < w.heap.size → F' b = 0 := fun b hb => by have := p1.fo b hb; dsimp only at this; omega
 obtain ⟨v0, G1, G2, t1, t2, t3, t4⟩ := p1.roots
 have hG2 : ∀ b, G2 b = 0 := t3
 refine ⟨v, hv, g i, (i, t) :: r, nx', Z, T', fun b => F' b + F b, ?_, ?_, hgz i _ _ _ _ _ p2, k i nx' q1 q2⟩
 ·refine ⟨ok.fr.step p1.fr (fun b hb hM => by simp at hM), ok.z, ok.zo, fun b hb => ?_, fun i u hu => p1.names i u (ok.names i u hu), fun b => ?_, fun b hb => ?_, fun b hb => ?_, p1.t, p1.cell, Nat.le_trans ok.ge p1.ge, ?_⟩
  ·have := ok.fr.size
   have := hF0 b (by omega)
   have := ok.fo b hb
   omega
  ·by_cases hb : b < w.heap.size
   ·have := hF0 b hb; have := ok.one b; omega
   ·have : F b = 0 := by
     rcases Nat.eq_zero_or_pos (F b) with h | h
     ·exact h
     ·exact absurd (ok.lt b h) hb
    have := p1.one b; omega
  ·by_cases h0 : 0 < F' b
   ·exact p1.lt b h0
   ·have := ok.lt b (by omega); dsimp only at hsz; omega
  ·have h1 := ok.zlt b hb
   have := hF0 b h1.1
   dsimp only at hsz
   exact ⟨by omega, by omega⟩
  ·exact ⟨v0, G1, F, t1, ht _ _ _ _ _ _ t2, ok.roots.keep (fun _ h => h) p1.names (fun b hb => hsame b (by
    rcases hb with hb | hb
    ·exact ok.lt b hb
    ·exact (ok.zlt b hb).1)), fun b => by have := t4 b; have := hG2 b; show F' b + F b = G1 b + F b; omega⟩
 ·refine ⟨fun b hb => hsame b (ok.zlt b hb).1, fun _ h => h, p1.names, fun j hj ho u b hu hbk => ?_⟩
  obtain ⟨d', H1, H2, _, _, g3, g4, _⟩ := IJ ok.roots ho hu hbk
  have := g3 b
  exact hsame b (ok.lt b (by omega))
end
end Go.Sl
end
section
namespace Go.Proofs.YtgpkbldlkadnjaaGreat
open Go Go.Sl
-- 13 shardlog/disk.New; Ae [(0, capacity), (1, capacity)]
noncomputable def m_disk_New : MF := ⟨9, [.t 2],
 .seq (
 .ops [
 .p 2 .mv [(.const (.pointer none))]]) (
 .seq (
 .ops [
 .gen (some 3) ⟨(some 3), (.makeMap 97 none), 97, "disk.go:25", #[], none⟩,
 .p 4 .mv [(.tmp 0)],
 .p 5 .max [(.tmp 4), (.const (.int .i64 0))],
 .p 6 .min [(.tmp 5), (.const (.int .i64 65536))],
 .p 7 (.build [(.map none), (.int .i64 0)] [(0, 1), (1, 1)]) [(.tmp 3), (.tmp 6)],
 .box 8 AB (.tmp 7),
 .p 2 .mv [(.tmp 8)]]) (
 .ret))⟩

theorem Aaf : trF Tryz.prog LZ = some m_disk_New := by kernel_rfl
-- 20 (*shardlog/disk.Disk).Crash; Ae [(0, d), (1, keep), (2, d), (3, keep), (4, _), (5, name), (6, f), (7, rest), (8, n)]
noncomputable def m_disk_Disk_Crash : MF := ⟨69, [],
 .seq (
 .ops [
 .p 9 .mv [(.tmp 0)],
 .call (some 10) Ir [(.tmp 9)],
 .p 11 .len [(.tmp 10)],
 .p 12 .mv [(.const (.int .i64 0))]]) (
 .block 0 (
 .loop (
 .seq (
 .ops [
 .p 13 (.bin .lss) [(.tmp 12), (.tmp 11)]]) (
 .seq (
 .cond (.tmp 13) (
 .skip) (
 .exit 0)) (
 .seq (
 .block 1 (
 .seq (
 .ops [
 .p 14 (.ixs 1) [(.tmp 10), (.tmp 12)],
 .ld 15 (.tmp 14),
 .p 5 .mv [(.tmp 15)]]) (
 .seq (
 .ops [
 .p 16 .mv [(.tmp 0)],
 .p 17 .nilc [(.tmp 16)],
 .p 18 (.fad 0) [(.tmp 17)],
 .ld 19 (.tmp 18),
 .p 20 .mv [(.tmp 5)],
 .gen (some 21) ⟨(some 21), (.lookup 97 (.tmp 19) (.tmp 20) false), 119, "disk.go:147", #[⟨3, .data⟩, ⟨4, .data⟩], none⟩,
 .p 6 .mv [(.tmp 21)]]) (
 .seq (
 .dr (
 .one ⟨.p 22 .mv [(.tmp 6)], []⟩ (
 .one ⟨.p 23 .nilc [(.tmp 22)], []⟩ (
 .one ⟨.p 24 (.fad 0) [(.tmp 23)], []⟩ (
 .one ⟨.ld 25 (.tmp 24), []⟩ (
 .one ⟨.p 26 .len [(.tmp 25)], []⟩ (
 .one ⟨.p 27 .mv [(.tmp 6)], []⟩ (
 .one ⟨.p 28 .nilc [(.tmp 27)], []⟩ (
 .one ⟨.p 29 (.fad 1) [(.tmp 28)], []⟩ (
 .one ⟨.ld 30 (.tmp 29), []⟩ (
 .one ⟨.p 31 (.bin .sub) [(.tmp 26), (.tmp 30)], []⟩ (
 .one ⟨.p 7 .mv [(.tmp 31)], []⟩ (
 .nil))))))))))))) (
 .seq (
 .seq (
 .ops [
 .p 32 .mv [(.tmp 7)],
 .p 33 (.bin .eql) [(.tmp 32), (.const (.int .i64 0))]]) (
 .cond (.tmp 33) (
 .exit 1) (
 .skip))) (
 .seq (
 .ops [
 .p 8 .mv [(.const (.int .i64 0))]]) (
 .seq (
 .seq (
 .ops [
 .p 34 .mv [(.tmp 1)],
 .p 35 .len [(.tmp 34)],
 .p 36 (.bin .gtr) [(.tmp 35), (.const (.int .i64 0))]]) (
 .cond (.tmp 36) (
 .dr (
 .one ⟨.p 37 .mv [(.tmp 1)], []⟩ (
 .one ⟨.p 38 (.ixs 1) [(.tmp 37), (.const (.int .i64 0))], []⟩ (
 .one ⟨.ld 39 (.tmp 38), []⟩ (
 .one ⟨.p 41 .mv [(.tmp 7)], []⟩ (
 .one ⟨.p 42 (.bin .add) [(.tmp 41), (.const (.int .i64 1))], []⟩ (
 .one ⟨.p 43 (.conv .u64) [(.tmp 42)], []⟩ (
 .one ⟨.p 46 .mv [(.tmp 1)], []⟩ (
 .one ⟨.p 47 (.sls 1 true false false) [(.tmp 46), (.const (.int .i64 1))], []⟩ (
 .one ⟨.call (some 40) Jl [(.tmp 39)], []⟩ (
 .one ⟨.p 44 (.bin .rem) [(.tmp 40), (.tmp 43)], []⟩ (
 .one ⟨.p 45 (.conv .i64) [(.tmp 44)], []⟩ (
 .one ⟨.p 8 .mv [(.tmp 45)], []⟩ (
 .one ⟨.p 1 .mv [(.tmp 47)], []⟩ (
 .nil))))))))))))))) (
 .skip))) (
 .seq (
 .ops [
 .p 48 .mv [(.tmp 6)],
 .p 49 .nilc [(.tmp 48)],
 .p 50 (.fad 1) [(.tmp 49)],
 .ld 51 (.tmp 50),
 .p 52 .mv [(.tmp 8)],
 .p 53 (.bin .add) [(.tmp 51), (.tmp 52)],
 .p 54 .nilc [(.tmp 48)],
 .p 55 (.fad 1) [(.tmp 54)],
 .st 1 false (.tmp 55) (.tmp 53)]) (
 .dr (
 .one ⟨.p 56 .mv [(.tmp 6)], []⟩ (
 .one ⟨.p 57 .mv [(.tmp 6)], []⟩ (
 .one ⟨.p 58 .nilc [(.tmp 57)], []⟩ (
 .one ⟨.p 59 (.fad 0) [(.tmp 58)], []⟩ (
 .one ⟨.ld 60 (.tmp 59), []⟩ (
 .one ⟨.p 61 .mv [(.tmp 6)], []⟩ (
 .one ⟨.p 62 .nilc [(.tmp 61)], []⟩ (
 .one ⟨.p 63 (.fad 1) [(.tmp 62)], []⟩ (
 .one ⟨.ld 64 (.tmp 63), []⟩ (
 .one ⟨.p 65 (.sls 1 false true false) [(.tmp 60), (.tmp 64)], []⟩ (
 .one ⟨.p 66 .nilc [(.tmp 56)], []⟩ (
 .one ⟨.p 67 (.fad 0) [(.tmp 66)], []⟩ (
 .one ⟨.st 1 false (.tmp 67) (.tmp 65), []⟩ (
 .nil))))))))))))))))))))))) (
 .ops [
 .p 68 (.bin .add) [(.tmp 12), (.const (.int .i64 1))],
 .p 12 .mv [(.tmp 68)]]))))))⟩

theorem P9 : trF Tryz.prog Iu = some m_disk_Disk_Crash := by kernel_rfl
-- 22 (*shardlog/disk.Disk).Read; Ae [(0, d), (1, name), (2, d), (3, name), (6, f)]
noncomputable def m_disk_Disk_Read : MF := ⟨20, [.t 4, .t 5],
 .seq (
 .ops [
 .p 4 .mv [(.const (.slice none 0 0))],
 .p 5 .mv [(.const (.int .i64 0))]]) (
 .seq (
 .ops [
 .p 7 .mv [(.tmp 0)],
 .p 8 .nilc [(.tmp 7)],
 .p 9 (.fad 0) [(.tmp 8)],
 .ld 10 (.tmp 9),
 .p 11 .mv [(.tmp 1)],
 .gen (some 12) ⟨(some 12), (.lookup 97 (.tmp 10) (.tmp 11) false), 119, "disk.go:71", #[⟨3, .data⟩, ⟨4, .data⟩], none⟩,
 .p 6 .mv [(.tmp 12)]]) (
 .seq (
 .seq (
 .ops [
 .p 13 .mv [(.tmp 6)],
 .p 14 (.isnil .pt false) [(.tmp 13)]]) (
 .cond (.tmp 14) (
 .seq (
 .ops [
 .p 4 .mv [(.const (.slice none 0 0))],
 .p 5 .mv [(.const (.int .i64 5))]]) (
 .ret)) (
 .skip))) (
 .seq (
 .ops [
 .p 15 .mv [(.tmp 6)],
 .p 16 .nilc [(.tmp 15)],
 .p 17 (.fad 0) [(.tmp 16)],
 .ld 18 (.tmp 17),
 .call (some 19) EX [(.tmp 18)],
 .p 4 .mv [(.tmp 19)],
 .p 5 .mv [(.const (.int .i64 0))]]) (
 .ret))))⟩

theorem KZ : trF Tryz.prog DR = some m_disk_Disk_Read := by kernel_rfl
-- 36 (*shardlog/disk.Disk).Append; Ae [(0, d), (1, name), (2, b), (3, d), (4, name), (5, b), (7, f)]
noncomputable def m_disk_Disk_Append : MF := ⟨52, [.t 6],
 .seq (
 .ops [
 .p 6 .mv [(.const (.int .i64 0))]]) (
 .seq (
 .block 0 (
 .seq (
 .ops [
 .p 9 .mv [(.tmp 1)],
 .call (some 10) Iq [(.tmp 9)],
 .p 11 .not [(.tmp 10)],
 .p 8 .mv [(.tmp 11)]]) (
 .cond (.tmp 8) (
 .seq (
 .ops [
 .p 6 .mv [(.const (.int .i64 1))]]) (
 .ret)) (
 .seq (
 .dr (
 .one ⟨.p 13 .mv [(.tmp 2)], []⟩ (
 .one ⟨.p 14 .len [(.tmp 13)], []⟩ (
 .one ⟨.p 15 .mv [(.tmp 0)], []⟩ (
 .one ⟨.p 16 .nilc [(.tmp 15)], []⟩ (
 .one ⟨.p 17 (.fad 1) [(.tmp 16)], []⟩ (
 .one ⟨.ld 18 (.tmp 17), []⟩ (
 .one ⟨.p 19 .mv [(.tmp 0)], []⟩ (
 .one ⟨.call (some 20) IP [(.tmp 19)], [.ld 18 (.tmp 17)]⟩ (
 .one ⟨.p 21 (.bin .sub) [(.tmp 18), (.tmp 20)], []⟩ (
 .one ⟨.p 22 (.bin .gtr) [(.tmp 14), (.tmp 21)], []⟩ (
 .one ⟨.p 12 .mv [(.tmp 22)], []⟩ (
 .nil))))))))))))) (
 .cond (.tmp 12) (
 .seq (
 .ops [
 .p 6 .mv [(.const (.int .i64 4))]]) (
 .ret)) (
 .skip)))))) (
 .seq (
 .seq (
 .ops [
 .p 23 .mv [(.tmp 0)],
 .p 24 .nilc [(.tmp 23)],
 .p 25 (.fad 0) [(.tmp 24)],
 .ld 26 (.tmp 25),
 .p 27 .mv [(.tmp 1)],
 .gen (some 28) ⟨(some 28), (.lookup 97 (.tmp 26) (.tmp 27) false), 119, "disk.go:51", #[⟨3, .data⟩, ⟨4, .data⟩], none⟩,
 .p 29 (.isnil .pt false) [(.tmp 28)]]) (
 .cond (.tmp 29) (
 .ops [
 .p 30 .mv [(.tmp 0)],
 .p 31 .nilc [(.tmp 30)],
 .p 32 (.fad 0) [(.tmp 31)],
 .ld 33 (.tmp 32),
 .p 34 .mv [(.tmp 1)],
 .p 35 (.build [(.slice none 0 0), (.int .i64 0)] []) [],
 .box 36 Au (.tmp 35),
 .genu ⟨none, (.mapUpdate 97 (.tmp 33) (.tmp 34) (.tmp 36)), 0, "disk.go:52", #[⟨3, .data⟩, ⟨4, .data⟩, ⟨6, .data⟩, ⟨0, .phase⟩, ⟨1, .phase⟩, ⟨2, .phase⟩, ⟨3, .phase⟩, ⟨4, .phase⟩, ⟨5, .phase⟩, ⟨6, .phase⟩], none⟩]) (
 .skip))) (
 .seq (
 .ops [
 .p 37 .mv [(.tmp 0)],
 .p 38 .nilc [(.tmp 37)],
 .p 39 (.fad 0) [(.tmp 38)],
 .ld 40 (.tmp 39),
 .p 41 .mv [(.tmp 1)],
 .gen (some 42) ⟨(some 42), (.lookup 97 (.tmp 40) (.tmp 41) false), 119, "disk.go:54", #[⟨3, .data⟩, ⟨4, .data⟩], none⟩,
 .p 7 .mv [(.tmp 42)]]) (
 .seq (
 .ops [
 .p 43 .mv [(.tmp 7)],
 .p 44 .mv [(.tmp 7)],
 .p 45 .nilc [(.tmp 44)],
 .p 46 (.fad 0) [(.tmp 45)],
 .ld 47 (.tmp 46),
 .p 48 .mv [(.tmp 2)],
 .app 49 #[Ap, Ap] Ap (.tmp 47) (.tmp 48),
 .p 50 .nilc [(.tmp 43)],
 .p 51 (.fad 0) [(.tmp 50)],
 .st 1 false (.tmp 51) (.tmp 49)]) (
 .seq (
 .ops [
 .p 6 .mv [(.const (.int .i64 0))]]) (
 .ret))))))⟩

theorem O4 : trF Tryz.prog Fj = some m_disk_Disk_Append := by kernel_rfl
-- 53 (*shardlog/disk.Disk).Trim; Ae [(0, d), (1, name), (2, n), (3, d), (4, name), (5, n), (7, f)]
noncomputable def m_disk_Disk_Trim : MF := ⟨48, [.t 6],
 .seq (
 .ops [
 .p 6 .mv [(.const (.int .i64 0))]]) (
 .seq (
 .ops [
 .p 8 .mv [(.tmp 0)],
 .p 9 .nilc [(.tmp 8)],
 .p 10 (.fad 0) [(.tmp 9)],
 .ld 11 (.tmp 10),
 .p 12 .mv [(.tmp 1)],
 .gen (some 13) ⟨(some 13), (.lookup 97 (.tmp 11) (.tmp 12) false), 119, "disk.go:112", #[⟨3, .data⟩, ⟨4, .data⟩], none⟩,
 .p 7 .mv [(.tmp 13)]]) (
 .seq (
 .block 0 (
 .seq (
 .ops [
 .p 15 .mv [(.tmp 7)],
 .p 16 (.isnil .pt false) [(.tmp 15)],
 .p 14 .mv [(.tmp 16)]]) (
 .cond (.tmp 14) (
 .seq (
 .ops [
 .p 6 .mv [(.const (.int .i64 5))]]) (
 .ret)) (
 .seq (
 .ops [
 .p 18 .mv [(.tmp 2)],
 .p 19 (.bin .lss) [(.tmp 18), (.const (.int .i64 0))],
 .p 20 .mv [(.tmp 19)],
 .gd 20 false (some 21) (.p 21 .mv [(.tmp 2)]),
 .gd 20 false (some 22) (.p 22 .mv [(.tmp 7)]),
 .gd 20 false (some 23) (.p 23 .nilc [(.tmp 22)]),
 .gd 20 false (some 24) (.p 24 (.fad 0) [(.tmp 23)]),
 .gd 20 false (some 25) (.ld 25 (.tmp 24)),
 .gd 20 false (some 26) (.p 26 .len [(.tmp 25)]),
 .gd 20 false (some 27) (.p 27 (.bin .gtr) [(.tmp 21), (.tmp 26)]),
 .p 28 .pick [(.tmp 20), (.const (.bool true)), (.tmp 27)],
 .p 17 .mv [(.tmp 28)]]) (
 .cond (.tmp 17) (
 .seq (
 .ops [
 .p 6 .mv [(.const (.int .i64 1))]]) (
 .ret)) (
 .skip)))))) (
 .seq (
 .dr (
 .one ⟨.p 29 .mv [(.tmp 7)], []⟩ (
 .one ⟨.p 30 .mv [(.tmp 7)], []⟩ (
 .one ⟨.p 31 .mv [(.tmp 7)], []⟩ (
 .one ⟨.p 32 .nilc [(.tmp 31)], []⟩ (
 .one ⟨.p 33 (.fad 0) [(.tmp 32)], []⟩ (
 .one ⟨.ld 34 (.tmp 33), []⟩ (
 .one ⟨.p 35 .mv [(.tmp 2)], []⟩ (
 .one ⟨.p 36 .mv [(.tmp 2)], []⟩ (
 .one ⟨.p 37 (.sls 1 false true true) [(.tmp 34), (.tmp 35), (.tmp 36)], []⟩ (
 .one ⟨.p 38 .mv [(.tmp 7)], []⟩ (
 .one ⟨.p 39 .nilc [(.tmp 38)], []⟩ (
 .one ⟨.p 40 (.fad 1) [(.tmp 39)], []⟩ (
 .one ⟨.ld 41 (.tmp 40), []⟩ (
 .one ⟨.p 42 .mv [(.tmp 2)], []⟩ (
 .one ⟨.p 43 .min [(.tmp 41), (.tmp 42)], []⟩ (
 .one ⟨.p 44 .nilc [(.tmp 29)], []⟩ (
 .one ⟨.p 45 (.fad 0) [(.tmp 44)], []⟩ (
 .one ⟨.st 1 false (.tmp 45) (.tmp 37), []⟩ (
 .one ⟨.p 46 .nilc [(.tmp 30)], []⟩ (
 .one ⟨.p 47 (.fad 1) [(.tmp 46)], []⟩ (
 .one ⟨.st 1 false (.tmp 47) (.tmp 43), []⟩ (
 .nil))))))))))))))))))))))) (
 .seq (
 .ops [
 .p 6 .mv [(.const (.int .i64 0))]]) (
 .ret)))))⟩

theorem QJ : trF Tryz.prog IQ = some m_disk_Disk_Trim := by kernel_rfl
-- 54 (*shardlog/disk.Disk).Sync; Ae [(0, d), (1, name), (2, d), (3, name), (5, f)]
noncomputable def m_disk_Disk_Sync : MF := ⟨22, [.t 4],
 .seq (
 .ops [
 .p 4 .mv [(.const (.int .i64 0))]]) (
 .seq (
 .ops [
 .p 6 .mv [(.tmp 0)],
 .p 7 .nilc [(.tmp 6)],
 .p 8 (.fad 0) [(.tmp 7)],
 .ld 9 (.tmp 8),
 .p 10 .mv [(.tmp 1)],
 .gen (some 11) ⟨(some 11), (.lookup 97 (.tmp 9) (.tmp 10) false), 119, "disk.go:61", #[⟨3, .data⟩, ⟨4, .data⟩], none⟩,
 .p 5 .mv [(.tmp 11)]]) (
 .seq (
 .seq (
 .ops [
 .p 12 .mv [(.tmp 5)],
 .p 13 (.isnil .pt false) [(.tmp 12)]]) (
 .cond (.tmp 13) (
 .seq (
 .ops [
 .p 4 .mv [(.const (.int .i64 5))]]) (
 .ret)) (
 .skip))) (
 .seq (
 .ops [
 .p 14 .mv [(.tmp 5)],
 .p 15 .mv [(.tmp 5)],
 .p 16 .nilc [(.tmp 15)],
 .p 17 (.fad 0) [(.tmp 16)],
 .ld 18 (.tmp 17),
 .p 19 .len [(.tmp 18)],
 .p 20 .nilc [(.tmp 14)],
 .p 21 (.fad 1) [(.tmp 20)],
 .st 1 false (.tmp 21) (.tmp 19)]) (
 .seq (
 .ops [
 .p 4 .mv [(.const (.int .i64 0))]]) (
 .ret)))))⟩

theorem QK : trF Tryz.prog EY = some m_disk_Disk_Sync := by kernel_rfl
-- 63 (*shardlog/disk.Disk).Rename; Ae [(0, d), (1, a), (2, b), (3, d), (4, a), (5, b), (7, f)]
noncomputable def m_disk_Disk_Rename : MF := ⟨35, [.t 6],
 .seq (
 .ops [
 .p 6 .mv [(.const (.int .i64 0))]]) (
 .seq (
 .seq (
 .ops [
 .p 8 .mv [(.tmp 1)],
 .call (some 9) Iq [(.tmp 8)],
 .p 10 .not [(.tmp 9)],
 .p 11 .mv [(.tmp 10)],
 .gd 11 false (some 12) (.p 12 .mv [(.tmp 2)]),
 .gd 11 false (some 13) (.call (some 13) Iq [(.tmp 12)]),
 .gd 11 false (some 14) (.p 14 .not [(.tmp 13)]),
 .p 15 .pick [(.tmp 11), (.const (.bool true)), (.tmp 14)]]) (
 .cond (.tmp 15) (
 .seq (
 .ops [
 .p 6 .mv [(.const (.int .i64 1))]]) (
 .ret)) (
 .skip))) (
 .seq (
 .ops [
 .p 16 .mv [(.tmp 0)],
 .p 17 .nilc [(.tmp 16)],
 .p 18 (.fad 0) [(.tmp 17)],
 .ld 19 (.tmp 18),
 .p 20 .mv [(.tmp 1)],
 .gen (some 21) ⟨(some 21), (.lookup 97 (.tmp 19) (.tmp 20) false), 119, "disk.go:92", #[⟨3, .data⟩, ⟨4, .data⟩], none⟩,
 .p 7 .mv [(.tmp 21)]]) (
 .seq (
 .seq (
 .ops [
 .p 22 .mv [(.tmp 7)],
 .p 23 (.isnil .pt false) [(.tmp 22)]]) (
 .cond (.tmp 23) (
 .seq (
 .ops [
 .p 6 .mv [(.const (.int .i64 5))]]) (
 .ret)) (
 .skip))) (
 .seq (
 .ops [
 .p 24 .mv [(.tmp 0)],
 .p 25 .nilc [(.tmp 24)],
 .p 26 (.fad 0) [(.tmp 25)],
 .ld 27 (.tmp 26),
 .p 28 .mv [(.tmp 1)],
 .gen none ⟨none, (.call { callee := .builtin .delete, args := #[(.tmp 27), (.tmp 28)], argTypes := #[97, Xt] }), 0, "disk.go:96", #[⟨3, .data⟩, ⟨4, .data⟩], none⟩]) (
 .seq (
 .ops [
 .p 29 .mv [(.tmp 0)],
 .p 30 .nilc [(.tmp 29)],
 .p 31 (.fad 0) [(.tmp 30)],
 .ld 32 (.tmp 31),
 .p 33 .mv [(.tmp 2)],
 .p 34 .mv [(.tmp 7)],
 .genu ⟨none, (.mapUpdate 97 (.tmp 32) (.tmp 33) (.tmp 34)), 0, "disk.go:97", #[⟨3, .data⟩, ⟨4, .data⟩, ⟨5, .data⟩, ⟨0, .phase⟩, ⟨1, .phase⟩, ⟨2, .phase⟩, ⟨3, .phase⟩, ⟨4, .phase⟩, ⟨5, .phase⟩], none⟩]) (
 .seq (
 .ops [
 .p 6 .mv [(.const (.int .i64 0))]]) (
 .ret)))))))⟩

theorem O3 : trF Tryz.prog Hw = some m_disk_Disk_Rename := by kernel_rfl
-- 64 (*shardlog/disk.Disk).Names; Ae [(0, d), (1, d)]
noncomputable def m_disk_Disk_Names : MF := ⟨9, [.t 2],
 .seq (
 .ops [
 .p 2 .mv [(.const (.slice none 0 0))]]) (
 .seq (
 .ops [
 .p 3 .mv [(.tmp 0)],
 .p 4 .nilc [(.tmp 3)],
 .p 5 (.fad 0) [(.tmp 4)],
 .ld 6 (.tmp 5),
 .call (some 7) Nu [(.tmp 6)],
 .call (some 8) Ry [(.tmp 7)],
 .p 2 .mv [(.tmp 8)]]) (
 .ret))⟩

theorem P8 : trF Tryz.prog Ir = some m_disk_Disk_Names := by kernel_rfl
-- 65 shardlog/disk.distance; Ae [(0, n), (1, n)]
noncomputable def m_disk_distance : MF := ⟨10, [.t 2],
 .seq (
 .ops [
 .p 2 .mv [(.const (.int .u64 0))]]) (
 .seq (
 .seq (
 .ops [
 .p 3 .mv [(.tmp 0)],
 .p 4 (.bin .lss) [(.tmp 3), (.const (.int .i64 0))]]) (
 .cond (.tmp 4) (
 .seq (
 .ops [
 .p 5 .mv [(.tmp 0)],
 .p 6 (.conv .u64) [(.tmp 5)],
 .p 7 .neg [(.tmp 6)],
 .p 2 .mv [(.tmp 7)]]) (
 .ret)) (
 .skip))) (
 .seq (
 .ops [
 .p 8 .mv [(.tmp 0)],
 .p 9 (.conv .u64) [(.tmp 8)],
 .p 2 .mv [(.tmp 9)]]) (
 .ret)))⟩

theorem RJ : trF Tryz.prog Jl = some m_disk_distance := by kernel_rfl
-- 75 shardlog/disk.named; Ae [(0, s), (1, s)]
noncomputable def m_disk_named : MF := ⟨11, [.t 2],
 .seq (
 .ops [
 .p 2 .mv [(.const (.bool false))]]) (
 .seq (
 .ops [
 .p 3 .mv [(.tmp 0)],
 .p 4 .lens [(.tmp 3)],
 .p 5 (.bin .geq) [(.tmp 4), (.const (.int .i64 1))],
 .p 6 .mv [(.tmp 5)],
 .gd 6 true (some 7) (.p 7 .mv [(.tmp 0)]),
 .gd 6 true (some 8) (.p 8 .lens [(.tmp 7)]),
 .gd 6 true (some 9) (.p 9 (.bin .leq) [(.tmp 8), (.const (.int .i64 24))]),
 .p 10 .pick [(.tmp 6), (.tmp 9), (.const (.bool false))],
 .p 2 .mv [(.tmp 10)]]) (
 .ret))⟩

theorem WY : trF Tryz.prog Iq = some m_disk_named := by kernel_rfl
-- 76 (*shardlog/disk.Disk).Used; Ae [(0, d), (1, d), (3, n), (4, _), (5, f)]
noncomputable def m_disk_Disk_Used : MF := ⟨23, [.t 2],
 .seq (
 .ops [
 .p 2 .mv [(.const (.int .i64 0))]]) (
 .seq (
 .ops [
 .p 3 .mv [(.const (.int .i64 0))]]) (
 .seq (
 .seq (
 .ops [
 .p 6 .mv [(.tmp 0)],
 .p 7 .nilc [(.tmp 6)],
 .p 8 (.fad 0) [(.tmp 7)],
 .ld 9 (.tmp 8),
 .gen (some 10) ⟨(some 10), (.range 97 (.tmp 9)), 0, "disk.go:37", #[⟨3, .data⟩], none⟩]) (
 .block 0 (
 .loop (
 .seq (
 .ops [
 .gen (some 11) ⟨(some 11), (.next (.tmp 10) false), 0, "disk.go:37", #[], none⟩,
 .p 12 (.ext 0) [(.tmp 11)]]) (
 .seq (
 .cond (.tmp 12) (
 .skip) (
 .exit 0)) (
 .block 1 (
 .seq (
 .ops [
 .gen (some 13) ⟨(some 13), (.entry (.tmp 10)), 0, "disk.go:37", #[], none⟩,
 .p 14 (.ext 1) [(.tmp 13)],
 .p 5 .mv [(.tmp 14)]]) (
 .ops [
 .p 15 .mv [(.tmp 3)],
 .p 16 .mv [(.tmp 5)],
 .p 17 .nilc [(.tmp 16)],
 .p 18 (.fad 0) [(.tmp 17)],
 .ld 19 (.tmp 18),
 .p 20 .len [(.tmp 19)],
 .p 21 (.bin .add) [(.tmp 15), (.tmp 20)],
 .p 3 .mv [(.tmp 21)]])))))))) (
 .seq (
 .ops [
 .p 22 .mv [(.tmp 3)],
 .p 2 .mv [(.tmp 22)]]) (
 .ret))))⟩

theorem QI : trF Tryz.prog IP = some m_disk_Disk_Used := by kernel_rfl
-- 114 maps.Keys[map[string]*shardlog/disk.file,string,*shardlog/disk.file]; Ae [(0, m), (1, m)]
noncomputable def m_maps_Keys : MF := ⟨4, [.t 2],
 .seq (
 .ops [
 .box 1 97 (.tmp 0),
 .p 2 .mv [(.const .nilFunc)]]) (
 .seq (
 .ops [
 .p 3 (.fn (.func Ou) 0) [(.tmp 1)],
 .p 2 .mv [(.tmp 3)]]) (
 .ret))⟩

theorem YD : trF Tryz.prog Nu = some m_maps_Keys := by kernel_rfl
-- 47 (*shardlog/disk.Disk).Synced; Ae [(0, d), (1, name), (2, d), (3, name), (6, f)]
-- 80 (*shardlog/disk.Disk).Copy; Ae [(0, d), (1, d), (3, out), (4, name), (5, f)]
-- 96 (*shardlog/disk.Disk).Turn; Ae [(0, d), (1, name), (2, at), (3, by), (4, d), (5, name), (6, at), (7, by), (9, f)]
-- 97 (*shardlog/disk.Disk).Delete; Ae [(0, d), (1, name), (2, d), (3, name)]

end Go.Proofs.YtgpkbldlkadnjaaGreat
end
section
set_option maxHeartbeats 3000000
attribute [local irreducible] Go.Sl.Chk Go.Sl.Br Go.Sl.Or2 Go.Sl.Ld Go.Sl.Ldn Go.Sl.LdB Go.Sl.Stn Go.Sl.New Go.Sl.Run Go.Sl.BZ Go.Sl.BQ Go.Sl.Call Go.Sl.Bc Go.Sl.Cb Go.Sl.Alt Go.Sl.Om Go.Sl.xpk Go.Sl.Dk Go.Sl.Dl Go.Sl.DLd Go.Sl.CZ Go.Sl.DBs Go.Sl.AO Go.Sl.Cf Go.Sl.CB Go.Sl.BC Go.Sl.DGC Go.Sl.BG Go.Sl.Dw Go.Sl.Ce Go.Sl.Ent Go.Sl.AZ Go.Sl.dv Go.Sl.ev Go.Sl.AU
namespace Go.Proofs.YtgpkbldlkadnjaaGreat
open Go Go.Sl Go.RowKit
abbrev FileS := Bs × Bs × Nat
abbrev Gz (b : Bs) : Value := .string ⟨b.toArray⟩
def fileO (f : FileS) : D := .box Au [AC f.2.1, iD f.2.2]
def Aq (fs : List FileS) : List Value := fs.map fun f => Gz f.1
def Af (fs : List FileS) (most : Nat) : D := .box AB [.mp (Aq fs) (fs.map fileO), iD most]
theorem D7 {b : Bs} (h : b.length ≤ 1000000) : keyOf Tryz.prog 9 (Gz b) = some (.string b) := by
 unfold keyOf
 rw [show Tryz.prog.underlying 9 = some TypeDesc.string from Tryz.underlying9]
 simp [mapKey, Tryz.underlying9, ByteArray.size, maxLen]
 omega
theorem Og (v : Bs) : (⟨v.toArray⟩ : ByteArray).size = v.length := by simp [ByteArray.size]
theorem kd9 : Go.Maps.Keyed Tryz.prog 9 := Go.Maps.string_keyed Tryz.underlying9
theorem new_o (c : Int) (hc : -9223372036854775808 ≤ c ∧ c ≤ 9223372036854775807) : MB Tryz.prog LZ [iD c] (fun i => .hp i 0) (Af [] (min (max c 0) 65536).toNat) := by
 intro nx
 refine AA Aaf (by simp only [m_disk_New, List.length]; decide) ?_
 simp only [m_disk_New]; refine WK ?_; try with_reducible exact trivial
 refine Yj ?_
 refine WK ?_; try with_reducible exact trivial
 have hf := RT.fold (r := [(nx + 1, .box AB [.h nx, .sc (.int .i64 (min (max c 0) 65536))]), (nx, .mp [] [])]) nx (nx + 1) 0 (d := .mp [] []) (c := .box AB [.h nx, .sc (.int .i64 (min (max c 0) 65536))]) (l := [.h nx, .sc (.int .i64 (min (max c 0) 65536))]) (by refine WK ?_; try with_reducible exact trivial) (by omega) (by refine WK ?_; try with_reducible exact trivial) rfl rfl
 simp -dsimp (disch := omega) only [Aa, Ac, A8, Dt, Ai, Aj, Ep, List.set_cons_zero] at hf
 refine DC (t' := .mk _) hf ?_
 refine BI ⟨nx + 1, by omega, by omega, rfl, ?_⟩
 rw [show (min (max c 0) 65536) = (((min (max c 0) 65536).toNat : Nat) : Int) by omega]
 rfl
def Xb (P : Program) (f : FuncId) (ds : Nat → List D) (t : D) (d : D) (t' : D) : Prop := ∀ i nx, i < nx → D9 P f (ds i) [(i, t)] nx (fun d' r' nx' => d' = d ∧ r' = [(i, t')])
theorem IE {r : Ad} {i : Nat} {t : D} (h : AP r i = some t) : Bf [i] r = ([(i, t)], Ej r i) := by
 simp only [Bf, h]
theorem QG {P : Program} {held : List Nat} {r : Ad} {nx : Nat} {K : D → Ad → Nat → Prop} {f : FuncId} {ds : Nat → List D} {t t' d : D} {tg : A7 K} (i : Nat) (h : Xb P f ds t d t') (hi : i < nx) (hg : AP r i = some t) (hh : i ∉ held)
  (k : ∀ nx', nx ≤ nx' → K d ((i, t') :: Ej r i) nx') : AO P f (ds i) held r nx K tg :=
 CV [i] (IE hg) (h i nx hi) (fun j hj => by
  simp only [AP]
  rw [if_neg (fun e => hh (by rw [e]; exact hj))]) fun d' ro nx' hn ⟨h1, h2⟩ => by
   subst h1; subst h2; exact k nx' hn
def BF (fs : List FileS) (n : Bs) : Option Nat := fs.findIdx? fun f => decide (f.1 = n)
theorem BJ {fs : List FileS} {n : Bs} {j : Nat} (h : BF fs n = some j) : ∃ f, fs[j]? = some f ∧ f.1 = n := by
 unfold BF at h
 rw [List.findIdx?_eq_some_iff_getElem] at h
 obtain ⟨hj, h1, _⟩ := h
 exact ⟨fs[j], List.getElem?_eq_getElem hj, by simpa using h1⟩
theorem Hu {fs : List FileS} {n : Bs} (h : BF fs n = none) : Gz n ∉ Aq fs := by
 unfold BF at h
 rw [List.findIdx?_eq_none_iff] at h
 intro hm
 obtain ⟨f, hf, he⟩ := List.mem_map.1 hm
 have h1 := h f hf
 simp only [decide_eq_false_iff_not] at h1
 refine h1 ?_
 have := congrArg (fun v : Value => match v with | .string b => b.data.toList | _ => []) he
 simpa using this
def Gl (fs : List FileS) : Prop := ∀ f ∈ fs, f.1.length ≤ 1000 ∧ f.2.1.length ≤ 1000000
theorem Cj {fs : List FileS} (h : Gl fs) : ∀ x ∈ Aq fs, ∃ l, keyOf Tryz.prog 9 x = some l := fun x hx => by
 obtain ⟨f, hf, rfl⟩ := List.mem_map.1 hx
 exact ⟨_, D7 (by have := (h f hf).1; omega)⟩
theorem Fq {m i most : Nat} {fs : List FileS} (h3 : m ≠ i) : RT [(m, .mp (Aq fs) (fs.map fileO)), (i, .box AB [.h m, iD most])] [(i, Af fs most)] := by
 have f2 := RT.fold (r := [(m, .mp (Aq fs) (fs.map fileO)), (i, .box AB [.h m, iD most])]) m i 0 (d := .mp (Aq fs) (fs.map fileO)) (c := .box AB [.h m, iD most]) (l := [.h m, iD most]) (by refine WK ?_; try with_reducible exact trivial) h3 (by refine WK ?_; try with_reducible exact trivial) rfl rfl
 simp -dsimp (disch := omega) only [Aa, Ac, A8, Dt, Ai, Aj, Ep, List.set_cons_zero] at f2
 exact f2
theorem QD {a m i j most : Nat} {fs : List FileS} {f : FileS} (n b : Bs) (sy : Nat) (hj : fs[j]? = some f) (hn : f.1 = n) (h1 : a ≠ m) (h2 : a ≠ i) (h3 : m ≠ i) :
  RT [(a, .box Au [AC b, iD sy]), (m, .mp (Aq fs) ((fs.map fileO).set j (.hp a 0))), (i, .box AB [.h m, iD most])] [(i, Af (fs.set j (n, b, sy)) most)] := by
 have hlt := (List.getElem?_eq_some_iff.1 hj).1
 have f1 := RT.fold (r := [(a, .box Au [AC b, iD sy]), (m, .mp (Aq fs) ((fs.map fileO).set j (.hp a 0))), (i, .box AB [.h m, iD most])]) a m j (d := .box Au [AC b, iD sy]) (c := .mp (Aq fs) ((fs.map fileO).set j (.hp a 0))) (l := (fs.map fileO).set j (.hp a 0)) (by refine WK ?_; try with_reducible exact trivial) h1 (by refine WK ?_; try with_reducible exact trivial) rfl (List.getElem?_set_self (by rw [List.length_map]; exact hlt))
 simp -dsimp (disch := omega) only [Aa, Ac, A8, Dt, Ai, Aj, Ep, List.set_set] at f1
 have e1 : (fs.map fileO).set j (.box Au [AC b, iD sy]) = (fs.set j (n, b, sy)).map fileO := by rw [List.map_set]; rfl
 have e2 : Aq fs = Aq (fs.set j (n, b, sy)) := by
  unfold Aq
  rw [List.map_set]
  exact (F6 (by rw [List.getElem?_map, hj, ← hn]; rfl)).symm
 have f1' : RT [(a, .box Au [AC b, iD sy]), (m, .mp (Aq fs) ((fs.map fileO).set j (.hp a 0))), (i, .box AB [.h m, iD most])] [(m, .mp (Aq (fs.set j (n, b, sy))) ((fs.set j (n, b, sy)).map fileO)), (i, .box AB [.h m, iD most])] := by
  rw [← e2, ← e1]; exact f1
 exact f1'.trans (Fq h3)
theorem IW {q a m i j most : Nat} {fs : List FileS} {f : FileS} (n b : Bs) (sy : Nat) (hj : fs[j]? = some f) (hn : f.1 = n) (h0 : q ≠ a) (h4 : q ≠ m) (h5 : q ≠ i) (h1 : a ≠ m) (h2 : a ≠ i) (h3 : m ≠ i) :
  RT [(q, AC b), (a, .box Au [.h q, iD sy]), (m, .mp (Aq fs) ((fs.map fileO).set j (.hp a 0))), (i, .box AB [.h m, iD most])] [(i, Af (fs.set j (n, b, sy)) most)] := by
 have f1 := RT.fold (r := [(q, AC b), (a, .box Au [.h q, iD sy]), (m, .mp (Aq fs) ((fs.map fileO).set j (.hp a 0))), (i, .box AB [.h m, iD most])]) q a 0 (d := AC b) (c := .box Au [.h q, iD sy]) (l := [.h q, iD sy]) (by refine WK ?_; try with_reducible exact trivial) h0 (by refine WK ?_; try with_reducible exact trivial) rfl rfl
 simp -dsimp (disch := omega) only [Aa, Ac, A8, Dt, Ai, Aj, Ep, List.set_cons_zero] at f1
 exact f1.trans (QD n b sy hj hn h1 h2 h3)
theorem Pg (w : World) : (zeroValue 119).run Tryz.prog w = .ok (.pointer none) w := by kernel_rfl
def E9 (fs : List FileS) (n : Bs) : List FileS := match BF fs n with | none => fs | some j => fs.set j (n, (fs.getD j default).2.1, (fs.getD j default).2.1.length)
def Kt (fs : List FileS) (n : Bs) : Nat := match BF fs n with | none => 5 | some _ => 0
theorem Y7 (fs : List FileS) (most : Nat) (n : Bs) (hs : Gl fs) (hn : n.length ≤ 1000) : Xb Tryz.prog EY (fun i => [.hp i 0, DZ n]) (Af fs most) (iD (Kt fs n)) (Af (E9 fs n) most) := by
 intro i nx hi
 refine AA QK (by simp only [m_disk_Disk_Sync, List.length]; decide) ?_
 rw [show [(i, Af fs most)] = [(i, .box AB [.mp (Aq fs) (fs.map fileO), iD most])] from rfl]
 simp only [m_disk_Disk_Sync]; refine WK ?_; try with_reducible exact trivial
 cases hfn : BF fs n with
 | none =>
  refine KY (i := nx) (ks := Aq fs) (l := fs.map fileO) (key := Gz n) (by refine WK ?_; try with_reducible exact trivial) (by refine WK ?_; try with_reducible exact trivial) (Aa _ _ _) kd9 Tryz.underlying97 (z := .pointer none) Pg (D7 (by omega)) (Cj hs) (Hu hfn) ?_
  refine WK ?_; try with_reducible exact trivial
  refine DC (t' := .mk _) (Fq (by omega)) ?_
  refine BI ⟨?_, ?_⟩ <;> simp only [Kt, E9, hfn] <;> rfl
 | some j =>
  obtain ⟨f, hj, hfe⟩ := BJ hfn
  refine JB (i := nx) (j := j) (ks := Aq fs) (l := fs.map fileO) (key := Gz n) (eb := Au) (lc := [AC f.2.1, iD f.2.2]) (by refine WK ?_; try with_reducible exact trivial) (by refine WK ?_; try with_reducible exact trivial) (Aa _ _ _) kd9 Tryz.underlying97 (D7 (by omega)) (Cj hs) (by unfold Aq; rw [List.getElem?_map, hj, ← hfe]; rfl) (by rw [List.getElem?_map, hj]; rfl) ?_
  refine WK ?_; try with_reducible exact trivial
  refine DC (t' := .mk _) (IW n f.2.1 f.2.1.length hj hfe (by omega) (by omega) (by omega) (by omega) (by omega) (by omega)) ?_
  have hgd : fs.getD j default = f := by rw [List.getD_eq_getElem?_getD, hj]; rfl
  refine BI ⟨?_, ?_⟩ <;> simp only [Kt, E9, hfn, hgd] <;> rfl
def Abc (P : Program) (f : FuncId) (ds : Nat → List D) (t : D) (g : Nat → D) (tn t' : D) : Prop := ∀ i nx, i < nx → D9 P f (ds i) [(i, t)] nx (fun d' r' nx' => ∃ k, nx ≤ k ∧ k < nx' ∧ d' = g k ∧ r' = [(k, tn), (i, t')])
theorem AaY {P : Program} {held : List Nat} {r : Ad} {nx : Nat} {K : D → Ad → Nat → Prop} {f : FuncId} {ds : Nat → List D} {t t' tn : D} {g : Nat → D} {tg : A7 K} (i : Nat) (h : Abc P f ds t g tn t') (hi : i < nx) (hg : AP r i = some t) (hh : i ∉ held)
  (k : ∀ k nx', nx ≤ k → k < nx' → K (g k) ((k, tn) :: (i, t') :: Ej r i) nx') : AO P f (ds i) held r nx K tg :=
 CV [i] (IE hg) (h i nx hi) (fun j hj => by
  simp only [AP]
  rw [if_neg (fun e => hh (by rw [e]; exact hj))]) fun d' ro nx' hn ⟨k', h1, h2, h3, h4⟩ => by
   subst h3; subst h4; exact k k' nx' h1 h2
theorem Uh (b : Bs) : NoZ (AC b) := Aeo fun d hd => by obtain ⟨x, _, rfl⟩ := List.mem_map.1 hd; exact trivial
theorem AcU {P : Program} {held : List Nat} {r : Ad} {nx : Nat} {K : D → Ad → Nat → Prop} (i : Nat) {b : Bs} {f : FuncId} {ds ds' : List D} {t : D} {tg : A7 K} (hg : AP r i = some (AC b)) (hds : ds.map (Dx (Dn r i (bytesD b))) = ds') (hc : MB P f ds' (fun i => .h i) t) (ht : NoZ t)
  (k : ∀ i nx', nx ≤ i → i < nx' → K (.h i) ((i, t) :: r) nx') : AO P f ds held r nx K tg := by
 have h := RT.frz i hg (by simp only [JW]; exact (BV b).1)
 simp only [frzR, frz, (BV b).2] at h
 subst hds
 exact AbD h hc ht noZs_h k
theorem Zq (fs : List FileS) (most : Nat) (n : Bs) {j : Nat} {f : FileS} (hs : Gl fs) (hn : n.length ≤ 1000) (hfn : BF fs n = some j) (hj : fs[j]? = some f) : Abc Tryz.prog DR (fun i => [.hp i 0, DZ n]) (Af fs most) (fun k => .tup [.h k, iD 0]) (AC f.2.1) (Af fs most) := by
 intro i nx hi
 have hsf := hs f (List.mem_of_getElem? hj)
 refine AA KZ (by simp only [m_disk_Disk_Read, List.length]; decide) ?_
 rw [show [(i, Af fs most)] = [(i, .box AB [.mp (Aq fs) (fs.map fileO), iD most])] from rfl]
 simp only [m_disk_Disk_Read]; refine WK ?_; try with_reducible exact trivial
 obtain ⟨f', hj', hfe⟩ := BJ hfn
 rw [hj] at hj'
 cases hj'
 refine JB (i := nx) (j := j) (ks := Aq fs) (l := fs.map fileO) (key := Gz n) (eb := Au) (lc := [AC f.2.1, iD f.2.2]) (by refine WK ?_; try with_reducible exact trivial) (by refine WK ?_; try with_reducible exact trivial) (Aa _ _ _) kd9 Tryz.underlying97 (D7 (by omega)) (Cj hs) (by unfold Aq; rw [List.getElem?_map, hj, ← hfe]; rfl) (by rw [List.getElem?_map, hj]; rfl) ?_
 refine WK ?_; try with_reducible exact trivial
 refine AcU (nx + 2) (Aa _ _ _) rfl (by simp -dsimp (disch := omega) only [↓MC.xwp, ↓CX, ↓xdr, ↓MOp.xwp, dvs, dv, dvu, dvo, dvp, dgb, dGd, EC, cond_true, cond_false, Hz, AZ, BM, DF, Ee, Dx, ptr, bsc, cv, uo, uof, Bq, xpr, Eo, ET, GL, Gj, H9, G8, Ia, xst, xgp, glc, Ho, Ew, Hl, Hm, Hf, Hg, Eu, He, GM, Ha, Es, Et, Dc, Df, Gi, dsl, dif, CO, CE, BL, scs, rowOf, Bz, dtk, Ed, BR, pev, FV, GH, D5, GV, psl, Eb, ↓Eg, ↓Dh, ↓GR, ↓FX, Ea, Gn, Gx, Dv, BK, kp, Dq, DX, FQ, DV, GI, C9, Bg, BH, nb, FT, CS, BB, apart, Az, BA, heldOk, Op.operands, Nat.reduceAdd, forall_eq_or_imp, D.plain, reduceCtorEq, if_true, if_false, ↓reduceIte, ne_eq, Bool.cond_true, Bool.cond_false, forall_const, implies_true, forall_eq, Int.reduceEq, Int.reduceLT, Int.reduceLE, Int.reduceAdd, Int.reduceSub, Int.reduceMul, Int.reduceToNat, Nat.reduceMul, Nat.reduceLeDiff, Nat.reduceLT, Nat.reduceSub, Nat.reduceBEq, Nat.reduceEqDiff, ES, bytesD, iD, Ec, AX, DZ, bD, DB, List.map_cons, List.map_nil, Dx]; exact Aa1 f.2.1 (by omega)) (Uh _) fun k n1 h1 h2 => ?_
 refine WK ?_; try with_reducible exact trivial
 refine DC (t' := .mk _) (RT.cons _ (IW n f.2.1 f.2.2 hj hfe (by omega) (by omega) (by omega) (by omega) (by omega) (by omega))) ?_
 have hsame : fs.set j (n, f.2.1, f.2.2) = fs := F6 (by rw [hj, ← hfe])
 rw [hsame]
 exact BI ⟨k, by omega, by omega, rfl, rfl⟩
theorem Wi (fs : List FileS) (most : Nat) (n : Bs) (hs : Gl fs) (hn : n.length ≤ 1000) (hfn : BF fs n = none) : Xb Tryz.prog DR (fun i => [.hp i 0, DZ n]) (Af fs most) (.tup [.sc (.slice none 0 0), iD 5]) (Af fs most) := by
 intro i nx hi
 refine AA KZ (by simp only [m_disk_Disk_Read, List.length]; decide) ?_
 rw [show [(i, Af fs most)] = [(i, .box AB [.mp (Aq fs) (fs.map fileO), iD most])] from rfl]
 simp only [m_disk_Disk_Read]; refine WK ?_; try with_reducible exact trivial
 refine KY (i := nx) (ks := Aq fs) (l := fs.map fileO) (key := Gz n) (by refine WK ?_; try with_reducible exact trivial) (by refine WK ?_; try with_reducible exact trivial) (Aa _ _ _) kd9 Tryz.underlying97 (z := .pointer none) Pg (D7 (by omega)) (Cj hs) (Hu hfn) ?_
 refine WK ?_; try with_reducible exact trivial
 refine DC (t' := .mk _) (Fq (by omega)) ?_
 exact BI ⟨rfl, rfl⟩
def OW (fs : List FileS) (n : Bs) : List FileS := match BF fs n with | none => fs | some j => fs.eraseIdx j
def BN (n : Bs) : Bool := decide ((1 : Int) ≤ (n.length : Int)) && decide ((n.length : Int) ≤ 24)
theorem Wv (n : Bs) : DJ Tryz.prog Iq [DZ n] (AX (BN n)) := by
 intro nx
 refine AA WY (by simp only [m_disk_named, List.length]; decide) ?_
 simp only [m_disk_named]; refine WKX @Og ?_; try with_reducible exact trivial
 exact BI ⟨rfl, rfl⟩
def turnF (fs : List FileS) (n : Bs) (at' : Int) (by' : UInt8) : List FileS := match BF fs n with
 | none => fs
 | some j => let f := fs.getD j default; if 0 ≤ at' ∧ at' < f.2.1.length then fs.set j (n, f.2.1.set at'.toNat (gt f.2.1 at'.toNat ^^^ by'), f.2.2) else fs
def trimF (fs : List FileS) (n : Bs) (at' : Int) : List FileS := match BF fs n with
 | none => fs
 | some j => let f := fs.getD j default; if 0 ≤ at' ∧ at' ≤ f.2.1.length then fs.set j (n, f.2.1.take at'.toNat, min f.2.2 at'.toNat) else fs
def Xm (fs : List FileS) (n : Bs) (at' : Int) : Nat := match BF fs n with
 | none => 5
 | some j => let f := fs.getD j default; if 0 ≤ at' ∧ at' ≤ f.2.1.length then 0 else 1
theorem trim_a (fs : List FileS) (most : Nat) (n : Bs) (at' : Int) (hs : Gl fs) (hn : n.length ≤ 1000) : Xb Tryz.prog IQ (fun i => [.hp i 0, DZ n, iD at']) (Af fs most) (iD (Xm fs n at')) (Af (trimF fs n at') most) := by
 intro i nx hi
 refine AA QJ (by simp only [m_disk_Disk_Trim, List.length]; decide) ?_
 rw [show [(i, Af fs most)] = [(i, .box AB [.mp (Aq fs) (fs.map fileO), iD most])] from rfl]
 simp only [m_disk_Disk_Trim]; refine WK ?_; try with_reducible exact trivial
 cases hfn : BF fs n with
 | none =>
  refine KY (i := nx) (ks := Aq fs) (l := fs.map fileO) (key := Gz n) (by refine WK ?_; try with_reducible exact trivial) (by refine WK ?_; try with_reducible exact trivial) (Aa _ _ _) kd9 Tryz.underlying97 (z := .pointer none) Pg (D7 (by omega)) (Cj hs) (Hu hfn) ?_
  refine WK ?_; try with_reducible exact trivial
  refine DC (t' := .mk _) (Fq (by omega)) ?_
  refine BI ⟨?_, ?_⟩ <;> simp only [Xm, trimF, hfn] <;> rfl
 | some j =>
  obtain ⟨f, hj, hfe⟩ := BJ hfn
  have hgd : fs.getD j default = f := by rw [List.getD_eq_getElem?_getD, hj]; rfl
  have hsame : fs.set j (n, f.2.1, f.2.2) = fs := F6 (by rw [hj, ← hfe])
  refine JB (i := nx) (j := j) (ks := Aq fs) (l := fs.map fileO) (key := Gz n) (eb := Au) (lc := [AC f.2.1, iD f.2.2]) (by refine WK ?_; try with_reducible exact trivial) (by refine WK ?_; try with_reducible exact trivial) (Aa _ _ _) kd9 Tryz.underlying97 (D7 (by omega)) (Cj hs) (by unfold Aq; rw [List.getElem?_map, hj, ← hfe]; rfl) (by rw [List.getElem?_map, hj]; rfl) ?_
  rcases Decidable.em (at' < 0) with h0 | h0
  ·refine WK ?_; try with_reducible exact trivial
   refine DC (t' := .mk _) (QD n f.2.1 f.2.2 hj hfe (by omega) (by omega) (by omega)) ?_
   rw [hsame]
   refine BI ⟨?_, ?_⟩ <;> simp only [Xm, trimF, hfn, hgd, show ¬ (0 ≤ at' ∧ at' ≤ (f.2.1.length : Int)) from fun h => by omega, if_false] <;> rfl
  ·obtain ⟨a, rfl⟩ := Int.eq_ofNat_of_zero_le (Int.not_lt.1 h0)
   rcases Nat.lt_or_ge f.2.1.length a with h1 | h1
   ·refine WK ?_; try with_reducible exact trivial
    refine DC (t' := .mk _) (IW n f.2.1 f.2.2 hj hfe (by omega) (by omega) (by omega) (by omega) (by omega) (by omega)) ?_
    rw [hsame]
    refine BI ⟨?_, ?_⟩ <;> simp only [Xm, trimF, hfn, hgd, show ¬ (0 ≤ (a : Int) ∧ (a : Int) ≤ (f.2.1.length : Int)) from fun h => by omega, if_false] <;> rfl
   ·refine WK ?_; try with_reducible exact trivial
    refine ocut ?_
    refine WK ?_; try with_reducible exact trivial
    refine ofrz ?_
    refine WK ?_; try with_reducible exact trivial
    have er : D.row tU8 1 a ((f.2.1.map bD).take a) = AC (f.2.1.take a) := by simp only [AC, List.length_take, Nat.min_eq_left h1, List.map_take]
    rw [er, show min (f.2.2 : Int) (a : Int) = ((min f.2.2 a : Nat) : Int) by omega]
    refine DC (t' := .mk _) (IW n (f.2.1.take a) (min f.2.2 a) hj hfe (by omega) (by omega) (by omega) (by omega) (by omega) (by omega)) ?_
    refine BI ⟨?_, ?_⟩ <;> simp only [Xm, trimF, hfn, hgd, show (0 ≤ (a : Int) ∧ (a : Int) ≤ (f.2.1.length : Int)) from ⟨by omega, by omega⟩, and_self, if_true, Int.toNat_natCast] <;> rfl
structure VoteS where
 slot : Int
 ballot : Int
 origin : Int
 full : Bool
 bytes : Bs
def Am (v : VoteS) : List D := [iD v.slot, iD v.ballot, iD v.origin, AX v.full, DZ v.bytes]
def Be (v : VoteS) : Prop := 0 ≤ v.slot ∧ v.slot < 64 ∧ 1 ≤ v.origin ∧ v.origin ≤ v.ballot ∧ v.ballot ≤ 2147483647 ∧ v.bytes.length ≤ 520
instance (v : VoteS) : Decidable (Be v) := by unfold Be; infer_instance
theorem Uk (b : Int) : DJ Tryz.prog GY [iD b] (AX (decide (1 ≤ b ∧ b ≤ 2147483647))) := by
 intro nx
 refine AA UB (by simp only [m_slot_ballot, List.length]; decide) ?_
 rcases Decidable.em (1 ≤ b) with h | h
 ·simp only [m_slot_ballot]; refine WK ?_; try with_reducible exact trivial
  exact Bl ⟨by simp [h], rfl⟩
 ·simp only [m_slot_ballot]; refine WK ?_; try with_reducible exact trivial
  exact Bl ⟨by rw [decide_eq_false (fun k => h k.1)], rfl⟩
theorem full_d (b : Bool) : DJ Tryz.prog Nq [AX b] (iD ((if b then 1 else 0 : Nat) : Int)) := by
 intro nx
 refine AA Yv (by simp only [m_slot_full, List.length]; decide) ?_
 cases b with
 | true =>
  simp only [m_slot_full]; refine WK ?_; try with_reducible exact trivial
  exact Bl ⟨rfl, rfl⟩
 | false =>
  simp only [m_slot_full]; refine WK ?_; try with_reducible exact trivial
  exact Bl ⟨rfl, rfl⟩
theorem KJ (v : VoteS) : DJ Tryz.prog FO [.agg (Am v)] (AX (decide (Be v))) := by
 intro nx
 refine AA UD (by simp only [m_ref17_Right, List.length]; decide) ?_
 simp only [Am]
 rcases Decidable.em (0 ≤ v.slot) with h1 | h1
 rcases Decidable.em (v.slot ≤ 63) with h2 | h2
 rcases Decidable.em (1 ≤ v.origin) with h3 | h3
 rcases Decidable.em (v.origin ≤ v.ballot) with h4 | h4
 rcases Decidable.em (v.ballot ≤ 2147483647) with h5 | h5
 rcases Decidable.em (v.bytes.length ≤ 520) with h6 | h6
 ·simp only [m_ref17_Right]; refine WKX @Og ?_; try with_reducible exact trivial
  exact Bl ⟨by rw [decide_eq_true (show Be v from ⟨h1, by omega, h3, h4, h5, h6⟩)], rfl⟩
 all_goals
  simp only [m_ref17_Right]; refine WKX @Og ?_; try with_reducible exact trivial
  exact Bl ⟨by rw [decide_eq_false (fun k => by unfold Be at k; omega)], rfl⟩
theorem Ab9 (v : VoteS) : DJ Tryz.prog LQ [.agg (Am v)] (AX (decide (Be v))) := by
 intro nx
 refine AA WQ (by simp only [m_slot_Right, List.length]; decide) ?_
 simp only [Am]
 rcases Decidable.em (0 ≤ v.slot ∧ v.slot < 64) with h1 | h1
 ·obtain ⟨h1, h2⟩ := h1
  simp only [m_slot_Right]; refine WKX @Og ?_; try with_reducible exact trivial
  refine Ba (Uk v.ballot) fun n1 g1 => ?_
  rcases Decidable.em (1 ≤ v.ballot ∧ v.ballot ≤ 2147483647) with h3 | h3
  ·rw [decide_eq_true h3]
   refine WKX @Og ?_; try with_reducible exact trivial
   refine Ba (Uk v.origin) fun n2 g2 => ?_
   rcases Decidable.em (1 ≤ v.origin ∧ v.origin ≤ 2147483647) with h4 | h4
   ·rw [decide_eq_true h4]
    rcases Decidable.em (v.origin ≤ v.ballot) with h5 | h5
    rcases Decidable.em (v.bytes.length ≤ 520) with h6 | h6
    ·refine WKX @Og ?_; try with_reducible exact trivial
     exact Bl ⟨by rw [decide_eq_true (show Be v from ⟨h1, h2, h4.1, h5, h3.2, h6⟩)], rfl⟩
    all_goals
     refine WKX @Og ?_; try with_reducible exact trivial
     exact Bl ⟨by rw [decide_eq_false (fun k => by unfold Be at k; omega)], rfl⟩
   ·rw [decide_eq_false h4]
    refine WKX @Og ?_; try with_reducible exact trivial
    exact Bl ⟨by rw [decide_eq_false (fun k => by unfold Be at k; omega)], rfl⟩
  ·rw [decide_eq_false h3]
   refine WKX @Og ?_; try with_reducible exact trivial
   refine EH (AX true) ?_
   refine WKX @Og ?_; try with_reducible exact trivial
   exact Bl ⟨by rw [decide_eq_false (fun k => by unfold Be at k; omega)], rfl⟩
 ·rcases Decidable.em (0 ≤ v.slot) with h2 | h2
  all_goals
   simp only [m_slot_Right]; refine WKX @Og ?_; try with_reducible exact trivial
   refine EH (AX true) ?_
   refine WKX @Og ?_; try with_reducible exact trivial
   refine EH (AX true) ?_
   refine WKX @Og ?_; try with_reducible exact trivial
   exact Bl ⟨by rw [decide_eq_false (fun k => by unfold Be at k; omega)], rfl⟩
def Aw (b : Nat) : Bs := Ar 1 ++ Ar b
theorem JK (b : Int) : DJ Tryz.prog F9 [iD b] (if 1 ≤ b ∧ b ≤ 2147483647 then .tup [bytesD (Aw b.toNat), iD 0] else .tup [bytesD [], iD 1]) := by
 intro nx
 refine AA Ub (by simp only [m_slot_Promise, List.length]; decide) ?_
 simp only [m_slot_Promise]; refine WK ?_; try with_reducible exact trivial
 refine Ba (Uk b) fun n1 g1 => ?_
 rcases Decidable.em (1 ≤ b ∧ b ≤ 2147483647) with h | h
 ·rw [decide_eq_true h, if_pos h]
  obtain ⟨n, rfl⟩ := Int.eq_ofNat_of_zero_le (show 0 ≤ b by omega)
  refine WK ?_; try with_reducible exact trivial
  refine Ba (Q8 1 (by omega)) fun n2 g2 => ?_
  refine WK ?_; try with_reducible exact trivial
  refine Ba (Q8 n (by omega)) fun n3 g3 => ?_
  refine WK ?_; try with_reducible exact trivial
  refine Gw n3 (t' := .mk _) (Aa _ _ _) (by simp [D.plain]) List.not_mem_nil ?_
  rw [A8]
  simp only [List.map_cons, List.map_nil, Dx, Aa]
  refine Ba (PZ [Ar 1, Ar n] (by simp) (by simp [AL])) fun n4 g4 => ?_
  refine WK ?_; try with_reducible exact trivial
  exact Bl ⟨by simp only [List.flatten_cons, List.flatten_nil, List.append_nil, Aw, Int.toNat_natCast], rfl⟩
 ·rw [decide_eq_false h, if_neg h]
  refine WK ?_; try with_reducible exact trivial
  refine Gv (t' := .mk _) ?_
  exact Bl ⟨rfl, rfl⟩
def Bv (v : VoteS) : Bs := Ar 2 ++ (Ar v.slot.toNat ++ (Ar v.ballot.toNat ++ (Ar v.origin.toNat ++ (Ar (if v.full then 1 else 0) ++ DY v.bytes))))
set_option maxRecDepth 100000 in
theorem Ql (v : VoteS) : DJ Tryz.prog JY [.agg (Am v)] (if Be v then .tup [bytesD (Bv v), iD 0] else .tup [bytesD [], iD 1]) := by
 intro nx
 refine AA Aaa (by simp only [m_slot_Put, List.length]; decide) ?_
 simp only [Am]
 simp only [m_slot_Put]; refine WK ?_; try with_reducible exact trivial
 refine Ba (Ab9 v) fun n1 g1 => ?_
 rcases Decidable.em (Be v) with h | h
 ·rw [decide_eq_true h, if_pos h]
  obtain ⟨h1, h2, h3, h4, h5, h6⟩ := h
  obtain ⟨slot, ballot, origin, full, bytes⟩ := v
  dsimp only at h1 h2 h3 h4 h5 h6
  obtain ⟨s, rfl⟩ := Int.eq_ofNat_of_zero_le h1
  obtain ⟨b, rfl⟩ := Int.eq_ofNat_of_zero_le (show 0 ≤ ballot by omega)
  obtain ⟨o, rfl⟩ := Int.eq_ofNat_of_zero_le (show 0 ≤ origin by omega)
  refine WK ?_; try with_reducible exact trivial
  refine Ba (Q8 2 (by omega)) fun n2 g2 => ?_
  refine WK ?_; try with_reducible exact trivial
  refine Ba (Q8 s (by omega)) fun n3 g3 => ?_
  refine WK ?_; try with_reducible exact trivial
  refine Ba (Q8 b (by omega)) fun n4 g4 => ?_
  refine WK ?_; try with_reducible exact trivial
  refine Ba (Q8 o (by omega)) fun n5 g5 => ?_
  refine WK ?_; try with_reducible exact trivial
  refine Ba (full_d full) fun n6 g6 => ?_
  refine WK ?_; try with_reducible exact trivial
  refine Ba (Q8 (if full then 1 else 0) (by split <;> omega)) fun n7 g7 => ?_
  refine WK ?_; try with_reducible exact trivial
  refine Ba (text_d bytes (by omega)) fun n8 g8 => ?_
  refine WK ?_; try with_reducible exact trivial
  refine Gw n8 (t' := .mk _) (Aa _ _ _) (by simp [D.plain]) (by simp only [List.mem_cons, List.not_mem_nil, or_false, not_false_eq_true]; try omega) ?_
  rw [A8]
  simp only [List.map_cons, List.map_nil, Dx, Aa]
  refine Ba (PZ [Ar 2, Ar s, Ar b, Ar o, Ar (if full then 1 else 0), DY bytes] (by simp) (by simp only [List.flatten_cons, List.flatten_nil, List.append_nil, List.length_append, AL, EM]; omega)) fun n9 g9 => ?_
  refine WK ?_; try with_reducible exact trivial
  exact Bl ⟨by simp only [List.flatten_cons, List.flatten_nil, List.append_nil, Bv, Int.toNat_natCast], rfl⟩
 ·rw [decide_eq_false h, if_neg h]
  refine WK ?_; try with_reducible exact trivial
  refine Gv (t' := .mk _) ?_
  exact Bl ⟨rfl, rfl⟩
def BX (b : Bs) : Nat := if b.length < 4 then 0 else BD b
theorem TI (b : Bs) : BX b < 4294967296 := by
 unfold BX
 split
 ·omega
 ·exact Nj b
theorem TS (b : Bs) (hl : b.length ≤ 1000000000) : DJ Tryz.prog DW [bytesD b] (.tup [iD (BX b), bytesD (b.drop 4), AX (decide (4 ≤ b.length))]) := by
 have h := TT b hl
 rcases Nat.lt_or_ge b.length 4 with k | k
 ·rw [if_pos k] at h
  rw [BX, if_pos k, List.drop_of_length_le (by omega), decide_eq_false (by omega)]
  exact h
 ·rw [if_neg (by omega)] at h
  rw [BX, if_neg (by omega), decide_eq_true k]
  exact h
def nAt (b : Bs) (j : Nat) : Nat := BX (b.drop (4 * j))
def textOf (b : Bs) : Bs := match I9 b with | some p => p.1 | none => []
def cutV (b : Bs) : VoteS := ⟨nAt b 0, nAt b 1, nAt b 2, decide (nAt b 3 = 1), textOf (b.drop 16)⟩
def nTo (b : Bs) (k j : Nat) : Nat := if j < k then nAt b j else 0
theorem PK (b : Bs) (k j : Nat) (h : b.length < 4 * k + 4) : nTo b (k + 1) j = nTo b k j := by
 unfold nTo
 rcases Nat.lt_trichotomy j k with e | e | e
 ·rw [if_pos (by omega), if_pos e]
 ·subst e
  rw [if_pos (by omega), if_neg (by omega), nAt, BX, if_pos (by rw [List.length_drop]; omega)]
 ·rw [if_neg (by omega), if_neg (by omega)]
theorem AbI (b : Bs) (hl : b.length ≤ 1000000000) : ∃ r o, DJ Tryz.prog Ij [bytesD b] (.tup [DZ (textOf b), bytesD r, AX o]) := by
 have h := AbJ b hl
 unfold textOf
 cases hc : I9 b with
 | none => rw [hc] at h; exact ⟨[], false, h⟩
 | some p => rw [hc] at h; exact ⟨p.2, true, h⟩
set_option maxRecDepth 100000 in
theorem scut_d (b : Bs) (hl : b.length ≤ 1000000) : DJ Tryz.prog OI [bytesD b] (.agg (Am (cutV b))) := by
 intro nx
 refine AA Z9 (by simp only [m_slot_cut, List.length]; decide) ?_
 simp only [m_slot_cut]; refine WK ?_; try with_reducible exact trivial
 refine E5 [0, 2, 3, 4, 9] (fun s : Nat × Nat => ([(0, bytesD (b.drop (4 * s.1))), (2, .hp nx 0), (3, .hp (nx + 1) 0), (4, AX (decide (4 * s.1 ≤ b.length))), (9, iD (s.1 : Nat))], [(nx + 1, .box 215 [iD (nTo b s.1 0 : Nat), iD (nTo b s.1 1 : Nat), iD (nTo b s.1 2 : Nat), iD (nTo b s.1 3 : Nat)]), (nx, .box Ah [iD 0, iD 0, iD 0, AX false, DZ []])], s.2)) (fun s => s.1 ≤ 4 ∧ nx + 2 ≤ s.2) (fun s => 4 - s.1) (0, nx + 2) ⟨by omega, by dsimp only; omega⟩ ?_ ?_
 ·have e : decide (4 * 0 ≤ b.length) = true := decide_eq_true (by omega)
  dsimp only
  rw [e]
  exact (Ent.of (by with_unfolding_all rfl) rfl)
 rintro ⟨k, n⟩ ⟨q1, q2⟩
 dsimp only at q1 q2 ⊢
 refine WK ?_; try with_reducible exact trivial
 refine brd (fun hlt => ?_) (fun hge => ?_)
 ·have hk4 : k < 4 := by omega
  have hnn : ∀ j, nAt b j < 4294967296 := fun j => TI _
  rcases Nat.lt_or_ge b.length (4 * k) with h4 | h4
  ·rw [decide_eq_false (by omega)]
   refine WK ?_; try with_reducible exact trivial
   refine ⟨(k + 1, n), ⟨by dsimp only; omega, q2⟩, by dsimp only; omega, ?_⟩
   dsimp only
   rw [PK b k 0 (by omega), PK b k 1 (by omega), PK b k 2 (by omega), PK b k 3 (by omega), show b.drop (4 * (k + 1)) = b.drop (4 * k) by rw [List.drop_of_length_le (by omega), List.drop_of_length_le (by omega)], decide_eq_false (show ¬ 4 * (k + 1) ≤ b.length by omega)]
   exact (Ent.of (by with_unfolding_all rfl) rfl)
  ·rw [decide_eq_true h4]
   refine WK ?_; try with_reducible exact trivial
   have hcn : DJ Tryz.prog DW [bytesD (b.drop (4 * k))] (.tup [iD (nAt b k), bytesD (b.drop (4 * (k + 1))), AX (decide (4 * (k + 1) ≤ b.length))]) := by
    have h := TS (b.drop (4 * k)) (by rw [List.length_drop]; omega)
    rw [List.drop_drop, show 4 * k + 4 = 4 * (k + 1) by omega, show decide (4 ≤ (b.drop (4 * k)).length) = decide (4 * (k + 1) ≤ b.length) from decide_eq_decide.2 (by rw [List.length_drop]; omega)] at h
    exact h
   refine Ba hcn fun n1 h1 => ?_
   rcases (by omega : k = 0 ∨ k = 1 ∨ k = 2 ∨ k = 3) with rfl | rfl | rfl | rfl
   ·refine WK ?_; try with_reducible exact trivial
    exact ⟨(1, n1), ⟨by dsimp only; omega, by dsimp only; omega⟩, by dsimp only; omega, (Ent.of (by with_unfolding_all rfl) rfl)⟩
   ·refine WK ?_; try with_reducible exact trivial
    exact ⟨(2, n1), ⟨by dsimp only; omega, by dsimp only; omega⟩, by dsimp only; omega, (Ent.of (by with_unfolding_all rfl) rfl)⟩
   ·refine WK ?_; try with_reducible exact trivial
    exact ⟨(3, n1), ⟨by dsimp only; omega, by dsimp only; omega⟩, by dsimp only; omega, (Ent.of (by with_unfolding_all rfl) rfl)⟩
   ·refine WK ?_; try with_reducible exact trivial
    exact ⟨(4, n1), ⟨by dsimp only; omega, by dsimp only; omega⟩, by dsimp only; omega, (Ent.of (by with_unfolding_all rfl) rfl)⟩
 ·have hk : k = 4 := by omega
  subst hk
  refine WK ?_; try with_reducible exact trivial
  obtain ⟨r, o, ht⟩ := AbI (b.drop 16) (by rw [List.length_drop]; omega)
  refine Ba ht fun n1 h1 => ?_
  refine WK ?_; try with_reducible exact trivial
  refine Bl ⟨?_, rfl⟩
  rw [show decide ((nTo b 4 3 : Int) = 1) = decide (nAt b 3 = 1) from decide_eq_decide.2 (by show ((nAt b 3 : Nat) : Int) = 1 ↔ _; omega)]
  rfl
def zeroV : VoteS := ⟨0, 0, 0, false, []⟩
inductive RecS where
 | bad
 | promise (b : Nat)
 | vote (v : VoteS)
def Em (rec : Bs) : RecS :=
 if BX rec = 1 then if (1 ≤ BX (rec.drop 4) ∧ BX (rec.drop 4) ≤ 2147483647) ∧ Aw (BX (rec.drop 4)) = rec then .promise (BX (rec.drop 4)) else .bad
 else if BX rec = 2 then if Be (cutV (rec.drop 4)) ∧ Bv (cutV (rec.drop 4)) = rec then .vote (cutV (rec.drop 4)) else .bad
 else .bad
def AaQ : RecS → D
 | .bad => .tup [iD 0, .agg (Am zeroV), iD 2]
 | .promise b => .tup [iD b, .agg (Am zeroV), iD 0]
 | .vote v => .tup [iD 0, .agg (Am v), iD 0]
set_option maxRecDepth 100000 in
theorem sget_d (rec : Bs) (hl : rec.length ≤ 1000000) : DJ Tryz.prog OJ [bytesD rec] (AaQ (Em rec)) := by
 intro nx
 refine AA Aab (by simp only [m_slot_Get, List.length]; decide) ?_
 simp only [m_slot_Get]; refine WK ?_; try with_reducible exact trivial
 refine Ba (TS rec (by omega)) fun n1 h1 => ?_
 have hk := TI rec
 have hk2 := TI (rec.drop 4)
 have hdl : (rec.drop 4).length ≤ 1000000 := by rw [List.length_drop]; omega
 rcases (by omega : BX rec = 1 ∨ BX rec = 2 ∨ (BX rec ≠ 1 ∧ BX rec ≠ 2)) with e | e | ⟨e, e'⟩
 ·rw [e]
  refine WK ?_; try with_reducible exact trivial
  refine Ba (TS (rec.drop 4) (by omega)) fun n2 h2 => ?_
  refine WK ?_; try with_reducible exact trivial
  refine Ba (JK (BX (rec.drop 4))) fun n3 h3 => ?_
  rcases Decidable.em (1 ≤ BX (rec.drop 4) ∧ BX (rec.drop 4) ≤ 2147483647) with h | h
  ·rw [if_pos (by omega), Int.toNat_natCast]
   refine WK ?_; try with_reducible exact trivial
   refine Ba (WJ (Aw (BX (rec.drop 4))) rec (by simp [Aw, AL])) fun n4 h4 => ?_
   rcases Decidable.em (Aw (BX (rec.drop 4)) = rec) with g | g
   ·rw [decide_eq_true g, Em, if_pos e, if_pos ⟨h, g⟩]
    refine WK ?_; try with_reducible exact trivial
    exact Bl ⟨rfl, rfl⟩
   ·rw [decide_eq_false g, Em, if_pos e, if_neg (fun k => g k.2)]
    refine WK ?_; try with_reducible exact trivial
    exact Bl ⟨rfl, rfl⟩
  ·rw [if_neg (by omega), Em, if_pos e, if_neg (fun k => h k.1)]
   refine WK ?_; try with_reducible exact trivial
   refine EH (AX true) ?_
   refine WK ?_; try with_reducible exact trivial
   exact Bl ⟨rfl, rfl⟩
 ·rw [e]
  refine WK ?_; try with_reducible exact trivial
  refine Ba (scut_d (rec.drop 4) hdl) fun n2 h2 => ?_
  simp -dsimp (disch := omega) only [↓MC.xwp, ↓CX, ↓xdr, ↓MOp.xwp, dvs, dv, dvu, dvo, dvp, dgb, dGd, EC, cond_true, cond_false, Hz, AZ, BM, DF, Ee, Dx, ptr, bsc, cv, uo, uof, Bq, xpr, Eo, ET, GL, Gj, H9, G8, Ia, xst, xgp, glc, Ho, Ew, Hl, Hm, Hf, Hg, Eu, He, GM, Ha, Es, Et, Dc, Df, Gi, dsl, dif, CO, CE, BL, scs, rowOf, Bz, dtk, Ed, BR, pev, FV, GH, D5, GV, psl, Eb, ↓Eg, ↓Dh, ↓GR, ↓FX, Ea, Gn, Gx, Dv, BK, kp, Dq, DX, FQ, DV, GI, C9, Bg, BH, nb, FT, CS, BB, apart, Az, BA, heldOk, Op.operands, Nat.reduceAdd, forall_eq_or_imp, D.plain, reduceCtorEq, if_true, if_false, ↓reduceIte, ne_eq, Bool.cond_true, Bool.cond_false, forall_const, implies_true, forall_eq, Int.reduceEq, Int.reduceLT, Int.reduceLE, Int.reduceAdd, Int.reduceSub, Int.reduceMul, Int.reduceToNat, Nat.reduceMul, Nat.reduceLeDiff, Nat.reduceLT, Nat.reduceSub, Nat.reduceBEq, Nat.reduceEqDiff, ES, bytesD, iD, Ec, AX, DZ, bD, DB, Am]
  refine Ba (Ql (cutV (rec.drop 4))) fun n3 h3 => ?_
  rcases Decidable.em (Be (cutV (rec.drop 4))) with h | h
  ·rw [if_pos h]
   refine WK ?_; try with_reducible exact trivial
   refine Ba (WJ (Bv (cutV (rec.drop 4))) rec (by have := h.2.2.2.2.2; simp [Bv, AL, EM]; omega)) fun n4 h4 => ?_
   rcases Decidable.em (Bv (cutV (rec.drop 4)) = rec) with g | g
   ·rw [decide_eq_true g, Em, if_neg (by omega), if_pos e, if_pos ⟨h, g⟩]
    refine WK ?_; try with_reducible exact trivial
    exact Bl ⟨rfl, rfl⟩
   ·rw [decide_eq_false g, Em, if_neg (by omega), if_pos e, if_neg (fun k => g k.2)]
    refine WK ?_; try with_reducible exact trivial
    exact Bl ⟨rfl, rfl⟩
  ·rw [if_neg h, Em, if_neg (by omega), if_pos e, if_neg (fun k => h k.1)]
   refine WK ?_; try with_reducible exact trivial
   refine EH (AX true) ?_
   refine WK ?_; try with_reducible exact trivial
   exact Bl ⟨rfl, rfl⟩
 ·rw [Em, if_neg e, if_neg e']
  refine WK ?_; try with_reducible exact trivial
  exact Bl ⟨rfl, rfl⟩
end Go.Proofs.YtgpkbldlkadnjaaGreat
end
section
namespace Go.Sl
open Go.RowKit
section
variable {E : En} {w w' : World} {Z Z' : Nat → Prop} {T T' : Nat → Option Value} {F : Nat → Nat} {r : Ad} {nx : Nat}
variable {P : Program} {held : List Nat} {e e' : Env} {de : DEnv} {K : D → Ad → Nat → Prop}
theorem Vb : ∀ {r : Ad} {G : Nat → Nat}, (∀ p ∈ r, NoZ p.2) → RL w Z T r G → RL w Z' T r G
 | [], G, h, hr => hr
 | p :: r, G, h, ⟨v, F1, F2, h1, h2, h3, h4⟩ => ⟨v, F1, F2, h1, h p (by simp) _ _ _ _ _ _ h2, Vb (fun q hq => h q (by simp [hq])) h3, h4⟩
theorem ZV (i : Nat) {eb : TypeId} {l : List D} {f : FuncId} {ds : List D} {tg : A7 K} (hg : AP r i = some (.box eb l)) (hp : ∀ x ∈ l, x.plain)
  (hc : D9 P f ds (Dn r i (.fbx l)) nx (fun d ro nx' => AP ro i = some (.fbx l) ∧ (∀ p ∈ Ej ro i, NoZ p.2) ∧ NoZs d ∧ K d ((i, .box eb l) :: Ej ro i) nx')) (hh : ∀ j ∈ held, j = i) : AO P f ds held r nx K tg := by
 intro E w Z T F vs ok hrs
 obtain ⟨v, F1, F2, h1, h2, h3, h4, h5⟩ := ok.roots.get hg
 simp only [Ro] at h2
 obtain ⟨b, us, F0, rfl, hb, hl, hF1⟩ := h2
 obtain ⟨hrl, hF0⟩ := RoL.rs hp hl
 have hob : own (.pointer (some ⟨b, 0, none⟩)) b = 1 := by simp [own, blk]
 have hbF : 0 < F b := by rw [h3, hF1]; omega
 have hblt := ok.lt b hbF
 have hF2b : F2 b = 0 := by have := ok.one b; have := h3 b; have := hF1 b; omega
 have hF2 : ∀ x, F2 x ≤ F x := fun x => by have := h3 x; omega
 have hz1 : ∀ x, Z x → (fun x => Z x ∨ x = b) x := fun x hx => .inl hx
 have hro : Ro w (fun x => Z x ∨ x = b) T (.fbx l) (.pointer (some ⟨b, 0, none⟩)) (fun _ => 0) := by
  simp only [Ro]
  exact ⟨⟨b, rfl, Adj hb (RsL.keep (fun _ _ => rfl) hz1 (fun _ _ h => h) _ _ hrl) (.inr rfl)⟩, fun _ => trivial⟩
 have hrl1 := h5 w (fun x => Z x ∨ x = b) T (.fbx l) _ _ (fun _ _ => rfl) hz1 (fun _ _ h => h) h1 hro
 have hok : Ok ⟨w, fun x => Z x ∨ x = b, T, F2, nx⟩ w (fun x => Z x ∨ x = b) T F2 (Dn r i (.fbx l)) nx := ⟨Fr.refl _ _, fun _ h => h, fun _ _ h => .inl h, fun _ _ => Nat.le_refl _, fun _ _ h => h, fun x => Nat.le_trans (hF2 x) (ok.one x), fun x hx => ok.lt x (Nat.lt_of_lt_of_le hx (hF2 x)), fun x hx => by
  rcases hx with hx | hx
  ·exact ⟨(ok.zlt x hx).1, by have := (ok.zlt x hx).2; have := hF2 x; omega⟩
  ·subst hx; exact ⟨hblt, hF2b⟩, ok.t, ok.cell, Nat.le_refl _, hrl1.cast fun x => by simp⟩
 refine (hc w _ T F2 vs hok (RsL.keep (fun _ _ => rfl) hz1 (fun _ _ h => h) _ _ hrs)).mono fun en w' ⟨v', hv', d, ro, nx', Z', T', F', p, q, g1, g2, g3, g4⟩ => ?_
 have hsz := p.fr.size
 dsimp only at hsz
 have hsame : ∀ x, x < w.heap.size → F2 x = 0 → w'.heap[x]? = w.heap[x]? := fun x hx h0 => p.fr.same x hx (by dsimp only; omega)
 obtain ⟨v0, G1, G2, t1, t2, t3, t4, _⟩ := p.roots.get g1
 have hG : ∀ x, x < w.heap.size → G2 x ≤ F2 x := fun x hx => by have := p.fo x hx; have := t3 x; dsimp only at *; omega
 have hG1 : ∀ x, G2 x ≤ 1 := fun x => by have := p.one x; have := t3 x; omega
 have hGl : ∀ x, 0 < G2 x → x < w'.heap.size := fun x hx => p.lt x (by have := t3 x; omega)
 have hob0 : ∀ x, x ≠ b → own (.pointer (some ⟨b, 0, none⟩)) x = 0 := fun x hx => by simp [own, blk, Ne.symm hx]
 have hzb : ∀ x, Z x → F2 x = 0 ∧ x < w.heap.size ∧ x ≠ b := fun x hx => by
  have hq := ok.zlt x hx; have := hF2 x
  exact ⟨by omega, hq.1, fun e => by subst e; omega⟩
 have hRo : Ro w' Z T' (.box eb l) (.pointer (some ⟨b, 0, none⟩)) (own (.pointer (some ⟨b, 0, none⟩))) := by
  simp only [Ro]
  exact ⟨b, us, fun _ => 0, rfl, (hsame b hblt hF2b).trans hb, RoL.of (RsL.keep (fun x hx => hsame x (hzb x hx).2.1 (hzb x hx).1) (fun _ h => h) p.names _ _ hrl), fun x => by simp⟩
 refine ⟨v', hv', d, (i, .box eb l) :: Ej ro i, nx', Z, T', fun x => own (.pointer (some ⟨b, 0, none⟩)) x + G2 x, ?_, ?_, g3 _ _ _ _ _ q, g4⟩
 ·have hle : ∀ x, x < w.heap.size → own (.pointer (some ⟨b, 0, none⟩)) x + G2 x ≤ F x := fun x hx => by have := hG x hx; have := h3 x; have := hF1 x; omega
  refine ⟨ok.fr.step p.fr (fun x hx hM => ?_), ok.z, ok.zo, fun x hx => ?_, fun j u hu => p.names j u (ok.names j u hu), fun x => ?_, fun x hx => ?_, fun x hx => ?_, p.t, p.cell, Nat.le_trans ok.ge p.ge, ⟨_, _, G2, p.names _ _ h1, hRo, Vb g2 t4, fun x => rfl⟩⟩
  ·have := ok.fo x hx; have := hF2 x; dsimp only at hM; show 0 < E.F x; omega
  ·have hs := ok.fr.size
   exact Nat.le_trans (hle x (by omega)) (ok.fo x hx)
  ·by_cases hx : x < w.heap.size
   ·exact Nat.le_trans (hle x hx) (ok.one x)
   ·rw [hob0 x (fun e => hx (by rw [e]; exact hblt))]; have := hG1 x; omega
  ·by_cases hxb : x = b
   ·subst hxb; omega
   ·rw [hob0 x hxb] at hx; exact hGl x (by omega)
  ·obtain ⟨z1, z2, z3⟩ := hzb x hx
   refine ⟨by omega, ?_⟩
   have := hG x z2
   have := hob0 x z3
   omega
 ·refine ⟨fun x hx => hsame x (hzb x hx).2.1 (hzb x hx).1, fun _ h => h, p.names, fun j hj ho u bu hu hbk => ?_⟩
  rw [hh j hj, h1] at hu
  cases hu
  simp only [blk, Option.some.injEq] at hbk
  subst hbk
  exact hsame b hblt hF2b
theorem Px {i : Nat} {d c : D} : ∀ {r : Ad}, AP r i = some c → AP (Dn r i d) i = some d
 | [], h => by simp [AP] at h
 | p :: r, h => by
  simp only [AP] at h
  simp only [Dn]
  by_cases hp : p.1 = i
  ·simp [hp, AP]
  ·rw [if_neg hp] at h
   rw [if_neg hp]
   simp only [AP, if_neg hp]
   exact Px h
theorem ZU (i off : Nat) {eb : TypeId} {l lm : List D} {ks : List Value} {f : FuncId} {ds : List D} {t t' : A7 K} (hg : AP r i = some (.box eb l)) (hx : l[off]? = some (.mp ks lm)) (hh : ∀ j ∈ held, j = i)
  (k : AO P f ds held ((nx, .mp ks lm) :: Dn r i (.box eb (l.set off (.h nx)))) (nx + 1) K t') : AO P f ds held r nx K t := by
 intro E w Z T F vs ok hrs
 obtain ⟨v, b, u, Fx, a1, a2, a3, a4, _⟩ := Nh (nx := nx) (O8.box eb) ok.roots hg hx
 have hT := Ey (v := u) (ok.t nx (Nat.le_refl _))
 have hone := Jy a4 (.inr (.inr ⟨_, _, rfl⟩))
 have hr' : RL w Z (Ei T nx u) r F := ok.roots.keep (fun _ h => h) hT (fun _ _ => rfl)
 obtain ⟨v', b', u', Fx', c1, c2, c3, c4, c5⟩ := Nh (nx := nx) (O8.box eb) hr' hg hx
 rw [hT i _ a1] at c1
 cases c1
 rw [a2] at c2
 cases c2
 rw [a3] at c3
 cases c3
 have hne : nx ≠ i := fun e => by subst e; rw [ok.t nx (Nat.le_refl _)] at a1; cases a1
 obtain ⟨o1, o2⟩ := ok.name (held := held) hone (fun _ => rfl) (c5 (.h nx) (by simp only [Rs]; exact Bi _ _ _) (Bi _ _ _))
 refine (k E w Z _ F vs o1 (RsL.keep (fun _ _ => rfl) (fun _ h => h) hT _ _ hrs)).mono fun en w' ⟨v2, hv2, d, r', nx', Z', T', F', p1, p2, p3⟩ => ⟨v2, hv2, d, r', nx', Z', T', F', p1, o2.trans p2 fun j hj ho => .inl ?_, p3⟩
 rw [hh j hj]
 unfold heldOk
 rw [Ac hne, Px hg]
 trivial
theorem Qx : ∀ {l : List D}, (∀ d ∈ l, NoZ d) → ∀ (w : World) (Z Z' : Nat → Prop) (T : Nat → Option Value) (us : List Value) (F : Nat → Nat), RoL w Z T l us F → RoL w Z' T l us F
 | [], _, w, Z, Z', T, us, F, h => by simp only [RoL] at h ⊢; exact h
 | d :: l, hl, w, Z, Z', T, us, F, h => by
  simp only [RoL] at h ⊢
  obtain ⟨u, us', F1, F2, rfl, h1, h2, h3⟩ := h
  exact ⟨u, us', F1, F2, rfl, hl d (by simp) w Z Z' T u F1 h1, Qx (fun d hd => hl d (by simp [hd])) w Z Z' T us' F2 h2, h3⟩
theorem noZ_sc (v : Value) : NoZ (.sc v) := fun w Z Z' T u F h => by simp only [Ro, Rs] at h ⊢; exact h
theorem Aep {e : TypeId} {l : List D} (h : ∀ d ∈ l, NoZ d) : NoZ (.box e l) := fun w Z Z' T v F hr => by
 simp only [Ro] at hr ⊢
 obtain ⟨b, us, F', h0, h1, h2, h3⟩ := hr
 exact ⟨b, us, F', h0, h1, Qx h w Z Z' T us F' h2, h3⟩
theorem noZ_mp {ks : List Value} {l : List D} (h : ∀ d ∈ l, NoZ d) : NoZ (.mp ks l) := fun w Z Z' T v F hr => by
 simp only [Ro] at hr ⊢
 obtain ⟨b, us, F', h0, h1, h2, h3⟩ := hr
 exact ⟨b, us, F', h0, h1, Qx h w Z Z' T us F' h2, h3⟩
end
end Go.Sl
end
section
set_option maxHeartbeats 3000000
attribute [local irreducible] Go.Sl.Chk Go.Sl.Br Go.Sl.Or2 Go.Sl.Ld Go.Sl.Ldn Go.Sl.LdB Go.Sl.Stn Go.Sl.New Go.Sl.Run Go.Sl.BZ Go.Sl.BQ Go.Sl.Call Go.Sl.Bc Go.Sl.Cb Go.Sl.Alt Go.Sl.Om Go.Sl.xpk Go.Sl.Dk Go.Sl.Dl Go.Sl.DLd Go.Sl.CZ Go.Sl.DBs Go.Sl.AO Go.Sl.Cf Go.Sl.CB Go.Sl.BC Go.Sl.DGC Go.Sl.BG Go.Sl.Dw Go.Sl.Ce Go.Sl.Ent Go.Sl.AZ Go.Sl.dv Go.Sl.ev Go.Sl.AU
namespace Go.Proofs.YtgpkbldlkadnjaaGreat
open Go Go.Sl Go.RowKit
def Ci (fs : List FileS) : Nat := (fs.map fun f => f.2.1.length).sum
theorem Aaq (fs : List FileS) : ((List.range fs.length).map fun j => (fs.getD j default).2.1.length).sum = Ci fs := by
 rw [Ci]
 congr 1
 refine List.ext_getElem (by simp) fun k h1 h2 => ?_
 simp at h1
 simp [List.getD_eq_getElem?_getD, h1]
theorem Q7 {S : List Nat} {N : Nat} (h : S.Nodup) (hl : ∀ j ∈ S, j < N) : S.Perm ((List.range N).filter fun j => decide (j ∈ S)) :=
 (List.perm_ext_iff_of_nodup h (List.nodup_range.filter _)).2 fun j => by
  simp only [List.mem_filter, List.mem_range, decide_eq_true_eq]
  exact ⟨fun hj => ⟨hl j hj, hj⟩, fun hj => hj.2⟩
theorem XZ {S : List Nat} {N : Nat} (h : S.Nodup) (hl : ∀ j ∈ S, j < N) : S.length ≤ N := by
 rw [(Q7 h hl).length_eq]
 have := List.length_filter_le (fun j => decide (j ∈ S)) (List.range N)
 simpa using this
theorem Oi (p : Nat → Bool) (g : Nat → Nat) : ∀ l : List Nat, ((l.filter p).map g).sum ≤ (l.map g).sum
 | [] => by simp
 | x :: l => by
  have := Oi p g l
  rw [List.filter_cons]
  split
  ·simp only [List.map_cons, List.sum_cons]; omega
  ·simp only [List.map_cons, List.sum_cons]; omega
theorem Ab5 {S : List Nat} {fs : List FileS} (h : S.Nodup) (hl : ∀ j ∈ S, j < fs.length) : (S.map fun j => (fs.getD j default).2.1.length).sum ≤ Ci fs := by
 rw [((Q7 h hl).map _).sum_nat, ← Aaq]
 exact Oi _ _ _
theorem Zv {S : List Nat} {N : Nat} (h : S.Nodup) (hl : ∀ j ∈ S, j < N) (ha : ∀ j, j < N → j ∈ S) : S.Perm (List.range N) :=
 (List.perm_ext_iff_of_nodup h List.nodup_range).2 fun j => ⟨fun hj => List.mem_range.2 (hl j hj), fun hj => ha j (List.mem_range.1 hj)⟩
theorem used_l (fs : List FileS) (most : Nat) (hs : Gl fs) (hu : Ci fs ≤ 1000000) {i m nx : Nat} (hi : i < nx) (hm : m < nx) (hne : m ≠ i) : D9 Tryz.prog IP [.hp i 0] [(m, .mp (Aq fs) (fs.map fileO)), (i, .fbx [.h m, iD most])] nx (fun d ro _ => d = iD (Ci fs) ∧ ro = [(m, .mp (Aq fs) (fs.map fileO)), (i, .fbx [.h m, iD most])]) := by
 refine AA QI (by simp only [m_disk_Disk_Used, List.length]; decide) ?_
 simp only [m_disk_Disk_Used]; refine WK ?_; try with_reducible exact trivial
 refine drange (im := m) (ks := Aq fs) (l := fs.map fileO) (by refine WK ?_; try with_reducible exact trivial) (Aa _ _ _) Tryz.underlying97 ?_
 refine WK ?_; try with_reducible exact trivial
 refine E5 [0, 3, 10] (fun s : List Nat × Nat => ([(0, .hp i 0), (3, iD ((s.1.map fun j => (fs.getD j default).2.1.length).sum : Nat)), (10, .h (nx))], [(nx, .abs (ItA m (Aq fs) (fs.map fileO) s.1)), (i, .fbx [.h m, iD most])], s.2)) (fun s => s.1.Nodup ∧ (∀ j ∈ s.1, j < fs.length) ∧ nx < s.2) (fun s => fs.length - s.1.length) ([], nx + 1) ⟨List.nodup_nil, by simp, by dsimp only; omega⟩ (Ent.of (by with_unfolding_all rfl) rfl) ?_
 rintro ⟨S, n⟩ ⟨hS, hSl, hn⟩
 dsimp only at hS hSl hn ⊢
 have hSlen : S.length ≤ fs.length := XZ hS hSl
 refine WK ?_; try with_reducible exact trivial
 refine dnext (ni := nx) (im := m) (ks := Aq fs) (l := fs.map fileO) (S := S) (by refine WK ?_; try with_reducible exact trivial) (Aa _ _ _) (by simp) (fun hall => ?_) (fun j key hj hjS => ?_)
 ·refine WK ?_; try with_reducible exact trivial
  have hp : S.Perm (List.range fs.length) := Zv hS hSl (fun j hj => hall j (by unfold Aq; rw [List.length_map]; exact hj))
  have hsum : (S.map fun j => (fs.getD j default).2.1.length).sum = Ci fs := by
   rw [(hp.map _).sum_nat, Aaq]
  rw [hsum]
  refine DC (t' := .mk _) (RT.itdone nx m (Aa _ _ _)) ?_
  rw [Ai]
  exact BI ⟨rfl, rfl⟩
 ·have hjl : j < fs.length := by have := (List.getElem?_eq_some_iff.1 hj).1; unfold Aq at this; rwa [List.length_map] at this
  have hfj : fs[j]? = some fs[j] := List.getElem?_eq_getElem hjl
  have hgd : fs.getD j default = fs[j] := by rw [List.getD_eq_getElem?_getD, hfj]; rfl
  refine WK ?_; try with_reducible exact trivial
  refine ZR (ni := nx) (im := m) (j := j) (ks := Aq fs) (l := fs.map fileO) (S := S) (key := key) (eb := Au) (lc := [AC fs[j].2.1, iD fs[j].2.2]) (by refine WK ?_; try with_reducible exact trivial) (Aa _ _ _) hj (by rw [List.getElem?_map, hfj]; rfl) ?_
  have hS2 : (S ++ [j]).Nodup := List.nodup_append.2 ⟨hS, by simp, by simp only [List.mem_singleton]; rintro a ha b rfl e; exact hjS (e ▸ ha)⟩
  have hSl2 : ∀ k ∈ S ++ [j], k < fs.length := fun k hk => by
   rcases List.mem_append.1 hk with h | h
   ·exact hSl k h
   ·simp only [List.mem_singleton] at h; omega
  have hpart := Ab5 hS2 hSl2
  have hadd : ((S ++ [j]).map fun j => (fs.getD j default).2.1.length).sum = (S.map fun j => (fs.getD j default).2.1.length).sum + fs[j].2.1.length := by
   rw [List.map_append, List.sum_append, List.map_cons, List.map_nil, List.sum_cons, hgd]; rfl
  refine WK ?_; try with_reducible exact trivial
  refine ⟨(S ++ [j], n + 2), ⟨hS2, hSl2, by dsimp only; omega⟩, by dsimp only; rw [List.length_append, List.length_singleton]; have := XZ hS2 hSl2; rw [List.length_append, List.length_singleton] at this; omega, ?_⟩
  dsimp only
  rw [hadd]
  have f1 := RT.fold (r := [(n + 1, AC fs[j].2.1), (n, .box Au [.h (n + 1), iD fs[j].2.2]), (nx, .abs (ItA m (Aq fs) ((fs.map fileO).set j (.hp n 0)) (S ++ [j]))), (i, .fbx [.h m, iD most])]) (n + 1) n 0 (d := AC fs[j].2.1) (c := .box Au [.h (n + 1), iD fs[j].2.2]) (l := [.h (n + 1), iD fs[j].2.2]) (by refine WK ?_; try with_reducible exact trivial) (by omega) (by refine WK ?_; try with_reducible exact trivial) rfl rfl
  simp -dsimp (disch := omega) only [Aa, Ac, A8, Dt, Ai, Aj, Ep, List.set_cons_zero] at f1
  have f2 := RT.itfold (r := [(n, .box Au [AC fs[j].2.1, iD fs[j].2.2]), (nx, .abs (ItA m (Aq fs) ((fs.map fileO).set j (.hp n 0)) (S ++ [j]))), (i, .fbx [.h m, iD most])]) n nx m j (ks := Aq fs) (l := (fs.map fileO).set j (.hp n 0)) (S := S ++ [j]) (d := .box Au [AC fs[j].2.1, iD fs[j].2.2]) (Aa _ _ _) (by omega) (by rw [Ac (by omega), Aa]) (List.getElem?_set_self (by rw [List.length_map]; exact hjl))
  have e1 : ((fs.map fileO).set j (.hp n 0)).set j (.box Au [AC fs[j].2.1, iD fs[j].2.2]) = fs.map fileO := by
   rw [List.set_set]
   exact F6 (by rw [List.getElem?_map, hfj]; rfl)
  rw [e1] at f2
  simp -dsimp (disch := omega) only [↓MC.xwp, ↓CX, ↓xdr, ↓MOp.xwp, dvs, dv, dvu, dvo, dvp, dgb, dGd, EC, cond_true, cond_false, Hz, AZ, BM, DF, Ee, Dx, ptr, bsc, cv, uo, uof, Bq, xpr, Eo, ET, GL, Gj, H9, G8, Ia, xst, xgp, glc, Ho, Ew, Hl, Hm, Hf, Hg, Eu, He, GM, Ha, Es, Et, Dc, Df, Gi, dsl, dif, CO, CE, BL, scs, rowOf, Bz, dtk, Ed, BR, pev, FV, GH, D5, GV, psl, Eb, ↓Eg, ↓Dh, ↓GR, ↓FX, Ea, Gn, Gx, Dv, BK, kp, Dq, DX, FQ, DV, GI, C9, Bg, BH, nb, FT, CS, BB, apart, Az, BA, heldOk, Op.operands, Nat.reduceAdd, forall_eq_or_imp, D.plain, reduceCtorEq, if_true, if_false, ↓reduceIte, ne_eq, Bool.cond_true, Bool.cond_false, forall_const, implies_true, forall_eq, Int.reduceEq, Int.reduceLT, Int.reduceLE, Int.reduceAdd, Int.reduceSub, Int.reduceMul, Int.reduceToNat, Nat.reduceMul, Nat.reduceLeDiff, Nat.reduceLT, Nat.reduceSub, Nat.reduceBEq, Nat.reduceEqDiff, ES, bytesD, iD, Ec, AX, DZ, bD, DB] at f2
  refine (Ent.of_rt (f1.trans f2)).trans ?_
  exact (Ent.of (by with_unfolding_all rfl) rfl)
def GZ (fs : List FileS) (most : Nat) (n b : Bs) : List FileS :=
 if BN n = false then fs else if (most : Int) - Ci fs < b.length then fs else
 match BF fs n with
 | none => fs ++ [(n, b, 0)]
 | some j => fs.set j (n, (fs.getD j default).2.1 ++ b, (fs.getD j default).2.2)
def ED (fs : List FileS) (most : Nat) (n b : Bs) : Nat :=
 if BN n = false then 1 else if (most : Int) - Ci fs < b.length then 4 else 0
theorem ZT {P : Program} {f : FuncId} {ds : List D} {r : Ad} {nx : Nat} {Q Q' : D → Ad → Nat → Prop} (h : D9 P f ds r nx Q) (k : ∀ d ro nx', nx ≤ nx' → Q d ro nx' → Q' d ro nx') : D9 P f ds r nx Q' := fun w Z T F vs ok hrs =>
 (h w Z T F vs ok hrs).mono fun en w' ⟨v, hv, d, r', nx', Z', T', F', o1, o2, o3⟩ => ⟨v, hv, d, r', nx', Z', T', F', o1, o2, k d r' nx' o1.ge o3⟩
theorem YO (fs : List FileS) (most : Nat) (n b : Bs) (hs : Gl fs) (hu : Ci fs ≤ 1000000) (hm : most ≤ 1000000) (hn : n.length ≤ 1000) (hb : b.length ≤ 1000000) : Xb Tryz.prog Fj (fun i => [.hp i 0, DZ n, bytesD b]) (Af fs most) (iD (ED fs most n b)) (Af (GZ fs most n b) most) := by
 intro i nx hi
 refine AA O4 (by simp only [m_disk_Disk_Append, List.length]; decide) ?_
 simp only [m_disk_Disk_Append]; refine WK ?_; try with_reducible exact trivial
 refine Ba (Wv n) fun n1 h1 => ?_
 refine WK ?_; try with_reducible exact trivial
 cases hnm : BN n with
 | false =>
  refine WK ?_; try with_reducible exact trivial
  refine BI ⟨?_, ?_⟩ <;> simp only [ED, GZ, hnm, if_true] <;> rfl
 | true =>
  rw [show [(i, Af fs most)] = [(i, .box AB [.mp (Aq fs) (fs.map fileO), iD most])] from rfl]
  refine WK ?_; try with_reducible exact trivial
  refine ZU i 0 (t' := .mk _) (Aa _ _ _) rfl (by simp) ?_
  rw [A8, List.set_cons_zero]
  refine ZV i (eb := AB) (l := [.h n1, iD most]) (by rw [Ac (by omega)]; exact Aa _ _ _) (by simp [D.plain]) ?_ (by simp)
  have hul := used_l fs most hs hu (i := i) (m := n1) (nx := n1 + 1) (by omega) (by omega) (by omega)
  rw [Dt (by omega), A8]
  refine ZT hul fun d ro n2 h2 ⟨hd, hro⟩ => ?_
  subst hd; subst hro
  refine ⟨by refine WK ?_; try with_reducible exact trivial, ?_, Aen _, ?_⟩
  ·rw [Aj (by omega), Ai]
   intro p hp
   simp only [List.mem_singleton] at hp
   subst hp
   refine noZ_mp fun d hd => ?_
   obtain ⟨f, _, rfl⟩ := List.mem_map.1 hd
   refine Aep fun d hd => ?_
   simp only [List.mem_cons, List.not_mem_nil, or_false] at hd
   rcases hd with rfl | rfl
   ·exact Uh _
   ·exact noZ_sc _
  rw [Aj (by omega), Ai]
  refine WK ?_; try with_reducible exact trivial
  have hpk := RT.only (r := [(i, .box AB [.h n1, iD most]), (n1, .mp (Aq fs) (fs.map fileO))]) [n1, i]
  simp -dsimp (disch := omega) only [Aa, Ac, A8, Dt, Ai, Aj, Bf] at hpk
  refine brd (fun hful => ?_) (fun hful => ?_)
  ·refine WK ?_; try with_reducible exact trivial
   refine DC (t' := .mk _) (hpk.trans (Fq (by omega))) ?_
   refine BI ⟨?_, ?_⟩ <;> simp only [ED, GZ, hnm, hful, if_true, Bool.true_eq_false, if_false] <;> rfl
  ·refine WK ?_; try with_reducible exact trivial
   cases hfn : BF fs n with
   | none =>
    refine KY (i := n1) (ks := Aq fs) (l := fs.map fileO) (key := Gz n) (by refine WK ?_; try with_reducible exact trivial) (by refine WK ?_; try with_reducible exact trivial) (by rw [Ac (by omega), Aa]) kd9 Tryz.underlying97 (z := .pointer none) Pg (D7 (by omega)) (Cj hs) (Hu hfn) ?_
    refine WK ?_; try with_reducible exact trivial
    refine OT (i := n1) (ks := Aq fs) (l := fs.map fileO) (key := Gz n) (d := .hp n2 0) (by refine WK ?_; try with_reducible exact trivial) (by refine WK ?_; try with_reducible exact trivial) (by refine WK ?_; try with_reducible exact trivial) (by refine WK ?_; try with_reducible exact trivial) kd9 Tryz.underlying97 (D7 (by omega)) (Cj hs) (Hu hfn) (by simp only [D.plain]) (by simp) ?_
    have hks2 : ∀ x ∈ Aq fs ++ [Gz n], ∃ l, keyOf Tryz.prog 9 x = some l := fun x hx => by
     rcases List.mem_append.1 hx with h | h
     ·exact Cj hs x h
     ·simp only [List.mem_singleton] at h; subst h; exact ⟨_, D7 (by omega)⟩
    have hll : (Aq fs).length = fs.length := by unfold Aq; rw [List.length_map]
    have hg2 : (fs.map fileO ++ [D.hp n2 0])[fs.length]? = some (.hp n2 0) := by rw [List.getElem?_append_right (by rw [List.length_map]; exact Nat.le_refl _), List.length_map, Nat.sub_self]; rfl
    refine WK ?_; try with_reducible exact trivial
    refine PX (i := n1) (j := fs.length) (ks := Aq fs ++ [Gz n]) (l := fs.map fileO ++ [.hp n2 0]) (key := Gz n) (d := .hp n2 0) (by refine WK ?_; try with_reducible exact trivial) (by refine WK ?_; try with_reducible exact trivial) (by refine WK ?_; try with_reducible exact trivial) kd9 Tryz.underlying97 (D7 (by omega)) hks2 (by rw [List.getElem?_append_right (by omega), hll, Nat.sub_self]; rfl) hg2 (by simp only [D.plain]) ?_
    refine WK ?_; try with_reducible exact trivial
    refine Yn (m := b.length) (l' := b.map bD) elB (FW.sl _ _ _) (by simp) CP (by omega) (by omega) ?_
    refine WK ?_; try with_reducible exact trivial
    have f1 := RT.fold (r := [(n2 + 1, AC b), (n2, .box Au [.h (n2 + 1), .sc (.int .i64 0)]), (i, .box AB [.h n1, iD most]), (n1, .mp (Aq fs ++ [Gz n]) (fs.map fileO ++ [.hp n2 0]))]) (n2 + 1) n2 0 (d := AC b) (c := .box Au [.h (n2 + 1), .sc (.int .i64 0)]) (l := [.h (n2 + 1), .sc (.int .i64 0)]) (Aa _ _ _) (by omega) (by refine WK ?_; try with_reducible exact trivial) rfl rfl
    simp -dsimp (disch := omega) only [Aa, Ac, A8, Dt, Ai, Aj, Ep, List.set_cons_zero] at f1
    have f2 := RT.fold (r := [(n2, .box Au [AC b, .sc (.int .i64 0)]), (i, .box AB [.h n1, iD most]), (n1, .mp (Aq fs ++ [Gz n]) (fs.map fileO ++ [.hp n2 0]))]) n2 n1 fs.length (d := .box Au [AC b, .sc (.int .i64 0)]) (c := .mp (Aq fs ++ [Gz n]) (fs.map fileO ++ [.hp n2 0])) (l := fs.map fileO ++ [.hp n2 0]) (Aa _ _ _) (by omega) (by refine WK ?_; try with_reducible exact trivial) rfl hg2
    have es : (fs.map fileO ++ [D.hp n2 0]).set fs.length (.box Au [AC b, .sc (.int .i64 0)]) = (fs ++ [(n, b, 0)]).map fileO := by
     rw [List.set_append_right _ _ (by rw [List.length_map]; exact Nat.le_refl _), List.length_map, Nat.sub_self, List.map_append]
     rfl
    have en : Aq fs ++ [Gz n] = Aq (fs ++ [(n, b, 0)]) := by unfold Aq; rw [List.map_append]; rfl
    simp only [Ep] at f2
    rw [es] at f2
    simp -dsimp (disch := omega) only [↓MC.xwp, ↓CX, ↓xdr, ↓MOp.xwp, dvs, dv, dvu, dvo, dvp, dgb, dGd, EC, cond_true, cond_false, Hz, AZ, BM, DF, Ee, Dx, ptr, bsc, cv, uo, uof, Bq, xpr, Eo, ET, GL, Gj, H9, G8, Ia, xst, xgp, glc, Ho, Ew, Hl, Hm, Hf, Hg, Eu, He, GM, Ha, Es, Et, Dc, Df, Gi, dsl, dif, CO, CE, BL, scs, rowOf, Bz, dtk, Ed, BR, pev, FV, GH, D5, GV, psl, Eb, ↓Eg, ↓Dh, ↓GR, ↓FX, Ea, Gn, Gx, Dv, BK, kp, Dq, DX, FQ, DV, GI, C9, Bg, BH, nb, FT, CS, BB, apart, Az, BA, heldOk, Op.operands, Nat.reduceAdd, forall_eq_or_imp, D.plain, reduceCtorEq, if_true, if_false, ↓reduceIte, ne_eq, Bool.cond_true, Bool.cond_false, forall_const, implies_true, forall_eq, Int.reduceEq, Int.reduceLT, Int.reduceLE, Int.reduceAdd, Int.reduceSub, Int.reduceMul, Int.reduceToNat, Nat.reduceMul, Nat.reduceLeDiff, Nat.reduceLT, Nat.reduceSub, Nat.reduceBEq, Nat.reduceEqDiff, ES, bytesD, iD, Ec, AX, DZ, bD, DB] at f2
    have f3 := RT.only (r := [(i, .box AB [.h n1, iD most]), (n1, .mp (Aq (fs ++ [(n, b, 0)])) ((fs ++ [(n, b, 0)]).map fileO))]) [n1, i]
    simp -dsimp (disch := omega) only [Aa, Ac, A8, Dt, Ai, Aj, Bf] at f3
    have f4 := RT.trans f3 (Fq (by omega))
    rw [← en] at f4
    refine DC (t' := .mk _) ((RT.trans f1 f2).trans f4) ?_
    refine BI ⟨?_, ?_⟩ <;> simp only [ED, GZ, hnm, hful, hfn, Bool.true_eq_false, if_false] <;> rfl
   | some j =>
    obtain ⟨f, hj, hfe⟩ := BJ hfn
    have hsf := hs f (List.mem_of_getElem? hj)
    have hgd : fs.getD j default = f := by rw [List.getD_eq_getElem?_getD, hj]; rfl
    have hlt := (List.getElem?_eq_some_iff.1 hj).1
    have hkj : (Aq fs)[j]? = some (Gz n) := by unfold Aq; rw [List.getElem?_map, hj, ← hfe]; rfl
    refine JB (i := n1) (j := j) (ks := Aq fs) (l := fs.map fileO) (key := Gz n) (eb := Au) (lc := [AC f.2.1, iD f.2.2]) (by refine WK ?_; try with_reducible exact trivial) (by refine WK ?_; try with_reducible exact trivial) (by rw [Ac (by omega), Aa]) kd9 Tryz.underlying97 (D7 (by omega)) (Cj hs) hkj (by rw [List.getElem?_map, hj]; rfl) ?_
    refine WK ?_; try with_reducible exact trivial
    refine PX (i := n1) (j := j) (ks := Aq fs) (l := (fs.map fileO).set j (.hp n2 0)) (key := Gz n) (d := .hp n2 0) (by refine WK ?_; try with_reducible exact trivial) (by refine WK ?_; try with_reducible exact trivial) (by refine WK ?_; try with_reducible exact trivial) kd9 Tryz.underlying97 (D7 (by omega)) (Cj hs) hkj (List.getElem?_set_self (by rw [List.length_map]; exact hlt)) (by simp only [D.plain]) ?_
    refine WK ?_; try with_reducible exact trivial
    refine Jm (i := n2 + 1) (m := b.length) (l' := b.map bD) elB (l := f.2.1.map bD) (n := f.2.1.length) (by refine WK ?_; try with_reducible exact trivial) (FW.sl _ _ _) (by simp) CP (by omega) (by omega) (by simp) ?_
    refine WK ?_; try with_reducible exact trivial
    have er : D.row 5 1 (f.2.1.length + b.length) (f.2.1.map bD ++ b.map bD) = AC (f.2.1 ++ b) := by simp only [AC, List.length_append, List.map_append]
    rw [er]
    have f3 := RT.only (r := [(n2 + 2, AC (f.2.1 ++ b)), (n2, .box Au [.h (n2 + 2), iD f.2.2]), (i, .box AB [.h n1, iD most]), (n1, .mp (Aq fs) ((fs.map fileO).set j (.hp n2 0)))]) [n2 + 2, n2, n1, i]
    simp -dsimp (disch := omega) only [Aa, Ac, A8, Dt, Ai, Aj, Bf] at f3
    refine DC (t' := .mk _) (RT.trans f3 (IW n (f.2.1 ++ b) f.2.2 hj hfe (by omega) (by omega) (by omega) (by omega) (by omega) (by omega))) ?_
    refine BI ⟨?_, ?_⟩ <;> simp only [ED, GZ, hnm, hful, hfn, hgd, Bool.true_eq_false, if_false] <;> rfl
end Go.Proofs.YtgpkbldlkadnjaaGreat
end
