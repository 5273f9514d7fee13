/- Calls of awake reckoned ahead. (printed by mkkn.py) -/
import Derived.Test.YtedipingocmmdaaGreatEvRunK
namespace Go.Proofs.YtedipingocmmdaaGreat.Ev
open Go Go.RowKit
def a36_0 : List Value := [.agg #[.int .i64 3, .int .i64 2, .int .i64 1, .int .i64 1, .int .i64 6, .int .i64 2, .int .i64 1, .int .i64 999, .int .i64 99, .int .i64 3, .slice none 0 0], .int .i64 2]
def v36_0 : Value := (.int .i64 49)
theorem k36_0 : KnOk Tryz.prog 59 a36_0 v36_0 := knOk_says (d := 12) (by kernel_rfl) (by kernel_rfl) (by kernel_rfl) (by kernel_rfl)
def a36_1 : List Value := [.agg #[.int .i64 3, .int .i64 2, .int .i64 1, .int .i64 1, .int .i64 6, .int .i64 2, .int .i64 1, .int .i64 999, .int .i64 99, .int .i64 3, .slice none 0 0], .int .i64 0]
def v36_1 : Value := (.int .i64 21)
theorem k36_1 : KnOk Tryz.prog 59 a36_1 v36_1 := knOk_says (d := 12) (by kernel_rfl) (by kernel_rfl) (by kernel_rfl) (by kernel_rfl)
def a36_2 : List Value := [.agg #[.int .i64 3, .int .i64 2, .int .i64 1, .int .i64 1, .int .i64 6, .int .i64 2, .int .i64 1, .int .i64 999, .int .i64 99, .int .i64 3, .slice none 0 0], .int .i64 1]
def v36_2 : Value := (.int .i64 35)
theorem k36_2 : KnOk Tryz.prog 59 a36_2 v36_2 := knOk_says (d := 12) (by kernel_rfl) (by kernel_rfl) (by kernel_rfl) (by kernel_rfl)
def a36_3 : List Value := [.agg #[.int .i64 3, .int .i64 2, .int .i64 1, .int .i64 1, .int .i64 6, .int .i64 2, .int .i64 1, .int .i64 999, .int .i64 99, .int .i64 3, .slice none 0 0], .int .i64 13]
def v36_3 : Value := (.int .i64 203)
theorem k36_3 : KnOk Tryz.prog 59 a36_3 v36_3 := knOk_says (d := 12) (by kernel_rfl) (by kernel_rfl) (by kernel_rfl) (by kernel_rfl)
def a36_4 : List Value := [.agg #[.int .i64 3, .int .i64 2, .int .i64 1, .int .i64 1, .int .i64 6, .int .i64 2, .int .i64 1, .int .i64 999, .int .i64 99, .int .i64 3, .slice none 0 0]]
def v36_4 : Value := (.int .i64 13)
theorem k36_4 : KnOk Tryz.prog 126 a36_4 v36_4 := knOk_says (d := 12) (by kernel_rfl) (by kernel_rfl) (by kernel_rfl) (by kernel_rfl)
def a36_5 : List Value := [.agg #[.int .i64 3, .int .i64 2, .int .i64 1, .int .i64 1, .int .i64 6, .int .i64 2, .int .i64 1, .int .i64 999, .int .i64 99, .int .i64 3, .slice none 0 0]]
def v36_5 : Value := (.int .i64 203)
theorem k36_5 : KnOk Tryz.prog 147 a36_5 v36_5 := knOk_says (d := 12) (by kernel_rfl) (by kernel_rfl) (by kernel_rfl) (by kernel_rfl)
def a36_6 : List Value := [.agg #[.int .i64 3, .int .i64 2, .int .i64 1, .int .i64 1, .int .i64 6, .int .i64 2, .int .i64 1, .int .i64 999, .int .i64 99, .int .i64 3, .slice none 0 0], .int .i64 9]
def v36_6 : Value := (.int .i64 21)
theorem k36_6 : KnOk Tryz.prog 112 a36_6 v36_6 := knOk_says (d := 12) (by kernel_rfl) (by kernel_rfl) (by kernel_rfl) (by kernel_rfl)
def a36_7 : List Value := [.agg #[.int .i64 3, .int .i64 2, .int .i64 1, .int .i64 1, .int .i64 6, .int .i64 2, .int .i64 1, .int .i64 999, .int .i64 99, .int .i64 3, .slice none 0 0]]
def v36_7 : Value := (.int .i64 13)
theorem k36_7 : KnOk Tryz.prog 113 a36_7 v36_7 := knOk_says (d := 12) (by kernel_rfl) (by kernel_rfl) (by kernel_rfl) (by kernel_rfl)
def a36_8 : List Value := [.agg #[.int .i64 3, .int .i64 2, .int .i64 1, .int .i64 1, .int .i64 6, .int .i64 2, .int .i64 1, .int .i64 999, .int .i64 99, .int .i64 3, .slice none 0 0]]
def v36_8 : Value := (.int .i64 11)
theorem k36_8 : KnOk Tryz.prog 164 a36_8 v36_8 := knOk_says (d := 12) (by kernel_rfl) (by kernel_rfl) (by kernel_rfl) (by kernel_rfl)
def a36_9 : List Value := [.agg #[.int .i64 3, .int .i64 2, .int .i64 1, .int .i64 1, .int .i64 6, .int .i64 2, .int .i64 1, .int .i64 999, .int .i64 99, .int .i64 3, .slice none 0 0]]
def v36_9 : Value := (.int .i64 0)
theorem k36_9 : KnOk Tryz.prog 119 a36_9 v36_9 := knOk_says (d := 12) (by kernel_rfl) (by kernel_rfl) (by kernel_rfl) (by kernel_rfl)
def a36_10 : List Value := [.agg #[.int .i64 3, .int .i64 2, .int .i64 1, .int .i64 1, .int .i64 6, .int .i64 2, .int .i64 1, .int .i64 999, .int .i64 99, .int .i64 3, .slice none 0 0]]
def v36_10 : Value := (.bool true)
theorem k36_10 : KnOk Tryz.prog 172 a36_10 v36_10 := knOk_says (d := 12) (by kernel_rfl) (by kernel_rfl) (by kernel_rfl) (by kernel_rfl)
def kt36 : Trie (List (List Value × Value)) := (.node (.node (.node (.node .leaf none (.node .leaf none (.node .leaf none (.node .leaf (some [(a36_9, v36_9)]) .leaf)))) none (.node (.node .leaf none (.node (.node (.node .leaf (some [(a36_5, v36_5)]) .leaf) none .leaf) none .leaf)) none (.node .leaf none (.node .leaf (some [(a36_0, v36_0), (a36_1, v36_1), (a36_2, v36_2), (a36_3, v36_3)]) .leaf)))) none (.node (.node (.node .leaf none (.node .leaf none (.node .leaf (some [(a36_7, v36_7)]) .leaf))) none .leaf) none .leaf)) none (.node (.node (.node (.node .leaf none (.node .leaf none (.node .leaf (some [(a36_6, v36_6)]) .leaf))) none .leaf) none (.node (.node (.node .leaf none (.node (.node .leaf (some [(a36_8, v36_8)]) .leaf) none .leaf)) none .leaf) none (.node (.node .leaf none (.node (.node .leaf (some [(a36_10, v36_10)]) .leaf) none .leaf)) none .leaf))) none (.node .leaf none (.node .leaf none (.node .leaf none (.node .leaf none (.node .leaf (some [(a36_4, v36_4)]) .leaf)))))))
theorem kt36_ok : KnAll Tryz.prog kt36 1 0 := by
  unfold kt36
  exact (KnAll.node 2 1 2 rfl rfl rfl KnAll.none (KnAll.node 4 3 5 rfl rfl rfl KnAll.none (KnAll.node 8 7 11 rfl rfl rfl KnAll.none (KnAll.node 16 15 23 rfl rfl rfl KnAll.none trivial (KnAll.node 32 39 55 rfl rfl rfl KnAll.none trivial (KnAll.node 64 87 119 rfl rfl rfl KnAll.none trivial (KnAll.node 128 183 247 rfl rfl rfl (KnAll.cons k36_9 KnAll.nil) trivial trivial)))) (KnAll.node 16 19 27 rfl rfl rfl KnAll.none (KnAll.node 32 35 51 rfl rfl rfl KnAll.none trivial (KnAll.node 64 83 115 rfl rfl rfl KnAll.none (KnAll.node 128 147 211 rfl rfl rfl KnAll.none (KnAll.node 256 275 403 rfl rfl rfl (KnAll.cons k36_5 KnAll.nil) trivial trivial) trivial) trivial)) (KnAll.node 32 43 59 rfl rfl rfl KnAll.none trivial (KnAll.node 64 91 123 rfl rfl rfl (KnAll.cons k36_0 (KnAll.cons k36_1 (KnAll.cons k36_2 (KnAll.cons k36_3 KnAll.nil)))) trivial trivial)))) (KnAll.node 8 9 13 rfl rfl rfl KnAll.none (KnAll.node 16 17 25 rfl rfl rfl KnAll.none (KnAll.node 32 33 49 rfl rfl rfl KnAll.none trivial (KnAll.node 64 81 113 rfl rfl rfl KnAll.none trivial (KnAll.node 128 177 241 rfl rfl rfl (KnAll.cons k36_7 KnAll.nil) trivial trivial))) trivial) trivial)) (KnAll.node 4 4 6 rfl rfl rfl KnAll.none (KnAll.node 8 8 12 rfl rfl rfl KnAll.none (KnAll.node 16 16 24 rfl rfl rfl KnAll.none (KnAll.node 32 32 48 rfl rfl rfl KnAll.none trivial (KnAll.node 64 80 112 rfl rfl rfl KnAll.none trivial (KnAll.node 128 176 240 rfl rfl rfl (KnAll.cons k36_6 KnAll.nil) trivial trivial))) trivial) (KnAll.node 16 20 28 rfl rfl rfl KnAll.none (KnAll.node 32 36 52 rfl rfl rfl KnAll.none (KnAll.node 64 68 100 rfl rfl rfl KnAll.none trivial (KnAll.node 128 164 228 rfl rfl rfl KnAll.none (KnAll.node 256 292 420 rfl rfl rfl (KnAll.cons k36_8 KnAll.nil) trivial trivial) trivial)) trivial) (KnAll.node 32 44 60 rfl rfl rfl KnAll.none (KnAll.node 64 76 108 rfl rfl rfl KnAll.none trivial (KnAll.node 128 172 236 rfl rfl rfl KnAll.none (KnAll.node 256 300 428 rfl rfl rfl (KnAll.cons k36_10 KnAll.nil) trivial trivial) trivial)) trivial))) (KnAll.node 8 10 14 rfl rfl rfl KnAll.none trivial (KnAll.node 16 22 30 rfl rfl rfl KnAll.none trivial (KnAll.node 32 46 62 rfl rfl rfl KnAll.none trivial (KnAll.node 64 94 126 rfl rfl rfl KnAll.none trivial (KnAll.node 128 190 254 rfl rfl rfl (KnAll.cons k36_4 KnAll.nil) trivial trivial)))))))
end Go.Proofs.YtedipingocmmdaaGreat.Ev

