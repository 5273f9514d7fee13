/- Calls of awake reckoned ahead. (printed by mkkn.py) -/
import Derived.Test.YtedipingocmmdaaGreatEvRunK
namespace Go.Proofs.YtedipingocmmdaaGreat.Ev
open Go Go.RowKit
def a34_0 : List Value := [.agg #[.int .i64 2, .int .i64 2, .int .i64 0, .int .i64 2, .int .i64 4, .int .i64 1, .int .i64 0, .int .i64 4294967295, .int .i64 1048575, .int .i64 0, .slice none 0 0], .int .i64 4]
def v34_0 : Value := (.int .i64 3)
theorem k34_0 : KnOk Tryz.prog 112 a34_0 v34_0 := knOk_says (d := 12) (by kernel_rfl) (by kernel_rfl) (by kernel_rfl) (by kernel_rfl)
def a34_1 : List Value := [.agg #[.int .i64 2, .int .i64 2, .int .i64 0, .int .i64 2, .int .i64 4, .int .i64 1, .int .i64 0, .int .i64 4294967295, .int .i64 1048575, .int .i64 0, .slice none 0 0], .int .i64 6]
def v34_1 : Value := (.int .i64 15)
theorem k34_1 : KnOk Tryz.prog 112 a34_1 v34_1 := knOk_says (d := 12) (by kernel_rfl) (by kernel_rfl) (by kernel_rfl) (by kernel_rfl)
def a34_2 : List Value := [.agg #[.int .i64 2, .int .i64 2, .int .i64 0, .int .i64 2, .int .i64 4, .int .i64 1, .int .i64 0, .int .i64 4294967295, .int .i64 1048575, .int .i64 0, .slice none 0 0], .int .i64 7]
def v34_2 : Value := (.int .i64 17)
theorem k34_2 : KnOk Tryz.prog 112 a34_2 v34_2 := knOk_says (d := 12) (by kernel_rfl) (by kernel_rfl) (by kernel_rfl) (by kernel_rfl)
def a34_3 : List Value := [.agg #[.int .i64 2, .int .i64 2, .int .i64 0, .int .i64 2, .int .i64 4, .int .i64 1, .int .i64 0, .int .i64 4294967295, .int .i64 1048575, .int .i64 0, .slice none 0 0], .int .i64 1]
def v34_3 : Value := (.int .i64 10)
theorem k34_3 : KnOk Tryz.prog 199 a34_3 v34_3 := knOk_says (d := 12) (by kernel_rfl) (by kernel_rfl) (by kernel_rfl) (by kernel_rfl)
def a34_4 : List Value := [.agg #[.int .i64 2, .int .i64 2, .int .i64 0, .int .i64 2, .int .i64 4, .int .i64 1, .int .i64 0, .int .i64 4294967295, .int .i64 1048575, .int .i64 0, .slice none 0 0], .int .i64 8]
def v34_4 : Value := (.int .i64 19)
theorem k34_4 : KnOk Tryz.prog 112 a34_4 v34_4 := knOk_says (d := 12) (by kernel_rfl) (by kernel_rfl) (by kernel_rfl) (by kernel_rfl)
def a34_5 : List Value := [.agg #[.int .i64 2, .int .i64 2, .int .i64 0, .int .i64 2, .int .i64 4, .int .i64 1, .int .i64 0, .int .i64 4294967295, .int .i64 1048575, .int .i64 0, .slice none 0 0], .int .i64 0]
def v34_5 : Value := (.int .i64 5)
theorem k34_5 : KnOk Tryz.prog 199 a34_5 v34_5 := knOk_says (d := 12) (by kernel_rfl) (by kernel_rfl) (by kernel_rfl) (by kernel_rfl)
def a34_6 : List Value := [.agg #[.int .i64 2, .int .i64 2, .int .i64 0, .int .i64 2, .int .i64 4, .int .i64 1, .int .i64 0, .int .i64 4294967295, .int .i64 1048575, .int .i64 0, .slice none 0 0], .int .i64 0]
def v34_6 : Value := (.int .i64 21)
theorem k34_6 : KnOk Tryz.prog 59 a34_6 v34_6 := knOk_says (d := 12) (by kernel_rfl) (by kernel_rfl) (by kernel_rfl) (by kernel_rfl)
def a34_7 : List Value := [.agg #[.int .i64 2, .int .i64 2, .int .i64 0, .int .i64 2, .int .i64 4, .int .i64 1, .int .i64 0, .int .i64 4294967295, .int .i64 1048575, .int .i64 0, .slice none 0 0], .int .i64 1]
def v34_7 : Value := (.int .i64 27)
theorem k34_7 : KnOk Tryz.prog 59 a34_7 v34_7 := knOk_says (d := 12) (by kernel_rfl) (by kernel_rfl) (by kernel_rfl) (by kernel_rfl)
def a34_8 : List Value := [.agg #[.int .i64 2, .int .i64 2, .int .i64 0, .int .i64 2, .int .i64 4, .int .i64 1, .int .i64 0, .int .i64 4294967295, .int .i64 1048575, .int .i64 0, .slice none 0 0], .int .i64 5]
def v34_8 : Value := (.int .i64 5)
theorem k34_8 : KnOk Tryz.prog 112 a34_8 v34_8 := knOk_says (d := 12) (by kernel_rfl) (by kernel_rfl) (by kernel_rfl) (by kernel_rfl)
def a34_9 : List Value := [.agg #[.int .i64 2, .int .i64 2, .int .i64 0, .int .i64 2, .int .i64 4, .int .i64 1, .int .i64 0, .int .i64 4294967295, .int .i64 1048575, .int .i64 0, .slice none 0 0], .int .i64 9]
def v34_9 : Value := (.int .i64 75)
theorem k34_9 : KnOk Tryz.prog 59 a34_9 v34_9 := knOk_says (d := 12) (by kernel_rfl) (by kernel_rfl) (by kernel_rfl) (by kernel_rfl)
def a34_10 : List Value := [.agg #[.int .i64 2, .int .i64 2, .int .i64 0, .int .i64 2, .int .i64 4, .int .i64 1, .int .i64 0, .int .i64 4294967295, .int .i64 1048575, .int .i64 0, .slice none 0 0]]
def v34_10 : Value := (.int .i64 9)
theorem k34_10 : KnOk Tryz.prog 126 a34_10 v34_10 := knOk_says (d := 12) (by kernel_rfl) (by kernel_rfl) (by kernel_rfl) (by kernel_rfl)
def a34_11 : List Value := [.agg #[.int .i64 2, .int .i64 2, .int .i64 0, .int .i64 2, .int .i64 4, .int .i64 1, .int .i64 0, .int .i64 4294967295, .int .i64 1048575, .int .i64 0, .slice none 0 0]]
def v34_11 : Value := (.int .i64 75)
theorem k34_11 : KnOk Tryz.prog 147 a34_11 v34_11 := knOk_says (d := 12) (by kernel_rfl) (by kernel_rfl) (by kernel_rfl) (by kernel_rfl)
def a34_12 : List Value := [.agg #[.int .i64 2, .int .i64 2, .int .i64 0, .int .i64 2, .int .i64 4, .int .i64 1, .int .i64 0, .int .i64 4294967295, .int .i64 1048575, .int .i64 0, .slice none 0 0], .int .i64 9]
def v34_12 : Value := (.int .i64 21)
theorem k34_12 : KnOk Tryz.prog 112 a34_12 v34_12 := knOk_says (d := 12) (by kernel_rfl) (by kernel_rfl) (by kernel_rfl) (by kernel_rfl)
def a34_13 : List Value := [.agg #[.int .i64 2, .int .i64 2, .int .i64 0, .int .i64 2, .int .i64 4, .int .i64 1, .int .i64 0, .int .i64 4294967295, .int .i64 1048575, .int .i64 0, .slice none 0 0]]
def v34_13 : Value := (.int .i64 5)
theorem k34_13 : KnOk Tryz.prog 113 a34_13 v34_13 := knOk_says (d := 12) (by kernel_rfl) (by kernel_rfl) (by kernel_rfl) (by kernel_rfl)
def a34_14 : List Value := [.agg #[.int .i64 2, .int .i64 2, .int .i64 0, .int .i64 2, .int .i64 4, .int .i64 1, .int .i64 0, .int .i64 4294967295, .int .i64 1048575, .int .i64 0, .slice none 0 0]]
def v34_14 : Value := (.int .i64 3)
theorem k34_14 : KnOk Tryz.prog 164 a34_14 v34_14 := knOk_says (d := 12) (by kernel_rfl) (by kernel_rfl) (by kernel_rfl) (by kernel_rfl)
def a34_15 : List Value := [.agg #[.int .i64 2, .int .i64 2, .int .i64 0, .int .i64 2, .int .i64 4, .int .i64 1, .int .i64 0, .int .i64 4294967295, .int .i64 1048575, .int .i64 0, .slice none 0 0]]
def v34_15 : Value := (.int .i64 0)
theorem k34_15 : KnOk Tryz.prog 119 a34_15 v34_15 := knOk_says (d := 12) (by kernel_rfl) (by kernel_rfl) (by kernel_rfl) (by kernel_rfl)
def a34_16 : List Value := [.agg #[.int .i64 2, .int .i64 2, .int .i64 0, .int .i64 2, .int .i64 4, .int .i64 1, .int .i64 0, .int .i64 4294967295, .int .i64 1048575, .int .i64 0, .slice none 0 0]]
def v34_16 : Value := (.bool true)
theorem k34_16 : KnOk Tryz.prog 172 a34_16 v34_16 := knOk_says (d := 12) (by kernel_rfl) (by kernel_rfl) (by kernel_rfl) (by kernel_rfl)
def kt34 : Trie (List (List Value × Value)) := (.node (.node (.node (.node .leaf none (.node (.node (.node .leaf none (.node .leaf (some [(a34_3, v34_3), (a34_5, v34_5)]) .leaf)) none .leaf) none (.node .leaf none (.node .leaf (some [(a34_15, v34_15)]) .leaf)))) none (.node (.node .leaf none (.node (.node (.node .leaf (some [(a34_11, v34_11)]) .leaf) none .leaf) none .leaf)) none (.node .leaf none (.node .leaf (some [(a34_6, v34_6), (a34_7, v34_7), (a34_9, v34_9)]) .leaf)))) none (.node (.node (.node .leaf none (.node .leaf none (.node .leaf (some [(a34_13, v34_13)]) .leaf))) none .leaf) none .leaf)) none (.node (.node (.node (.node .leaf none (.node .leaf none (.node .leaf (some [(a34_0, v34_0), (a34_1, v34_1), (a34_2, v34_2), (a34_4, v34_4), (a34_8, v34_8), (a34_12, v34_12)]) .leaf))) none .leaf) none (.node (.node (.node .leaf none (.node (.node .leaf (some [(a34_14, v34_14)]) .leaf) none .leaf)) none .leaf) none (.node (.node .leaf none (.node (.node .leaf (some [(a34_16, v34_16)]) .leaf) none .leaf)) none .leaf))) none (.node .leaf none (.node .leaf none (.node .leaf none (.node .leaf none (.node .leaf (some [(a34_10, v34_10)]) .leaf)))))))
theorem kt34_ok : KnAll Tryz.prog kt34 1 0 := by
  unfold kt34
  exact (KnAll.node 2 1 2 rfl rfl rfl KnAll.none (KnAll.node 4 3 5 rfl rfl rfl KnAll.none (KnAll.node 8 7 11 rfl rfl rfl KnAll.none (KnAll.node 16 15 23 rfl rfl rfl KnAll.none trivial (KnAll.node 32 39 55 rfl rfl rfl KnAll.none (KnAll.node 64 71 103 rfl rfl rfl KnAll.none (KnAll.node 128 135 199 rfl rfl rfl KnAll.none trivial (KnAll.node 256 327 455 rfl rfl rfl (KnAll.cons k34_3 (KnAll.cons k34_5 KnAll.nil)) trivial trivial)) trivial) (KnAll.node 64 87 119 rfl rfl rfl KnAll.none trivial (KnAll.node 128 183 247 rfl rfl rfl (KnAll.cons k34_15 KnAll.nil) trivial trivial)))) (KnAll.node 16 19 27 rfl rfl rfl KnAll.none (KnAll.node 32 35 51 rfl rfl rfl KnAll.none trivial (KnAll.node 64 83 115 rfl rfl rfl KnAll.none (KnAll.node 128 147 211 rfl rfl rfl KnAll.none (KnAll.node 256 275 403 rfl rfl rfl (KnAll.cons k34_11 KnAll.nil) trivial trivial) trivial) trivial)) (KnAll.node 32 43 59 rfl rfl rfl KnAll.none trivial (KnAll.node 64 91 123 rfl rfl rfl (KnAll.cons k34_6 (KnAll.cons k34_7 (KnAll.cons k34_9 KnAll.nil))) trivial trivial)))) (KnAll.node 8 9 13 rfl rfl rfl KnAll.none (KnAll.node 16 17 25 rfl rfl rfl KnAll.none (KnAll.node 32 33 49 rfl rfl rfl KnAll.none trivial (KnAll.node 64 81 113 rfl rfl rfl KnAll.none trivial (KnAll.node 128 177 241 rfl rfl rfl (KnAll.cons k34_13 KnAll.nil) trivial trivial))) trivial) trivial)) (KnAll.node 4 4 6 rfl rfl rfl KnAll.none (KnAll.node 8 8 12 rfl rfl rfl KnAll.none (KnAll.node 16 16 24 rfl rfl rfl KnAll.none (KnAll.node 32 32 48 rfl rfl rfl KnAll.none trivial (KnAll.node 64 80 112 rfl rfl rfl KnAll.none trivial (KnAll.node 128 176 240 rfl rfl rfl (KnAll.cons k34_0 (KnAll.cons k34_1 (KnAll.cons k34_2 (KnAll.cons k34_4 (KnAll.cons k34_8 (KnAll.cons k34_12 KnAll.nil)))))) trivial trivial))) trivial) (KnAll.node 16 20 28 rfl rfl rfl KnAll.none (KnAll.node 32 36 52 rfl rfl rfl KnAll.none (KnAll.node 64 68 100 rfl rfl rfl KnAll.none trivial (KnAll.node 128 164 228 rfl rfl rfl KnAll.none (KnAll.node 256 292 420 rfl rfl rfl (KnAll.cons k34_14 KnAll.nil) trivial trivial) trivial)) trivial) (KnAll.node 32 44 60 rfl rfl rfl KnAll.none (KnAll.node 64 76 108 rfl rfl rfl KnAll.none trivial (KnAll.node 128 172 236 rfl rfl rfl KnAll.none (KnAll.node 256 300 428 rfl rfl rfl (KnAll.cons k34_16 KnAll.nil) trivial trivial) trivial)) trivial))) (KnAll.node 8 10 14 rfl rfl rfl KnAll.none trivial (KnAll.node 16 22 30 rfl rfl rfl KnAll.none trivial (KnAll.node 32 46 62 rfl rfl rfl KnAll.none trivial (KnAll.node 64 94 126 rfl rfl rfl KnAll.none trivial (KnAll.node 128 190 254 rfl rfl rfl (KnAll.cons k34_10 KnAll.nil) trivial trivial)))))))
end Go.Proofs.YtedipingocmmdaaGreat.Ev

