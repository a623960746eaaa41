/-
  'SumOfText': both ways, and the law. No condition.
-/
import Derived.Test.YtnklncheopbfbaaVi28
import Derived.Test.YtnklncheopbfbaaChecked
import Derived.KernelRfl
namespace Go.Proofs.Ytnklncheopbfbaa
open Go.Vi

theorem mixed : Try.prog.follows .mixedOrders = true := by kernel_rfl
/- 15: loop.example/g00831/spec.SumOfText; 1 arguments, 0 captured, 20 slots, results [2] -/
def c15 : ACode :=
 .seq (
  .reg [(none, .mv 2 (.c (.v (.sc (.dat (.int .i64 0))))))]) (
 .seq (
  .reg [(none, .mv 3 (.c (.v (.sc (.dat (.int .i64 7))))))]) (
 .seq (
  .seq (
   .reg [(none, .mv 4 (.c (.v (.sc (.dat (.int .i64 0))))))]) (
  .block 0 (
   .loop (
    .seq (
     .reg [(none, .drop [2, 5, 6, 7, 8, 11, 12, 13, 14, 15, 16, 17, 18, 9, 10, 19]), (none, .forget [])]) (
    .seq (
     .seq (
      .reg [(none, .mv 5 (.t 4)), (none, .mv 6 (.t 0)), (none, .slen 7 (.t 6)), (none, .bin 8 .lss (.t 5) (.t 7))]) (
     .cond (.t 8) (
      .skip) (
      .exit 0))) (
    .seq (
     .block 1 (
      .reg [(none, .mv 11 (.t 3)), (none, .bin 12 .mul (.c (.v (.sc (.dat (.int .i64 31))))) (.t 11)), (none, .mv 13 (.t 0)), (none, .mv 14 (.t 4)), (none, .idx 15 (.t 13) (.t 14)), (none, .conv 16 .i64 (.t 15)), (none, .bin 17 .add (.t 12) (.t 16)), (none, .bin 18 .rem (.t 17) (.c (.v (.sc (.dat (.int .i64 65521)))))), (none, .mv 3 (.t 18))])) (
    .reg [(none, .mv 9 (.t 4)), (none, .bin 10 .add (.t 9) (.c (.v (.sc (.dat (.int .i64 1)))))), (none, .mv 4 (.t 10))]))))))) (
 .seq (
  .reg [(none, .mv 19 (.t 3)), (none, .mv 2 (.t 19))]) (
 .ret))))
theorem e15 : entry Try.prog 15 = some (c15.strip, [2], 20) := by kernel_rfl
/- 3: loop.example/g00831/laws.FnExactSumOfText; 1 arguments, 0 captured, 15 slots, results [2] -/
def c3 : ACode :=
 .seq (
  .reg [(none, .mv 2 (.c (.v (.sc (.dat (.bool false))))))]) (
 .seq (
  .seq (
   .reg [(none, .mv 5 (.t 0)), (none, .slen 6 (.t 5)), (none, .bin 7 .gtr (.t 6) (.c (.v (.sc (.dat (.int .i64 1048576))))))]) (
  .cond (.t 7) (
   .seq (
    .reg [(none, .mv 2 (.c (.v (.sc (.dat (.bool true))))))]) (
   .ret)) (
   .skip))) (
 .seq (
  .reg [(none, .mv 8 (.t 0)), (none, .call 9 15 [(.t 8)]), (none, .mv 3 (.t 9))]) (
 .seq (
  .reg [(none, .mv 10 (.t 0)), (none, .call 11 16 [(.t 10)]), (none, .mv 4 (.t 11))]) (
 .seq (
  .seq (
   .reg [(none, .mv 12 (.t 4)), (none, .mv 13 (.t 3)), (none, .bin 14 .neq (.t 12) (.t 13))]) (
  .cond (.t 14) (
   .seq (
    .reg [(none, .mv 2 (.c (.v (.sc (.dat (.bool false))))))]) (
   .ret)) (
   .skip))) (
 .seq (
  .reg [(none, .mv 2 (.c (.v (.sc (.dat (.bool true))))))]) (
 .ret))))))
theorem e3 : entry Try.prog 3 = some (c3.strip, [2], 15) := by kernel_rfl
theorem e16 : entry Try.prog 16 = some (c15.strip, [2], 20) := by kernel_rfl

def sumStep (a : Int) (b : UInt8) : Int := IntKind.i64.wrap ((IntKind.i64.wrap (IntKind.i64.wrap (31 * a) + IntKind.i64.wrap b.toNat)).tmod 65521)
def sumOf (s : List UInt8) : Int := s.foldl sumStep 7
theorem sum_succ {s : List UInt8} {i : Nat} (h : i < s.length) : sumOf (s.take (i + 1)) = sumStep (sumOf (s.take i)) s[i] := by
  unfold sumOf
  rw [List.take_succ_eq_append_getElem h, List.foldl_append]
  rfl
theorem awp15 (s : List UInt8) (ok : DsOk [.sc (.str s)]) : AWP Try.prog c15 (Ret [2] [.sc (.v (.int .i64 (sumOf s)))]) (St.init [.sc (.str s)]) := by
  have hlen := ok.sc.1.str
  refine go_start ?_
  simp only [c15, St.init, initEnv, DV.av, Nat.reduceBEq, rules]
  refine go_loop _ _ (ι := Nat) (fun i => i ≤ s.length) (fun i => ⟨[(0, .v (.sc (.dat (.str s)))), (3, .v (.sc (.dat (.int .i64 (sumOf (s.take i)))))), (4, .v (.sc (.dat (.int .i64 i))))], [], []⟩) (fun i => s.length - i) 0 (Nat.zero_le _) ?_ ?_
  · rfl
  intro i hi
  simp only [Nat.reduceBEq, rules]
  refine go_pick (fun h => ?_) (fun h => ?_)
  · have hlt : i < s.length := by simpa using h
    simp only [hlt, Nat.reduceBEq, Int.reduceBEq, rules]
    refine ⟨i + 1, hlt, Nat.sub_succ_lt_self _ _ hlt, ?_⟩
    rw [wrap_succ hlt hlen]
    simp only [sum_succ hlt]
    rfl
  · have hi' : i = s.length := by
      have : ¬ i < s.length := by simpa using h
      omega
    subst hi'
    simp only [Nat.reduceBEq, rules, List.take_length]
    exact ⟨⟨rfl, trivial⟩, rfl⟩
theorem fc15 (s : List UInt8) : FC Try.prog 15 [.sc (.str s)] [.sc (.v (.int .i64 (sumOf s)))] := FC_ok mixed e15 (by simp) (awp15 s)
theorem fc16 (s : List UInt8) : FC Try.prog 16 [.sc (.str s)] [.sc (.v (.int .i64 (sumOf s)))] := FC_ok mixed e16 (by simp) (awp15 s)

theorem fc3 (s : List UInt8) : FC Try.prog 3 [.sc (.str s)] [.sc (.v (.bool true))] := by
  refine FC_ok mixed e3 (by simp) fun ok => go_start ?_
  simp only [c3, St.init, initEnv, DV.av, Nat.reduceBEq, rules]
  refine go_pick (fun h => ?_) (fun h => ?_)
  · simp only [Nat.reduceBEq, rules]
    exact ⟨⟨rfl, trivial⟩, rfl⟩
  · simp only [Nat.reduceBEq, rules]
    refine go_call (fc15 s) rfl (flat_of rfl) rfl (Nat.le_of_ble_eq_true rfl) ?_
    simp only [Nat.reduceBEq, rules]
    refine go_call (fc16 s) rfl (flat_of rfl) rfl (Nat.le_of_ble_eq_true rfl) ?_
    simp only [Nat.reduceBEq, rules]
    exact ⟨⟨rfl, trivial⟩, rfl⟩
end Go.Proofs.Ytnklncheopbfbaa
