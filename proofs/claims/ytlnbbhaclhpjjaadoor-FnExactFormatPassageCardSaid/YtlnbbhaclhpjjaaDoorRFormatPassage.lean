/-
  THE STATEMENT Rows.FnExactFormatPassageSaid, proved: the call by its contract at the value level. No condition.
-/
import Derived.Test.YtlnbbhaclhpjjaaDoorRows
import Derived.Test.YtlnbbhaclhpjjaaDoorTie
import Derived.Test.YtlnbbhaclhpjjaaDoorCards
import Derived.Test.YtlnbbhaclhpjjaaDoorVi29
import Derived.Test.YtlnbbhaclhpjjaaDoorVg
import Derived.Test.YtlnbbhaclhpjjaaDoorWFormatPassage
import Derived.Test.YtlnbbhaclhpjjaaDoorRa
import Derived.Test.YtlnbbhaclhpjjaaDoorRb
import Derived.Test.YtlnbbhaclhpjjaaDoorRc
import Derived.Test.YtlnbbhaclhpjjaaDoorRd
import Derived.Test.YtlnbbhaclhpjjaaDoorRe
import Derived.Test.YtlnbbhaclhpjjaaDoorRf
import Derived.WalkKit
import Derived.ProofKit
import Derived.OpenShut
import Derived.Lay
import Derived.LaidOnce
import Derived.SevenTiedAt
import Derived.Stop.LaidErr
import Derived.Stop.Joined
import Derived.LaidMore
namespace Go.Proofs.YtlnbbhaclhpjjaaDoor.fnExactFormatPassage
open Go.ChangeShapes Go.WideShapes Go.ChangeAt Go.RowKit

theorem own : ownKnob Tryd.prog.godebug = none := by kernel_rfl
theorem laidOut : laidOutB Tryd.prog = true := by kernel_rfl

set_option maxRecDepth 100000 in
theorem lifted (os : Os) (started : os.Started) (H : Type) (enc : TypeId × Value → H) :
    ReturnsInHanded {} Tryd.checked os 9 .any (fun w args => (Rows.fnExactFormatPassageSpec.pre enc Tryd.prog Tryd.f9 [] false w args ∧ laidMetH Tryd.prog Rows.fnExactFormatPassageRow.laid w) ∧ sizedMet enc Tryd.prog Tryd.f9 (OpenSpec.ofChange Rows.fnExactFormatPassageSpec) false w args) (Rows.fnExactFormatPassageSpec.post enc Tryd.prog Tryd.f9 false true false false) := by
  refine returnsInHanded_of_change_and (C := Tryd.checked) (X := fun w _ => laidMetH Tryd.prog Rows.fnExactFormatPassageRow.laid w) (fun _ _ _ hh h => h.of_heap hh) own started (by kernel_rfl) Tryd.func9
    (ChangeSpec.witness_shaped (enc := enc) (C := Tryd.checked) (os := os) (X := fun w _ => laidMetH Tryd.prog Rows.fnExactFormatPassageRow.laid w) false (World.laidAll Tryd.prog os Rows.fnExactFormatPassageRow.laid) #[.agg #[.slice none 0 0, .slice none 0 0], .slice none 0 0, .agg #[.int .i64 0, .int .i64 0, .bool false, .int .i64 0, .int .i64 0]] 8 (World.laidAll_os _ _ _)
      (World.shaped_of_ZipB (by kernel_rfl) (by kernel_rfl)) (by kernel_rfl) (by kernel_rfl) (by kernel_rfl)
      (by rw [MakeChecks.laidMetH_plain _ _ _ (by kernel_rfl)]; exact laidMet_laidAll _ (by kernel_rfl) (by kernel_rfl))) ?_
  intro W base args ds gs _ hval0 hW _ _ hL0 _
  rw [MakeChecks.laidMetH_plain _ _ _ (by kernel_rfl)] at hL0
  have hL : Vi.GoodW W := Vi.good_of hL0
  have hval : ∀ (j : Nat) t v, Tryd.f9.params[j]? = some t → args[j]? = some v → Value.okWide Tryd.prog W .any base t v := hval0
  have hW' := hW
  obtain ⟨p, q, hA0, hV, rfl, _, _⟩ := hW
  have hA : DataW.TrodAll enc Tryd.prog W 0 (fun _ => true) true Tryd.f9.params.toList args.toList ds p := hA0
  rw [Tryd.params9] at hA hval
  obtain ⟨v0, vs0, d0, ds0, p0, q0, hargs, rfl, rfl, h0, r0⟩ := trodAll_cons hA
  obtain ⟨v1, vs1, d1, ds1, p1, q1, rfl, rfl, rfl, h1, r1⟩ := trodAll_cons r0
  obtain ⟨v2, vs2, d2, ds2, p2, q2, rfl, rfl, rfl, h2, r2⟩ := trodAll_cons r1
  obtain ⟨rfl, rfl, rfl⟩ := trodAll_nil r2
  obtain rfl : args = #[v0, v1, v2] := by cases args; simp_all
  obtain ⟨rfl, rfl⟩ := trodVars_none hV
  have lt0 : ∀ x ∈ p0, x.block < W.heap.size := by obtain ⟨m, hm⟩ := h0; exact DataW.trod_lt m _ _ _ hm
  have lt1 : ∀ x ∈ p1, x.block < W.heap.size := by obtain ⟨m, hm⟩ := h1; exact DataW.trod_lt m _ _ _ hm
  have lt2 : ∀ x ∈ p2, x.block < W.heap.size := by obtain ⟨m, hm⟩ := h2; exact DataW.trod_lt m _ _ _ hm
  obtain ⟨x0, w0⟩ := Vi.arg_ag (R := (.st [(.sl (.st [.str, .bool])), (.sl (.st [(.int .i64), (.int .i64), (.int .i64), (.int .i64), .bool]))])) (row := Vi.XChart.row) (n := 16) (by kernel_rfl) (by kernel_rfl) Tryd.underlying62 (hval 0 62 v0 rfl rfl) h0
  obtain ⟨x1, y1⟩ := Vi.arg_sc (R := (.sl (.st [.str, (.int .i64), (.int .i64), (.int .i64), (.int .i64), .bool]))) (row := (Vi.rL Vi.XShip.row)) (n := 16) (by kernel_rfl) (by kernel_rfl) (Vi.one_of (hval 1 72 v1 rfl rfl) (by kernel_rfl)) h1
  have w1 := y1 _ rfl
  obtain ⟨x2, w2⟩ := Vi.arg_ag (R := (.st [(.int .i64), (.int .i64), .bool, (.int .i64), (.int .i64)])) (row := Vi.XPassage.row) (n := 16) (by kernel_rfl) (by kernel_rfl) Tryd.underlying74 (hval 2 74 v2 rfl rfl) h2
  have ok : Vi.DsOk [.ag (Vi.XChart.row x0), .sc (.sl (List.map Vi.XShip.row x1)), .ag (Vi.XPassage.row x2)] := ⟨_, _, .cons w0 (.cons w1 (.cons w2 .nil))⟩
  clear hA0 hval0
  refine (Vi.law_true (Vi.w_laws_FnExactFormatPassage x0 x1 x2 true (Vi.law_FnExactFormatPassage x0 x1 x2 ok)) (w := W) hL (.cons w0 (.cons w1 (.cons w2 .nil)))).mono fun e W' ⟨he, bel⟩ => ?_
  subst he
  exact ⟨_, rfl, _, _, _, [], _, [], hW', trodAll_mk1 (shut_bool Tryd.underlying4 _), (trodAll_cons_mk (Below.trod laidOut (by kernel_rfl) (of_decide_eq_true (by kernel_rfl)) h0 bel lt0) (trodAll_cons_mk (Below.trod laidOut (by kernel_rfl) (of_decide_eq_true (by kernel_rfl)) h1 bel lt1) (trodAll_cons_mk (Below.trod laidOut (by kernel_rfl) (of_decide_eq_true (by kernel_rfl)) h2 bel lt2) trodAll_mk0))), rfl, bel.frame _, fun h => by cases h⟩

theorem over : Rows.fnExactFormatPassageRow.holds Tryd.pinned (OpenSpec.ofChange Rows.fnExactFormatPassageSpec) :=
  OpenClaim.holds_of_wide 9 Tryd.f9 rfl rfl rfl rfl rfl rfl rfl ⟨rfl, rfl, rfl, rfl, rfl⟩ rfl rfl rfl rfl rfl (by kernel_rfl) Tryd.func9 (by kernel_rfl)
    (of_decide_eq_true (by kernel_rfl)) (by unfold Func.isWrapper; first | (rw [if_pos (by decide +kernel)]; kernel_rfl) | (rw [if_neg (by decide +kernel)]; exact ⟨rfl, rfl⟩))
    (fun os started H enc _ => lifted os started H enc)

theorem proved : Rows.FnExactFormatPassageCardSaid :=
  Claim7.holds_tied_plain_at .later [] [.data, .data, .data] true (true, "9225c3820229fb8c67b08a4241ab4f595cad25dd3aa8d7d430d2cea8dfa6bc6a") true
    over (fun _ h => by cases h) (by kernel_rfl) (fun _ h => by cases h) fnExactFormatPassage_row_tie rfl ⟨rfl, rfl⟩ (by kernel_rfl) rfl
    (fun f fn hf hfn => by
      obtain rfl : f = 9 := Option.some.inj ((show Tryd.prog.funcNamed Rows.fnExactFormatPassageRow.func = some 9 by kernel_rfl).symm.trans hf) |>.symm
      obtain rfl : fn = Tryd.f9 := (Option.some.inj (Tryd.func9.symm.trans hfn)).symm
      exact ⟨by kernel_rfl, fun j t ht => by
        rw [Tryd.params9] at ht
        have h3 : t = 62 ∨ t = 72 ∨ t = 74 := by
          have := Array.mem_of_getElem? ht; simpa using this
        rcases h3 with rfl | rfl | rfl
        · exact (show Tryd.prog.wantsStandIn 62 = false by kernel_rfl)
        · exact (show Tryd.prog.wantsStandIn 72 = false by kernel_rfl)
        · exact (show Tryd.prog.wantsStandIn 74 = false by kernel_rfl)
        ⟩)
    (by kernel_rfl)
#print axioms proved
end Go.Proofs.YtlnbbhaclhpjjaaDoor.fnExactFormatPassage
