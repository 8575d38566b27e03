/- 'finesselaw24.CrossWrong' returns true for every input, and the input reads as it did: scores that nobody can have, too many results, and numbers that there are not, are rejected. Conditions: those of the given row alone (the scale is laid as the program's text lays it). -/
import Derived.Test.YtnpadkajapialaaDoorC24G
import Derived.Test.YtnpadkajapialaaDoorC24R
namespace Go.Proofs.YtnpadkajapialaaDoor
open Go Go.Sx Go.ChangeShapes Go.WideShapes Go.RowKit Go.ChangeAt Go.Proofs.C24


namespace crossWrong
theorem fnOf (H : Type) (ds : List (DataW H)) (hlen : ds.length = 4) : Rows.crossWrongSpec.fn H (ds ++ []) = { results := [.lit (.bool true)], args := ds } := by
  rcases ds with _ | ⟨d0, ds⟩
  · simp at hlen
  rcases ds with _ | ⟨d1, ds⟩
  · simp at hlen
  rcases ds with _ | ⟨d2, ds⟩
  · simp at hlen
  rcases ds with _ | ⟨d3, ds⟩
  · simp at hlen
  rcases ds with _ | ⟨dx, ds⟩
  · rfl
  · simp at hlen

/-- WHAT THE LAW DOES, FOR EVERY ARGUMENT AND EVERY WORLD THAT HOLDS WHAT IS LAID. -/
theorem contract (H : Type) (enc : TypeId × Value → H) (W : World) (base : Nat) (args : Array Value) (ds gs : List (DataW H)) (before : List MemPlace)
    (hval : ∀ (j : Nat) t v, Tryd.f7.params[j]? = some t → args[j]? = some v → Value.okWide Tryd.prog W .any base t v)
    (hW : DataW.Whole enc Tryd.prog Tryd.f7.params.toList Rows.crossWrongSpec.vars false W args.toList ds gs before) (hL : laidMetH Tryd.prog Rows.crossWrongRow.laid W) :
    Calls Tryd.prog 7 args W fun e W' => ∃ v, e = .returned v ∧ Rows.crossWrongSpec.post enc Tryd.prog Tryd.f7 false true false false W args v W' := by
  have hW' := hW
  obtain ⟨p, q, hA0, hV, rfl, hfz, hnd⟩ := hW
  obtain ⟨us, is, ho⟩ := ps_open (P := Tryd.prog) _ [.rows [.int .i16], .int .u8, .int .i64, .bool] _ ds p (by kernel_rfl) (hval_list @hval) hA0
  obtain ⟨rfl, rfl⟩ := trodVars_none hV
  have hlen := trodAll_len hA0
  rw [Tryd.params7] at hlen
  refine (Ctr.Valid.law_at (HG := GH) (ηG := fun k : Nat => if k = 0 then some (⟨0, 24, 1, 0⟩ : Info) else none) vLWrong rfl rfl rfl (fun us h => by obtain ⟨u, _, rfl, h0, v, _, rfl, h1, x, _, rfl, h2, y, _, rfl, _, rfl⟩ := h; exact Holds.and (el_of h0) (Holds.and (mk_le h1.1) (Holds.and (mk_le h1.2) (Holds.and (mk_le h2.1) (Holds.and (mk_le h2.2) Holds.nil))))) (fun g h hm => by simp only [cx, List.mem_singleton, Prod.mk.injEq] at hm; obtain ⟨rfl, rfl⟩ := hm; exact ⟨by decide, _, rfl, rfl, rfl⟩) (globals hL) ho).mono fun e W' ⟨he, hb⟩ => ⟨_, he, law_post hW' hb (by kernel_rfl) (by kernel_rfl) rfl Tryd.underlying4 rfl ?_⟩
  exact fnOf H ds hlen

theorem laid_met (os : Os) : laidMet Tryd.prog Rows.crossWrongRow.laid ((laidWorld os).forCall (fun _ _ => 0) ⟨#[], (#[(.slice none 0 0), (.int .u8 0), (.int .i64 0), (.bool false)] : Array Value), []⟩).memory :=
  laidMet_of_run' 8 (by kernel_rfl) (by kernel_rfl)
theorem reads (os : Os) {H : Type} (enc : TypeId × Value → H) : ∃ places, DataW.whole enc Tryd.prog ((laidWorld os).forCall (fun _ _ => 0) ⟨#[], (#[(.slice none 0 0), (.int .u8 0), (.int .i64 0), (.bool false)] : Array Value), []⟩).memory Tryd.f7.params.toList Rows.crossWrongSpec.vars false (#[(.slice none 0 0), (.int .u8 0), (.int .i64 0), (.bool false)] : Array Value).toList 8 = some ([.nil, (.lit (.int .u8 0)), (.lit (.int .i64 0)), (.lit (.bool false))], [], places) :=
  ⟨[], by kernel_rfl⟩

set_option maxRecDepth 100000 in
theorem lifted (os : Os) (started : os.Started) (H : Type) (enc : TypeId × Value → H) (F : Stop.Interp) :
    ReturnsInHanded {} Tryd.checked os 7 .any ((OpenSpec.ofChange Rows.crossWrongSpec).preRow enc Tryd.prog Tryd.f7 Rows.crossWrongRow.domain false Rows.crossWrongRow.laid) (((OpenSpec.ofChange Rows.crossWrongSpec).at F).post enc Tryd.prog Tryd.f7 false true false false) := by
  obtain ⟨places, hx⟩ := reads os enc
  refine returnsInHanded_of_row (C := Tryd.checked) (s := OpenSpec.ofChange Rows.crossWrongSpec) own started (by kernel_rfl) Tryd.func7
    (witness_row_at (enc := enc) (C := Tryd.checked) false (laidWorld os) #[(.slice none 0 0), (.int .u8 0), (.int .i64 0), (.bool false)] rfl (by kernel_rfl) (by kernel_rfl) (by kernel_rfl)
      (OpenSpec.preRow_of_cond 8 hx (by kernel_rfl) (fun k hk => by cases hk) (by kernel_rfl) (laid_met os))) ?_
  intro W base args ds gs before hval hW _ _ _ hL _ _
  exact contract H enc W base args ds gs before hval hW hL

theorem said : Rows.CrossWrongSaid :=
  OpenClaim.holds_of_cond 7 Tryd.f7 rfl rfl rfl rfl rfl rfl rfl ⟨rfl, rfl, rfl, rfl, rfl⟩ rfl rfl rfl rfl rfl (by kernel_rfl) Tryd.func7 (by kernel_rfl)
    (of_decide_eq_true (by kernel_rfl)) (by unfold Func.isWrapper; first | (rw [if_pos (by decide +kernel)]; kernel_rfl) | (rw [if_neg (by decide +kernel)]; exact ⟨rfl, rfl⟩))
    (fun os started H enc _ F => by rw [OpenClaim.pre_eq_preRow]; exact lifted os started H enc F)

theorem plain (f : FuncId) (fn : Func) (hf : Tryd.pinned.checked.prog.funcNamed "finesse/finesselaw24.CrossWrong" = some f) (hfn : Tryd.pinned.checked.prog.funcs[f]? = some fn) :
    false = Tryd.pinned.checked.prog.looks [] ∧ ∀ (j : Nat) t, fn.params[j]? = some t → Tryd.pinned.checked.prog.wantsStandIn t = false := by
  obtain rfl : f = 7 := Option.some.inj ((show Tryd.prog.funcNamed "finesse/finesselaw24.CrossWrong" = some 7 by kernel_rfl).symm.trans hf) |>.symm
  obtain rfl : fn = Tryd.f7 := (Option.some.inj (Tryd.func7.symm.trans hfn)).symm
  refine ⟨by kernel_rfl, fun j t ht => ?_⟩
  rw [Tryd.params7] at ht
  have hall : ∀ t ∈ (#[25, 5, 3, 4] : Array TypeId).toList, Tryd.prog.wantsStandIn t = false := by
    simp only [List.forall_mem_cons, List.not_mem_nil, false_implies, implies_true, and_true]
    refine ⟨?_, ?_, ?_, ?_⟩ <;> kernel_rfl
  exact hall t (List.mem_of_getElem? (i := j) (by simpa using ht))

/-- ████ THE CARD ████ -/
theorem card : Rows.CrossWrongCardSaid :=
  Claim7.holds_tied_plain_at .later [] _ _ _ _ said (fun _ h => by cases h) (by kernel_rfl) (fun _ h => by cases h) crossWrong_row_tie rfl ⟨rfl, rfl⟩ (by kernel_rfl) rfl plain (by kernel_rfl)

end crossWrong
end Go.Proofs.YtnpadkajapialaaDoor
