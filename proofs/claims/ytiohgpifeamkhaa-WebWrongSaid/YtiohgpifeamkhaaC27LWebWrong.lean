/- 'finesselaw27.WebWrong' returns true for every input, and the input reads as it did: numbers that there are not are rejected. Conditions: none. -/
import Derived.Test.YtiohgpifeamkhaaC27G
import Derived.Test.YtiohgpifeamkhaaC27Za
namespace Go.Proofs.Ytiohgpifeamkhaa
open Go Go.Sx Go.ChangeShapes Go.WideShapes Go.RowKit Go.ChangeAt Go.Proofs.C27


namespace webWrong
theorem fnOf (H : Type) (ds : List (DataW H)) (hlen : ds.length = 3) : Rows.webWrongSpec.fn H (ds ++ []) = { results := [.lit (.bool true)], args := ds } := by
  rcases ds with _ | ⟨d0, ds⟩
  · simp at hlen
  rcases ds with _ | ⟨d1, ds⟩
  · simp at hlen
  rcases ds with _ | ⟨d2, ds⟩
  · simp at hlen
  rcases ds with _ | ⟨dx, ds⟩
  · rfl
  · simp at hlen

/-- WHAT THE LAW DOES, FOR EVERY ARGUMENT AND EVERY WORLD THAT HOLDS WHAT IS LAID. -/
theorem contract (H : Type) (enc : TypeId × Value → H) (W : World) (base : Nat) (args : Array Value) (ds gs : List (DataW H)) (before : List MemPlace)
    (hval : ∀ (j : Nat) t v, Try.f9.params[j]? = some t → args[j]? = some v → Value.okWide Try.prog W .any base t v)
    (hW : DataW.Whole enc Try.prog Try.f9.params.toList Rows.webWrongSpec.vars false W args.toList ds gs before) (hL : laidMetH Try.prog Rows.webWrongRow.laid W) :
    Calls Try.prog 9 args W fun e W' => ∃ v, e = .returned v ∧ Rows.webWrongSpec.post enc Try.prog Try.f9 false true false false W args v W' := by
  have hW' := hW
  obtain ⟨p, q, hA0, hV, rfl, hfz, hnd⟩ := hW
  obtain ⟨us, is, ho⟩ := ps_open (P := Try.prog) _ [.int .i64, .int .u8, .int .u8] _ ds p (by kernel_rfl) (hval_list @hval) hA0
  obtain ⟨rfl, rfl⟩ := trodVars_none hV
  have hlen := trodAll_len hA0
  rw [Try.params9] at hlen
  refine (Ctr.Valid.law_at (HG := ([] : List O)) (ηG := fun _ : Nat => (none : Option Info)) vLWrong rfl rfl rfl (fun us h => by obtain ⟨u, _, rfl, h0, v, _, rfl, h1, x, _, rfl, h2, rfl⟩ := h; exact Holds.and (mk_le h0.1) (Holds.and (mk_le h0.2) (Holds.and (mk_le h1.1) (Holds.and (mk_le h1.2) (Holds.and (mk_le h2.1) (Holds.and (mk_le h2.2) Holds.nil)))))) (fun g h hm => by cases hm) (globals hL) ho).mono fun e W' ⟨he, hb⟩ => ⟨_, he, law_post hW' hb (by kernel_rfl) (by kernel_rfl) rfl Try.underlying4 rfl ?_⟩
  exact fnOf H ds hlen

theorem laid_met (os : Os) : laidMet Try.prog Rows.webWrongRow.laid ((laidWorld os).forCall (fun _ _ => 0) ⟨#[], (#[(.int .i64 0), (.int .u8 0), (.int .u8 0)] : Array Value), []⟩).memory :=
  (laidMet_nil _ _)
theorem reads (os : Os) {H : Type} (enc : TypeId × Value → H) : ∃ places, DataW.whole enc Try.prog ((laidWorld os).forCall (fun _ _ => 0) ⟨#[], (#[(.int .i64 0), (.int .u8 0), (.int .u8 0)] : Array Value), []⟩).memory Try.f9.params.toList Rows.webWrongSpec.vars false (#[(.int .i64 0), (.int .u8 0), (.int .u8 0)] : Array Value).toList 8 = some ([(.lit (.int .i64 0)), (.lit (.int .u8 0)), (.lit (.int .u8 0))], [], places) :=
  ⟨[], by kernel_rfl⟩

set_option maxRecDepth 100000 in
theorem lifted (os : Os) (started : os.Started) (H : Type) (enc : TypeId × Value → H) (F : Stop.Interp) :
    ReturnsInHanded {} Try.checked os 9 .any ((OpenSpec.ofChange Rows.webWrongSpec).preRow enc Try.prog Try.f9 Rows.webWrongRow.domain false Rows.webWrongRow.laid) (((OpenSpec.ofChange Rows.webWrongSpec).at F).post enc Try.prog Try.f9 false true false false) := by
  obtain ⟨places, hx⟩ := reads os enc
  refine returnsInHanded_of_row (C := Try.checked) (s := OpenSpec.ofChange Rows.webWrongSpec) own started (by kernel_rfl) Try.func9
    (witness_row_at (enc := enc) (C := Try.checked) false (laidWorld os) #[(.int .i64 0), (.int .u8 0), (.int .u8 0)] rfl (by kernel_rfl) (by kernel_rfl) (by kernel_rfl)
      (OpenSpec.preRow_of_cond 8 hx (by kernel_rfl) (fun k hk => by cases hk) (by kernel_rfl) (laid_met os))) ?_
  intro W base args ds gs before hval hW _ _ _ hL _ _
  exact contract H enc W base args ds gs before hval hW hL

theorem said : Rows.WebWrongSaid :=
  OpenClaim.holds_of_cond 9 Try.f9 rfl rfl rfl rfl rfl rfl rfl ⟨rfl, rfl, rfl, rfl, rfl⟩ rfl rfl rfl rfl rfl (by kernel_rfl) Try.func9 (by kernel_rfl)
    (of_decide_eq_true (by kernel_rfl)) (by unfold Func.isWrapper; first | (rw [if_pos (by decide +kernel)]; kernel_rfl) | (rw [if_neg (by decide +kernel)]; exact ⟨rfl, rfl⟩))
    (fun os started H enc _ F => by rw [OpenClaim.pre_eq_preRow]; exact lifted os started H enc F)

end webWrong
end Go.Proofs.Ytiohgpifeamkhaa
