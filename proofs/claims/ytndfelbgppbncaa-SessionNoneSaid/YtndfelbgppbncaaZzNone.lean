/- PROVED: Rows.SessionNoneSaid: for every input droverlaw07.SessionNone hands back true, and its arguments read as they did. No condition. The call's run is computed by the kernel with the evaluator of the texts 'Ev..', whose soundness is proved there; the slice is never looked at. -/
import Derived.Test.YtndfelbgppbncaaRows
import Derived.Test.YtndfelbgppbncaaEvRow
import Derived.ProofKit
import Derived.Carry
set_option linter.unusedVariables false
namespace Go.Proofs.Ytndfelbgppbncaa
open Go.ChangeShapes Go.WideShapes Go.ChangeAt Go.RowKit Go.Proofs.Ytndfelbgppbncaa.Ev
theorem zz_own : ownKnob Try.prog.godebug = none := by kernel_rfl
theorem zz_laid : laidOutB Try.prog = true := by kernel_rfl
theorem zz_names : namesOK Try.prog = true := by kernel_rfl
set_option maxRecDepth 100000 in
theorem none_true (n : Int) (a : Option Addr) (l c : Nat) (W : World) : Calls Try.prog 4 ⟨[.int .i64 n, .slice a l c]⟩ W fun e W' => e = .returned (.bool true) ∧ Below W.heap.size W W' :=
  run_true (K := 1000) (n := 1000) (m := 1000) (ι := fun _ => none) zz_names (fun _ _ => rfl) (.cons (.int _ n) (.cons (.tok none a l c) .nil)) (show isTrue (callF (tab Try.prog) 1000 1000 4 [.int .i64 n, .chan none] ⟨1000, .nil⟩) = true by kernel_rfl) W
set_option maxRecDepth 100000 in
theorem none_lifted (os : Os) (started : os.Started) (H : Type) (enc : TypeId × Value → H) :
    ReturnsInHanded {} Try.checked os 4 .any (Rows.sessionNoneSpec.pre6 enc Try.prog Try.f4 Rows.sessionNoneRow.domain false) (Rows.sessionNoneSpec.post enc Try.prog Try.f4 false true false false) := by
  refine returnsInHanded_of_change (C := Try.checked) zz_own started (by kernel_rfl) Try.func4
    (ChangeSpec.witness6 (enc := enc) (C := Try.checked) false ⟨#[], #[.int .i64 0, .slice none 0 0], []⟩ 8 (by kernel_rfl) (by kernel_rfl) (by kernel_rfl) (by kernel_rfl)) ?_
  intro W base args ds gs before hval0 hW hcnd _
  have hval : ∀ (j : Nat) t v, Try.f4.params[j]? = some t → args[j]? = some v → Value.okWide Try.prog W .any base t v := hval0
  have hW' := hW
  obtain ⟨p, q, hA0, hV, rfl, hfz, hnd⟩ := hW
  have hA : DataW.TrodAll enc Try.prog W 0 (fun _ => true) true Try.f4.params.toList args.toList ds p := hA0
  rw [Try.params4] at hA hval
  obtain ⟨v0, v1, d0, d1, p0, p1, rfl, rfl, rfl, h0, h1⟩ := trodAll_two hA
  obtain ⟨rfl, rfl⟩ := trodVars_none hV
  obtain ⟨a0, len, cap, rfl⟩ := okWide_slice Try.underlying25 (hval 1 25 v1 rfl rfl)
  obtain ⟨n, rfl, rfl, rfl, w0⟩ := open_int Try.underlying3 (hval 0 3 v0 rfl rfl) h0
  clear hA0 hval0
  simp only [List.append_nil] at hW'
  have hlt := hW'.lt
  refine (none_true n a0 len cap W).mono fun e W' ⟨he, hb⟩ => ?_
  subst he
  exact ⟨_, rfl, post_of_below (pa := p1) (pv := []) hW' (fun _ _ _ => trodAll_mk1 (shut_bool Try.underlying4 _))
    (fun sp hsp => trodAll_mk2 (shut_int Try.underlying3 w0) (WideElems.Trod_stays zz_laid (by kernel_rfl) (of_decide_eq_true (by kernel_rfl)) h1 (fun x hx => hb.same (by simpa using hlt x (by simpa using hx))) (fun x hx => hsp x (by simpa using hx)))) (fun _ _ => rfl) (by simp)
    hb (ok_one (by kernel_rfl) rfl (okWide_bool_mk Try.underlying4 _))⟩
theorem none_holds : Rows.SessionNoneSaid :=
  OpenClaim.holds_of_wide 4 Try.f4 rfl rfl rfl rfl rfl rfl rfl ⟨rfl, rfl, rfl, rfl, rfl⟩ rfl rfl rfl rfl rfl (by kernel_rfl) Try.func4 (by kernel_rfl)
    (of_decide_eq_true (by kernel_rfl)) (by unfold Func.isWrapper; first | (rw [if_pos (by decide +kernel)]; kernel_rfl) | (rw [if_neg (by decide +kernel)]; exact ⟨rfl, rfl⟩))
    (fun os started H enc _ => none_lifted os started H enc)
#print axioms none_holds
end Go.Proofs.Ytndfelbgppbncaa
