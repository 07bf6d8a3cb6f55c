/- The evaluator and the rows: a call that hands back true and leaves what was there. -/
import Derived.Test.YtndfelbgppbncaaEvDraw6
import Derived.Below
import Derived.ChangeSame
set_option linter.unusedVariables false
namespace Go.Proofs.Ytndfelbgppbncaa.Ev
open Go.RowKit
/-- has the evaluator come to true? -/
noncomputable def isTrue (x : VH) : Bool := VH.rec false (fun v _ => Option.rec false (fun b => b) (boolOf v)) x
/-- the heap of a call that is to make its own blocks alone: the first n numbers are the arguments' -/
def bare (n : Nat) : Heap := ⟨n, .nil⟩
theorem isTrue_eq {x : VH} (h : isTrue x = true) : ∃ h', x = .ok (.bool true) h' := by
  cases x with
  | fail => cases h
  | ok v h' =>
    cases v with
    | bool b => cases b with
      | false => cases h
      | true => exact ⟨h', rfl⟩
    | _ => cases h
theorem bare_blk (n b : Nat) : (bare n).blk b = none := get_nil _
theorem run_true {P : Program} (hn : namesOK P = true) {K n m f : Nat} {args args' : List Value} {ι : Inj} (hι : ∀ b, m ≤ b → ι b = none) (ha : VRL ι args args') (he : isTrue (callF (tab P) K n f args (bare m)) = true) (w : World) :
    Calls P f ⟨args'⟩ w fun e w' => e = .returned (.bool true) ∧ Below w.heap.size w w' := by
  obtain ⟨h', hq⟩ := isTrue_eq he
  have r : Rel w.heap.size ι (bare m) w :=
    ⟨fun b hb => ⟨hι b hb, bare_blk m b⟩, Nat.le_refl _, fun b B o S own n' pat tr _ hk => (by rw [bare_blk] at hk; cases hk), fun b b' B x x' _ _ hk => (by rw [bare_blk] at hk; cases hk)⟩
  refine ((sound hn K n f args _ _ _ hq).2 w.heap.size ι w args' r ha).mono fun e w' ⟨ι', v', g1, g2, g3, g4⟩ => ?_
  refine ⟨by cases g2; exact g1, g4.os, g4.tape, g4.output, g4.size, fun k hk => g4.keep k hk fun ⟨b, x, _, q⟩ => ?_⟩
  rw [bare_blk] at q
  cases q
end Go.Proofs.Ytndfelbgppbncaa.Ev
namespace Go.Proofs.Ytndfelbgppbncaa.Ev
open Go.ChangeShapes Go.WideShapes Go.RowKit
/-- 'post' of a call behind which all that was there is as it was. -/
theorem post_of_below {H : Type} {enc : TypeId × Value → H} {P : Program} {f : Func} {s : ChangeSpec} {apart fresh handsOn again : Bool} {W W' : World} {args : Array Value} {v : Value} {ds gs : List (DataW H)} {before pa pv : List MemPlace}
    (hW : DataW.Whole enc P f.params.toList s.vars apart W args.toList ds gs before)
    (hres : ∀ (b : Nat) (sp : Nat → Bool) (hd : Bool), DataW.TrodAll enc P W' b sp hd f.resultTypes.toList (v.resultList f.resultTypes.size) (s.fn H (ds ++ gs)).results [])
    (hargs : ∀ sp : Nat → Bool, (∀ p ∈ before, sp p.block = true) → DataW.TrodAll enc P W' 0 sp true f.params.toList args.toList (s.fn H (ds ++ gs)).args pa)
    (hvars : ∀ sp : Nat → Bool, (∀ p ∈ before, sp p.block = true) → DataW.TrodVars enc P W' sp s.vars (s.fn H (ds ++ gs)).vars pv)
    (hps : before = pa ++ pv) (hb : Below W.heap.size W W')
    (hok : ∀ (j : Nat) (t : TypeId) (r : Value), f.resultTypes[j]? = some t → (v.resultList f.resultTypes.size)[j]? = some r → Value.okWide P W' .any 0 t r) :
    s.post enc P f apart fresh handsOn again W args v W' := by
  have hlt := hW.lt
  have hold : ∀ p ∈ before, (fun b => decide (b < W.heap.size)) p.block = true := fun p hp => by simpa using hlt p hp
  refine ⟨ds, gs, before, [], pa, pv, hW, hres _ _ _, hargs _ hold, hvars _ hold, World.keptBut_mono (fun p hp => ⟨hp, ?_⟩) (hb.frame (· ∈ before)), fun _ => ?_⟩
  · rw [hps, List.mem_append] at hp
    exact Or.inr hp
  · obtain ⟨_, _, _, _, _, hz, hn⟩ := hW
    refine ⟨hok, _, _, ([] ++ pa) ++ pv, ⟨[] ++ pa, pv, trodAll_append (hargs _ (fun _ _ => rfl)) (hres _ _ _), hvars _ (fun _ _ => rfl), rfl, ?_, ?_⟩, ?_⟩
    · intro b off hp
      have hm : MemPlace.cell b off ∈ before := by rw [hps]; simpa using hp
      have hq := hlt _ hm
      rw [hb.frozen (p := ⟨b, off, none⟩) hq]
      exact hz b off hm
    · intro ha
      have := hn ha
      rw [hps] at this
      simpa using this
    · intro p hp _
      rw [hps]
      simpa using hp
end Go.Proofs.Ytndfelbgppbncaa.Ev
