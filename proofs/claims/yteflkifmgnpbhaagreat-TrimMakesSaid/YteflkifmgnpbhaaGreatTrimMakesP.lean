/- The Go function TrimMakes returns true at every input, and its arguments read as before; no further condition. (The frame follows the kit's proof-skeleton.) -/
import Derived.Test.YteflkifmgnpbhaaGreatRows
import Derived.Test.YteflkifmgnpbhaaGreatZ5
import Derived.WalkKit
import Derived.ProofKit
import Derived.OpenShut
import Derived.ShutString
import Derived.ChangeOld
import Derived.Below
import Derived.HandedShaped
namespace Go.Proofs.YteflkifmgnpbhaaGreat.trimMakes
open Go.ChangeShapes Go.WideShapes Go.ChangeAt Go.RowKit
open Go.ChangeMaps (open_string shut_string)
open Go.Lir (fits_arg)
set_option linter.unusedVariables false
theorem own:ownKnob Tryz.prog.godebug=none:=by kernel_rfl
theorem laidOut:laidOutB Tryz.prog=true:=by kernel_rfl

set_option maxRecDepth 100000 in
theorem lifted (os:Os) (started:os.Started) (H:Type) (enc:TypeId×Value→H):
    ReturnsInHanded {} Tryz.checked os 8 .any (Rows.trimMakesSpec.pre6 enc Tryz.prog Tryz.f8 Rows.trimMakesRow.domain false) (Rows.trimMakesSpec.post enc Tryz.prog Tryz.f8 false true false false):=by
  refine returnsInHanded_of_change_shaped (C:=Tryz.checked) own started (by kernel_rfl) Tryz.func8
    (ChangeSpec.witness6 (enc:=enc) (C:=Tryz.checked) false ⟨#[],#[.agg ⟨[.slice none 0 0]⟩],[]⟩ 8 (by kernel_rfl) (by kernel_rfl) (by kernel_rfl) (by kernel_rfl)) ?_
  intro W base args ds gs before hval0 hW hcnd hsz _ _
  have hval:∀(j:Nat) t v,Tryz.f8.params[j]?=some t→args[j]?=some v→Value.okWide Tryz.prog W .any base t v:=hval0
  have hW':=hW
  obtain ⟨p,q,hA0,hV,rfl,hfz,hnd⟩:=hW
  have hA:DataW.TrodAll enc Tryz.prog W 0 (fun _=>true) true Tryz.f8.params.toList args.toList ds p:=hA0
  rw [Tryz.params8] at hA hval hsz
  obtain ⟨v0,vs0,d0,ds0,p0,q0,hargs,rfl,rfl,h0,r0⟩:=trodAll_cons hA
  obtain ⟨rfl,rfl,rfl⟩:=trodAll_nil r0
  obtain rfl:args=#[v0]:=by cases args;simp_all
  obtain ⟨rfl,rfl⟩:=trodVars_none hV
  obtain ⟨c0,rfl,_⟩:=okWide_struct Tryz.underlying24 (hval 0 24 v0 rfl rfl)
  have k0:=h0
  have lt0:∀x∈p0,x.block<W.heap.size:=by obtain ⟨m,hm⟩:=k0;exact DataW.trod_lt m _ _ _ hm
  obtain ⟨x0,w0⟩:∃x,(cMod.cod).rd W.heap c0.toList x:=by
    obtain ⟨fuel,hf⟩:=h0
    exact (cMod.cod).open_ enc W fuel _ _ hf (fits_arg hsz (i:=0) rfl rfl)
  clear hA0 hval0
  refine Calls.mono (show Calls _ _ _ _ _ from trimMakes_rd w0) ?_
  rintro e W' ⟨v,rfl,rfl,hfr⟩
  have bel:=hfr.below
  exact ⟨_,rfl,_,_,_,[],_,[],hW',trodAll_mk1 (shut_bool Tryz.underlying4 _),(trodAll_cons_mk (Below.trod laidOut (by kernel_rfl) (of_decide_eq_true (by kernel_rfl)) k0 bel lt0) trodAll_mk0),rfl,bel.frame _,fun h=>by cases h⟩

theorem in1:(Rows.trimMakesRow.inPlace==Program.inPlace Tryz.pinned.checked.prog 8)=true:=by kernel_rfl
theorem in2:(Rows.trimMakesRow.unfollowed==Program.unfollowed Tryz.pinned.checked.prog 8)=true:=by kernel_rfl
theorem in3:(Rows.trimMakesRow.recurses==Program.recurses Tryz.pinned.checked.prog 8)=true:=by kernel_rfl
theorem in4:(Rows.trimMakesRow.named==Program.varsNamed Tryz.pinned.checked.prog 8)=true:=by kernel_rfl
theorem closed:joinedFacts Tryz.pinned.checked.prog 8 Tryz.f8 Rows.trimMakesSpec Rows.trimMakesRow=true:=by unfold joinedFacts;rw [in1,in2,in3,in4];kernel_rfl
theorem over:Rows.trimMakesRow.holds Tryz.pinned (OpenSpec.ofChange Rows.trimMakesSpec):=
  OpenClaim.holds_of_wide 8 Tryz.f8 rfl rfl rfl rfl rfl rfl rfl ⟨rfl,rfl,rfl,rfl,rfl⟩ rfl rfl rfl rfl rfl (by kernel_rfl) Tryz.func8 closed
    (of_decide_eq_true (by kernel_rfl)) (by unfold Func.isWrapper;first|(rw [if_pos (by decide+kernel)];kernel_rfl)|(rw [if_neg (by decide+kernel)];exact ⟨rfl,rfl⟩))
    (fun os started H enc _=>lifted os started H enc)

/-- ████ THE STATEMENT ████ -/
theorem proved:Rows.TrimMakesSaid:=over
#print axioms proved
end Go.Proofs.YteflkifmgnpbhaaGreat.trimMakes
