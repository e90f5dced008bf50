/- The Go function TwinRuns returns true at every input, and its arguments read as before; no further condition. (The frame follows the kit's proof-skeleton.) -/
import Derived.Test.YteflkifmgnpbhaaGreatRows
import Derived.Test.YteflkifmgnpbhaaGreatZ8
import Derived.WalkKit
import Derived.ProofKit
import Derived.OpenShut
import Derived.ShutString
import Derived.ChangeOld
import Derived.Below
import Derived.HandedShaped
namespace Go.Proofs.YteflkifmgnpbhaaGreat.twinRuns
open Go.ChangeShapes Go.WideShapes Go.ChangeAt Go.RowKit
open Go.ChangeMaps (open_string shut_string)
open Go.Lir (No)
set_option linter.unusedVariables false
theorem own:ownKnob Tryz.prog.godebug=none:=by kernel_rfl
theorem laidOut:laidOutB Tryz.prog=true:=by kernel_rfl

set_option maxRecDepth 100000 in
theorem lifted (os:Os) (started:os.Started) (H:Type) (enc:TypeId×Value→H):
    ReturnsInHanded {} Tryz.checked os 11 .any (Rows.twinRunsSpec.pre6 enc Tryz.prog Tryz.f11 Rows.twinRunsRow.domain false) (Rows.twinRunsSpec.post enc Tryz.prog Tryz.f11 false true false false):=by
  refine returnsInHanded_of_change_shaped (C:=Tryz.checked) own started (by kernel_rfl) Tryz.func11
    (ChangeSpec.witness6 (enc:=enc) (C:=Tryz.checked) false ⟨#[],#[.agg ⟨[.slice none 0 0]⟩, .slice none 0 0, .int .i64 0, .int .i64 0, .agg ⟨[.int .i64 0, .slice none 0 0, .slice none 0 0, .int .i64 0]⟩],[]⟩ 8 (by kernel_rfl) (by kernel_rfl) (by kernel_rfl) (by kernel_rfl)) ?_
  intro W base args ds gs before hval0 hW hcnd hsz _ _
  have hval:∀(j:Nat) t v,Tryz.f11.params[j]?=some t→args[j]?=some v→Value.okWide Tryz.prog W .any base t v:=hval0
  have hW':=hW
  obtain ⟨p,q,hA0,hV,rfl,hfz,hnd⟩:=hW
  have hA:DataW.TrodAll enc Tryz.prog W 0 (fun _=>true) true Tryz.f11.params.toList args.toList ds p:=hA0
  rw [Tryz.params11] at hA hval hsz
  obtain ⟨v0,vs0,d0,ds0,p0,q0,hargs,rfl,rfl,h0,r0⟩:=trodAll_cons hA
  obtain ⟨v1,vs1,d1,ds1,p1,q1,rfl,rfl,rfl,I,r1⟩:=trodAll_cons r0
  obtain ⟨v2,vs2,d2,ds2,p2,q2,rfl,rfl,rfl,M,r2⟩:=trodAll_cons r1
  obtain ⟨v3,vs3,d3,ds3,p3,q3,rfl,rfl,rfl,h3,r3⟩:=trodAll_cons r2
  obtain ⟨v4,vs4,d4,ds4,p4,q4,rfl,rfl,rfl,h4,r4⟩:=trodAll_cons r3
  obtain ⟨rfl,rfl,rfl⟩:=trodAll_nil r4
  obtain rfl:args=#[v0,v1,v2,v3,v4]:=by cases args;simp_all
  obtain ⟨rfl,rfl⟩:=trodVars_none hV
  obtain ⟨c0,rfl,_⟩:=okWide_struct Tryz.underlying24 (hval 0 24 v0 rfl rfl)
  have k0:=h0
  have lt0:∀x∈p0,x.block<W.heap.size:=by obtain ⟨m,hm⟩:=k0;exact DataW.trod_lt m _ _ _ hm
  obtain ⟨x0,w0⟩:∃x,(R9.cod).rd W.heap c0.toList x:=by
    obtain ⟨fuel,hf⟩:=h0
    exact (R9.cod).open_ enc W fuel _ _ hf (No hsz (i:=0) rfl rfl)
  obtain ⟨s1,j6,cap1,rfl⟩:=okWide_slice Tryz.underlying25 (hval 1 25 v1 rfl rfl)
  have k1:=I
  have lt1:∀x∈p1,x.block<W.heap.size:=by obtain ⟨m,hm⟩:=k1;exact DataW.trod_lt m _ _ _ hm
  obtain ⟨x1,E⟩:∃x,(N4.cod).rd W.heap [.slice s1 j6 cap1] x:=by
    obtain ⟨fuel,hf⟩:=I
    exact (N4.cod).open_ enc W fuel _ _ hf (No hsz (i:=1) rfl rfl)
  obtain ⟨a2,rfl,rfl,rfl,w2⟩:=open_int Tryz.underlying3 (hval 2 3 v2 rfl rfl) M
  obtain ⟨a3,rfl,rfl,rfl,w3⟩:=open_int Tryz.underlying3 (hval 3 3 v3 rfl rfl) h3
  obtain ⟨c4,rfl,_⟩:=okWide_struct Tryz.underlying33 (hval 4 33 v4 rfl rfl)
  have k4:=h4
  have lt4:∀x∈p4,x.block<W.heap.size:=by obtain ⟨m,hm⟩:=k4;exact DataW.trod_lt m _ _ _ hm
  obtain ⟨x4,w4⟩:∃x,(aZ).rd W.heap c4.toList x:=by
    obtain ⟨fuel,hf⟩:=h4
    exact (aZ).open_ enc W fuel _ _ hf (No hsz (i:=4) rfl rfl)
  clear hA0 hval0
  refine Calls.mono (show Calls _ _ _ _ _ from Re w0 E a2 a3 w4) ?_
  rintro e W' ⟨v,rfl,rfl,hfr⟩
  have bel:=hfr.below
  exact ⟨_,rfl,_,_,_,[],_,[],hW',trodAll_mk1 (shut_bool Tryz.underlying4 _),(trodAll_cons_mk (Below.trod laidOut (by kernel_rfl) (of_decide_eq_true (by kernel_rfl)) k0 bel lt0) (trodAll_cons_mk (Below.trod laidOut (by kernel_rfl) (of_decide_eq_true (by kernel_rfl)) k1 bel lt1) (trodAll_cons_mk (shut_int Tryz.underlying3 w2) (trodAll_cons_mk (shut_int Tryz.underlying3 w3) (trodAll_cons_mk (Below.trod laidOut (by kernel_rfl) (of_decide_eq_true (by kernel_rfl)) k4 bel lt4) trodAll_mk0))))),rfl,bel.frame _,fun h=>by cases h⟩

theorem in1:(Rows.twinRunsRow.inPlace==Program.inPlace Tryz.pinned.checked.prog 11)=true:=by kernel_rfl
theorem in2:(Rows.twinRunsRow.unfollowed==Program.unfollowed Tryz.pinned.checked.prog 11)=true:=by kernel_rfl
theorem in3:(Rows.twinRunsRow.recurses==Program.recurses Tryz.pinned.checked.prog 11)=true:=by kernel_rfl
theorem in4:(Rows.twinRunsRow.named==Program.varsNamed Tryz.pinned.checked.prog 11)=true:=by kernel_rfl
theorem closed:joinedFacts Tryz.pinned.checked.prog 11 Tryz.f11 Rows.twinRunsSpec Rows.twinRunsRow=true:=by unfold joinedFacts;rw [in1,in2,in3,in4];kernel_rfl
theorem over:Rows.twinRunsRow.holds Tryz.pinned (OpenSpec.ofChange Rows.twinRunsSpec):=
  OpenClaim.holds_of_wide 11 Tryz.f11 rfl rfl rfl rfl rfl rfl rfl ⟨rfl,rfl,rfl,rfl,rfl⟩ rfl rfl rfl rfl rfl (by kernel_rfl) Tryz.func11 closed
    (of_decide_eq_true (by kernel_rfl)) (by unfold Func.isWrapper;first|(rw [if_pos (by decide+kernel)];kernel_rfl)|(rw [if_neg (by decide+kernel)];exact ⟨rfl,rfl⟩))
    (fun os started H enc _=>lifted os started H enc)

/-- ████ THE STATEMENT ████ -/
theorem proved:Rows.TwinRunsSaid:=over
#print axioms proved
end Go.Proofs.YteflkifmgnpbhaaGreat.twinRuns
