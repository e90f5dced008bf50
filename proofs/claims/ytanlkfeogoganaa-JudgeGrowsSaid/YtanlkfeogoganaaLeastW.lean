/- The laws' own modules (contracts). -/
import Derived.Test.YtanlkfeogoganaaCheckW
import Derived.Test.YtanlkfeogoganaaLirEq2
import Derived.Test.YtanlkfeogoganaaOwnW
import Derived.Test.YtanlkfeogoganaaSameW
namespace Go.Proofs.Ytanlkfeogoganaa
open Go.Lir
set_option maxHeartbeats 1000000
attribute [local irreducible] LC.wp opsWp thenQ blockQ retQ resWp LO.wp callPost Calls
set_option linter.unusedSimpArgs false
set_option linter.unusedVariables false
variable {cx : Cx} {w : World} {L : List Res} {i : Nat}
def leastB : Block := ⟨0, [], [], ⟨3, 0, ⟨0, [], []⟩, ⟨0, [], []⟩, []⟩⟩
def leastM : Module := ⟨[⟨0, [], [], [leastB]⟩]⟩
abbrev leastCells (vc : Value) : List Value := [.int .i64 0, .slice none 0 0, vc, .int .i64 3, .int .i64 0, .int .i64 0, .slice none 0 0, .slice none 0 0, .int .i64 0, .slice none 0 0, .slice none 0 0, .slice none 0 0]
theorem least_c (hS : St cx w L) : Rets Try.prog Law_least [] w fun u w' => ∃ a b, u = .agg ⟨[.slice (some ⟨a, 0, none⟩) 1 1]⟩ ∧ St cx w' (blk a 31 [.int .i64 0, .slice none 0 0, .slice none 0 0, .slice (some ⟨b, 0, none⟩) 1 1] :: blk b 77 (leastCells (.slice none 0 0)) :: L) := by
  all_goals refine Law_least_in ?_
  all_goals (unfold Law_least_lc; refine s_seq ?_; refine s_ops ?_; refine s_allocB hS ?_; (intro p0 w1 hS); refine s_nil ?_; (repeat (first | refine s_then ?_ | refine s_blockN ?_)); refine s_seq ?_; refine s_ops ?_; refine s_build1 (cs := [_, _, _, _, _, _, _, _, _]) (by (conv => lhs; whnf); first | done | exact rfl) (by rfl) ?_; refine s_build1 (cs := [_, _, _, _, _, _, _, _, _, _, _, _]) (by (conv => lhs; whnf); first | done | exact rfl) (by rfl) ?_; refine s_buildS1 (cs := [_, _, _, _, _, _, _, _, _, _, _, _]) (by (conv => lhs; whnf); first | done | exact rfl) (by rfl) ?_; intro q1 w1 hb1 hf1 _ hk1; have hS := hS.laid hb1 hf1 hk1; refine s_build1 (cs := [_, _, _, _]) (by (conv => lhs; whnf); first | done | exact rfl) (by rfl) ?_; refine s_buildS1 (cs := [_, _, _, _]) (by (conv => lhs; whnf); first | done | exact rfl) (by rfl) ?_; intro q2 w1 hb1 hf1 _ hk1; have hS := hS.laid hb1 hf1 hk1; refine s_build1 (cs := [_]) (by (conv => lhs; whnf); first | done | exact rfl) (by rfl) ?_; ((refine s_storenF hS rfl rfl (by rfl) (NthP.nth (by repeat constructor)) (by rfl) (by (simp [oneC]; done)) ?_; intro w1 hS; simp only [List.set_cons_zero, List.set_cons_succ] at hS)))
  all_goals (refine s_nil ?_; (repeat (first | refine s_then ?_ | refine s_blockN ?_)); refine s_ret ?_; (repeat (first | refine s_retT ?_ | refine s_retB ?_)); refine q_retc (by (conv => lhs; whnf); first | done | exact rfl) (holds_blk (n := 1) (by kernel_rfl) (by kernel_rfl) (hS.blkAt (NthP.nth (by repeat constructor))) (by rfl) (by rfl)) ?_; ((exact ⟨_, rfl, q2, q1, rfl, (hS.subP (by (repeat constructor); first | done | fail))⟩)))
/-- Such a module, from now on only read. -/
theorem least_fz {a b : Nat} {code : List Ins} {vc : Value} (hk : insR.sl cx vc code) (hS : St cx w (blk a 31 [.int .i64 0, .slice none 0 0, .slice none 0 0, .slice (some ⟨b, 0, none⟩) 1 1] :: blk b 77 (leastCells vc) :: L)) :
    ∃ c', cx.Le c' ∧ St c' w L ∧ modR.at c' [.slice (some ⟨a, 0, none⟩) 1 1] ⟨[⟨0, [], [], [⟨0, [], code, ⟨3, 0, ⟨0, [], []⟩, ⟨0, [], []⟩, []⟩⟩]⟩]⟩ := by
  have n1 : ∀ c : Cx, intR.sl c (.slice none 0 0) [] := fun c => Rep.SR.nil _ _ _
  have n2 : ∀ c : Cx, tyR.sl c (.slice none 0 0) [] := fun c => Rep.SR.nil _ _ _
  obtain ⟨c1, hle1, hS, h1⟩ := St.freeze1 (r := blockR) (x := ⟨0, [], code, ⟨3, 0, ⟨0, [], []⟩, ⟨0, [], []⟩, []⟩⟩) hS.mv1 (blockR_mk (x := ⟨0, [], code, ⟨3, 0, ⟨0, [], []⟩, ⟨0, [], []⟩, []⟩⟩) (n2 _) hk (n1 _) (n1 _) (n1 _) (n1 _) (n1 _))
  obtain ⟨c2, hle2, hS, h2⟩ := St.freeze1 (r := funcR) (x := ⟨0, [], [], [⟨0, [], code, ⟨3, 0, ⟨0, [], []⟩, ⟨0, [], []⟩, []⟩⟩]⟩) hS ⟨_, _, _, rfl, n2 _, n2 _, h1⟩
  exact ⟨c2, hle1.trans hle2, hS, _, rfl, h2⟩
end Go.Proofs.Ytanlkfeogoganaa
