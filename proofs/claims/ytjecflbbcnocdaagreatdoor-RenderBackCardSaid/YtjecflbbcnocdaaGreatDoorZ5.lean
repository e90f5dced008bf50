/- Lemmas of the proof, part 5: what the functions of the program do (contracts), and what follows. -/
import Derived.Test.YtjecflbbcnocdaaGreatDoorZ2
import Derived.Test.YtjecflbbcnocdaaGreatDoorZ3
import Derived.Test.YtjecflbbcnocdaaGreatDoorZ4
import Derived.Lib.ParseIntBTie
namespace Go.Proofs.YtjecflbbcnocdaaGreatDoor
open Go.Lir
set_option maxHeartbeats 1000000
attribute [local irreducible] LC.wp Q3 Qt QA retQ Q1m LO.wp Qm Calls
set_option linter.unusedSimpArgs false
set_option linter.unusedVariables false
variable {cx : Cx} {w : World} {L : List Res}
/-- The parser: the tokens that are left, where the text ends. -/
@[reducible] def prs (pb : Nat) (v : Value) (e : Nat) : Res := blk pb 70 [v, .int .i64 (e : Int)]
@[reducible] def QmE (f : Flt) : Value := .iface 66 (.agg ⟨[.int .i64 f.1, .int .i64 f.2]⟩)
@[reducible] def tokC (t : Tok) : List Value := [.int .i64 t.at_, .string ⟨t.text.toArray⟩, .bool t.num.isSome, .int .i64 (t.num.getD 0)]
theorem is_c {pb e : Nat} {v : Value} {l : List Tok} {s : List UInt8} (hv : tokR.sl cx v l) (hS : St cx w (prs pb v e :: L)) :
    Rets Tryz.prog Q3Z [.pointer (some ⟨pb, 0, none⟩), .string ⟨s.toArray⟩] w fun u w' => u = .bool (isT s l) ∧ St cx w' (prs pb v e :: L) := by
  cases l with
  | nil =>
    all_goals refine Q2P ?_
    all_goals (unfold parse_parser_is_lc; refine Q0 ?_; refine Q1 ?_; refine zm ?_; refine zn ?_; refine Q0 ?_; refine Q1 ?_; refine zm ?_; refine Qh rfl ?_; refine Q2 rfl ?_; refine zl hS ?_; refine zL ?_; refine Qf2 rfl rfl (by simp) ?_; refine zm ?_; refine s_gn rfl rfl ?_; refine s_gn rfl rfl ?_; refine s_gn rfl rfl ?_; refine s_gn rfl rfl ?_; refine s_gn rfl rfl ?_; refine s_gn rfl rfl ?_; refine s_gn rfl rfl ?_; refine s_gn rfl rfl ?_; (first | (refine zpt ?_) | (refine zpf ?_)); refine zm ?_; refine s_gn rfl rfl ?_)
    all_goals (refine s_gn rfl rfl ?_; refine s_gn rfl rfl ?_; refine s_gn rfl rfl ?_; refine s_gn rfl rfl ?_; refine s_gn rfl rfl ?_; refine s_gn rfl rfl ?_; refine s_gn rfl rfl ?_; refine s_gn rfl rfl ?_; (first | (refine zpt ?_) | (refine zpf ?_)); refine zm ?_; refine zn ?_; refine zr ?_; refine zf ?_; refine ⟨_, rfl, ?_, hS.sp⟩; exact rfl; done)
  | cons t r =>
    obtain ⟨a, t2, m⟩ := t
    have hl0 : (0 : Int) < ((⟨a, t2, m⟩ :: r : List Tok).length : Int) := by simp
    cases m with
    | none =>
      show Rets _ _ _ _ fun u w' => u = .bool (decide (t2 = s)) ∧ _
      all_goals refine Q2P ?_
      all_goals (unfold parse_parser_is_lc; refine Q0 ?_; refine Q1 ?_; refine zm ?_; refine zn ?_; refine Q0 ?_; refine Q1 ?_; refine zm ?_; refine Qh rfl ?_; refine Q2 rfl ?_; refine zl hS ?_; refine zL ?_; refine Q9F rfl rfl hl0 ?_; refine zm ?_; (first | refine s_gn rfl rfl ?_ | (refine s_gy rfl ?_; refine zm ?_)); (first | refine s_gn rfl rfl ?_ | (refine s_gy rfl ?_; refine Qh rfl ?_)); (first | refine s_gn rfl rfl ?_ | (refine s_gy rfl ?_; refine Q2 rfl ?_)); (first | refine s_gn rfl rfl ?_ | (refine s_gy rfl ?_; refine zl hS ?_)))
      all_goals (first | refine s_gn rfl rfl ?_ | (refine s_gy rfl ?_; refine Q1O (m := 0) vw rfl hv rfl (by simp) ?_; intro b1 o1 cs1 x1 hat1 hx1 he1; cases hx1; obtain rfl := Q1z he1))
      all_goals ((first | refine s_gn rfl rfl ?_ | (refine s_gy rfl ?_; (first | refine Q2 rfl ?_ | refine Q1p rfl ?_))); (first | refine s_gn rfl rfl ?_ | (refine s_gy rfl ?_; (first | (refine zl hS ?_) | (refine zlk hS ?_) | (refine zlj hS ?_)))); (first | refine s_gn rfl rfl ?_ | (refine s_gy rfl ?_; refine Q2e rfl ?_)); refine zpt ?_; refine zm ?_; (first | refine s_gn rfl rfl ?_ | (refine s_gy rfl ?_; refine zm ?_)); (first | refine s_gn rfl rfl ?_ | (refine s_gy rfl ?_; refine Qh rfl ?_)); (first | refine s_gn rfl rfl ?_ | (refine s_gy rfl ?_; refine Q2 rfl ?_)); (first | refine s_gn rfl rfl ?_ | (refine s_gy rfl ?_; refine zl hS ?_)))
      all_goals (first | refine s_gn rfl rfl ?_ | (refine s_gy rfl ?_; refine Q1O (m := 0) vw rfl hv rfl (by simp) ?_; intro b1 o1 cs1 x1 hat1 hx1 he1; cases hx1; obtain rfl := Q1z he1))
      all_goals ((first | refine s_gn rfl rfl ?_ | (refine s_gy rfl ?_; (first | refine Q2 rfl ?_ | refine Q1p rfl ?_))); (first | refine s_gn rfl rfl ?_ | (refine s_gy rfl ?_; (first | (refine zl hS ?_) | (refine zlk hS ?_) | (refine zlj hS ?_)))); (first | refine s_gn rfl rfl ?_ | (refine s_gy rfl ?_; refine zm ?_)); (first | refine s_gn rfl rfl ?_ | (refine s_gy rfl ?_; refine Qng rfl rfl ?_)); refine zpt ?_; refine zm ?_; refine zn ?_; refine zr ?_; refine zf ?_; refine ⟨_, rfl, ?_, hS.sp⟩; exact rfl; done)
    | some n =>
      show Rets _ _ _ _ fun u w' => u = .bool false ∧ _
      all_goals refine Q2P ?_
      all_goals (unfold parse_parser_is_lc; refine Q0 ?_; refine Q1 ?_; refine zm ?_; refine zn ?_; refine Q0 ?_; refine Q1 ?_; refine zm ?_; refine Qh rfl ?_; refine Q2 rfl ?_; refine zl hS ?_; refine zL ?_; refine Q9F rfl rfl hl0 ?_; refine zm ?_; (first | refine s_gn rfl rfl ?_ | (refine s_gy rfl ?_; refine zm ?_)); (first | refine s_gn rfl rfl ?_ | (refine s_gy rfl ?_; refine Qh rfl ?_)); (first | refine s_gn rfl rfl ?_ | (refine s_gy rfl ?_; refine Q2 rfl ?_)); (first | refine s_gn rfl rfl ?_ | (refine s_gy rfl ?_; refine zl hS ?_)))
      all_goals (first | refine s_gn rfl rfl ?_ | (refine s_gy rfl ?_; refine Q1O (m := 0) vw rfl hv rfl (by simp) ?_; intro b1 o1 cs1 x1 hat1 hx1 he1; cases hx1; obtain rfl := Q1z he1))
      all_goals ((first | refine s_gn rfl rfl ?_ | (refine s_gy rfl ?_; (first | refine Q2 rfl ?_ | refine Q1p rfl ?_))); (first | refine s_gn rfl rfl ?_ | (refine s_gy rfl ?_; (first | (refine zl hS ?_) | (refine zlk hS ?_) | (refine zlj hS ?_)))); (first | refine s_gn rfl rfl ?_ | (refine s_gy rfl ?_; refine Q2e rfl ?_)); refine zpt ?_; refine zm ?_; refine s_gn rfl rfl ?_; refine s_gn rfl rfl ?_; refine s_gn rfl rfl ?_; refine s_gn rfl rfl ?_)
      all_goals (refine s_gn rfl rfl ?_)
      all_goals (refine s_gn rfl rfl ?_; refine s_gn rfl rfl ?_; refine s_gn rfl rfl ?_; refine s_gn rfl rfl ?_; (first | (refine zpt ?_) | (refine zpf ?_)); refine zm ?_; refine zn ?_; refine zr ?_; refine zf ?_; refine ⟨_, rfl, ?_, hS.sp⟩; exact rfl; done)
theorem QmB {pb e : Nat} {v : Value} {t : Tok} {r : List Tok} (hv : tokR.sl cx v (t :: r)) (hS : St cx w (prs pb v e :: L)) :
    Rets Tryz.prog Q1h [.pointer (some ⟨pb, 0, none⟩)] w fun u w' => u = .agg ⟨tokC t⟩ ∧ ∃ v', tokR.sl cx v' r ∧ St cx w' (prs pb v' e :: L) := by
  all_goals refine Q8i ?_
  all_goals (unfold parse_parser_next_lc; refine Q0 ?_; refine Q1 ?_; refine Qe hS ?_; intro p2 w1 hS; refine zn ?_; refine Q0 ?_; refine Q1 ?_; refine zm ?_; refine Qh rfl ?_; refine Q2 rfl ?_; refine zl hS ?_)
  all_goals (refine Q1O (m := 0) vw rfl hv rfl (by simp) ?_; intro b1 o1 cs1 x1 hat1 hx1 he1; cases hx1; obtain rfl := Q1z he1)
  all_goals ((first | (refine zv hS ?_) | (refine zvk hS ?_)); refine Qe hS ?_; intro p3 w1 hS; refine zsn hS ?_; intro w1 hS; have hS := hS.ns; refine zn ?_; refine Q0 ?_; refine Q1 ?_; refine zm ?_; refine zm ?_; refine Qh rfl ?_; refine Q2 rfl ?_; refine zl hS ?_; refine s_subL vw hv rfl rfl (h' := (t :: r).length) (l' := 1) rfl ⟨_, rfl⟩ (by omega) (by simp) ?_; intro v4 hs4; rw [List.take_length, show (t :: r).drop 1 = r from rfl] at hs4; have ho4 := Rep.SR.oneC hs4; refine Qh rfl ?_; refine Q2 rfl ?_; refine zst hS ?_; intro w1 hS; have hS := hS.ns; refine zn ?_; refine Q0 ?_; refine Q1 ?_; refine zv hS ?_; refine zsn hS ?_; intro w1 hS; have hS := hS.ns; refine zn ?_; refine zr ?_; refine Q3V vw (Qi (n := 4) (by kernel_rfl) (by kernel_rfl) (hS.blkAt fd) (by rfl) (by rfl)) ?_; exact ⟨_, rfl, rfl, v4, hs4, hS.sp⟩)
theorem Q6Q {pb e : Nat} {c : Int} {v : Value} {l : List Tok} (hv : tokR.sl cx v l) (hS : St cx w (prs pb v e :: L)) :
    Fins Tryz.prog Q23 [.pointer (some ⟨pb, 0, none⟩), .int .i64 c] w (fun _ _ => False) (fun u w' => u = QmE (Q43 e c l) ∧ St cx w' (prs pb v e :: L)) := by
  cases l with
  | nil =>
    unfold Fins
    all_goals refine Q3u ?_
    all_goals (unfold parse_parser_fail_lc; refine Q0 ?_; refine Q1 ?_; refine zm ?_; refine Qh rfl ?_; refine Q2 rfl ?_; refine zl hS ?_; refine zm ?_; refine zn ?_; refine Q0 ?_; refine Q0 ?_; refine Q1 ?_; refine zm ?_; refine Qh rfl ?_; refine Q2 rfl ?_; refine zl hS ?_; refine zL ?_; refine Qf2 rfl rfl (by simp) ?_; refine zn ?_)
    all_goals refine Q5 rfl ?_
    all_goals (refine Q0 ?_; refine Q1 ?_; refine zm ?_)
    all_goals (first | (refine QB ?_) | (refine QF ?_) | (refine Qf rfl rfl (fun hc => ?_) (fun hc => ?_)))
    all_goals (refine zn ?_)
    all_goals
      first
      | (refine Q6 rfl ?_ -- Q23 c1
         all_goals (refine Q1 ?_; refine zm ?_)
         all_goals refine zn ?_)
      | (refine Q5 rfl ?_ -- Q23 c1
         all_goals refine zsk ?_)
    all_goals (refine Q1 ?_; refine zm ?_; refine zm ?_; refine zb2 [_, _] ?_; refine zki ?_; refine QoF rfl ?_; (repeat (first | refine Qk ?_ | refine Ql ?_ | refine fun _ => ?_)); refine Qw ?_; first | exact .inr ⟨_, rfl, by unfold Q43; rw [if_pos (by omega)], hS.sp⟩ | exact .inr ⟨_, rfl, by unfold Q43; rw [if_neg (by omega)], hS.sp⟩)
  | cons t r =>
    unfold Fins
    all_goals refine Q3u ?_
    all_goals (unfold parse_parser_fail_lc; refine Q0 ?_; refine Q1 ?_; refine zm ?_; refine Qh rfl ?_; refine Q2 rfl ?_; refine zl hS ?_; refine zm ?_; refine zn ?_; refine Q0 ?_; refine Q0 ?_; refine Q1 ?_; refine zm ?_; refine Qh rfl ?_; refine Q2 rfl ?_; refine zl hS ?_; refine zL ?_; refine Q9F rfl rfl (by simp) ?_; refine zn ?_)
    all_goals refine Q6 rfl ?_
    all_goals (refine Q1 ?_; refine zm ?_; refine Qh rfl ?_; refine Q2 rfl ?_; refine zl hS ?_)
    all_goals (refine Q1O (m := 0) vw rfl hv rfl (by simp) ?_; intro b1 o1 cs1 x1 hat1 hx1 he1; cases hx1; obtain rfl := Q1z he1)
    all_goals ((first | refine Q2 rfl ?_ | refine Q1p rfl ?_); (first | (refine zl hS ?_) | (refine zlk hS ?_)); refine zm ?_; refine zn ?_; refine Q1 ?_; refine zm ?_; refine zm ?_; refine zb2 [_, _] ?_; refine zki ?_; refine QoF rfl ?_; (repeat (first | refine Qk ?_ | refine Ql ?_ | refine fun _ => ?_)); refine Qw ?_; exact .inr ⟨_, rfl, rfl, hS.sp⟩)
theorem Q9N {pb e : Nat} {v : Value} {t : Tok} {l : List Tok} (ht : l[0]? = some t) (hv : tokR.sl cx v l) (hS : St cx w (prs pb v e :: L)) :
    Rets Tryz.prog Q1h [.pointer (some ⟨pb, 0, none⟩)] w fun u w' => u = .agg ⟨tokC t⟩ ∧ ∃ v', tokR.sl cx v' l.tail ∧ St cx w' (prs pb v' e :: L) := by
  cases l with
  | nil => cases ht
  | cons x r => cases ht; exact QmB hv hS
theorem Qcv {s : List UInt8} {l : List Tok} (h : isT s l = true) : ∃ t, l[0]? = some t := by
  cases l with
  | nil => cases h
  | cons x r => exact ⟨x, rfl⟩
theorem Qok {e : Nat} {s : List UInt8} {l : List Tok} (h : isT s l = true) : want e s l = .ok ((), l.tail) := if_pos h
theorem want_f {e : Nat} {s : List UInt8} {l : List Tok} (h : isT s l = false) : want e s l = .error (Q43 e 4 l) := if_neg (by rw [h]; decide)
theorem Q1E {pb e : Nat} {v v2 : Value} {l : List Tok} {s : List UInt8} (hv : tokR.sl cx v l) (hS : St cx w (sl 9 1 v2 [[.string ⟨s.toArray⟩]] :: prs pb v e :: L)) :
    Fins Tryz.prog Q1A [.pointer (some ⟨pb, 0, none⟩), v2] w (fun u w' => u = .tuple #[] ∧ want e s l = .ok ((), l.tail) ∧ ∃ v', tokR.sl cx v' l.tail ∧ St cx w' (prs pb v' e :: L)) (fun u w' => ∃ f v', want e s l = .error f ∧ u = QmE f ∧ St cx w' (prs pb v' e :: L)) := by
  unfold Fins
  all_goals refine Q82 ?_
  all_goals (unfold parse_parser_want_lc; refine Q0 ?_; refine Q1 ?_; refine zm ?_; refine Qc0 hS vw fd (n := 1) rfl ?_; refine zm ?_; refine zn ?_; refine Qa ?_)
  refine zo [0, 6, 7] (fun A ρ' w' => ∃ (j : Nat) (v1 : Value) (l1 : List Tok), Has ρ' A ∧ Has ρ' [(8, .int .i64 j)] ∧ ((j = 0 ∧ l1 = l) ∨ (j = 1 ∧ l1 = l.tail ∧ want e s l = .ok ((), l.tail))) ∧ (tokR.sl cx v1 l1) ∧ St cx w' (sl 9 1 v2 [[.string ⟨s.toArray⟩]] :: prs pb v1 e :: L)) (fun ρ' _ => (1 - iv (ρ' 8)).toNat) ?_ ?_
  · exact ⟨0, v, l, zh, zh, .inl ⟨rfl, rfl⟩, hv, hS.sp⟩
  rintro ρ w1 ⟨j, v1, l1, hA, hρ, hj, hv1, hS⟩; obtain ⟨ρ, rfl⟩ := env2 hA hρ
  unfold Q3t
  all_goals (refine Q0 ?_; refine Q1 ?_; refine QG rfl rfl ?_; refine zn ?_; refine Q0 ?_)
  refine Qu rfl (fun hc => ?_) (fun hc => ?_)
  · skip
    all_goals (refine zsk ?_; refine Q0 ?_; refine Qa ?_; refine Q0 ?_)
    all_goals (rcases hj with ⟨hj0, hj1⟩ | ⟨hj0, _⟩; rotate_left; (exfalso; omega); subst hj0)
    all_goals (refine Q1 ?_; refine QoI (m := 0) hS vw rfl (i := 0) rfl (by show 0 < 1; omega) ?_; intro b2 o2 hel2; refine s_loadE hS hel2 rfl (i := 0) rfl rfl rfl rfl ?_; refine zm ?_; refine zn ?_; refine Q0 ?_; refine Q0 ?_; refine Q1 ?_; refine zm ?_; refine zm ?_)
    all_goals (rw [hj1] at hv1; have hS : St cx _ (prs pb v1 e :: sl 9 1 v2 [[.string ⟨s.toArray⟩]] :: L) := hS.sp; refine zR2 (c := is_c hv1 hS) (h := ?_); rintro u1 w1 ⟨rfl, hS⟩; cases hq : isT s l)
    all_goals (refine Q2e rfl ?_; refine zn ?_)
    all_goals
      first
      | (refine Q6 rfl ?_ -- Q1A c1
         all_goals (refine Q1 ?_; refine zm ?_; refine zE2 (c := Q6Q hv1 hS) (p := by rintro v9 w9 ⟨rfl, hS⟩; (repeat (first | refine Qk ?_ | refine Ql ?_ | refine fun _ => ?_)); refine Qw ?_; refine .inr ⟨_, rfl, ?_⟩; exact ⟨_, _, want_f hq, rfl, hS.sp⟩) (h := ?_); rintro v1 w1 h9; exact h9.elim)
         all_goals refine zn ?_)
      | (refine Q5 rfl ?_ -- Q1A c1
         all_goals refine zsk ?_)
    all_goals (refine Q1 ?_; refine zm ?_; obtain ⟨t9, ht9⟩ := Qcv hq; refine zR1 (c := Q9N ht9 hv1 hS) (h := ?_); rintro u1 w1 ⟨rfl, v9, hv9, hS⟩; refine zn ?_; refine Q1 ?_; refine zad ?_; refine zm ?_; refine zn ?_; exact ⟨⟨1, v9, l.tail, zh, zh, .inr ⟨rfl, rfl, Qok hq⟩, hv9, hS.sp⟩, Qz (by omega)⟩)
  · skip
    all_goals (refine zex ?_)
    all_goals (refine Q3W ?_; rcases hj with ⟨hj0, _⟩ | ⟨_, hj1, hj2⟩; (exfalso; omega); rw [hj1] at hv1; exact .inl ⟨_, rfl, rfl, hj2, v1, hv1, hS.sp⟩)
end Go.Proofs.YtjecflbbcnocdaaGreatDoor
namespace Go.Proofs.YtjecflbbcnocdaaGreatDoor
open Go.Lir
set_option maxHeartbeats 1000000
attribute [local irreducible] LC.wp Q3 Qt QA retQ Q1m LO.wp Qm Calls
set_option linter.unusedSimpArgs false
set_option linter.unusedVariables false
variable {cx : Cx} {w : World} {L : List Res}
theorem Qki {pb e : Nat} {v : Value} {l : List Tok} (hv : tokR.sl cx v l) (hS : St cx w (prs pb v e :: L)) :
    Fins Tryz.prog Q4K [.pointer (some ⟨pb, 0, none⟩)] w (fun u w' => ∃ n v', Qbc e l = .ok (n, l.tail) ∧ u = .int .i64 n ∧ tokR.sl cx v' l.tail ∧ St cx w' (prs pb v' e :: L)) (fun u w' => ∃ f v', Qbc e l = .error f ∧ u = QmE f ∧ St cx w' (prs pb v' e :: L)) := by
  cases l with
  | nil =>
    unfold Fins
    all_goals refine Q2g ?_
    all_goals (unfold parse_parser_long_lc; refine Q0 ?_; refine Q1 ?_; refine zm ?_; refine zn ?_; refine Q0 ?_; refine Q0 ?_; refine Q1 ?_; refine zm ?_; refine Qh rfl ?_; refine Q2 rfl ?_; refine zl hS ?_; refine zL ?_; refine Qmx rfl rfl (by simp) ?_; refine zm ?_; refine s_gn rfl rfl ?_; refine s_gn rfl rfl ?_; refine s_gn rfl rfl ?_; refine s_gn rfl rfl ?_; refine s_gn rfl rfl ?_; refine s_gn rfl rfl ?_; refine s_gn rfl rfl ?_; refine s_gn rfl rfl ?_; refine zpt ?_; refine zn ?_)
    all_goals refine Q6 rfl ?_
    all_goals (refine Q1 ?_; refine zm ?_)
    all_goals (refine zE2 (c := Q6Q hv hS) (p := by rintro v9 w9 ⟨rfl, hS⟩; (repeat (first | refine Qk ?_ | refine Ql ?_ | refine fun _ => ?_)); refine Qw ?_; refine .inr ⟨_, rfl, ?_⟩; exact ⟨_, _, rfl, rfl, hS.sp⟩) (h := fun _ _ h9 => by cases h9))
    all_goals (refine zn ?_; refine Q0 ?_; refine Q1 ?_; refine zm ?_; fail "no contract of Q1h"; refine QoJ rfl rfl ?_; refine zm ?_; refine zn ?_; refine zr ?_; refine zf ?_; trace_state; fail "no ret fits")
  | cons t r =>
    obtain ⟨a, t2, m⟩ := t
    cases m with
    | none =>
      unfold Fins
      all_goals refine Q2g ?_
      all_goals (unfold parse_parser_long_lc; refine Q0 ?_; refine Q1 ?_; refine zm ?_; refine zn ?_; refine Q0 ?_; refine Q0 ?_; refine Q1 ?_; refine zm ?_; refine Qh rfl ?_; refine Q2 rfl ?_; refine zl hS ?_; refine zL ?_; refine Qf3 rfl rfl (by simp; omega) ?_; refine zm ?_; (first | refine s_gn rfl rfl ?_ | (refine s_gy rfl ?_; refine zm ?_)); (first | refine s_gn rfl rfl ?_ | (refine s_gy rfl ?_; refine Qh rfl ?_)); (first | refine s_gn rfl rfl ?_ | (refine s_gy rfl ?_; refine Q2 rfl ?_)); (first | refine s_gn rfl rfl ?_ | (refine s_gy rfl ?_; refine zl hS ?_)))
      all_goals (first | refine s_gn rfl rfl ?_ | (refine s_gy rfl ?_; refine Q1O (m := 0) vw rfl hv rfl (by simp) ?_; intro b1 o1 cs1 x1 hat1 hx1 he1; cases hx1; obtain rfl := Q1z he1))
      all_goals ((first | refine s_gn rfl rfl ?_ | (refine s_gy rfl ?_; (first | refine Q2 rfl ?_ | refine Q1p rfl ?_))); (first | refine s_gn rfl rfl ?_ | (refine s_gy rfl ?_; (first | (refine zl hS ?_) | (refine zlk hS ?_) | (refine zlj hS ?_)))); (first | refine s_gn rfl rfl ?_ | (refine s_gy rfl ?_; refine Q2e rfl ?_)); (first | (refine zpt ?_) | (refine zpf ?_)); refine zn ?_)
      all_goals refine Q6 rfl ?_
      all_goals (refine Q1 ?_; refine zm ?_)
      all_goals (refine zE2 (c := Q6Q hv hS) (p := by rintro v9 w9 ⟨rfl, hS⟩; (repeat (first | refine Qk ?_ | refine Ql ?_ | refine fun _ => ?_)); refine Qw ?_; refine .inr ⟨_, rfl, ?_⟩; exact ⟨_, _, rfl, rfl, hS.sp⟩) (h := fun _ _ h9 => by cases h9))
      all_goals (refine zn ?_; refine Q0 ?_; refine Q1 ?_; refine zm ?_; fail "no contract of Q1h"; refine QoJ rfl rfl ?_; refine zm ?_; refine zn ?_; refine zr ?_; refine zf ?_; trace_state; fail "no ret fits")
    | some n =>
      unfold Fins
      all_goals refine Q2g ?_
      all_goals (unfold parse_parser_long_lc; refine Q0 ?_; refine Q1 ?_; refine zm ?_; refine zn ?_; refine Q0 ?_; refine Q0 ?_; refine Q1 ?_; refine zm ?_; refine Qh rfl ?_; refine Q2 rfl ?_; refine zl hS ?_; refine zL ?_; refine Qf3 rfl rfl (by simp; omega) ?_; refine zm ?_; (first | refine s_gn rfl rfl ?_ | (refine s_gy rfl ?_; refine zm ?_)); (first | refine s_gn rfl rfl ?_ | (refine s_gy rfl ?_; refine Qh rfl ?_)); (first | refine s_gn rfl rfl ?_ | (refine s_gy rfl ?_; refine Q2 rfl ?_)); (first | refine s_gn rfl rfl ?_ | (refine s_gy rfl ?_; refine zl hS ?_)))
      all_goals (first | refine s_gn rfl rfl ?_ | (refine s_gy rfl ?_; refine Q1O (m := 0) vw rfl hv rfl (by simp) ?_; intro b1 o1 cs1 x1 hat1 hx1 he1; cases hx1; obtain rfl := Q1z he1))
      all_goals ((first | refine s_gn rfl rfl ?_ | (refine s_gy rfl ?_; (first | refine Q2 rfl ?_ | refine Q1p rfl ?_))); (first | refine s_gn rfl rfl ?_ | (refine s_gy rfl ?_; (first | (refine zl hS ?_) | (refine zlk hS ?_) | (refine zlj hS ?_)))); (first | refine s_gn rfl rfl ?_ | (refine s_gy rfl ?_; refine Q2e rfl ?_)); (first | (refine zpt ?_) | (refine zpf ?_)); refine zn ?_)
      all_goals refine Q5 rfl ?_
      all_goals (refine zsk ?_; refine Q0 ?_; refine Q1 ?_; refine zm ?_; refine zR1 (c := QmB hv hS) (h := ?_); rintro u1 w1 ⟨rfl, v9, hv9, hS⟩; refine QoJ rfl rfl ?_; refine zm ?_; refine zn ?_; refine zr ?_; refine zf ?_; exact .inl ⟨_, rfl, n, v9, rfl, rfl, hv9, hS.sp⟩)
theorem Q1Y {pb e : Nat} {v : Value} {l : List Tok} (hv : tokR.sl cx v l) (hS : St cx w (prs pb v e :: L)) :
    Fins Tryz.prog Q1t [.pointer (some ⟨pb, 0, none⟩)] w (fun u w' => ∃ n v', pNum e l = .ok (n, l.tail) ∧ u = .int .i64 n ∧ tokR.sl cx v' l.tail ∧ St cx w' (prs pb v' e :: L)) (fun u w' => ∃ f v', pNum e l = .error f ∧ u = QmE f ∧ St cx w' (prs pb v' e :: L)) := by
  cases l with
  | nil =>
    unfold Fins
    all_goals refine Q2s ?_
    all_goals (unfold parse_parser_num_lc; refine Q0 ?_; refine Q1 ?_; refine zm ?_; refine zn ?_; refine Q0 ?_; refine Q0 ?_; refine Q1 ?_; refine zm ?_; refine Qh rfl ?_; refine Q2 rfl ?_; refine zl hS ?_; refine zL ?_; refine Qf2 rfl rfl (by simp) ?_; refine zm ?_; refine s_gn rfl rfl ?_; refine s_gn rfl rfl ?_; refine s_gn rfl rfl ?_; refine s_gn rfl rfl ?_; refine s_gn rfl rfl ?_; refine s_gn rfl rfl ?_; refine s_gn rfl rfl ?_; (first | (refine zpt ?_) | (refine zpf ?_)); refine zm ?_; refine s_gn rfl rfl ?_; refine s_gn rfl rfl ?_)
    all_goals (refine s_gn rfl rfl ?_; refine s_gn rfl rfl ?_; refine s_gn rfl rfl ?_; refine s_gn rfl rfl ?_; refine s_gn rfl rfl ?_)
    all_goals (refine s_gn rfl rfl ?_)
    all_goals (refine s_gn rfl rfl ?_; refine s_gn rfl rfl ?_; refine s_gn rfl rfl ?_; refine s_gn rfl rfl ?_; refine s_gn rfl rfl ?_; refine s_gn rfl rfl ?_; refine s_gn rfl rfl ?_; refine s_gn rfl rfl ?_)
    all_goals (refine s_gn rfl rfl ?_)
    all_goals (refine s_gn rfl rfl ?_; (first | (refine zpt ?_) | (refine zpf ?_)); refine zn ?_)
    all_goals refine Q5 rfl ?_
    all_goals (refine zsk ?_; refine Q0 ?_; refine Q1 ?_; refine zm ?_; refine zE1 (c := Qki hv hS) (p := by rintro v9 w9 ⟨f, v8, h1, rfl, hS⟩; (repeat (first | refine Qk ?_ | refine Ql ?_ | refine fun _ => ?_)); refine Qw ?_; refine .inr ⟨_, rfl, ?_⟩; exact ⟨_, _, h1, rfl, hS.sp⟩) (h := ?_); rintro v1 w1 ⟨n, v9, h1, rfl, hv9, hS⟩; refine zm ?_; refine zn ?_; refine zr ?_; refine zf ?_; exact .inl ⟨_, rfl, n, v9, h1, rfl, hv9, hS.sp⟩)
  | cons t r =>
    obtain ⟨a, t2, m⟩ := t
    cases m with
    | none =>
      unfold Fins
      all_goals refine Q2s ?_
      all_goals (unfold parse_parser_num_lc; refine Q0 ?_; refine Q1 ?_; refine zm ?_; refine zn ?_; refine Q0 ?_; refine Q0 ?_; refine Q1 ?_; refine zm ?_; refine Qh rfl ?_; refine Q2 rfl ?_; refine zl hS ?_; refine zL ?_; refine Q9F rfl rfl (by simp) ?_; refine zm ?_; (first | refine s_gn rfl rfl ?_ | (refine s_gy rfl ?_; refine zm ?_)); (first | refine s_gn rfl rfl ?_ | (refine s_gy rfl ?_; refine Qh rfl ?_)); (first | refine s_gn rfl rfl ?_ | (refine s_gy rfl ?_; refine Q2 rfl ?_)); (first | refine s_gn rfl rfl ?_ | (refine s_gy rfl ?_; refine zl hS ?_)))
      all_goals (first | refine s_gn rfl rfl ?_ | (refine s_gy rfl ?_; refine Q1O (m := 0) vw rfl hv rfl (by simp) ?_; intro b1 o1 cs1 x1 hat1 hx1 he1; cases hx1; obtain rfl := Q1z he1))
      all_goals ((first | refine s_gn rfl rfl ?_ | (refine s_gy rfl ?_; (first | refine Q2 rfl ?_ | refine Q1p rfl ?_))); (first | refine s_gn rfl rfl ?_ | (refine s_gy rfl ?_; (first | (refine zl hS ?_) | (refine zlk hS ?_) | (refine zlj hS ?_)))); refine zpt ?_; refine zm ?_; refine s_gn rfl rfl ?_; refine s_gn rfl rfl ?_; refine s_gn rfl rfl ?_; refine s_gn rfl rfl ?_)
      all_goals (refine s_gn rfl rfl ?_)
      all_goals (refine s_gn rfl rfl ?_; refine s_gn rfl rfl ?_)
      all_goals (refine s_gn rfl rfl ?_)
      all_goals (refine s_gn rfl rfl ?_; refine s_gn rfl rfl ?_; refine s_gn rfl rfl ?_; refine s_gn rfl rfl ?_; refine s_gn rfl rfl ?_)
      all_goals (refine s_gn rfl rfl ?_)
      all_goals (refine s_gn rfl rfl ?_; refine s_gn rfl rfl ?_)
      all_goals (refine s_gn rfl rfl ?_)
      all_goals (refine s_gn rfl rfl ?_; (first | (refine zpt ?_) | (refine zpf ?_)); refine zn ?_)
      all_goals refine Q5 rfl ?_
      all_goals (refine zsk ?_; refine Q0 ?_; refine Q1 ?_; refine zm ?_; refine zE1 (c := Qki hv hS) (p := by rintro v9 w9 ⟨f, v8, h1, rfl, hS⟩; (repeat (first | refine Qk ?_ | refine Ql ?_ | refine fun _ => ?_)); refine Qw ?_; refine .inr ⟨_, rfl, ?_⟩; exact ⟨_, _, h1, rfl, hS.sp⟩) (h := ?_); rintro v1 w1 ⟨n, v9, h1, rfl, hv9, hS⟩; refine zm ?_; refine zn ?_; refine zr ?_; refine zf ?_; exact .inl ⟨_, rfl, n, v9, h1, rfl, hv9, hS.sp⟩)
    | some n =>
      have hw : wideT (⟨a, t2, some n⟩ :: r) = decide (n < 0 ∨ 1000000 < n) := rfl
      unfold Fins pNum
      rw [hw]
      all_goals refine Q2s ?_
      all_goals (unfold parse_parser_num_lc; refine Q0 ?_; refine Q1 ?_; refine zm ?_; refine zn ?_; refine Q0 ?_; refine Q0 ?_; refine Q1 ?_; refine zm ?_; refine Qh rfl ?_; refine Q2 rfl ?_; refine zl hS ?_; refine zL ?_; refine Q9F rfl rfl (by simp) ?_; refine zm ?_; (first | refine s_gn rfl rfl ?_ | (refine s_gy rfl ?_; refine zm ?_)); (first | refine s_gn rfl rfl ?_ | (refine s_gy rfl ?_; refine Qh rfl ?_)); (first | refine s_gn rfl rfl ?_ | (refine s_gy rfl ?_; refine Q2 rfl ?_)); (first | refine s_gn rfl rfl ?_ | (refine s_gy rfl ?_; refine zl hS ?_)))
      all_goals (first | refine s_gn rfl rfl ?_ | (refine s_gy rfl ?_; refine Q1O (m := 0) vw rfl hv rfl (by simp) ?_; intro b1 o1 cs1 x1 hat1 hx1 he1; cases hx1; obtain rfl := Q1z he1))
      all_goals ((first | refine s_gn rfl rfl ?_ | (refine s_gy rfl ?_; (first | refine Q2 rfl ?_ | refine Q1p rfl ?_))); (first | refine s_gn rfl rfl ?_ | (refine s_gy rfl ?_; (first | (refine zl hS ?_) | (refine zlk hS ?_) | (refine zlj hS ?_)))); refine zpt ?_; refine zm ?_; (first | refine s_gn rfl rfl ?_ | (refine s_gy rfl ?_; refine zm ?_)); (first | refine s_gn rfl rfl ?_ | (refine s_gy rfl ?_; refine Qh rfl ?_)); (first | refine s_gn rfl rfl ?_ | (refine s_gy rfl ?_; refine Q2 rfl ?_)); (first | refine s_gn rfl rfl ?_ | (refine s_gy rfl ?_; refine zl hS ?_)))
      all_goals (first | refine s_gn rfl rfl ?_ | (refine s_gy rfl ?_; refine Q1O (m := 0) vw rfl hv rfl (by simp) ?_; intro b1 o1 cs1 x1 hat1 hx1 he1; cases hx1; obtain rfl := Q1z he1))
      all_goals ((first | refine s_gn rfl rfl ?_ | (refine s_gy rfl ?_; (first | refine Q2 rfl ?_ | refine Q1p rfl ?_))); (first | refine s_gn rfl rfl ?_ | (refine s_gy rfl ?_; (first | (refine zl hS ?_) | (refine zlk hS ?_) | (refine zlj hS ?_)))))
      all_goals (first | refine s_gn rfl rfl ?_ | (refine s_gy rfl ?_; refine Q1w (a := n) rfl rfl (fun hc => ?_) (fun hc => ?_)))
      all_goals ((first | refine s_gn rfl rfl ?_ | (refine s_gy rfl ?_; refine zm ?_)); (first | refine s_gn rfl rfl ?_ | (refine s_gy rfl ?_; refine zm ?_)); (first | refine s_gn rfl rfl ?_ | (refine s_gy rfl ?_; refine Qh rfl ?_)); (first | refine s_gn rfl rfl ?_ | (refine s_gy rfl ?_; refine Q2 rfl ?_)); (first | refine s_gn rfl rfl ?_ | (refine s_gy rfl ?_; refine zl hS ?_)))
      all_goals (first | refine s_gn rfl rfl ?_ | (refine s_gy rfl ?_; refine Q1O (m := 0) vw rfl hv rfl (by simp) ?_; intro b1 o1 cs1 x1 hat1 hx1 he1; cases hx1; obtain rfl := Q1z he1))
      all_goals ((first | refine s_gn rfl rfl ?_ | (refine s_gy rfl ?_; (first | refine Q2 rfl ?_ | refine Q1p rfl ?_))); (first | refine s_gn rfl rfl ?_ | (refine s_gy rfl ?_; (first | (refine zl hS ?_) | (refine zlk hS ?_) | (refine zlj hS ?_)))))
      all_goals (first | refine s_gn rfl rfl ?_ | (refine s_gy rfl ?_; refine Qr (a := n) rfl rfl (fun hc => ?_) (fun hc => ?_)))
      all_goals ((first | refine s_gn rfl rfl ?_ | (refine s_gy rfl ?_; (first | (refine zpt ?_) | (refine zpf ?_)))); refine zpt ?_; refine zn ?_)
      all_goals
        first
        | (refine Q6 rfl ?_ -- Q1t c0
           all_goals (refine Q1 ?_; refine zm ?_)
           all_goals (refine zE2 (c := Q6Q hv hS) (p := by rintro v9 w9 ⟨rfl, hS⟩; (repeat (first | refine Qk ?_ | refine Ql ?_ | refine fun _ => ?_)); refine Qw ?_; refine .inr ⟨_, rfl, ?_⟩; exact ⟨_, _, if_pos (decide_eq_true (by omega)), rfl, hS.sp⟩) (h := fun _ _ h9 => by cases h9))
           all_goals refine zn ?_)
        | (refine Q5 rfl ?_ -- Q1t c0
           all_goals refine zsk ?_)
      all_goals (refine Q0 ?_; refine Q1 ?_; refine zm ?_)
      all_goals (refine zE1 (c := Qki hv hS) (p := by rintro v9 w9 ⟨f, v8, h1, rfl, hS⟩; (repeat (first | refine Qk ?_ | refine Ql ?_ | refine fun _ => ?_)); refine Qw ?_; refine .inr ⟨_, rfl, ?_⟩; cases h1) (h := ?_); rintro v1 w1 ⟨n, v9, h1, rfl, hv9, hS⟩)
      all_goals (refine zm ?_; refine zn ?_; refine zr ?_; refine zf ?_)
      all_goals (exact .inl ⟨_, rfl, n, v9, (by rw [if_neg]; exact h1; rw [decide_eq_true_iff]; cases h1; omega), rfl, hv9, hS.sp⟩)
end Go.Proofs.YtjecflbbcnocdaaGreatDoor
namespace Go.Lir
section
variable {α : Type}
def Q2J (xs : List α) (X : PGot (List α)) : PGot (List α) := match X with
  | .ok (l, r) => .ok (xs ++ l, r)
  | .error e => .error e
theorem Qpi (X : PGot (List α)) : Q2J [] X = X := by
  unfold Q2J
  split <;> simp
variable {e n : Nat} {b cl : List UInt8} {f : List Tok → PGot α} {l l1 l2 l3 : List Tok} {xs : List α} {a : α} {g : Flt} {X : PGot (List α)}
theorem Qp4 (h : want e b l = .error g) : Q1X e b cl f l = .error g := by unfold Q1X; rw [h]; rfl
theorem Qp5 (h : want e b l = .ok ((), l1)) : Q1X e b cl f l = Q2J [] (pMany e cl f (101 - 0) 0 l1) := by unfold Q1X; rw [h, Qpi]; rfl
theorem QlP (hd : X = Q2J xs (pMany e cl f (101 - n) n l1)) (hn : n ≤ 100) (h : isT cl l1 = true) : X = .ok (xs, l1.tail) := by
  rw [hd, show 101 - n = (100 - n) + 1 by omega, pMany, if_pos h]; simp [Q2J]
theorem Qp1 (hd : X = Q2J xs (pMany e cl f (101 - n) n l1)) (hn : n ≤ 100) (h : isT cl l1 = false) (h0 : 0 < n) (hw : want e [44] l1 = .error g) : X = .error g := by
  rw [hd, show 101 - n = (100 - n) + 1 by omega, pMany, if_neg (by rw [h]; decide), if_neg (by omega), hw]; rfl
theorem Qp3 (hd : X = Q2J xs (pMany e cl f (101 - n) n l1)) (hn : n ≤ 100) (h : isT cl l1 = false) (hw : (if n = 0 then .ok ((), l1) else want e [44] l1) = .ok ((), l2)) (hf : f l2 = .error g) : X = .error g := by
  rw [hd, show 101 - n = (100 - n) + 1 by omega, pMany, if_neg (by rw [h]; decide), hw]
  simp only [Qd, hf]; rfl
theorem Qp2 (hd : X = Q2J xs (pMany e cl f (101 - n) n l1)) (hn : n ≤ 100) (h : isT cl l1 = false) (hw : (if n = 0 then .ok ((), l1) else want e [44] l1) = .ok ((), l2)) (hf : f l2 = .ok (a, l3)) : X = Q2J (xs ++ [a]) (pMany e cl f (101 - (n + 1)) (n + 1) l3) := by
  rw [hd, show 101 - n = (100 - n) + 1 by omega, pMany, if_neg (by rw [h]; decide), hw]
  simp only [Qd, hf]
  rw [show 101 - (n + 1) = 100 - n by omega]
  cases pMany e cl f (100 - n) (n + 1) l3 with
  | error e => rfl
  | ok p => obtain ⟨y, r⟩ := p; simp [Q2J]
theorem Qp0 (hd : X = Q2J xs (pMany e cl f (101 - n) n l1)) (hn : 100 < n) : X = .error (Q43 e 2 l1) := by
  rw [hd, show 101 - n = 0 by omega, pMany]; rfl
theorem Q9 (l : List Tok) : l.tail.length ≤ l.length := by simp
theorem isT_lt {s : List UInt8} {l : List Tok} (h : isT s l = true) : l.tail.length < l.length := by
  cases l with
  | nil => cases h
  | cons t r => simp
theorem Q57 {s : List UInt8} {l l2 : List Tok} (h : want e s l = .ok ((), l2)) : l2 = l.tail ∧ l2.length < l.length := by
  unfold want at h
  split at h
  · rename_i hq; cases h; exact ⟨rfl, isT_lt hq⟩
  · cases h
theorem Qpm {l l2 : List Tok} {n : Int} (h : Qbc e l = .ok (n, l2)) : l2 = l.tail ∧ l2.length < l.length := by
  cases l with
  | nil => cases h
  | cons t r =>
    obtain ⟨a, t2, m⟩ := t
    cases m with
    | none => cases h
    | some k => cases h; simp
theorem num_lt {l l2 : List Tok} {n : Int} (h : pNum e l = .ok (n, l2)) : l2 = l.tail ∧ l2.length < l.length := by
  unfold pNum at h
  split at h
  · cases h
  · exact Qpm h
end
end Go.Lir
namespace Go.Proofs.YtjecflbbcnocdaaGreatDoor
open Go.Lir
set_option maxHeartbeats 1000000
attribute [local irreducible] LC.wp Q3 Qt QA retQ Q1m LO.wp Qm Calls
set_option linter.unusedSimpArgs false
set_option linter.unusedVariables false
attribute [local irreducible] pMany Q1X Q2J pNum want isT
variable {cx : Cx} {w : World} {L : List Res}
/-- What a reader answers: a thing that its cells say, a list, or that it gives up. -/
def POk {α : Type} (r : Rep α) (tv : List Value → Value) (X : PGot α) (pb e n : Nat) (cx : Cx) (L : List Res) (u : Value) (w' : World) : Prop :=
  ∃ a l' v' c' ds, X = .ok (a, l') ∧ l'.length ≤ n ∧ cx.Le c' ∧ r.at c' ds a ∧ u = tv ds ∧ tokR.sl c' v' l' ∧ St c' w' (prs pb v' e :: L)
def POkS {α : Type} (r : Rep α) (X : PGot (List α)) (pb e n : Nat) (cx : Cx) (L : List Res) (u : Value) (w' : World) : Prop :=
  ∃ xs l' v' c', X = .ok (xs, l') ∧ l'.length ≤ n ∧ cx.Le c' ∧ r.sl c' u xs ∧ tokR.sl c' v' l' ∧ St c' w' (prs pb v' e :: L)
def PBad {α : Type} (X : PGot α) (pb e : Nat) (cx : Cx) (L : List Res) (u : Value) (w' : World) : Prop :=
  ∃ f v', X = .error f ∧ u = QmE f ∧ St cx w' (prs pb v' e :: L)
/-- A reader of one thing, whatever else lies about. -/
def PrC {α : Type} (r : Rep α) (tv : List Value → Value) (P : Program) (g : FuncId) (cap : List Value) (f : List Tok → PGot α) (pb e n0 : Nat) (cx : Cx) (L : List Res) : Prop :=
  ∀ (v1 : Value) (l1 : List Tok) (c1 : Cx) (w1 : World) (r0 : Res), cx.Le c1 → l1.length ≤ n0 → tokR.sl c1 v1 l1 → St c1 w1 (prs pb v1 e :: r0 :: L) → Fins P g cap w1 (POk r tv (f l1) pb e l1.length c1 (r0 :: L)) (PBad (f l1) pb e c1 (r0 :: L))
def pint1 (ds : List Value) : Value := ds.getD 0 undef
def Q5t (ds : List Value) : Value := .agg ⟨ds⟩
def slen (v : Value) : Nat := match v with
  | .slice _ n _ => n
  | _ => 0
theorem St.slen {c : Cx} {i T es : Nat} {v : Value} {css : List (List Value)} (hS : St c w L) (hi : nth L i = some (sl T es v css)) : slen v = css.length := by
  obtain ⟨F, hr, _⟩ := hS.step hi
  obtain ⟨a, n, rfl⟩ := Sl.shape hr
  rfl
theorem Q1G {b T : Nat} {s : List UInt8} (hS : St cx w (blk b T [.string ⟨s.toArray⟩] :: L)) : St cx w (sl T 1 (.slice (some ⟨b, 0, none⟩) 1 1) [[.string ⟨s.toArray⟩]] :: L) :=
  St.slOf hS rfl (by intro c hc; simp at hc; subst hc; rfl) rfl
theorem QmC {f : List Tok → PGot _} {pb e : Nat} {b cl : List UInt8} {v fv : Value} {g : FuncId} {cap : List Value} {l : List Tok} (hfv : FnV fv g cap) (hg : Q2E Tryz.prog g = true) (hone : PrC intR pint1 Tryz.prog g cap f pb e l.length cx L) (hv : tokR.sl cx v l) (hS : St cx w (prs pb v e :: L)) :
    Fins Tryz.prog Q1f [.pointer (some ⟨pb, 0, none⟩), .string ⟨b.toArray⟩, .string ⟨cl.toArray⟩, fv] w (POkS intR (Q1X e b cl f l) pb e l.length cx L) (PBad (Q1X e b cl f l) pb e cx L) := by
  unfold PrC at hone
  have hle := St.refl hS
  unfold Fins
  all_goals refine Qcp ?_
  all_goals (unfold parse_list_int_lc; refine Q0 ?_; refine Q1 ?_; refine zm ?_; refine zn ?_; refine Q0 ?_; refine Q1 ?_; refine zm ?_; refine zm ?_; refine zB1 hS [_] ?_; intro b1 w1 hS; have hS := Q1G hS; refine zE2 (c := Q1E hv hS) (p := by rintro v9 w9 ⟨f9, v8, hw1, rfl, hS⟩; (repeat (first | refine Qk ?_ | refine Ql ?_ | refine fun _ => ?_)); refine Qw ?_; refine .inr ⟨_, rfl, ?_⟩; exact ⟨_, _, Qp4 hw1, rfl, hS.sp⟩) (h := ?_); rintro v1 w1 ⟨rfl, hw1, v9, hv9, hS⟩; refine zn ?_; refine Q0 ?_; refine Q1 ?_; refine zm ?_; refine zn ?_; refine Q0 ?_; refine Qa ?_; have hS := St.nil (T := 3) (es := 1) hS; have hd0 := Qp5 (cl := cl) (f := f) hw1; have hlt := (Q57 hw1).2)
  refine zo [0, 2, 3] (fun A ρ' w' => ∃ (k0 : Cx) (n : Nat) (v1 : Value) (l1 : List Tok) (vl : Value) (co : List (List Value)) (xs : List _), Has ρ' A ∧ Has ρ' [(9, vl)] ∧ (cx.Le k0) ∧ (n ≤ 100) ∧ (xs.length = n) ∧ (l1.length ≤ l.length) ∧ (tokR.sl k0 v1 l1) ∧ (Rep.ls intR k0 co xs) ∧ (oneC vl = true) ∧ (Q1X e b cl f l = Q2J xs (pMany e cl f (101 - n) n l1)) ∧ St k0 w' (sl 3 1 vl co :: prs pb v1 e :: L)) (fun ρ' _ => 101 - slen (ρ' 9)) ?_ ?_
  · exact ⟨cx, 0, v9, l.tail, _, _, [], zh, zh, St.refl hS, (by omega), rfl, Q9 l, hv9, Rep.LR.nil _ _ _, rfl, hd0, hS.sp⟩
  rintro ρ w1 ⟨k0, n, v1, l1, vl, co, xs, hA, hρ, hle2, hn, hxl, hll, hv1, hlo, hvl, hd, hS⟩; obtain ⟨ρ, rfl⟩ := env2 hA hρ; have hL0 := hle2; (try have hle := hle.trans hle2)
  unfold Q4X
  all_goals (refine Q0 ?_; refine Q0 ?_; refine Q1 ?_; refine zm ?_; refine zm ?_)
  all_goals (have hsl := St.slen hS (i := 0) rfl; have hcl := hlo.1; have hS : St k0 _ (prs pb v1 e :: sl 3 1 vl co :: L) := hS.sp; refine zR2 (c := is_c hv1 hS) (h := ?_); rintro u1 w1 ⟨rfl, hS⟩; cases hq : isT cl l1)
  all_goals (refine Q2e rfl ?_; refine zn ?_)
  all_goals
    first
    | (refine Q6 rfl ?_ -- Q1f c0
       all_goals (refine zsk ?_; refine Qa ?_)
       refine zM [0, 2, 3, 9] (fun A ρ' w' => ∃ (v2 : Value) (l2 : List Tok), Has ρ' A ∧ Has ρ' [] ∧ ((if n = 0 then .ok ((), l1) else want e [44] l1) = .ok ((), l2)) ∧ (l2.length ≤ l1.length) ∧ (tokR.sl k0 v2 l2) ∧ St k0 w' (prs pb v2 e :: sl 3 1 vl co :: L)) ?_ ?_
       · skip
         all_goals (refine Q0 ?_; refine Q1 ?_; refine zm ?_; refine Qc0 hS vw (i := 1) rfl (n := n) (by omega) ?_)
         all_goals (first | (refine QW ?_) | (refine Q1g ?_) | (refine Qr rfl rfl (fun hc => ?_) (fun hc => ?_)))
         all_goals (refine zn ?_)
         all_goals
           first
           | (refine Q6 rfl ?_ -- Q1f c1
              all_goals (refine Q1 ?_; refine zm ?_; refine zB1 hS [_] ?_; intro b1 w1 hS; have hS := Q1G (s := [44]) hS; refine zE2 (c := Q1E hv1 hS) (p := by rintro v9 w9 ⟨f9, v8, hw2, rfl, hS⟩; (repeat (first | refine Qk ?_ | refine Ql ?_ | refine fun _ => ?_)); refine Qw ?_; refine .inr ⟨_, rfl, ?_⟩; exact ⟨_, _, Qp1 hd hn hq (by omega) hw2, rfl, St.weak hS.sp hL0⟩) (h := ?_); rintro v1 w1 ⟨rfl, hw2, v8, hv8, hS⟩)
              all_goals refine zn ?_)
           | (refine Q5 rfl ?_ -- Q1f c1
              all_goals refine zsk ?_)
         all_goals ((first | (exact ⟨v8, l1.tail, zh, zh, by rw [if_neg (by omega)]; exact hw2, Q9 l1, hv8, hS.sp⟩) | (exact ⟨v1, l1, zh, zh, if_pos (by omega), by omega, hv1, hS.sp⟩)))
       rintro ρ w1 ⟨v2, l2, hA, hρ, hw3, hl2, hv2, hS⟩; obtain ⟨ρ, rfl⟩ := env2 hA hρ
       all_goals (refine Q0 ?_; refine Q1 ?_; refine zm ?_; refine zm ?_)
       all_goals (refine QoK rfl hfv hg (hone v2 l2 k0 _ _ hL0 (by omega) hv2 hS) (by rintro v9 w9 ⟨f9, v8, he1, rfl, hS⟩; (repeat (first | refine Qk ?_ | refine Ql ?_ | refine fun _ => ?_)); refine Qw ?_; refine .inr ⟨_, rfl, ?_⟩; exact ⟨_, _, Qp3 hd hn hq hw3 he1, rfl, St.weak hS.sp hL0⟩) ?_; rintro v1 w1 ⟨a, l3, v3, c3, ds, he1, h4, hle2, hd1, rfl, hv3, hS⟩; (try have hle := hle.trans hle2); (try have hL0 := hL0.trans hle2); (try have hv1 := hv1.up hle2); (try have hlo := hlo.up hle2); have hd1' := hd1; unfold pint1; obtain rfl := Q7H hd1; have hd4 := Qp2 hd hn hq hw3 he1)
       all_goals (refine zB1 hS [_] ?_; intro b1 w1 hS; refine za el_T46 u_T46 hS ?_; intro vp1 w1 css1 hls1 hv1 hS; have hS := hS.ns; refine zm ?_; refine zn ?_; refine Q0 ?_; have hsl2 := St.slen hS (i := 2) rfl; have hcl2 := hls1.1; rw [List.length_append] at hcl2; have hc1 : [a].length = 1 := rfl; refine Q1 ?_; refine zm ?_; refine Qc0 hS vw (i := 2) rfl (n := n + 1) (by omega) ?_)
       all_goals (first | (refine QW ?_) | (refine Q1g ?_) | (refine Qr rfl rfl (fun hc => ?_) (fun hc => ?_)))
       all_goals (refine zn ?_)
       all_goals
         first
         | (refine Q6 rfl ?_ -- Q1f c2
            all_goals (refine Q1 ?_; refine zm ?_)
            all_goals (refine zE2 (c := Q6Q hv3 hS.drop) (p := by rintro v9 w9 ⟨rfl, hS⟩; (repeat (first | refine Qk ?_ | refine Ql ?_ | refine fun _ => ?_)); refine Qw ?_; refine .inr ⟨_, rfl, ?_⟩; exact ⟨_, _, Qp0 hd4 (by omega), rfl, St.weak hS.sp hL0⟩) (h := fun _ _ h9 => by cases h9))
            all_goals refine zn ?_)
         | (refine Q5 rfl ?_ -- Q1f c2
            all_goals refine zsk ?_)
       all_goals (exact ⟨⟨_, n + 1, v3, l3, _, _, xs ++ [a], zh, zh, hL0, by omega, by simp [hxl], by omega, hv3, hls1, by assumption, hd4, hS.sp⟩, (by show 101 - slen vp1 < 101 - slen vl; omega)⟩))
    | (refine Q5 rfl ?_ -- Q1f c0
       all_goals (refine zex ?_; refine Q0 ?_; refine Q1 ?_; refine zm ?_; refine zm ?_; refine zB1 hS [_] ?_; intro b1 w1 hS; have hS := Q1G hS)
       all_goals (refine zE2 (c := Q1E hv1 hS) (p := by rintro v9 w9 ⟨f9, v8, hw4, rfl, hS⟩; (repeat (first | refine Qk ?_ | refine Ql ?_ | refine fun _ => ?_)); refine Qw ?_; refine .inr ⟨_, rfl, ?_⟩; (exfalso; rw [Qok hq] at hw4; cases hw4)) (h := ?_); rintro v1 w1 ⟨rfl, hw4, v8, hv8, hS⟩)
       all_goals (refine zn ?_; refine Q0 ?_; refine Q1 ?_; refine zm ?_; refine zm ?_; refine zn ?_; refine zr ?_; refine zf ?_)
       all_goals (obtain ⟨c4, hle4, hS, hk4⟩ := St.freezeL (r := intR) (hS.out (r := sl 3 1 vl co) fd) hlo rfl (by omega); exact .inl ⟨_, rfl, xs, l1.tail, v8, c4, QlP hd hn hq, (by have := Q9 l1; omega), hL0.trans hle4, hk4, hv8.up hle4, hS.sp⟩))
theorem QiH {f : List Tok → PGot _} {pb e : Nat} {b cl : List UInt8} {v fv : Value} {g : FuncId} {cap : List Value} {l : List Tok} (hfv : FnV fv g cap) (hg : Q2E Tryz.prog g = true) (hone : PrC tyR Q5t Tryz.prog g cap f pb e l.length cx L) (hv : tokR.sl cx v l) (hS : St cx w (prs pb v e :: L)) :
    Fins Tryz.prog Qv [.pointer (some ⟨pb, 0, none⟩), .string ⟨b.toArray⟩, .string ⟨cl.toArray⟩, fv] w (POkS tyR (Q1X e b cl f l) pb e l.length cx L) (PBad (Q1X e b cl f l) pb e cx L) := by
  unfold PrC at hone
  have hle := St.refl hS
  unfold Fins
  all_goals refine Q6n ?_
  all_goals (unfold parse_list_api_Type_lc; refine Q0 ?_; refine Q1 ?_; refine zm ?_; refine zn ?_; refine Q0 ?_; refine Q1 ?_; refine zm ?_; refine zm ?_; refine zB1 hS [_] ?_; intro b1 w1 hS; have hS := Q1G hS; refine zE2 (c := Q1E hv hS) (p := by rintro v9 w9 ⟨f9, v8, hw1, rfl, hS⟩; (repeat (first | refine Qk ?_ | refine Ql ?_ | refine fun _ => ?_)); refine Qw ?_; refine .inr ⟨_, rfl, ?_⟩; exact ⟨_, _, Qp4 hw1, rfl, hS.sp⟩) (h := ?_); rintro v1 w1 ⟨rfl, hw1, v9, hv9, hS⟩; refine zn ?_; refine Q0 ?_; refine Q1 ?_; refine zm ?_; refine zn ?_; refine Q0 ?_; refine Qa ?_; have hS := St.nil (T := 91) (es := 3) hS; have hd0 := Qp5 (cl := cl) (f := f) hw1; have hlt := (Q57 hw1).2)
  refine zo [0, 2, 3] (fun A ρ' w' => ∃ (k0 : Cx) (n : Nat) (v1 : Value) (l1 : List Tok) (vl : Value) (co : List (List Value)) (xs : List _), Has ρ' A ∧ Has ρ' [(9, vl)] ∧ (cx.Le k0) ∧ (n ≤ 100) ∧ (xs.length = n) ∧ (l1.length ≤ l.length) ∧ (tokR.sl k0 v1 l1) ∧ (Rep.ls tyR k0 co xs) ∧ (oneC vl = true) ∧ (Q1X e b cl f l = Q2J xs (pMany e cl f (101 - n) n l1)) ∧ St k0 w' (sl 91 3 vl co :: prs pb v1 e :: L)) (fun ρ' _ => 101 - slen (ρ' 9)) ?_ ?_
  · exact ⟨cx, 0, v9, l.tail, _, _, [], zh, zh, St.refl hS, (by omega), rfl, Q9 l, hv9, Rep.LR.nil _ _ _, rfl, hd0, hS.sp⟩
  rintro ρ w1 ⟨k0, n, v1, l1, vl, co, xs, hA, hρ, hle2, hn, hxl, hll, hv1, hlo, hvl, hd, hS⟩; obtain ⟨ρ, rfl⟩ := env2 hA hρ; have hL0 := hle2; (try have hle := hle.trans hle2)
  unfold Q34
  all_goals (refine Q0 ?_; refine Q0 ?_; refine Q1 ?_; refine zm ?_; refine zm ?_)
  all_goals (have hsl := St.slen hS (i := 0) rfl; have hcl := hlo.1; have hS : St k0 _ (prs pb v1 e :: sl 91 3 vl co :: L) := hS.sp; refine zR2 (c := is_c hv1 hS) (h := ?_); rintro u1 w1 ⟨rfl, hS⟩; cases hq : isT cl l1)
  all_goals (refine Q2e rfl ?_; refine zn ?_)
  all_goals
    first
    | (refine Q6 rfl ?_ -- Qv c0
       all_goals (refine zsk ?_; refine Qa ?_)
       refine zM [0, 2, 3, 9] (fun A ρ' w' => ∃ (v2 : Value) (l2 : List Tok), Has ρ' A ∧ Has ρ' [] ∧ ((if n = 0 then .ok ((), l1) else want e [44] l1) = .ok ((), l2)) ∧ (l2.length ≤ l1.length) ∧ (tokR.sl k0 v2 l2) ∧ St k0 w' (prs pb v2 e :: sl 91 3 vl co :: L)) ?_ ?_
       · skip
         all_goals (refine Q0 ?_; refine Q1 ?_; refine zm ?_; refine Qc0 hS vw (i := 1) rfl (n := n) (by omega) ?_)
         all_goals (first | (refine QW ?_) | (refine Q1g ?_) | (refine Qr rfl rfl (fun hc => ?_) (fun hc => ?_)))
         all_goals (refine zn ?_)
         all_goals
           first
           | (refine Q6 rfl ?_ -- Qv c1
              all_goals (refine Q1 ?_; refine zm ?_; refine zB1 hS [_] ?_; intro b1 w1 hS; have hS := Q1G (s := [44]) hS; refine zE2 (c := Q1E hv1 hS) (p := by rintro v9 w9 ⟨f9, v8, hw2, rfl, hS⟩; (repeat (first | refine Qk ?_ | refine Ql ?_ | refine fun _ => ?_)); refine Qw ?_; refine .inr ⟨_, rfl, ?_⟩; exact ⟨_, _, Qp1 hd hn hq (by omega) hw2, rfl, St.weak hS.sp hL0⟩) (h := ?_); rintro v1 w1 ⟨rfl, hw2, v8, hv8, hS⟩)
              all_goals refine zn ?_)
           | (refine Q5 rfl ?_ -- Qv c1
              all_goals refine zsk ?_)
         all_goals ((first | (exact ⟨v8, l1.tail, zh, zh, by rw [if_neg (by omega)]; exact hw2, Q9 l1, hv8, hS.sp⟩) | (exact ⟨v1, l1, zh, zh, if_pos (by omega), by omega, hv1, hS.sp⟩)))
       rintro ρ w1 ⟨v2, l2, hA, hρ, hw3, hl2, hv2, hS⟩; obtain ⟨ρ, rfl⟩ := env2 hA hρ
       all_goals (refine Q0 ?_; refine Q1 ?_; refine zm ?_; refine zm ?_)
       all_goals (refine QoK rfl hfv hg (hone v2 l2 k0 _ _ hL0 (by omega) hv2 hS) (by rintro v9 w9 ⟨f9, v8, he1, rfl, hS⟩; (repeat (first | refine Qk ?_ | refine Ql ?_ | refine fun _ => ?_)); refine Qw ?_; refine .inr ⟨_, rfl, ?_⟩; exact ⟨_, _, Qp3 hd hn hq hw3 he1, rfl, St.weak hS.sp hL0⟩) ?_; rintro v1 w1 ⟨a, l3, v3, c3, ds, he1, h4, hle2, hd1, rfl, hv3, hS⟩; (try have hle := hle.trans hle2); (try have hL0 := hL0.trans hle2); (try have hv1 := hv1.up hle2); (try have hlo := hlo.up hle2); have hd1' := hd1; unfold Q5t; obtain ⟨vo, rfl, ho⟩ := QV hd1; have hd4 := Qp2 hd hn hq hw3 he1)
       all_goals (refine zB1 hS [_, _, _] ?_; intro b1 w1 hS; refine za el_T40 u_T40 hS ?_; intro vp1 w1 css1 hls1 hv1 hS; have hS := hS.ns; refine zm ?_; refine zn ?_; refine Q0 ?_; have hsl2 := St.slen hS (i := 2) rfl; have hcl2 := hls1.1; rw [List.length_append] at hcl2; have hc1 : [a].length = 1 := rfl; refine Q1 ?_; refine zm ?_; refine Qc0 hS vw (i := 2) rfl (n := n + 1) (by omega) ?_)
       all_goals (first | (refine QW ?_) | (refine Q1g ?_) | (refine Qr rfl rfl (fun hc => ?_) (fun hc => ?_)))
       all_goals (refine zn ?_)
       all_goals
         first
         | (refine Q6 rfl ?_ -- Qv c2
            all_goals (refine Q1 ?_; refine zm ?_)
            all_goals (refine zE2 (c := Q6Q hv3 hS.drop) (p := by rintro v9 w9 ⟨rfl, hS⟩; (repeat (first | refine Qk ?_ | refine Ql ?_ | refine fun _ => ?_)); refine Qw ?_; refine .inr ⟨_, rfl, ?_⟩; exact ⟨_, _, Qp0 hd4 (by omega), rfl, St.weak hS.sp hL0⟩) (h := fun _ _ h9 => by cases h9))
            all_goals refine zn ?_)
         | (refine Q5 rfl ?_ -- Qv c2
            all_goals refine zsk ?_)
       all_goals (exact ⟨⟨_, n + 1, v3, l3, _, _, xs ++ [a], zh, zh, hL0, by omega, by simp [hxl], by omega, hv3, hls1, by assumption, hd4, hS.sp⟩, (by show 101 - slen vp1 < 101 - slen vl; omega)⟩))
    | (refine Q5 rfl ?_ -- Qv c0
       all_goals (refine zex ?_; refine Q0 ?_; refine Q1 ?_; refine zm ?_; refine zm ?_; refine zB1 hS [_] ?_; intro b1 w1 hS; have hS := Q1G hS)
       all_goals (refine zE2 (c := Q1E hv1 hS) (p := by rintro v9 w9 ⟨f9, v8, hw4, rfl, hS⟩; (repeat (first | refine Qk ?_ | refine Ql ?_ | refine fun _ => ?_)); refine Qw ?_; refine .inr ⟨_, rfl, ?_⟩; (exfalso; rw [Qok hq] at hw4; cases hw4)) (h := ?_); rintro v1 w1 ⟨rfl, hw4, v8, hv8, hS⟩)
       all_goals (refine zn ?_; refine Q0 ?_; refine Q1 ?_; refine zm ?_; refine zm ?_; refine zn ?_; refine zr ?_; refine zf ?_)
       all_goals (obtain ⟨c4, hle4, hS, hk4⟩ := St.freezeL (r := tyR) (hS.out (r := sl 91 3 vl co) fd) hlo rfl (by omega); exact .inl ⟨_, rfl, xs, l1.tail, v8, c4, QlP hd hn hq, (by have := Q9 l1; omega), hL0.trans hle4, hk4, hv8.up hle4, hS.sp⟩))
end Go.Proofs.YtjecflbbcnocdaaGreatDoor
namespace Go.Lir
section
variable {e k n : Nat} {l l1 l2 l3 : List Tok} {m : Int} {f : Flt} {ts : List Ty}
theorem ty_0 : pTyp e 0 l = .error (Q43 e 19 l) := by rw [pTyp]
theorem ty_i (h : isT tInt l = true) : pTyp e (k + 1) l = .ok (.mk 1 0 [], l.tail) := by rw [pTyp, if_pos h]
theorem ty_h (h : isT tInt l = false) (h2 : isT Q3k l = true) (h3 : pNum e l.tail = .ok (m, l2)) : pTyp e (k + 1) l = .ok (.mk 2 m [], l2) := by
  rw [pTyp, if_neg (by rw [h]; decide), if_pos h2, h3]; rfl
theorem ty_he (h : isT tInt l = false) (h2 : isT Q3k l = true) (h3 : pNum e l.tail = .error f) : pTyp e (k + 1) l = .error f := by
  rw [pTyp, if_neg (by rw [h]; decide), if_pos h2, h3]; rfl
theorem ty_a (h : isT tInt l = false) (h1 : isT Q3k l = false) (h2 : isT Q9p l = true) (h3 : pNum e l.tail = .ok (m, l2)) : pTyp e (k + 1) l = .ok (.mk 4 m [], l2) := by
  rw [pTyp, if_neg (by rw [h]; decide), if_neg (by rw [h1]; decide), if_pos h2, h3]; rfl
theorem ty_ae (h : isT tInt l = false) (h1 : isT Q3k l = false) (h2 : isT Q9p l = true) (h3 : pNum e l.tail = .error f) : pTyp e (k + 1) l = .error f := by
  rw [pTyp, if_neg (by rw [h]; decide), if_neg (by rw [h1]; decide), if_pos h2, h3]; rfl
theorem ty_tup (h : isT tInt l = false) (h1 : isT Q3k l = false) (h2 : isT Q9p l = false) : pTyp e (k + 1) l = Qd (want e Q3s l) fun _ l => Qd (pNum e l) fun n l => Qd (Q1X e [40] [41] (pTyp e k) l) fun ts l => .ok (.mk 3 n ts, l) := by
  rw [pTyp, if_neg (by rw [h]; decide), if_neg (by rw [h1]; decide), if_neg (by rw [h2]; decide)]
theorem tup_w {X : PGot Ty} (hX : X = Qd (want e Q3s l) fun _ l => Qd (pNum e l) fun n l => Qd (Q1X e [40] [41] (pTyp e k) l) fun ts l => .ok (.mk 3 n ts, l)) (h : want e Q3s l = .error f) : X = .error f := by rw [hX, h]; rfl
theorem tup_n {X : PGot Ty} (hX : X = Qd (want e Q3s l) fun _ l => Qd (pNum e l) fun n l => Qd (Q1X e [40] [41] (pTyp e k) l) fun ts l => .ok (.mk 3 n ts, l)) (h : want e Q3s l = .ok ((), l1)) (h1 : pNum e l1 = .error f) : X = .error f := by rw [hX, h]; simp only [Qd, h1]
theorem tup_l {X : PGot Ty} (hX : X = Qd (want e Q3s l) fun _ l => Qd (pNum e l) fun n l => Qd (Q1X e [40] [41] (pTyp e k) l) fun ts l => .ok (.mk 3 n ts, l)) (h : want e Q3s l = .ok ((), l1)) (h1 : pNum e l1 = .ok (m, l2)) (h2 : Q1X e [40] [41] (pTyp e k) l2 = .error f) : X = .error f := by rw [hX, h]; simp only [Qd, h1, h2]
theorem tup_o {X : PGot Ty} (hX : X = Qd (want e Q3s l) fun _ l => Qd (pNum e l) fun n l => Qd (Q1X e [40] [41] (pTyp e k) l) fun ts l => .ok (.mk 3 n ts, l)) (h : want e Q3s l = .ok ((), l1)) (h1 : pNum e l1 = .ok (m, l2)) (h2 : Q1X e [40] [41] (pTyp e k) l2 = .ok (ts, l3)) : X = .ok (.mk 3 m ts, l3) := by rw [hX, h]; simp only [Qd, h1, h2]
end
end Go.Lir
namespace Go.Proofs.YtjecflbbcnocdaaGreatDoor
open Go.Lir
set_option maxHeartbeats 1000000
attribute [local irreducible] LC.wp Q3 Qt QA retQ Q1m LO.wp Qm Calls
set_option linter.unusedSimpArgs false
set_option linter.unusedVariables false
attribute [local irreducible] pMany Q1X Q2J pNum want isT pTyp
variable {cx : Cx} {w : World} {L : List Res}
theorem pone_num {pb e n0 : Nat} : PrC intR pint1 Tryz.prog Q1t [.pointer (some ⟨pb, 0, none⟩)] (pNum e) pb e n0 cx L := by
  intro v1 l1 c1 w1 r0 hle hn hv hS
  refine Fins.mono (Q1Y hv hS) ?_ ?_
  · rintro u w' ⟨n, v', h1, rfl, hv', hS⟩; exact ⟨n, l1.tail, v', c1, [.int .i64 n], h1, Q9 l1, St.refl hS, rfl, rfl, hv', hS⟩
  · rintro u w' ⟨f, v', h1, rfl, hS⟩; exact ⟨f, v', h1, rfl, hS⟩
theorem Qce {pb e : Nat} {b cl : List UInt8} {v : Value} {l : List Tok} (hv : tokR.sl cx v l) (hS : St cx w (prs pb v e :: L)) :
    Fins Tryz.prog Q4J [.pointer (some ⟨pb, 0, none⟩), .string ⟨b.toArray⟩, .string ⟨cl.toArray⟩] w (POkS intR (Q1X e b cl (pNum e) l) pb e l.length cx L) (PBad (Q1X e b cl (pNum e) l) pb e cx L) := by
  unfold Fins
  all_goals refine Q8c ?_
  all_goals (unfold parse_parser_nums_lc; refine Q0 ?_; refine Q1 ?_; refine zm ?_; refine zn ?_; refine Q0 ?_; refine Q1 ?_; refine zm ?_; refine zm ?_; refine zm ?_; refine zm ?_; refine s_mkb (u := [.pointer (some ⟨pb, 0, none⟩)]) rfl ?_; refine zE4 (c := QmC (cx := cx) ⟨[_], [], rfl, rfl⟩ (by kernel_rfl) pone_num hv hS) (p := by rintro v9 w9 hX; (repeat (first | refine Qk ?_ | refine Ql ?_ | refine fun _ => ?_)); refine Qw ?_; refine .inr ⟨_, rfl, ?_⟩; exact hX) (h := ?_); rintro v1 w1 hX; refine zm ?_; refine zn ?_; refine zr ?_; refine zf ?_; exact .inl ⟨_, rfl, hX⟩)
/-- What the reader of a type does where so many levels are left. -/
def TyC (pb e k : Nat) : Prop :=
  ∀ (cx : Cx) (w : World) (L : List Res) (d : Int) (v : Value) (l : List Tok), 0 ≤ d → d + k = 5 → tokR.sl cx v l → St cx w (prs pb v e :: L) →
    Fins Tryz.prog QI [.pointer (some ⟨pb, 0, none⟩), .int .i64 d] w (POk tyR Q5t (pTyp e k l) pb e l.length cx L) (PBad (pTyp e k l) pb e cx L)
theorem ptyp_z {pb e : Nat} : TyC pb e 0 := by
  intro cx w L d v l h0 hd hv hS
  unfold Fins
  all_goals refine Q3Y ?_
  all_goals (unfold parse_parser_typ_lc; refine Q0 ?_; refine Q1 ?_; refine zb hS ?_; intro p2 w1 hS; refine zb hS ?_; intro p3 w1 hS; refine Qe hS ?_; intro p4 w1 hS; refine zn ?_; refine Q0 ?_; refine Q0 ?_; refine Q1 ?_; refine zl hS ?_)
  all_goals (refine QW ?_)
  all_goals (refine zn ?_)
  all_goals refine Q6 rfl ?_
  all_goals (refine Q1 ?_; refine zl hS ?_)
  all_goals (refine zE2 (c := Q6Q hv (L := blk p4 91 [.int .i64 0, .int .i64 0, .slice none 0 0] :: blk p3 3 [.int .i64 d] :: blk p2 68 [.pointer (some ⟨pb, 0, none⟩)] :: L) hS.sp) (p := by rintro v9 w9 ⟨rfl, hS⟩; (repeat (first | refine Qk ?_ | refine Ql ?_ | refine fun _ => ?_)); refine Qw ?_; refine .inr ⟨_, rfl, ?_⟩; exact ⟨_, _, ty_0, rfl, hS.sp⟩) (h := fun _ _ h9 => by cases h9))
  all_goals (refine zn ?_; refine Q0 ?_; refine Qa ?_; refine Q0 ?_; refine Q1 ?_; refine zl hS ?_; fail "no contract of Q3Z"; refine zm ?_; refine zn ?_)
  all_goals
    first
    | (refine Q6 rfl ?_ -- QI c1
       all_goals (refine Q0 ?_; refine Q1 ?_; refine zl hS ?_; fail "no contract of Q1h"; refine zn ?_; refine Q0 ?_; refine Q1 ?_; refine zb1 [_, _, _] ?_; refine zsn hS ?_; intro w1 hS; have hS := hS.ns; refine zn ?_; refine zr ?_; refine Q3V vw (Qi (n := 3) (by kernel_rfl) (by kernel_rfl) (hS.blkAt fd) (by rfl) (by rfl)) ?_)
       all_goals (trace_state; fail "no ret fits"))
  all_goals (refine Q0 ?_; refine Q1 ?_; refine zl hS ?_; refine zB1 hS [_] ?_; intro b1 w1 hS; fail "no contract of Q1A"; refine zn ?_; refine Q0 ?_; refine Q1 ?_; refine zl hS ?_; fail "no contract of Q1t"; refine zb2 [_, _, _] ?_; refine Qe hS ?_; intro p5 w1 hS; refine zsn hS ?_; intro w1 hS; have hS := hS.ns; refine zn ?_; refine Q0 ?_; refine Q1 ?_; refine zl hS ?_; refine s_mkfn ?_; fail "no contract of Qv"; refine Q2 rfl ?_; refine zst hS ?_; intro w1 hS; have hS := hS.ns; refine zn ?_; refine Q0 ?_; refine Q1 ?_; refine zv hS ?_; refine zsn hS ?_; intro w1 hS; have hS := hS.ns; refine zn ?_; refine zr ?_; refine Q3V vw (Qi (n := 3) (by kernel_rfl) (by kernel_rfl) (hS.blkAt fd) (by rfl) (by rfl)) ?_; trace_state; fail "no ret fits")
theorem pone_ty {pb e p q k n0 : Nat} {d : Int} {M : List Res} (hrec : TyC pb e k) (h0 : 0 ≤ d) (hd : d + k = 4) (hM : ∀ {c : Cx} {w : World} {r0 : Res} {v : Value}, St c w (prs pb v e :: r0 :: M) → ∃ M', St c w (prs pb v e :: blk p 68 [.pointer (some ⟨pb, 0, none⟩)] :: blk q 3 [.int .i64 d] :: M') ∧ ∀ {c' : Cx} {w' : World} {v' : Value}, St c' w' (prs pb v' e :: blk p 68 [.pointer (some ⟨pb, 0, none⟩)] :: blk q 3 [.int .i64 d] :: M') → St c' w' (prs pb v' e :: r0 :: M)) :
    PrC tyR Q5t Tryz.prog Q2O [.pointer (some ⟨p, 0, none⟩), .pointer (some ⟨q, 0, none⟩)] (pTyp e k) pb e n0 cx M := by
  intro v1 l1 c1 w1 r0 hle hn hv hS
  obtain ⟨M', hS, hback⟩ := hM hS
  have hd4 : d ≤ 4 := by omega
  suffices h : Fins Tryz.prog Q2O [.pointer (some ⟨p, 0, none⟩), .pointer (some ⟨q, 0, none⟩)] w1 (POk tyR Q5t (pTyp e k l1) pb e l1.length c1 (blk p 68 [.pointer (some ⟨pb, 0, none⟩)] :: blk q 3 [.int .i64 d] :: M')) (PBad (pTyp e k l1) pb e c1 (blk p 68 [.pointer (some ⟨pb, 0, none⟩)] :: blk q 3 [.int .i64 d] :: M')) by
    refine Fins.mono h ?_ ?_
    · rintro u w' ⟨a, l', v', c', ds, g1, g2, g3, g4, g5, g6, hS⟩; exact ⟨a, l', v', c', ds, g1, g2, g3, g4, g5, g6, hback hS⟩
    · rintro u w' ⟨f, v', g1, g2, hS⟩; exact ⟨f, v', g1, g2, hback hS⟩
  unfold Fins
  all_goals refine Q6X ?_
  all_goals (unfold parse_parser_typ_1_lc; refine Q0 ?_; refine Q1 ?_; refine Qe hS ?_; intro p2 w1 hS; refine zn ?_; refine Q0 ?_; refine Q1 ?_; refine zl hS ?_; refine zl hS ?_; refine zad ?_; refine zE2 (c := hrec c1 _ _ (d + 1) v1 l1 (by omega) (by omega) hv (St.mv1 hS)) (p := by rintro u9 w9 ⟨f, v', g1, rfl, hS⟩; (repeat (first | refine Qk ?_ | refine Ql ?_ | refine fun _ => ?_)); refine Qw ?_; refine .inr ⟨_, rfl, ?_⟩; exact ⟨f, v', g1, rfl, hS.sp⟩) (h := ?_); rintro u1 w2 ⟨a, l', v', c', ds, g1, g2, hle2, g4, rfl, g6, hS⟩; obtain ⟨vo, rfl, ho⟩ := QV g4; have hoo := Rep.SR.oneC ho; unfold Q5t; refine zsn hS ?_; intro w1 hS; have hS := hS.ns; refine zn ?_; refine zr ?_; refine Q3V vw (Qi (n := 3) (by kernel_rfl) (by kernel_rfl) (hS.blkAt fd) (by rfl) (by rfl)) ?_; exact .inl ⟨_, rfl, a, l', v', c', _, g1, g2, hle2, g4, rfl, g6, hS.sp⟩)
theorem ptyp_s {pb e k : Nat} (hrec : TyC pb e k) : TyC pb e (k + 1) := by
  intro cx w L d v l h0 hd hv hS
  have hle := St.refl hS
  have hnil : tyR.sl cx (.slice none 0 0) [] := Rep.SR.nil _ _ _
  unfold Fins
  all_goals refine Q3Y ?_
  all_goals (unfold parse_parser_typ_lc; refine Q0 ?_; refine Q1 ?_; refine zb hS ?_; intro p2 w1 hS; refine zb hS ?_; intro p3 w1 hS; refine Qe hS ?_; intro p4 w1 hS; refine zn ?_; refine Q0 ?_; refine Q0 ?_; refine Q1 ?_; refine zl hS ?_)
  all_goals (first | (refine QW ?_) | (refine Q1g ?_))
  all_goals (refine zn ?_)
  all_goals refine Q5 rfl ?_
  all_goals (refine zsk ?_; refine Q0 ?_; refine Qa ?_; refine Q0 ?_; refine Q1 ?_; refine zl hS ?_)
  all_goals (have hS : St cx _ (prs pb v e :: blk p4 91 [.int .i64 0, .int .i64 0, .slice none 0 0] :: blk p3 3 [.int .i64 d] :: blk p2 68 [.pointer (some ⟨pb, 0, none⟩)] :: L) := hS.sp; refine zR2 (c := is_c (s := tInt) hv hS) (h := ?_); rintro u1 w1 ⟨rfl, hS⟩; cases hq1 : isT tInt l)
  all_goals (refine zm ?_; refine zn ?_)
  all_goals
    first
    | (refine Q6 rfl ?_ -- QI c1
       all_goals (refine Q0 ?_; refine Q1 ?_; refine zl hS ?_; obtain ⟨t9, ht9⟩ := Qcv hq1; refine zR1 (c := Q9N ht9 hv hS) (h := ?_); rintro u1 w1 ⟨rfl, v9, hv9, hS⟩; refine zn ?_; refine Q0 ?_; refine Q1 ?_; refine zb1 [_, _, _] ?_; refine zsn hS ?_; intro w1 hS; have hS := hS.ns; refine zn ?_; refine zr ?_; refine Q3V vw (Qi (n := 3) (by kernel_rfl) (by kernel_rfl) (hS.blkAt fd) (by rfl) (by rfl)) ?_)
       all_goals (exact .inl ⟨_, rfl, .mk 1 0 [], l.tail, v9, cx, _, ty_i hq1, Q9 l, hle, Q9n hnil, rfl, hv9, hS.sp⟩))
    | (refine Q5 rfl ?_ -- QI c1
       all_goals (refine Q0 ?_; refine Q1 ?_; refine zl hS ?_)
       all_goals (refine zR2 (c := is_c (s := Q3k) hv hS) (h := ?_); rintro u1 w1 ⟨rfl, hS⟩; cases hq2 : isT Q3k l)
       all_goals (refine zm ?_; refine zn ?_)
       all_goals
         first
         | (refine Q6 rfl ?_ -- QI c2
            all_goals (refine Q0 ?_; refine Q1 ?_; refine zl hS ?_; obtain ⟨t9, ht9⟩ := Qcv hq2; refine zR1 (c := Q9N ht9 hv hS) (h := ?_); rintro u1 w1 ⟨rfl, v9, hv9, hS⟩; refine zn ?_; refine Q0 ?_; refine Q1 ?_; refine zl hS ?_; refine zE1 (c := Q1Y hv9 hS) (p := by rintro u9 w9 ⟨f, v', g1, rfl, hS⟩; (repeat (first | refine Qk ?_ | refine Ql ?_ | refine fun _ => ?_)); refine Qw ?_; refine .inr ⟨_, rfl, ?_⟩; exact ⟨f, v', ty_he hq1 hq2 g1, rfl, hS.sp⟩) (h := ?_); rintro u1 w2 ⟨m, v8, g1, rfl, hv8, hS⟩; refine zb2 [_, _, _] ?_; refine zsn hS ?_; intro w1 hS; have hS := hS.ns; refine zn ?_; refine zr ?_; refine Q3V vw (Qi (n := 3) (by kernel_rfl) (by kernel_rfl) (hS.blkAt fd) (by rfl) (by rfl)) ?_)
            all_goals ((first | exact .inl ⟨_, rfl, .mk 1 0 [], l.tail, v9, cx, _, ty_i hq1, Q9 l, hle, Q9n hnil, rfl, hv9, hS.sp⟩ | exact .inl ⟨_, rfl, .mk 2 m [], l.tail.tail, v8, cx, _, ty_h hq1 hq2 g1, (by have := Q9 l; have := Q9 l.tail; omega), hle, Q9n hnil, rfl, hv8, hS.sp⟩)))
         | (refine Q5 rfl ?_ -- QI c2
            all_goals (refine Q0 ?_; refine Q1 ?_; refine zl hS ?_)
            all_goals (refine zR2 (c := is_c (s := Q9p) hv hS) (h := ?_); rintro u1 w1 ⟨rfl, hS⟩; cases hq3 : isT Q9p l)
            all_goals (refine zm ?_; refine zn ?_)
            all_goals
              first
              | (refine Q6 rfl ?_ -- QI c3
                 all_goals (refine Q0 ?_; refine Q1 ?_; refine zl hS ?_; obtain ⟨t9, ht9⟩ := Qcv hq3; refine zR1 (c := Q9N ht9 hv hS) (h := ?_); rintro u1 w1 ⟨rfl, v9, hv9, hS⟩; refine zn ?_; refine Q0 ?_; refine Q1 ?_; refine zl hS ?_; refine zE1 (c := Q1Y hv9 hS) (p := by rintro u9 w9 ⟨f, v', g1, rfl, hS⟩; (repeat (first | refine Qk ?_ | refine Ql ?_ | refine fun _ => ?_)); refine Qw ?_; refine .inr ⟨_, rfl, ?_⟩; exact ⟨f, v', ty_ae hq1 hq2 hq3 g1, rfl, hS.sp⟩) (h := ?_); rintro u1 w2 ⟨m, v8, g1, rfl, hv8, hS⟩; refine zb2 [_, _, _] ?_; refine zsn hS ?_; intro w1 hS; have hS := hS.ns; refine zn ?_; refine zr ?_; refine Q3V vw (Qi (n := 3) (by kernel_rfl) (by kernel_rfl) (hS.blkAt fd) (by rfl) (by rfl)) ?_)
                 all_goals ((first | exact .inl ⟨_, rfl, .mk 1 0 [], l.tail, v9, cx, _, ty_i hq1, Q9 l, hle, Q9n hnil, rfl, hv9, hS.sp⟩ | exact .inl ⟨_, rfl, .mk 2 m [], l.tail.tail, v8, cx, _, ty_h hq1 hq2 g1, (by have := Q9 l; have := Q9 l.tail; omega), hle, Q9n hnil, rfl, hv8, hS.sp⟩ | exact .inl ⟨_, rfl, .mk 4 m [], l.tail.tail, v8, cx, _, ty_a hq1 hq2 hq3 g1, (by have := Q9 l; have := Q9 l.tail; omega), hle, Q9n hnil, rfl, hv8, hS.sp⟩)))
              | (refine Q5 rfl ?_ -- QI c3
                 all_goals refine zsk ?_)))
  all_goals (refine Q0 ?_; have hX := ty_tup (e := e) (k := k) hq1 hq2 hq3; refine Q1 ?_; refine zl hS ?_; refine zB1 hS [_] ?_; intro b1 w1 hS; have hS := Q1G (s := Q3s) hS; refine zE2 (c := Q1E hv hS) (p := by rintro u9 w9 ⟨f9, v8, hw1, rfl, hS⟩; (repeat (first | refine Qk ?_ | refine Ql ?_ | refine fun _ => ?_)); refine Qw ?_; refine .inr ⟨_, rfl, ?_⟩; exact ⟨_, _, tup_w hX hw1, rfl, hS.sp⟩) (h := ?_); rintro u1 w2 ⟨rfl, hw1, v9, hv9, hS⟩; refine zn ?_; refine Q0 ?_; refine Q1 ?_; refine zl hS ?_; refine zE1 (c := Q1Y hv9 hS) (p := by rintro u9 w9 ⟨f, v', g1, rfl, hS⟩; (repeat (first | refine Qk ?_ | refine Ql ?_ | refine fun _ => ?_)); refine Qw ?_; refine .inr ⟨_, rfl, ?_⟩; exact ⟨f, v', tup_n hX hw1 g1, rfl, hS.sp⟩) (h := ?_); rintro u1 w2 ⟨m, v8, g1, rfl, hv8, hS⟩; refine zb2 [_, _, _] ?_; refine Qe hS ?_; intro p5 w1 hS; refine zsn hS ?_; intro w1 hS; have hS := hS.ns; refine zn ?_; refine Q0 ?_; refine Q1 ?_; refine zl hS ?_; refine Qmu (u := [.pointer (some ⟨p2, 0, none⟩), .pointer (some ⟨p3, 0, none⟩)]) rfl ?_)
  all_goals (have hS : St cx _ (prs pb v8 e :: blk p5 91 [.int .i64 3, .int .i64 m, .slice none 0 0] :: blk p4 91 [.int .i64 0, .int .i64 0, .slice none 0 0] :: blk p3 3 [.int .i64 d] :: blk p2 68 [.pointer (some ⟨pb, 0, none⟩)] :: L) := hS.sp; refine zE4 (c := QiH (cx := cx) ⟨[], [_, _], rfl, rfl⟩ (by kernel_rfl) (pone_ty hrec h0 (by omega) (fun hS => ⟨_, hS.sp, fun hS => hS.sp⟩)) hv8 hS) (p := by rintro u9 w9 ⟨f, v', g2, rfl, hS⟩; (repeat (first | refine Qk ?_ | refine Ql ?_ | refine fun _ => ?_)); refine Qw ?_; refine .inr ⟨_, rfl, ?_⟩; exact ⟨f, v', tup_l hX hw1 g1 g2, rfl, hS.sp⟩) (h := ?_); rintro u3 w3 ⟨xs, l3, v7, c3, g2, g3, hle3, hl3, hv7, hS⟩; have ho3 := Rep.SR.oneC hl3)
  all_goals (refine Q2 rfl ?_; refine zst hS ?_; intro w1 hS; have hS := hS.ns; refine zn ?_; refine Q0 ?_; refine Q1 ?_; refine zv hS ?_; refine zsn hS ?_; intro w1 hS; have hS := hS.ns; refine zn ?_; refine zr ?_; refine Q3V vw (Qi (n := 3) (by kernel_rfl) (by kernel_rfl) (hS.blkAt fd) (by rfl) (by rfl)) ?_; (first | exact .inl ⟨_, rfl, .mk 1 0 [], l.tail, v9, cx, _, ty_i hq1, Q9 l, hle, Q9n hnil, rfl, hv9, hS.sp⟩ | exact .inl ⟨_, rfl, .mk 2 m [], l.tail.tail, v8, cx, _, ty_h hq1 hq2 g1, (by have := Q9 l; have := Q9 l.tail; omega), hle, Q9n hnil, rfl, hv8, hS.sp⟩ | exact .inl ⟨_, rfl, .mk 4 m [], l.tail.tail, v8, cx, _, ty_a hq1 hq2 hq3 g1, (by have := Q9 l; have := Q9 l.tail; omega), hle, Q9n hnil, rfl, hv8, hS.sp⟩ | exact .inl ⟨_, rfl, .mk 3 m xs, l3, v7, c3, _, tup_o hX hw1 g1 g2, (by have := Q9 l; have := Q9 l.tail; omega), hle3, Q9n hl3, rfl, hv7, hS.sp⟩))
theorem ptyp_c {pb e : Nat} : ∀ k, TyC pb e k
  | 0 => ptyp_z
  | k + 1 => ptyp_s (ptyp_c k)
theorem pone_ty1 {pb e p n0 : Nat} : PrC tyR Q5t Tryz.prog Q2f [.pointer (some ⟨p, 0, none⟩)] (pTyp e 5) pb e n0 cx (blk p 68 [.pointer (some ⟨pb, 0, none⟩)] :: L) := by
  intro v1 l1 c1 w1 r0 hle hn hv hS
  suffices h : Fins Tryz.prog Q2f [.pointer (some ⟨p, 0, none⟩)] w1 (POk tyR Q5t (pTyp e 5 l1) pb e l1.length c1 (r0 :: blk p 68 [.pointer (some ⟨pb, 0, none⟩)] :: L)) (PBad (pTyp e 5 l1) pb e c1 (r0 :: blk p 68 [.pointer (some ⟨pb, 0, none⟩)] :: L)) from h
  unfold Fins
  all_goals refine Q5n ?_
  all_goals (unfold parse_parser_types_1_lc; refine Q0 ?_; refine Q1 ?_; refine Qe hS ?_; intro p1 w1 hS; refine zn ?_; refine Q0 ?_; refine Q1 ?_; refine zl hS ?_; refine zE2 (c := ptyp_c 5 c1 _ _ 0 v1 l1 (by omega) (by omega) hv (St.mv1 hS)) (p := by rintro u9 w9 ⟨f, v', g1, rfl, hS⟩; (repeat (first | refine Qk ?_ | refine Ql ?_ | refine fun _ => ?_)); refine Qw ?_; refine .inr ⟨_, rfl, ?_⟩; exact ⟨f, v', g1, rfl, hS.sp⟩) (h := ?_); rintro u1 w2 ⟨a, l', v', c', ds, g1, g2, hle2, g4, rfl, g6, hS⟩; obtain ⟨vo, rfl, ho⟩ := QV g4; have hoo := Rep.SR.oneC ho; unfold Q5t; refine zsn hS ?_; intro w1 hS; have hS := hS.ns; refine zn ?_; refine zr ?_; refine Q3V vw (Qi (n := 3) (by kernel_rfl) (by kernel_rfl) (hS.blkAt fd) (by rfl) (by rfl)) ?_; exact .inl ⟨_, rfl, a, l', v', c', _, g1, g2, hle2, g4, rfl, g6, hS.sp⟩)
theorem Qkh {pb e : Nat} {v : Value} {l : List Tok} (hv : tokR.sl cx v l) (hS : St cx w (prs pb v e :: L)) :
    Fins Tryz.prog Q4f [.pointer (some ⟨pb, 0, none⟩)] w (POkS tyR (Q4g e l) pb e l.length cx L) (PBad (Q4g e l) pb e cx L) := by
  unfold Fins Q4g
  all_goals refine Q6U ?_
  all_goals (unfold parse_parser_types_lc; refine Q0 ?_; refine Q1 ?_; refine zb hS ?_; intro p1 w1 hS; refine zm ?_; refine zn ?_; refine Q0 ?_; refine Q1 ?_; refine zl hS ?_; refine Qmu (u := [.pointer (some ⟨p1, 0, none⟩)]) rfl ?_; have hS : St cx _ (prs pb v e :: blk p1 68 [.pointer (some ⟨pb, 0, none⟩)] :: L) := hS.sp; refine zE4 (c := QiH (cx := cx) ⟨[], [_], rfl, rfl⟩ (by kernel_rfl) pone_ty1 hv hS) (p := by rintro u9 w9 ⟨f, v', g2, rfl, hS⟩; (repeat (first | refine Qk ?_ | refine Ql ?_ | refine fun _ => ?_)); refine Qw ?_; refine .inr ⟨_, rfl, ?_⟩; exact ⟨f, v', g2, rfl, hS.sp⟩) (h := ?_); rintro u3 w3 ⟨xs, l3, v7, c3, g2, g3, hle3, hl3, hv7, hS⟩; refine zm ?_; refine zn ?_; refine zr ?_; refine zf ?_; exact .inl ⟨_, rfl, xs, l3, v7, c3, g2, g3, hle3, hl3, hv7, hS.sp⟩)
end Go.Proofs.YtjecflbbcnocdaaGreatDoor
namespace Go.Lir
theorem idx_of {s : List UInt8} : ∀ {ws : List (List UInt8)} {i : Nat}, ws[i]? = some s → (∀ j, j < i → ws[j]? ≠ some s) → ws.idxOf s = i
  | x :: ws, 0, h, _ => by
    simp only [List.getElem?_cons_zero, Option.some.injEq] at h
    subst h; simp
  | x :: ws, i + 1, h, hn => by
    have hx : ¬ x = s := fun e => hn 0 (by omega) (by rw [e]; rfl)
    rw [List.idxOf_cons, show (x == s) = false by simp [hx]]
    have := idx_of (ws := ws) (i := i) (by simpa using h) fun j hj => by have := hn (j + 1) (by omega); simpa using this
    simp [this]
theorem idx_no {s : List UInt8} : ∀ {ws : List (List UInt8)}, (∀ j : Nat, j < ws.length → ws[j]? ≠ some s) → ws.idxOf s = ws.length
  | [], _ => rfl
  | x :: ws, h => by
    have hx : ¬ x = s := fun e => h 0 (by simp) (by rw [e]; rfl)
    rw [List.idxOf_cons, show (x == s) = false by simp [hx]]
    have := idx_no (ws := ws) fun j hj => by have := h (j + 1) (by simp; omega); simpa using this
    simp [this]
theorem find_y {s : List UInt8} {ws : List (List UInt8)} {i : Nat} (h : ws[i]? = some s) (hn : ∀ j, j < i → ws[j]? ≠ some s) : QhS ws s = i + 1 := by
  have hl := (List.getElem?_eq_some_iff.1 h).1
  unfold QhS; rw [idx_of h hn, if_pos hl]
theorem find_n {s : List UInt8} {ws : List (List UInt8)} (h : ∀ j : Nat, j < ws.length → ws[j]? ≠ some s) : QhS ws s = 0 := by
  unfold QhS; rw [idx_no h, if_neg (by omega)]
theorem Qog {ws : List (List UInt8)} {i : Nat} (h : i < ws.length) : ws[i]? = some (wordN ws ((i : Int) + 1)) := by
  unfold wordN
  rw [if_neg (by omega), List.getD_eq_getElem?_getD, show ((i : Int) + 1).toNat - 1 = i by omega, List.getElem?_eq_getElem h]; rfl
theorem headW_le {ws : List (List UInt8)} {l : List Tok} : Q9f ws l ≤ ws.length := by
  unfold Q9f
  split
  · omega
  · split
    · unfold QhS; split <;> omega
    · omega
section
variable {α β : Type} {X : PGot β} {A : PGot α} {f : α → List Tok → PGot β} {a : α} {l l1 : List Tok} {g : Flt} {e : Nat} {op : Int}
theorem Q1n (h : X = Qd A f) (hA : A = .error g) : X = .error g := by rw [h, hA]; rfl
theorem Q1q (h : X = Qd A f) (hA : A = .ok (a, l1)) : X = f a l1 := by rw [h, hA]; rfl
theorem pb_1 (h : op = 1) : Q4Z e op l = Qd (Qbc e l) fun n l => .ok (⟨op, 0, 0, 0, 0, n, [], []⟩, l) := by subst h; rfl
theorem pb_2 (h : op = 2) : Q4Z e op l = Qd (QfM e l) fun k l => Qd (pNum e l) fun a l => Qd (pNum e l) fun b l => .ok (⟨op, a, b, 0, k, 0, [], []⟩, l) := by subst h; rfl
theorem pb_4 (h : op = 4 ∨ op = 11 ∨ op = 13) : Q4Z e op l = Qd (pNum e l) fun a l => .ok (⟨op, a, 0, 0, 0, 0, [], []⟩, l) := by rcases h with h | h | h <;> subst h <;> rfl
theorem pb_5 (h : op = 5) : Q4Z e op l = Qd (pNum e l) fun a l => Qd (QhR e l) fun args l => .ok (⟨op, a, 0, 0, 0, 0, [], args⟩, l) := by subst h; rfl
theorem pb_6 (h : op = 6) : Q4Z e op l = Qd (pNum e l) fun a l => Qd (pNum e l) fun k l => .ok (⟨op, a, 0, 0, k, 0, [], []⟩, l) := by subst h; rfl
theorem pb_7 (h : op = 7) : Q4Z e op l = Qd (pNum e l) fun a l => Qd (pNum e l) fun k l => Qd (pNum e l) fun b l => .ok (⟨op, a, b, 0, k, 0, [], []⟩, l) := by subst h; rfl
theorem pb_8 (h : op = 8 ∨ op = 9) : Q4Z e op l = Qd (pNum e l) fun a l => Qd (pNum e l) fun b l => .ok (⟨op, a, b, 0, 0, 0, [], []⟩, l) := by rcases h with h | h <;> subst h <;> rfl
theorem pb_10 (h : op = 10) : Q4Z e op l = Qd (pNum e l) fun a l => Qd (pNum e l) fun b l => Qd (pNum e l) fun c l => .ok (⟨op, a, b, c, 0, 0, [], []⟩, l) := by subst h; rfl
theorem pb_14 (h : op = 14) : Q4Z e op l = Qd (pNum e l) fun k l => Qd (QnY e l) fun regs l => Qd (QhR e l) fun args l => .ok (⟨op, 0, 0, 0, k, 0, regs, args⟩, l) := by subst h; rfl
theorem pb_0 (h : op ≠ 1 ∧ op ≠ 2 ∧ op ≠ 4 ∧ op ≠ 11 ∧ op ≠ 13 ∧ op ≠ 5 ∧ op ≠ 6 ∧ op ≠ 7 ∧ op ≠ 8 ∧ op ≠ 9 ∧ op ≠ 10 ∧ op ≠ 14) : Q4Z e op l = .ok (⟨op, 0, 0, 0, 0, 0, [], []⟩, l) := by
  unfold Q4Z; rw [if_neg (by omega), if_neg (by omega), if_neg (by omega), if_neg (by omega), if_neg (by omega), if_neg (by omega), if_neg (by omega), if_neg (by omega), if_neg (by omega)]
theorem kind_e {n : Nat} (h : Q9f kindWords l = n) (h0 : (n : Int) = 0) : QfM e l = .error (Q43 e 4 l) := by unfold QfM; rw [h, if_pos (by omega)]
theorem kind_o {n : Nat} (h : Q9f kindWords l = n) (h0 : ¬ (n : Int) = 0) : QfM e l = .ok ((n : Int), l.tail) := by unfold QfM; rw [h, if_neg (by omega)]
theorem head_get {ws : List (List UInt8)} {n : Nat} (h : Q9f ws l = n) (h0 : ¬ (n : Int) = 0) : ∃ t, l[0]? = some t := by
  cases l with
  | nil => exact absurd h.symm (fun h => h0 (by rw [h]; rfl))
  | cons t r => exact ⟨t, rfl⟩
theorem Qev (h : Q9f opWords l = 0) : pIns e l = .ok (none, l) := by unfold pIns; rw [if_pos h]
theorem Q2D {n : Nat} (h : Q9f opWords l = n) (h0 : ¬ (n : Int) = 0) (hb : Q4Z e n l.tail = .error g) : pIns e l = .error g := by unfold pIns; rw [h, if_neg (by omega), hb]; rfl
theorem ins_we {n : Nat} {x : Ins} (h : Q9f opWords l = n) (h0 : ¬ (n : Int) = 0) (hb : Q4Z e n l.tail = .ok (x, l1)) (hw : want e [59] l1 = .error g) : pIns e l = .error g := by unfold pIns; rw [h, if_neg (by omega), hb]; simp only [Qd, hw]
theorem ins_o {n : Nat} {x : Ins} (h : Q9f opWords l = n) (h0 : ¬ (n : Int) = 0) (hb : Q4Z e n l.tail = .ok (x, l1)) (hw : want e [59] l1 = .ok ((), l1.tail)) : pIns e l = .ok (some x, l1.tail) := by unfold pIns; rw [h, if_neg (by omega), hb]; simp only [Qd, hw]
end
end Go.Lir
namespace Go.Proofs.YtjecflbbcnocdaaGreatDoor
open Go.Lir
set_option maxHeartbeats 1000000
attribute [local irreducible] LC.wp Q3 Qt QA retQ Q1m LO.wp Qm Calls
set_option linter.unusedSimpArgs false
set_option linter.unusedVariables false
attribute [local irreducible] pMany Q1X Q2J pNum want isT pTyp Q4Z QfM Qbc wordN
variable {cx : Cx} {w : World} {L : List Res}
theorem find_c {ws : List (List UInt8)} {g : FuncId} {s : List UInt8} {m : Int} (hm : m = ws.length) (hws : ws.length ≤ 100) (hg : Q2E Tryz.prog g = true) (hof : ∀ {cx : Cx} {w : World} {L : List Res} (k : Int), St cx w L → Rets Tryz.prog g [.int .i64 k] w fun u w' => u = strV (wordN ws k) ∧ St cx w' L) (hS : St cx w L) :
    Rets Tryz.prog Q7F [.string ⟨s.toArray⟩, .int .i64 m, .func (.func g) #[] #[]] w fun u w' => u = .int .i64 (QhS ws s) ∧ St cx w' L := by
  subst hm
  all_goals refine Qkq ?_
  all_goals (unfold parse_find_lc; refine Q0 ?_; refine Q1 ?_; refine zm ?_; refine zn ?_; refine Q0 ?_; refine Q0 ?_; refine Q1 ?_; refine zm ?_; refine zn ?_; refine Qa ?_)
  refine zoL hS [0, 1, 2] (fun A LL ρ' w' => ∃ (i : Nat), Has ρ' A ∧ Has ρ' [(7, .int .i64 ((i : Int) + 1))] ∧ (i ≤ ws.length) ∧ (∀ j, j < i → ws[j]? ≠ some s) ∧ St cx w' (LL)) (fun ρ' _ => ((ws.length + 1) - iv (ρ' 7)).toNat) ?_ ?_
  · exact ⟨0, zh, zh, (by omega), fun j hj => by omega, hS.sp⟩
  rintro ρ w1 ⟨i, hA, hρ, hi, hno, hS⟩; obtain ⟨ρ, rfl⟩ := env2 hA hρ
  unfold Qbb
  all_goals (refine Q0 ?_; refine Q0 ?_; refine Q1 ?_; refine zm ?_; refine zm ?_; refine QjD rfl rfl ?_; refine zn ?_)
  refine Qu rfl (fun hc => ?_) (fun hc => ?_)
  · skip
    all_goals (refine zsk ?_; refine Q0 ?_; refine Qa ?_; refine Q0 ?_; refine Q1 ?_; refine zm ?_; refine zm ?_; refine QoL rfl hg rfl (hof _ hS) ?_; rintro v1 w1 ⟨rfl, hS⟩; refine zm ?_)
    all_goals (refine Qng rfl rfl ?_; have hwn := Qog (ws := ws) (i := i) (by omega); cases hq : decide (wordN ws ((i : Int) + 1) = s))
    all_goals (refine zn ?_)
    all_goals
      first
      | (refine Q6 rfl ?_ -- Q7F c1
         all_goals (refine Q0 ?_; refine Q1 ?_; refine zm ?_; refine zm ?_; refine zn ?_; refine zr ?_; refine zf ?_)
         all_goals (exact ⟨_, rfl, (by rw [find_y (i := i) (by rw [hwn, of_decide_eq_true hq]) hno]; rfl), hS.sp⟩))
      | (refine Q5 rfl ?_ -- Q7F c1
         all_goals refine zsk ?_)
    all_goals (refine Q1 ?_; refine zm ?_; refine zad ?_; refine zm ?_; refine zn ?_)
    all_goals (exact ⟨⟨i + 1, zh, zh, (by omega), fun j hj => (by rcases (show j < i ∨ j = i by omega) with h9 | h9; exact hno j h9; rw [h9, hwn]; intro h; exact of_decide_eq_false hq (Option.some.inj h)), hS.sp⟩, Qz (by omega)⟩)
  · skip
    all_goals (refine zex ?_; refine Q0 ?_; refine Q1 ?_; refine zm ?_; refine zn ?_; refine zr ?_; refine zf ?_; (first | exact ⟨_, rfl, (by rw [find_y (i := i) (by rw [hwn, of_decide_eq_true hq]) hno]; rfl), hS.sp⟩ | exact ⟨_, rfl, (by rw [find_n (fun j hj => hno j (by omega))]; rfl), hS.sp⟩))
end Go.Proofs.YtjecflbbcnocdaaGreatDoor
namespace Go.Proofs.YtjecflbbcnocdaaGreatDoor
open Go.Lir
set_option maxHeartbeats 1000000
attribute [local irreducible] LC.wp Q3 Qt QA retQ Q1m LO.wp Qm Calls
set_option linter.unusedSimpArgs false
set_option linter.unusedVariables false
attribute [local irreducible] pMany Q1X Q2J pNum want isT pTyp Q4Z QfM Qbc wordN QhS pIns
variable {cx : Cx} {w : World} {L : List Res}
/-- What the reading of an instruction gives back. -/
def InsS (pb e : Nat) (v : Value) (l : List Tok) (cx : Cx) (L : List Res) (u : Value) (w' : World) : Prop :=
  (pIns e l = .ok (none, l) ∧ u = .tuple #[.agg ⟨[.int .i64 0, .int .i64 0, .int .i64 0, .int .i64 0, .int .i64 0, .int .i64 0, .slice none 0 0, .slice none 0 0]⟩, .bool false] ∧ St cx w' (prs pb v e :: L)) ∨
  (∃ x l' v' c' ds, pIns e l = .ok (some x, l') ∧ l'.length < l.length ∧ cx.Le c' ∧ insR.at c' ds x ∧ u = .tuple #[.agg ⟨ds⟩, .bool true] ∧ tokR.sl c' v' l' ∧ St c' w' (prs pb v' e :: L))
theorem len_cons {t : Tok} {r : List Tok} : ((t :: r : List Tok).length : Int) > 0 := by simp
theorem len_nil : ¬ ((([] : List Tok).length : Int) > 0) := by simp
theorem prins_n {pb e : Nat} {v : Value} (hv : tokR.sl cx v []) (hS : St cx w (prs pb v e :: L)) :
    Fins Tryz.prog Q8 [.pointer (some ⟨pb, 0, none⟩)] w (InsS pb e v [] cx L) (PBad (pIns e []) pb e cx L) := by
  unfold Fins InsS
  all_goals refine Q2t ?_
  all_goals (unfold parse_parser_ins_lc; refine Q0 ?_; refine Q1 ?_; refine Qe hS ?_; intro p2 w1 hS; refine zm ?_; refine zn ?_; refine Q0 ?_; refine Q0 ?_; refine Q1 ?_; refine zm ?_; refine Qh rfl ?_; refine Q2 rfl ?_; refine zl hS ?_; refine zL ?_; refine Qmx rfl rfl (by simp) ?_; refine zm ?_; refine s_gn rfl rfl ?_; refine s_gn rfl rfl ?_; refine s_gn rfl rfl ?_; refine s_gn rfl rfl ?_; refine s_gn rfl rfl ?_; refine s_gn rfl rfl ?_; refine s_gn rfl rfl ?_; refine zpt ?_; refine zn ?_)
  all_goals refine Q6 rfl ?_
  all_goals (refine Q0 ?_; refine Q1 ?_; refine zb0 [_, _, _, _, _, _, _, _] ?_; refine zsn hS ?_; intro w1 hS; have hS := hS.ns; refine zm ?_; refine zn ?_; refine zr ?_; refine Q3r vw (Qi (n := 8) (by kernel_rfl) (by kernel_rfl) (hS.blkAt fd) (by rfl) (by rfl)) vw ?_; exact .inl ⟨_, rfl, .inl ⟨Qev rfl, rfl, hS.sp⟩⟩)
theorem prins_s {pb e : Nat} {a : Nat} {t2 : List UInt8} {m : Int} {v : Value} {r : List Tok} (hv : tokR.sl cx v (⟨a, t2, some m⟩ :: r)) (hS : St cx w (prs pb v e :: L)) :
    Fins Tryz.prog Q8 [.pointer (some ⟨pb, 0, none⟩)] w (InsS pb e v (⟨a, t2, some m⟩ :: r) cx L) (PBad (pIns e (⟨a, t2, some m⟩ :: r)) pb e cx L) := by
  unfold Fins InsS
  all_goals refine Q2t ?_
  all_goals (unfold parse_parser_ins_lc; refine Q0 ?_; refine Q1 ?_; refine Qe hS ?_; intro p2 w1 hS; refine zm ?_; refine zn ?_; refine Q0 ?_; refine Q0 ?_; refine Q1 ?_; refine zm ?_; refine Qh rfl ?_; refine Q2 rfl ?_; refine zl hS ?_; refine zL ?_; refine Qf3 rfl rfl (by simp; omega) ?_; refine zm ?_; (first | refine s_gn rfl rfl ?_ | (refine s_gy rfl ?_; refine zm ?_)); (first | refine s_gn rfl rfl ?_ | (refine s_gy rfl ?_; refine Qh rfl ?_)); (first | refine s_gn rfl rfl ?_ | (refine s_gy rfl ?_; refine Q2 rfl ?_)); (first | refine s_gn rfl rfl ?_ | (refine s_gy rfl ?_; refine zl hS ?_)))
  all_goals (first | refine s_gn rfl rfl ?_ | (refine s_gy rfl ?_; refine Q1O (m := 0) vw rfl hv rfl (by simp) ?_; intro b1 o1 cs1 x1 hat1 hx1 he1; cases hx1; obtain rfl := Q1z he1))
  all_goals ((first | refine s_gn rfl rfl ?_ | (refine s_gy rfl ?_; (first | refine Q2 rfl ?_ | refine Q1p rfl ?_))); (first | refine s_gn rfl rfl ?_ | (refine s_gy rfl ?_; (first | (refine zl hS ?_) | (refine zlk hS ?_) | (refine zlj hS ?_)))); (first | (refine zpt ?_) | (refine zpf ?_)); refine zn ?_)
  all_goals refine Q6 rfl ?_
  all_goals (refine Q0 ?_; refine Q1 ?_; refine zb0 [_, _, _, _, _, _, _, _] ?_; refine zsn hS ?_; intro w1 hS; have hS := hS.ns; refine zm ?_; refine zn ?_; refine zr ?_; refine Q3r vw (Qi (n := 8) (by kernel_rfl) (by kernel_rfl) (hS.blkAt fd) (by rfl) (by rfl)) vw ?_; exact .inl ⟨_, rfl, .inl ⟨Qev rfl, rfl, hS.sp⟩⟩)
theorem prins_w {pb e : Nat} {a : Nat} {t2 : List UInt8} {v : Value} {r : List Tok} (hv : tokR.sl cx v (⟨a, t2, none⟩ :: r)) (hS : St cx w (prs pb v e :: L)) :
    Fins Tryz.prog Q8 [.pointer (some ⟨pb, 0, none⟩)] w (InsS pb e v (⟨a, t2, none⟩ :: r) cx L) (PBad (pIns e (⟨a, t2, none⟩ :: r)) pb e cx L) := by
  have hle := St.refl hS
  have hnil : intR.sl cx (.slice none 0 0) [] := Rep.SR.nil _ _ _
  obtain ⟨op, hop⟩ : ∃ op : Nat, Q9f opWords (⟨a, t2, none⟩ :: r) = op := ⟨_, rfl⟩
  have hop2 : QhS opWords t2 = op := hop
  have hope : op ≤ 14 := by rw [← hop]; exact headW_le
  unfold Fins InsS
  all_goals refine Q2t ?_
  all_goals (unfold parse_parser_ins_lc; refine Q0 ?_; refine Q1 ?_; refine Qe hS ?_; intro p2 w1 hS; refine zm ?_; refine zn ?_; refine Q0 ?_; refine Q0 ?_; refine Q1 ?_; refine zm ?_; refine Qh rfl ?_; refine Q2 rfl ?_; refine zl hS ?_; refine zL ?_; refine Qf3 rfl rfl (by simp; omega) ?_; refine zm ?_; (first | refine s_gn rfl rfl ?_ | (refine s_gy rfl ?_; refine zm ?_)); (first | refine s_gn rfl rfl ?_ | (refine s_gy rfl ?_; refine Qh rfl ?_)); (first | refine s_gn rfl rfl ?_ | (refine s_gy rfl ?_; refine Q2 rfl ?_)); (first | refine s_gn rfl rfl ?_ | (refine s_gy rfl ?_; refine zl hS ?_)))
  all_goals (first | refine s_gn rfl rfl ?_ | (refine s_gy rfl ?_; refine Q1O (m := 0) vw rfl hv rfl (by simp) ?_; intro b1 o1 cs1 x1 hat1 hx1 he1; cases hx1; obtain rfl := Q1z he1))
  all_goals ((first | refine s_gn rfl rfl ?_ | (refine s_gy rfl ?_; (first | refine Q2 rfl ?_ | refine Q1p rfl ?_))); (first | refine s_gn rfl rfl ?_ | (refine s_gy rfl ?_; (first | (refine zl hS ?_) | (refine zlk hS ?_) | (refine zlj hS ?_)))); (first | (refine zpt ?_) | (refine zpf ?_)); refine zn ?_)
  all_goals refine Q5 rfl ?_
  all_goals (refine zsk ?_; refine Q0 ?_; refine Q1 ?_; refine zm ?_; refine Qh rfl ?_; refine Q2 rfl ?_; refine zl hS ?_)
  all_goals (refine Q1O (m := 0) vw rfl hv rfl (by simp) ?_; intro b1 o1 cs1 x1 hat1 hx1 he1; cases hx1; obtain rfl := Q1z he1)
  all_goals ((first | refine Q2 rfl ?_ | refine Q1p rfl ?_); (first | (refine zl hS ?_) | (refine zlk hS ?_) | (refine zlj hS ?_)); refine zR3 (c := find_c (ws := opWords) rfl (by decide) (by kernel_rfl) (fun k h => popw_c h) hS) (h := ?_); rintro u1 w1 ⟨rfl, hS⟩; rw [hop2]; refine zb1 [_, _, _, _, _, _, _, _] ?_; refine Qe hS ?_; intro p4 w1 hS; refine zsn hS ?_; intro w1 hS; have hS := hS.ns; refine zn ?_; refine Q0 ?_; refine Q0 ?_; refine Q1 ?_; refine Q2 rfl ?_; refine zl hS ?_)
  all_goals (first | (refine QB ?_) | (refine QF ?_) | (refine Qf rfl rfl (fun hc => ?_) (fun hc => ?_)))
  all_goals (refine zn ?_)
  all_goals
    first
    | (refine Q6 rfl ?_ -- Q8 c1
       all_goals (refine Q0 ?_; refine Q1 ?_; refine zb0 [_, _, _, _, _, _, _, _] ?_; refine zsn hS ?_; intro w1 hS; have hS := hS.ns; refine zm ?_; refine zn ?_; refine zr ?_; refine Q3r vw (Qi (n := 8) (by kernel_rfl) (by kernel_rfl) (hS.blkAt fd) (by rfl) (by rfl)) vw ?_)
       all_goals (exact .inl ⟨_, rfl, .inl ⟨Qev (by omega), rfl, hS.sp⟩⟩))
    | (refine Q5 rfl ?_ -- Q8 c1
       all_goals refine zsk ?_)
  all_goals (refine Q0 ?_; refine Q1 ?_; refine zm ?_; have hS : St cx _ (prs pb v e :: blk p4 54 [.int .i64 (op : Int), .int .i64 0, .int .i64 0, .int .i64 0, .int .i64 0, .int .i64 0, .slice none 0 0, .slice none 0 0] :: blk p2 54 [.int .i64 0, .int .i64 0, .int .i64 0, .int .i64 0, .int .i64 0, .int .i64 0, .slice none 0 0, .slice none 0 0] :: L) := hS.sp; refine zR1 (c := QmB hv hS) (h := ?_); rintro u1 w1 ⟨rfl, vc, hvc, hS⟩; refine zn ?_)
  refine zM [0, 2, 4] (fun A ρ' w' => ∃ (x : Ins) (l2 : List Tok) (v2 : Value) (c5 : Cx) (vr va : Value), Has ρ' A ∧ Has ρ' [] ∧ (¬ (op : Int) = 0) ∧ (Q4Z e op r = .ok (x, l2)) ∧ (l2.length ≤ r.length) ∧ (cx.Le c5) ∧ (insR.at c5 [.int .i64 x.op, .int .i64 x.a, .int .i64 x.b, .int .i64 x.c, .int .i64 x.k, .int .i64 x.n, vr, va] x) ∧ (tokR.sl c5 v2 l2) ∧ St c5 w' (prs pb v2 e :: blk p4 54 [.int .i64 x.op, .int .i64 x.a, .int .i64 x.b, .int .i64 x.c, .int .i64 x.k, .int .i64 x.n, vr, va] :: blk p2 54 [.int .i64 0, .int .i64 0, .int .i64 0, .int .i64 0, .int .i64 0, .int .i64 0, .slice none 0 0, .slice none 0 0] :: L)) ?_ ?_
  · skip
    all_goals (refine Q0 ?_; have hb0 : ¬ (op : Int) = 0 := hc; refine Q1 ?_; refine Q2 rfl ?_; refine zl hS ?_; refine zn ?_; refine Qa ?_; refine Q0 ?_; refine Q1 ?_)
    all_goals (first | (refine QB ?_) | (refine QF ?_) | (refine Qf rfl rfl (fun hc => ?_) (fun hc => ?_)))
    all_goals (refine zm ?_; refine zn ?_)
    all_goals
      first
      | (refine Q6 rfl ?_ -- Q8 c2
         all_goals (have hX := pb_1 (e := e) (l := r) (op := op) (by omega); refine Q1 ?_; refine zm ?_; refine zE1 (c := Qki hvc hS) (p := by rintro u9 w9 ⟨f, v', g1, rfl, hS⟩; (repeat (first | refine Qk ?_ | refine Ql ?_ | refine fun _ => ?_)); refine Qw ?_; refine .inr ⟨_, rfl, ?_⟩; exact ⟨f, v', Q2D hop hb0 (Q1n hX g1), rfl, hS.sp⟩) (h := ?_); rintro u1 w2 ⟨n, vc, g1, rfl, hvc, hS⟩; have hX := Q1q hX g1; (try dsimp only at hX); refine Q2 rfl ?_; refine zst hS ?_; intro w1 hS; have hS := hS.ns; refine zn ?_)
         all_goals (exact ⟨_, _, _, cx, _, _, zh, zh, hb0, hX, (by have z1 := Q9 r; have z2 := Q9 r.tail; have z3 := Q9 r.tail.tail; have z4 := Q9 r.tail.tail.tail; omega), hle, ⟨_, _, rfl, hnil, hnil⟩, hvc, hS.sp⟩))
      | (refine Q5 rfl ?_ -- Q8 c2
         all_goals (refine Q0 ?_; refine Q1 ?_)
         all_goals (first | (refine QB ?_) | (refine QF ?_) | (refine Qf rfl rfl (fun hc => ?_) (fun hc => ?_)))
         all_goals (refine zm ?_; refine zn ?_)
         all_goals
           first
           | (refine Q6 rfl ?_ -- Q8 c3
              refine zM [0, 2, 4] (fun A ρ' w' => ∃ (kv : Nat), Has ρ' A ∧ Has ρ' [] ∧ (Q9f kindWords r = kv) ∧ St cx w' (prs pb vc e :: blk p4 54 [.int .i64 (op : Int), .int .i64 0, .int .i64 0, .int .i64 0, .int .i64 (kv : Int), .int .i64 0, .slice none 0 0, .slice none 0 0] :: blk p2 54 [.int .i64 0, .int .i64 0, .int .i64 0, .int .i64 0, .int .i64 0, .int .i64 0, .slice none 0 0, .slice none 0 0] :: L)) ?_ ?_
              · skip
                all_goals (refine Q0 ?_; refine Q1 ?_)
                all_goals (rcases r with _ | ⟨⟨a3, t3, m3⟩, r3⟩; rotate_left; cases m3)
                all_goals (refine zm ?_; refine Qh rfl ?_; refine Q2 rfl ?_; refine zl hS ?_; refine zL ?_; (first | refine Q9F rfl rfl len_cons ?_ | refine Qf2 rfl rfl len_nil ?_); refine zm ?_; (first | refine s_gn rfl rfl ?_ | (refine s_gy rfl ?_; refine zm ?_)); (first | refine s_gn rfl rfl ?_ | (refine s_gy rfl ?_; refine Qh rfl ?_)); (first | refine s_gn rfl rfl ?_ | (refine s_gy rfl ?_; refine Q2 rfl ?_)); (first | refine s_gn rfl rfl ?_ | (refine s_gy rfl ?_; refine zl hS ?_)))
                all_goals (first | refine s_gn rfl rfl ?_ | (refine s_gy rfl ?_; refine Q1O (m := 0) vw rfl hvc rfl (by simp) ?_; intro b1 o1 cs1 x1 hat1 hx1 he1; cases hx1; obtain rfl := Q1z he1))
                all_goals ((first | refine s_gn rfl rfl ?_ | (refine s_gy rfl ?_; (first | refine Q2 rfl ?_ | refine Q1p rfl ?_))); (first | refine s_gn rfl rfl ?_ | (refine s_gy rfl ?_; (first | (refine zl hS ?_) | (refine zlk hS ?_) | (refine zlj hS ?_)))); (first | refine s_gn rfl rfl ?_ | (refine s_gy rfl ?_; refine Q2e rfl ?_)); (first | (refine zpt ?_) | (refine zpf ?_)); refine zn ?_)
                all_goals
                  first
                  | (refine Q6 rfl ?_ -- Q8 c4
                     all_goals (refine Q1 ?_; refine zm ?_; refine Qh rfl ?_; refine Q2 rfl ?_; refine zl hS ?_)
                     all_goals (refine Q1O (m := 0) vw rfl hvc rfl (by simp) ?_; intro b1 o1 cs1 x1 hat1 hx1 he1; cases hx1; obtain rfl := Q1z he1)
                     all_goals ((first | refine Q2 rfl ?_ | refine Q1p rfl ?_); (first | (refine zl hS ?_) | (refine zlk hS ?_) | (refine zlj hS ?_)); refine zR3 (c := find_c (ws := kindWords) rfl (by decide) (by kernel_rfl) (fun k h => Qno h) hS) (h := ?_); rintro u1 w1 ⟨rfl, hS⟩; refine Q2 rfl ?_; refine zst hS ?_; intro w1 hS; have hS := hS.ns)
                     all_goals refine zn ?_)
                  | (refine Q5 rfl ?_ -- Q8 c4
                     all_goals refine zsk ?_)
                all_goals (exact ⟨_, zh, zh, rfl, hS.sp⟩)
              rintro ρ w1 ⟨kv, hA, hρ, hk, hS⟩; obtain ⟨ρ, rfl⟩ := env2 hA hρ
              all_goals (refine Q0 ?_; refine Q0 ?_; have hX := pb_2 (e := e) (l := r) (op := op) (by omega); refine Q1 ?_; refine Q2 rfl ?_; refine zl hS ?_)
              all_goals (first | (refine QB ?_) | (refine QF ?_) | (refine Qf rfl rfl (fun hc => ?_) (fun hc => ?_)))
              all_goals (refine zn ?_)
              all_goals
                first
                | (refine Q6 rfl ?_ -- Q8 c5
                   all_goals (refine Q1 ?_; refine zm ?_)
                   all_goals (refine zE2 (c := Q6Q hvc hS) (p := by rintro v9 w9 ⟨rfl, hS⟩; (repeat (first | refine Qk ?_ | refine Ql ?_ | refine fun _ => ?_)); refine Qw ?_; refine .inr ⟨_, rfl, ?_⟩; exact ⟨_, _, Q2D hop hb0 (Q1n hX (kind_e hk hc)), rfl, hS.sp⟩) (h := fun _ _ h9 => by cases h9))
                   all_goals refine zn ?_)
                | (refine Q5 rfl ?_ -- Q8 c5
                   all_goals refine zsk ?_)
              all_goals (refine Q0 ?_; have hX := Q1q hX (kind_o (e := e) hk hc); (try dsimp only at hX); obtain ⟨t9, ht9⟩ := head_get hk hc; refine Q1 ?_; refine zm ?_; refine zR1 (c := Q9N ht9 hvc hS) (h := ?_); rintro u1 w1 ⟨rfl, vc, hvc, hS⟩; refine zn ?_; refine Q0 ?_; refine Q1 ?_; refine zm ?_; refine zE1 (c := Q1Y hvc hS) (p := by rintro u9 w9 ⟨f, v', g1, rfl, hS⟩; (repeat (first | refine Qk ?_ | refine Ql ?_ | refine fun _ => ?_)); refine Qw ?_; refine .inr ⟨_, rfl, ?_⟩; exact ⟨f, v', Q2D hop hb0 (Q1n hX g1), rfl, hS.sp⟩) (h := ?_); rintro u1 w2 ⟨n, vc, g1, rfl, hvc, hS⟩; have hX := Q1q hX g1; (try dsimp only at hX); refine Q2 rfl ?_; refine zst hS ?_; intro w1 hS; have hS := hS.ns; refine zn ?_; refine Q1 ?_; refine zm ?_; refine zE1 (c := Q1Y hvc hS) (p := by rintro u9 w9 ⟨f, v', g1, rfl, hS⟩; (repeat (first | refine Qk ?_ | refine Ql ?_ | refine fun _ => ?_)); refine Qw ?_; refine .inr ⟨_, rfl, ?_⟩; exact ⟨f, v', Q2D hop hb0 (Q1n hX g1), rfl, hS.sp⟩) (h := ?_); rintro u1 w2 ⟨n, vc, g1, rfl, hvc, hS⟩; have hX := Q1q hX g1; (try dsimp only at hX); refine Q2 rfl ?_; refine zst hS ?_; intro w1 hS; have hS := hS.ns; refine zn ?_)
              all_goals (exact ⟨_, _, _, cx, _, _, zh, zh, hb0, hX, (by have z1 := Q9 r; have z2 := Q9 r.tail; have z3 := Q9 r.tail.tail; have z4 := Q9 r.tail.tail.tail; omega), hle, ⟨_, _, rfl, hnil, hnil⟩, hvc, hS.sp⟩))
           | (refine Q5 rfl ?_ -- Q8 c3
              all_goals (refine Q0 ?_; refine Q0 ?_; refine Q1 ?_)
              all_goals (first | (refine QB ?_) | (refine QF ?_) | (refine Qf rfl rfl (fun hc => ?_) (fun hc => ?_)))
              all_goals (refine zm ?_; refine zn ?_)
              all_goals
                first
                | (refine Q6 rfl ?_ -- Q8 c6
                   all_goals refine zsk ?_)
                | (refine Q5 rfl ?_ -- Q8 c6
                   all_goals (refine Q0 ?_; refine Q1 ?_)
                   all_goals (first | (refine QB ?_) | (refine QF ?_) | (refine Qf rfl rfl (fun hc => ?_) (fun hc => ?_)))
                   all_goals (refine zm ?_; refine zn ?_)
                   all_goals
                     first
                     | (refine Q6 rfl ?_ -- Q8 c7
                        all_goals refine zsk ?_)
                     | (refine Q5 rfl ?_ -- Q8 c7
                        all_goals (refine Q1 ?_)
                        all_goals (first | (refine QB ?_) | (refine QF ?_) | (refine Qf rfl rfl (fun hc => ?_) (fun hc => ?_)))
                        all_goals (refine zm ?_)
                        all_goals refine zn ?_))
              all_goals
                first
                | (refine Q6 rfl ?_ -- Q8 c8
                   all_goals (have hX := pb_4 (e := e) (l := r) (op := op) (by omega); refine Q1 ?_; refine zm ?_; refine zE1 (c := Q1Y hvc hS) (p := by rintro u9 w9 ⟨f, v', g1, rfl, hS⟩; (repeat (first | refine Qk ?_ | refine Ql ?_ | refine fun _ => ?_)); refine Qw ?_; refine .inr ⟨_, rfl, ?_⟩; exact ⟨f, v', Q2D hop hb0 (Q1n hX g1), rfl, hS.sp⟩) (h := ?_); rintro u1 w2 ⟨n, vc, g1, rfl, hvc, hS⟩; have hX := Q1q hX g1; (try dsimp only at hX); refine Q2 rfl ?_; refine zst hS ?_; intro w1 hS; have hS := hS.ns)
                   all_goals refine zn ?_)
                | (refine Q5 rfl ?_ -- Q8 c8
                   all_goals (refine Q0 ?_; refine Q1 ?_)
                   all_goals (first | (refine QB ?_) | (refine QF ?_) | (refine Qf rfl rfl (fun hc => ?_) (fun hc => ?_)))
                   all_goals (refine zm ?_; refine zn ?_)
                   all_goals
                     first
                     | (refine Q6 rfl ?_ -- Q8 c9
                        all_goals (refine Q0 ?_; have hX := pb_5 (e := e) (l := r) (op := op) (by omega); refine Q1 ?_; refine zm ?_; refine zE1 (c := Q1Y hvc hS) (p := by rintro u9 w9 ⟨f, v', g1, rfl, hS⟩; (repeat (first | refine Qk ?_ | refine Ql ?_ | refine fun _ => ?_)); refine Qw ?_; refine .inr ⟨_, rfl, ?_⟩; exact ⟨f, v', Q2D hop hb0 (Q1n hX g1), rfl, hS.sp⟩) (h := ?_); rintro u1 w2 ⟨n, vc, g1, rfl, hvc, hS⟩; have hX := Q1q hX g1; (try dsimp only at hX); refine Q2 rfl ?_; refine zst hS ?_; intro w1 hS; have hS := hS.ns; refine zn ?_; refine Q1 ?_; refine zm ?_; refine zE3 (c := Qce hvc hS) (p := by rintro u9 w9 ⟨f, v', g1, rfl, hS⟩; (repeat (first | refine Qk ?_ | refine Ql ?_ | refine fun _ => ?_)); refine Qw ?_; refine .inr ⟨_, rfl, ?_⟩; exact ⟨f, v', Q2D hop hb0 (Q1n hX g1), rfl, hS.sp⟩) (h := ?_); rintro u1 w2 ⟨xs, l4, vc, c2, g1, g2, hle2, hka, hvc, hS⟩; have hX := Q1q hX g1; (try dsimp only at hX); have hoa := Rep.SR.oneC hka; refine Q2 rfl ?_; refine zst hS ?_; intro w1 hS; have hS := hS.ns)
                        all_goals refine zn ?_)
                     | (refine Q5 rfl ?_ -- Q8 c9
                        all_goals (refine Q0 ?_; refine Q1 ?_)
                        all_goals (first | (refine QB ?_) | (refine QF ?_) | (refine Qf rfl rfl (fun hc => ?_) (fun hc => ?_)))
                        all_goals (refine zm ?_; refine zn ?_)
                        all_goals
                          first
                          | (refine Q6 rfl ?_ -- Q8 c10
                             all_goals (refine Q0 ?_; have hX := pb_6 (e := e) (l := r) (op := op) (by omega); refine Q1 ?_; refine zm ?_; refine zE1 (c := Q1Y hvc hS) (p := by rintro u9 w9 ⟨f, v', g1, rfl, hS⟩; (repeat (first | refine Qk ?_ | refine Ql ?_ | refine fun _ => ?_)); refine Qw ?_; refine .inr ⟨_, rfl, ?_⟩; exact ⟨f, v', Q2D hop hb0 (Q1n hX g1), rfl, hS.sp⟩) (h := ?_); rintro u1 w2 ⟨n, vc, g1, rfl, hvc, hS⟩; have hX := Q1q hX g1; (try dsimp only at hX); refine Q2 rfl ?_; refine zst hS ?_; intro w1 hS; have hS := hS.ns; refine zn ?_; refine Q1 ?_; refine zm ?_; refine zE1 (c := Q1Y hvc hS) (p := by rintro u9 w9 ⟨f, v', g1, rfl, hS⟩; (repeat (first | refine Qk ?_ | refine Ql ?_ | refine fun _ => ?_)); refine Qw ?_; refine .inr ⟨_, rfl, ?_⟩; exact ⟨f, v', Q2D hop hb0 (Q1n hX g1), rfl, hS.sp⟩) (h := ?_); rintro u1 w2 ⟨n, vc, g1, rfl, hvc, hS⟩; have hX := Q1q hX g1; (try dsimp only at hX); refine Q2 rfl ?_; refine zst hS ?_; intro w1 hS; have hS := hS.ns)
                             all_goals refine zn ?_)
                          | (refine Q5 rfl ?_ -- Q8 c10
                             all_goals (refine Q0 ?_; refine Q1 ?_)
                             all_goals (first | (refine QB ?_) | (refine QF ?_) | (refine Qf rfl rfl (fun hc => ?_) (fun hc => ?_)))
                             all_goals (refine zm ?_; refine zn ?_)
                             all_goals
                               first
                               | (refine Q6 rfl ?_ -- Q8 c11
                                  all_goals (refine Q0 ?_; have hX := pb_7 (e := e) (l := r) (op := op) (by omega); refine Q1 ?_; refine zm ?_; refine zE1 (c := Q1Y hvc hS) (p := by rintro u9 w9 ⟨f, v', g1, rfl, hS⟩; (repeat (first | refine Qk ?_ | refine Ql ?_ | refine fun _ => ?_)); refine Qw ?_; refine .inr ⟨_, rfl, ?_⟩; exact ⟨f, v', Q2D hop hb0 (Q1n hX g1), rfl, hS.sp⟩) (h := ?_); rintro u1 w2 ⟨n, vc, g1, rfl, hvc, hS⟩; have hX := Q1q hX g1; (try dsimp only at hX); refine Q2 rfl ?_; refine zst hS ?_; intro w1 hS; have hS := hS.ns; refine zn ?_; refine Q0 ?_; refine Q1 ?_; refine zm ?_; refine zE1 (c := Q1Y hvc hS) (p := by rintro u9 w9 ⟨f, v', g1, rfl, hS⟩; (repeat (first | refine Qk ?_ | refine Ql ?_ | refine fun _ => ?_)); refine Qw ?_; refine .inr ⟨_, rfl, ?_⟩; exact ⟨f, v', Q2D hop hb0 (Q1n hX g1), rfl, hS.sp⟩) (h := ?_); rintro u1 w2 ⟨n, vc, g1, rfl, hvc, hS⟩; have hX := Q1q hX g1; (try dsimp only at hX); refine Q2 rfl ?_; refine zst hS ?_; intro w1 hS; have hS := hS.ns; refine zn ?_; refine Q1 ?_; refine zm ?_; refine zE1 (c := Q1Y hvc hS) (p := by rintro u9 w9 ⟨f, v', g1, rfl, hS⟩; (repeat (first | refine Qk ?_ | refine Ql ?_ | refine fun _ => ?_)); refine Qw ?_; refine .inr ⟨_, rfl, ?_⟩; exact ⟨f, v', Q2D hop hb0 (Q1n hX g1), rfl, hS.sp⟩) (h := ?_); rintro u1 w2 ⟨n, vc, g1, rfl, hvc, hS⟩; have hX := Q1q hX g1; (try dsimp only at hX))
                                  all_goals (refine Q2 rfl ?_; refine zst hS ?_; intro w1 hS; have hS := hS.ns)
                                  all_goals refine zn ?_)
                               | (refine Q5 rfl ?_ -- Q8 c11
                                  all_goals (refine Q0 ?_; refine Q0 ?_; refine Q1 ?_)
                                  all_goals (first | (refine QB ?_) | (refine QF ?_) | (refine Qf rfl rfl (fun hc => ?_) (fun hc => ?_)))
                                  all_goals (refine zm ?_; refine zn ?_)
                                  all_goals
                                    first
                                    | (refine Q6 rfl ?_ -- Q8 c12
                                       all_goals refine zsk ?_)
                                    | (refine Q5 rfl ?_ -- Q8 c12
                                       all_goals (refine Q1 ?_)
                                       all_goals (first | (refine QB ?_) | (refine QF ?_) | (refine Qf rfl rfl (fun hc => ?_) (fun hc => ?_)))
                                       all_goals (refine zm ?_)
                                       all_goals refine zn ?_)
                                  all_goals
                                    first
                                    | (refine Q6 rfl ?_ -- Q8 c13
                                       all_goals (refine Q0 ?_; have hX := pb_8 (e := e) (l := r) (op := op) (by omega); refine Q1 ?_; refine zm ?_; refine zE1 (c := Q1Y hvc hS) (p := by rintro u9 w9 ⟨f, v', g1, rfl, hS⟩; (repeat (first | refine Qk ?_ | refine Ql ?_ | refine fun _ => ?_)); refine Qw ?_; refine .inr ⟨_, rfl, ?_⟩; exact ⟨f, v', Q2D hop hb0 (Q1n hX g1), rfl, hS.sp⟩) (h := ?_); rintro u1 w2 ⟨n, vc, g1, rfl, hvc, hS⟩; have hX := Q1q hX g1; (try dsimp only at hX); refine Q2 rfl ?_; refine zst hS ?_; intro w1 hS; have hS := hS.ns; refine zn ?_; refine Q1 ?_; refine zm ?_; refine zE1 (c := Q1Y hvc hS) (p := by rintro u9 w9 ⟨f, v', g1, rfl, hS⟩; (repeat (first | refine Qk ?_ | refine Ql ?_ | refine fun _ => ?_)); refine Qw ?_; refine .inr ⟨_, rfl, ?_⟩; exact ⟨f, v', Q2D hop hb0 (Q1n hX g1), rfl, hS.sp⟩) (h := ?_); rintro u1 w2 ⟨n, vc, g1, rfl, hvc, hS⟩; have hX := Q1q hX g1; (try dsimp only at hX); refine Q2 rfl ?_; refine zst hS ?_; intro w1 hS; have hS := hS.ns)
                                       all_goals refine zn ?_)
                                    | (refine Q5 rfl ?_ -- Q8 c13
                                       all_goals (refine Q0 ?_; refine Q1 ?_)
                                       all_goals (first | (refine QB ?_) | (refine QF ?_) | (refine Qf rfl rfl (fun hc => ?_) (fun hc => ?_)))
                                       all_goals (refine zm ?_; refine zn ?_)
                                       all_goals
                                         first
                                         | (refine Q6 rfl ?_ -- Q8 c14
                                            all_goals (refine Q0 ?_; have hX := pb_10 (e := e) (l := r) (op := op) (by omega); refine Q1 ?_; refine zm ?_; refine zE1 (c := Q1Y hvc hS) (p := by rintro u9 w9 ⟨f, v', g1, rfl, hS⟩; (repeat (first | refine Qk ?_ | refine Ql ?_ | refine fun _ => ?_)); refine Qw ?_; refine .inr ⟨_, rfl, ?_⟩; exact ⟨f, v', Q2D hop hb0 (Q1n hX g1), rfl, hS.sp⟩) (h := ?_); rintro u1 w2 ⟨n, vc, g1, rfl, hvc, hS⟩; have hX := Q1q hX g1; (try dsimp only at hX); refine Q2 rfl ?_; refine zst hS ?_; intro w1 hS; have hS := hS.ns; refine zn ?_; refine Q0 ?_; refine Q1 ?_; refine zm ?_; refine zE1 (c := Q1Y hvc hS) (p := by rintro u9 w9 ⟨f, v', g1, rfl, hS⟩; (repeat (first | refine Qk ?_ | refine Ql ?_ | refine fun _ => ?_)); refine Qw ?_; refine .inr ⟨_, rfl, ?_⟩; exact ⟨f, v', Q2D hop hb0 (Q1n hX g1), rfl, hS.sp⟩) (h := ?_); rintro u1 w2 ⟨n, vc, g1, rfl, hvc, hS⟩; have hX := Q1q hX g1; (try dsimp only at hX); refine Q2 rfl ?_; refine zst hS ?_; intro w1 hS; have hS := hS.ns; refine zn ?_; refine Q1 ?_; refine zm ?_; refine zE1 (c := Q1Y hvc hS) (p := by rintro u9 w9 ⟨f, v', g1, rfl, hS⟩; (repeat (first | refine Qk ?_ | refine Ql ?_ | refine fun _ => ?_)); refine Qw ?_; refine .inr ⟨_, rfl, ?_⟩; exact ⟨f, v', Q2D hop hb0 (Q1n hX g1), rfl, hS.sp⟩) (h := ?_); rintro u1 w2 ⟨n, vc, g1, rfl, hvc, hS⟩; have hX := Q1q hX g1; (try dsimp only at hX))
                                            all_goals (refine Q2 rfl ?_; refine zst hS ?_; intro w1 hS; have hS := hS.ns)
                                            all_goals refine zn ?_)
                                         | (refine Q5 rfl ?_ -- Q8 c14
                                            all_goals (refine Q0 ?_; refine Q1 ?_)
                                            all_goals (first | (refine QB ?_) | (refine QF ?_) | (refine Qf rfl rfl (fun hc => ?_) (fun hc => ?_)))
                                            all_goals (refine zm ?_; refine zn ?_)
                                            all_goals
                                              first
                                              | (refine Q6 rfl ?_ -- Q8 c15
                                                 all_goals (refine Q0 ?_; have hX := pb_14 (e := e) (l := r) (op := op) (by omega); refine Q1 ?_; refine zm ?_; refine zE1 (c := Q1Y hvc hS) (p := by rintro u9 w9 ⟨f, v', g1, rfl, hS⟩; (repeat (first | refine Qk ?_ | refine Ql ?_ | refine fun _ => ?_)); refine Qw ?_; refine .inr ⟨_, rfl, ?_⟩; exact ⟨f, v', Q2D hop hb0 (Q1n hX g1), rfl, hS.sp⟩) (h := ?_); rintro u1 w2 ⟨n, vc, g1, rfl, hvc, hS⟩; have hX := Q1q hX g1; (try dsimp only at hX); refine Q2 rfl ?_; refine zst hS ?_; intro w1 hS; have hS := hS.ns; refine zn ?_; refine Q0 ?_; refine Q1 ?_; refine zm ?_; refine zE3 (c := Qce hvc hS) (p := by rintro u9 w9 ⟨f, v', g1, rfl, hS⟩; (repeat (first | refine Qk ?_ | refine Ql ?_ | refine fun _ => ?_)); refine Qw ?_; refine .inr ⟨_, rfl, ?_⟩; exact ⟨f, v', Q2D hop hb0 (Q1n hX g1), rfl, hS.sp⟩) (h := ?_); rintro u1 w2 ⟨xs, l4, vc, c2, g1, g2, hle2, hkr, hvc, hS⟩; have hX := Q1q hX g1; (try dsimp only at hX); have hor := Rep.SR.oneC hkr; refine Q2 rfl ?_; refine zst hS ?_; intro w1 hS; have hS := hS.ns; refine zn ?_; refine Q1 ?_; refine zm ?_; refine zE3 (c := Qce hvc hS) (p := by rintro u9 w9 ⟨f, v', g1, rfl, hS⟩; (repeat (first | refine Qk ?_ | refine Ql ?_ | refine fun _ => ?_)); refine Qw ?_; refine .inr ⟨_, rfl, ?_⟩; exact ⟨f, v', Q2D hop hb0 (Q1n hX g1), rfl, St.weak hS.sp hle2⟩) (h := ?_); rintro u1 w2 ⟨ys, l5, vc, c3, g1, g3, hle3, hka, hvc, hS⟩; have hX := Q1q hX g1; (try dsimp only at hX); have hoa := Rep.SR.oneC hka)
                                                 all_goals (refine Q2 rfl ?_; refine zst hS ?_; intro w1 hS; have hS := hS.ns)
                                                 all_goals refine zn ?_)
                                              | (refine Q5 rfl ?_ -- Q8 c15
                                                 all_goals refine zsk ?_)))))))
              all_goals (first | (exact ⟨_, _, _, cx, _, _, zh, zh, hb0, hX, (by have z1 := Q9 r; have z2 := Q9 r.tail; have z3 := Q9 r.tail.tail; have z4 := Q9 r.tail.tail.tail; omega), hle, ⟨_, _, rfl, hnil, hnil⟩, hvc, hS.sp⟩) | (exact ⟨_, _, _, _, _, _, zh, zh, hb0, hX, (by have z1 := Q9 r; have z2 := Q9 r.tail; have z3 := Q9 r.tail.tail; have z4 := Q9 r.tail.tail.tail; omega), hle2, ⟨_, _, rfl, hnil.up hle2, hka⟩, hvc, hS.sp⟩) | (exact ⟨_, _, _, _, _, _, zh, zh, hb0, hX, (by have z1 := Q9 r; have z2 := Q9 r.tail; have z3 := Q9 r.tail.tail; have z4 := Q9 r.tail.tail.tail; omega), hle2.trans hle3, ⟨_, _, rfl, hkr.up hle3, hka⟩, hvc, hS.sp⟩) | (exact ⟨_, _, _, cx, _, _, zh, zh, hb0, pb_0 (by omega), (by have z1 := Q9 r; have z2 := Q9 r.tail; have z3 := Q9 r.tail.tail; have z4 := Q9 r.tail.tail.tail; omega), hle, ⟨_, _, rfl, hnil, hnil⟩, hvc, hS.sp⟩))))
  rintro ρ w1 ⟨x, l2, v2, c5, vr, va, hA, hρ, hb0, hx, hl2, hle5, hd5, hv2, hS⟩; obtain ⟨ρ, rfl⟩ := env2 hA hρ
  all_goals (refine Q0 ?_; refine Q1 ?_; refine zm ?_; refine zB1 hS [_] ?_; intro b1 w1 hS; have hS := Q1G (s := [59]) hS; refine zE2 (c := Q1E hv2 hS) (p := by rintro u9 w9 ⟨f9, v8, hw1, rfl, hS⟩; (repeat (first | refine Qk ?_ | refine Ql ?_ | refine fun _ => ?_)); refine Qw ?_; refine .inr ⟨_, rfl, ?_⟩; exact ⟨_, _, ins_we hop hb0 hx hw1, rfl, St.weak hS.sp hle5⟩) (h := ?_); rintro u1 w2 ⟨rfl, hw1, v9, hv9, hS⟩; refine zn ?_; refine Q0 ?_; refine Q1 ?_; refine zv hS ?_; refine zsn hS ?_; intro w1 hS; have hS := hS.ns; refine zm ?_; refine zn ?_; refine zr ?_; refine Q3r vw (Qi (n := 8) (by kernel_rfl) (by kernel_rfl) (hS.blkAt fd) (by rfl) (by rfl)) vw ?_; (first | exact .inl ⟨_, rfl, .inl ⟨Qev (by omega), rfl, hS.sp⟩⟩ | exact .inl ⟨_, rfl, .inr ⟨x, l2.tail, v9, c5, _, ins_o hop hb0 hx hw1, (by have z1 := Q9 l2; show l2.tail.length < r.length + 1; omega), hle5, hd5, rfl, hv9, hS.sp⟩⟩))
theorem prins_c {pb e : Nat} {v : Value} {l : List Tok} (hv : tokR.sl cx v l) (hS : St cx w (prs pb v e :: L)) :
    Fins Tryz.prog Q8 [.pointer (some ⟨pb, 0, none⟩)] w (InsS pb e v l cx L) (PBad (pIns e l) pb e cx L) := by
  rcases l with _ | ⟨⟨a, t2, m⟩, r⟩
  · exact prins_n hv hS
  · cases m with
    | some n => exact prins_s hv hS
    | none => exact prins_w hv hS
end Go.Proofs.YtjecflbbcnocdaaGreatDoor
namespace Go.Lir
section
variable {e : Nat} {l l1 l2 : List Tok} {t : Tail} {g : Flt}
theorem to_X : pTo e l = Qd (pNum e l) fun b l => Qd (QnY e l) fun regs l => Qd (QhR e l) fun args l => .ok (⟨b, regs, args⟩, l) := rfl
theorem tail_j (h : isT Q9E l = true) : Q5u e l = Qd (pTo e l.tail) fun y l => .ok (⟨1, 0, y, ⟨0, [], []⟩, []⟩, l) := by unfold Q5u; rw [if_pos h]
theorem tail_i (h : isT Q9E l = false) (h2 : isT tIf l = true) : Q5u e l = Qd (pNum e l.tail) fun a l => Qd (want e tTo l) fun _ l => Qd (pTo e l) fun y l => Qd (want e QbW l) fun _ l => Qd (pTo e l) fun n l => .ok (⟨2, a, y, n, []⟩, l) := by
  unfold Q5u; rw [if_neg (by rw [h]; decide), if_pos h2]
theorem tail_r (h : isT Q9E l = false) (h2 : isT tIf l = false) : Q5u e l = Qd (want e tRet l) fun _ l => Qd (QhR e l) fun args l => .ok (⟨3, 0, ⟨0, [], []⟩, ⟨0, [], []⟩, args⟩, l) := by
  unfold Q5u; rw [if_neg (by rw [h]; decide), if_neg (by rw [h2]; decide)]
theorem Qdt (h : Q5u e l = .error g) : Qag e l = .error g := by unfold Qag; rw [h]; rfl
theorem ends_w (h : Q5u e l = .ok (t, l1)) (h2 : want e [59] l1 = .error g) : Qag e l = .error g := by unfold Qag; rw [h]; simp only [Qd, h2]
theorem ends_o (h : Q5u e l = .ok (t, l1)) (h2 : want e [59] l1 = .ok ((), l2)) : Qag e l = .ok (t, l2) := by unfold Qag; rw [h]; simp only [Qd, h2]
end
end Go.Lir
namespace Go.Proofs.YtjecflbbcnocdaaGreatDoor
open Go.Lir
set_option maxHeartbeats 1000000
attribute [local irreducible] LC.wp Q3 Qt QA retQ Q1m LO.wp Qm Calls
set_option linter.unusedSimpArgs false
set_option linter.unusedVariables false
attribute [local irreducible] pMany Q1X Q2J pNum want isT pTyp Qbc pTo Q5u Qag
variable {cx : Cx} {w : World} {L : List Res}
theorem QoX {pb e : Nat} {v : Value} {l : List Tok} (hv : tokR.sl cx v l) (hS : St cx w (prs pb v e :: L)) :
    Fins Tryz.prog Q6Y [.pointer (some ⟨pb, 0, none⟩)] w (POk toR Q5t (pTo e l) pb e l.length cx L) (PBad (pTo e l) pb e cx L) := by
  have hX := to_X (e := e) (l := l)
  have z1 := Q9 l
  unfold Fins
  all_goals refine Qb6 ?_
  all_goals (unfold parse_parser_to_lc; refine Q0 ?_; refine Q1 ?_; refine Qe hS ?_; intro p2 w1 hS; refine zn ?_; refine Q0 ?_; have hS : St _ _ (prs pb v e :: blk p2 48 [.int .i64 0, .slice none 0 0, .slice none 0 0] :: L) := hS.sp; refine Q1 ?_; refine zm ?_; refine zE1 (c := Q1Y hv hS) (p := by rintro u9 w9 ⟨f, v', g1, rfl, hS⟩; (repeat (first | refine Qk ?_ | refine Ql ?_ | refine fun _ => ?_)); refine Qw ?_; refine .inr ⟨_, rfl, ?_⟩; exact ⟨_, _, Q1n hX g1, rfl, hS.sp⟩) (h := ?_); rintro u1 w2 ⟨b, vc, g1, rfl, hvc, hS⟩; have hX := Q1q hX g1; (try dsimp only at hX); refine zb1 [_, _, _] ?_; refine Qe hS ?_; intro p3 w1 hS; refine zsn hS ?_; intro w1 hS; have hS := hS.ns; refine zn ?_; refine Q0 ?_; refine Q1 ?_; refine zm ?_; refine zE3 (c := Qce hvc (St.mv1 hS)) (p := by rintro u9 w9 ⟨f, v', g1, rfl, hS⟩; (repeat (first | refine Qk ?_ | refine Ql ?_ | refine fun _ => ?_)); refine Qw ?_; refine .inr ⟨_, rfl, ?_⟩; exact ⟨_, _, Q1n hX g1, rfl, hS.sp⟩) (h := ?_); rintro u1 w2 ⟨xs, l4, vc, c2, g1, g2, hle2, hkr, hvc, hS⟩; have hX := Q1q hX g1; (try dsimp only at hX); have hor := Rep.SR.oneC hkr; refine Q2 rfl ?_; refine zst hS ?_; intro w1 hS; have hS := hS.ns; refine zn ?_; refine Q0 ?_; refine Q1 ?_; refine zm ?_; refine zE3 (c := Qce hvc hS) (p := by rintro u9 w9 ⟨f, v', g1, rfl, hS⟩; (repeat (first | refine Qk ?_ | refine Ql ?_ | refine fun _ => ?_)); refine Qw ?_; refine .inr ⟨_, rfl, ?_⟩; exact ⟨_, _, Q1n hX g1, rfl, St.weak hS.sp hle2⟩) (h := ?_); rintro u1 w2 ⟨ys, l5, vc, c3, g1, g3, hle3, hka, hvc, hS⟩; have hX := Q1q hX g1; (try dsimp only at hX); have hoa := Rep.SR.oneC hka)
  all_goals (refine Q2 rfl ?_; refine zst hS ?_; intro w1 hS; have hS := hS.ns; refine zn ?_; refine Q0 ?_; refine Q1 ?_; refine zv hS ?_; refine zsn hS ?_; intro w1 hS; have hS := hS.ns; refine zn ?_; refine zr ?_; refine Q3V vw (Qi (n := 3) (by kernel_rfl) (by kernel_rfl) (hS.blkAt fd) (by rfl) (by rfl)) ?_; exact .inl ⟨_, rfl, ⟨b, xs, ys⟩, l5, vc, c3, _, hX, by omega, hle2.trans hle3, ⟨_, _, rfl, hkr.up hle3, hka⟩, rfl, hvc, hS.sp⟩)
theorem prends_c {pb e : Nat} {v : Value} {l : List Tok} (hv : tokR.sl cx v l) (hS : St cx w (prs pb v e :: L)) :
    Fins Tryz.prog Q1i [.pointer (some ⟨pb, 0, none⟩)] w (POk endR Q5t (Qag e l) pb e l.length cx L) (PBad (Qag e l) pb e cx L) := by
  have hle := St.refl hS
  have hnil : intR.sl cx (.slice none 0 0) [] := Rep.SR.nil _ _ _
  have z1 := Q9 l
  have z2 := Q9 l.tail
  have z3 := Q9 l.tail.tail
  unfold Fins
  all_goals refine Q9e ?_
  all_goals (unfold parse_parser_ends_lc; refine Q0 ?_; refine Q1 ?_; refine Qe hS ?_; intro p2 w1 hS; refine zn ?_; refine Q0 ?_; refine Q1 ?_; refine Qe hS ?_; intro p3 w1 hS; refine zn ?_)
  refine zM [0, 2, 3] (fun A ρ' w' => ∃ (t : Tail) (l2 : List Tok) (v2 : Value) (c5 : Cx) (y1 y2 n1 n2 ar : Value), Has ρ' A ∧ Has ρ' [] ∧ (Q5u e l = .ok (t, l2)) ∧ (l2.length ≤ l.length) ∧ (cx.Le c5) ∧ (endR.at c5 [.int .i64 t.op, .int .i64 t.a, .int .i64 t.yes.block, y1, y2, .int .i64 t.no.block, n1, n2, ar] t) ∧ (tokR.sl c5 v2 l2) ∧ St c5 w' (prs pb v2 e :: blk p3 50 [.int .i64 t.op, .int .i64 t.a, .int .i64 t.yes.block, y1, y2, .int .i64 t.no.block, n1, n2, ar] :: blk p2 50 [.int .i64 0, .int .i64 0, .int .i64 0, .slice none 0 0, .slice none 0 0, .int .i64 0, .slice none 0 0, .slice none 0 0, .slice none 0 0] :: L)) ?_ ?_
  · skip
    all_goals (refine Qa ?_; refine Q0 ?_; refine Q1 ?_; refine zm ?_)
    all_goals (have hS : St _ _ (prs pb v e :: blk p3 50 [.int .i64 0, .int .i64 0, .int .i64 0, .slice none 0 0, .slice none 0 0, .int .i64 0, .slice none 0 0, .slice none 0 0, .slice none 0 0] :: blk p2 50 [.int .i64 0, .int .i64 0, .int .i64 0, .slice none 0 0, .slice none 0 0, .int .i64 0, .slice none 0 0, .slice none 0 0, .slice none 0 0] :: L) := hS.sp; refine zR2 (c := is_c (s := Q9E) hv hS) (h := ?_); rintro u1 w1 ⟨rfl, hS⟩; cases q0 : isT Q9E l)
    all_goals (refine zm ?_; refine zn ?_)
    all_goals
      first
      | (refine Q6 rfl ?_ -- Q1i c0
         all_goals (refine Q0 ?_; have hX := tail_j (e := e) q0; refine Q1 ?_; refine zm ?_; obtain ⟨t9, ht9⟩ := Qcv q0; refine zR1 (c := Q9N ht9 hv hS) (h := ?_); rintro u1 w1 ⟨rfl, vc, hvc, hS⟩; refine zn ?_; refine Q1 ?_; refine zm ?_; refine zE1 (c := QoX hvc hS) (p := by rintro u9 w9 ⟨f, v', g1, rfl, hS⟩; (repeat (first | refine Qk ?_ | refine Ql ?_ | refine fun _ => ?_)); refine Qw ?_; refine .inr ⟨_, rfl, ?_⟩; exact ⟨_, _, Qdt (Q1n hX g1), rfl, hS.sp⟩) (h := ?_); rintro u1 w2 ⟨a1, l1, vc, c2, ds, g1, k1, hle2, hd1, rfl, hvc, hS⟩; have hX := Q1q hX g1; (try dsimp only at hX); obtain ⟨u1, u2, rfl, e1, e2⟩ := Q9D hd1; have hq : endR.at c2 [.int .i64 1, .int .i64 0, .int .i64 a1.block, u1, u2, .int .i64 0, .slice none 0 0, .slice none 0 0, .slice none 0 0] (⟨1, 0, a1, ⟨0, [], []⟩, []⟩ : Tail) := ⟨_, _, _, _, _, rfl, e1, e2, hnil.up hle2, hnil.up hle2, hnil.up hle2⟩; have oq := endR.one hq; unfold Q5t; refine zb2 [_, _, _, _, _, _, _, _, _] ?_; refine zsn hS ?_; intro w1 hS; have hS := hS.ns)
         all_goals refine zn ?_)
      | (refine Q5 rfl ?_ -- Q1i c0
         all_goals (refine Q0 ?_; refine Q1 ?_; refine zm ?_)
         all_goals (refine zR2 (c := is_c (s := tIf) hv hS) (h := ?_); rintro u1 w1 ⟨rfl, hS⟩; cases q1 : isT tIf l)
         all_goals (refine zm ?_; refine zn ?_)
         all_goals
           first
           | (refine Q6 rfl ?_ -- Q1i c1
              all_goals (refine Q0 ?_; have hX := tail_i (e := e) q0 q1; refine Q1 ?_; refine zm ?_; obtain ⟨t9, ht9⟩ := Qcv q1; refine zR1 (c := Q9N ht9 hv hS) (h := ?_); rintro u1 w1 ⟨rfl, vc, hvc, hS⟩; refine zn ?_; refine Q0 ?_; refine Q1 ?_; refine zm ?_; refine zE1 (c := Q1Y hvc hS) (p := by rintro u9 w9 ⟨f, v', g1, rfl, hS⟩; (repeat (first | refine Qk ?_ | refine Ql ?_ | refine fun _ => ?_)); refine Qw ?_; refine .inr ⟨_, rfl, ?_⟩; exact ⟨_, _, Qdt (Q1n hX g1), rfl, hS.sp⟩) (h := ?_); rintro u1 w2 ⟨m, vc, g1, rfl, hvc, hS⟩; have hX := Q1q hX g1; (try dsimp only at hX); refine zb2 [_, _, _, _, _, _, _, _, _] ?_; refine zsn hS ?_; intro w1 hS; have hS := hS.ns; refine zn ?_; refine Q0 ?_; refine Q1 ?_; refine zm ?_; refine zB1 hS [_] ?_; intro b1 w1 hS; have hS := Q1G (s := tTo) hS; refine zE2 (c := Q1E hvc hS) (p := by rintro u9 w9 ⟨f, v', g1, rfl, hS⟩; (repeat (first | refine Qk ?_ | refine Ql ?_ | refine fun _ => ?_)); refine Qw ?_; refine .inr ⟨_, rfl, ?_⟩; exact ⟨_, _, Qdt (Q1n hX g1), rfl, hS.sp⟩) (h := ?_); rintro u1 w2 ⟨rfl, g1, vc, hvc, hS⟩; have hX := Q1q hX g1; (try dsimp only at hX); refine zn ?_; refine Q0 ?_; refine Q1 ?_; refine zm ?_; refine zE1 (c := QoX hvc hS) (p := by rintro u9 w9 ⟨f, v', g1, rfl, hS⟩; (repeat (first | refine Qk ?_ | refine Ql ?_ | refine fun _ => ?_)); refine Qw ?_; refine .inr ⟨_, rfl, ?_⟩; exact ⟨_, _, Qdt (Q1n hX g1), rfl, hS.sp⟩) (h := ?_); rintro u1 w2 ⟨a1, l1, vc, c2, ds, g1, k1, hle2, hd1, rfl, hvc, hS⟩; have hX := Q1q hX g1; (try dsimp only at hX); obtain ⟨u1, u2, rfl, e1, e2⟩ := Q9D hd1; unfold Q5t; have z4 := Q9 l1)
              all_goals (refine Q2 rfl ?_; (first | (refine zsn hS ?_; intro w1 hS; have hS := hS.ns) | (refine zsm hS ?_; intro w1 hS; have hS := hS.ns)); refine zn ?_; refine Q0 ?_; refine Q1 ?_; refine zm ?_; refine zB1 hS [_] ?_; intro b1 w1 hS; have hS := Q1G (s := QbW) hS; refine zE2 (c := Q1E hvc hS) (p := by rintro u9 w9 ⟨f, v', g1, rfl, hS⟩; (repeat (first | refine Qk ?_ | refine Ql ?_ | refine fun _ => ?_)); refine Qw ?_; refine .inr ⟨_, rfl, ?_⟩; exact ⟨_, _, Qdt (Q1n hX g1), rfl, St.weak hS.sp hle2⟩) (h := ?_); rintro u1 w2 ⟨rfl, g1, vc, hvc, hS⟩; have hX := Q1q hX g1; (try dsimp only at hX); refine zn ?_; refine Q1 ?_; refine zm ?_; refine zE1 (c := QoX hvc hS) (p := by rintro u9 w9 ⟨f, v', g1, rfl, hS⟩; (repeat (first | refine Qk ?_ | refine Ql ?_ | refine fun _ => ?_)); refine Qw ?_; refine .inr ⟨_, rfl, ?_⟩; exact ⟨_, _, Qdt (Q1n hX g1), rfl, St.weak hS.sp hle2⟩) (h := ?_); rintro u1 w2 ⟨a2, l2, vc, c3, ds, g1, k2, hle3, hd2, rfl, hvc, hS⟩; have hX := Q1q hX g1; (try dsimp only at hX); obtain ⟨u3, u4, rfl, e3, e4⟩ := Q9D hd2; have hq : endR.at c3 [.int .i64 2, .int .i64 m, .int .i64 a1.block, u1, u2, .int .i64 a2.block, u3, u4, .slice none 0 0] (⟨2, m, a1, a2, []⟩ : Tail) := ⟨_, _, _, _, _, rfl, e1.up hle3, e2.up hle3, e3, e4, hnil.up (hle2.trans hle3)⟩; have oq := endR.one hq; unfold Q5t; refine Q2 rfl ?_; (first | (refine zsn hS ?_; intro w1 hS; have hS := hS.ns) | (refine zsm hS ?_; intro w1 hS; have hS := hS.ns)))
              all_goals refine zn ?_)
           | (refine Q5 rfl ?_ -- Q1i c1
              all_goals (refine Q0 ?_; have hX := tail_r (e := e) q0 q1; refine Q1 ?_; refine zm ?_; refine zB1 hS [_] ?_; intro b1 w1 hS; have hS := Q1G (s := tRet) hS; refine zE2 (c := Q1E hv hS) (p := by rintro u9 w9 ⟨f, v', g1, rfl, hS⟩; (repeat (first | refine Qk ?_ | refine Ql ?_ | refine fun _ => ?_)); refine Qw ?_; refine .inr ⟨_, rfl, ?_⟩; exact ⟨_, _, Qdt (Q1n hX g1), rfl, hS.sp⟩) (h := ?_); rintro u1 w2 ⟨rfl, g1, vc, hvc, hS⟩; have hX := Q1q hX g1; (try dsimp only at hX); refine zn ?_; refine Q1 ?_; refine zm ?_; refine zE3 (c := Qce hvc hS) (p := by rintro u9 w9 ⟨f, v', g1, rfl, hS⟩; (repeat (first | refine Qk ?_ | refine Ql ?_ | refine fun _ => ?_)); refine Qw ?_; refine .inr ⟨_, rfl, ?_⟩; exact ⟨_, _, Qdt (Q1n hX g1), rfl, hS.sp⟩) (h := ?_); rintro u1 w2 ⟨xs, l1, vc, c2, g1, k1, hle2, hka, hvc, hS⟩; have hX := Q1q hX g1; (try dsimp only at hX); have hq : endR.at c2 [.int .i64 3, .int .i64 0, .int .i64 0, .slice none 0 0, .slice none 0 0, .int .i64 0, .slice none 0 0, .slice none 0 0, u1] (⟨3, 0, ⟨0, [], []⟩, ⟨0, [], []⟩, xs⟩ : Tail) := ⟨_, _, _, _, _, rfl, hnil.up hle2, hnil.up hle2, hnil.up hle2, hnil.up hle2, hka⟩; have oq := endR.one hq; obtain ⟨au, nu, rfl⟩ := Rep.SR.shape hka; refine zb2 [_, _, _, _, _, _, _, _, _] ?_; refine zsn hS ?_; intro w1 hS; have hS := hS.ns)
              all_goals refine zn ?_))
    all_goals ((first | (exact ⟨⟨1, 0, a1, ⟨0, [], []⟩, []⟩, l1, vc, c2, u1, u2, _, _, _, zh, zh, hX, by omega, hle2, ⟨_, _, _, _, _, rfl, e1, e2, hnil.up hle2, hnil.up hle2, hnil.up hle2⟩, hvc, hS.sp⟩) | (exact ⟨⟨2, m, a1, a2, []⟩, l2, vc, c3, u1, u2, u3, u4, _, zh, zh, hX, by omega, hle2.trans hle3, ⟨_, _, _, _, _, rfl, e1.up hle3, e2.up hle3, e3, e4, hnil.up (hle2.trans hle3)⟩, hvc, hS.sp⟩) | (exact ⟨⟨3, 0, ⟨0, [], []⟩, ⟨0, [], []⟩, xs⟩, l1, vc, c2, _, _, _, _, _, zh, zh, hX, by omega, hle2, ⟨_, _, _, _, _, rfl, hnil.up hle2, hnil.up hle2, hnil.up hle2, hnil.up hle2, hka⟩, hvc, hS.sp⟩)))
  rintro ρ w1 ⟨t, l2, v2, c5, y1, y2, n1, n2, ar, hA, hρ, hx, hl2, hle5, hd5, hv2, hS⟩; obtain ⟨ρ, rfl⟩ := env2 hA hρ
  all_goals (refine Q0 ?_; refine Q1 ?_; refine zm ?_; refine zB1 hS [_] ?_; intro b1 w1 hS; have hS := Q1G (s := [59]) hS; refine zE2 (c := Q1E hv2 hS) (p := by rintro u9 w9 ⟨f9, v8, hw1, rfl, hS⟩; (repeat (first | refine Qk ?_ | refine Ql ?_ | refine fun _ => ?_)); refine Qw ?_; refine .inr ⟨_, rfl, ?_⟩; exact ⟨_, _, ends_w hx hw1, rfl, St.weak hS.sp hle5⟩) (h := ?_); rintro u1 w2 ⟨rfl, hw1, v9, hv9, hS⟩; have hd6 := hd5; obtain ⟨w5, w6, w7, w8, w9, e9, i1, i2, i3, i4, i5⟩ := Qex hd5; have hone := endR.one hd6; refine zn ?_; refine Q0 ?_; refine Q1 ?_; refine zv hS ?_; refine zsn hS ?_; intro w1 hS; have hS := hS.ns; refine zn ?_; refine zr ?_; refine Q3V vw (Qi (n := 9) (by kernel_rfl) (by kernel_rfl) (hS.blkAt fd) (by rfl) (by rfl)) ?_; exact .inl ⟨_, rfl, t, l2.tail, v9, c5, _, ends_o hx hw1, (by have z9 := Q9 l2; omega), hle5, hd6, rfl, hv9, hS.sp⟩)
end Go.Proofs.YtjecflbbcnocdaaGreatDoor
namespace Go.Lir
section
variable {α β : Type} {e k : Nat} {f : List Tok → PGot (Option α)} {q : List Tok → PGot α} {p : List Tok → Bool} {l l1 l2 : List Tok} {xs : List α} {a : α} {g : Flt} {X : PGot (List α)}
theorem block_X : Q3v e l = Qd (want e Q1R l) fun _ l => Qd (pNum e l) fun regs l => Qd (Q4g e l) fun ps l => Qd (want e [123] l) fun _ l => Qd (pAll (pIns e) l) fun code l => Qd (Qag e l) fun fin l => Qd (want e [125] l) fun _ l => .ok (⟨regs, ps, code, fin⟩, l) := rfl
theorem func_X : pFun e l = Qd (want e Q7N l) fun _ l => Qd (pNum e l) fun regs l => Qd (Q4g e l) fun ps l => Qd (want e Q3Q l) fun _ l => Qd (Q4g e l) fun rs l => Qd (want e [123] l) fun _ l => Qd (pAll (pIf (isT Q1R) (Q3v e)) l) fun bl l => Qd (want e [125] l) fun _ l => .ok (⟨regs, ps, rs, bl⟩, l) := rfl
theorem Qpe (f : List Tok → PGot (Option α)) (l : List Tok) : pAll f l = Q2J [] (pOpts f (l.length + 1) l) := (Qpi _).symm
theorem Qnr (hd : X = Q2J xs (pOpts f k l)) (hk : l.length < k) (h : f l = .error g) : X = .error g := by
  obtain ⟨k, rfl⟩ : ∃ m, k = m + 1 := ⟨k - 1, by omega⟩
  rw [hd, pOpts, h]; rfl
theorem Qpd (hd : X = Q2J xs (pOpts f k l)) (hk : l.length < k) (h : f l = .ok (none, l2)) : X = .ok (xs, l2) := by
  obtain ⟨k, rfl⟩ : ∃ m, k = m + 1 := ⟨k - 1, by omega⟩
  rw [hd, pOpts, h]; simp [Qd, Q2J]
theorem Qpc (hd : X = Q2J xs (pOpts f k l)) (hk : l.length < k) (h : f l = .ok (some a, l2)) : X = Q2J (xs ++ [a]) (pOpts f (k - 1) l2) := by
  obtain ⟨k, rfl⟩ : ∃ m, k = m + 1 := ⟨k - 1, by omega⟩
  rw [hd, pOpts, h, show k + 1 - 1 = k by omega]
  simp only [Qd]
  cases pOpts f k l2 with
  | error e => rfl
  | ok y => obtain ⟨y, r⟩ := y; simp [Q2J]
theorem pif_e (h : p l = true) (h2 : q l = .error g) : pIf p q l = .error g := by unfold pIf; rw [if_pos h, h2]; rfl
theorem pif_o (h : p l = true) (h2 : q l = .ok (a, l2)) : pIf p q l = .ok (some a, l2) := by unfold pIf; rw [if_pos h, h2]; rfl
theorem pif_n (h : p l = false) : pIf p q l = .ok (none, l) := by unfold pIf; rw [if_neg (by rw [h]; decide)]
end
def QpL (w : World) (b j : Nat) : Value := (w.cell? ⟨b, j, none⟩).getD undef
theorem Q7K {w : World} {c : Cx} {L : List Res} {T b j i : Nat} {cs : List Value} {u : Value} (hS : St c w L) (hi : nth L i = some (blk b T cs)) (hj : cs[j]? = some u) : QpL w b j = u := by
  unfold QpL; rw [(hS.blkAt hi).cell hj]; rfl
end Go.Lir
namespace Go.Proofs.YtjecflbbcnocdaaGreatDoor
open Go.Lir
set_option maxHeartbeats 1000000
attribute [local irreducible] LC.wp Q3 Qt QA retQ Q1m LO.wp Qm Calls
set_option linter.unusedSimpArgs false
set_option linter.unusedVariables false
attribute [local irreducible] pMany Q1X Q2J pNum want isT pTyp Qbc pTo Q5u Qag pIns Q4g pOpts pAll pIf Q3v pFun
variable {cx : Cx} {w : World} {L : List Res}
/-- An instruction, or none, which is all noughts. -/
def InsU (pb e : Nat) (l : List Tok) (cx : Cx) (L : List Res) (u : Value) (w' : World) : Prop :=
  ∃ x bb l' v' c' vr va, pIns e l = .ok (if bb = true then some x else none, l') ∧ l'.length ≤ l.length ∧ (bb = true → l'.length < l.length) ∧ cx.Le c' ∧ insR.at c' [.int .i64 x.op, .int .i64 x.a, .int .i64 x.b, .int .i64 x.c, .int .i64 x.k, .int .i64 x.n, vr, va] x ∧ u = .tuple #[.agg ⟨[.int .i64 x.op, .int .i64 x.a, .int .i64 x.b, .int .i64 x.c, .int .i64 x.k, .int .i64 x.n, vr, va]⟩, .bool bb] ∧ tokR.sl c' v' l' ∧ St c' w' (prs pb v' e :: L)
theorem QoY {pb e : Nat} {v : Value} {l : List Tok} (hv : tokR.sl cx v l) (hS : St cx w (prs pb v e :: L)) :
    Fins Tryz.prog Q8 [.pointer (some ⟨pb, 0, none⟩)] w (InsU pb e l cx L) (PBad (pIns e l) pb e cx L) := by
  refine Fins.mono (prins_c hv hS) ?_ (fun _ _ h => h)
  rintro u w' (⟨h1, rfl, hS'⟩ | ⟨x, l', v', c', ds, h1, h2, hle, hx, rfl, hv', hS'⟩)
  · exact ⟨⟨0, 0, 0, 0, 0, 0, [], []⟩, false, l, v, cx, _, _, h1, Nat.le_refl _, (fun h => by cases h), St.refl hS, ⟨_, _, rfl, Rep.SR.nil _ _ _, Rep.SR.nil _ _ _⟩, rfl, hv, hS'⟩
  · obtain ⟨vr, va, rfl, i1, i2⟩ := Q2p hx
    exact ⟨x, true, l', v', c', vr, va, h1, by omega, fun _ => h2, hle, ⟨_, _, rfl, i1, i2⟩, rfl, hv', hS'⟩
theorem QoZ {pb e : Nat} {v : Value} {l : List Tok} (hN : l.length ≤ 100000) (hv : tokR.sl cx v l) (hS : St cx w (prs pb v e :: L)) :
    Fins Tryz.prog Q1T [.pointer (some ⟨pb, 0, none⟩)] w (POk blockR Q5t (Q3v e l) pb e (l.length - 1) cx L) (PBad (Q3v e l) pb e cx L) := by
  have hle := St.refl hS
  have hX := block_X (e := e) (l := l)
  unfold Fins
  all_goals refine Q7k ?_
  all_goals (unfold parse_parser_block_lc; refine Q0 ?_; refine Q1 ?_; refine Qe hS ?_; intro p2 w1 hS; refine zn ?_; refine Q0 ?_; have hS : St cx _ (prs pb v e :: blk p2 52 [.int .i64 0, .slice none 0 0, .slice none 0 0, .int .i64 0, .int .i64 0, .int .i64 0, .slice none 0 0, .slice none 0 0, .int .i64 0, .slice none 0 0, .slice none 0 0, .slice none 0 0] :: L) := hS.sp; refine Q1 ?_; refine zm ?_; refine zB1 hS [_] ?_; intro b1 w1 hS; have hS := Q1G (s := Q1R) hS; refine zE2 (c := Q1E hv hS) (p := by rintro u9 w9 ⟨f, v', g1, rfl, hS⟩; (repeat (first | refine Qk ?_ | refine Ql ?_ | refine fun _ => ?_)); refine Qw ?_; refine .inr ⟨_, rfl, ?_⟩; exact ⟨_, _, Q1n hX g1, rfl, St.weak hS.sp hle⟩) (h := ?_); rintro u1 w2 ⟨rfl, g1, vc, hvc, hS⟩; have z1 := (Q57 g1).2; have hX := Q1q hX g1; (try dsimp only at hX); refine zn ?_; refine Q0 ?_; refine Q1 ?_; refine zm ?_; refine zE1 (c := Q1Y hvc hS) (p := by rintro u9 w9 ⟨f, v', g1, rfl, hS⟩; (repeat (first | refine Qk ?_ | refine Ql ?_ | refine fun _ => ?_)); refine Qw ?_; refine .inr ⟨_, rfl, ?_⟩; exact ⟨_, _, Q1n hX g1, rfl, St.weak hS.sp hle⟩) (h := ?_); rintro u1 w2 ⟨rg, vc, g1, rfl, hvc, hS⟩; have hX := Q1q hX g1; (try dsimp only at hX); have z2 := Q9 l.tail; refine zb1 [_, _, _, _, _, _, _, _, _, _, _, _] ?_; refine Qe hS ?_; intro p3 w1 hS; refine zsn hS ?_; intro w1 hS; have hS := hS.ns)
  all_goals (refine zn ?_; refine Q0 ?_; have hS : St cx _ (prs pb vc e :: blk p3 52 [.int .i64 rg, .slice none 0 0, .slice none 0 0, .int .i64 0, .int .i64 0, .int .i64 0, .slice none 0 0, .slice none 0 0, .int .i64 0, .slice none 0 0, .slice none 0 0, .slice none 0 0] :: blk p2 52 [.int .i64 0, .slice none 0 0, .slice none 0 0, .int .i64 0, .int .i64 0, .int .i64 0, .slice none 0 0, .slice none 0 0, .int .i64 0, .slice none 0 0, .slice none 0 0, .slice none 0 0] :: L) := hS.sp; refine Q1 ?_; refine zm ?_)
  all_goals (refine zE1 (c := Qkh hvc hS) (p := by rintro u9 w9 ⟨f, v', g1, rfl, hS⟩; (repeat (first | refine Qk ?_ | refine Ql ?_ | refine fun _ => ?_)); refine Qw ?_; refine .inr ⟨_, rfl, ?_⟩; exact ⟨_, _, Q1n hX g1, rfl, St.weak hS.sp hle⟩) (h := ?_); rintro vps w2 ⟨ps, l4, vc, c2, g1, k1, hle2, hkp, hvc, hS⟩; have hX := Q1q hX g1; (try dsimp only at hX); (try have hle := hle.trans hle2); have ho := Rep.SR.oneC hkp)
  all_goals (refine Q2 rfl ?_; refine zst hS ?_; intro w1 hS; have hS := hS.ns; refine zn ?_; refine Q0 ?_; have hS : St c2 _ (prs pb vc e :: blk p3 52 [.int .i64 rg, vps, .slice none 0 0, .int .i64 0, .int .i64 0, .int .i64 0, .slice none 0 0, .slice none 0 0, .int .i64 0, .slice none 0 0, .slice none 0 0, .slice none 0 0] :: blk p2 52 [.int .i64 0, .slice none 0 0, .slice none 0 0, .int .i64 0, .int .i64 0, .int .i64 0, .slice none 0 0, .slice none 0 0, .int .i64 0, .slice none 0 0, .slice none 0 0, .slice none 0 0] :: L) := hS.sp; refine Q1 ?_; refine zm ?_; refine zB1 hS [_] ?_; intro b1 w1 hS; have hS := Q1G (s := [123]) hS; refine zE2 (c := Q1E hvc hS) (p := by rintro u9 w9 ⟨f, v', g1, rfl, hS⟩; (repeat (first | refine Qk ?_ | refine Ql ?_ | refine fun _ => ?_)); refine Qw ?_; refine .inr ⟨_, rfl, ?_⟩; exact ⟨_, _, Q1n hX g1, rfl, St.weak hS.sp hle⟩) (h := ?_); rintro u1 w2 ⟨rfl, g1, vc, hvc, hS⟩; have z3 := (Q57 g1).2; have hX := Q1q hX g1; (try dsimp only at hX); have hd0 := Qpe (pIns e) l4.tail; refine zn ?_; refine Q0 ?_; refine Q0 ?_; refine Q1 ?_; refine zm ?_)
  all_goals (refine zE1 (c := QoY hvc hS) (p := by rintro u9 w9 ⟨f, v', g1, rfl, hS⟩; (repeat (first | refine Qk ?_ | refine Ql ?_ | refine fun _ => ?_)); refine Qw ?_; refine .inr ⟨_, rfl, ?_⟩; exact ⟨_, _, Q1n hX (Qnr hd0 (by omega) g1), rfl, St.weak hS.sp hle⟩) (h := ?_); rintro u1 w2 ⟨x, bb, l6, vc, c3, vr, va, g1, k2, k3, hle2, hx, rfl, hvc, hS⟩; (try have hle := hle.trans hle2); (try have hkp := hkp.up hle2))
  all_goals (refine zm ?_; refine Q3F rfl rfl ?_; refine Q3F rfl rfl ?_; refine Qe hS ?_; intro p4 w1 hS; refine zsn hS ?_; intro w1 hS; have hS := hS.ns; refine zm ?_; refine zn ?_; refine Qa ?_)
  refine zo [0, 2, 3] (fun A ρ' w' => ∃ (k0 : Cx) (pq : Nat) (bb : Bool) (x : Ins) (vr va : Value) (l1 l2 : List Tok) (v2 : Value) (k : Nat) (xs : List Ins) (vb : Value) (cb : List (List Value)), Has ρ' A ∧ Has ρ' [(4, .pointer (some ⟨pq, 0, none⟩)), (5, .bool bb)] ∧ (c3.Le k0) ∧ (pIns e l1 = .ok (if bb = true then some x else none, l2)) ∧ (l1.length < k) ∧ (l2.length ≤ l1.length) ∧ (bb = true → l2.length < l1.length) ∧ (xs.length + l1.length ≤ l4.length) ∧ (insR.at k0 [.int .i64 x.op, .int .i64 x.a, .int .i64 x.b, .int .i64 x.c, .int .i64 x.k, .int .i64 x.n, vr, va] x) ∧ (tokR.sl k0 v2 l2) ∧ (insR.ls k0 cb xs) ∧ (oneC vb = true) ∧ (pAll (pIns e) l4.tail = Q2J xs (pOpts (pIns e) k l1)) ∧ St k0 w' (prs pb v2 e :: sl 54 8 vb cb :: blk pq 54 [.int .i64 x.op, .int .i64 x.a, .int .i64 x.b, .int .i64 x.c, .int .i64 x.k, .int .i64 x.n, vr, va] :: blk p3 52 [.int .i64 rg, vps, vb, .int .i64 0, .int .i64 0, .int .i64 0, .slice none 0 0, .slice none 0 0, .int .i64 0, .slice none 0 0, .slice none 0 0, .slice none 0 0] :: blk p2 52 [.int .i64 0, .slice none 0 0, .slice none 0 0, .int .i64 0, .int .i64 0, .int .i64 0, .slice none 0 0, .slice none 0 0, .int .i64 0, .slice none 0 0, .slice none 0 0, .slice none 0 0] :: L)) (fun _ w' => l4.length + 1 - slen (QpL w' p3 2)) ?_ ?_
  · exact ⟨c3, p4, bb, x, vr, va, l4.tail, l6, vc, l4.tail.length + 1, [], .slice none 0 0, [], zh, zh, St.refl hS, g1, Nat.lt_succ_self _, k2, k3, (by simp only [List.length_nil]; omega), hx, hvc, Rep.LR.nil _ _ _, rfl, hd0, by have hS := hS.nil (T := 54) (es := 8); exact hS.sp⟩
  rintro ρ w1 ⟨k0, pq, bb, x, vr, va, l1, l2, v2, k, xs, vb, cb, hA, hρ, hle2, hq, hk, hl2, hlt, hxl, hx, hv2, hlb, hvb, hd, hS⟩; obtain ⟨ρ, rfl⟩ := env2 hA hρ; have hL0 := hle2; (try have hle := hle.trans hle2); (try have hvc := hvc.up hle2); (try have hkp := hkp.up hle2); have hm0 := Q7K (j := 2) hS (i := 3) rfl rfl; have hsl0 := St.slen hS (i := 1) rfl; have hcl0 := hlb.1
  unfold Q3f
  all_goals (refine Q0 ?_; refine Q0 ?_)
  all_goals (cases bb)
  all_goals (refine Q1 ?_; refine zm ?_; refine zn ?_)
  all_goals
    first
    | (refine Q6 rfl ?_ -- Q1T c0
       all_goals (refine zsk ?_; refine Q0 ?_; refine Qa ?_; have hlt := hlt rfl; have hd4 := Qpc hd hk hq; refine Q1 ?_; refine Q2 rfl ?_; refine zl hS ?_; refine zv hS ?_; refine zB1 hS [_, _, _, _, _, _, _, _] ?_; intro b1 w1 hS; refine za el_T45 u_T45 hS ?_; intro vp1 w1 css1 hls1 hv1 hS; have hS := hS.ns; refine Q2 rfl ?_; refine zst hS ?_; intro w1 hS; have hS := hS.ns; refine zn ?_; refine Q0 ?_; refine Q0 ?_; refine Q1 ?_; refine zv hS ?_; refine zn ?_; refine Q1 ?_; refine Qe hS ?_; intro p4 w1 hS; refine zsn hS ?_; intro w1 hS; have hS := hS.ns; refine zn ?_; have hS : St k0 _ (prs pb v2 e :: sl 54 8 vp1 css1 :: blk p4 54 [.int .i64 x.op, .int .i64 x.a, .int .i64 x.b, .int .i64 x.c, .int .i64 x.k, .int .i64 x.n, vr, va] :: blk p3 52 [.int .i64 rg, vps, vp1, .int .i64 0, .int .i64 0, .int .i64 0, .slice none 0 0, .slice none 0 0, .int .i64 0, .slice none 0 0, .slice none 0 0, .slice none 0 0] :: blk p2 52 [.int .i64 0, .slice none 0 0, .slice none 0 0, .int .i64 0, .int .i64 0, .int .i64 0, .slice none 0 0, .slice none 0 0, .int .i64 0, .slice none 0 0, .slice none 0 0, .slice none 0 0] :: L) := hS.sp)
       all_goals (refine Q1 ?_; refine zm ?_)
       all_goals (refine zE1 (c := QoY hv2 hS) (p := by rintro u9 w9 ⟨f, v', g3, rfl, hS⟩; (repeat (first | refine Qk ?_ | refine Ql ?_ | refine fun _ => ?_)); refine Qw ?_; refine .inr ⟨_, rfl, ?_⟩; exact ⟨_, _, Q1n hX (Qnr hd4 (by omega) g3), rfl, St.weak hS.sp hle⟩) (h := ?_); rintro u1 w2 ⟨x3, b3, l7, v3, c4, vr3, va3, g3, k3, k4, hle2, hx3, rfl, hv3, hS⟩; (try have hle := hle.trans hle2); (try have hL0 := hL0.trans hle2); (try have hls1 := hls1.up hle2); (try have hvc := hvc.up hle2); (try have hkp := hkp.up hle2); (try have hlb := hlb.up hle2); (try have hx := hx.up hle2); (try have hv2 := hv2.up hle2); have hsl1 := St.slen hS (i := 1) rfl; have hcl1 := hls1.1; rw [List.length_append] at hcl1; have hc1 : [x].length = 1 := rfl)
       all_goals (refine zm ?_; refine Q3F rfl rfl ?_; refine Q3F rfl rfl ?_; refine zsn hS ?_; intro w1 hS; have hS := hS.ns; refine zm ?_; refine zn ?_)
       all_goals (exact ⟨⟨_, p4, b3, x3, vr3, va3, l2, l7, v3, k - 1, xs ++ [x], vp1, _, zh, zh, hL0, g3, by omega, k3, k4, (by rw [List.length_append]; omega), hx3, hv3, hls1, hv1, hd4, hS.sp⟩, by rw [hm0, Q7K (j := 2) hS (i := 3) rfl rfl]; omega⟩))
    | (refine Q5 rfl ?_ -- Q1T c0
       all_goals (refine zex ?_)
       all_goals (have hfin := Qpd hd hk hq; have hX := Q1q hX hfin; (try dsimp only at hX); obtain ⟨c6, hle2, hS2, hkc⟩ := St.freezeL (r := insR) (hS.out (r := sl 54 8 vb cb) fd) hlb rfl (by omega); clear hS; have hS := hS2; simp only [List.eraseIdx_cons_zero, List.eraseIdx_cons_succ] at hS; (try have hle := hle.trans hle2); (try have hL0 := hL0.trans hle2); (try have hvc := hvc.up hle2); (try have hkp := hkp.up hle2); (try have hlb := hlb.up hle2); (try have hx := hx.up hle2); (try have hv2 := hv2.up hle2))
       all_goals (refine Q0 ?_; have hS : St c6 _ (prs pb v2 e :: blk p3 52 [.int .i64 rg, vps, vb, .int .i64 0, .int .i64 0, .int .i64 0, .slice none 0 0, .slice none 0 0, .int .i64 0, .slice none 0 0, .slice none 0 0, .slice none 0 0] :: blk p2 52 [.int .i64 0, .slice none 0 0, .slice none 0 0, .int .i64 0, .int .i64 0, .int .i64 0, .slice none 0 0, .slice none 0 0, .int .i64 0, .slice none 0 0, .slice none 0 0, .slice none 0 0] :: L) := hS.sp; refine Q1 ?_; refine zm ?_)
       all_goals (refine zE1 (c := prends_c hv2 hS) (p := by rintro u9 w9 ⟨f, v', g1, rfl, hS⟩; (repeat (first | refine Qk ?_ | refine Ql ?_ | refine fun _ => ?_)); refine Qw ?_; refine .inr ⟨_, rfl, ?_⟩; exact ⟨_, _, Q1n hX g1, rfl, St.weak hS.sp hle⟩) (h := ?_); rintro u1 w2 ⟨t, l8, v8, c7, ds, g1, k5, hle2, hd5, rfl, hvc, hS⟩; have hX := Q1q hX g1; (try dsimp only at hX); have hd6 := hd5; obtain ⟨y1, y2, y3, y4, y5, rfl, i1, i2, i3, i4, i5⟩ := Qex hd5; unfold Q5t; (try have hle := hle.trans hle2); (try have hL0 := hL0.trans hle2); (try have hkp := hkp.up hle2); (try have hlb := hlb.up hle2); (try have hx := hx.up hle2); (try have hkc := hkc.up hle2); (try have hv2 := hv2.up hle2); have hone := endR.one hd6; have hbk : blockR.at c7 [.int .i64 rg, vps, vb, .int .i64 t.op, .int .i64 t.a, .int .i64 t.yes.block, y1, y2, .int .i64 t.no.block, y3, y4, y5] ⟨rg, ps, xs, t⟩ := Qmc (x := ⟨rg, ps, xs, t⟩) hkp hkc i1 i2 i3 i4 i5)
       all_goals (refine Q2 rfl ?_; (first | (refine zsn hS ?_; intro w1 hS; have hS := hS.ns) | (refine zsm hS ?_; intro w1 hS; have hS := hS.ns)); refine zn ?_; refine Q0 ?_; refine Q1 ?_; refine zm ?_; refine zB1 hS [_] ?_; intro b1 w1 hS; have hS := Q1G (s := [125]) hS; refine zE2 (c := Q1E hvc hS) (p := by rintro u9 w9 ⟨f, v', g1, rfl, hS⟩; (repeat (first | refine Qk ?_ | refine Ql ?_ | refine fun _ => ?_)); refine Qw ?_; refine .inr ⟨_, rfl, ?_⟩; exact ⟨_, _, Q1n hX g1, rfl, St.weak hS.sp hle⟩) (h := ?_); rintro u1 w2 ⟨rfl, g1, vc, hvc, hS⟩; have z9 := (Q57 g1).2; have hX := Q1q hX g1; (try dsimp only at hX); refine zn ?_; refine Q0 ?_; refine Q1 ?_; refine zv hS ?_; refine zsn hS ?_; intro w1 hS; have hS := hS.ns; refine zn ?_; refine zr ?_; refine Q3V vw (Qi (n := 12) (by kernel_rfl) (by kernel_rfl) (hS.blkAt fd) (by rfl) (by rfl)) ?_)
       all_goals (exact .inl ⟨_, rfl, ⟨rg, ps, xs, t⟩, l8.tail, vc, c7, _, hX, by omega, hle, hbk, rfl, hvc, hS.sp⟩))
theorem prfun_c {pb e : Nat} {v : Value} {l : List Tok} (hN : l.length ≤ 100000) (hv : tokR.sl cx v l) (hS : St cx w (prs pb v e :: L)) :
    Fins Tryz.prog Q1v [.pointer (some ⟨pb, 0, none⟩)] w (POk funcR Q5t (pFun e l) pb e (l.length - 1) cx L) (PBad (pFun e l) pb e cx L) := by
  have hle := St.refl hS
  have hX := func_X (e := e) (l := l)
  unfold Fins
  all_goals refine Q4V ?_
  all_goals (unfold parse_parser_function_lc; refine Q0 ?_; refine Q1 ?_; refine Qe hS ?_; intro p2 w1 hS; refine zn ?_; refine Q0 ?_; have hS : St cx _ (prs pb v e :: blk p2 43 [.int .i64 0, .slice none 0 0, .slice none 0 0, .slice none 0 0] :: L) := hS.sp; refine Q1 ?_; refine zm ?_; refine zB1 hS [_] ?_; intro b1 w1 hS; have hS := Q1G (s := Q7N) hS; refine zE2 (c := Q1E hv hS) (p := by rintro u9 w9 ⟨f, v', g1, rfl, hS⟩; (repeat (first | refine Qk ?_ | refine Ql ?_ | refine fun _ => ?_)); refine Qw ?_; refine .inr ⟨_, rfl, ?_⟩; exact ⟨_, _, Q1n hX g1, rfl, St.weak hS.sp hle⟩) (h := ?_); rintro u1 w2 ⟨rfl, g1, vc, hvc, hS⟩; have z1 := (Q57 g1).2; have hX := Q1q hX g1; (try dsimp only at hX); refine zn ?_; refine Q0 ?_; refine Q1 ?_; refine zm ?_; refine zE1 (c := Q1Y hvc hS) (p := by rintro u9 w9 ⟨f, v', g1, rfl, hS⟩; (repeat (first | refine Qk ?_ | refine Ql ?_ | refine fun _ => ?_)); refine Qw ?_; refine .inr ⟨_, rfl, ?_⟩; exact ⟨_, _, Q1n hX g1, rfl, St.weak hS.sp hle⟩) (h := ?_); rintro u1 w2 ⟨rg, vc, g1, rfl, hvc, hS⟩; have hX := Q1q hX g1; (try dsimp only at hX); have z2 := Q9 l.tail; refine zb1 [_, _, _, _] ?_; refine Qe hS ?_; intro p3 w1 hS; refine zsn hS ?_; intro w1 hS; have hS := hS.ns; refine zn ?_; refine Q0 ?_; have hS : St cx _ (prs pb vc e :: blk p3 43 [.int .i64 rg, .slice none 0 0, .slice none 0 0, .slice none 0 0] :: blk p2 43 [.int .i64 0, .slice none 0 0, .slice none 0 0, .slice none 0 0] :: L) := hS.sp)
  all_goals (refine Q1 ?_; refine zm ?_)
  all_goals (refine zE1 (c := Qkh hvc hS) (p := by rintro u9 w9 ⟨f, v', g1, rfl, hS⟩; (repeat (first | refine Qk ?_ | refine Ql ?_ | refine fun _ => ?_)); refine Qw ?_; refine .inr ⟨_, rfl, ?_⟩; exact ⟨_, _, Q1n hX g1, rfl, St.weak hS.sp hle⟩) (h := ?_); rintro vps w2 ⟨ps, l4, vc, c2, g1, k1, hle2, hkp, hvc, hS⟩; have hX := Q1q hX g1; (try dsimp only at hX); (try have hle := hle.trans hle2); have ho := Rep.SR.oneC hkp)
  all_goals (refine Q2 rfl ?_; refine zst hS ?_; intro w1 hS; have hS := hS.ns; refine zn ?_; refine Q0 ?_; have hS : St c2 _ (prs pb vc e :: blk p3 43 [.int .i64 rg, vps, .slice none 0 0, .slice none 0 0] :: blk p2 43 [.int .i64 0, .slice none 0 0, .slice none 0 0, .slice none 0 0] :: L) := hS.sp; refine Q1 ?_; refine zm ?_; refine zB1 hS [_] ?_; intro b1 w1 hS; have hS := Q1G (s := Q3Q) hS; refine zE2 (c := Q1E hvc hS) (p := by rintro u9 w9 ⟨f, v', g1, rfl, hS⟩; (repeat (first | refine Qk ?_ | refine Ql ?_ | refine fun _ => ?_)); refine Qw ?_; refine .inr ⟨_, rfl, ?_⟩; exact ⟨_, _, Q1n hX g1, rfl, St.weak hS.sp hle⟩) (h := ?_); rintro u1 w2 ⟨rfl, g1, vc, hvc, hS⟩; have z3 := (Q57 g1).2; have hX := Q1q hX g1; (try dsimp only at hX); refine zn ?_; refine Q0 ?_; have hS : St c2 _ (prs pb vc e :: blk p3 43 [.int .i64 rg, vps, .slice none 0 0, .slice none 0 0] :: blk p2 43 [.int .i64 0, .slice none 0 0, .slice none 0 0, .slice none 0 0] :: L) := hS.sp; refine Q1 ?_; refine zm ?_)
  all_goals (refine zE1 (c := Qkh hvc hS) (p := by rintro u9 w9 ⟨f, v', g1, rfl, hS⟩; (repeat (first | refine Qk ?_ | refine Ql ?_ | refine fun _ => ?_)); refine Qw ?_; refine .inr ⟨_, rfl, ?_⟩; exact ⟨_, _, Q1n hX g1, rfl, St.weak hS.sp hle⟩) (h := ?_); rintro vrs w2 ⟨rs, l5, vc, c3, g1, k2, hle2, hkr, hvc, hS⟩; have hX := Q1q hX g1; (try dsimp only at hX); (try have hle := hle.trans hle2); (try have hkp := hkp.up hle2); have ho2 := Rep.SR.oneC hkr)
  all_goals (refine Q2 rfl ?_; refine zst hS ?_; intro w1 hS; have hS := hS.ns; refine zn ?_; refine Q0 ?_; have hS : St c3 _ (prs pb vc e :: blk p3 43 [.int .i64 rg, vps, vrs, .slice none 0 0] :: blk p2 43 [.int .i64 0, .slice none 0 0, .slice none 0 0, .slice none 0 0] :: L) := hS.sp; refine Q1 ?_; refine zm ?_; refine zB1 hS [_] ?_; intro b1 w1 hS; have hS := Q1G (s := [123]) hS; refine zE2 (c := Q1E hvc hS) (p := by rintro u9 w9 ⟨f, v', g1, rfl, hS⟩; (repeat (first | refine Qk ?_ | refine Ql ?_ | refine fun _ => ?_)); refine Qw ?_; refine .inr ⟨_, rfl, ?_⟩; exact ⟨_, _, Q1n hX g1, rfl, St.weak hS.sp hle⟩) (h := ?_); rintro u1 w2 ⟨rfl, g1, vc, hvc, hS⟩; have z4 := (Q57 g1).2; have hX := Q1q hX g1; (try dsimp only at hX); have hd0 := Qpe (pIf (isT Q1R) (Q3v e)) l5.tail; refine zn ?_; refine Q0 ?_; refine Qa ?_)
  refine zo [0, 2, 3] (fun A ρ' w' => ∃ (k0 : Cx) (l1 : List Tok) (v1 : Value) (k : Nat) (xs : List Block) (vb : Value) (cb : List (List Value)), Has ρ' A ∧ Has ρ' [] ∧ (c3.Le k0) ∧ (l1.length < k) ∧ (xs.length + l1.length ≤ l5.length) ∧ (tokR.sl k0 v1 l1) ∧ (blockR.ls k0 cb xs) ∧ (oneC vb = true) ∧ (pAll (pIf (isT Q1R) (Q3v e)) l5.tail = Q2J xs (pOpts (pIf (isT Q1R) (Q3v e)) k l1)) ∧ St k0 w' (prs pb v1 e :: sl 52 12 vb cb :: blk p3 43 [.int .i64 rg, vps, vrs, vb] :: blk p2 43 [.int .i64 0, .slice none 0 0, .slice none 0 0, .slice none 0 0] :: L)) (fun _ w' => l5.length + 1 - slen (QpL w' p3 3)) ?_ ?_
  · exact ⟨c3, l5.tail, vc, l5.tail.length + 1, [], .slice none 0 0, [], zh, zh, St.refl hS, Nat.lt_succ_self _, (by simp only [List.length_nil]; omega), hvc, Rep.LR.nil _ _ _, rfl, hd0, by have hS := hS.nil (T := 52) (es := 12); exact hS.sp⟩
  rintro ρ w1 ⟨k0, l1, v1, k, xs, vb, cb, hA, hρ, hle2, hk, hxl, hv1, hlb, hvb, hd, hS⟩; obtain ⟨ρ, rfl⟩ := env2 hA hρ; have hL0 := hle2; (try have hle := hle.trans hle2); (try have hvc := hvc.up hle2); (try have hkp := hkp.up hle2); (try have hkr := hkr.up hle2); have hm0 := Q7K (j := 3) hS (i := 2) rfl rfl; have hsl0 := St.slen hS (i := 1) rfl; have hcl0 := hlb.1
  unfold Q2B
  all_goals (refine Q0 ?_; refine Q0 ?_; refine Q1 ?_; refine zm ?_)
  all_goals (refine zR2 (c := is_c (s := Q1R) hv1 hS) (h := ?_); rintro u1 w1 ⟨rfl, hS⟩; cases hq : isT Q1R l1)
  all_goals (refine zn ?_)
  all_goals
    first
    | (refine Q6 rfl ?_ -- Q1v c0
       all_goals (refine zsk ?_; refine Qa ?_; refine zC [(0, none), (1, none), (2, none), (3, some (some [1])), (4, some (some [1])), (5, some none), (6, none), (7, some none)] ?_; have hS := hS.drew; refine s_cq ?_; refine Q2 rfl ?_; refine zt ?_; refine s_cq ?_; refine zl hS ?_; refine zt ?_; refine s_cq ?_; refine zm ?_; refine zt ?_; refine Q1e ?_)
       all_goals (refine zE1 (c := QoZ (by omega) hv1 hS) (p := by rintro u9 w9 ⟨f, v', g1, rfl, hS⟩; (repeat (first | refine Qk ?_ | refine Ql ?_ | refine fun _ => ?_)); refine Qw ?_; refine .inr ⟨_, rfl, ?_⟩; exact ⟨_, _, Q1n hX (Qnr hd hk (pif_e hq g1)), rfl, St.weak hS.sp hle⟩) (h := ?_); rintro u1 w2 ⟨x, l8, v8, c8, ds, g1, k8, hle2, hx8, rfl, hv8, hS⟩; (try have hle := hle.trans hle2); (try have hL0 := hL0.trans hle2); (try have hvc := hvc.up hle2); (try have hkp := hkp.up hle2); (try have hkr := hkr.up hle2); (try have hlb := hlb.up hle2); (try have hv1 := hv1.up hle2); have hd9 := hx8; obtain ⟨n1, n2, n3, n4, n5, n6, n7, rfl, -⟩ := Q1B hx8; unfold Q5t; have hd4 := Qpc hd hk (pif_o hq g1); have z8 := isT_lt hq; have z9 := Q9 l1)
       all_goals (refine zt ?_; refine zy ?_; refine Q1e ?_; refine zB1 hS [_, _, _, _, _, _, _, _, _, _, _, _] ?_; intro b1 w1 hS; refine zt ?_; refine zy ?_; refine s_cf ?_; refine za el_T41 u_T41 hS ?_; intro vp1 w1 css1 hls1 hv1 hS; have hS := hS.ns; refine zt ?_; refine s_cq ?_; refine Q2 rfl ?_; refine zt ?_; refine s_cf ?_; refine zst hS ?_; intro w1 hS; have hS := hS.ns; refine zt ?_; refine zcn ?_)
       all_goals (exact ⟨⟨_, l8, v8, k - 1, xs ++ [x], _, _, zh, zh, hL0, by omega, (by rw [List.length_append]; simp only [List.length_cons, List.length_nil]; omega), hv8, hls1, by assumption, hd4, hS.sp⟩, by rw [hm0, Q7K (j := 3) hS (i := 3) rfl rfl, St.slen hS (i := 2) rfl, hsl0, hcl0, hls1.1, List.length_append]; simp only [List.length_cons, List.length_nil]; omega⟩))
    | (refine Q5 rfl ?_ -- Q1v c0
       all_goals (refine zex ?_)
       all_goals (have hfin := Qpd hd hk (pif_n hq); have hX := Q1q hX hfin; (try dsimp only at hX); obtain ⟨c6, hle2, hS2, hkb⟩ := St.freezeL (r := blockR) (hS.out (r := sl 52 12 vb cb) fd) hlb rfl (by omega); clear hS; have hS := hS2; simp only [List.eraseIdx_cons_zero, List.eraseIdx_cons_succ] at hS; (try have hle := hle.trans hle2); (try have hL0 := hL0.trans hle2); (try have hvc := hvc.up hle2); (try have hkp := hkp.up hle2); (try have hkr := hkr.up hle2); (try have hlb := hlb.up hle2); (try have hv1 := hv1.up hle2); have hfn : funcR.at c6 [.int .i64 rg, vps, vrs, vb] ⟨rg, ps, rs, xs⟩ := ⟨_, _, _, rfl, hkp, hkr, hkb⟩)
       all_goals (refine Q0 ?_; have hS : St c6 _ (prs pb v1 e :: blk p3 43 [.int .i64 rg, vps, vrs, vb] :: blk p2 43 [.int .i64 0, .slice none 0 0, .slice none 0 0, .slice none 0 0] :: L) := hS.sp; refine Q1 ?_; refine zm ?_; refine zB1 hS [_] ?_; intro b1 w1 hS; have hS := Q1G (s := [125]) hS; refine zE2 (c := Q1E hv1 hS) (p := by rintro u9 w9 ⟨f, v', g1, rfl, hS⟩; (repeat (first | refine Qk ?_ | refine Ql ?_ | refine fun _ => ?_)); refine Qw ?_; refine .inr ⟨_, rfl, ?_⟩; exact ⟨_, _, Q1n hX g1, rfl, St.weak hS.sp hle⟩) (h := ?_); rintro u1 w2 ⟨rfl, g1, vc, hvc, hS⟩; have z10 := (Q57 g1).2; have hX := Q1q hX g1; (try dsimp only at hX); refine zn ?_; refine Q0 ?_; refine Q1 ?_; refine zv hS ?_; refine zsn hS ?_; intro w1 hS; have hS := hS.ns; refine zn ?_; refine zr ?_; refine Q3V vw (Qi (n := 4) (by kernel_rfl) (by kernel_rfl) (hS.blkAt fd) (by rfl) (by rfl)) ?_)
       all_goals (exact .inl ⟨_, rfl, ⟨rg, ps, rs, xs⟩, l1.tail, vc, c6, _, hX, by omega, hle, hfn, rfl, hvc, hS.sp⟩))
end Go.Proofs.YtjecflbbcnocdaaGreatDoor
namespace Go.Lir
section
variable {α β : Type} {e k n : Nat} {P : α → Prop} {Q : β → Prop} {A B : List Tok → PGot α} {x : α}
def Q1C (f : List Tok → PGot α) (P : α → Prop) : Prop := ∀ l x l', l.length ≤ 50000 → f l = .ok (x, l') → P x ∧ l'.length ≤ l.length
theorem Qpx {P' : α → Prop} (h : Q1C A P) (hw : ∀ x, P x → P' x) : Q1C A P' := fun l x l' h1 h2 => ⟨hw _ (h l x l' h1 h2).1, (h l x l' h1 h2).2⟩
theorem Qj {f : α → List Tok → PGot β} (h : Q1C A P) (hf : ∀ a, P a → Q1C (f a) Q) : Q1C (fun l => Qd (A l) f) Q := by
  intro l x l' h1 h2
  dsimp only at h2
  cases hA : A l with
  | error g => rw [hA] at h2; cases h2
  | ok y =>
    obtain ⟨a, l1⟩ := y
    rw [hA] at h2
    have h3 := h l a l1 h1 hA
    have h4 := hf a h3.1 l1 x l' (by omega) h2
    exact ⟨h4.1, by omega⟩
theorem QJ (h : P x) : Q1C (fun l => .ok (x, l)) P := by
  intro l y l' h1 h2; cases h2; exact ⟨h, Nat.le_refl _⟩
theorem gp_t (h : Q1C A P) : Q1C (fun l => A l.tail) P := by
  intro l y l' h1 h2
  have := Q9 l
  have h3 := h l.tail y l' (by omega) h2
  exact ⟨h3.1, by omega⟩
theorem QpC {g : List Tok → Flt} : Q1C (fun l => .error (g l)) P := by intro l y l' h1 h2; cases h2
theorem QkE {c : List Tok → Prop} [DecidablePred c] (h1 : Q1C A P) (h2 : Q1C B P) : Q1C (fun l => if c l then A l else B l) P := by
  intro l y l' h3 h4
  dsimp only at h4
  split at h4
  · exact h1 l y l' h3 h4
  · exact h2 l y l' h3 h4
theorem Q9w {c : Prop} [Decidable c] (h1 : Q1C A P) (h2 : Q1C B P) : Q1C (fun l => if c then A l else B l) P := by
  split
  · exact h1
  · exact h2
abbrev Any : α → Prop := fun _ => True
theorem Q2v {s : List UInt8} : Q1C (want e s) Any := QkE (gp_t (A := fun l => .ok ((), l)) (QJ trivial)) QpC
theorem gp_long : Q1C (Qbc e) Any := by
  intro l x l' h1 h2
  have := Qpm h2
  exact ⟨trivial, by omega⟩
theorem Q20 : Q1C (pNum e) Any := by
  intro l x l' h1 h2
  have := num_lt h2
  exact ⟨trivial, by omega⟩
theorem gp_kind : Q1C (QfM e) Any := QkE QpC (by intro l x l' h1 h2; cases h2; exact ⟨trivial, Q9 l⟩)
theorem QpA {cl : List UInt8} (h : Q1C A P) : ∀ k n, Q1C (pMany e cl A k n) (fun l => l.length ≤ k ∧ ∀ x ∈ l, P x)
  | 0, n => QpC
  | k + 1, n => by
    have e9 : pMany e cl A (k + 1) n = fun l => if isT cl l = true then .ok ([], l.tail) else Qd ((fun l => if n = 0 then .ok ((), l) else want e [44] l) l) fun _ l => Qd (A l) fun x l => Qd (pMany e cl A k (n + 1) l) fun xs l => .ok (x :: xs, l) := by funext l; rw [pMany]
    rw [e9]
    refine QkE (gp_t (A := fun l => .ok ([], l)) (QJ ⟨by simp, by simp⟩)) (Qj (Q9w (QJ (P := Any) trivial) Q2v) fun _ _ => Qj h fun x hx => Qj (QpA h k (n + 1)) fun xs hxs => QJ ⟨by simp; omega, ?_⟩)
    intro y hy
    rcases List.mem_cons.1 hy with rfl | hy
    · exact hx
    · exact hxs.2 y hy
theorem QmV {b cl : List UInt8} (h : Q1C A P) : Q1C (Q1X e b cl A) (fun l => l.length ≤ 101 ∧ ∀ x ∈ l, P x) := Qj Q2v fun _ _ => QpA h 101 0
theorem QpB {b cl : List UInt8} : Q1C (Q1X e b cl (pNum e)) (fun l => l.length ≤ 100000) := Qpx (QmV Q20) fun l h => by omega
theorem gp_typ : ∀ k, Q1C (pTyp e k) Ty.Short
  | 0 => by intro l x l' h1 h2; rw [show pTyp e 0 l = .error (Q43 e 19 l) by rw [pTyp]] at h2; cases h2
  | k + 1 => by
    have e9 : pTyp e (k + 1) = fun l => if isT tInt l = true then .ok (.mk 1 0 [], l.tail)
      else if isT Q3k l = true then Qd (pNum e l.tail) fun n l => .ok (.mk 2 n [], l)
      else if isT Q9p l = true then Qd (pNum e l.tail) fun n l => .ok (.mk 4 n [], l)
      else Qd (want e Q3s l) fun _ l => Qd (pNum e l) fun n l => Qd (Q1X e [40] [41] (pTyp e k) l) fun ts l => .ok (.mk 3 n ts, l) := by funext l; rw [pTyp]
    rw [e9]
    have hz : ∀ (a b : Int), Ty.Short (.mk a b []) := fun a b => .mk (by simp) (by simp)
    exact QkE (gp_t (A := fun l => .ok (Ty.mk 1 0 [], l)) (QJ (hz _ _))) (QkE (Qj (gp_t Q20) fun n _ => QJ (hz _ _)) (QkE (Qj (gp_t Q20) fun n _ => QJ (hz _ _)) (Qj Q2v fun _ _ => Qj Q20 fun n _ => Qj (QmV (gp_typ k)) fun ts ht => QJ (.mk (by omega) ht.2))))
theorem QkD : Q1C (Q4g e) Tys.Short := Qpx (QmV (gp_typ 5)) fun l h => ⟨by omega, h.2⟩
theorem Qpy : Q1C (QnY e) (fun l => l.length ≤ 100000) := QpB
theorem QkF : Q1C (QhR e) (fun l => l.length ≤ 100000) := QpB
theorem gp_body {op : Int} : Q1C (Q4Z e op) Ins.Short := by
  have z : ∀ a b c d f g : Int, Ins.Short ⟨a, b, c, d, f, g, [], []⟩ := fun _ _ _ _ _ _ => ⟨by simp, by simp⟩
  refine Q9w (Qj gp_long fun n _ => QJ (z ..)) ?_
  refine Q9w (Qj gp_kind fun k _ => Qj Q20 fun a _ => Qj Q20 fun b _ => QJ (z ..)) ?_
  refine Q9w (Qj Q20 fun a _ => QJ (z ..)) ?_
  refine Q9w (Qj Q20 fun a _ => Qj QkF fun g hg => QJ ⟨by simp, hg⟩) ?_
  refine Q9w (Qj Q20 fun a _ => Qj Q20 fun k _ => QJ (z ..)) ?_
  refine Q9w (Qj Q20 fun a _ => Qj Q20 fun k _ => Qj Q20 fun b _ => QJ (z ..)) ?_
  refine Q9w (Qj Q20 fun a _ => Qj Q20 fun b _ => QJ (z ..)) ?_
  refine Q9w (Qj Q20 fun a _ => Qj Q20 fun b _ => Qj Q20 fun c _ => QJ (z ..)) ?_
  exact Q9w (Qj Q20 fun k _ => Qj Qpy fun r hr => Qj QkF fun g hg => QJ ⟨hr, hg⟩) (QJ (z ..))
theorem gp_ins : Q1C (pIns e) (fun o => ∀ x, o = some x → Ins.Short x) := by
  intro l x l' h1 h2
  unfold pIns at h2
  split at h2
  · cases h2; exact ⟨fun x h => (by cases h), Nat.le_refl _⟩
  · exact (gp_t (Qj gp_body fun x hx => Qj Q2v fun _ _ => QJ (P := fun o => ∀ x, o = some x → Ins.Short x) (fun y h => by cases h; exact hx))) l x l' h1 h2
theorem gp_to : Q1C (pTo e) To.Short := Qj Q20 fun b _ => Qj Qpy fun r hr => Qj QkF fun g hg => QJ ⟨hr, hg⟩
theorem gp_tail : Q1C (Q5u e) Tail.Short := by
  have hz : To.Short ⟨0, [], []⟩ := ⟨by simp, by simp⟩
  refine QkE (Qj (gp_t gp_to) fun y hy => QJ ⟨hy, hz, by simp⟩) (QkE ?_ ?_)
  · exact Qj (gp_t Q20) fun a _ => Qj Q2v fun _ _ => Qj gp_to fun y hy => Qj Q2v fun _ _ => Qj gp_to fun n hn => QJ ⟨hy, hn, by simp⟩
  · exact Qj Q2v fun _ _ => Qj QkF fun g hg => QJ ⟨hz, hz, hg⟩
theorem gp_ends : Q1C (Qag e) Tail.Short := Qj gp_tail fun t ht => Qj Q2v fun _ _ => QJ ht
theorem Qpz {f : List Tok → PGot (Option α)} (h : Q1C f (fun o => ∀ x, o = some x → P x)) : ∀ k, Q1C (pOpts f k) (fun l => l.length ≤ k ∧ ∀ x ∈ l, P x)
  | 0 => QJ ⟨by simp, by simp⟩
  | k + 1 => by
    have e9 : pOpts f (k + 1) = fun l => Qd (f l) fun o l => match o with
      | none => .ok ([], l)
      | some x => Qd (pOpts f k l) fun xs l => .ok (x :: xs, l) := by funext l; rw [pOpts]; rfl
    rw [e9]
    refine Qj h fun o ho => ?_
    cases o with
    | none => exact QJ ⟨by simp, by simp⟩
    | some x =>
      refine Qj (Qpz h k) fun xs hxs => QJ ⟨by simp; omega, ?_⟩
      intro y hy
      rcases List.mem_cons.1 hy with rfl | hy
      · exact ho _ rfl
      · exact hxs.2 y hy
theorem QpD {f : List Tok → PGot (Option α)} (h : Q1C f (fun o => ∀ x, o = some x → P x)) : Q1C (pAll f) (fun l => l.length ≤ 100000 ∧ ∀ x ∈ l, P x) := by
  intro l x l' h1 h2
  have h3 := Qpz h (l.length + 1) l x l' h1 h2
  exact ⟨⟨by omega, h3.1.2⟩, h3.2⟩
theorem gp_pif {p : List Tok → Bool} (h : Q1C A P) : Q1C (pIf p A) (fun o => ∀ x, o = some x → P x) :=
  QkE (Qj h fun x hx => QJ (fun y h => by cases h; exact hx)) (QJ fun y h => by cases h)
theorem gp_block : Q1C (Q3v e) Block.Short :=
  Qj Q2v fun _ _ => Qj Q20 fun g _ => Qj QkD fun ps hp => Qj Q2v fun _ _ => Qj (QpD gp_ins) fun c hc => Qj gp_ends fun t ht => Qj Q2v fun _ _ => QJ ⟨hp, hc.1, hc.2, ht⟩
theorem gp_fun : Q1C (pFun e) Fun.Short :=
  Qj Q2v fun _ _ => Qj Q20 fun g _ => Qj QkD fun ps hp => Qj Q2v fun _ _ => Qj QkD fun rs hr => Qj Q2v fun _ _ => Qj (QpD (gp_pif gp_block)) fun bl hb => Qj Q2v fun _ _ => QJ ⟨hp, hr, hb.1, hb.2⟩
theorem QmF {l l' : List Tok} {fs : List Fun} (hl : l.length ≤ 50000) (h : QmM e l = .ok (fs, l')) : (Module.mk fs).Short := by
  have := (QpD (gp_pif gp_fun) l fs l' hl h).1
  exact ⟨this.1, this.2⟩
theorem Qlz {n : Nat} : ∀ {k : Nat} {l : List UInt8} {acc res : List Tok}, Q3o n k l acc = .ok res → res.length ≤ acc.length + l.length
  | 0, l, acc, res, h => by rw [Q3o] at h; cases h; omega
  | k + 1, [], acc, res, h => by rw [Q3o] at h; cases h; omega
  | k + 1, c :: r, acc, res, h => by
    rw [Q3o] at h
    split at h
    · cases h
    · rename_i t m ht
      have h1 := Qlz h
      have h2 := Qeq ht
      have h3 := Q7E false ((c :: r).drop t.length)
      rw [List.length_drop] at h3
      simp only [List.length_append, List.length_cons, List.length_nil] at h1 h2 h3 ⊢
      omega
theorem scan_cnt {s : List UInt8} {l : List Tok} (h : scan s = .ok l) : l.length ≤ 40000 ∧ s.length ≤ 40000 := by
  unfold scan at h
  split at h
  · cases h
  · have h1 := Qlz h
    have h2 := Q7E false s
    simp only [List.length_nil] at h1
    exact ⟨by omega, by omega⟩
variable {s : List UInt8} {l l' : List Tok} {f : Flt} {fs : List Fun}
theorem QmH (h : scan s = .error f) : Qaf s = .error f := by unfold Qaf; rw [h]
theorem parse_e (h : scan s = .ok l) (h2 : QmM s.length l = .error f) : Qaf s = .error f := by unfold Qaf; rw [h]; dsimp only; rw [h2]
theorem Qp8 (h : scan s = .ok l) (h2 : QmM s.length l = .ok (fs, l')) (h3 : (Module.fault ⟨fs⟩).1 ≠ 0) : Qaf s = .error (Module.fault ⟨fs⟩) := by unfold Qaf; rw [h]; dsimp only; rw [h2]; dsimp only; rw [if_pos h3]
theorem parse_o (h : scan s = .ok l) (h2 : QmM s.length l = .ok (fs, l')) (h3 : (Module.fault ⟨fs⟩).1 = 0) : Qaf s = .ok ⟨fs⟩ := by unfold Qaf; rw [h]; dsimp only; rw [h2]; dsimp only; rw [if_neg (by rw [h3]; decide)]
end
end Go.Lir
namespace Go.Proofs.YtjecflbbcnocdaaGreatDoor
open Go.Lir
set_option maxHeartbeats 1000000
attribute [local irreducible] LC.wp Q3 Qt QA retQ Q1m LO.wp Qm Calls
set_option linter.unusedSimpArgs false
set_option linter.unusedVariables false
attribute [local irreducible] skip
variable {cx : Cx} {w : World} {L : List Res}
@[reducible] def scn (sb : Nat) (src : List UInt8) (i : Nat) : Res := blk sb 124 [.string ⟨src.toArray⟩, .int .i64 (i : Int)]
theorem QpS {src : List UInt8} {sb at0 : Nat} (hl : src.length ≤ 100000) (ha : at0 ≤ src.length) (hS : St cx w (scn sb src at0 :: L)) : Rets Tryz.prog Qq [.pointer (some ⟨sb, 0, none⟩)] w fun u w' => ∃ at1, u = .tuple #[] ∧ at0 ≤ at1 ∧ at1 ≤ src.length ∧ src.drop at1 = skip false (src.drop at0) ∧ St cx w' (scn sb src at1 :: L) := by
  all_goals refine Q62 ?_
  all_goals (unfold token_scanner_blank_lc; refine Q0 ?_; refine Q1 ?_; refine zm ?_; refine zn ?_; refine Qa ?_)
  refine zo [0] (fun A ρ' w' => ∃ (rem : Bool) (i : Nat) (qc : Value), Has ρ' A ∧ Has ρ' [(2, .bool rem), (3, qc)] ∧ (at0 ≤ i) ∧ (i ≤ src.length) ∧ (skip false (src.drop at0) = skip rem (src.drop i)) ∧ St cx w' (scn sb src i :: L)) (fun _ w' => (src.length - QpM w' sb 1).toNat) ?_ ?_
  · exact ⟨false, at0, _, zh, zh, (by omega), (by omega), rfl, hS.sp⟩
  rintro ρ w1 ⟨rem, i, qc, hA, hρ, hi0, hi, hd, hS⟩; obtain ⟨ρ, rfl⟩ := env2 hA hρ; have hm0 := Q7L (j := 1) hS (i := 0) rfl rfl
  unfold Q32
  all_goals (refine Q0 ?_; refine Q0 ?_; refine zD [(0, none), (1, none), (2, none), (3, none), (4, none), (5, none), (6, none), (7, none), (8, none), (9, some none)] ?_; have hS := hS.drew; refine zm ?_; refine Qh rfl ?_; refine Q2 rfl ?_; refine zl hS ?_; refine zm ?_; refine Qh rfl ?_; refine Q2 rfl ?_; refine zl hS ?_; refine Q3S rfl ?_)
  all_goals (first | (refine Q3i ?_) | (refine Q3j ?_) | (refine Q1w rfl rfl (fun hc => ?_) (fun hc => ?_)))
  all_goals (refine zn ?_)
  all_goals
    first
    | (refine Q5 rfl ?_ -- Qq c0
       all_goals (refine zex ?_)
       all_goals (refine Q3W ?_; exact ⟨_, rfl, i, rfl, hi0, hi, (by rw [hd, List.drop_of_length_le (by omega), skip_nil]), hS.sp⟩))
    | (refine Q6 rfl ?_ -- Qq c0
       all_goals (refine zsk ?_)
       refine zM [0] (fun A ρ' w' => ∃ (rem2 : Bool), Has ρ' A ∧ Has ρ' [(2, .bool rem2)] ∧ (skip false (src.drop at0) = skip rem2 (src.drop (i + 1))) ∧ St cx w' (scn sb src i :: L)) ?_ ?_
       · skip
         all_goals (refine Qa ?_; refine Q0 ?_; obtain ⟨c, hc9⟩ : ∃ x, src[i]? = some x := ⟨_, List.getElem?_eq_getElem (by omega)⟩; rw [Q7 hc9] at hd; refine zD [(0, none), (1, none), (2, none), (3, none), (4, none), (5, none), (6, none), (7, none), (8, none), (9, some none)] ?_; have hS := hS.drew; refine zm ?_; refine Qh rfl ?_; refine Q2 rfl ?_; refine zl hS ?_; refine zm ?_; refine Qh rfl ?_; refine Q2 rfl ?_; refine zl hS ?_; refine QjC rfl rfl hc9 ?_; refine zm ?_; refine zn ?_; refine Qa ?_; refine Q0 ?_; refine Q1 ?_; refine zm ?_)
         all_goals (first | (refine QB ?_) | (refine QF ?_) | (refine Qf rfl rfl (fun hc => ?_) (fun hc => ?_)))
         all_goals (refine zm ?_; refine zn ?_)
         all_goals
           first
           | (refine Q6 rfl ?_ -- Qq c1
              all_goals (refine Q1 ?_; refine zm ?_)
              all_goals refine zn ?_)
           | (refine Q5 rfl ?_ -- Qq c1
              all_goals (refine Q0 ?_)
              all_goals (cases rem)
              all_goals (refine Q1 ?_; refine zm ?_; refine zm ?_; (first | refine s_gn rfl rfl ?_ | (refine s_gy rfl ?_; refine zm ?_)))
              all_goals (first | refine s_gn rfl rfl ?_ | (refine s_gy rfl ?_; (first | (refine QB ?_) | (refine QF ?_) | (refine Qf rfl rfl (fun hc => ?_) (fun hc => ?_)))))
              all_goals ((first | (refine zpt ?_) | (refine zpf ?_)); refine zm ?_; (first | refine s_gn rfl rfl ?_ | (refine s_gy rfl ?_; refine zm ?_)))
              all_goals (first | refine s_gn rfl rfl ?_ | (refine s_gy rfl ?_; (first | (refine QB ?_) | (refine QF ?_) | (refine Qf rfl rfl (fun hc => ?_) (fun hc => ?_)))))
              all_goals ((first | (refine zpt ?_) | (refine zpf ?_)); refine zm ?_; (first | refine s_gn rfl rfl ?_ | (refine s_gy rfl ?_; refine zm ?_)))
              all_goals (first | refine s_gn rfl rfl ?_ | (refine s_gy rfl ?_; (first | (refine QB ?_) | (refine QF ?_) | (refine Qf rfl rfl (fun hc => ?_) (fun hc => ?_)))))
              all_goals ((first | (refine zpt ?_) | (refine zpf ?_)); refine zm ?_; refine zn ?_)
              all_goals
                first
                | (refine Q6 rfl ?_ -- Qq c2
                   all_goals refine zsk ?_)
                | (refine Q5 rfl ?_ -- Qq c2
                   all_goals (refine Q0 ?_; refine Q1 ?_; refine zm ?_)
                   all_goals (first | (refine QB ?_) | (refine QF ?_) | (refine Qf rfl rfl (fun hc => ?_) (fun hc => ?_)))
                   all_goals (refine zm ?_; refine zn ?_)
                   all_goals
                     first
                     | (refine Q6 rfl ?_ -- Qq c3
                        all_goals (refine Q1 ?_; refine zm ?_)
                        all_goals refine zn ?_)
                     | (refine Q5 rfl ?_ -- Qq c3
                        all_goals (refine zr ?_; refine q_ret0 ?_)
                        all_goals (exact ⟨_, rfl, i, rfl, hi0, hi, (by rw [hd, Qos (by omega) (by omega) (by omega) (by omega) (by omega), ← Q7 hc9]), hS.sp⟩))))
         all_goals ((first | (exact ⟨false, zh, zh, hd.trans (skip_nl (by omega)), hS.sp⟩) | (exact ⟨true, zh, zh, hd.trans (skip_rem (by omega)), hS.sp⟩) | (exact ⟨false, zh, zh, hd.trans (skip_bl (by omega)), hS.sp⟩) | (exact ⟨true, zh, zh, hd.trans (Qot (by omega)), hS.sp⟩)))
       rintro ρ w1 ⟨rem2, hA, hρ, hd2, hS⟩; obtain ⟨ρ, rfl⟩ := env2 hA hρ
       all_goals (refine Q1 ?_; refine zm ?_; refine Qh rfl ?_; refine Q2 rfl ?_; refine zl hS ?_; refine zad ?_; refine Qh rfl ?_; refine Q2 rfl ?_; refine zst hS ?_; intro w1 hS; have hS := hS.ns; refine zn ?_)
       all_goals (exact ⟨⟨rem2, i + 1, _, zh, zh, (by omega), (by omega), hd2, hS.sp⟩, by rw [hm0, Q7L (j := 1) hS (i := 0) rfl rfl]; omega⟩))
theorem Qoi {src : List UInt8} {sb at0 g : Nat} {p : UInt8 → Bool} (hg : Q2E Tryz.prog g = true) (hp : ∀ (c : UInt8) {cx : Cx} {w : World} {L : List Res}, St cx w L → Rets Tryz.prog g [.int .u8 c.toNat] w fun u w' => u = .bool (p c) ∧ St cx w' L) (hl : src.length ≤ 100000) (ha : at0 ≤ src.length) (hS : St cx w (scn sb src at0 :: L)) :
    Rets Tryz.prog Q1D [.pointer (some ⟨sb, 0, none⟩), .func (.func g) #[] #[]] w fun u w' => u = .string ⟨((src.drop at0).takeWhile p).toArray⟩ ∧ St cx w' (scn sb src (at0 + ((src.drop at0).takeWhile p).length) :: L) := by
  all_goals refine Q5I ?_
  all_goals (unfold token_scanner_while_lc; refine Q0 ?_; refine Q1 ?_; refine zm ?_; refine zn ?_; refine Q0 ?_; refine Q1 ?_; refine zm ?_; refine Qh rfl ?_; refine Q2 rfl ?_; refine zl hS ?_; refine zm ?_; refine zn ?_; refine Q0 ?_; refine Qa ?_)
  refine zo [0, 1, 5] (fun A ρ' w' => ∃ (k : Nat), Has ρ' A ∧ Has ρ' [] ∧ (at0 + k ≤ src.length) ∧ (∀ x ∈ (src.drop at0).take k, p x = true) ∧ St cx w' (scn sb src (at0 + k) :: L)) (fun _ w' => (src.length - QpM w' sb 1).toNat) ?_ ?_
  · exact ⟨0, zh, zh, (by omega), (fun x hx => by simp at hx), hS.sp⟩
  rintro ρ w1 ⟨k, hA, hρ, hk, hall, hS⟩; obtain ⟨ρ, rfl⟩ := env2 hA hρ; have hm0 := Q7L (j := 1) hS (i := 0) rfl rfl
  unfold Q31
  all_goals (refine Q0 ?_; refine Q0 ?_; refine zD [(0, none), (1, none), (2, none), (3, none), (4, none), (5, none), (6, none), (7, none), (8, none), (9, none), (10, none), (11, none), (12, none), (13, none), (14, none), (15, none), (16, none), (17, none), (18, none), (19, none), (20, none), (21, some none), (22, some none)] ?_; have hS := hS.drew; refine zm ?_; refine Qh rfl ?_; refine Q2 rfl ?_; refine zl hS ?_; refine zm ?_; refine Qh rfl ?_; refine Q2 rfl ?_; refine zl hS ?_; refine Q3S rfl ?_)
  all_goals (first | (refine Q3i ?_) | (refine Q3j ?_) | (refine Q1w rfl rfl (fun hc => ?_) (fun hc => ?_)))
  all_goals (refine zm ?_; (first | refine s_gn rfl rfl ?_ | (refine s_gy rfl ?_; refine zm ?_)); (first | refine s_gn rfl rfl ?_ | (refine s_gy rfl ?_; refine zm ?_)); (first | refine s_gn rfl rfl ?_ | (refine s_gy rfl ?_; refine Qh rfl ?_)); (first | refine s_gn rfl rfl ?_ | (refine s_gy rfl ?_; refine Q2 rfl ?_)); (first | refine s_gn rfl rfl ?_ | (refine s_gy rfl ?_; refine zl hS ?_)); (first | refine s_gn rfl rfl ?_ | (refine s_gy rfl ?_; refine zm ?_)); (first | refine s_gn rfl rfl ?_ | (refine s_gy rfl ?_; refine Qh rfl ?_)); (first | refine s_gn rfl rfl ?_ | (refine s_gy rfl ?_; refine Q2 rfl ?_)); (first | refine s_gn rfl rfl ?_ | (refine s_gy rfl ?_; refine zl hS ?_)); (first | refine s_gn rfl rfl ?_ | (refine s_gy rfl ?_; obtain ⟨c, hc9⟩ : ∃ x, src[at0 + k]? = some x := ⟨_, List.getElem?_eq_getElem (by omega)⟩; refine QjC rfl rfl hc9 ?_)))
  all_goals (first | refine s_gn rfl rfl ?_ | (refine s_gy rfl ?_; refine QoL rfl hg rfl (hp c hS) ?_; rintro v1 w1 ⟨rfl, hS⟩; cases hq : p c))
  all_goals ((first | (refine zpt ?_) | (refine zpf ?_)); refine zn ?_)
  all_goals
    first
    | (refine Q6 rfl ?_ -- Q1D c0
       all_goals (refine zsk ?_; refine Qa ?_; refine Q1 ?_; refine zm ?_; refine Qh rfl ?_; refine Q2 rfl ?_; refine zl hS ?_; refine zad ?_; refine Qh rfl ?_; refine Q2 rfl ?_; refine zst hS ?_; intro w1 hS; have hS := hS.ns; refine zn ?_)
       all_goals (exact ⟨⟨k + 1, zh, zh, (by omega), QnM hall hc9 hq, hS.sp⟩, by rw [hm0, Q7L (j := 1) hS (i := 0) rfl rfl]; omega⟩))
    | (refine Q5 rfl ?_ -- Q1D c0
       all_goals (refine zex ?_)
       all_goals (have hw := Qoh hall hk (by intro x hx; first | (rw [List.getElem?_eq_none (by omega)] at hx; cases hx) | (obtain rfl : c = x := Option.some.inj (hc9.symm.trans hx); exact hq)))
       all_goals (refine Q0 ?_; refine zD [(0, none), (1, none), (2, none), (3, none), (4, none), (5, none), (6, none), (7, none), (8, none), (9, none), (10, some none)] ?_; have hS := hS.drew; refine zm ?_; refine Qh rfl ?_; refine Q2 rfl ?_; refine zl hS ?_; refine zm ?_; refine zm ?_; refine Qh rfl ?_; refine Q2 rfl ?_; refine zl hS ?_; refine QjB rfl (l' := at0) (h' := at0 + k) ⟨_, rfl⟩ ⟨_, rfl⟩ (by omega) (by omega) ?_; rw [hw.1]; refine zm ?_; refine zn ?_; refine zr ?_; refine zf ?_)
       all_goals (exact ⟨_, rfl, rfl, (by rw [← hw.2]; exact hS.sp)⟩))
end Go.Proofs.YtjecflbbcnocdaaGreatDoor
namespace Go.Proofs.YtjecflbbcnocdaaGreatDoor
open Go.Lir
set_option maxHeartbeats 1000000
attribute [local irreducible] LC.wp Q3 Qt QA retQ Q1m LO.wp Qm Calls
set_option linter.unusedSimpArgs false
set_option linter.unusedVariables false
attribute [local irreducible] skip Lib.itoa Lib.parseIntB tok1
variable {cx : Cx} {w : World} {L : List Res}
abbrev tokV (a : Int) (t : List UInt8) (m : Option Int) : Value := .agg ⟨[.int .i64 a, .string ⟨t.toArray⟩, .bool m.isSome, .int .i64 (m.getD 0)]⟩
theorem Qph {t : List UInt8} (h : ∀ n, Lib.parseIntB 64 t ≠ .ok n) : QfN t = none := by
  unfold QfN
  split
  · rename_i n hn; exact absurd hn (h n)
  · rfl
theorem Qpg {t : List UInt8} {n : Int} (h : Lib.parseIntB 64 t = .ok n) : QfN t = if Lib.itoa n = t then some n else none := by
  unfold QfN; rw [h]
theorem Qnt {src pre : List UInt8} {sb at0 : Nat} {a : Int} (hT : NumK cx) (hl : src.length ≤ 50000) (hpre : pre.length ≤ 1) (ha : at0 ≤ src.length) (hS : St cx w (scn sb src at0 :: L)) :
    Rets Tryz.prog Q1y [.pointer (some ⟨sb, 0, none⟩), .int .i64 a, .string ⟨pre.toArray⟩] w fun u w' => ((∃ n, QfN (pre ++ (src.drop at0).takeWhile QO) = some n ∧ u = .tuple #[tokV a (pre ++ (src.drop at0).takeWhile QO) (some n), .int .i64 0]) ∨ (QfN (pre ++ (src.drop at0).takeWhile QO) = none ∧ u = .tuple #[tokV 0 [] none, .int .i64 8])) ∧ St cx w' (scn sb src (at0 + ((src.drop at0).takeWhile QO).length) :: L) := by
  have hw : ((src.drop at0).takeWhile QO).length ≤ 50000 := by
    have h1 := (List.takeWhile_prefix (l := src.drop at0) QO).length_le
    rw [List.length_drop] at h1; omega
  obtain ⟨t, ht⟩ : ∃ t, pre ++ (src.drop at0).takeWhile QO = t := ⟨_, rfl⟩
  have htl : t.length ≤ 50001 := by rw [← ht, List.length_append]; omega
  rw [ht]
  all_goals refine Q5h ?_
  all_goals (unfold token_scanner_number_lc; refine Q0 ?_; refine Q1 ?_; refine Qe hS ?_; intro p6 w1 hS; refine zm ?_; refine zn ?_; refine Q0 ?_; refine Q1 ?_; refine zm ?_; refine zm ?_; have hS : St cx _ (scn sb src at0 :: _) := hS.mv1; refine zR2 (c := Qoi (g := 118) (p := QO) (by kernel_rfl) (fun c {_ _ _} h => QmY h) (by omega) ha hS) (h := ?_); rintro v1 w1 ⟨rfl, hS⟩; refine QL rfl rfl (by omega) ?_; rw [ht]; refine zm ?_; refine zn ?_; refine Q0 ?_; refine Q1 ?_; refine zm ?_)
  all_goals (refine zR3 (c := parse_c (by omega) hT hS) (h := ?_); rintro v1 w1 (⟨n, hn, rfl, hS⟩ | ⟨hno, n, T, p, rfl, hp, hS⟩))
  all_goals (refine zm ?_; refine Q3F rfl rfl ?_; refine Q3F rfl rfl ?_; refine zm ?_; refine zm ?_; refine zn ?_; refine Q0 ?_; refine Q0 ?_; refine Q1 ?_; refine zm ?_; (first | refine Qnh Tryz.underlying109 rfl ?_ | refine Qni Tryz.underlying109 rfl ?_); refine zm ?_; (first | refine s_gn rfl rfl ?_ | (refine s_gy rfl ?_; refine zm ?_)); (first | refine s_gn rfl rfl ?_ | (refine s_gy rfl ?_; have hb9 := Lib.parseIntB_bounds hn; refine zR2 (c := fmt_c (by omega) (by omega) hT hS) (h := ?_); rintro v1 w1 ⟨rfl, hS⟩)); (first | refine s_gn rfl rfl ?_ | (refine s_gy rfl ?_; refine zm ?_)))
  all_goals (first | refine s_gn rfl rfl ?_ | (refine s_gy rfl ?_; refine s_sneqx rfl rfl ?_; cases hq : decide (Lib.itoa n ≠ t)))
  all_goals ((first | (refine zpt ?_) | (refine zpf ?_)); refine zn ?_)
  all_goals
    first
    | (refine Q6 rfl ?_ -- Q1y c0
       all_goals (refine Q0 ?_; refine Q1 ?_; refine zb0 [_, _, _, _] ?_; refine zsn hS ?_; intro w1 hS; have hS := hS.ns; refine zm ?_; refine zn ?_; refine zr ?_; refine Q3r vw (Qi (n := 4) (by kernel_rfl) (by kernel_rfl) (hS.blkAt fd) (by rfl) (by rfl)) vw ?_)
       all_goals ((first | exact ⟨_, rfl, .inr ⟨Qph hno, rfl⟩, hS.sp⟩ | exact ⟨_, rfl, .inr ⟨by rw [Qpg hn, if_neg (of_decide_eq_true hq)], rfl⟩, hS.sp⟩)))
    | (refine Q5 rfl ?_ -- Q1y c0
       all_goals refine zsk ?_)
  all_goals (refine Q0 ?_; refine Q1 ?_; refine zm ?_; refine zm ?_; refine zm ?_; refine zb4 [_, _, _, _] ?_; refine zsn hS ?_; intro w1 hS; have hS := hS.ns; refine zm ?_; refine zn ?_; refine zr ?_; refine Q3r vw (Qi (n := 4) (by kernel_rfl) (by kernel_rfl) (hS.blkAt fd) (by rfl) (by rfl)) vw ?_; (first | exact ⟨_, rfl, .inr ⟨Qph hno, rfl⟩, hS.sp⟩ | exact ⟨_, rfl, .inr ⟨by rw [Qpg hn, if_neg (of_decide_eq_true hq)], rfl⟩, hS.sp⟩ | exact ⟨_, rfl, .inl ⟨n, by rw [Qpg hn, if_pos (Classical.not_not.1 (of_decide_eq_false hq))], rfl⟩, hS.sp⟩))
abbrev signs : List UInt8 := [40, 41, 123, 125, 60, 62, 44, 59, 45]
theorem Qou (c : UInt8) (h : c.toNat ≠ 45) : (0 ≤ Lib.indexByte signs c ↔ Q6p c = true) := by
  have hall : ∀ p : Fin 256, p.val ≠ 45 → (decide (0 ≤ Lib.indexByte signs (UInt8.ofNat p.val)) = Q6p (UInt8.ofNat p.val)) := by decide +kernel
  have h1 := hall ⟨c.toNat, c.toNat_lt⟩ h
  simp only [UInt8.ofNat_toNat] at h1
  rw [← h1, decide_eq_true_iff]
theorem Q7m {t : List UInt8} {n : Int} (h : QfN t = some n) : numT t = .ok (t, some n) := by unfold numT; rw [h]
theorem Q7n {t : List UInt8} (h : QfN t = none) : numT t = .error 8 := by unfold numT; rw [h]
theorem QK {b : Bool} (h : b = false) : ¬ b = true := by rw [h]; exact Bool.false_ne_true
theorem QnJ {l : List UInt8} (h : l.take 2 = [45, 62]) : l = 45 :: 62 :: l.drop 2 := by
  conv => lhs; rw [← List.take_append_drop 2 l, h]
  rfl
theorem eq45 {c : UInt8} (h : c.toNat = 45) : c = 45 := UInt8.toNat_inj.1 h
theorem ne45 {c : UInt8} (h : c.toNat ≠ 45) : ¬ c = 45 := fun e => h (by rw [e]; rfl)
theorem Qoc {d : UInt8} (h : QO d = true) : ¬ d = 62 := by rintro rfl; exact absurd h (by decide)
theorem min62 {l r : List UInt8} {d : UInt8} (h : decide (l.take ([45, 62] : List UInt8).length = [45, 62]) = false) (hl : l = 45 :: d :: r) : ¬ d = 62 := by
  rintro rfl
  exact absurd (by rw [hl]; rfl) (of_decide_eq_false h)
theorem QpV {sb at0 : Nat} {src l : List UInt8} (h : St cx w (scn sb src (at0 + 1 + l.length) :: L)) : St cx w (scn sb src (at0 + (45 :: l).length) :: L) := by
  rw [List.length_cons, show at0 + (l.length + 1) = at0 + 1 + l.length by omega]; exact h
/-- What the reading of the next one gives back. -/
def NextS (cx : Cx) (L : List Res) (sb : Nat) (src : List UInt8) (at0 : Nat) (u : Value) (w' : World) : Prop :=
  (∃ t m, tok1 (src.drop at0) = .ok (t, m) ∧ u = .tuple #[tokV at0 t m, .int .i64 0] ∧ St cx w' (scn sb src (at0 + t.length) :: L)) ∨ (∃ e at1, tok1 (src.drop at0) = .error e ∧ e ≠ 0 ∧ u = .tuple #[tokV 0 [] none, .int .i64 e] ∧ St cx w' (scn sb src at1 :: L))
theorem next_c {src : List UInt8} {sb at0 : Nat} (hT : NumK cx) (hl : src.length ≤ 50000) (ha : at0 < src.length) (hS : St cx w (scn sb src at0 :: L)) :
    Rets Tryz.prog Qo [.pointer (some ⟨sb, 0, none⟩)] w fun u w' => NextS cx L sb src at0 u w' := by
  obtain ⟨c, hc9⟩ : ∃ x, src[at0]? = some x := ⟨_, List.getElem?_eq_getElem ha⟩
  have hdc := Q7 hc9
  all_goals refine Q6C ?_
  all_goals (unfold token_scanner_next_lc; refine Q0 ?_; refine Q1 ?_; refine Qe hS ?_; intro p2 w1 hS; refine zm ?_; refine zn ?_; refine Q0 ?_; refine Q1 ?_; refine zm ?_; refine Qh rfl ?_; refine Q2 rfl ?_; refine zl hS ?_; refine zm ?_; refine zn ?_; refine Q0 ?_; refine Q0 ?_; refine Q1 ?_; refine zm ?_; refine Qh rfl ?_; refine Q2 rfl ?_; refine zl hS ?_; refine zm ?_; refine QjC rfl rfl hc9 ?_; refine zm ?_; refine zn ?_; refine Qa ?_; refine Q0 ?_; refine Q1 ?_; refine zm ?_)
  all_goals (refine zR1 (c := Qnw hS) (h := ?_); rintro v1 w1 ⟨rfl, hS⟩; cases hq0 : Q2m c)
  all_goals (refine zm ?_; refine zn ?_)
  all_goals
    first
    | (refine Q6 rfl ?_ -- Qo c0
       all_goals (refine Q0 ?_; refine Q1 ?_; refine zm ?_; refine zm ?_; have hS : St cx _ (scn sb src at0 :: _) := hS.mv1; refine zR2 (c := Qoi (g := 116) (p := Q2m) (by kernel_rfl) (fun c {_ _ _} h => Qnw h) (by omega) (by omega) hS) (h := ?_); rintro v1 w1 ⟨rfl, hS⟩; refine zb2 [_, _, _, _] ?_; refine zsn hS ?_; intro w1 hS; have hS := hS.ns; refine zm ?_; refine zn ?_; refine zr ?_; refine Q3r vw (Qi (n := 4) (by kernel_rfl) (by kernel_rfl) (hS.blkAt fd) (by rfl) (by rfl)) vw ?_)
       all_goals (exact ⟨_, rfl, .inl ⟨(src.drop at0).takeWhile Q2m, none, by rw [hdc, Q4b hq0], rfl, hS.sp⟩⟩))
    | (refine Q5 rfl ?_ -- Qo c0
       all_goals (refine Q0 ?_; refine Q1 ?_; refine zm ?_)
       all_goals (refine zR1 (c := QmY hS) (h := ?_); rintro v1 w1 ⟨rfl, hS⟩; cases hq1 : QO c)
       all_goals (refine zm ?_; refine zn ?_)
       all_goals
         first
         | (refine Q5 rfl ?_ -- Qo c1
            all_goals (refine Q0 ?_; refine Q1 ?_; refine zm ?_; refine Qh rfl ?_; refine Q2 rfl ?_; refine zl hS ?_; refine zm ?_; refine QjB rfl (l' := at0) (h' := src.length) rfl ⟨_, rfl⟩ (by omega) (by omega) ?_; rw [List.take_length])
            all_goals (refine zR2 (c := hp_c (p := [45, 62]) (by rw [List.length_drop]; omega) hS) (h := ?_); rintro v1 w1 ⟨rfl, hS⟩; cases hq2 : decide ((src.drop at0).take ([45, 62] : List UInt8).length = [45, 62]))
            all_goals (refine zm ?_; refine zn ?_)
            all_goals
              first
              | (refine Q5 rfl ?_ -- Qo c2
                 all_goals (refine Q0 ?_; refine Q1 ?_; refine zm ?_)
                 all_goals (first | (refine QB ?_) | (refine QF ?_) | (refine Qf rfl rfl (fun hc => ?_) (fun hc => ?_)))
                 all_goals (refine zm ?_; (first | refine s_gn rfl rfl ?_ | (refine s_gy rfl ?_; refine zm ?_)); (first | refine s_gn rfl rfl ?_ | (refine s_gy rfl ?_; refine zad ?_)); (first | refine s_gn rfl rfl ?_ | (refine s_gy rfl ?_; refine zm ?_)); (first | refine s_gn rfl rfl ?_ | (refine s_gy rfl ?_; refine Qh rfl ?_)); (first | refine s_gn rfl rfl ?_ | (refine s_gy rfl ?_; refine Q2 rfl ?_)); (first | refine s_gn rfl rfl ?_ | (refine s_gy rfl ?_; refine zl hS ?_)); (first | refine s_gn rfl rfl ?_ | (refine s_gy rfl ?_; refine Q3S rfl ?_)))
                 all_goals (first | refine s_gn rfl rfl ?_ | (refine s_gy rfl ?_; (first | (refine Q3i ?_) | (refine Q3j ?_) | (refine Q1w rfl rfl (fun hc => ?_) (fun hc => ?_)))))
                 all_goals ((first | (refine zpt ?_) | (refine zpf ?_)); refine zm ?_; (first | refine s_gn rfl rfl ?_ | (refine s_gy rfl ?_; refine zm ?_)); (first | refine s_gn rfl rfl ?_ | (refine s_gy rfl ?_; refine Qh rfl ?_)); (first | refine s_gn rfl rfl ?_ | (refine s_gy rfl ?_; refine Q2 rfl ?_)); (first | refine s_gn rfl rfl ?_ | (refine s_gy rfl ?_; refine zl hS ?_)); (first | refine s_gn rfl rfl ?_ | (refine s_gy rfl ?_; refine zm ?_)); (first | refine s_gn rfl rfl ?_ | (refine s_gy rfl ?_; refine zad ?_)); (first | refine s_gn rfl rfl ?_ | (refine s_gy rfl ?_; obtain ⟨d, hd9⟩ : ∃ x, src[at0 + 1]? = some x := ⟨_, List.getElem?_eq_getElem (by omega)⟩; refine QjC (m := at0 + 1) rfl rfl hd9 ?_)))
                 all_goals (first | refine s_gn rfl rfl ?_ | (refine s_gy rfl ?_; refine zR1 (c := QmY hS) (h := ?_); rintro v1 w1 ⟨rfl, hS⟩; cases hq3 : QO d))
                 all_goals ((first | (refine zpt ?_) | (refine zpf ?_)); refine zm ?_; refine zn ?_)
                 all_goals
                   first
                   | (refine Q5 rfl ?_ -- Qo c3
                      all_goals (refine Q0 ?_; refine Q1 ?_; refine zm ?_)
                      all_goals (first | (refine Q2L ?_) | (refine Q2M ?_))
                      all_goals (refine zm ?_; (first | refine s_gn rfl rfl ?_ | (refine s_gy rfl ?_; refine zm ?_)); (first | refine s_gn rfl rfl ?_ | (refine s_gy rfl ?_; refine zR2 (c := iby_c (s := signs) hS) (h := ?_); rintro v1 w1 ⟨rfl, hS⟩; have hsi := Qou c (by omega))))
                      all_goals (first | refine s_gn rfl rfl ?_ | (refine s_gy rfl ?_; (first | (refine Qdy ?_) | (refine Qdz ?_) | (refine Q3p rfl rfl (fun hc => ?_) (fun hc => ?_)))))
                      all_goals ((first | (refine zpt ?_) | (refine zpf ?_)); refine zm ?_; refine zn ?_)
                      all_goals
                        first
                        | (refine Q5 rfl ?_ -- Qo c4
                           all_goals refine zsk ?_)
                        | (refine Q6 rfl ?_ -- Qo c4
                           all_goals (refine Q0 ?_; refine Q1 ?_; refine zm ?_; refine Qh rfl ?_; refine Q2 rfl ?_; refine zl hS ?_; refine zad ?_; refine Qh rfl ?_; refine Q2 rfl ?_; refine zst hS ?_; intro w1 hS; have hS := hS.ns; refine zn ?_; refine Q0 ?_; refine Q1 ?_; refine zm ?_; refine zm ?_; refine Qh rfl ?_; refine Q2 rfl ?_; refine zl hS ?_; refine zm ?_; refine zm ?_; refine zad ?_; refine QjB rfl (l' := at0) (h' := at0 + 1) ⟨_, rfl⟩ ⟨_, rfl⟩ (by omega) (by omega) ?_; rw [show (src.take (at0 + 1)).drop at0 = [c] by rw [Q3P hc9, List.drop_left' (by rw [List.length_take]; omega)]]; refine zb2 [_, _, _, _] ?_; refine zsn hS ?_; intro w1 hS; have hS := hS.ns; refine zm ?_; refine zn ?_; refine zr ?_; refine Q3r vw (Qi (n := 4) (by kernel_rfl) (by kernel_rfl) (hS.blkAt fd) (by rfl) (by rfl)) vw ?_)
                           all_goals ((first | exact ⟨_, rfl, .inl ⟨(src.drop at0).takeWhile Q2m, none, by rw [hdc, Q4b hq0], rfl, hS.sp⟩⟩ | exact ⟨_, rfl, .inl ⟨(src.drop at0).takeWhile QO, some n, by rw [hdc, Q2n (QK hq0) hq1, ← hdc, Q7m hn], rfl, hS.sp⟩⟩ | exact ⟨_, rfl, .inr ⟨8, _, by rw [hdc, Q2n (QK hq0) hq1, ← hdc, Q7n hn], by decide, rfl, hS.sp⟩⟩ | exact ⟨_, rfl, .inl ⟨[45, 62], none, by rw [QnJ (of_decide_eq_true hq2), QaC], rfl, hS.sp⟩⟩ | exact ⟨_, rfl, .inl ⟨45 :: (src.drop (at0 + 1)).takeWhile QO, some n, by rw [hdc, eq45 (c := c) (by omega), Q7 hd9, Q4a (Qoc hq3) hq3, ← Q7 hd9, Q7m (t := 45 :: _) hn], rfl, QpV hS.sp⟩⟩ | exact ⟨_, rfl, .inr ⟨8, _, by rw [hdc, eq45 (c := c) (by omega), Q7 hd9, Q4a (Qoc hq3) hq3, ← Q7 hd9, Q7n (t := 45 :: _) hn], by decide, rfl, hS.sp⟩⟩ | exact ⟨_, rfl, .inl ⟨[c], none, by rw [hdc, Qep (QK hq0) (QK hq1) (ne45 (by omega)) (hsi.1 (by omega))], rfl, hS.sp⟩⟩))))
                   | (refine Q6 rfl ?_ -- Qo c3
                      all_goals (refine Q0 ?_; refine Q1 ?_; refine zm ?_; refine Qh rfl ?_; refine Q2 rfl ?_; refine zl hS ?_; refine zad ?_; refine Qh rfl ?_; refine Q2 rfl ?_; refine zst hS ?_; intro w1 hS; have hS := hS.ns; refine zn ?_; refine Q0 ?_; refine Q1 ?_; refine zm ?_; refine zm ?_)
                      all_goals (have hS : St cx _ (scn sb src (at0 + 1) :: blk p2 126 [.int .i64 0, .string ⟨#[]⟩, .bool false, .int .i64 0] :: L) := hS.sp; refine zR3 (c := Qnt (pre := [45]) hT hl (by simp) (by omega) hS) (h := ?_); rintro v1 w1 ⟨⟨n, hn, rfl⟩ | ⟨hn, rfl⟩, hS⟩ <;> rw [List.singleton_append] at hn)
                      all_goals (refine Q3F rfl rfl ?_; refine Q3F rfl rfl ?_; refine zsn hS ?_; intro w1 hS; have hS := hS.ns; refine zm ?_; refine zn ?_; refine zr ?_; refine Q3r vw (Qi (n := 4) (by kernel_rfl) (by kernel_rfl) (hS.blkAt fd) (by rfl) (by rfl)) vw ?_)
                      all_goals ((first | exact ⟨_, rfl, .inl ⟨(src.drop at0).takeWhile Q2m, none, by rw [hdc, Q4b hq0], rfl, hS.sp⟩⟩ | exact ⟨_, rfl, .inl ⟨(src.drop at0).takeWhile QO, some n, by rw [hdc, Q2n (QK hq0) hq1, ← hdc, Q7m hn], rfl, hS.sp⟩⟩ | exact ⟨_, rfl, .inr ⟨8, _, by rw [hdc, Q2n (QK hq0) hq1, ← hdc, Q7n hn], by decide, rfl, hS.sp⟩⟩ | exact ⟨_, rfl, .inl ⟨[45, 62], none, by rw [QnJ (of_decide_eq_true hq2), QaC], rfl, hS.sp⟩⟩ | exact ⟨_, rfl, .inl ⟨45 :: (src.drop (at0 + 1)).takeWhile QO, some n, by rw [hdc, eq45 (c := c) (by omega), Q7 hd9, Q4a (Qoc hq3) hq3, ← Q7 hd9, Q7m (t := 45 :: _) hn], rfl, QpV hS.sp⟩⟩ | exact ⟨_, rfl, .inr ⟨8, _, by rw [hdc, eq45 (c := c) (by omega), Q7 hd9, Q4a (Qoc hq3) hq3, ← Q7 hd9, Q7n (t := 45 :: _) hn], by decide, rfl, hS.sp⟩⟩))))
              | (refine Q6 rfl ?_ -- Qo c2
                 all_goals (refine Q0 ?_; refine Q1 ?_; refine zm ?_; refine Qh rfl ?_; refine Q2 rfl ?_; refine zl hS ?_; refine zad ?_; refine Qh rfl ?_; refine Q2 rfl ?_; refine zst hS ?_; intro w1 hS; have hS := hS.ns; refine zn ?_; refine Q0 ?_; refine Q1 ?_; refine zm ?_; refine zb2 [_, _, _, _] ?_; refine zsn hS ?_; intro w1 hS; have hS := hS.ns; refine zm ?_; refine zn ?_; refine zr ?_; refine Q3r vw (Qi (n := 4) (by kernel_rfl) (by kernel_rfl) (hS.blkAt fd) (by rfl) (by rfl)) vw ?_)
                 all_goals ((first | exact ⟨_, rfl, .inl ⟨(src.drop at0).takeWhile Q2m, none, by rw [hdc, Q4b hq0], rfl, hS.sp⟩⟩ | exact ⟨_, rfl, .inl ⟨(src.drop at0).takeWhile QO, some n, by rw [hdc, Q2n (QK hq0) hq1, ← hdc, Q7m hn], rfl, hS.sp⟩⟩ | exact ⟨_, rfl, .inr ⟨8, _, by rw [hdc, Q2n (QK hq0) hq1, ← hdc, Q7n hn], by decide, rfl, hS.sp⟩⟩ | exact ⟨_, rfl, .inl ⟨[45, 62], none, by rw [QnJ (of_decide_eq_true hq2), QaC], rfl, hS.sp⟩⟩))))
         | (refine Q6 rfl ?_ -- Qo c1
            all_goals (refine Q0 ?_; refine Q1 ?_; refine zm ?_; refine zm ?_)
            all_goals (have hS : St cx _ (scn sb src at0 :: _) := hS.mv1; refine zR3 (c := Qnt (pre := []) hT hl (by simp) (by omega) hS) (h := ?_); rintro v1 w1 ⟨⟨n, hn, rfl⟩ | ⟨hn, rfl⟩, hS⟩ <;> rw [List.nil_append] at hn)
            all_goals (refine Q3F rfl rfl ?_; refine Q3F rfl rfl ?_; refine zsn hS ?_; intro w1 hS; have hS := hS.ns; refine zm ?_; refine zn ?_; refine zr ?_; refine Q3r vw (Qi (n := 4) (by kernel_rfl) (by kernel_rfl) (hS.blkAt fd) (by rfl) (by rfl)) vw ?_)
            all_goals ((first | exact ⟨_, rfl, .inl ⟨(src.drop at0).takeWhile Q2m, none, by rw [hdc, Q4b hq0], rfl, hS.sp⟩⟩ | exact ⟨_, rfl, .inl ⟨(src.drop at0).takeWhile QO, some n, by rw [hdc, Q2n (QK hq0) hq1, ← hdc, Q7m hn], rfl, hS.sp⟩⟩ | exact ⟨_, rfl, .inr ⟨8, _, by rw [hdc, Q2n (QK hq0) hq1, ← hdc, Q7n hn], by decide, rfl, hS.sp⟩⟩))))
  all_goals (refine Q0 ?_; refine Q1 ?_; refine zb0 [_, _, _, _] ?_; refine zsn hS ?_; intro w1 hS; have hS := hS.ns; refine zm ?_; refine zn ?_; refine zr ?_; refine Q3r vw (Qi (n := 4) (by kernel_rfl) (by kernel_rfl) (hS.blkAt fd) (by rfl) (by rfl)) vw ?_)
  all_goals ((first | exact ⟨_, rfl, .inl ⟨(src.drop at0).takeWhile Q2m, none, by rw [hdc, Q4b hq0], rfl, hS.sp⟩⟩ | exact ⟨_, rfl, .inl ⟨(src.drop at0).takeWhile QO, some n, by rw [hdc, Q2n (QK hq0) hq1, ← hdc, Q7m hn], rfl, hS.sp⟩⟩ | exact ⟨_, rfl, .inr ⟨8, _, by rw [hdc, Q2n (QK hq0) hq1, ← hdc, Q7n hn], by decide, rfl, hS.sp⟩⟩ | exact ⟨_, rfl, .inl ⟨[45, 62], none, by rw [QnJ (of_decide_eq_true hq2), QaC], rfl, hS.sp⟩⟩ | exact ⟨_, rfl, .inl ⟨45 :: (src.drop (at0 + 1)).takeWhile QO, some n, by rw [hdc, eq45 (c := c) (by omega), Q7 hd9, Q4a (Qoc hq3) hq3, ← Q7 hd9, Q7m (t := 45 :: _) hn], rfl, QpV hS.sp⟩⟩ | exact ⟨_, rfl, .inr ⟨8, _, by rw [hdc, eq45 (c := c) (by omega), Q7 hd9, Q4a (Qoc hq3) hq3, ← Q7 hd9, Q7n (t := 45 :: _) hn], by decide, rfl, hS.sp⟩⟩ | exact ⟨_, rfl, .inl ⟨[c], none, by rw [hdc, Qep (QK hq0) (QK hq1) (ne45 (by omega)) (hsi.1 (by omega))], rfl, hS.sp⟩⟩ | exact ⟨_, rfl, .inr ⟨6, _, by rw [hdc, Qnd (QK hq0) (QK hq1) (ne45 (by omega)) (fun h9 => absurd (hsi.2 h9) (by omega))], by decide, rfl, hS.sp⟩⟩ | exact ⟨_, rfl, .inr ⟨6, _, by rw [hdc, eq45 (c := c) (by omega), List.drop_eq_nil_of_le (by omega), tok1_one], by decide, rfl, hS.sp⟩⟩ | exact ⟨_, rfl, .inr ⟨6, _, by rw [hdc, eq45 (c := c) (by omega), Q7 hd9, tok1_min (min62 hq2 (by rw [hdc, eq45 (c := c) (by omega), Q7 hd9])) (QK hq3)], by decide, rfl, hS.sp⟩⟩))
end Go.Proofs.YtjecflbbcnocdaaGreatDoor
namespace Go.Proofs.YtjecflbbcnocdaaGreatDoor
open Go.Lir
set_option maxHeartbeats 1000000
attribute [local irreducible] LC.wp Q3 Qt QA retQ Q1m LO.wp Qm Calls
set_option linter.unusedSimpArgs false
set_option linter.unusedVariables false
attribute [local irreducible] skip Q3o scan tok1
variable {cx : Cx} {w : World} {L : List Res}
/-- What a scan gives back. -/
def ScanS (cx : Cx) (L : List Res) (src : List UInt8) (u : Value) (w' : World) : Prop :=
  (∃ l c' v, scan src = .ok l ∧ cx.Le c' ∧ u = .tuple #[v, .agg ⟨[.int .i64 0, .int .i64 0]⟩] ∧ tokR.sl c' v l ∧ St c' w' L) ∨ (∃ e n, scan src = .error (e, n) ∧ u = .tuple #[.slice none 0 0, .agg ⟨[.int .i64 e, .int .i64 n]⟩] ∧ St cx w' L)
theorem scan_c {src : List UInt8} (hT : NumK cx) (hl : src.length ≤ 100000) (hS : St cx w L) :
    Rets Tryz.prog Q3J [.string ⟨src.toArray⟩] w fun u w' => ScanS cx L src u w' := by
  have hle := St.refl hS
  all_goals refine Qjz ?_
  all_goals (unfold token_Scan_lc; refine Q0 ?_; refine Q1 ?_; refine zm ?_; refine Qe hS ?_; intro p3 w1 hS; refine zn ?_; refine Q0 ?_; refine Q0 ?_; refine Q1 ?_; refine zm ?_; refine Q3S rfl ?_)
  all_goals (first | (refine QW ?_) | (refine Q1g ?_) | (refine Qr rfl rfl (fun hc => ?_) (fun hc => ?_)))
  all_goals (refine zn ?_)
  all_goals
    first
    | (refine Q6 rfl ?_ -- Q3J c0
       all_goals (refine Q0 ?_; refine Q1 ?_; refine zb2 [_, _] ?_; refine zm ?_; refine zsn hS ?_; intro w1 hS; have hS := hS.ns; refine zn ?_; refine zr ?_; refine Q9M vw vw (Qi (n := 2) (by kernel_rfl) (by kernel_rfl) (hS.blkAt fd) (by rfl) (by rfl)) ?_)
       all_goals (exact ⟨_, rfl, .inr ⟨2, 40000, Qf0 (by omega), rfl, hS.sp⟩⟩))
    | (refine Q5 rfl ?_ -- Q3J c0
       all_goals refine zsk ?_)
  all_goals (refine Q0 ?_; refine Q1 ?_; refine zm ?_; refine zb1 [_, _] ?_; refine zb hS ?_; intro p15 w1 hS; refine zm ?_; refine zn ?_; refine Q0 ?_; refine Q1 ?_; refine zm ?_; refine zn ?_; refine Q0 ?_; refine Q0 ?_; refine Q1 ?_; refine zm ?_; have hS : St cx _ (scn p15 src 0 :: blk p3 29 [.int .i64 0, .int .i64 0] :: L) := hS.sp; refine zR1 (c := QpS (by omega) (by omega) hS) (h := ?_); rintro v1 w1 ⟨at1, rfl, h01, h02, h03, hS⟩; refine zn ?_; refine Qa ?_)
  refine zo [0, 3, 4] (fun A ρ' w' => ∃ (k i : Nat) (out : List Tok) (vb : Value) (cb : List (List Value)) (q6 q8 q7 : Value), Has ρ' A ∧ Has ρ' [(5, vb), (6, q6), (7, q7), (8, q8)] ∧ (i ≤ src.length) ∧ (src.length - i < k) ∧ (scan src = Q3o src.length k (src.drop i) out) ∧ (out.length ≤ i) ∧ (tokR.ls cx cb out) ∧ (oneC vb = true) ∧ St cx w' (scn p15 src i :: sl 126 4 vb cb :: blk p3 29 [.int .i64 0, .int .i64 0] :: L)) (fun _ w' => (src.length - QpM w' p15 1).toNat) ?_ ?_
  · exact ⟨src.length + 1, at1, [], .slice none 0 0, [], _, _, _, zh, zh, (by omega), (by omega), scan_few (by omega) (by rw [h03]; rfl), (by omega), Rep.LR.nil _ _ _, rfl, by have hS := hS.nil (T := 126) (es := 4); exact hS.sp⟩
  rintro ρ w1 ⟨k, i, out, vb, cb, q6, q8, q7, hA, hρ, hi, hk, hd, hol, hlb, hvb, hS⟩; obtain ⟨ρ, rfl⟩ := env2 hA hρ; have hm0 := Q7L (j := 1) hS (i := 0) rfl rfl
  unfold QaB
  all_goals (refine Q0 ?_; refine Q0 ?_; refine Q1 ?_; refine zm ?_; refine Qh rfl ?_; refine Q2 rfl ?_; refine zl hS ?_; refine zm ?_; refine Q3S rfl ?_; refine QG rfl rfl ?_; refine zn ?_)
  refine Qu rfl (fun hc => ?_) (fun hc => ?_)
  · skip
    all_goals (refine zsk ?_; refine Q0 ?_; refine Qa ?_; refine Q0 ?_; refine Q1 ?_; refine zm ?_; refine Qh rfl ?_; refine Q2 rfl ?_; refine zl hS ?_; refine zm ?_; refine zn ?_; refine Q0 ?_; refine Q1 ?_; refine zm ?_)
    all_goals (have hS : St cx _ (scn p15 src i :: _) := hS; refine zR1 (c := next_c hT (by omega) (by omega) hS) (h := ?_); rintro v1 w1 (⟨t, m, ht, rfl, hS⟩ | ⟨e, at9, ht, he, rfl, hS⟩))
    all_goals (refine zm ?_; refine Q3F rfl rfl ?_; refine Q3F rfl rfl ?_; refine Qe hS ?_; intro p7 w1 hS; refine zsn hS ?_; intro w1 hS; have hS := hS.ns; refine zm ?_; refine zn ?_; refine Q0 ?_; refine Q0 ?_; refine Q1 ?_; refine zm ?_)
    all_goals (first | (refine Q2L ?_) | (refine Q2M ?_))
    all_goals (refine zn ?_)
    all_goals
      first
      | (refine Q5 rfl ?_ -- Q3J c2
         all_goals refine zsk ?_)
      | (refine Q6 rfl ?_ -- Q3J c2
         all_goals (refine Q0 ?_; refine Q1 ?_; refine zm ?_; refine zm ?_; refine zb2 [_, _] ?_; refine zm ?_; refine zsn hS ?_; intro w1 hS; have hS := hS.ns; refine zn ?_; refine zr ?_; refine Q9M vw vw (Qi (n := 2) (by kernel_rfl) (by kernel_rfl) (hS.blkAt fd) (by rfl) (by rfl)) ?_)
         all_goals ((first | exact ⟨_, rfl, .inr ⟨2, 40000, Qf0 (by omega), rfl, hS.sp⟩⟩ | exact ⟨_, rfl, .inr ⟨e, i, by rw [hd, show k = k - 1 + 1 by omega, QlA (by omega) ht], rfl, hS.sp⟩⟩)))
    all_goals (have hf9 := tok1_fit (by omega) ht; have hd9 : tokR.at cx [.int .i64 (i : Int), .string ⟨t.toArray⟩, .bool m.isSome, .int .i64 (m.getD 0)] (⟨i, t, m⟩ : Tok) := rfl; refine Q1 ?_; refine zm ?_; refine zv hS ?_; refine zB1 hS [_, _, _, _] ?_; intro b1 w1 hS; refine za el_T63 u_T63 hS ?_; intro vp1 w1 css1 hls1 hv1 hS; have hS := hS.ns; refine zm ?_; refine zn ?_; refine Q1 ?_; refine zm ?_; have hS : St cx _ (scn p15 src (i + t.length) :: sl 126 4 vp1 css1 :: blk p3 29 [.int .i64 0, .int .i64 0] :: L) := hS.sp; refine zR1 (c := QpS (by omega) (by omega) hS) (h := ?_); rintro v1 w1 ⟨at2, rfl, h11, h12, h13, hS⟩; refine zn ?_; exact ⟨⟨k - 1, at2, out ++ [⟨i, t, m⟩], _, _, _, _, _, zh, zh, (by omega), (by omega), QoA (by rw [show k - 1 + 1 = k by omega]; exact hd) (by omega) ht h13, (by first | omega | assumption | rfl | (simp; done) | (simp; omega)), by assumption, by assumption, hS.sp⟩, by rw [hm0, Q7L (j := 1) hS (i := 0) rfl rfl]; omega⟩)
  · skip
    all_goals (refine zex ?_; obtain ⟨c2, hle2, hS2, hk2⟩ := St.freezeL (r := tokR) (hS.out (r := sl 126 4 vb cb) fd) hlb rfl (by omega); clear hS; have hS := hS2; simp only [List.eraseIdx_cons_zero, List.eraseIdx_cons_succ] at hS; refine Q0 ?_; refine Q1 ?_; refine zm ?_; refine zb0 [_, _] ?_; refine zm ?_; refine zsn hS ?_; intro w1 hS; have hS := hS.ns; refine zn ?_; refine zr ?_; refine Q9M vw vw (Qi (n := 2) (by kernel_rfl) (by kernel_rfl) (hS.blkAt fd) (by rfl) (by rfl)) ?_; (first | exact ⟨_, rfl, .inr ⟨2, 40000, Qf0 (by omega), rfl, hS.sp⟩⟩ | exact ⟨_, rfl, .inr ⟨e, i, by rw [hd, show k = k - 1 + 1 by omega, QlA (by omega) ht], rfl, hS.sp⟩⟩ | exact ⟨_, rfl, .inl ⟨out, c2, vb, by rw [hd, QoB (by omega)], hle2, rfl, hk2, hS.sp⟩⟩))
end Go.Proofs.YtjecflbbcnocdaaGreatDoor
namespace Go.Lir
theorem QlS {l : List Tok} (h : (l.length : Int) > 0) : (fun l : List Tok => !l.isEmpty) l = true := by
  cases l with
  | nil => simp at h
  | cons => rfl
theorem ne_no {l : List Tok} (h : ¬ (l.length : Int) > 0) : (fun l : List Tok => !l.isEmpty) l = false := by
  cases l with
  | nil => rfl
  | cons => simp at h
/-- What is written in a region that draws is only what its operations write. -/
def KeepQ (D : List Nat) (ρ0 : Env) (Q : QT) : QT := fun e ρ' w' => (∀ s, D.contains s = false → ρ' s = ρ0 s) → Q e ρ' w'
theorem Qns {P : Program} {Q : QT} {D : List Nat} {ρ0 : Env} : ∀ (l : List GO) (ρ : Env) (w : World), l.all (fun g => g.o.takes && (match g.dst with | some d => D.contains d | none => true)) = true → (∀ s, D.contains s = false → ρ s = ρ0 s) → Q3 P l (KeepQ D ρ0 Q) ρ w → Q3 P l Q ρ w
  | [], ρ, w, _, hρ, h => h hρ
  | g :: l, ρ, w, ha, hρ, h => by
    rw [List.all_cons, Bool.and_eq_true, Bool.and_eq_true] at ha
    refine Qai ha.1.1 (fun _ _ => rfl) (fun v w' hk => Qns l _ _ ha.2 (fun s hs => ?_) hk) (fun e w' _ hq => hq hρ) h
    have hd := ha.1.2
    by_cases hsd : g.dst = some s
    · rw [hsd] at hd; dsimp only at hd; rw [hs] at hd; cases hd
    · rw [Q1L hsd]; exact hρ s hs
theorem zCK {P : Program} {Q : QT} {ρ : Env} {w : World} {gs : List GO} {es : List (List Nat)} (C : List CI) (D : List Nat) (h : Q1x P gs C (KeepQ D ρ Q) ρ w.drew) (hok : Qdu gs es C = true := by kernel_rfl) (hk : (GO.nop :: gs).all (fun g => g.o.takes && (match g.dst with | some d => D.contains d | none => true)) = true := by kernel_rfl) : (LC.draw gs es).wp P Q ρ w := by
  intro l hl
  refine Qns _ ρ w.drew ?_ (fun _ _ => rfl) (QcA C hok h l hl)
  rw [List.all_eq_true] at hk ⊢
  intro g hg
  obtain ⟨i, hi, rfl⟩ := List.mem_map.1 hg
  refine hk _ ?_
  rw [List.getD_eq_getElem?_getD]
  cases h9 : gs[i]? with
  | none => simp
  | some x => simp [List.mem_of_getElem? h9]
end Go.Lir
namespace Go.Proofs.YtjecflbbcnocdaaGreatDoor
open Go.Lir
set_option maxHeartbeats 1000000
attribute [local irreducible] LC.wp Q3 Qt QA retQ Q1m LO.wp Qm Calls
set_option linter.unusedSimpArgs false
set_option linter.unusedVariables false
attribute [local irreducible] pMany Q1X Q2J pNum want isT pTyp Qbc pTo Q5u Qag pIns Q4g pOpts pAll pIf Q3v pFun scan skip Q3o Module.fault Qaf
variable {cx : Cx} {w : World} {L : List Res}
theorem Qom {P : Program} {T : TypeId} (h : aggT P T = true) : ∃ D, P.underlying T = some D ∧ ∀ m, D ≠ .interface m := by
  unfold aggT at h
  split at h
  · exact ⟨_, by assumption, by intro m h; cases h⟩
  · exact ⟨_, by assumption, by intro m h; cases h⟩
  · cases h
theorem Qkv {p q : Nat} {cs ds : List Value} (hS : St cx w (blk p 24 cs :: blk q 29 ds :: L)) : Defs Tryz.prog Q5q [.pointer (some ⟨p, 0, none⟩), .pointer (some ⟨q, 0, none⟩)] .returning w fun u' w' => u' = .returning ∧ St cx w' (blk p 24 cs :: blk q 29 ds :: L) := by
  unfold Defs
  all_goals refine Q4Y ?_
  all_goals (unfold parse_Parse_1_ld; refine r_seq ?_; refine r_sp ?_; refine zn ?_; refine zm ?_; refine zn ?_; refine r_pl ?_; refine Q0 ?_; refine Q1 ?_; refine zm ?_; refine Qni (ms := #[]) (by kernel_rfl) rfl ?_; refine zn ?_)
  all_goals refine Q5 rfl ?_
  all_goals (refine zsk ?_; refine q_endR ?_; refine Q3W ?_; exact ⟨⟨_, rfl⟩, rfl, hS.sp⟩)
theorem parse1_p {p q : Nat} {v0 a0 b0 : Value} {e : Flt} (hS : St cx w (blk p 24 [v0] :: blk q 29 [a0, b0] :: L)) : Defs Tryz.prog Q5q [.pointer (some ⟨p, 0, none⟩), .pointer (some ⟨q, 0, none⟩)] (.panicking [{ v := QmE e, recovered := false }]) w fun u' w' => u' = .panicking [{ v := QmE e, recovered := true }] ∧ St cx w' (blk p 24 [vn] :: blk q 29 [.int .i64 e.1, .int .i64 e.2] :: L) := by
  obtain ⟨D, hD, hi⟩ := Qom (P := Tryz.prog) (T := 66) (by kernel_rfl)
  unfold Defs
  all_goals refine Q4Y ?_
  all_goals (unfold parse_Parse_1_ld; refine r_seq ?_; refine r_sp ?_; refine zn ?_; refine zm ?_; refine zn ?_; refine r_pl ?_; refine Q0 ?_; refine Q1 ?_; refine zm ?_; refine Qnh (ms := #[]) (by kernel_rfl) rfl ?_; refine zn ?_)
  all_goals refine Q6 rfl ?_
  all_goals (refine Q0 ?_; refine Q1 ?_; refine zm ?_; refine s_assert hD hi rfl ?_; refine zm ?_; refine Q3F rfl rfl ?_; refine Q3F rfl rfl ?_; refine Qe hS ?_; intro p3 w1 hS; refine zsn hS ?_; intro w1 hS; have hS := hS.ns; refine zm ?_; refine zn ?_; refine Q0 ?_; refine Q0 ?_; refine Q1 ?_; refine zm ?_; refine Q2e rfl ?_; refine zn ?_)
  all_goals refine Q5 rfl ?_
  all_goals (refine zsk ?_; refine zC [(0, none), (1, none), (2, some (some [1])), (3, some none)] ?_; have hS := hS.drew; refine s_cq ?_; refine zb0 [_] ?_; refine zt ?_; refine s_cq ?_; refine zv hS ?_; refine zt ?_; refine Q1e ?_; refine zsn hS ?_; intro w1 hS; have hS := hS.ns; refine zt ?_; refine zy ?_; refine s_cf ?_; refine zsn hS ?_; intro w1 hS; have hS := hS.ns; refine zt ?_; refine zcn ?_; refine q_endR ?_; refine Q3W ?_; exact ⟨⟨_, rfl⟩, rfl, hS.sp⟩)
/-- What a reading of a module gives back. -/
def ParseS (cx : Cx) (L : List Res) (src : List UInt8) (u : Value) (w' : World) : Prop :=
  (∃ m c' vf, Qaf src = .ok m ∧ u = .tuple #[.agg ⟨[vf]⟩, fltV (0, 0)] ∧ cx.Le c' ∧ modR.at c' [vf] m ∧ St c' w' L) ∨ (∃ f, Qaf src = .error f ∧ u = .tuple #[.agg ⟨[vn]⟩, fltV f] ∧ St cx w' L)
theorem pparse_c {src : List UInt8} (hT : NumK cx) (hl : src.length ≤ 100000) (hS : St cx w L) :
    Rets Tryz.prog Q36 [.string ⟨src.toArray⟩] w fun u w' => ParseS cx L src u w' := by
  have hle := St.refl hS
  unfold ParseS
  all_goals refine QhN ?_
  all_goals (unfold parse_Parse_ld; refine d_seq ?_; refine d_pl ?_; refine Q1 ?_; refine Qe hS ?_; intro p2 w1 hS; refine Qe hS ?_; intro p3 w1 hS; refine zn ?_; refine d_seq ?_; refine d_pl ?_; refine Q1 ?_; refine zm ?_)
  all_goals (refine zR1 (c := scan_c hT hl hS) (h := ?_); rintro v1 w1 (⟨l, c2, v, hs, hle2, rfl, hv, hS⟩ | ⟨er, n, hs, rfl, hS⟩))
  all_goals (refine zm ?_; refine Q3F rfl rfl ?_; refine Q3F rfl rfl ?_; refine zm ?_; refine zsn hS ?_; intro w1 hS; have hS := hS.ns; refine zn ?_; refine d_seq ?_; refine d_pl ?_; refine Q0 ?_)
  all_goals (first | (have hz := scan_err hs; dsimp only at hz) | (obtain ⟨hn1, hn2⟩ := scan_cnt hs; (try have hle := hle.trans hle2); obtain ⟨av, nv, rfl⟩ := Rep.SR.shape hv))
  all_goals (refine Q1 ?_; refine Q2 rfl ?_; refine zl hS ?_)
  all_goals (first | (refine Q2L ?_) | (refine Q2M ?_))
  all_goals (refine zn ?_)
  all_goals
    first
    | (refine Q6 rfl ?_ -- Q36 c0
       all_goals (refine Q0 ?_; refine zC [(0, none), (1, none), (2, some (some [1])), (3, some none)] ?_; have hS := hS.drew; refine s_cq ?_; refine zb0 [_] ?_; refine zt ?_; refine s_cq ?_; refine zv hS ?_; refine zt ?_; refine Q1e ?_; refine zsn hS ?_; intro w1 hS; have hS := hS.ns; refine zt ?_; refine zy ?_; refine s_cf ?_; refine zsn hS ?_; intro w1 hS; have hS := hS.ns; refine zt ?_; refine zcn ?_; refine zr ?_)
       all_goals (refine QoU ?_; (first | (refine Qbh (by intro h; cases h) (by kernel_rfl) (Qkv hS.sp) ?_; rintro u1 w1 ⟨rfl, hS⟩; refine Q51 ?_) | refine Q51 ?_))
       all_goals (refine Qkg vw (Qi (n := 1) (by kernel_rfl) (by kernel_rfl) (hS.blkAt fd) (by rfl) (by rfl)) vw (Qi (n := 2) (by kernel_rfl) (by kernel_rfl) (hS.blkAt fd) (by rfl) (by rfl)) ?_)
       all_goals (exact ⟨_, rfl, .inr ⟨_, QmH hs, rfl, hS.sp⟩⟩))
    | (refine Q5 rfl ?_ -- Q36 c0
       all_goals refine zsk ?_)
  all_goals (refine d_seq ?_; refine d_sp ?_; refine s_mkfn ?_; refine zn ?_; refine ⟨_, _, rfl, ?_⟩; refine zn ?_; refine d_pl ?_; refine Q0 ?_; refine Q1 ?_; refine zm ?_; refine zm ?_; refine Q3S rfl ?_; refine zb2 [_, _] ?_; refine zb hS ?_; intro p22 w1 hS; refine zm ?_; refine zn ?_; refine Q0 ?_; refine Qa ?_)
  refine zo [2, 3, 5] (fun A ρ' w' => ∃ (k0 : Cx) (l1 : List Tok) (v1 : Value) (k : Nat) (xs : List Fun) (vb : Value) (cb : List (List Value)), Has ρ' A ∧ Has ρ' [] ∧ (c2.Le k0) ∧ (l1.length < k) ∧ (xs.length + l1.length ≤ l.length) ∧ (tokR.sl k0 v1 l1) ∧ (funcR.ls k0 cb xs) ∧ (oneC vb = true) ∧ (QmM src.length l = Q2J xs (pOpts (pIf (fun l => !l.isEmpty) (pFun src.length)) k l1)) ∧ St k0 w' (prs p22 v1 src.length :: sl 43 4 vb cb :: blk p2 24 [vb] :: blk p3 29 [vi 0, vi 0] :: L)) (fun _ w' => l.length + 1 - slen (QpL w' p2 0)) ?_ ?_
  · exact ⟨c2, l, _, l.length + 1, [], .slice none 0 0, [], zh, zh, St.refl hS, Nat.lt_succ_self _, (by simp only [List.length_nil]; omega), hv, Rep.LR.nil _ _ _, rfl, Qpe _ _, by have hS := hS.nil (T := 43) (es := 4); exact hS.sp⟩
  rintro ρ w1 ⟨k0, l1, v1, k, xs, vb, cb, hA, hρ, hle2, hk, hxl, hv1, hlb, hvb, hd, hS⟩; obtain ⟨ρ, rfl⟩ := env2 hA hρ; have hL0 := hle2; (try have hle := hle.trans hle2); have hm0 := Q7K (j := 0) hS (i := 2) rfl rfl; have hsl0 := St.slen hS (i := 1) rfl; have hcl0 := hlb.1
  unfold Q9t
  all_goals (refine Q0 ?_; refine Q0 ?_; refine Q1 ?_; refine zm ?_; refine Qh rfl ?_; refine Q2 rfl ?_; refine zl hS ?_; refine zL ?_; refine QjE rfl rfl ?_; refine zn ?_)
  refine Qu rfl (fun hc => ?_) (fun hc => ?_)
  · skip
    all_goals (refine zsk ?_; refine Qa ?_; have hc1 := hc; refine zCK [(0, none), (1, none), (2, none), (3, some (some [1])), (4, some (some [1])), (5, some none), (6, none), (7, some none)] [0, 29, 30, 31, 32, 33, 34, 35] ?_; have hS := hS.drew; refine s_cq ?_; refine Q2 rfl ?_; refine zt ?_; refine s_cq ?_; refine zl hS ?_; refine zt ?_; refine s_cq ?_; refine zm ?_; refine zt ?_; refine Q1e ?_)
    all_goals (refine zE1 (c := prfun_c (by omega) hv1 hS) (p := by rintro u9 w9 ⟨f, v', g1, rfl, hS⟩; refine Qk ?_; refine fun ρ9 hK => ?_; (repeat (first | refine Qk ?_ | refine Ql ?_)); refine q_panD ?_; refine Qbh (by intro h; cases h) (by kernel_rfl) (parse1_p hS.sp) ?_; rintro u' w' ⟨rfl, hS⟩; refine Q51 ?_; refine Qkg ((hK 2 rfl).trans vw) (Qi (n := 1) (by kernel_rfl) (by kernel_rfl) (hS.blkAt fd) (by rfl) (by rfl)) ((hK 3 rfl).trans vw) (Qi (n := 2) (by kernel_rfl) (by kernel_rfl) (hS.blkAt fd) (by rfl) (by rfl)) ?_; exact ⟨_, rfl, .inr ⟨_, parse_e hs (Qnr hd hk (pif_e (QlS hc1) g1)), rfl, St.weak hS.sp hle⟩⟩) (h := ?_); rintro u1 w2 ⟨x, l8, v8, c8, ds, g1, k8, hle2, hx8, rfl, hv8, hS⟩; (try have hle := hle.trans hle2); (try have hL0 := hL0.trans hle2); (try have hlb := hlb.up hle2); (try have hv1 := hv1.up hle2); have hd9 := hx8; obtain ⟨n1, n2, n3, rfl, -⟩ := Q1K hx8; unfold Q5t; have hd4 := Qpc hd hk (pif_o (QlS hc1) g1))
    all_goals (refine zt ?_; refine zy ?_; refine Q1e ?_; refine zB1 hS [_, _, _, _] ?_; intro b1 w1 hS; refine zt ?_; refine zy ?_; refine s_cf ?_; refine za el_T22 u_T22 hS ?_; intro vp1 w1 css1 hls1 hv1 hS; have hS := hS.ns; refine zt ?_; refine s_cq ?_; refine Q2 rfl ?_; refine zt ?_; refine s_cf ?_; refine zst hS ?_; intro w1 hS; have hS := hS.ns; refine zt ?_; refine s_cnil ?_; refine fun _ => ?_; (repeat (first | refine Q3R ?_ | refine QaE ?_)); exact ⟨⟨_, l8, v8, k - 1, xs ++ [x], _, _, zh, zh, hL0, by omega, (by rw [List.length_append]; simp only [List.length_cons, List.length_nil]; omega), hv8, hls1, by assumption, hd4, hS.sp⟩, by rw [hm0, Q7K (j := 0) hS (i := 3) rfl rfl, St.slen hS (i := 2) rfl, hsl0, hcl0, hls1.1, List.length_append]; simp only [List.length_cons, List.length_nil]; omega⟩)
  · skip
    all_goals (refine zex ?_)
    all_goals (have hfin := Qpd hd hk (pif_n (ne_no hc)); obtain ⟨c6, hle2, hS2, hkf⟩ := St.freezeL (r := funcR) (hS.out (r := sl 43 4 vb cb) fd) hlb rfl (by omega); clear hS; have hS := hS2; simp only [List.eraseIdx_cons_zero, List.eraseIdx_cons_succ] at hS; (try have hle := hle.trans hle2); (try have hL0 := hL0.trans hle2); (try have hlb := hlb.up hle2); (try have hv1 := hv1.up hle2); have hx' : modR.at c6 [vb] ⟨xs⟩ := ⟨_, rfl, hkf⟩; have hms := QmF (by omega) hfin)
    all_goals (refine Q0 ?_; refine Q0 ?_; refine Q1 ?_; refine zv hS ?_; refine zR1 (c := Qnp hms hx' hS) (h := ?_); rintro v1 w1 ⟨rfl, hS⟩; unfold fltV; refine Qe hS ?_; intro p6 w1 hS; refine zsn hS ?_; intro w1 hS; have hS := hS.ns; refine zn ?_; refine Q0 ?_; refine Q1 ?_; refine Q2 rfl ?_; refine zl hS ?_)
    all_goals (first | (refine Q2L ?_) | (refine Q2M ?_) | (refine Q1a rfl rfl (fun hc => ?_) (fun hc => ?_)))
    all_goals (refine zn ?_)
    all_goals
      first
      | (refine Q6 rfl ?_ -- Q36 c2
         all_goals (refine Q0 ?_; refine zC [(0, none), (1, none), (2, some (some [1])), (3, some none)] ?_; have hS := hS.drew; refine s_cq ?_; refine zb0 [_] ?_; refine zt ?_; refine s_cq ?_; refine zv hS ?_; refine zt ?_; refine Q1e ?_; refine zsn hS ?_; intro w1 hS; have hS := hS.ns; refine zt ?_; refine zy ?_; refine s_cf ?_; refine zsn hS ?_; intro w1 hS; have hS := hS.ns; refine zt ?_; refine zcn ?_; refine zr ?_)
         all_goals (refine QoU ?_; refine Qbh (by intro h; cases h) (by kernel_rfl) (Qkv hS.sp) ?_; rintro u1 w1 ⟨rfl, hS⟩; refine Q51 ?_)
         all_goals (refine Qkg vw (Qi (n := 1) (by kernel_rfl) (by kernel_rfl) (hS.blkAt fd) (by rfl) (by rfl)) vw (Qi (n := 2) (by kernel_rfl) (by kernel_rfl) (hS.blkAt fd) (by rfl) (by rfl)) ?_)
         all_goals ((first | exact ⟨_, rfl, .inr ⟨_, QmH hs, rfl, hS.sp⟩⟩ | exact ⟨_, rfl, .inr ⟨_, Qp8 hs hfin (by omega), rfl, St.weak hS.sp hle⟩⟩)))
      | (refine Q5 rfl ?_ -- Q36 c2
         all_goals refine zsk ?_)
    all_goals (refine Q0 ?_; refine Q1 ?_; refine zv hS ?_; refine zb0 [_, _] ?_; refine zsn hS ?_; intro w1 hS; have hS := hS.ns; refine zsn hS ?_; intro w1 hS; have hS := hS.ns; refine zn ?_; refine zr ?_)
    all_goals (refine QoU ?_; refine Qbh (by intro h; cases h) (by kernel_rfl) (Qkv hS.sp) ?_; rintro u1 w1 ⟨rfl, hS⟩; refine Q51 ?_)
    all_goals (refine Qkg vw (Qi (n := 1) (by kernel_rfl) (by kernel_rfl) (hS.blkAt fd) (by rfl) (by rfl)) vw (Qi (n := 2) (by kernel_rfl) (by kernel_rfl) (hS.blkAt fd) (by rfl) (by rfl)) ?_; (first | exact ⟨_, rfl, .inr ⟨_, QmH hs, rfl, hS.sp⟩⟩ | exact ⟨_, rfl, .inr ⟨_, Qp8 hs hfin (by omega), rfl, St.weak hS.sp hle⟩⟩ | exact ⟨_, rfl, .inl ⟨_, c6, vb, parse_o hs hfin (by omega), rfl, hle, hx', hS.sp⟩⟩))
end Go.Proofs.YtjecflbbcnocdaaGreatDoor
namespace Go.Lir
set_option linter.unusedVariables false
/-! ### numbers' texts -/
theorem QoW (M : Nat) : ∀ (l r : List UInt8) (acc a : Nat), Lib.parseUintM M acc l = .ok a → Lib.parseUintM M acc (l ++ r) = Lib.parseUintM M a r
  | [], r, acc, a, h => by rw [Lib.parseUintM] at h; cases h; rfl
  | c :: l, r, acc, a, h => by
    rw [Lib.parseUintM] at h
    split at h
    · rename_i hd
      split at h
      · cases h
      · rename_i h1
        split at h
        · cases h
        · rename_i h2
          rw [List.cons_append, Lib.parseUintM, if_pos hd, if_neg h1, if_neg h2]
          exact QoW M l r _ a h
    · cases h
theorem QpK {d : Nat} (h : d < 10) : (UInt8.ofNat (48 + d)).toNat = 48 + d := by
  rw [UInt8.toNat_ofNat']; exact Nat.mod_eq_of_lt (by omega)
theorem QoV {d acc : Nat} (h : d < 10) (ha : acc * 10 + d ≤ 9223372036854775808) : Lib.parseUintM (2 ^ 64 - 1) acc [UInt8.ofNat (48 + d)] = .ok (acc * 10 + d) := by
  rw [Lib.parseUintM, QpK h, if_pos (by omega), if_neg (by omega), if_neg (by omega), Lib.parseUintM, show 48 + d - 48 = d by omega]
theorem QiG (u : Nat) : u ≤ 9223372036854775808 → Lib.parseUintM (2 ^ 64 - 1) 0 (Lib.decDigits u) = .ok u := by
  induction u using Nat.strongRecOn with
  | ind u ih =>
    intro hu
    rw [Lib.decDigits]
    split
    · rename_i h
      have := QoV (acc := 0) h (by omega)
      rw [this]; congr 1; omega
    · rename_i h
      rw [QoW _ _ _ _ _ (ih (u / 10) (by omega) (by omega)), QoV (by omega) (by omega)]
      congr 1; omega
theorem QcB (u : Nat) : ∀ c ∈ Lib.decDigits u, QO c = true := by
  induction u using Nat.strongRecOn with
  | ind u ih =>
    intro c hc
    have hd : ∀ d, d < 10 → QO (UInt8.ofNat (48 + d)) = true := fun d h => by unfold QO; rw [QpK h]; exact decide_eq_true (by omega)
    rw [Lib.decDigits] at hc
    split at hc
    · rename_i h; simp only [List.mem_singleton] at hc; subst hc; exact hd u h
    · rename_i h
      rcases List.mem_append.1 hc with hc | hc
      · exact ih _ (by omega) c hc
      · simp only [List.mem_singleton] at hc; subst hc; exact hd _ (by omega)
theorem Q5y (u : Nat) : ∃ c r, Lib.decDigits u = c :: r ∧ QO c = true := by
  cases h : Lib.decDigits u with
  | nil =>
    exfalso
    rw [Lib.decDigits] at h
    split at h
    · cases h
    · simp at h
  | cons c r => exact ⟨c, r, rfl, QcB u c (by rw [h]; exact List.mem_cons_self ..)⟩
theorem num_itoa {n : Int} (h0 : -9223372036854775808 ≤ n) (h1 : n ≤ 9223372036854775807) : QfN (Lib.itoa n) = some n := by
  have hok : Lib.parseIntB 64 (Lib.itoa n) = .ok n := by
    by_cases hn : n < 0
    · obtain ⟨c, r, hc, _⟩ := Q5y n.natAbs
      have e : Lib.itoa n = 45 :: Lib.decDigits n.natAbs := by unfold Lib.itoa; rw [if_pos hn]
      have e2 : Lib.parseUintB 64 (Lib.decDigits n.natAbs) = .ok n.natAbs := by
        unfold Lib.parseUintB; rw [if_neg (by rw [hc]; simp), QiG _ (by omega)]
      rw [e]
      simp only [Lib.parseIntB]
      rw [if_pos (by decide), e2]
      dsimp only
      rw [if_neg (fun h => h.1 (by decide)), if_neg (fun h => by have := h.2; omega), if_pos (by decide)]
      congr 1; omega
    · obtain ⟨c, r, hc, hd⟩ := Q5y n.toNat
      have e : Lib.itoa n = Lib.decDigits n.toNat := by unfold Lib.itoa; rw [if_neg hn]
      have e2 : Lib.parseUintB 64 (Lib.decDigits n.toNat) = .ok n.toNat := by
        unfold Lib.parseUintB; rw [if_neg (by rw [hc]; simp), QiG _ (by omega)]
      have hd2 : 48 ≤ c.toNat ∧ c.toNat ≤ 57 := of_decide_eq_true hd
      rw [e]
      rw [hc] at e2 ⊢
      simp only [Lib.parseIntB]
      rw [if_neg (by omega), e2]
      dsimp only
      rw [if_neg (by omega), if_neg (by omega), if_neg (by omega)]
      congr 1; omega
  unfold QfN
  rw [hok]
  simp
/-! ### tokens of a text -/
abbrev Tk := List UInt8 × Option Int
abbrev Tok.tk (t : Tok) : Tk := (t.text, t.num)
def Qi8 (s : List UInt8) (ts : List Tk) : Prop := ∀ (n k : Nat) (acc : List Tok), s.length < k → ∃ res, Q3o n k (skip false s) acc = .ok (acc ++ res) ∧ res.map Tok.tk = ts
/-- No letter and no digit stands here. -/
def Sep (s : List UInt8) : Prop := ∀ c r, s = c :: r → Q2m c = false ∧ QO c = false
theorem Qoz : Qi8 [] [] := fun n k acc _ => ⟨[], by cases k <;> simp [skip, Q3o], rfl⟩
theorem QjA {c : UInt8} {s : List UInt8} {ts : List Tk} (hc : c = 10 ∨ c = 32 ∨ c = 9 ∨ c = 13) (h : Qi8 s ts) : Qi8 (c :: s) ts := fun n k acc hk => by
  rw [skip, if_pos hc]; exact h n k acc (by simp at hk; omega)
theorem Q4F {t s : List UInt8} {m : Option Int} {ts : List Tk} (ht : tok1 (t ++ s) = .ok (t, m)) (h : Qi8 s ts) : Qi8 (t ++ s) ((t, m) :: ts) := fun n k acc hk => by
  have hl := Qeq ht
  have hs := Qoo ht s
  rw [hs]
  match t, hl, k, hk with
  | c :: t, _, k + 1, hk =>
    obtain ⟨res, h1, h2⟩ := h n k (acc ++ [⟨n - (c :: t ++ s).length, c :: t, m⟩]) (by simp at hk; omega)
    refine ⟨⟨n - (c :: t ++ s).length, c :: t, m⟩ :: res, ?_, by rw [List.map_cons, h2]⟩
    rw [List.cons_append] at ht h1 ⊢
    rw [Q3o, ht]
    dsimp only
    rw [← List.cons_append, List.drop_left, List.cons_append, h1, List.append_assoc]; rfl
theorem Q9o {p : UInt8 → Bool} : ∀ {l : List UInt8}, (∀ x ∈ l, p x = true) → l.takeWhile p = l
  | [], _ => rfl
  | c :: l, h => by rw [List.takeWhile_cons, if_pos (h c (List.mem_cons_self ..)), Q9o fun x hx => h x (List.mem_cons_of_mem _ hx)]
theorem Q5j {p : UInt8 → Bool} {l s : List UInt8} (hl : ∀ x ∈ l, p x = true) (hs : ∀ c r, s = c :: r → p c = false) : (l ++ s).takeWhile p = l := by
  cases s with
  | nil => rw [List.append_nil]; exact Q9o hl
  | cons c r => exact Q1M hl (hs c r rfl)
theorem tok_word {t s : List UInt8} (h0 : t ≠ []) (h : ∀ x ∈ t, Q2m x = true) (hs : Sep s) : tok1 (t ++ s) = .ok (t, none) := by
  match t, h0 with
  | c :: t, _ =>
    rw [List.cons_append, Q4b (h c (List.mem_cons_self ..)), ← List.cons_append, Q5j h fun c r e => (hs c r e).1]
theorem QfZ {c : UInt8} (h : QO c = true) : ¬ Q2m c = true ∧ ¬ c = 62 := by
  have h1 : 48 ≤ c.toNat ∧ c.toNat ≤ 57 := of_decide_eq_true h
  refine ⟨fun h2 => ?_, ?_⟩
  · have := of_decide_eq_true h2; omega
  · rintro rfl; exact absurd h1 (by decide)
theorem tok_num {n : Int} {s : List UInt8} (h0 : -9223372036854775808 ≤ n) (h1 : n ≤ 9223372036854775807) (hs : Sep s) : tok1 (Lib.itoa n ++ s) = .ok (Lib.itoa n, some n) := by
  have hn := num_itoa h0 h1
  have hd : ∀ c r, s = c :: r → QO c = false := fun c r e => (hs c r e).2
  by_cases hneg : n < 0
  · have e : Lib.itoa n = 45 :: Lib.decDigits n.natAbs := by unfold Lib.itoa; rw [if_pos hneg]
    rw [e] at hn ⊢
    obtain ⟨c, r, hc, hcd⟩ := Q5y n.natAbs
    have hall := QcB n.natAbs
    rw [hc] at hn hall ⊢
    rw [List.cons_append, List.cons_append, Q4a (QfZ hcd).2 hcd, ← List.cons_append, Q5j hall hd]
    unfold numT; rw [hn]
  · have e : Lib.itoa n = Lib.decDigits n.toNat := by unfold Lib.itoa; rw [if_neg hneg]
    rw [e] at hn ⊢
    obtain ⟨c, r, hc, hcd⟩ := Q5y n.toNat
    have hall := QcB n.toNat
    rw [hc] at hn hall ⊢
    rw [List.cons_append, Q2n (QfZ hcd).1 hcd, ← List.cons_append, Q5j hall hd]
    unfold numT; rw [hn]
theorem Q6I {c : UInt8} (h : Q6p c = true) : Q2m c = false ∧ QO c = false ∧ ¬ c = 45 := by
  have hall : ∀ p : Fin 256, Q6p (UInt8.ofNat p.val) = true → Q2m (UInt8.ofNat p.val) = false ∧ QO (UInt8.ofNat p.val) = false ∧ ¬ UInt8.ofNat p.val = 45 := by decide +kernel
  have h1 := hall ⟨c.toNat, c.toNat_lt⟩
  simp only [UInt8.ofNat_toNat] at h1
  exact h1 h
theorem Qms {c : UInt8} {s : List UInt8} (h : Q6p c = true) : tok1 ([c] ++ s) = .ok ([c], none) := by
  obtain ⟨h1, h2, h3⟩ := Q6I h
  exact Qep (by rw [h1]; decide) (by rw [h2]; decide) h3 h
/-! ### texts that are Q3X -/
def Pr (t : List UInt8) (g : List Tk) : Prop := ∀ s ts, Sep s → Qi8 s ts → Qi8 (t ++ s) (g ++ ts)
theorem Qov {c : UInt8} {s : List UInt8} (h : Q2m c = false ∧ QO c = false) : Sep (c :: s) := fun a r e => by cases e; exact h
theorem Pr.nil : Pr [] [] := fun s ts _ h => h
theorem Pr.app {a b : List UInt8} {g h : List Tk} (ha : Pr a g) (hb : Pr b h) (hs : ∀ s, Sep s → Sep (b ++ s)) : Pr (a ++ b) (g ++ h) := fun s ts h1 h2 => by
  rw [List.append_assoc, List.append_assoc]; exact ha _ _ (hs s h1) (hb s ts h1 h2)
theorem Pr.sp {b : List UInt8} {c : UInt8} {h : List Tk} (hc : c = 10 ∨ c = 32 ∨ c = 9 ∨ c = 13) (hb : Pr b h) : Pr (c :: b) h := fun s ts h1 h2 => QjA hc (hb s ts h1 h2)
theorem sp_sep {c : UInt8} (hc : c = 10 ∨ c = 32 ∨ c = 9 ∨ c = 13) : Q2m c = false ∧ QO c = false := by rcases hc with rfl | rfl | rfl | rfl <;> decide
/-- One behind the other, with a blank between. -/
theorem Pr.app_sp {a b : List UInt8} {c : UInt8} {g h : List Tk} (hc : c = 10 ∨ c = 32 ∨ c = 9 ∨ c = 13) (ha : Pr a g) (hb : Pr b h) : Pr (a ++ c :: b) (g ++ h) :=
  ha.app (hb.sp hc) fun s _ => Qov (sp_sep hc)
theorem Pr.word {t : List UInt8} (h0 : t ≠ []) (h : ∀ x ∈ t, Q2m x = true) : Pr t [(t, none)] := fun s ts h1 h2 => Q4F (tok_word h0 h h1) h2
theorem Pr.num {n : Int} (h0 : -9223372036854775808 ≤ n) (h1 : n ≤ 9223372036854775807) : Pr (Lib.itoa n) [(Lib.itoa n, some n)] := fun s ts h2 h3 => Q4F (tok_num h0 h1 h2) h3
theorem Pr.sig {c : UInt8} (h : Q6p c = true) : Pr [c] [([c], none)] := fun s ts h1 h2 => Q4F (Qms h) h2
/-- A sign may stand ahead of whatever comes. -/
theorem Pr.sigl {c : UInt8} {b : List UInt8} {g : List Tk} (h : Q6p c = true) (hb : Pr b g) : Pr (c :: b) (([c], none) :: g) := fun s ts h1 h2 => Q4F (Qms h) (hb s ts h1 h2)
theorem Pr.sigr {c : UInt8} {b : List UInt8} {g : List Tk} (h : Q6p c = true) (hb : Pr b g) : Pr (b ++ [c]) (g ++ [([c], none)]) := hb.app (Pr.sig h) fun s _ => Qov ⟨(Q6I h).1, (Q6I h).2.1⟩
/-- Things with Q3x between. -/
def Q3x : List (List Tk) → List Tk
  | [] => []
  | [g] => g
  | g :: l => g ++ ([44], none) :: Q3x l
theorem Qm5 (g h : List Tk) (l : List (List Tk)) : Q3x (g :: h :: l) = g ++ ([44], none) :: Q3x (h :: l) := rfl
theorem join_cc {x y : List UInt8} {l : List (List UInt8)} {sep : List UInt8} : Lib.join (x :: y :: l) sep = x ++ (sep ++ Lib.join (y :: l) sep) := by
  rw [Lib.join_cons, Lib.join_cons]; simp [Lib.joinTail]
theorem Pr.join : ∀ {l : List (List UInt8 × List Tk)}, (∀ x ∈ l, Pr x.1 x.2) → Pr (Lib.join (l.map Prod.fst) [44, 32]) (Q3x (l.map Prod.snd))
  | [], _ => Pr.nil
  | [x], h => by
    have := h x (List.mem_cons_self ..)
    simp only [List.map_cons, List.map_nil]
    rw [Lib.join_one, Q3x]; exact this
  | x :: y :: l, h => by
    have h1 := h x (List.mem_cons_self ..)
    have h2 := Pr.join (l := y :: l) fun z hz => h z (List.mem_cons_of_mem _ hz)
    simp only [List.map_cons] at h2 ⊢
    rw [join_cc, Qm5]
    exact h1.app (Pr.sigl (by decide) (h2.sp (by decide))) fun s _ => Qov (by decide)
theorem Pr.listOf {α : Type} {f : α → List UInt8} {g : α → List Tk} {l : List α} {b e : UInt8} (h : ∀ x ∈ l, Pr (f x) (g x)) (hb : Q6p b = true) (he : Q6p e = true) : Pr ([b] ++ Lib.join (l.map f) [44, 32] ++ [e]) (([b], none) :: (Q3x (l.map g) ++ [([e], none)])) := by
  have h1 := Pr.join (l := l.map fun x => (f x, g x)) (by intro x hx; obtain ⟨y, hy, rfl⟩ := List.mem_map.1 hx; exact h y hy)
  simp only [List.map_map] at h1
  exact Pr.sigl hb (Pr.sigr he h1)
/-! ### modules' tokens -/
abbrev nt (n : Int) : Tk := (Lib.itoa n, some n)
abbrev wt (t : List UInt8) : Tk := (t, none)
def Q9v (b : UInt8) (l : List Int) (e : UInt8) : List Tk := wt [b] :: (Q3x (l.map fun n => [nt n]) ++ [wt [e]])
mutual
def Ty.tks : Ty → List Tk
  | .mk k r l => if k = 2 then [wt Q3k, nt r] else if k = 4 then [wt Q9p, nt r] else if k = 3 then wt Q3s :: nt r :: wt [40] :: (Q3x (Tys.tkss l) ++ [wt [41]]) else [wt tInt]
def Tys.tkss : List Ty → List (List Tk)
  | [] => []
  | x :: l => x.tks :: Tys.tkss l
end
theorem Tys.tkss_map : ∀ (l : List Ty), Tys.tkss l = l.map Ty.tks
  | [] => by rw [Tys.tkss]; rfl
  | x :: l => by rw [Tys.tkss, Tys.tkss_map l]; rfl
def QdA (l : List Ty) : List Tk := wt [40] :: (Q3x (Tys.tkss l) ++ [wt [41]])
theorem Qky {t : List UInt8} (h : t.all Q2m = true) : ∀ x ∈ t, Q2m x = true := fun x hx => List.all_eq_true.1 h x hx
theorem Ty.pr : ∀ (t : Ty), t.InR → Pr t.txt t.tks := by
  intro t
  induction t using Ty.ind with
  | h k r l ih =>
    intro hr
    obtain ⟨hk, ⟨hr0, hr1⟩, hsub⟩ := hr.parts
    have hw : ∀ t : List UInt8, t ≠ [] → t.all Q2m = true → Pr t [wt t] := fun t h0 h => Pr.word h0 (Qky h)
    have hn : Pr (Lib.itoa r) [nt r] := Pr.num hr0 hr1
    rw [Ty.txt, Ty.tks]
    split
    · exact Pr.app_sp (a := Q3k) (.inr (.inl rfl)) (hw _ (by decide) (by decide)) hn
    · split
      · exact Pr.app_sp (a := Q9p) (.inr (.inl rfl)) (hw _ (by decide) (by decide)) hn
      · split
        · have hl : Pr ([40] ++ Lib.join (Tys.txts l) [44, 32] ++ [41]) (wt [40] :: (Q3x (Tys.tkss l) ++ [wt [41]])) := by
            rw [Tys.txts_map, Tys.tkss_map]
            exact Pr.listOf (fun x hx => ih x hx (hsub x hx)) (by decide) (by decide)
          have h2 := Pr.app_sp (a := Q3s) (.inr (.inl rfl)) (hw _ (by decide) (by decide)) (Pr.app_sp (c := 32) (.inr (.inl rfl)) hn hl)
          simpa [List.append_assoc] using h2
        · exact hw _ (by decide) (by decide)
theorem QeC {l : List Ty} (h : ∀ x ∈ l, x.InR) : Pr (Q39 l) (QdA l) := by
  unfold Q39 QdA
  rw [Tys.txts_map, Tys.tkss_map]
  exact Pr.listOf (fun x hx => Ty.pr x (h x hx)) (by decide) (by decide)
def SmL (l : List Int) : Prop := ∀ n ∈ l, 0 ≤ n ∧ n ≤ 1000000
theorem Q52 {b e : UInt8} {l : List Int} (h : SmL l) (hb : Q6p b = true) (he : Q6p e = true) : Pr (Q1P [b] l [e]) (Q9v b l e) :=
  Pr.listOf (fun x hx => Pr.num (by have := h x hx; omega) (by have := h x hx; omega)) hb he
end Go.Lir
namespace Go.Lir
set_option linter.unusedVariables false
section
variable {α β : Type}
/-- A reader that reads these tokens as this thing. -/
def Rd (f : List Tok → PGot α) (g : List Tk) (a : α) : Prop := ∀ (l : List Tok) (ts : List Tk), l.map Tok.tk = g ++ ts → ∃ l', f l = .ok (a, l') ∧ l'.map Tok.tk = ts
theorem Rd.bind {f : List Tok → PGot α} {h : α → List Tok → PGot β} {g g2 : List Tk} {a : α} {b : β} (h1 : Rd f g a) (h2 : Rd (h a) g2 b) : Rd (fun l => Qd (f l) h) (g ++ g2) b := fun l ts hl => by
  obtain ⟨l1, e1, m1⟩ := h1 l (g2 ++ ts) (by rw [hl, List.append_assoc])
  obtain ⟨l2, e2, m2⟩ := h2 l1 ts m1
  exact ⟨l2, by show Qd (f l) h = _; rw [e1]; exact e2, m2⟩
theorem Rd.bind1 {f : List Tok → PGot α} {h : α → List Tok → PGot β} {g2 : List Tk} {t : Tk} {a : α} {b : β} (h1 : Rd f [t] a) (h2 : Rd (h a) g2 b) : Rd (fun l => Qd (f l) h) (t :: g2) b := h1.bind h2
theorem Rd.last {f : List Tok → PGot α} {h : α → List Tok → PGot β} {g : List Tk} {a : α} {b : β} (h1 : Rd f g a) (h2 : Rd (h a) [] b) : Rd (fun l => Qd (f l) h) g b := by
  have := h1.bind h2; rwa [List.append_nil] at this
theorem Rd.pure (a : α) : Rd (fun l => .ok (a, l)) [] a := fun l ts hl => ⟨l, rfl, hl⟩
theorem map_cons {l : List Tok} {t : Tk} {ts : List Tk} (h : l.map Tok.tk = t :: ts) : ∃ x r, l = x :: r ∧ x.tk = t ∧ r.map Tok.tk = ts := by
  cases l with
  | nil => cases h
  | cons x r => rw [List.map_cons] at h; cases h; exact ⟨x, r, rfl, rfl, rfl⟩
theorem Q2l {l : List Tok} {s s2 : List UInt8} {m : Option Int} {ts : List Tk} (h : l.map Tok.tk = (s2, m) :: ts) : isT s l = (m.isNone && decide (s2 = s)) := by
  obtain ⟨x, r, rfl, h1, h2⟩ := map_cons h
  simp only [Tok.tk, Prod.mk.injEq] at h1
  show (x.num.isNone && decide (x.text = s)) = _
  rw [h1.1, h1.2]
theorem Q4k {l : List Tok} {t : Tk} {ts : List Tk} (h : l.map Tok.tk = t :: ts) : l.tail.map Tok.tk = ts := by
  obtain ⟨x, r, rfl, h1, h2⟩ := map_cons h; exact h2
theorem Rd.want {e : Nat} {s : List UInt8} : Rd (want e s) [wt s] () := fun l ts hl => by
  have hl : l.map Tok.tk = (s, none) :: ts := hl
  refine ⟨l.tail, ?_, Q4k hl⟩
  unfold Lir.want
  rw [Q2l hl, if_pos (by simp)]
theorem Rd.long {e : Nat} {n : Int} : Rd (Qbc e) [nt n] n := fun l ts hl => by
  obtain ⟨x, r, rfl, h1, h2⟩ := map_cons hl
  simp only [Tok.tk, Prod.mk.injEq] at h1
  refine ⟨r, ?_, h2⟩
  unfold Qbc
  simp only [h1.2]
theorem Rd.num {e : Nat} {n : Int} (h0 : 0 ≤ n ∧ n ≤ 1000000) : Rd (pNum e) [nt n] n := fun l ts hl => by
  obtain ⟨l', e1, h1⟩ := Rd.long (e := e) l ts hl
  refine ⟨l', ?_, h1⟩
  unfold pNum
  rw [if_neg, e1]
  obtain ⟨x, r, rfl, h2, h3⟩ := map_cons hl
  simp only [Tok.tk, Prod.mk.injEq] at h2
  unfold wideT
  simp only [h2.2]
  intro h9
  have := of_decide_eq_true h9
  omega
/-- The tokens of a list behind its first thing. -/
def Q7u (g : α → List Tk) : List α → List Tk
  | [] => []
  | x :: xs => wt [44] :: (g x ++ Q7u g xs)
theorem Qm4 (g : α → List Tk) : ∀ (x : α) (xs : List α), Q3x ((x :: xs).map g) = g x ++ Q7u g xs
  | x, [] => by simp [Q3x, Q7u]
  | x, y :: xs => by
    have := Qm4 g y xs
    rw [List.map_cons, List.map_cons, Qm5, ← List.map_cons, this]; rfl
/-- It begins with another token than this sign. -/
def Beg (cl : List UInt8) (g : List Tk) : Prop := ∃ t m r, g = (t, m) :: r ∧ (m.isNone && decide (t = cl)) = false
theorem Qpk {e : Nat} {cl : List UInt8} {f : List Tok → PGot α} {g : α → List Tk} (hcl : cl ≠ [44]) : ∀ (xs : List α) (k n : Nat), 0 < n → xs.length < k → (∀ x ∈ xs, Rd f (g x) x) → Rd (pMany e cl f k n) (Q7u g xs ++ [wt cl]) xs
  | [], k + 1, n, hn, hk, h => fun l ts hl => by
    have hl : l.map Tok.tk = (cl, none) :: ts := hl
    rw [pMany, Q2l hl, if_pos (by simp)]
    exact ⟨_, rfl, Q4k hl⟩
  | x :: xs, k + 1, n, hn, hk, h => fun l ts hl => by
    have hl2 : l.map Tok.tk = (([44] : List UInt8), none) :: (g x ++ (Q7u g xs ++ [wt cl] ++ ts)) := by rw [hl]; simp [Q7u, List.append_assoc]
    rw [pMany, Q2l hl2, if_neg (by simpa using fun h => hcl h.symm), if_neg (by omega)]
    have h1 : Rd (want e [44]) [wt [44]] () := Rd.want
    obtain ⟨l1, e1, m1⟩ := h1 l _ hl2
    obtain ⟨l2, e2, m2⟩ := h x (List.mem_cons_self ..) l1 _ m1
    obtain ⟨l3, e3, m3⟩ := Qpk (e := e) hcl xs k (n + 1) (by omega) (by simp at hk; omega) (fun y hy => h y (List.mem_cons_of_mem _ hy)) l2 _ m2
    rw [e1]
    refine ⟨l3, ?_, m3⟩
    simp only [Qd, e2, e3]
theorem Qpa {e : Nat} {cl : List UInt8} {f : List Tok → PGot α} (k n : Nat) (l : List Tok) : pMany e cl f (k + 1) n l = if isT cl l = true then .ok ([], l.tail) else
    Qd (if n = 0 then .ok ((), l) else want e [44] l) fun _ l => Qd (f l) fun x l => Qd (pMany e cl f k (n + 1) l) fun xs l => .ok (x :: xs, l) := by rw [pMany]
theorem Qbg {e : Nat} {b cl : List UInt8} {f : List Tok → PGot α} {g : α → List Tk} {xs : List α} (hcl : cl ≠ [44]) (hn : xs.length ≤ 100) (h : ∀ x ∈ xs, Rd f (g x) x) (hb : ∀ x ∈ xs, Beg cl (g x)) : Rd (Q1X e b cl f) (wt b :: (Q3x (xs.map g) ++ [wt cl])) xs := by
  unfold Q1X
  refine Rd.bind1 Rd.want ?_
  cases xs with
  | nil =>
    intro l ts hl
    have hl : l.map Tok.tk = (cl, none) :: ts := hl
    show ∃ l', pMany e cl f 101 0 l = _ ∧ _
    rw [show pMany e cl f 101 0 l = _ from Qpa 100 0 l, Q2l hl, if_pos (by simp)]
    exact ⟨_, rfl, Q4k hl⟩
  | cons x xs =>
    intro l ts hl
    rw [Qm4] at hl
    obtain ⟨t, m, r, hg, hno⟩ := hb x (List.mem_cons_self ..)
    have hl2 : l.map Tok.tk = g x ++ (Q7u g xs ++ [wt cl] ++ ts) := by rw [hl]; simp [List.append_assoc]
    have hl3 : l.map Tok.tk = (t, m) :: (r ++ (Q7u g xs ++ [wt cl] ++ ts)) := by rw [hl2, hg]; rfl
    show ∃ l', pMany e cl f 101 0 l = _ ∧ _
    rw [show pMany e cl f 101 0 l = _ from Qpa 100 0 l, Q2l hl3, hno, if_neg Bool.false_ne_true, if_pos rfl]
    obtain ⟨l2, e2, m2⟩ := h x (List.mem_cons_self ..) l _ hl2
    obtain ⟨l3, e3, m3⟩ := Qpk (e := e) hcl xs 100 1 (by omega) (by simp at hn; omega) (fun y hy => h y (List.mem_cons_of_mem _ hy)) l2 _ m2
    refine ⟨l3, ?_, m3⟩
    simp only [Qd, e2, e3]
end
/-! ### types -/
theorem ty_beg (t : Ty) : Beg [41] t.tks := by
  obtain ⟨k, r, l⟩ := t
  rw [Ty.tks]
  repeat' split
  all_goals exact ⟨_, _, _, rfl, by decide⟩
theorem Rd.ty {e : Nat} {n : Int} (hn : n ≤ 1000000) : ∀ (k : Nat) (t : Ty), t.deepB k = true → t.wrong 8 n = 0 → Rd (pTyp e (k + 1)) t.tks t
  | k, .mk kd r l, hd, hw => by
    obtain ⟨w1, w2, w3, w4, w5⟩ := Ty.wrong_parts hw
    have hr : kd ≠ 1 → 0 ≤ r ∧ r < n := by
      intro h1
      rw [Ty.wrong] at hw
      split at hw; · cases hw
      split at hw; · cases hw
      split at hw; · cases hw
      split at hw; · cases hw
      omega
    rw [Ty.deepB] at hd
    split at hd; · cases hd
    have h6 := QkJ hd
    have hz : kd ≠ 3 → l = [] := fun h => List.length_eq_zero_iff.1 (w3 h)
    intro L ts hl
    rcases (show kd = 1 ∨ kd = 2 ∨ kd = 3 ∨ kd = 4 by omega) with rfl | rfl | rfl | rfl
    · obtain rfl := hz (by decide)
      obtain rfl := w2 rfl
      rw [Ty.tks, if_neg (by decide), if_neg (by decide), if_neg (by decide)] at hl
      have hl : L.map Tok.tk = (tInt, none) :: ts := hl
      rw [pTyp, Q2l hl, if_pos (by decide)]
      exact ⟨_, rfl, Q4k hl⟩
    · obtain rfl := hz (by decide)
      rw [Ty.tks, if_pos rfl] at hl
      have hl : L.map Tok.tk = (Q3k, none) :: (nt r :: ts) := hl
      rw [pTyp, Q2l hl, if_neg (by decide), Q2l hl, if_pos (by decide)]
      obtain ⟨l1, e1, m1⟩ := Rd.num (e := e) (n := r) (by have := hr (by decide); omega) L.tail ts (Q4k hl)
      exact ⟨l1, by simp only [Qd, e1], m1⟩
    · rw [Ty.tks, if_neg (by decide), if_neg (by decide), if_pos rfl] at hl
      have hl : L.map Tok.tk = (Q3s, none) :: (nt r :: (wt [40] :: (Q3x (Tys.tkss l) ++ [wt [41]]) ++ ts)) := by rw [hl]; simp
      rw [pTyp, Q2l hl, if_neg (by decide), Q2l hl, if_neg (by decide), Q2l hl, if_neg (by decide)]
      obtain ⟨l1, e1, m1⟩ := Rd.want (e := e) (s := Q3s) L _ hl
      obtain ⟨l2, e2, m2⟩ := Rd.num (e := e) (n := r) (by have := hr (by decide); omega) l1 _ m1
      have hsub : Rd (Q1X e [40] [41] (pTyp e k)) (wt [40] :: (Q3x (l.map Ty.tks) ++ [wt [41]])) l := by
        cases l with
        | nil => exact Qbg (by decide) (by decide) (by simp) (by simp)
        | cons x l =>
          match k with
          | 0 =>
            have := h6 x (List.mem_cons_self ..)
            obtain ⟨a, b, c⟩ := x
            rw [Ty.deepB, if_pos (by omega)] at this
            cases this
          | k + 1 => exact Qbg (by decide) (by omega) (fun t ht => Rd.ty hn k t (by rw [show (k : Int) = ((k + 1 : Nat) : Int) - 1 by omega]; exact h6 t ht) (w5 t ht)) fun t _ => ty_beg t
      rw [← Tys.tkss_map] at hsub
      obtain ⟨l3, e3, m3⟩ := hsub l2 _ m2
      exact ⟨l3, by simp only [Qd, e1, e2, e3], m3⟩
    · obtain rfl := hz (by decide)
      rw [Ty.tks, if_neg (by decide), if_pos rfl] at hl
      have hl : L.map Tok.tk = (Q9p, none) :: (nt r :: ts) := hl
      rw [pTyp, Q2l hl, if_neg (by decide), Q2l hl, if_neg (by decide), Q2l hl, if_pos (by decide)]
      obtain ⟨l1, e1, m1⟩ := Rd.num (e := e) (n := r) (by have := hr (by decide); omega) L.tail ts (Q4k hl)
      exact ⟨l1, by simp only [Qd, e1], m1⟩
theorem Rd.tys {e : Nat} {n : Int} {l : List Ty} (hn : n ≤ 1000000) (h : QC l n = 0) : Rd (Q4g e) (QdA l) l := by
  unfold QC at h
  split at h; · cases h
  unfold Q4g QdA
  rw [Tys.tkss_map]
  refine Qbg (by decide) (by omega) (fun t ht => ?_) fun t _ => ty_beg t
  have h1 := Q9C h t ht
  unfold Ty.fault at h1
  split at h1; · cases h1
  exact Rd.ty hn 4 t (by simpa using ‹¬ t.deepB 4 = false›) h1
theorem Q6H {l : List Int} (h : Q1k l = true) : SmL l := fun n hn => of_decide_eq_true (List.all_eq_true.1 h n hn)
theorem nt_beg (cl : List UInt8) (n : Int) : Beg cl [nt n] := ⟨_, _, _, rfl, rfl⟩
theorem Rd.regs {e : Nat} {l : List Int} (hl : l.length ≤ 16) (h : SmL l) : Rd (QnY e) (Q9v 60 l 62) l := Qbg (by decide) (by omega) (fun n hn => Rd.num (h n hn)) fun n _ => nt_beg _ n
theorem Rd.args {e : Nat} {l : List Int} (hl : l.length ≤ 16) (h : SmL l) : Rd (QhR e) (Q9v 40 l 41) l := Qbg (by decide) (by omega) (fun n hn => Rd.num (h n hn)) fun n _ => nt_beg _ n
end Go.Lir
namespace Go.Lir
set_option linter.unusedVariables false
section
variable {e : Nat}
/-- The word's number. -/
def Qpu (ws : List (List UInt8)) : List Tk → Nat
  | [] => 0
  | (t, m) :: _ => if m.isNone = true then QhS ws t else 0
theorem QkA {ws : List (List UInt8)} {l : List Tok} {ts : List Tk} (h : l.map Tok.tk = ts) : Q9f ws l = Qpu ws ts := by
  subst h
  cases l <;> rfl
def Ins.tks (x : Ins) : List Tk :=
  if x.op = 1 then [nt x.n]
  else if x.op = 2 then [wt (wordN kindWords x.k), nt x.a, nt x.b]
  else if x.op = 4 ∨ x.op = 11 ∨ x.op = 13 then [nt x.a]
  else if x.op = 5 then nt x.a :: Q9v 40 x.args 41
  else if x.op = 6 then [nt x.a, nt x.k]
  else if x.op = 7 then [nt x.a, nt x.k, nt x.b]
  else if x.op = 8 ∨ x.op = 9 then [nt x.a, nt x.b]
  else if x.op = 10 then [nt x.a, nt x.b, nt x.c]
  else if x.op = 14 then nt x.k :: (Q9v 60 x.regs 62 ++ Q9v 40 x.args 41)
  else []
theorem Rd.kind {k : Int} (h : 1 ≤ k ∧ k ≤ 9) : Rd (QfM e) [wt (wordN kindWords k)] k := fun l ts hl => by
  have hw := QkA (ws := kindWords) hl
  have e1 : Qpu kindWords ([wt (wordN kindWords k)] ++ ts) = k.toNat := by
    have : k = 1 ∨ k = 2 ∨ k = 3 ∨ k = 4 ∨ k = 5 ∨ k = 6 ∨ k = 7 ∨ k = 8 ∨ k = 9 := by omega
    rcases this with rfl | rfl | rfl | rfl | rfl | rfl | rfl | rfl | rfl <;> rfl
  rw [e1] at hw
  refine ⟨l.tail, ?_, Q4k hl⟩
  unfold QfM
  rw [hw, if_neg (by omega)]
  congr 2; omega
theorem sm4 {a b c k : Int} (h : Q1k [a, b, c, k] = true) : (0 ≤ a ∧ a ≤ 1000000) ∧ (0 ≤ b ∧ b ≤ 1000000) ∧ (0 ≤ c ∧ c ≤ 1000000) ∧ (0 ≤ k ∧ k ≤ 1000000) := by
  have := Q6H h
  exact ⟨this a (by simp), this b (by simp), this c (by simp), this k (by simp)⟩
theorem Q7s {x : Ins} (h : x.small = true) : Q1k [x.a, x.b, x.c, x.k] = true ∧ Q1k x.regs = true ∧ Q1k x.args = true := by
  unfold Ins.small at h
  rw [Bool.and_eq_true, Bool.and_eq_true] at h
  exact ⟨h.1.1, h.1.2, h.2⟩
/-- The fields that the kind has not are 0; lists are short. -/
theorem Qkz {n : Nat} {x : Ins} (h : Q1Q n x = 0) : (1 ≤ x.op ∧ x.op ≤ 14) ∧ (fA x.op = false → x.a = 0) ∧ (fB x.op = false → x.b = 0) ∧ (fC x.op = false → x.c = 0) ∧ (fK x.op = false → x.k = 0) ∧ (fN x.op = false → x.n = 0) ∧ (fG x.op = false → x.regs = []) ∧ (fR x.op = false → x.args = []) ∧ Q2u n x = 0 := by
  unfold Q1Q at h
  split at h; · cases h
  split at h; · cases h
  rename_i h1 h2
  unfold Ins.odd at h2
  simp only [not_or, not_and, Classical.not_not, Nat.not_lt, Nat.le_zero_eq, List.length_eq_zero_iff] at h2
  obtain ⟨a, b, c, k, n, g, r⟩ := h2
  exact ⟨by omega, a, b, c, k, n, g, r, h⟩
theorem Rd.body {n : Nat} {x : Ins} (h : Q1Q n x = 0) (hs : x.small = true) : Rd (Q4Z e x.op) x.tks x := by
  obtain ⟨s1, s2, s3⟩ := Q7s hs
  obtain ⟨ha, hb, hc, hk⟩ := sm4 s1
  have hg := Q6H s2
  have hr := Q6H s3
  obtain ⟨ho, za, zb, zc, zk, zn, zg, zr, hkd⟩ := Qkz h
  obtain ⟨op, a, b, c, k, m, regs, args⟩ := x
  simp only at *
  unfold Q2u at hkd
  rcases op_cases (op := op) (by omega) (by omega) with rfl | rfl | rfl | rfl | rfl | rfl | rfl | rfl | rfl | rfl | rfl | rfl | rfl | rfl
  · obtain rfl := za (by decide); obtain rfl := zb (by decide); obtain rfl := zc (by decide); obtain rfl := zk (by decide); obtain rfl := zg (by decide); obtain rfl := zr (by decide)
    exact Rd.bind1 Rd.long (Rd.pure _)
  · obtain rfl := zc (by decide); obtain rfl := zn (by decide); obtain rfl := zg (by decide); obtain rfl := zr (by decide)
    have hk9 : 1 ≤ k ∧ k ≤ 9 := by simp at hkd; omega
    exact Rd.bind1 (Rd.kind hk9) (Rd.bind1 (Rd.num ha) (Rd.bind1 (Rd.num hb) (Rd.pure _)))
  · obtain rfl := za (by decide); obtain rfl := zb (by decide); obtain rfl := zc (by decide); obtain rfl := zk (by decide); obtain rfl := zn (by decide); obtain rfl := zg (by decide); obtain rfl := zr (by decide)
    exact Rd.pure _
  · obtain rfl := zb (by decide); obtain rfl := zc (by decide); obtain rfl := zk (by decide); obtain rfl := zn (by decide); obtain rfl := zg (by decide); obtain rfl := zr (by decide)
    exact Rd.bind1 (Rd.num ha) (Rd.pure _)
  · obtain rfl := zb (by decide); obtain rfl := zc (by decide); obtain rfl := zk (by decide); obtain rfl := zn (by decide); obtain rfl := zg (by decide)
    have hl : args.length ≤ 8 := by simp at hkd; omega
    exact Rd.bind1 (Rd.num ha) (Rd.last (Rd.args (by show args.length ≤ 16; omega) hr) (Rd.pure _))
  · obtain rfl := zb (by decide); obtain rfl := zc (by decide); obtain rfl := zn (by decide); obtain rfl := zg (by decide); obtain rfl := zr (by decide)
    exact Rd.bind1 (Rd.num ha) (Rd.bind1 (Rd.num hk) (Rd.pure _))
  · obtain rfl := zc (by decide); obtain rfl := zn (by decide); obtain rfl := zg (by decide); obtain rfl := zr (by decide)
    exact Rd.bind1 (Rd.num ha) (Rd.bind1 (Rd.num hk) (Rd.bind1 (Rd.num hb) (Rd.pure _)))
  · obtain rfl := zc (by decide); obtain rfl := zk (by decide); obtain rfl := zn (by decide); obtain rfl := zg (by decide); obtain rfl := zr (by decide)
    exact Rd.bind1 (Rd.num ha) (Rd.bind1 (Rd.num hb) (Rd.pure _))
  · obtain rfl := zc (by decide); obtain rfl := zk (by decide); obtain rfl := zn (by decide); obtain rfl := zg (by decide); obtain rfl := zr (by decide)
    exact Rd.bind1 (Rd.num ha) (Rd.bind1 (Rd.num hb) (Rd.pure _))
  · obtain rfl := zk (by decide); obtain rfl := zn (by decide); obtain rfl := zg (by decide); obtain rfl := zr (by decide)
    exact Rd.bind1 (Rd.num ha) (Rd.bind1 (Rd.num hb) (Rd.bind1 (Rd.num hc) (Rd.pure _)))
  · obtain rfl := zb (by decide); obtain rfl := zc (by decide); obtain rfl := zk (by decide); obtain rfl := zn (by decide); obtain rfl := zg (by decide); obtain rfl := zr (by decide)
    exact Rd.bind1 (Rd.num ha) (Rd.pure _)
  · obtain rfl := za (by decide); obtain rfl := zb (by decide); obtain rfl := zc (by decide); obtain rfl := zk (by decide); obtain rfl := zn (by decide); obtain rfl := zg (by decide); obtain rfl := zr (by decide)
    exact Rd.pure _
  · obtain rfl := zb (by decide); obtain rfl := zc (by decide); obtain rfl := zk (by decide); obtain rfl := zn (by decide); obtain rfl := zg (by decide); obtain rfl := zr (by decide)
    exact Rd.bind1 (Rd.num ha) (Rd.pure _)
  · obtain rfl := za (by decide); obtain rfl := zb (by decide); obtain rfl := zc (by decide); obtain rfl := zn (by decide)
    have hl : regs.length ≤ 6 ∧ args.length ≤ 8 := by simp at hkd; omega
    exact Rd.bind1 (Rd.num hk) (Rd.bind (Rd.regs (by show regs.length ≤ 16; omega) hg) (Rd.last (Rd.args (by show args.length ≤ 16; omega) hr) (Rd.pure _)))
theorem op_head {op : Int} {ts : List Tk} (h : 1 ≤ op ∧ op ≤ 14) : Qpu opWords (wt (wordN opWords op) :: ts) = op.toNat := by
  rcases op_cases (op := op) (by omega) (by omega) with rfl | rfl | rfl | rfl | rfl | rfl | rfl | rfl | rfl | rfl | rfl | rfl | rfl | rfl <;> rfl
def Ins.tk (x : Ins) : List Tk := wt (wordN opWords x.op) :: (x.tks ++ [wt [59]])
theorem Rd.ins {n : Nat} {x : Ins} (h : Q1Q n x = 0) (hs : x.small = true) : Rd (pIns e) x.tk (some x) := fun l ts hl => by
  obtain ⟨ho, _⟩ := Qkz h
  have hl2 : l.map Tok.tk = wt (wordN opWords x.op) :: (x.tks ++ (wt [59] :: ts)) := by rw [hl]; simp [Ins.tk]
  have hw := QkA (ws := opWords) hl2
  rw [op_head ho] at hw
  have hc : ((x.op.toNat : Nat) : Int) = x.op := by omega
  obtain ⟨l1, e1, m1⟩ := Rd.body (e := e) h hs l.tail _ (Q4k hl2)
  obtain ⟨l2, e2, m2⟩ := Rd.want (e := e) (s := [59]) l1 ts m1
  refine ⟨l2, ?_, m2⟩
  unfold pIns
  rw [hw, if_neg (by omega), hc]
  simp only [Qd, e1, e2]
def Q53 : List Ins → List Tk
  | [] => []
  | x :: l => x.tk ++ Q53 l
theorem Rd.code {n : Nat} : ∀ (xs : List Ins) (k : Nat), xs.length < k → (∀ x ∈ xs, Q1Q n x = 0 ∧ x.small = true) → ∀ (l : List Tok) (ts : List Tk), Qpu opWords ts = 0 → l.map Tok.tk = Q53 xs ++ ts → ∃ l', pOpts (pIns e) k l = .ok (xs, l') ∧ l'.map Tok.tk = ts
  | [], k + 1, hk, h, l, ts, ht, hl => by
    have hl : l.map Tok.tk = ts := hl
    refine ⟨l, ?_, hl⟩
    have hw := QkA (ws := opWords) hl
    rw [ht] at hw
    have e1 : pIns e l = .ok (none, l) := by unfold pIns; rw [if_pos hw]
    rw [pOpts, e1]; rfl
  | x :: xs, k + 1, hk, h, l, ts, ht, hl => by
    obtain ⟨h1, h2⟩ := h x (List.mem_cons_self ..)
    obtain ⟨l1, e1, m1⟩ := Rd.ins (e := e) h1 h2 l (Q53 xs ++ ts) (by rw [hl, Q53, List.append_assoc])
    obtain ⟨l2, e2, m2⟩ := Rd.code xs k (by simp at hk; omega) (fun y hy => h y (List.mem_cons_of_mem _ hy)) l1 ts ht m1
    refine ⟨l2, ?_, m2⟩
    rw [pOpts, e1]
    simp only [Qd, e2]
theorem QiS : ∀ (xs : List Ins), xs.length ≤ (Q53 xs).length
  | [] => by simp
  | x :: xs => by
    have := QiS xs
    rw [Q53, List.length_append, List.length_cons]
    unfold Ins.tk
    simp only [List.length_cons]; omega
/-! ### where a block goes on -/
def To.tk (t : To) : List Tk := nt t.block :: (Q9v 60 t.regs 62 ++ Q9v 40 t.args 41)
def Tail.tk (t : Tail) : List Tk :=
  if t.op = 1 then wt Q9E :: t.yes.tk
  else if t.op = 2 then wt tIf :: nt t.a :: wt tTo :: (t.yes.tk ++ wt QbW :: t.no.tk)
  else wt tRet :: Q9v 40 t.args 41
theorem Rd.to {n : Nat} {t : To} (h : Q1J n t true = 0) (hn : n ≤ 1000000) (hs : t.small = true) : Rd (pTo e) t.tk t := by
  unfold Q1J at h
  rw [if_neg (by decide)] at h
  split at h; · cases h
  split at h; · cases h
  unfold To.small at hs
  rw [Bool.and_eq_true] at hs
  obtain ⟨b, rs, ag⟩ := t
  simp only at *
  exact Rd.bind1 (Rd.num (by show 0 ≤ b ∧ b ≤ 1000000; omega)) (Rd.bind (Rd.regs (by show rs.length ≤ 16; omega) (Q6H hs.1)) (Rd.last (Rd.args (by show ag.length ≤ 16; omega) (Q6H hs.2)) (Rd.pure _)))
theorem Rd.fin {n : Nat} {t : Tail} (h : Q2y n t = 0) (hn : n ≤ 1000000) (hs : t.small = true) : Rd (Q5u e) t.tk t := by
  unfold Tail.small at hs
  rw [Bool.and_eq_true, Bool.and_eq_true, Bool.and_eq_true] at hs
  obtain ⟨⟨⟨s1, s2⟩, s3⟩, s4⟩ := hs
  have h1 := of_decide_eq_true s1
  obtain ⟨op, a, yes, no, args⟩ := t
  simp only at *
  unfold Q2y at h
  split at h; · cases h
  split at h; · cases h
  split at h; · cases h
  rename_i q1 q2 q3
  unfold orC at h
  split at h
  · rename_i h0; exact absurd h h0
  rename_i h0
  have hy := Classical.not_not.1 h0
  have hz : ∀ {u : To}, Q1J n u false = 0 → u = ⟨0, [], []⟩ := by
    intro u hu
    obtain ⟨b, rs, ag⟩ := u
    unfold Q1J at hu
    rw [if_pos rfl] at hu
    split at hu; · cases hu
    rename_i q
    simp only at q
    obtain rfl : rs = [] := List.length_eq_zero_iff.1 (by omega)
    obtain rfl : ag = [] := List.length_eq_zero_iff.1 (by omega)
    obtain rfl : b = 0 := by omega
    rfl
  simp only at q1 q2 q3 hy h
  intro l ts hl
  rcases (show op = 1 ∨ op = 2 ∨ op = 3 by omega) with rfl | rfl | rfl
  · obtain rfl : args = [] := List.length_eq_zero_iff.1 (by omega)
    obtain rfl : a = 0 := by omega
    obtain rfl := hz h
    have hl : l.map Tok.tk = wt Q9E :: (yes.tk ++ ts) := hl
    obtain ⟨l1, e1, m1⟩ := Rd.to (e := e) hy hn s3 l.tail ts (Q4k hl)
    refine ⟨l1, ?_, m1⟩
    unfold Q5u
    rw [Q2l hl, if_pos (by decide)]
    simp only [Qd, e1]
  · obtain rfl : args = [] := List.length_eq_zero_iff.1 (by omega)
    have hl : l.map Tok.tk = wt tIf :: (nt a :: wt tTo :: (yes.tk ++ (wt QbW :: (no.tk ++ ts)))) := by rw [hl]; simp [Tail.tk]
    obtain ⟨l1, e1, m1⟩ := Rd.num (e := e) h1 l.tail _ (Q4k hl)
    obtain ⟨l2, e2, m2⟩ := Rd.want (e := e) (s := tTo) l1 _ m1
    obtain ⟨l3, e3, m3⟩ := Rd.to (e := e) hy hn s3 l2 _ m2
    obtain ⟨l4, e4, m4⟩ := Rd.want (e := e) (s := QbW) l3 _ m3
    obtain ⟨l5, e5, m5⟩ := Rd.to (e := e) h hn s4 l4 _ m4
    refine ⟨l5, ?_, m5⟩
    unfold Q5u
    rw [Q2l hl, if_neg (by decide), Q2l hl, if_pos (by decide)]
    simp only [Qd, e1, e2, e3, e4, e5]
  · obtain rfl : a = 0 := by omega
    obtain rfl := hz hy
    obtain rfl := hz h
    have hl : l.map Tok.tk = wt tRet :: (Q9v 40 args 41 ++ ts) := hl
    obtain ⟨l1, e1, m1⟩ := Rd.want (e := e) (s := tRet) l _ hl
    obtain ⟨l2, e2, m2⟩ := Rd.args (e := e) (by omega) (Q6H s2) l1 _ m1
    refine ⟨l2, ?_, m2⟩
    unfold Q5u
    rw [Q2l hl, if_neg (by decide), Q2l hl, if_neg (by decide)]
    simp only [Qd, e1, e2]
theorem fin_head {t : Tail} {ts : List Tk} : Qpu opWords (t.tk ++ ts) = 0 := by
  unfold Tail.tk
  split
  · rfl
  · split <;> rfl
end
end Go.Lir
namespace Go.Lir
set_option linter.unusedVariables false
section
variable {e : Nat}
theorem Pr.cast {t t2 : List UInt8} {g g2 : List Tk} (h : Pr t g) (ht : t2 = t) (hg : g2 = g) : Pr t2 g2 := by subst ht hg; exact h
theorem Pr.by32 {a b : List UInt8} {g h : List Tk} (ha : Pr a g) (hb : Pr b h) : Pr (a ++ [32] ++ b) (g ++ h) := by
  rw [List.append_assoc]; exact Pr.app_sp (.inr (.inl rfl)) ha hb
theorem op_pr {op : Int} (h : 1 ≤ op ∧ op ≤ 14) : Pr (wordN opWords op) [wt (wordN opWords op)] := by
  rcases op_cases (op := op) (by omega) (by omega) with rfl | rfl | rfl | rfl | rfl | rfl | rfl | rfl | rfl | rfl | rfl | rfl | rfl | rfl <;> exact Pr.word (by decide) (Qky (by decide))
theorem kind_pr {k : Int} (h : 1 ≤ k ∧ k ≤ 9) : Pr (wordN kindWords k) [wt (wordN kindWords k)] := by
  have : k = 1 ∨ k = 2 ∨ k = 3 ∨ k = 4 ∨ k = 5 ∨ k = 6 ∨ k = 7 ∨ k = 8 ∨ k = 9 := by omega
  rcases this with rfl | rfl | rfl | rfl | rfl | rfl | rfl | rfl | rfl <;> exact Pr.word (by decide) (Qky (by decide))
theorem Q1Z {n : Int} (h : 0 ≤ n ∧ n ≤ 1000000) : Pr (Lib.itoa n) [nt n] := Pr.num (by omega) (by omega)
theorem ins_pr2 {n : Nat} {x : Ins} (h : Q1Q n x = 0) (hs : x.small = true) (hn : InI x.n) : Pr x.txt (wt (wordN opWords x.op) :: x.tks) := by
  obtain ⟨s1, s2, s3⟩ := Q7s hs
  obtain ⟨ha, hb, hc, hk⟩ := sm4 s1
  have hg := Q52 (b := 60) (e := 62) (Q6H s2) (by decide) (by decide)
  have hr := Q52 (b := 40) (e := 41) (Q6H s3) (by decide) (by decide)
  obtain ⟨ho, _, _, _, _, _, _, _, hkd⟩ := Qkz h
  have hw := op_pr ho
  obtain ⟨op, a, b, c, k, m, regs, args⟩ := x
  simp only at *
  unfold Q2u at hkd
  have hn' : Pr (Lib.itoa m) [nt m] := Pr.num hn.1 hn.2
  rcases op_cases (op := op) (by omega) (by omega) with rfl | rfl | rfl | rfl | rfl | rfl | rfl | rfl | rfl | rfl | rfl | rfl | rfl | rfl
  · exact (hw.by32 hn').cast (Qbk _ _) rfl
  · have hk9 : 1 ≤ k ∧ k ≤ 9 := by simp at hkd; omega
    exact (((hw.by32 (kind_pr hk9)).by32 (Q1Z ha)).by32 (Q1Z hb)).cast (Qbi _ _ _ _) rfl
  · exact hw.cast (Lib.join_one _ _) rfl
  · exact (hw.by32 (Q1Z ha)).cast (Qbk _ _) rfl
  · exact ((hw.by32 (Q1Z ha)).by32 hr).cast (Qbj _ _ _) rfl
  · exact ((hw.by32 (Q1Z ha)).by32 (Q1Z hk)).cast (Qbj _ _ _) rfl
  · exact (((hw.by32 (Q1Z ha)).by32 (Q1Z hk)).by32 (Q1Z hb)).cast (Qbi _ _ _ _) rfl
  · exact ((hw.by32 (Q1Z ha)).by32 (Q1Z hb)).cast (Qbj _ _ _) rfl
  · exact ((hw.by32 (Q1Z ha)).by32 (Q1Z hb)).cast (Qbj _ _ _) rfl
  · exact (((hw.by32 (Q1Z ha)).by32 (Q1Z hb)).by32 (Q1Z hc)).cast (Qbi _ _ _ _) rfl
  · exact (hw.by32 (Q1Z ha)).cast (Qbk _ _) rfl
  · exact hw.cast (Lib.join_one _ _) rfl
  · exact (hw.by32 (Q1Z ha)).cast (Qbk _ _) rfl
  · exact (((hw.by32 (Q1Z hk)).by32 hg).by32 hr).cast (Qbi _ _ _ _) rfl
theorem Qoq {n : Nat} {t : To} (h : Q1J n t true = 0) (hn : n ≤ 1000000) (hs : t.small = true) : Pr t.txt t.tk := by
  unfold Q1J at h
  rw [if_neg (by decide)] at h
  split at h; · cases h
  split at h; · cases h
  unfold To.small at hs
  rw [Bool.and_eq_true] at hs
  exact (((Q1Z (n := t.block) (by omega)).by32 (Q52 (b := 60) (e := 62) (Q6H hs.1) (by decide) (by decide))).by32 (Q52 (b := 40) (e := 41) (Q6H hs.2) (by decide) (by decide))).cast rfl rfl
theorem Q9B (t : List UInt8) (h0 : t ≠ []) (h : t.all Q2m = true) : Pr t [wt t] := Pr.word h0 (Qky h)
theorem fin_prt {n : Nat} {t : Tail} (h : Q2y n t = 0) (hn : n ≤ 1000000) (hs : t.small = true) : Pr t.txt t.tk := by
  unfold Tail.small at hs
  rw [Bool.and_eq_true, Bool.and_eq_true, Bool.and_eq_true] at hs
  obtain ⟨⟨⟨s1, s2⟩, s3⟩, s4⟩ := hs
  have h1 : 0 ≤ t.a ∧ t.a ≤ 1000000 := of_decide_eq_true s1
  unfold Q2y at h
  split at h; · cases h
  split at h; · cases h
  split at h; · cases h
  rename_i q1 q2 q3
  unfold orC at h
  split at h
  · rename_i h0; exact absurd h h0
  rename_i h0
  have hy := Classical.not_not.1 h0
  unfold Tail.txt Tail.tk
  split
  · rename_i he
    rw [he] at hy
    exact ((Q9B Q9E (by decide) (by decide)).by32 (Qoq hy hn s3)).cast rfl rfl
  · split
    · rename_i _ he
      rw [he] at hy h
      refine ((((((Q9B tIf (by decide) (by decide)).by32 (Q1Z h1)).by32 (Q9B tTo (by decide) (by decide))).by32 (Qoq hy hn s3)).by32 (Q9B QbW (by decide) (by decide))).by32 (Qoq h hn s4)).cast rfl ?_
      simp
    · exact ((Q9B tRet (by decide) (by decide)).by32 (Q52 (b := 40) (e := 41) (Q6H s2) (by decide) (by decide))).cast rfl rfl
/-- a, then a sign, then what comes. -/
theorem Pr.sigm {a b : List UInt8} {c : UInt8} {g h : List Tk} (hc : Q6p c = true) (ha : Pr a g) (hb : Pr b h) : Pr (a ++ c :: b) (g ++ wt [c] :: h) :=
  ha.app (Pr.sigl hc hb) fun s _ => Qov ⟨(Q6I hc).1, (Q6I hc).2.1⟩
theorem QnE {n : Nat} : ∀ {l : List Ins}, (∀ x ∈ l, Q1Q n x = 0 ∧ x.small = true ∧ InI x.n) → Pr (Q1s l) (Q53 l)
  | [], _ => Pr.nil
  | x :: l, h => by
    obtain ⟨h1, h2, h3⟩ := h x (List.mem_cons_self ..)
    have h4 := QnE (l := l) fun y hy => h y (List.mem_cons_of_mem _ hy)
    refine (Pr.sp (c := 9) (by decide) (Pr.sigm (c := 59) (by decide) (ins_pr2 h1 h2 h3) (Pr.sp (c := 10) (by decide) h4))).cast ?_ ?_
    · rw [Q1s]; simp
    · rw [Q53]; unfold Ins.tk; simp
/-! ### blocks, functions -/
def Block.tk (b : Block) : List Tk := wt Q1R :: nt b.regs :: (QdA b.params ++ wt [123] :: (Q53 b.code ++ (b.fin.tk ++ [wt [59], wt [125]])))
def Q2r : List Block → List Tk
  | [] => []
  | b :: l => b.tk ++ Q2r l
def Fun.tk (f : Fun) : List Tk := wt Q7N :: nt f.regs :: (QdA f.params ++ wt Q3Q :: (QdA f.results ++ wt [123] :: (Q2r f.blocks ++ [wt [125]])))
def Qdr : List Fun → List Tk
  | [] => []
  | f :: l => f.tk ++ Qdr l
structure Block.OK (n nb : Nat) (b : Block) : Prop where
  regs : 0 ≤ b.regs ∧ b.regs ≤ 16
  params : QC b.params b.regs = 0
  inr : b.InR
  code : ∀ x ∈ b.code, Q1Q n x = 0
  fin : Q2y nb b.fin = 0
  small : b.small = true
structure Fun.OK (n : Nat) (f : Fun) : Prop where
  regs : 0 ≤ f.regs ∧ f.regs ≤ 6
  params : QC f.params f.regs = 0
  results : QC f.results f.regs = 0
  few : f.blocks.length ≤ 12
  inr : f.InR
  blocks : ∀ b ∈ f.blocks, b.OK n f.blocks.length
/-- Whatever comes behind. -/
def Pr0 (t : List UInt8) (g : List Tk) : Prop := ∀ s ts, Qi8 s ts → Qi8 (t ++ s) (g ++ ts)
theorem Pr0.nil : Pr0 [] [] := fun _ _ h => h
theorem Pr0.sp {b : List UInt8} {c : UInt8} {h : List Tk} (hc : c = 10 ∨ c = 32 ∨ c = 9 ∨ c = 13) (hb : Pr0 b h) : Pr0 (c :: b) h := fun s ts h2 => QjA hc (hb s ts h2)
theorem Pr0.sigl {c : UInt8} {b : List UInt8} {g : List Tk} (h : Q6p c = true) (hb : Pr0 b g) : Pr0 (c :: b) (wt [c] :: g) := fun s ts h2 => Q4F (Qms h) (hb s ts h2)
theorem Pr0.app {a b : List UInt8} {g h : List Tk} (ha : Pr0 a g) (hb : Pr0 b h) : Pr0 (a ++ b) (g ++ h) := fun s ts h2 => by
  rw [List.append_assoc, List.append_assoc]; exact ha _ _ (hb s ts h2)
theorem Pr0.cast {t t2 : List UInt8} {g g2 : List Tk} (h : Pr0 t g) (ht : t2 = t) (hg : g2 = g) : Pr0 t2 g2 := by subst ht hg; exact h
theorem Pr.app0 {a b : List UInt8} {c : UInt8} {g h : List Tk} (ha : Pr a g) (hb : Pr0 (c :: b) h) (hc : Q2m c = false ∧ QO c = false) : Pr0 (a ++ c :: b) (g ++ h) := fun s ts h2 => by
  rw [List.append_assoc, List.append_assoc]; exact ha _ _ (Qov hc) (hb s ts h2)
theorem Pr0.arrow {b : List UInt8} {g : List Tk} (hb : Pr0 b g) : Pr0 (45 :: 62 :: 32 :: b) (wt Q3Q :: g) := fun s ts h2 => by
  have := Q4F (t := [45, 62]) (m := none) (s := 32 :: (b ++ s)) (ts := g ++ ts) QaC (QjA (by decide) (hb s ts h2))
  exact this
theorem QpR {n nb : Nat} {b : Block} (h : b.OK n nb) (hnb : nb ≤ 1000000) : Pr0 b.txt b.tk := by
  have hsm := h.small
  unfold Block.small at hsm
  rw [Bool.and_eq_true, List.all_eq_true] at hsm
  have h1 := QnE (n := n) (l := b.code) fun x hx => ⟨h.code x hx, hsm.1 x hx, (h.inr.2.2.1 x hx).1.2.2.2.2.2⟩
  have h2 := fin_prt h.fin hnb hsm.2
  have h3 := QeC h.inr.2.1
  have h4 : Pr0 (b.fin.txt ++ 59 :: 10 :: 125 :: 10 :: []) (b.fin.tk ++ wt [59] :: wt [125] :: []) :=
    Pr.app0 h2 (Pr0.sigl (by decide) (Pr0.sp (by decide) (Pr0.sigl (by decide) (Pr0.sp (by decide) Pr0.nil)))) (by decide)
  have h5 : Pr0 (Q1s b.code ++ 9 :: (b.fin.txt ++ 59 :: 10 :: 125 :: 10 :: [])) (Q53 b.code ++ (b.fin.tk ++ wt [59] :: wt [125] :: [])) := Pr.app0 h1 (Pr0.sp (by decide) h4) (by decide)
  have h6 : Pr0 (Q39 b.params ++ 32 :: (123 :: 10 :: (Q1s b.code ++ 9 :: (b.fin.txt ++ 59 :: 10 :: 125 :: 10 :: [])))) (QdA b.params ++ (wt [123] :: (Q53 b.code ++ (b.fin.tk ++ wt [59] :: wt [125] :: [])))) :=
    Pr.app0 h3 (Pr0.sp (by decide) (Pr0.sigl (by decide) (Pr0.sp (by decide) h5))) (by decide)
  have h7 := Pr.app0 (Q9B Q1R (by decide) (by decide)) (Pr0.sp (c := 32) (by decide) (Pr.app0 (Q1Z (n := b.regs) (by have := h.regs; omega)) (Pr0.sp (c := 32) (by decide) h6) (by decide))) (by decide)
  refine h7.cast ?_ ?_
  · unfold Block.txt; simp only [List.append_assoc, List.cons_append, List.nil_append]
  · unfold Block.tk; simp
theorem QiU {n nb : Nat} (hnb : nb ≤ 1000000) : ∀ {l : List Block}, (∀ b ∈ l, b.OK n nb) → Pr0 (QH l) (Q2r l)
  | [], _ => Pr0.nil
  | b :: l, h => (QpR (h b (List.mem_cons_self ..)) hnb).app (QiU hnb (l := l) fun y hy => h y (List.mem_cons_of_mem _ hy))
theorem fun_prt {n : Nat} {f : Fun} (h : f.OK n) : Pr0 f.txt f.tk := by
  have h1 := QiU (n := n) (nb := f.blocks.length) (by have := h.few; omega) h.blocks
  have h2 := QeC h.inr.2.1
  have h3 := QeC h.inr.2.2.1
  have h4 : Pr0 (QH f.blocks ++ 125 :: 10 :: []) (Q2r f.blocks ++ wt [125] :: []) := h1.app (Pr0.sigl (by decide) (Pr0.sp (by decide) Pr0.nil))
  have h5 : Pr0 (Q39 f.results ++ 32 :: (123 :: 10 :: (QH f.blocks ++ 125 :: 10 :: []))) (QdA f.results ++ (wt [123] :: (Q2r f.blocks ++ wt [125] :: []))) :=
    Pr.app0 h3 (Pr0.sp (by decide) (Pr0.sigl (by decide) (Pr0.sp (by decide) h4))) (by decide)
  have h6 := Pr.app0 h2 (Pr0.sp (c := 32) (by decide) (Pr0.arrow h5)) (by decide)
  have h7 := Pr.app0 (Q9B Q7N (by decide) (by decide)) (Pr0.sp (c := 32) (by decide) (Pr.app0 (Q1Z (n := f.regs) (by have := h.regs; omega)) (Pr0.sp (c := 32) (by decide) h6) (by decide))) (by decide)
  refine h7.cast ?_ ?_
  · unfold Fun.txt; simp only [List.append_assoc, List.cons_append, List.nil_append, Q3Q]
  · unfold Fun.tk; simp
theorem QnA {n : Nat} : ∀ {l : List Fun}, (∀ f ∈ l, f.OK n) → Pr0 (Q1H l) (Qdr l)
  | [], _ => Pr0.nil
  | f :: l, h => (fun_prt (h f (List.mem_cons_self ..))).app (QnA (l := l) fun y hy => h y (List.mem_cons_of_mem _ hy))
/-! ### read again -/
theorem Rd.block {n nb : Nat} {b : Block} (h : b.OK n nb) (hnb : nb ≤ 1000000) : Rd (Q3v e) b.tk b := fun l ts hl => by
  have hsm := h.small
  unfold Block.small at hsm
  rw [Bool.and_eq_true, List.all_eq_true] at hsm
  have hl2 : l.map Tok.tk = wt Q1R :: (nt b.regs :: (QdA b.params ++ wt [123] :: (Q53 b.code ++ (b.fin.tk ++ (wt [59] :: wt [125] :: ts))))) := by rw [hl]; unfold Block.tk; simp
  obtain ⟨l1, e1, m1⟩ := Rd.want (e := e) (s := Q1R) l _ hl2
  obtain ⟨l2, e2, m2⟩ := Rd.num (e := e) (n := b.regs) (by have := h.regs; omega) l1 _ m1
  obtain ⟨l3, e3, m3⟩ := Rd.tys (e := e) (by have := h.regs; omega) h.params l2 _ m2
  obtain ⟨l4, e4, m4⟩ := Rd.want (e := e) (s := [123]) l3 _ m3
  have hlen : b.code.length < l4.length + 1 := by
    have h1 := QiS b.code
    have m4 : l4.map Tok.tk = Q53 b.code ++ (b.fin.tk ++ wt [59] :: wt [125] :: ts) := m4
    have h2 := congrArg List.length m4
    rw [List.length_map, List.length_append] at h2
    omega
  obtain ⟨l5, e5, m5⟩ := Rd.code (e := e) b.code _ hlen (fun x hx => ⟨h.code x hx, hsm.1 x hx⟩) l4 _ fin_head m4
  obtain ⟨l6, e6, m6⟩ := Rd.fin (e := e) h.fin hnb hsm.2 l5 _ m5
  obtain ⟨l7, e7, m7⟩ := Rd.want (e := e) (s := [59]) l6 _ m6
  obtain ⟨l8, e8, m8⟩ := Rd.want (e := e) (s := [125]) l7 _ m7
  refine ⟨l8, ?_, m8⟩
  unfold Q3v pAll Qag
  simp only [Qd, e1, e2, e3, e4, e5, e6, e7, e8]
theorem Rd.blocks {n nb : Nat} (hnb : nb ≤ 1000000) : ∀ (xs : List Block) (k : Nat), xs.length < k → (∀ b ∈ xs, b.OK n nb) → ∀ (l : List Tok) (ts : List Tk), l.map Tok.tk = Q2r xs ++ wt [125] :: ts → ∃ l', pOpts (pIf (isT Q1R) (Q3v e)) k l = .ok (xs, l') ∧ l'.map Tok.tk = wt [125] :: ts
  | [], k + 1, hk, h, l, ts, hl => by
    have hl : l.map Tok.tk = wt [125] :: ts := hl
    refine ⟨l, ?_, hl⟩
    have e1 : pIf (isT Q1R) (Q3v e) l = .ok (none, l) := by unfold pIf; rw [Q2l hl, if_neg (by decide)]
    rw [pOpts, e1]; rfl
  | b :: xs, k + 1, hk, h, l, ts, hl => by
    have hl2 : l.map Tok.tk = b.tk ++ (Q2r xs ++ wt [125] :: ts) := by rw [hl, Q2r, List.append_assoc]
    obtain ⟨l1, e1, m1⟩ := Rd.block (e := e) (h b (List.mem_cons_self ..)) hnb l _ hl2
    obtain ⟨l2, e2, m2⟩ := Rd.blocks hnb xs k (by simp at hk; omega) (fun y hy => h y (List.mem_cons_of_mem _ hy)) l1 ts m1
    refine ⟨l2, ?_, m2⟩
    have e3 : pIf (isT Q1R) (Q3v e) l = .ok (some b, l1) := by
      unfold pIf
      rw [Q2l hl2, if_pos (by decide)]
      simp only [Qd, e1]
    rw [pOpts, e3]
    simp only [Qd, e2]
theorem Qdw : ∀ (xs : List Block), xs.length ≤ (Q2r xs).length
  | [] => by simp
  | x :: xs => by
    have := Qdw xs
    rw [Q2r, List.length_append, List.length_cons]
    unfold Block.tk
    simp only [List.length_cons]; omega
theorem Rd.func {n : Nat} {f : Fun} (h : f.OK n) : Rd (pFun e) f.tk f := fun l ts hl => by
  have hl2 : l.map Tok.tk = wt Q7N :: (nt f.regs :: (QdA f.params ++ wt Q3Q :: (QdA f.results ++ wt [123] :: (Q2r f.blocks ++ (wt [125] :: ts))))) := by rw [hl]; unfold Fun.tk; simp
  obtain ⟨l1, e1, m1⟩ := Rd.want (e := e) (s := Q7N) l _ hl2
  obtain ⟨l2, e2, m2⟩ := Rd.num (e := e) (n := f.regs) (by have := h.regs; omega) l1 _ m1
  obtain ⟨l3, e3, m3⟩ := Rd.tys (e := e) (by have := h.regs; omega) h.params l2 _ m2
  obtain ⟨l4, e4, m4⟩ := Rd.want (e := e) (s := Q3Q) l3 _ m3
  obtain ⟨l5, e5, m5⟩ := Rd.tys (e := e) (by have := h.regs; omega) h.results l4 _ m4
  obtain ⟨l6, e6, m6⟩ := Rd.want (e := e) (s := [123]) l5 _ m5
  have hlen : f.blocks.length < l6.length + 1 := by
    have h1 := Qdw f.blocks
    have m6 : l6.map Tok.tk = Q2r f.blocks ++ wt [125] :: ts := m6
    have h2 := congrArg List.length m6
    rw [List.length_map, List.length_append] at h2
    omega
  obtain ⟨l7, e7, m7⟩ := Rd.blocks (e := e) (by have := h.few; omega) f.blocks _ hlen h.blocks l6 _ m6
  obtain ⟨l8, e8, m8⟩ := Rd.want (e := e) (s := [125]) l7 _ m7
  refine ⟨l8, ?_, m8⟩
  unfold pFun pAll
  simp only [Qd, e1, e2, e3, e4, e5, e6, e7, e8]
theorem Rd.funs {n : Nat} : ∀ (xs : List Fun) (k : Nat), xs.length < k → (∀ f ∈ xs, f.OK n) → ∀ (l : List Tok), l.map Tok.tk = Qdr xs → ∃ l', pOpts (pIf (fun l => !l.isEmpty) (pFun e)) k l = .ok (xs, l')
  | [], k + 1, hk, h, l, hl => by
    obtain rfl : l = [] := List.map_eq_nil_iff.1 hl
    exact ⟨[], by rw [pOpts]; rfl⟩
  | f :: xs, k + 1, hk, h, l, hl => by
    have hl2 : l.map Tok.tk = f.tk ++ Qdr xs := hl
    obtain ⟨l1, e1, m1⟩ := Rd.func (e := e) (h f (List.mem_cons_self ..)) l _ hl2
    obtain ⟨l2, e2⟩ := Rd.funs xs k (by simp at hk; omega) (fun y hy => h y (List.mem_cons_of_mem _ hy)) l1 m1
    refine ⟨l2, ?_⟩
    have e3 : pIf (fun l => !l.isEmpty) (pFun e) l = .ok (some f, l1) := by
      unfold pIf
      obtain ⟨x, r, rfl, _⟩ := map_cons (t := wt Q7N) (ts := (f.tk ++ Qdr xs).tail) hl2
      rw [if_pos (by rfl)]
      simp only [Qd, e1]
    rw [pOpts, e3]
    simp only [Qd, e2]
theorem QiN : ∀ (xs : List Fun), xs.length ≤ (Qdr xs).length
  | [] => by simp
  | x :: xs => by
    have := QiN xs
    rw [Qdr, List.length_append, List.length_cons]
    unfold Fun.tk
    simp only [List.length_cons]; omega
theorem mod_okP {m : Module} (hr : m.InR) (h : m.fault.1 = 0) (hs : m.small = true) : ∀ f ∈ m.funcs, f.OK m.funcs.length := by
  intro f hf
  unfold Module.small at hs
  rw [List.all_eq_true] at hs
  have hs1 := hs f hf
  unfold Fun.small at hs1
  rw [List.all_eq_true] at hs1
  obtain ⟨i, hi⟩ := List.mem_iff_getElem?.1 hf
  obtain ⟨g1, g2, e1, e2, _, e3⟩ := QfW (Qm3 h hi)
  refine ⟨⟨g1, g2⟩, e1, e2, e3, hr f hf, fun b hb => ?_⟩
  obtain ⟨j, hj⟩ := List.mem_iff_getElem?.1 hb
  obtain ⟨k1, k2, k3⟩ := QfX h hi hj
  obtain ⟨b1, b2, b3, _, b4⟩ := Qgc k1
  exact ⟨⟨by omega, b2⟩, b3, (hr f hf).2.2.2 b hb, k2, k3, hs1 b hb⟩
/-- What was Q3X is read as the module that it was. -/
theorem Qp7 {m : Module} (hr : m.InR) (h : m.fault.1 = 0) (hs : m.small = true) (hl : m.txt.length ≤ 40000) : Qaf m.txt = .ok m := by
  have hok := mod_okP hr h hs
  have h1 := QnA hok [] [] Qoz
  rw [List.append_nil, List.append_nil] at h1
  have h1 : Qi8 m.txt (Qdr m.funcs) := h1
  obtain ⟨l, e1, m1⟩ := h1 m.txt.length (m.txt.length + 1) [] (by omega)
  have e2 : scan m.txt = .ok l := by unfold scan; rw [if_neg (by omega), e1]; rfl
  have hlen : m.funcs.length < l.length + 1 := by
    have h1 := QiN m.funcs
    have h2 := congrArg List.length m1
    rw [List.length_map] at h2
    omega
  obtain ⟨l2, e3⟩ := Rd.funs (e := m.txt.length) m.funcs _ hlen hok l m1
  unfold Qaf QmM pAll
  rw [e2]
  simp only [e3]
  rw [if_neg (by rw [show (⟨m.funcs⟩ : Module) = m from rfl, h]; decide)]
end
end Go.Lir
namespace Go.Proofs.YtjecflbbcnocdaaGreatDoor
open Go.Lir
set_option maxHeartbeats 1000000
attribute [local irreducible] LC.wp Q3 Qt QA retQ Q1m LO.wp Qm Calls
set_option linter.unusedSimpArgs false
set_option linter.unusedVariables false
/-- What a printing gives: a text of a module that is read back, or a fault. -/
theorem print_two (m : Module) (hr : m.InR) : (Q1F m = (m.txt, (0, 0)) ∧ m.txt.length ≤ 40000 ∧ Qaf m.txt = .ok m) ∨ (∃ f : Flt, f.1 ≠ 0 ∧ Q1F m = ([], f)) := by
  by_cases h1 : m.fault.1 = 0
  · cases h2 : m.small with
    | false => exact .inr ⟨_, by decide, pr_2 h1 h2⟩
    | true =>
      by_cases h3 : 40000 < m.txt.length
      · exact .inr ⟨_, by decide, pr_3 h1 h2 h3⟩
      · exact .inl ⟨pr_4 h1 h2 h3, by omega, Qp7 hr h1 h2 (by omega)⟩
  · exact .inr ⟨_, h1, pr_1 h1⟩
attribute [local irreducible] Q1F Qaf Module.txt
variable {cx : Cx} {w : World} {L : List Res}
theorem QlM {m : Module} {cs : List Value} (hr : m.InR) (hm : modR.at cx cs m) (hT : NumK cx) (hS : St cx w L) : Rets Tryz.prog QU [.agg ⟨cs⟩] w fun u w' => u = .bool true ∧ St cx w' L := by
  obtain ⟨vm, rfl, hfm⟩ := Q3G hm
  obtain ⟨am, nm, rfl⟩ := Rep.SR.shape hfm
  have hle := St.refl hS
  have hP := hT.pow
  all_goals refine Qdk ?_
  all_goals (unfold Law_RenderBack_lc; refine Q0 ?_; refine Q1 ?_; refine zb hS ?_; intro p1 w1 hS; refine zm ?_; refine zn ?_; refine Q0 ?_; refine Q0 ?_; refine Q1 ?_; refine zR0 (c := Qke hP hS) (h := ?_); rintro v1 w1 ⟨rfl, hS⟩; refine Q2e rfl ?_; refine zn ?_)
  all_goals
    first
    | (refine Q6 rfl ?_ -- QU c0
       all_goals (refine Q0 ?_; refine Q1 ?_; refine zm ?_; refine zn ?_; refine zr ?_; refine zf ?_)
       all_goals (exact ⟨_, rfl, rfl, St.weak hS.sp hle⟩))
    | (refine Q5 rfl ?_ -- QU c0
       all_goals refine zsk ?_)
  all_goals (refine Q0 ?_; refine Q0 ?_; refine Q1 ?_; refine zv hS ?_)
  all_goals (refine zR1 (c := Qo8 hm hS) (h := ?_); rintro v1 w1 ⟨b, rfl, hfw, hS⟩; cases b; have hsh := hfw rfl)
  all_goals (refine zn ?_)
  all_goals
    first
    | (refine Q6 rfl ?_ -- QU c1
       all_goals (refine Q0 ?_; refine Q1 ?_; refine zm ?_; refine zn ?_; refine zr ?_; refine zf ?_)
       all_goals (exact ⟨_, rfl, rfl, St.weak hS.sp hle⟩))
    | (refine Q5 rfl ?_ -- QU c1
       all_goals refine zsk ?_)
  all_goals (refine Q0 ?_; refine Q1 ?_; refine zv hS ?_)
  all_goals (refine zR1 (c := QmA hsh hr hm hP hS) (h := ?_); rintro v1 w1 ⟨rfl, hS⟩; rcases print_two m hr with ⟨e1, e2, e3⟩ | ⟨f, e1, e2⟩; rw [e1]; rotate_left; rw [e2])
  all_goals (refine zm ?_; refine Q3F rfl rfl ?_; refine Q3F rfl rfl ?_; refine Qe hS ?_; intro p4 w1 hS; refine zm ?_; refine zsn hS ?_; intro w1 hS; have hS := hS.ns; refine zn ?_; refine Q0 ?_; refine Q0 ?_; refine Q1 ?_; refine Q2 rfl ?_; refine zl hS ?_)
  all_goals (first | (refine Q2L ?_) | (refine Q2M ?_))
  all_goals (refine zn ?_)
  all_goals
    first
    | (refine Q6 rfl ?_ -- QU c2
       all_goals (refine Q0 ?_; refine Q1 ?_; refine zm ?_; refine QoD rfl rfl rfl ?_; refine zm ?_; refine zn ?_; refine zr ?_; refine zf ?_)
       all_goals (exact ⟨_, rfl, rfl, St.weak hS.sp hle⟩))
    | (refine Q5 rfl ?_ -- QU c2
       all_goals refine zsk ?_)
  all_goals (refine Q0 ?_; refine Q1 ?_; refine zm ?_)
  all_goals (refine zR1 (c := pparse_c (src := m.txt) hT (by omega) hS) (h := ?_); rintro v1 w1 (⟨m2, c2, vf, e4, rfl, hle2, hm2, hS⟩ | ⟨f, e4, rfl, hS⟩); rw [e3] at e4; cases e4; rotate_left; rw [e3] at e4; cases e4; obtain ⟨v9, e9, hf9⟩ := Q3G hm2; cases e9; obtain ⟨a9, n9, rfl⟩ := Rep.SR.shape hf9; (try have hle := hle.trans hle2); (try have hm := hm.up hle2); have hP2 := hP.up hle2; unfold fltV)
  all_goals (refine zm ?_; refine Q3F rfl rfl ?_; refine Q3F rfl rfl ?_; refine Qe hS ?_; intro p5 w1 hS; refine Qe hS ?_; intro p6 w1 hS; refine zsn hS ?_; intro w1 hS; have hS := hS.ns; refine zsn hS ?_; intro w1 hS; have hS := hS.ns; refine zn ?_; refine Q0 ?_; refine Q1 ?_; refine zv hS ?_; refine zR1 (c := QmA hsh hr hm2 hP2 hS) (h := ?_); rintro v1 w1 ⟨rfl, hS⟩; rw [e1]; refine zm ?_; refine Q3F rfl rfl ?_; refine Q3F rfl rfl ?_; refine Qe hS ?_; intro p8 w1 hS; refine zm ?_; refine zsn hS ?_; intro w1 hS; have hS := hS.ns; refine zn ?_; refine Q0 ?_; refine Q1 ?_; refine Q2 rfl ?_; refine zl hS ?_)
  all_goals (refine QB ?_)
  all_goals (refine zm ?_; (first | refine s_gn rfl rfl ?_ | (refine s_gy rfl ?_; refine Q2 rfl ?_)); (first | refine s_gn rfl rfl ?_ | (refine s_gy rfl ?_; refine zl hS ?_)))
  all_goals (first | refine s_gn rfl rfl ?_ | (refine s_gy rfl ?_; refine QB ?_))
  all_goals (refine zpt ?_; refine zm ?_; (first | refine s_gn rfl rfl ?_ | (refine s_gy rfl ?_; refine zm ?_)); (first | refine s_gn rfl rfl ?_ | (refine s_gy rfl ?_; refine zm ?_)); (first | refine s_gn rfl rfl ?_ | (refine s_gy rfl ?_; refine QoD rfl rfl rfl ?_)); refine zpt ?_; refine zm ?_; (first | refine s_gn rfl rfl ?_ | (refine s_gy rfl ?_; refine zv hS ?_)); (first | refine s_gn rfl rfl ?_ | (refine s_gy rfl ?_; refine zv hS ?_)); (first | refine s_gn rfl rfl ?_ | (refine s_gy rfl ?_; refine zR2 (c := QnU hm hm2 hS) (h := ?_); rintro v1 w1 ⟨rfl, hS⟩; rw [decide_eq_true (show m = m from rfl)])); refine zpt ?_; refine zm ?_; refine zn ?_; refine zr ?_; refine zf ?_; exact ⟨_, rfl, rfl, St.weak hS.sp hle⟩)
end Go.Proofs.YtjecflbbcnocdaaGreatDoor
namespace Go.Proofs.YtjecflbbcnocdaaGreatDoor
open Go.Lir
theorem renderBack_rd {c : Array Value} {x : Module} {w : World} (hT : NumK (Cx.top w)) (h1 : cModI.cod.rd w.heap c.toList x) : Rets Tryz.prog QU [.agg c] w fun v w' => v = .bool true ∧ Fr NF w w' := by
  obtain ⟨h4, h5⟩ := cModI.top h1
  exact (QlM h5 h4 hT (St.top w)).mono fun _ _ ⟨h, h2⟩ => ⟨h, h2.fr⟩
end Go.Proofs.YtjecflbbcnocdaaGreatDoor
