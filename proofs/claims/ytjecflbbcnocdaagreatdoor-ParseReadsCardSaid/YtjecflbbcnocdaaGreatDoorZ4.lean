/- Lemmas of the proof, part 4: what the functions of the program do (contracts), and what follows. -/
import Derived.Test.YtjecflbbcnocdaaGreatDoorZ2
import Derived.Test.YtjecflbbcnocdaaGreatDoorZ3
import Derived.Lib.Builder
import Derived.Lib.UnsafeStr
import Derived.Laws.Externs
import Derived.Lib.AppendStr
import Derived.Lib.Strings
import Derived.Shelf.Strings.OnBuilder
import Derived.Shelf.Small.Strs
import Derived.Shelf.LaysM
import Derived.Shelf.Strconv.Itoa3
import Derived.Shelf.Strconv.ParseIntEmpty
import Derived.Shelf.Strconv.Clone
import Derived.Shelf.Strconv.SyntaxError
import Derived.Shelf.LaysC
import Derived.Shelf.Strconv.ToError
import Derived.Shelf.Strconv.Lower
import Derived.Shelf.Strconv.ParseUint10
import Derived.Shelf.Strconv.ParseUint10Empty
import Derived.Shelf.Strconv.ParseUint10Any
import Derived.Shelf.Strconv.ParseInt10
import Derived.Shelf.Strconv.RangeError
import Derived.Shelf.Strconv.ToErrorRange
import Derived.Shelf.Strconv.ParseUintEmpty
import Derived.Shelf.Strconv.ParseUint10b64
import Derived.Shelf.Strconv.ParseUint10b32
import Derived.Shelf.Strconv.ParseUint10b16
import Derived.Shelf.Strconv.ParseUint10b8
import Derived.Shelf.Strconv.ParseUint10At
import Derived.Shelf.Strconv.ParseInt10At64
import Derived.Shelf.Strconv.ParseInt10At32
import Derived.Shelf.Strconv.ParseInt10At16
import Derived.Shelf.Strconv.ParseInt10At8
import Derived.Shelf.Strconv.ParseInt10All
import Derived.Shelf.Strconv.ParseIntPublic10
import Derived.Shelf.Strings.Search1
import Derived.Test.YtjecflbbcnocdaaGreatDoorProg
import Derived.Lib.ItoaNum
import Derived.Lib.ParseIntBTie
namespace Go.Proofs.YtjecflbbcnocdaaGreatDoor
open Go.Lir
set_option maxHeartbeats 1000000
attribute [local irreducible] LC.wp Q2 QA QB retQ Q1e LO.wp Qj Calls
set_option linter.unusedSimpArgs false
set_option linter.unusedVariables false
variable {cx : Cx} {w : World} {L : List Res}
/-- The parser: the tokens that are left, where the text ends. -/
@[reducible] def prs (pb : Nat) (v : Value) (e : Nat) : Res := blk pb 70 [v, .int .i64 (e : Int)]
@[reducible] def QpO (f : Flt) : Value := .iface 66 (.agg ⟨[.int .i64 f.1, .int .i64 f.2]⟩)
@[reducible] def tokC (t : Tok) : List Value := [.int .i64 t.at_, .string ⟨t.text.toArray⟩, .bool t.num.isSome, .int .i64 (t.num.getD 0)]
theorem is_c {pb e : Nat} {v : Value} {l : List Tok} {s : List UInt8} (hv : tokR.sl cx v l) (hS : St cx w (prs pb v e :: L)) :
    Rets Tryz.prog Q4k [.pointer (some ⟨pb, 0, none⟩), .string ⟨s.toArray⟩] w fun u w' => u = .bool (isT s l) ∧ St cx w' (prs pb v e :: L) := by
  cases l with
  | nil =>
    all_goals refine Q3l ?_
    all_goals (unfold parse_parser_is_lc; refine Q0 ?_; refine Q1 ?_; refine zm ?_; refine zn ?_; refine Q0 ?_; refine Q1 ?_; refine zm ?_; refine znc ?_; refine zf0 ?_; refine zl hS ?_; refine zL ?_; refine Qcq rfl rfl (by simp) ?_; refine zm ?_; refine zgn ?_; refine zgn ?_; refine zgn ?_; refine zgn ?_; refine zgn ?_; refine zgn ?_; refine zgn ?_; refine zgn ?_; (first | (refine zpt ?_) | (refine zpf ?_)); refine zm ?_; refine zgn ?_)
    all_goals (refine zgn ?_; refine zgn ?_; refine zgn ?_; refine zgn ?_; refine zgn ?_; refine zgn ?_; refine zgn ?_; refine zgn ?_; (first | (refine zpt ?_) | (refine zpf ?_)); refine zm ?_; refine zn ?_; refine zr ?_; refine zf ?_; refine ⟨_, rfl, ?_, hS.sp⟩; exact rfl; done)
  | cons t r =>
    obtain ⟨a, t2, m⟩ := t
    have hl0 : (0 : Int) < ((⟨a, t2, m⟩ :: r : List Tok).length : Int) := by simp
    cases m with
    | none =>
      show Rets _ _ _ _ fun u w' => u = .bool (decide (t2 = s)) ∧ _
      all_goals refine Q3l ?_
      all_goals (unfold parse_parser_is_lc; refine Q0 ?_; refine Q1 ?_; refine zm ?_; refine zn ?_; refine Q0 ?_; refine Q1 ?_; refine zm ?_; refine znc ?_; refine zf0 ?_; refine zl hS ?_; refine zL ?_; refine Q5C rfl rfl hl0 ?_; refine zm ?_; (first | refine zgn ?_ | (refine zgy ?_; refine zm ?_)); (first | refine zgn ?_ | (refine zgy ?_; refine znc ?_)); (first | refine zgn ?_ | (refine zgy ?_; refine zf0 ?_)); (first | refine zgn ?_ | (refine zgy ?_; refine zl hS ?_)))
      all_goals (first | refine zgn ?_ | (refine zgy ?_; refine QN (m := 0) vw rfl hv rfl (by simp) ?_; intro b1 o1 cs1 x1 hat1 hx1 he1; cases hx1; obtain rfl := QE he1))
      all_goals ((first | refine zgn ?_ | (refine zgy ?_; (first | refine zf0 ?_ | refine zfd ?_))); (first | refine zgn ?_ | (refine zgy ?_; (first | (refine zl hS ?_) | (refine zlk hS ?_) | (refine zlj hS ?_)))); (first | refine zgn ?_ | (refine zgy ?_; refine znt ?_)); refine zpt ?_; refine zm ?_; (first | refine zgn ?_ | (refine zgy ?_; refine zm ?_)); (first | refine zgn ?_ | (refine zgy ?_; refine znc ?_)); (first | refine zgn ?_ | (refine zgy ?_; refine zf0 ?_)); (first | refine zgn ?_ | (refine zgy ?_; refine zl hS ?_)))
      all_goals (first | refine zgn ?_ | (refine zgy ?_; refine QN (m := 0) vw rfl hv rfl (by simp) ?_; intro b1 o1 cs1 x1 hat1 hx1 he1; cases hx1; obtain rfl := QE he1))
      all_goals ((first | refine zgn ?_ | (refine zgy ?_; (first | refine zf0 ?_ | refine zfd ?_))); (first | refine zgn ?_ | (refine zgy ?_; (first | (refine zl hS ?_) | (refine zlk hS ?_) | (refine zlj hS ?_)))); (first | refine zgn ?_ | (refine zgy ?_; refine zm ?_)); (first | refine zgn ?_ | (refine zgy ?_; refine Qo2 rfl rfl ?_)); refine zpt ?_; refine zm ?_; refine zn ?_; refine zr ?_; refine zf ?_; refine ⟨_, rfl, ?_, hS.sp⟩; exact rfl; done)
    | some n =>
      show Rets _ _ _ _ fun u w' => u = .bool false ∧ _
      all_goals refine Q3l ?_
      all_goals (unfold parse_parser_is_lc; refine Q0 ?_; refine Q1 ?_; refine zm ?_; refine zn ?_; refine Q0 ?_; refine Q1 ?_; refine zm ?_; refine znc ?_; refine zf0 ?_; refine zl hS ?_; refine zL ?_; refine Q5C rfl rfl hl0 ?_; refine zm ?_; (first | refine zgn ?_ | (refine zgy ?_; refine zm ?_)); (first | refine zgn ?_ | (refine zgy ?_; refine znc ?_)); (first | refine zgn ?_ | (refine zgy ?_; refine zf0 ?_)); (first | refine zgn ?_ | (refine zgy ?_; refine zl hS ?_)))
      all_goals (first | refine zgn ?_ | (refine zgy ?_; refine QN (m := 0) vw rfl hv rfl (by simp) ?_; intro b1 o1 cs1 x1 hat1 hx1 he1; cases hx1; obtain rfl := QE he1))
      all_goals ((first | refine zgn ?_ | (refine zgy ?_; (first | refine zf0 ?_ | refine zfd ?_))); (first | refine zgn ?_ | (refine zgy ?_; (first | (refine zl hS ?_) | (refine zlk hS ?_) | (refine zlj hS ?_)))); (first | refine zgn ?_ | (refine zgy ?_; refine znt ?_)); refine zpt ?_; refine zm ?_; refine zgn ?_; refine zgn ?_; refine zgn ?_; refine zgn ?_)
      all_goals (refine zgn ?_)
      all_goals (refine zgn ?_; refine zgn ?_; refine zgn ?_; refine zgn ?_; (first | (refine zpt ?_) | (refine zpf ?_)); refine zm ?_; refine zn ?_; refine zr ?_; refine zf ?_; refine ⟨_, rfl, ?_, hS.sp⟩; exact rfl; done)
theorem QpF {pb e : Nat} {v : Value} {t : Tok} {r : List Tok} (hv : tokR.sl cx v (t :: r)) (hS : St cx w (prs pb v e :: L)) :
    Rets Tryz.prog Q1E [.pointer (some ⟨pb, 0, none⟩)] w fun u w' => u = .agg ⟨tokC t⟩ ∧ ∃ v', tokR.sl cx v' r ∧ St cx w' (prs pb v' e :: L) := by
  all_goals refine Q8D ?_
  all_goals (unfold parse_parser_next_lc; refine Q0 ?_; refine Q1 ?_; refine Q9 hS ?_; intro p2 w1 hS; refine zn ?_; refine Q0 ?_; refine Q1 ?_; refine zm ?_; refine znc ?_; refine zf0 ?_; refine zl hS ?_)
  all_goals (refine QN (m := 0) vw rfl hv rfl (by simp) ?_; intro b1 o1 cs1 x1 hat1 hx1 he1; cases hx1; obtain rfl := QE he1)
  all_goals ((first | (refine zv hS ?_) | (refine zvk hS ?_)); refine Q9 hS ?_; intro p3 w1 hS; refine zsn hS ?_; intro w1 hS; have hS := hS.ns; refine zn ?_; refine Q0 ?_; refine Q1 ?_; refine zm ?_; refine zm ?_; refine znc ?_; refine zf0 ?_; refine zl hS ?_; refine s_subL vw hv rfl rfl (h' := (t :: r).length) (l' := 1) rfl ⟨_, rfl⟩ (by omega) (by simp) ?_; intro v4 hs4; rw [List.take_length, show (t :: r).drop 1 = r from rfl] at hs4; have ho4 := Rep.SR.oneC hs4; refine znc ?_; refine zf0 ?_; refine zst hS ?_; intro w1 hS; have hS := hS.ns; refine zn ?_; refine Q0 ?_; refine Q1 ?_; refine zv hS ?_; refine zsn hS ?_; intro w1 hS; have hS := hS.ns; refine zn ?_; refine zr ?_; refine Q16 vw (Q5 (n := 4) (by kernel_rfl) (by kernel_rfl) (hS.blkAt fd) (by rfl) (by rfl)) ?_; exact ⟨_, rfl, rfl, v4, hs4, hS.sp⟩)
theorem Q7c {pb e : Nat} {c : Int} {v : Value} {l : List Tok} (hv : tokR.sl cx v l) (hS : St cx w (prs pb v e :: L)) :
    Fins Tryz.prog Q2B [.pointer (some ⟨pb, 0, none⟩), .int .i64 c] w (fun _ _ => False) (fun u w' => u = QpO (Q1X e c l) ∧ St cx w' (prs pb v e :: L)) := by
  cases l with
  | nil =>
    unfold Fins
    all_goals refine Q41 ?_
    all_goals (unfold parse_parser_fail_lc; refine Q0 ?_; refine Q1 ?_; refine zm ?_; refine znc ?_; refine zf0 ?_; refine zl hS ?_; refine zm ?_; refine zn ?_; refine Q0 ?_; refine Q0 ?_; refine Q1 ?_; refine zm ?_; refine znc ?_; refine zf0 ?_; refine zl hS ?_; refine zL ?_; refine Qcq rfl rfl (by simp) ?_; refine zn ?_)
    all_goals refine zcf ?_
    all_goals (refine Q0 ?_; refine Q1 ?_; refine zm ?_)
    all_goals (first | (refine Qn ?_) | (refine Qq ?_) | (refine Qg rfl rfl (fun hc => ?_) (fun hc => ?_)))
    all_goals (refine zn ?_)
    all_goals
      first
      | (refine zct ?_ -- Q2B c1
         all_goals (refine Q1 ?_; refine zm ?_)
         all_goals refine zn ?_)
      | (refine zcf ?_ -- Q2B c1
         all_goals refine zsk ?_)
    all_goals (refine Q1 ?_; refine zm ?_; refine zm ?_; refine zb2 [_, _] ?_; refine zki ?_; refine QtC rfl ?_; (repeat (first | refine Qo ?_ | refine Qp ?_ | refine fun _ => ?_)); refine QJ ?_; first | exact .inr ⟨_, rfl, by unfold Q1X; rw [if_pos (by omega)], hS.sp⟩ | exact .inr ⟨_, rfl, by unfold Q1X; rw [if_neg (by omega)], hS.sp⟩)
  | cons t r =>
    unfold Fins
    all_goals refine Q41 ?_
    all_goals (unfold parse_parser_fail_lc; refine Q0 ?_; refine Q1 ?_; refine zm ?_; refine znc ?_; refine zf0 ?_; refine zl hS ?_; refine zm ?_; refine zn ?_; refine Q0 ?_; refine Q0 ?_; refine Q1 ?_; refine zm ?_; refine znc ?_; refine zf0 ?_; refine zl hS ?_; refine zL ?_; refine Q5C rfl rfl (by simp) ?_; refine zn ?_)
    all_goals refine zct ?_
    all_goals (refine Q1 ?_; refine zm ?_; refine znc ?_; refine zf0 ?_; refine zl hS ?_)
    all_goals (refine QN (m := 0) vw rfl hv rfl (by simp) ?_; intro b1 o1 cs1 x1 hat1 hx1 he1; cases hx1; obtain rfl := QE he1)
    all_goals ((first | refine zf0 ?_ | refine zfd ?_); (first | (refine zl hS ?_) | (refine zlk hS ?_)); refine zm ?_; refine zn ?_; refine Q1 ?_; refine zm ?_; refine zm ?_; refine zb2 [_, _] ?_; refine zki ?_; refine QtC rfl ?_; (repeat (first | refine Qo ?_ | refine Qp ?_ | refine fun _ => ?_)); refine QJ ?_; exact .inr ⟨_, rfl, rfl, hS.sp⟩)
theorem Qa2 {pb e : Nat} {v : Value} {t : Tok} {l : List Tok} (ht : l[0]? = some t) (hv : tokR.sl cx v l) (hS : St cx w (prs pb v e :: L)) :
    Rets Tryz.prog Q1E [.pointer (some ⟨pb, 0, none⟩)] w fun u w' => u = .agg ⟨tokC t⟩ ∧ ∃ v', tokR.sl cx v' l.tail ∧ St cx w' (prs pb v' e :: L) := by
  cases l with
  | nil => cases ht
  | cons x r => cases ht; exact QpF hv hS
theorem QcN {s : List UInt8} {l : List Tok} (h : isT s l = true) : ∃ t, l[0]? = some t := by
  cases l with
  | nil => cases h
  | cons x r => exact ⟨x, rfl⟩
theorem Qto {e : Nat} {s : List UInt8} {l : List Tok} (h : isT s l = true) : want e s l = .ok ((), l.tail) := if_pos h
theorem want_f {e : Nat} {s : List UInt8} {l : List Tok} (h : isT s l = false) : want e s l = .error (Q1X e 4 l) := if_neg (by rw [h]; decide)
theorem Q24 {pb e : Nat} {v v2 : Value} {l : List Tok} {s : List UInt8} (hv : tokR.sl cx v l) (hS : St cx w (sl 9 1 v2 [[.string ⟨s.toArray⟩]] :: prs pb v e :: L)) :
    Fins Tryz.prog Q20 [.pointer (some ⟨pb, 0, none⟩), v2] w (fun u w' => u = .tuple #[] ∧ want e s l = .ok ((), l.tail) ∧ ∃ v', tokR.sl cx v' l.tail ∧ St cx w' (prs pb v' e :: L)) (fun u w' => ∃ f v', want e s l = .error f ∧ u = QpO f ∧ St cx w' (prs pb v' e :: L)) := by
  unfold Fins
  all_goals refine Q8n ?_
  all_goals (unfold parse_parser_want_lc; refine Q0 ?_; refine Q1 ?_; refine zm ?_; refine Q9Z hS vw fd (n := 1) rfl ?_; refine zm ?_; refine zn ?_; refine Qa ?_)
  refine zo [0, 6, 7] (fun A ρ' w' => ∃ (j : Nat) (v1 : Value) (l1 : List Tok), Has ρ' A ∧ Has ρ' [(8, .int .i64 j)] ∧ ((j = 0 ∧ l1 = l) ∨ (j = 1 ∧ l1 = l.tail ∧ want e s l = .ok ((), l.tail))) ∧ (tokR.sl cx v1 l1) ∧ St cx w' (sl 9 1 v2 [[.string ⟨s.toArray⟩]] :: prs pb v1 e :: L)) (fun ρ' _ => (1 - iv (ρ' 8)).toNat) ?_ ?_
  · exact ⟨0, v, l, zh, zh, .inl ⟨rfl, rfl⟩, hv, hS.sp⟩
  rintro ρ w1 ⟨j, v1, l1, hA, hρ, hj, hv1, hS⟩; obtain ⟨ρ, rfl⟩ := env2 hA hρ
  unfold Q40
  all_goals (refine Q0 ?_; refine Q1 ?_; refine Q1i rfl rfl ?_; refine zn ?_; refine Q0 ?_)
  refine QM rfl (fun hc => ?_) (fun hc => ?_)
  · skip
    all_goals (refine zsk ?_; refine Q0 ?_; refine Qa ?_; refine Q0 ?_)
    all_goals (rcases hj with ⟨hj0, hj1⟩ | ⟨hj0, _⟩; rotate_left; (exfalso; omega); subst hj0)
    all_goals (refine Q1 ?_; refine s_idxE (m := 0) hS vw rfl (i := 0) rfl (by show 0 < 1; omega) ?_; intro b2 o2 hel2; refine QpB hS hel2 rfl (i := 0) rfl rfl rfl rfl ?_; refine zm ?_; refine zn ?_; refine Q0 ?_; refine Q0 ?_; refine Q1 ?_; refine zm ?_; refine zm ?_)
    all_goals (rw [hj1] at hv1; have hS : St cx _ (prs pb v1 e :: sl 9 1 v2 [[.string ⟨s.toArray⟩]] :: L) := hS.sp; refine zR2 (c := is_c hv1 hS) (h := ?_); rintro u1 w1 ⟨rfl, hS⟩; cases hq : isT s l)
    all_goals (refine znt ?_; refine zn ?_)
    all_goals
      first
      | (refine zct ?_ -- Q20 c1
         all_goals (refine Q1 ?_; refine zm ?_; refine zE2 (c := Q7c hv1 hS) (p := by rintro v9 w9 ⟨rfl, hS⟩; (repeat (first | refine Qo ?_ | refine Qp ?_ | refine fun _ => ?_)); refine QJ ?_; refine .inr ⟨_, rfl, ?_⟩; exact ⟨_, _, want_f hq, rfl, hS.sp⟩) (h := ?_); rintro v1 w1 h9; exact h9.elim)
         all_goals refine zn ?_)
      | (refine zcf ?_ -- Q20 c1
         all_goals refine zsk ?_)
    all_goals (refine Q1 ?_; refine zm ?_; obtain ⟨t9, ht9⟩ := QcN hq; refine zR1 (c := Qa2 ht9 hv1 hS) (h := ?_); rintro u1 w1 ⟨rfl, v9, hv9, hS⟩; refine zn ?_; refine Q1 ?_; refine zad ?_; refine zm ?_; refine zn ?_; exact ⟨⟨1, v9, l.tail, zh, zh, .inr ⟨rfl, rfl, Qto hq⟩, hv9, hS.sp⟩, QF (by omega)⟩)
  · skip
    all_goals (refine zex ?_)
    all_goals (refine Q3z ?_; rcases hj with ⟨hj0, _⟩ | ⟨_, hj1, hj2⟩; (exfalso; omega); rw [hj1] at hv1; exact .inl ⟨_, rfl, rfl, hj2, v1, hv1, hS.sp⟩)
end Go.Proofs.YtjecflbbcnocdaaGreatDoor
namespace Go.Proofs.YtjecflbbcnocdaaGreatDoor
open Go.Lir
set_option maxHeartbeats 1000000
attribute [local irreducible] LC.wp Q2 QA QB retQ Q1e LO.wp Qj Calls
set_option linter.unusedSimpArgs false
set_option linter.unusedVariables false
variable {cx : Cx} {w : World} {L : List Res}
theorem Qm2 {pb e : Nat} {v : Value} {l : List Tok} (hv : tokR.sl cx v l) (hS : St cx w (prs pb v e :: L)) :
    Fins Tryz.prog Q53 [.pointer (some ⟨pb, 0, none⟩)] w (fun u w' => ∃ n v', Q38 e l = .ok (n, l.tail) ∧ u = .int .i64 n ∧ tokR.sl cx v' l.tail ∧ St cx w' (prs pb v' e :: L)) (fun u w' => ∃ f v', Q38 e l = .error f ∧ u = QpO f ∧ St cx w' (prs pb v' e :: L)) := by
  cases l with
  | nil =>
    unfold Fins
    all_goals refine Q2S ?_
    all_goals (unfold parse_parser_long_lc; refine Q0 ?_; refine Q1 ?_; refine zm ?_; refine zn ?_; refine Q0 ?_; refine Q0 ?_; refine Q1 ?_; refine zm ?_; refine znc ?_; refine zf0 ?_; refine zl hS ?_; refine zL ?_; refine Qa0 rfl rfl (by simp) ?_; refine zm ?_; refine zgn ?_; refine zgn ?_; refine zgn ?_; refine zgn ?_; refine zgn ?_; refine zgn ?_; refine zgn ?_; refine zgn ?_; refine zpt ?_; refine zn ?_)
    all_goals refine zct ?_
    all_goals (refine Q1 ?_; refine zm ?_)
    all_goals (refine zE2 (c := Q7c hv hS) (p := by rintro v9 w9 ⟨rfl, hS⟩; (repeat (first | refine Qo ?_ | refine Qp ?_ | refine fun _ => ?_)); refine QJ ?_; refine .inr ⟨_, rfl, ?_⟩; exact ⟨_, _, rfl, rfl, hS.sp⟩) (h := fun _ _ h9 => by cases h9))
    all_goals (refine zn ?_; refine Q0 ?_; refine Q1 ?_; refine zm ?_; fail "no contract of Q1E"; refine QtG rfl rfl ?_; refine zm ?_; refine zn ?_; refine zr ?_; refine zf ?_; trace_state; fail "no ret fits")
  | cons t r =>
    obtain ⟨a, t2, m⟩ := t
    cases m with
    | none =>
      unfold Fins
      all_goals refine Q2S ?_
      all_goals (unfold parse_parser_long_lc; refine Q0 ?_; refine Q1 ?_; refine zm ?_; refine zn ?_; refine Q0 ?_; refine Q0 ?_; refine Q1 ?_; refine zm ?_; refine znc ?_; refine zf0 ?_; refine zl hS ?_; refine zL ?_; refine QgT rfl rfl (by simp; omega) ?_; refine zm ?_; (first | refine zgn ?_ | (refine zgy ?_; refine zm ?_)); (first | refine zgn ?_ | (refine zgy ?_; refine znc ?_)); (first | refine zgn ?_ | (refine zgy ?_; refine zf0 ?_)); (first | refine zgn ?_ | (refine zgy ?_; refine zl hS ?_)))
      all_goals (first | refine zgn ?_ | (refine zgy ?_; refine QN (m := 0) vw rfl hv rfl (by simp) ?_; intro b1 o1 cs1 x1 hat1 hx1 he1; cases hx1; obtain rfl := QE he1))
      all_goals ((first | refine zgn ?_ | (refine zgy ?_; (first | refine zf0 ?_ | refine zfd ?_))); (first | refine zgn ?_ | (refine zgy ?_; (first | (refine zl hS ?_) | (refine zlk hS ?_) | (refine zlj hS ?_)))); (first | refine zgn ?_ | (refine zgy ?_; refine znt ?_)); (first | (refine zpt ?_) | (refine zpf ?_)); refine zn ?_)
      all_goals refine zct ?_
      all_goals (refine Q1 ?_; refine zm ?_)
      all_goals (refine zE2 (c := Q7c hv hS) (p := by rintro v9 w9 ⟨rfl, hS⟩; (repeat (first | refine Qo ?_ | refine Qp ?_ | refine fun _ => ?_)); refine QJ ?_; refine .inr ⟨_, rfl, ?_⟩; exact ⟨_, _, rfl, rfl, hS.sp⟩) (h := fun _ _ h9 => by cases h9))
      all_goals (refine zn ?_; refine Q0 ?_; refine Q1 ?_; refine zm ?_; fail "no contract of Q1E"; refine QtG rfl rfl ?_; refine zm ?_; refine zn ?_; refine zr ?_; refine zf ?_; trace_state; fail "no ret fits")
    | some n =>
      unfold Fins
      all_goals refine Q2S ?_
      all_goals (unfold parse_parser_long_lc; refine Q0 ?_; refine Q1 ?_; refine zm ?_; refine zn ?_; refine Q0 ?_; refine Q0 ?_; refine Q1 ?_; refine zm ?_; refine znc ?_; refine zf0 ?_; refine zl hS ?_; refine zL ?_; refine QgT rfl rfl (by simp; omega) ?_; refine zm ?_; (first | refine zgn ?_ | (refine zgy ?_; refine zm ?_)); (first | refine zgn ?_ | (refine zgy ?_; refine znc ?_)); (first | refine zgn ?_ | (refine zgy ?_; refine zf0 ?_)); (first | refine zgn ?_ | (refine zgy ?_; refine zl hS ?_)))
      all_goals (first | refine zgn ?_ | (refine zgy ?_; refine QN (m := 0) vw rfl hv rfl (by simp) ?_; intro b1 o1 cs1 x1 hat1 hx1 he1; cases hx1; obtain rfl := QE he1))
      all_goals ((first | refine zgn ?_ | (refine zgy ?_; (first | refine zf0 ?_ | refine zfd ?_))); (first | refine zgn ?_ | (refine zgy ?_; (first | (refine zl hS ?_) | (refine zlk hS ?_) | (refine zlj hS ?_)))); (first | refine zgn ?_ | (refine zgy ?_; refine znt ?_)); (first | (refine zpt ?_) | (refine zpf ?_)); refine zn ?_)
      all_goals refine zcf ?_
      all_goals (refine zsk ?_; refine Q0 ?_; refine Q1 ?_; refine zm ?_; refine zR1 (c := QpF hv hS) (h := ?_); rintro u1 w1 ⟨rfl, v9, hv9, hS⟩; refine QtG rfl rfl ?_; refine zm ?_; refine zn ?_; refine zr ?_; refine zf ?_; exact .inl ⟨_, rfl, n, v9, rfl, rfl, hv9, hS.sp⟩)
theorem Q2t {pb e : Nat} {v : Value} {l : List Tok} (hv : tokR.sl cx v l) (hS : St cx w (prs pb v e :: L)) :
    Fins Tryz.prog Q1S [.pointer (some ⟨pb, 0, none⟩)] w (fun u w' => ∃ n v', pNum e l = .ok (n, l.tail) ∧ u = .int .i64 n ∧ tokR.sl cx v' l.tail ∧ St cx w' (prs pb v' e :: L)) (fun u w' => ∃ f v', pNum e l = .error f ∧ u = QpO f ∧ St cx w' (prs pb v' e :: L)) := by
  cases l with
  | nil =>
    unfold Fins
    all_goals refine Q36 ?_
    all_goals (unfold parse_parser_num_lc; refine Q0 ?_; refine Q1 ?_; refine zm ?_; refine zn ?_; refine Q0 ?_; refine Q0 ?_; refine Q1 ?_; refine zm ?_; refine znc ?_; refine zf0 ?_; refine zl hS ?_; refine zL ?_; refine Qcq rfl rfl (by simp) ?_; refine zm ?_; refine zgn ?_; refine zgn ?_; refine zgn ?_; refine zgn ?_; refine zgn ?_; refine zgn ?_; refine zgn ?_; (first | (refine zpt ?_) | (refine zpf ?_)); refine zm ?_; refine zgn ?_; refine zgn ?_)
    all_goals (refine zgn ?_; refine zgn ?_; refine zgn ?_; refine zgn ?_; refine zgn ?_)
    all_goals (refine zgn ?_)
    all_goals (refine zgn ?_; refine zgn ?_; refine zgn ?_; refine zgn ?_; refine zgn ?_; refine zgn ?_; refine zgn ?_; refine zgn ?_)
    all_goals (refine zgn ?_)
    all_goals (refine zgn ?_; (first | (refine zpt ?_) | (refine zpf ?_)); refine zn ?_)
    all_goals refine zcf ?_
    all_goals (refine zsk ?_; refine Q0 ?_; refine Q1 ?_; refine zm ?_; refine zE1 (c := Qm2 hv hS) (p := by rintro v9 w9 ⟨f, v8, h1, rfl, hS⟩; (repeat (first | refine Qo ?_ | refine Qp ?_ | refine fun _ => ?_)); refine QJ ?_; refine .inr ⟨_, rfl, ?_⟩; exact ⟨_, _, h1, rfl, hS.sp⟩) (h := ?_); rintro v1 w1 ⟨n, v9, h1, rfl, hv9, hS⟩; refine zm ?_; refine zn ?_; refine zr ?_; refine zf ?_; exact .inl ⟨_, rfl, n, v9, h1, rfl, hv9, hS.sp⟩)
  | cons t r =>
    obtain ⟨a, t2, m⟩ := t
    cases m with
    | none =>
      unfold Fins
      all_goals refine Q36 ?_
      all_goals (unfold parse_parser_num_lc; refine Q0 ?_; refine Q1 ?_; refine zm ?_; refine zn ?_; refine Q0 ?_; refine Q0 ?_; refine Q1 ?_; refine zm ?_; refine znc ?_; refine zf0 ?_; refine zl hS ?_; refine zL ?_; refine Q5C rfl rfl (by simp) ?_; refine zm ?_; (first | refine zgn ?_ | (refine zgy ?_; refine zm ?_)); (first | refine zgn ?_ | (refine zgy ?_; refine znc ?_)); (first | refine zgn ?_ | (refine zgy ?_; refine zf0 ?_)); (first | refine zgn ?_ | (refine zgy ?_; refine zl hS ?_)))
      all_goals (first | refine zgn ?_ | (refine zgy ?_; refine QN (m := 0) vw rfl hv rfl (by simp) ?_; intro b1 o1 cs1 x1 hat1 hx1 he1; cases hx1; obtain rfl := QE he1))
      all_goals ((first | refine zgn ?_ | (refine zgy ?_; (first | refine zf0 ?_ | refine zfd ?_))); (first | refine zgn ?_ | (refine zgy ?_; (first | (refine zl hS ?_) | (refine zlk hS ?_) | (refine zlj hS ?_)))); refine zpt ?_; refine zm ?_; refine zgn ?_; refine zgn ?_; refine zgn ?_; refine zgn ?_)
      all_goals (refine zgn ?_)
      all_goals (refine zgn ?_; refine zgn ?_)
      all_goals (refine zgn ?_)
      all_goals (refine zgn ?_; refine zgn ?_; refine zgn ?_; refine zgn ?_; refine zgn ?_)
      all_goals (refine zgn ?_)
      all_goals (refine zgn ?_; refine zgn ?_)
      all_goals (refine zgn ?_)
      all_goals (refine zgn ?_; (first | (refine zpt ?_) | (refine zpf ?_)); refine zn ?_)
      all_goals refine zcf ?_
      all_goals (refine zsk ?_; refine Q0 ?_; refine Q1 ?_; refine zm ?_; refine zE1 (c := Qm2 hv hS) (p := by rintro v9 w9 ⟨f, v8, h1, rfl, hS⟩; (repeat (first | refine Qo ?_ | refine Qp ?_ | refine fun _ => ?_)); refine QJ ?_; refine .inr ⟨_, rfl, ?_⟩; exact ⟨_, _, h1, rfl, hS.sp⟩) (h := ?_); rintro v1 w1 ⟨n, v9, h1, rfl, hv9, hS⟩; refine zm ?_; refine zn ?_; refine zr ?_; refine zf ?_; exact .inl ⟨_, rfl, n, v9, h1, rfl, hv9, hS.sp⟩)
    | some n =>
      have hw : Qcj (⟨a, t2, some n⟩ :: r) = decide (n < 0 ∨ 1000000 < n) := rfl
      unfold Fins pNum
      rw [hw]
      all_goals refine Q36 ?_
      all_goals (unfold parse_parser_num_lc; refine Q0 ?_; refine Q1 ?_; refine zm ?_; refine zn ?_; refine Q0 ?_; refine Q0 ?_; refine Q1 ?_; refine zm ?_; refine znc ?_; refine zf0 ?_; refine zl hS ?_; refine zL ?_; refine Q5C rfl rfl (by simp) ?_; refine zm ?_; (first | refine zgn ?_ | (refine zgy ?_; refine zm ?_)); (first | refine zgn ?_ | (refine zgy ?_; refine znc ?_)); (first | refine zgn ?_ | (refine zgy ?_; refine zf0 ?_)); (first | refine zgn ?_ | (refine zgy ?_; refine zl hS ?_)))
      all_goals (first | refine zgn ?_ | (refine zgy ?_; refine QN (m := 0) vw rfl hv rfl (by simp) ?_; intro b1 o1 cs1 x1 hat1 hx1 he1; cases hx1; obtain rfl := QE he1))
      all_goals ((first | refine zgn ?_ | (refine zgy ?_; (first | refine zf0 ?_ | refine zfd ?_))); (first | refine zgn ?_ | (refine zgy ?_; (first | (refine zl hS ?_) | (refine zlk hS ?_) | (refine zlj hS ?_)))); refine zpt ?_; refine zm ?_; (first | refine zgn ?_ | (refine zgy ?_; refine zm ?_)); (first | refine zgn ?_ | (refine zgy ?_; refine znc ?_)); (first | refine zgn ?_ | (refine zgy ?_; refine zf0 ?_)); (first | refine zgn ?_ | (refine zgy ?_; refine zl hS ?_)))
      all_goals (first | refine zgn ?_ | (refine zgy ?_; refine QN (m := 0) vw rfl hv rfl (by simp) ?_; intro b1 o1 cs1 x1 hat1 hx1 he1; cases hx1; obtain rfl := QE he1))
      all_goals ((first | refine zgn ?_ | (refine zgy ?_; (first | refine zf0 ?_ | refine zfd ?_))); (first | refine zgn ?_ | (refine zgy ?_; (first | (refine zl hS ?_) | (refine zlk hS ?_) | (refine zlj hS ?_)))))
      all_goals (first | refine zgn ?_ | (refine zgy ?_; refine QH (a := n) rfl rfl (fun hc => ?_) (fun hc => ?_)))
      all_goals ((first | refine zgn ?_ | (refine zgy ?_; refine zm ?_)); (first | refine zgn ?_ | (refine zgy ?_; refine zm ?_)); (first | refine zgn ?_ | (refine zgy ?_; refine znc ?_)); (first | refine zgn ?_ | (refine zgy ?_; refine zf0 ?_)); (first | refine zgn ?_ | (refine zgy ?_; refine zl hS ?_)))
      all_goals (first | refine zgn ?_ | (refine zgy ?_; refine QN (m := 0) vw rfl hv rfl (by simp) ?_; intro b1 o1 cs1 x1 hat1 hx1 he1; cases hx1; obtain rfl := QE he1))
      all_goals ((first | refine zgn ?_ | (refine zgy ?_; (first | refine zf0 ?_ | refine zfd ?_))); (first | refine zgn ?_ | (refine zgy ?_; (first | (refine zl hS ?_) | (refine zlk hS ?_) | (refine zlj hS ?_)))))
      all_goals (first | refine zgn ?_ | (refine zgy ?_; refine Qr (a := n) rfl rfl (fun hc => ?_) (fun hc => ?_)))
      all_goals ((first | refine zgn ?_ | (refine zgy ?_; (first | (refine zpt ?_) | (refine zpf ?_)))); refine zpt ?_; refine zn ?_)
      all_goals
        first
        | (refine zct ?_ -- Q1S c0
           all_goals (refine Q1 ?_; refine zm ?_)
           all_goals (refine zE2 (c := Q7c hv hS) (p := by rintro v9 w9 ⟨rfl, hS⟩; (repeat (first | refine Qo ?_ | refine Qp ?_ | refine fun _ => ?_)); refine QJ ?_; refine .inr ⟨_, rfl, ?_⟩; exact ⟨_, _, if_pos (decide_eq_true (by omega)), rfl, hS.sp⟩) (h := fun _ _ h9 => by cases h9))
           all_goals refine zn ?_)
        | (refine zcf ?_ -- Q1S c0
           all_goals refine zsk ?_)
      all_goals (refine Q0 ?_; refine Q1 ?_; refine zm ?_)
      all_goals (refine zE1 (c := Qm2 hv hS) (p := by rintro v9 w9 ⟨f, v8, h1, rfl, hS⟩; (repeat (first | refine Qo ?_ | refine Qp ?_ | refine fun _ => ?_)); refine QJ ?_; refine .inr ⟨_, rfl, ?_⟩; cases h1) (h := ?_); rintro v1 w1 ⟨n, v9, h1, rfl, hv9, hS⟩)
      all_goals (refine zm ?_; refine zn ?_; refine zr ?_; refine zf ?_)
      all_goals (exact .inl ⟨_, rfl, n, v9, (by rw [if_neg]; exact h1; rw [decide_eq_true_iff]; cases h1; omega), rfl, hv9, hS.sp⟩)
end Go.Proofs.YtjecflbbcnocdaaGreatDoor
namespace Go.Lir
section
variable {α : Type}
def Q2Y (xs : List α) (X : PGot (List α)) : PGot (List α) := match X with
  | .ok (l, r) => .ok (xs ++ l, r)
  | .error e => .error e
theorem Qui (X : PGot (List α)) : Q2Y [] X = X := by
  unfold Q2Y
  split <;> simp
variable {e n : Nat} {b cl : List UInt8} {f : List Tok → PGot α} {l l1 l2 l3 : List Tok} {xs : List α} {a : α} {g : Flt} {X : PGot (List α)}
theorem QpL (h : want e b l = .error g) : Q15 e b cl f l = .error g := by unfold Q15; rw [h]; rfl
theorem QpN (h : want e b l = .ok ((), l1)) : Q15 e b cl f l = Q2Y [] (pMany e cl f (101 - 0) 0 l1) := by unfold Q15; rw [h, Qui]; rfl
theorem QgZ (hd : X = Q2Y xs (pMany e cl f (101 - n) n l1)) (hn : n ≤ 100) (h : isT cl l1 = true) : X = .ok (xs, l1.tail) := by
  rw [hd, show 101 - n = (100 - n) + 1 by omega, pMany, if_pos h]; simp [Q2Y]
theorem QpH (hd : X = Q2Y xs (pMany e cl f (101 - n) n l1)) (hn : n ≤ 100) (h : isT cl l1 = false) (h0 : 0 < n) (hw : want e [44] l1 = .error g) : X = .error g := by
  rw [hd, show 101 - n = (100 - n) + 1 by omega, pMany, if_neg (by rw [h]; decide), if_neg (by omega), hw]; rfl
theorem QpJ (hd : X = Q2Y xs (pMany e cl f (101 - n) n l1)) (hn : n ≤ 100) (h : isT cl l1 = false) (hw : (if n = 0 then .ok ((), l1) else want e [44] l1) = .ok ((), l2)) (hf : f l2 = .error g) : X = .error g := by
  rw [hd, show 101 - n = (100 - n) + 1 by omega, pMany, if_neg (by rw [h]; decide), hw]
  simp only [Q6, hf]; rfl
theorem QpI (hd : X = Q2Y xs (pMany e cl f (101 - n) n l1)) (hn : n ≤ 100) (h : isT cl l1 = false) (hw : (if n = 0 then .ok ((), l1) else want e [44] l1) = .ok ((), l2)) (hf : f l2 = .ok (a, l3)) : X = Q2Y (xs ++ [a]) (pMany e cl f (101 - (n + 1)) (n + 1) l3) := by
  rw [hd, show 101 - n = (100 - n) + 1 by omega, pMany, if_neg (by rw [h]; decide), hw]
  simp only [Q6, hf]
  rw [show 101 - (n + 1) = 100 - n by omega]
  cases pMany e cl f (100 - n) (n + 1) l3 with
  | error e => rfl
  | ok p => obtain ⟨y, r⟩ := p; simp [Q2Y]
theorem QpG (hd : X = Q2Y xs (pMany e cl f (101 - n) n l1)) (hn : 100 < n) : X = .error (Q1X e 2 l1) := by
  rw [hd, show 101 - n = 0 by omega, pMany]; rfl
theorem Q8 (l : List Tok) : l.tail.length ≤ l.length := by simp
theorem Qla {s : List UInt8} {l : List Tok} (h : isT s l = true) : l.tail.length < l.length := by
  cases l with
  | nil => cases h
  | cons t r => simp
theorem Q5n {s : List UInt8} {l l2 : List Tok} (h : want e s l = .ok ((), l2)) : l2 = l.tail ∧ l2.length < l.length := by
  unfold want at h
  split at h
  · rename_i hq; cases h; exact ⟨rfl, Qla hq⟩
  · cases h
theorem Qum {l l2 : List Tok} {n : Int} (h : Q38 e l = .ok (n, l2)) : l2 = l.tail ∧ l2.length < l.length := by
  cases l with
  | nil => cases h
  | cons t r =>
    obtain ⟨a, t2, m⟩ := t
    cases m with
    | none => cases h
    | some k => cases h; simp
theorem num_lt {l l2 : List Tok} {n : Int} (h : pNum e l = .ok (n, l2)) : l2 = l.tail ∧ l2.length < l.length := by
  unfold pNum at h
  split at h
  · cases h
  · exact Qum h
end
end Go.Lir
namespace Go.Proofs.YtjecflbbcnocdaaGreatDoor
open Go.Lir
set_option maxHeartbeats 1000000
attribute [local irreducible] LC.wp Q2 QA QB retQ Q1e LO.wp Qj Calls
set_option linter.unusedSimpArgs false
set_option linter.unusedVariables false
attribute [local irreducible] pMany Q15 Q2Y pNum want isT
variable {cx : Cx} {w : World} {L : List Res}
/-- What a reader answers: a thing that its cells say, a list, or that it gives up. -/
def POk {α : Type} (r : Rep α) (tv : List Value → Value) (X : PGot α) (pb e n : Nat) (cx : Cx) (L : List Res) (u : Value) (w' : World) : Prop :=
  ∃ a l' v' c' ds, X = .ok (a, l') ∧ l'.length ≤ n ∧ cx.Le c' ∧ r.at c' ds a ∧ u = tv ds ∧ tokR.sl c' v' l' ∧ St c' w' (prs pb v' e :: L)
def POkS {α : Type} (r : Rep α) (X : PGot (List α)) (pb e n : Nat) (cx : Cx) (L : List Res) (u : Value) (w' : World) : Prop :=
  ∃ xs l' v' c', X = .ok (xs, l') ∧ l'.length ≤ n ∧ cx.Le c' ∧ r.sl c' u xs ∧ tokR.sl c' v' l' ∧ St c' w' (prs pb v' e :: L)
def PBad {α : Type} (X : PGot α) (pb e : Nat) (cx : Cx) (L : List Res) (u : Value) (w' : World) : Prop :=
  ∃ f v', X = .error f ∧ u = QpO f ∧ St cx w' (prs pb v' e :: L)
/-- A reader of one thing, whatever else lies about. -/
def PrC {α : Type} (r : Rep α) (tv : List Value → Value) (P : Program) (g : FuncId) (cap : List Value) (f : List Tok → PGot α) (pb e n0 : Nat) (cx : Cx) (L : List Res) : Prop :=
  ∀ (v1 : Value) (l1 : List Tok) (c1 : Cx) (w1 : World) (r0 : Res), cx.Le c1 → l1.length ≤ n0 → tokR.sl c1 v1 l1 → St c1 w1 (prs pb v1 e :: r0 :: L) → Fins P g cap w1 (POk r tv (f l1) pb e l1.length c1 (r0 :: L)) (PBad (f l1) pb e c1 (r0 :: L))
def pint1 (ds : List Value) : Value := ds.getD 0 undef
def Q5P (ds : List Value) : Value := .agg ⟨ds⟩
def slen (v : Value) : Nat := match v with
  | .slice _ n _ => n
  | _ => 0
theorem St.slen {c : Cx} {i T es : Nat} {v : Value} {css : List (List Value)} (hS : St c w L) (hi : nth L i = some (sl T es v css)) : slen v = css.length := by
  obtain ⟨F, hr, _⟩ := hS.step hi
  obtain ⟨a, n, rfl⟩ := Sl.shape hr
  rfl
theorem Q25 {b T : Nat} {s : List UInt8} (hS : St cx w (blk b T [.string ⟨s.toArray⟩] :: L)) : St cx w (sl T 1 (.slice (some ⟨b, 0, none⟩) 1 1) [[.string ⟨s.toArray⟩]] :: L) :=
  St.slOf hS rfl (by intro c hc; simp at hc; subst hc; rfl) rfl
theorem QpK {f : List Tok → PGot _} {pb e : Nat} {b cl : List UInt8} {v fv : Value} {g : FuncId} {cap : List Value} {l : List Tok} (hfv : FnV fv g cap) (hg : Q3B Tryz.prog g = true) (hone : PrC intR pint1 Tryz.prog g cap f pb e l.length cx L) (hv : tokR.sl cx v l) (hS : St cx w (prs pb v e :: L)) :
    Fins Tryz.prog Q1D [.pointer (some ⟨pb, 0, none⟩), .string ⟨b.toArray⟩, .string ⟨cl.toArray⟩, fv] w (POkS intR (Q15 e b cl f l) pb e l.length cx L) (PBad (Q15 e b cl f l) pb e cx L) := by
  unfold PrC at hone
  have hle := St.refl hS
  unfold Fins
  all_goals refine QcH ?_
  all_goals (unfold parse_list_int_lc; refine Q0 ?_; refine Q1 ?_; refine zm ?_; refine zn ?_; refine Q0 ?_; refine Q1 ?_; refine zm ?_; refine zm ?_; refine zB1 hS [_] ?_; intro b1 w1 hS; have hS := Q25 hS; refine zE2 (c := Q24 hv hS) (p := by rintro v9 w9 ⟨f9, v8, hw1, rfl, hS⟩; (repeat (first | refine Qo ?_ | refine Qp ?_ | refine fun _ => ?_)); refine QJ ?_; refine .inr ⟨_, rfl, ?_⟩; exact ⟨_, _, QpL hw1, rfl, hS.sp⟩) (h := ?_); rintro v1 w1 ⟨rfl, hw1, v9, hv9, hS⟩; refine zn ?_; refine Q0 ?_; refine Q1 ?_; refine zm ?_; refine zn ?_; refine Q0 ?_; refine Qa ?_; have hS := St.nil (T := 3) (es := 1) hS; have hd0 := QpN (cl := cl) (f := f) hw1; have hlt := (Q5n hw1).2)
  refine zo [0, 2, 3] (fun A ρ' w' => ∃ (k0 : Cx) (n : Nat) (v1 : Value) (l1 : List Tok) (vl : Value) (co : List (List Value)) (xs : List _), Has ρ' A ∧ Has ρ' [(9, vl)] ∧ (cx.Le k0) ∧ (n ≤ 100) ∧ (xs.length = n) ∧ (l1.length ≤ l.length) ∧ (tokR.sl k0 v1 l1) ∧ (Rep.ls intR k0 co xs) ∧ (oneC vl = true) ∧ (Q15 e b cl f l = Q2Y xs (pMany e cl f (101 - n) n l1)) ∧ St k0 w' (sl 3 1 vl co :: prs pb v1 e :: L)) (fun ρ' _ => 101 - slen (ρ' 9)) ?_ ?_
  · exact ⟨cx, 0, v9, l.tail, _, _, [], zh, zh, St.refl hS, (by omega), rfl, Q8 l, hv9, Rep.LR.nil _ _ _, rfl, hd0, hS.sp⟩
  rintro ρ w1 ⟨k0, n, v1, l1, vl, co, xs, hA, hρ, hle2, hn, hxl, hll, hv1, hlo, hvl, hd, hS⟩; obtain ⟨ρ, rfl⟩ := env2 hA hρ; have hL0 := hle2; (try have hle := hle.trans hle2)
  unfold Q5g
  all_goals (refine Q0 ?_; refine Q0 ?_; refine Q1 ?_; refine zm ?_; refine zm ?_)
  all_goals (have hsl := St.slen hS (i := 0) rfl; have hcl := hlo.1; have hS : St k0 _ (prs pb v1 e :: sl 3 1 vl co :: L) := hS.sp; refine zR2 (c := is_c hv1 hS) (h := ?_); rintro u1 w1 ⟨rfl, hS⟩; cases hq : isT cl l1)
  all_goals (refine znt ?_; refine zn ?_)
  all_goals
    first
    | (refine zct ?_ -- Q1D c0
       all_goals (refine zsk ?_; refine Qa ?_)
       refine zM [0, 2, 3, 9] (fun A ρ' w' => ∃ (v2 : Value) (l2 : List Tok), Has ρ' A ∧ Has ρ' [] ∧ ((if n = 0 then .ok ((), l1) else want e [44] l1) = .ok ((), l2)) ∧ (l2.length ≤ l1.length) ∧ (tokR.sl k0 v2 l2) ∧ St k0 w' (prs pb v2 e :: sl 3 1 vl co :: L)) ?_ ?_
       · skip
         all_goals (refine Q0 ?_; refine Q1 ?_; refine zm ?_; refine Q9Z hS vw (i := 1) rfl (n := n) (by omega) ?_)
         all_goals (first | (refine QD ?_) | (refine QR ?_) | (refine Qr rfl rfl (fun hc => ?_) (fun hc => ?_)))
         all_goals (refine zn ?_)
         all_goals
           first
           | (refine zct ?_ -- Q1D c1
              all_goals (refine Q1 ?_; refine zm ?_; refine zB1 hS [_] ?_; intro b1 w1 hS; have hS := Q25 (s := [44]) hS; refine zE2 (c := Q24 hv1 hS) (p := by rintro v9 w9 ⟨f9, v8, hw2, rfl, hS⟩; (repeat (first | refine Qo ?_ | refine Qp ?_ | refine fun _ => ?_)); refine QJ ?_; refine .inr ⟨_, rfl, ?_⟩; exact ⟨_, _, QpH hd hn hq (by omega) hw2, rfl, St.weak hS.sp hL0⟩) (h := ?_); rintro v1 w1 ⟨rfl, hw2, v8, hv8, hS⟩)
              all_goals refine zn ?_)
           | (refine zcf ?_ -- Q1D c1
              all_goals refine zsk ?_)
         all_goals ((first | (exact ⟨v8, l1.tail, zh, zh, by rw [if_neg (by omega)]; exact hw2, Q8 l1, hv8, hS.sp⟩) | (exact ⟨v1, l1, zh, zh, if_pos (by omega), by omega, hv1, hS.sp⟩)))
       rintro ρ w1 ⟨v2, l2, hA, hρ, hw3, hl2, hv2, hS⟩; obtain ⟨ρ, rfl⟩ := env2 hA hρ
       all_goals (refine Q0 ?_; refine Q1 ?_; refine zm ?_; refine zm ?_)
       all_goals (refine QtI rfl hfv hg (hone v2 l2 k0 _ _ hL0 (by omega) hv2 hS) (by rintro v9 w9 ⟨f9, v8, he1, rfl, hS⟩; (repeat (first | refine Qo ?_ | refine Qp ?_ | refine fun _ => ?_)); refine QJ ?_; refine .inr ⟨_, rfl, ?_⟩; exact ⟨_, _, QpJ hd hn hq hw3 he1, rfl, St.weak hS.sp hL0⟩) ?_; rintro v1 w1 ⟨a, l3, v3, c3, ds, he1, h4, hle2, hd1, rfl, hv3, hS⟩; (try have hle := hle.trans hle2); (try have hL0 := hL0.trans hle2); (try have hv1 := hv1.up hle2); (try have hlo := hlo.up hle2); have hd1' := hd1; unfold pint1; obtain rfl := Qgk hd1; have hd4 := QpI hd hn hq hw3 he1)
       all_goals (refine zB1 hS [_] ?_; intro b1 w1 hS; refine za el_T46 u_T46 hS ?_; intro vp1 w1 css1 hls1 hv1 hS; have hS := hS.ns; refine zm ?_; refine zn ?_; refine Q0 ?_; have hsl2 := St.slen hS (i := 2) rfl; have hcl2 := hls1.1; rw [List.length_append] at hcl2; have hc1 : [a].length = 1 := rfl; refine Q1 ?_; refine zm ?_; refine Q9Z hS vw (i := 2) rfl (n := n + 1) (by omega) ?_)
       all_goals (first | (refine QD ?_) | (refine QR ?_) | (refine Qr rfl rfl (fun hc => ?_) (fun hc => ?_)))
       all_goals (refine zn ?_)
       all_goals
         first
         | (refine zct ?_ -- Q1D c2
            all_goals (refine Q1 ?_; refine zm ?_)
            all_goals (refine zE2 (c := Q7c hv3 hS.drop) (p := by rintro v9 w9 ⟨rfl, hS⟩; (repeat (first | refine Qo ?_ | refine Qp ?_ | refine fun _ => ?_)); refine QJ ?_; refine .inr ⟨_, rfl, ?_⟩; exact ⟨_, _, QpG hd4 (by omega), rfl, St.weak hS.sp hL0⟩) (h := fun _ _ h9 => by cases h9))
            all_goals refine zn ?_)
         | (refine zcf ?_ -- Q1D c2
            all_goals refine zsk ?_)
       all_goals (exact ⟨⟨_, n + 1, v3, l3, _, _, xs ++ [a], zh, zh, hL0, by omega, by simp [hxl], by omega, hv3, hls1, by assumption, hd4, hS.sp⟩, (by show 101 - slen vp1 < 101 - slen vl; omega)⟩))
    | (refine zcf ?_ -- Q1D c0
       all_goals (refine zex ?_; refine Q0 ?_; refine Q1 ?_; refine zm ?_; refine zm ?_; refine zB1 hS [_] ?_; intro b1 w1 hS; have hS := Q25 hS)
       all_goals (refine zE2 (c := Q24 hv1 hS) (p := by rintro v9 w9 ⟨f9, v8, hw4, rfl, hS⟩; (repeat (first | refine Qo ?_ | refine Qp ?_ | refine fun _ => ?_)); refine QJ ?_; refine .inr ⟨_, rfl, ?_⟩; (exfalso; rw [Qto hq] at hw4; cases hw4)) (h := ?_); rintro v1 w1 ⟨rfl, hw4, v8, hv8, hS⟩)
       all_goals (refine zn ?_; refine Q0 ?_; refine Q1 ?_; refine zm ?_; refine zm ?_; refine zn ?_; refine zr ?_; refine zf ?_)
       all_goals (obtain ⟨c4, hle4, hS, hk4⟩ := St.freezeL (r := intR) (hS.out (r := sl 3 1 vl co) fd) hlo rfl (by omega); exact .inl ⟨_, rfl, xs, l1.tail, v8, c4, QgZ hd hn hq, (by have := Q8 l1; omega), hL0.trans hle4, hk4, hv8.up hle4, hS.sp⟩))
theorem Ql5 {f : List Tok → PGot _} {pb e : Nat} {b cl : List UInt8} {v fv : Value} {g : FuncId} {cap : List Value} {l : List Tok} (hfv : FnV fv g cap) (hg : Q3B Tryz.prog g = true) (hone : PrC tyR Q5P Tryz.prog g cap f pb e l.length cx L) (hv : tokR.sl cx v l) (hS : St cx w (prs pb v e :: L)) :
    Fins Tryz.prog QI [.pointer (some ⟨pb, 0, none⟩), .string ⟨b.toArray⟩, .string ⟨cl.toArray⟩, fv] w (POkS tyR (Q15 e b cl f l) pb e l.length cx L) (PBad (Q15 e b cl f l) pb e cx L) := by
  unfold PrC at hone
  have hle := St.refl hS
  unfold Fins
  all_goals refine Q6J ?_
  all_goals (unfold parse_list_api_Type_lc; refine Q0 ?_; refine Q1 ?_; refine zm ?_; refine zn ?_; refine Q0 ?_; refine Q1 ?_; refine zm ?_; refine zm ?_; refine zB1 hS [_] ?_; intro b1 w1 hS; have hS := Q25 hS; refine zE2 (c := Q24 hv hS) (p := by rintro v9 w9 ⟨f9, v8, hw1, rfl, hS⟩; (repeat (first | refine Qo ?_ | refine Qp ?_ | refine fun _ => ?_)); refine QJ ?_; refine .inr ⟨_, rfl, ?_⟩; exact ⟨_, _, QpL hw1, rfl, hS.sp⟩) (h := ?_); rintro v1 w1 ⟨rfl, hw1, v9, hv9, hS⟩; refine zn ?_; refine Q0 ?_; refine Q1 ?_; refine zm ?_; refine zn ?_; refine Q0 ?_; refine Qa ?_; have hS := St.nil (T := 91) (es := 3) hS; have hd0 := QpN (cl := cl) (f := f) hw1; have hlt := (Q5n hw1).2)
  refine zo [0, 2, 3] (fun A ρ' w' => ∃ (k0 : Cx) (n : Nat) (v1 : Value) (l1 : List Tok) (vl : Value) (co : List (List Value)) (xs : List _), Has ρ' A ∧ Has ρ' [(9, vl)] ∧ (cx.Le k0) ∧ (n ≤ 100) ∧ (xs.length = n) ∧ (l1.length ≤ l.length) ∧ (tokR.sl k0 v1 l1) ∧ (Rep.ls tyR k0 co xs) ∧ (oneC vl = true) ∧ (Q15 e b cl f l = Q2Y xs (pMany e cl f (101 - n) n l1)) ∧ St k0 w' (sl 91 3 vl co :: prs pb v1 e :: L)) (fun ρ' _ => 101 - slen (ρ' 9)) ?_ ?_
  · exact ⟨cx, 0, v9, l.tail, _, _, [], zh, zh, St.refl hS, (by omega), rfl, Q8 l, hv9, Rep.LR.nil _ _ _, rfl, hd0, hS.sp⟩
  rintro ρ w1 ⟨k0, n, v1, l1, vl, co, xs, hA, hρ, hle2, hn, hxl, hll, hv1, hlo, hvl, hd, hS⟩; obtain ⟨ρ, rfl⟩ := env2 hA hρ; have hL0 := hle2; (try have hle := hle.trans hle2)
  unfold Q3A
  all_goals (refine Q0 ?_; refine Q0 ?_; refine Q1 ?_; refine zm ?_; refine zm ?_)
  all_goals (have hsl := St.slen hS (i := 0) rfl; have hcl := hlo.1; have hS : St k0 _ (prs pb v1 e :: sl 91 3 vl co :: L) := hS.sp; refine zR2 (c := is_c hv1 hS) (h := ?_); rintro u1 w1 ⟨rfl, hS⟩; cases hq : isT cl l1)
  all_goals (refine znt ?_; refine zn ?_)
  all_goals
    first
    | (refine zct ?_ -- QI c0
       all_goals (refine zsk ?_; refine Qa ?_)
       refine zM [0, 2, 3, 9] (fun A ρ' w' => ∃ (v2 : Value) (l2 : List Tok), Has ρ' A ∧ Has ρ' [] ∧ ((if n = 0 then .ok ((), l1) else want e [44] l1) = .ok ((), l2)) ∧ (l2.length ≤ l1.length) ∧ (tokR.sl k0 v2 l2) ∧ St k0 w' (prs pb v2 e :: sl 91 3 vl co :: L)) ?_ ?_
       · skip
         all_goals (refine Q0 ?_; refine Q1 ?_; refine zm ?_; refine Q9Z hS vw (i := 1) rfl (n := n) (by omega) ?_)
         all_goals (first | (refine QD ?_) | (refine QR ?_) | (refine Qr rfl rfl (fun hc => ?_) (fun hc => ?_)))
         all_goals (refine zn ?_)
         all_goals
           first
           | (refine zct ?_ -- QI c1
              all_goals (refine Q1 ?_; refine zm ?_; refine zB1 hS [_] ?_; intro b1 w1 hS; have hS := Q25 (s := [44]) hS; refine zE2 (c := Q24 hv1 hS) (p := by rintro v9 w9 ⟨f9, v8, hw2, rfl, hS⟩; (repeat (first | refine Qo ?_ | refine Qp ?_ | refine fun _ => ?_)); refine QJ ?_; refine .inr ⟨_, rfl, ?_⟩; exact ⟨_, _, QpH hd hn hq (by omega) hw2, rfl, St.weak hS.sp hL0⟩) (h := ?_); rintro v1 w1 ⟨rfl, hw2, v8, hv8, hS⟩)
              all_goals refine zn ?_)
           | (refine zcf ?_ -- QI c1
              all_goals refine zsk ?_)
         all_goals ((first | (exact ⟨v8, l1.tail, zh, zh, by rw [if_neg (by omega)]; exact hw2, Q8 l1, hv8, hS.sp⟩) | (exact ⟨v1, l1, zh, zh, if_pos (by omega), by omega, hv1, hS.sp⟩)))
       rintro ρ w1 ⟨v2, l2, hA, hρ, hw3, hl2, hv2, hS⟩; obtain ⟨ρ, rfl⟩ := env2 hA hρ
       all_goals (refine Q0 ?_; refine Q1 ?_; refine zm ?_; refine zm ?_)
       all_goals (refine QtI rfl hfv hg (hone v2 l2 k0 _ _ hL0 (by omega) hv2 hS) (by rintro v9 w9 ⟨f9, v8, he1, rfl, hS⟩; (repeat (first | refine Qo ?_ | refine Qp ?_ | refine fun _ => ?_)); refine QJ ?_; refine .inr ⟨_, rfl, ?_⟩; exact ⟨_, _, QpJ hd hn hq hw3 he1, rfl, St.weak hS.sp hL0⟩) ?_; rintro v1 w1 ⟨a, l3, v3, c3, ds, he1, h4, hle2, hd1, rfl, hv3, hS⟩; (try have hle := hle.trans hle2); (try have hL0 := hL0.trans hle2); (try have hv1 := hv1.up hle2); (try have hlo := hlo.up hle2); have hd1' := hd1; unfold Q5P; obtain ⟨vo, rfl, ho⟩ := Q1c hd1; have hd4 := QpI hd hn hq hw3 he1)
       all_goals (refine zB1 hS [_, _, _] ?_; intro b1 w1 hS; refine za el_T40 u_T40 hS ?_; intro vp1 w1 css1 hls1 hv1 hS; have hS := hS.ns; refine zm ?_; refine zn ?_; refine Q0 ?_; have hsl2 := St.slen hS (i := 2) rfl; have hcl2 := hls1.1; rw [List.length_append] at hcl2; have hc1 : [a].length = 1 := rfl; refine Q1 ?_; refine zm ?_; refine Q9Z hS vw (i := 2) rfl (n := n + 1) (by omega) ?_)
       all_goals (first | (refine QD ?_) | (refine QR ?_) | (refine Qr rfl rfl (fun hc => ?_) (fun hc => ?_)))
       all_goals (refine zn ?_)
       all_goals
         first
         | (refine zct ?_ -- QI c2
            all_goals (refine Q1 ?_; refine zm ?_)
            all_goals (refine zE2 (c := Q7c hv3 hS.drop) (p := by rintro v9 w9 ⟨rfl, hS⟩; (repeat (first | refine Qo ?_ | refine Qp ?_ | refine fun _ => ?_)); refine QJ ?_; refine .inr ⟨_, rfl, ?_⟩; exact ⟨_, _, QpG hd4 (by omega), rfl, St.weak hS.sp hL0⟩) (h := fun _ _ h9 => by cases h9))
            all_goals refine zn ?_)
         | (refine zcf ?_ -- QI c2
            all_goals refine zsk ?_)
       all_goals (exact ⟨⟨_, n + 1, v3, l3, _, _, xs ++ [a], zh, zh, hL0, by omega, by simp [hxl], by omega, hv3, hls1, by assumption, hd4, hS.sp⟩, (by show 101 - slen vp1 < 101 - slen vl; omega)⟩))
    | (refine zcf ?_ -- QI c0
       all_goals (refine zex ?_; refine Q0 ?_; refine Q1 ?_; refine zm ?_; refine zm ?_; refine zB1 hS [_] ?_; intro b1 w1 hS; have hS := Q25 hS)
       all_goals (refine zE2 (c := Q24 hv1 hS) (p := by rintro v9 w9 ⟨f9, v8, hw4, rfl, hS⟩; (repeat (first | refine Qo ?_ | refine Qp ?_ | refine fun _ => ?_)); refine QJ ?_; refine .inr ⟨_, rfl, ?_⟩; (exfalso; rw [Qto hq] at hw4; cases hw4)) (h := ?_); rintro v1 w1 ⟨rfl, hw4, v8, hv8, hS⟩)
       all_goals (refine zn ?_; refine Q0 ?_; refine Q1 ?_; refine zm ?_; refine zm ?_; refine zn ?_; refine zr ?_; refine zf ?_)
       all_goals (obtain ⟨c4, hle4, hS, hk4⟩ := St.freezeL (r := tyR) (hS.out (r := sl 91 3 vl co) fd) hlo rfl (by omega); exact .inl ⟨_, rfl, xs, l1.tail, v8, c4, QgZ hd hn hq, (by have := Q8 l1; omega), hL0.trans hle4, hk4, hv8.up hle4, hS.sp⟩))
end Go.Proofs.YtjecflbbcnocdaaGreatDoor
namespace Go.Lir
set_option linter.unusedVariables false
section
variable {P : Program} {l : List GO} {Q : QT} {ρ : Env} {w : World} {c : Cx} {L : List Res} {v : Value}
/-- A closure, with what it holds. -/
theorem QtD {d f : Nat} {caps : List Operand} {u : List Value} (hu : caps.map ρ.ev = u) (h : Q2 P l Q (upd ρ d (.func (.func f) #[] ⟨u⟩)) w) : Q2 P (⟨none, .mkfn d f caps⟩ :: l) Q ρ w := by
  subst hu; exact h
end
end Go.Lir
namespace Go.Lir
section
variable {e k n : Nat} {l l1 l2 l3 : List Tok} {m : Int} {f : Flt} {ts : List Ty}
theorem ty_0 : pTyp e 0 l = .error (Q1X e 19 l) := by rw [pTyp]
theorem ty_i (h : isT tInt l = true) : pTyp e (k + 1) l = .ok (.mk 1 0 [], l.tail) := by rw [pTyp, if_pos h]
theorem ty_h (h : isT tInt l = false) (h2 : isT Q1Z l = true) (h3 : pNum e l.tail = .ok (m, l2)) : pTyp e (k + 1) l = .ok (.mk 2 m [], l2) := by
  rw [pTyp, if_neg (by rw [h]; decide), if_pos h2, h3]; rfl
theorem ty_he (h : isT tInt l = false) (h2 : isT Q1Z l = true) (h3 : pNum e l.tail = .error f) : pTyp e (k + 1) l = .error f := by
  rw [pTyp, if_neg (by rw [h]; decide), if_pos h2, h3]; rfl
theorem ty_a (h : isT tInt l = false) (h1 : isT Q1Z l = false) (h2 : isT Q3O l = true) (h3 : pNum e l.tail = .ok (m, l2)) : pTyp e (k + 1) l = .ok (.mk 4 m [], l2) := by
  rw [pTyp, if_neg (by rw [h]; decide), if_neg (by rw [h1]; decide), if_pos h2, h3]; rfl
theorem ty_ae (h : isT tInt l = false) (h1 : isT Q1Z l = false) (h2 : isT Q3O l = true) (h3 : pNum e l.tail = .error f) : pTyp e (k + 1) l = .error f := by
  rw [pTyp, if_neg (by rw [h]; decide), if_neg (by rw [h1]; decide), if_pos h2, h3]; rfl
theorem ty_tup (h : isT tInt l = false) (h1 : isT Q1Z l = false) (h2 : isT Q3O l = false) : pTyp e (k + 1) l = Q6 (want e Q2F l) fun _ l => Q6 (pNum e l) fun n l => Q6 (Q15 e [40] [41] (pTyp e k) l) fun ts l => .ok (.mk 3 n ts, l) := by
  rw [pTyp, if_neg (by rw [h]; decide), if_neg (by rw [h1]; decide), if_neg (by rw [h2]; decide)]
theorem tup_w {X : PGot Ty} (hX : X = Q6 (want e Q2F l) fun _ l => Q6 (pNum e l) fun n l => Q6 (Q15 e [40] [41] (pTyp e k) l) fun ts l => .ok (.mk 3 n ts, l)) (h : want e Q2F l = .error f) : X = .error f := by rw [hX, h]; rfl
theorem tup_n {X : PGot Ty} (hX : X = Q6 (want e Q2F l) fun _ l => Q6 (pNum e l) fun n l => Q6 (Q15 e [40] [41] (pTyp e k) l) fun ts l => .ok (.mk 3 n ts, l)) (h : want e Q2F l = .ok ((), l1)) (h1 : pNum e l1 = .error f) : X = .error f := by rw [hX, h]; simp only [Q6, h1]
theorem tup_l {X : PGot Ty} (hX : X = Q6 (want e Q2F l) fun _ l => Q6 (pNum e l) fun n l => Q6 (Q15 e [40] [41] (pTyp e k) l) fun ts l => .ok (.mk 3 n ts, l)) (h : want e Q2F l = .ok ((), l1)) (h1 : pNum e l1 = .ok (m, l2)) (h2 : Q15 e [40] [41] (pTyp e k) l2 = .error f) : X = .error f := by rw [hX, h]; simp only [Q6, h1, h2]
theorem tup_o {X : PGot Ty} (hX : X = Q6 (want e Q2F l) fun _ l => Q6 (pNum e l) fun n l => Q6 (Q15 e [40] [41] (pTyp e k) l) fun ts l => .ok (.mk 3 n ts, l)) (h : want e Q2F l = .ok ((), l1)) (h1 : pNum e l1 = .ok (m, l2)) (h2 : Q15 e [40] [41] (pTyp e k) l2 = .ok (ts, l3)) : X = .ok (.mk 3 m ts, l3) := by rw [hX, h]; simp only [Q6, h1, h2]
end
end Go.Lir
namespace Go.Proofs.YtjecflbbcnocdaaGreatDoor
open Go.Lir
set_option maxHeartbeats 1000000
attribute [local irreducible] LC.wp Q2 QA QB retQ Q1e LO.wp Qj Calls
set_option linter.unusedSimpArgs false
set_option linter.unusedVariables false
attribute [local irreducible] pMany Q15 Q2Y pNum want isT pTyp
variable {cx : Cx} {w : World} {L : List Res}
theorem pone_num {pb e n0 : Nat} : PrC intR pint1 Tryz.prog Q1S [.pointer (some ⟨pb, 0, none⟩)] (pNum e) pb e n0 cx L := by
  intro v1 l1 c1 w1 r0 hle hn hv hS
  refine Fins.mono (Q2t hv hS) ?_ ?_
  · rintro u w' ⟨n, v', h1, rfl, hv', hS⟩; exact ⟨n, l1.tail, v', c1, [.int .i64 n], h1, Q8 l1, St.refl hS, rfl, rfl, hv', hS⟩
  · rintro u w' ⟨f, v', h1, rfl, hS⟩; exact ⟨f, v', h1, rfl, hS⟩
theorem Qcw {pb e : Nat} {b cl : List UInt8} {v : Value} {l : List Tok} (hv : tokR.sl cx v l) (hS : St cx w (prs pb v e :: L)) :
    Fins Tryz.prog Q52 [.pointer (some ⟨pb, 0, none⟩), .string ⟨b.toArray⟩, .string ⟨cl.toArray⟩] w (POkS intR (Q15 e b cl (pNum e) l) pb e l.length cx L) (PBad (Q15 e b cl (pNum e) l) pb e cx L) := by
  unfold Fins
  all_goals refine Q8x ?_
  all_goals (unfold parse_parser_nums_lc; refine Q0 ?_; refine Q1 ?_; refine zm ?_; refine zn ?_; refine Q0 ?_; refine Q1 ?_; refine zm ?_; refine zm ?_; refine zm ?_; refine zm ?_; refine s_mkb (u := [.pointer (some ⟨pb, 0, none⟩)]) rfl ?_; refine zE4 (c := QpK (cx := cx) ⟨[_], [], rfl, rfl⟩ (by kernel_rfl) pone_num hv hS) (p := by rintro v9 w9 hX; (repeat (first | refine Qo ?_ | refine Qp ?_ | refine fun _ => ?_)); refine QJ ?_; refine .inr ⟨_, rfl, ?_⟩; exact hX) (h := ?_); rintro v1 w1 hX; refine zm ?_; refine zn ?_; refine zr ?_; refine zf ?_; exact .inl ⟨_, rfl, hX⟩)
/-- What the reader of a type does where so many levels are left. -/
def TyC (pb e k : Nat) : Prop :=
  ∀ (cx : Cx) (w : World) (L : List Res) (d : Int) (v : Value) (l : List Tok), 0 ≤ d → d + k = 5 → tokR.sl cx v l → St cx w (prs pb v e :: L) →
    Fins Tryz.prog Q10 [.pointer (some ⟨pb, 0, none⟩), .int .i64 d] w (POk tyR Q5P (pTyp e k l) pb e l.length cx L) (PBad (pTyp e k l) pb e cx L)
theorem ptyp_z {pb e : Nat} : TyC pb e 0 := by
  intro cx w L d v l h0 hd hv hS
  unfold Fins
  all_goals refine Q4j ?_
  all_goals (unfold parse_parser_typ_lc; refine Q0 ?_; refine Q1 ?_; refine zb hS ?_; intro p2 w1 hS; refine zb hS ?_; intro p3 w1 hS; refine Q9 hS ?_; intro p4 w1 hS; refine zn ?_; refine Q0 ?_; refine Q0 ?_; refine Q1 ?_; refine zl hS ?_)
  all_goals (refine QD ?_)
  all_goals (refine zn ?_)
  all_goals refine zct ?_
  all_goals (refine Q1 ?_; refine zl hS ?_)
  all_goals (refine zE2 (c := Q7c hv (L := blk p4 91 [.int .i64 0, .int .i64 0, .slice none 0 0] :: blk p3 3 [.int .i64 d] :: blk p2 68 [.pointer (some ⟨pb, 0, none⟩)] :: L) hS.sp) (p := by rintro v9 w9 ⟨rfl, hS⟩; (repeat (first | refine Qo ?_ | refine Qp ?_ | refine fun _ => ?_)); refine QJ ?_; refine .inr ⟨_, rfl, ?_⟩; exact ⟨_, _, ty_0, rfl, hS.sp⟩) (h := fun _ _ h9 => by cases h9))
  all_goals (refine zn ?_; refine Q0 ?_; refine Qa ?_; refine Q0 ?_; refine Q1 ?_; refine zl hS ?_; fail "no contract of Q4k"; refine zm ?_; refine zn ?_)
  all_goals
    first
    | (refine zct ?_ -- Q10 c1
       all_goals (refine Q0 ?_; refine Q1 ?_; refine zl hS ?_; fail "no contract of Q1E"; refine zn ?_; refine Q0 ?_; refine Q1 ?_; refine zb1 [_, _, _] ?_; refine zsn hS ?_; intro w1 hS; have hS := hS.ns; refine zn ?_; refine zr ?_; refine Q16 vw (Q5 (n := 3) (by kernel_rfl) (by kernel_rfl) (hS.blkAt fd) (by rfl) (by rfl)) ?_)
       all_goals (trace_state; fail "no ret fits"))
  all_goals (refine Q0 ?_; refine Q1 ?_; refine zl hS ?_; refine zB1 hS [_] ?_; intro b1 w1 hS; fail "no contract of Q20"; refine zn ?_; refine Q0 ?_; refine Q1 ?_; refine zl hS ?_; fail "no contract of Q1S"; refine zb2 [_, _, _] ?_; refine Q9 hS ?_; intro p5 w1 hS; refine zsn hS ?_; intro w1 hS; have hS := hS.ns; refine zn ?_; refine Q0 ?_; refine Q1 ?_; refine zl hS ?_; refine s_mkfn ?_; fail "no contract of QI"; refine zf0 ?_; refine zst hS ?_; intro w1 hS; have hS := hS.ns; refine zn ?_; refine Q0 ?_; refine Q1 ?_; refine zv hS ?_; refine zsn hS ?_; intro w1 hS; have hS := hS.ns; refine zn ?_; refine zr ?_; refine Q16 vw (Q5 (n := 3) (by kernel_rfl) (by kernel_rfl) (hS.blkAt fd) (by rfl) (by rfl)) ?_; trace_state; fail "no ret fits")
theorem pone_ty {pb e p q k n0 : Nat} {d : Int} {M : List Res} (hrec : TyC pb e k) (h0 : 0 ≤ d) (hd : d + k = 4) (hM : ∀ {c : Cx} {w : World} {r0 : Res} {v : Value}, St c w (prs pb v e :: r0 :: M) → ∃ M', St c w (prs pb v e :: blk p 68 [.pointer (some ⟨pb, 0, none⟩)] :: blk q 3 [.int .i64 d] :: M') ∧ ∀ {c' : Cx} {w' : World} {v' : Value}, St c' w' (prs pb v' e :: blk p 68 [.pointer (some ⟨pb, 0, none⟩)] :: blk q 3 [.int .i64 d] :: M') → St c' w' (prs pb v' e :: r0 :: M)) :
    PrC tyR Q5P Tryz.prog Q3k [.pointer (some ⟨p, 0, none⟩), .pointer (some ⟨q, 0, none⟩)] (pTyp e k) pb e n0 cx M := by
  intro v1 l1 c1 w1 r0 hle hn hv hS
  obtain ⟨M', hS, hback⟩ := hM hS
  have hd4 : d ≤ 4 := by omega
  suffices h : Fins Tryz.prog Q3k [.pointer (some ⟨p, 0, none⟩), .pointer (some ⟨q, 0, none⟩)] w1 (POk tyR Q5P (pTyp e k l1) pb e l1.length c1 (blk p 68 [.pointer (some ⟨pb, 0, none⟩)] :: blk q 3 [.int .i64 d] :: M')) (PBad (pTyp e k l1) pb e c1 (blk p 68 [.pointer (some ⟨pb, 0, none⟩)] :: blk q 3 [.int .i64 d] :: M')) by
    refine Fins.mono h ?_ ?_
    · rintro u w' ⟨a, l', v', c', ds, g1, g2, g3, g4, g5, g6, hS⟩; exact ⟨a, l', v', c', ds, g1, g2, g3, g4, g5, g6, hback hS⟩
    · rintro u w' ⟨f, v', g1, g2, hS⟩; exact ⟨f, v', g1, g2, hback hS⟩
  unfold Fins
  all_goals refine Q7k ?_
  all_goals (unfold parse_parser_typ_1_lc; refine Q0 ?_; refine Q1 ?_; refine Q9 hS ?_; intro p2 w1 hS; refine zn ?_; refine Q0 ?_; refine Q1 ?_; refine zl hS ?_; refine zl hS ?_; refine zad ?_; refine zE2 (c := hrec c1 _ _ (d + 1) v1 l1 (by omega) (by omega) hv (St.mv1 hS)) (p := by rintro u9 w9 ⟨f, v', g1, rfl, hS⟩; (repeat (first | refine Qo ?_ | refine Qp ?_ | refine fun _ => ?_)); refine QJ ?_; refine .inr ⟨_, rfl, ?_⟩; exact ⟨f, v', g1, rfl, hS.sp⟩) (h := ?_); rintro u1 w2 ⟨a, l', v', c', ds, g1, g2, hle2, g4, rfl, g6, hS⟩; obtain ⟨vo, rfl, ho⟩ := Q1c g4; have hoo := Rep.SR.oneC ho; unfold Q5P; refine zsn hS ?_; intro w1 hS; have hS := hS.ns; refine zn ?_; refine zr ?_; refine Q16 vw (Q5 (n := 3) (by kernel_rfl) (by kernel_rfl) (hS.blkAt fd) (by rfl) (by rfl)) ?_; exact .inl ⟨_, rfl, a, l', v', c', _, g1, g2, hle2, g4, rfl, g6, hS.sp⟩)
theorem ptyp_s {pb e k : Nat} (hrec : TyC pb e k) : TyC pb e (k + 1) := by
  intro cx w L d v l h0 hd hv hS
  have hle := St.refl hS
  have hnil : tyR.sl cx (.slice none 0 0) [] := Rep.SR.nil _ _ _
  unfold Fins
  all_goals refine Q4j ?_
  all_goals (unfold parse_parser_typ_lc; refine Q0 ?_; refine Q1 ?_; refine zb hS ?_; intro p2 w1 hS; refine zb hS ?_; intro p3 w1 hS; refine Q9 hS ?_; intro p4 w1 hS; refine zn ?_; refine Q0 ?_; refine Q0 ?_; refine Q1 ?_; refine zl hS ?_)
  all_goals (first | (refine QD ?_) | (refine QR ?_))
  all_goals (refine zn ?_)
  all_goals refine zcf ?_
  all_goals (refine zsk ?_; refine Q0 ?_; refine Qa ?_; refine Q0 ?_; refine Q1 ?_; refine zl hS ?_)
  all_goals (have hS : St cx _ (prs pb v e :: blk p4 91 [.int .i64 0, .int .i64 0, .slice none 0 0] :: blk p3 3 [.int .i64 d] :: blk p2 68 [.pointer (some ⟨pb, 0, none⟩)] :: L) := hS.sp; refine zR2 (c := is_c (s := tInt) hv hS) (h := ?_); rintro u1 w1 ⟨rfl, hS⟩; cases hq1 : isT tInt l)
  all_goals (refine zm ?_; refine zn ?_)
  all_goals
    first
    | (refine zct ?_ -- Q10 c1
       all_goals (refine Q0 ?_; refine Q1 ?_; refine zl hS ?_; obtain ⟨t9, ht9⟩ := QcN hq1; refine zR1 (c := Qa2 ht9 hv hS) (h := ?_); rintro u1 w1 ⟨rfl, v9, hv9, hS⟩; refine zn ?_; refine Q0 ?_; refine Q1 ?_; refine zb1 [_, _, _] ?_; refine zsn hS ?_; intro w1 hS; have hS := hS.ns; refine zn ?_; refine zr ?_; refine Q16 vw (Q5 (n := 3) (by kernel_rfl) (by kernel_rfl) (hS.blkAt fd) (by rfl) (by rfl)) ?_)
       all_goals (exact .inl ⟨_, rfl, .mk 1 0 [], l.tail, v9, cx, _, ty_i hq1, Q8 l, hle, Q2q hnil, rfl, hv9, hS.sp⟩))
    | (refine zcf ?_ -- Q10 c1
       all_goals (refine Q0 ?_; refine Q1 ?_; refine zl hS ?_)
       all_goals (refine zR2 (c := is_c (s := Q1Z) hv hS) (h := ?_); rintro u1 w1 ⟨rfl, hS⟩; cases hq2 : isT Q1Z l)
       all_goals (refine zm ?_; refine zn ?_)
       all_goals
         first
         | (refine zct ?_ -- Q10 c2
            all_goals (refine Q0 ?_; refine Q1 ?_; refine zl hS ?_; obtain ⟨t9, ht9⟩ := QcN hq2; refine zR1 (c := Qa2 ht9 hv hS) (h := ?_); rintro u1 w1 ⟨rfl, v9, hv9, hS⟩; refine zn ?_; refine Q0 ?_; refine Q1 ?_; refine zl hS ?_; refine zE1 (c := Q2t hv9 hS) (p := by rintro u9 w9 ⟨f, v', g1, rfl, hS⟩; (repeat (first | refine Qo ?_ | refine Qp ?_ | refine fun _ => ?_)); refine QJ ?_; refine .inr ⟨_, rfl, ?_⟩; exact ⟨f, v', ty_he hq1 hq2 g1, rfl, hS.sp⟩) (h := ?_); rintro u1 w2 ⟨m, v8, g1, rfl, hv8, hS⟩; refine zb2 [_, _, _] ?_; refine zsn hS ?_; intro w1 hS; have hS := hS.ns; refine zn ?_; refine zr ?_; refine Q16 vw (Q5 (n := 3) (by kernel_rfl) (by kernel_rfl) (hS.blkAt fd) (by rfl) (by rfl)) ?_)
            all_goals ((first | exact .inl ⟨_, rfl, .mk 1 0 [], l.tail, v9, cx, _, ty_i hq1, Q8 l, hle, Q2q hnil, rfl, hv9, hS.sp⟩ | exact .inl ⟨_, rfl, .mk 2 m [], l.tail.tail, v8, cx, _, ty_h hq1 hq2 g1, (by have := Q8 l; have := Q8 l.tail; omega), hle, Q2q hnil, rfl, hv8, hS.sp⟩)))
         | (refine zcf ?_ -- Q10 c2
            all_goals (refine Q0 ?_; refine Q1 ?_; refine zl hS ?_)
            all_goals (refine zR2 (c := is_c (s := Q3O) hv hS) (h := ?_); rintro u1 w1 ⟨rfl, hS⟩; cases hq3 : isT Q3O l)
            all_goals (refine zm ?_; refine zn ?_)
            all_goals
              first
              | (refine zct ?_ -- Q10 c3
                 all_goals (refine Q0 ?_; refine Q1 ?_; refine zl hS ?_; obtain ⟨t9, ht9⟩ := QcN hq3; refine zR1 (c := Qa2 ht9 hv hS) (h := ?_); rintro u1 w1 ⟨rfl, v9, hv9, hS⟩; refine zn ?_; refine Q0 ?_; refine Q1 ?_; refine zl hS ?_; refine zE1 (c := Q2t hv9 hS) (p := by rintro u9 w9 ⟨f, v', g1, rfl, hS⟩; (repeat (first | refine Qo ?_ | refine Qp ?_ | refine fun _ => ?_)); refine QJ ?_; refine .inr ⟨_, rfl, ?_⟩; exact ⟨f, v', ty_ae hq1 hq2 hq3 g1, rfl, hS.sp⟩) (h := ?_); rintro u1 w2 ⟨m, v8, g1, rfl, hv8, hS⟩; refine zb2 [_, _, _] ?_; refine zsn hS ?_; intro w1 hS; have hS := hS.ns; refine zn ?_; refine zr ?_; refine Q16 vw (Q5 (n := 3) (by kernel_rfl) (by kernel_rfl) (hS.blkAt fd) (by rfl) (by rfl)) ?_)
                 all_goals ((first | exact .inl ⟨_, rfl, .mk 1 0 [], l.tail, v9, cx, _, ty_i hq1, Q8 l, hle, Q2q hnil, rfl, hv9, hS.sp⟩ | exact .inl ⟨_, rfl, .mk 2 m [], l.tail.tail, v8, cx, _, ty_h hq1 hq2 g1, (by have := Q8 l; have := Q8 l.tail; omega), hle, Q2q hnil, rfl, hv8, hS.sp⟩ | exact .inl ⟨_, rfl, .mk 4 m [], l.tail.tail, v8, cx, _, ty_a hq1 hq2 hq3 g1, (by have := Q8 l; have := Q8 l.tail; omega), hle, Q2q hnil, rfl, hv8, hS.sp⟩)))
              | (refine zcf ?_ -- Q10 c3
                 all_goals refine zsk ?_)))
  all_goals (refine Q0 ?_; have hX := ty_tup (e := e) (k := k) hq1 hq2 hq3; refine Q1 ?_; refine zl hS ?_; refine zB1 hS [_] ?_; intro b1 w1 hS; have hS := Q25 (s := Q2F) hS; refine zE2 (c := Q24 hv hS) (p := by rintro u9 w9 ⟨f9, v8, hw1, rfl, hS⟩; (repeat (first | refine Qo ?_ | refine Qp ?_ | refine fun _ => ?_)); refine QJ ?_; refine .inr ⟨_, rfl, ?_⟩; exact ⟨_, _, tup_w hX hw1, rfl, hS.sp⟩) (h := ?_); rintro u1 w2 ⟨rfl, hw1, v9, hv9, hS⟩; refine zn ?_; refine Q0 ?_; refine Q1 ?_; refine zl hS ?_; refine zE1 (c := Q2t hv9 hS) (p := by rintro u9 w9 ⟨f, v', g1, rfl, hS⟩; (repeat (first | refine Qo ?_ | refine Qp ?_ | refine fun _ => ?_)); refine QJ ?_; refine .inr ⟨_, rfl, ?_⟩; exact ⟨f, v', tup_n hX hw1 g1, rfl, hS.sp⟩) (h := ?_); rintro u1 w2 ⟨m, v8, g1, rfl, hv8, hS⟩; refine zb2 [_, _, _] ?_; refine Q9 hS ?_; intro p5 w1 hS; refine zsn hS ?_; intro w1 hS; have hS := hS.ns; refine zn ?_; refine Q0 ?_; refine Q1 ?_; refine zl hS ?_; refine QtD (u := [.pointer (some ⟨p2, 0, none⟩), .pointer (some ⟨p3, 0, none⟩)]) rfl ?_)
  all_goals (have hS : St cx _ (prs pb v8 e :: blk p5 91 [.int .i64 3, .int .i64 m, .slice none 0 0] :: blk p4 91 [.int .i64 0, .int .i64 0, .slice none 0 0] :: blk p3 3 [.int .i64 d] :: blk p2 68 [.pointer (some ⟨pb, 0, none⟩)] :: L) := hS.sp; refine zE4 (c := Ql5 (cx := cx) ⟨[], [_, _], rfl, rfl⟩ (by kernel_rfl) (pone_ty hrec h0 (by omega) (fun hS => ⟨_, hS.sp, fun hS => hS.sp⟩)) hv8 hS) (p := by rintro u9 w9 ⟨f, v', g2, rfl, hS⟩; (repeat (first | refine Qo ?_ | refine Qp ?_ | refine fun _ => ?_)); refine QJ ?_; refine .inr ⟨_, rfl, ?_⟩; exact ⟨f, v', tup_l hX hw1 g1 g2, rfl, hS.sp⟩) (h := ?_); rintro u3 w3 ⟨xs, l3, v7, c3, g2, g3, hle3, hl3, hv7, hS⟩; have ho3 := Rep.SR.oneC hl3)
  all_goals (refine zf0 ?_; refine zst hS ?_; intro w1 hS; have hS := hS.ns; refine zn ?_; refine Q0 ?_; refine Q1 ?_; refine zv hS ?_; refine zsn hS ?_; intro w1 hS; have hS := hS.ns; refine zn ?_; refine zr ?_; refine Q16 vw (Q5 (n := 3) (by kernel_rfl) (by kernel_rfl) (hS.blkAt fd) (by rfl) (by rfl)) ?_; (first | exact .inl ⟨_, rfl, .mk 1 0 [], l.tail, v9, cx, _, ty_i hq1, Q8 l, hle, Q2q hnil, rfl, hv9, hS.sp⟩ | exact .inl ⟨_, rfl, .mk 2 m [], l.tail.tail, v8, cx, _, ty_h hq1 hq2 g1, (by have := Q8 l; have := Q8 l.tail; omega), hle, Q2q hnil, rfl, hv8, hS.sp⟩ | exact .inl ⟨_, rfl, .mk 4 m [], l.tail.tail, v8, cx, _, ty_a hq1 hq2 hq3 g1, (by have := Q8 l; have := Q8 l.tail; omega), hle, Q2q hnil, rfl, hv8, hS.sp⟩ | exact .inl ⟨_, rfl, .mk 3 m xs, l3, v7, c3, _, tup_o hX hw1 g1 g2, (by have := Q8 l; have := Q8 l.tail; omega), hle3, Q2q hl3, rfl, hv7, hS.sp⟩))
theorem ptyp_c {pb e : Nat} : ∀ k, TyC pb e k
  | 0 => ptyp_z
  | k + 1 => ptyp_s (ptyp_c k)
theorem pone_ty1 {pb e p n0 : Nat} : PrC tyR Q5P Tryz.prog Q2R [.pointer (some ⟨p, 0, none⟩)] (pTyp e 5) pb e n0 cx (blk p 68 [.pointer (some ⟨pb, 0, none⟩)] :: L) := by
  intro v1 l1 c1 w1 r0 hle hn hv hS
  suffices h : Fins Tryz.prog Q2R [.pointer (some ⟨p, 0, none⟩)] w1 (POk tyR Q5P (pTyp e 5 l1) pb e l1.length c1 (r0 :: blk p 68 [.pointer (some ⟨pb, 0, none⟩)] :: L)) (PBad (pTyp e 5 l1) pb e c1 (r0 :: blk p 68 [.pointer (some ⟨pb, 0, none⟩)] :: L)) from h
  unfold Fins
  all_goals refine Q5J ?_
  all_goals (unfold parse_parser_types_1_lc; refine Q0 ?_; refine Q1 ?_; refine Q9 hS ?_; intro p1 w1 hS; refine zn ?_; refine Q0 ?_; refine Q1 ?_; refine zl hS ?_; refine zE2 (c := ptyp_c 5 c1 _ _ 0 v1 l1 (by omega) (by omega) hv (St.mv1 hS)) (p := by rintro u9 w9 ⟨f, v', g1, rfl, hS⟩; (repeat (first | refine Qo ?_ | refine Qp ?_ | refine fun _ => ?_)); refine QJ ?_; refine .inr ⟨_, rfl, ?_⟩; exact ⟨f, v', g1, rfl, hS.sp⟩) (h := ?_); rintro u1 w2 ⟨a, l', v', c', ds, g1, g2, hle2, g4, rfl, g6, hS⟩; obtain ⟨vo, rfl, ho⟩ := Q1c g4; have hoo := Rep.SR.oneC ho; unfold Q5P; refine zsn hS ?_; intro w1 hS; have hS := hS.ns; refine zn ?_; refine zr ?_; refine Q16 vw (Q5 (n := 3) (by kernel_rfl) (by kernel_rfl) (hS.blkAt fd) (by rfl) (by rfl)) ?_; exact .inl ⟨_, rfl, a, l', v', c', _, g1, g2, hle2, g4, rfl, g6, hS.sp⟩)
theorem Qm0 {pb e : Nat} {v : Value} {l : List Tok} (hv : tokR.sl cx v l) (hS : St cx w (prs pb v e :: L)) :
    Fins Tryz.prog Q4u [.pointer (some ⟨pb, 0, none⟩)] w (POkS tyR (Q2v e l) pb e l.length cx L) (PBad (Q2v e l) pb e cx L) := by
  unfold Fins Q2v
  all_goals refine Q7h ?_
  all_goals (unfold parse_parser_types_lc; refine Q0 ?_; refine Q1 ?_; refine zb hS ?_; intro p1 w1 hS; refine zm ?_; refine zn ?_; refine Q0 ?_; refine Q1 ?_; refine zl hS ?_; refine QtD (u := [.pointer (some ⟨p1, 0, none⟩)]) rfl ?_; have hS : St cx _ (prs pb v e :: blk p1 68 [.pointer (some ⟨pb, 0, none⟩)] :: L) := hS.sp; refine zE4 (c := Ql5 (cx := cx) ⟨[], [_], rfl, rfl⟩ (by kernel_rfl) pone_ty1 hv hS) (p := by rintro u9 w9 ⟨f, v', g2, rfl, hS⟩; (repeat (first | refine Qo ?_ | refine Qp ?_ | refine fun _ => ?_)); refine QJ ?_; refine .inr ⟨_, rfl, ?_⟩; exact ⟨f, v', g2, rfl, hS.sp⟩) (h := ?_); rintro u3 w3 ⟨xs, l3, v7, c3, g2, g3, hle3, hl3, hv7, hS⟩; refine zm ?_; refine zn ?_; refine zr ?_; refine zf ?_; exact .inl ⟨_, rfl, xs, l3, v7, c3, g2, g3, hle3, hl3, hv7, hS.sp⟩)
end Go.Proofs.YtjecflbbcnocdaaGreatDoor
namespace Go.Proofs.YtjecflbbcnocdaaGreatDoor
open Go.Lir
set_option maxHeartbeats 1000000
attribute [local irreducible] LC.wp Q2 QA QB retQ Q1e LO.wp Qj Calls
set_option linter.unusedSimpArgs false
set_option linter.unusedVariables false
variable {cx : Cx} {w : World} {L : List Res}
abbrev strV (t : List UInt8) : Value := .string ⟨t.toArray⟩
theorem Qrz {ws : List (List UInt8)} {k : Int} (h1 : 1 ≤ k) (h2 : k ≤ ws.length) : (([] :: ws).map strV)[k.toNat]? = some (strV (wordN ws k)) := by
  obtain ⟨n, rfl⟩ : ∃ n : Nat, k = (n : Int) + 1 := ⟨(k - 1).toNat, by omega⟩
  rw [List.map_cons, show ((n : Int) + 1).toNat = n + 1 by omega, List.getElem?_cons_succ, List.getElem?_map]
  unfold wordN
  rw [if_neg (by omega), List.getD_eq_getElem?_getD, show ((n : Int) + 1).toNat - 1 = n by omega, List.getElem?_eq_getElem (by omega)]; rfl
theorem QnR {ws : List (List UInt8)} {k : Int} (h1 : 1 ≤ k) (h2 : k ≤ ws.length) : (ws.map strV)[(k - 1).toNat]? = some (strV (wordN ws k)) := by
  obtain ⟨n, rfl⟩ : ∃ n : Nat, k = (n : Int) + 1 := ⟨(k - 1).toNat, by omega⟩
  rw [show ((n : Int) + 1 - 1).toNat = n by omega, List.getElem?_map]
  unfold wordN
  rw [if_neg (by omega), List.getD_eq_getElem?_getD, show ((n : Int) + 1).toNat - 1 = n by omega, List.getElem?_eq_getElem (by omega)]; rfl
theorem Qge {ws : List (List UInt8)} {k : Int} (h : k < 1 ∨ ws.length < k) : wordN ws k = [] := by
  unfold wordN
  split
  · rfl
  · rw [List.getD_eq_getElem?_getD, List.getElem?_eq_none (by omega)]; rfl
theorem QrQ {k : Int} (hS : St cx w L) : Rets Tryz.prog QrT [.int .i64 k] w fun u w' => u = strV (wordN opWords k) ∧ St cx w' L := by
  have hlen : opWords.length = 14 := rfl
  by_cases hb : k < 0 ∨ 14 < k
  · rw [Qge (by omega)]
    all_goals refine Qat ?_
    all_goals (unfold parse_Op_lc; refine Q0 ?_; refine Q1 ?_; refine zm ?_; refine zn ?_; refine Q0 ?_; refine Q0 ?_; refine Q1 ?_; refine zm ?_)
    all_goals (first | (refine Q1b ?_) | (refine Q1z ?_) | (refine QH rfl rfl (fun hc => ?_) (fun hc => ?_)))
    all_goals (refine zm ?_; (first | refine zgn ?_ | (refine zgy ?_; refine zm ?_)))
    all_goals (first | refine zgn ?_ | (refine zgy ?_; refine QD ?_))
    all_goals ((first | (refine zpt ?_) | (refine zpf ?_)); refine zn ?_)
    all_goals refine zct ?_
    all_goals (refine Q0 ?_; refine Q1 ?_; refine zm ?_; refine zn ?_; refine zr ?_; refine zf ?_; refine ⟨_, rfl, ?_, hS.sp⟩; (rfl); done)
  · by_cases h0 : k = 0
    · subst h0
      all_goals refine Qat ?_
      all_goals (unfold parse_Op_lc; refine Q0 ?_; refine Q1 ?_; refine zm ?_; refine zn ?_; refine Q0 ?_; refine Q0 ?_; refine Q1 ?_; refine zm ?_)
      all_goals (first | (refine Q1b ?_) | (refine Q1z ?_))
      all_goals (refine zm ?_; (first | refine zgn ?_ | (refine zgy ?_; refine zm ?_)))
      all_goals (first | refine zgn ?_ | (refine zgy ?_; (first | (refine QD ?_) | (refine QR ?_))))
      all_goals ((first | (refine zpt ?_) | (refine zpf ?_)); refine zn ?_)
      all_goals refine zcf ?_
      all_goals (refine zsk ?_; refine Q0 ?_; refine Q1 ?_; refine QgU (cs := [_, _, _, _, _, _, _, _, _, _, _, _, _, _, _]) vw vw vw vw vw vw vw vw vw vw vw vw vw vw vw (by rfl) ?_; refine zm ?_; refine Qo4 (n := 15) (e := 9) (by kernel_rfl) (by kernel_rfl) (by kernel_rfl) vw vw (by omega) (by omega) (show ((([] :: opWords).map strV)[(0 : Int).toNat]? = some (strV [])) from rfl) ?_; refine zm ?_; refine zn ?_; refine zr ?_; refine zf ?_; refine ⟨_, rfl, ?_, hS.sp⟩; (rfl); done)
    · have hu := Qrz (ws := opWords) (k := k) (by omega) (by omega)
      generalize wordN opWords k = s at hu ⊢
      all_goals refine Qat ?_
      all_goals (unfold parse_Op_lc; refine Q0 ?_; refine Q1 ?_; refine zm ?_; refine zn ?_; refine Q0 ?_; refine Q0 ?_; refine Q1 ?_; refine zm ?_)
      all_goals (first | (refine Q1b ?_) | (refine Q1z ?_))
      all_goals (refine zm ?_; (first | refine zgn ?_ | (refine zgy ?_; refine zm ?_)))
      all_goals (first | refine zgn ?_ | (refine zgy ?_; (first | (refine QD ?_) | (refine QR ?_))))
      all_goals ((first | (refine zpt ?_) | (refine zpf ?_)); refine zn ?_)
      all_goals refine zcf ?_
      all_goals (refine zsk ?_; refine Q0 ?_; refine Q1 ?_; refine QgU (cs := [_, _, _, _, _, _, _, _, _, _, _, _, _, _, _]) vw vw vw vw vw vw vw vw vw vw vw vw vw vw vw (by rfl) ?_; refine zm ?_; refine Qo4 (n := 15) (e := 9) (by kernel_rfl) (by kernel_rfl) (by kernel_rfl) vw vw (by omega) (by omega) hu ?_; refine zm ?_; refine zn ?_; refine zr ?_; refine zf ?_; refine ⟨_, rfl, ?_, hS.sp⟩; (rfl); done)
theorem Qgh {k : Int} (hS : St cx w L) : Rets Tryz.prog Ql6 [.int .i64 k] w fun u w' => u = strV (wordN kindWords k) ∧ St cx w' L := by
  have hlen : kindWords.length = 9 := rfl
  by_cases hb : k < 0 ∨ 9 < k
  · rw [Qge (by omega)]
    all_goals refine Q5N ?_
    all_goals (unfold parse_Kind_lc; refine Q0 ?_; refine Q1 ?_; refine zm ?_; refine zn ?_; refine Q0 ?_; refine Q0 ?_; refine Q1 ?_; refine zm ?_)
    all_goals (first | (refine Q1b ?_) | (refine Q1z ?_) | (refine QH rfl rfl (fun hc => ?_) (fun hc => ?_)))
    all_goals (refine zm ?_; (first | refine zgn ?_ | (refine zgy ?_; refine zm ?_)))
    all_goals (first | refine zgn ?_ | (refine zgy ?_; refine QD ?_))
    all_goals ((first | (refine zpt ?_) | (refine zpf ?_)); refine zn ?_)
    all_goals refine zct ?_
    all_goals (refine Q0 ?_; refine Q1 ?_; refine zm ?_; refine zn ?_; refine zr ?_; refine zf ?_; refine ⟨_, rfl, ?_, hS.sp⟩; (rfl); done)
  · by_cases h0 : k = 0
    · subst h0
      all_goals refine Q5N ?_
      all_goals (unfold parse_Kind_lc; refine Q0 ?_; refine Q1 ?_; refine zm ?_; refine zn ?_; refine Q0 ?_; refine Q0 ?_; refine Q1 ?_; refine zm ?_)
      all_goals (first | (refine Q1b ?_) | (refine Q1z ?_))
      all_goals (refine zm ?_; (first | refine zgn ?_ | (refine zgy ?_; refine zm ?_)))
      all_goals (first | refine zgn ?_ | (refine zgy ?_; (first | (refine QD ?_) | (refine QR ?_))))
      all_goals ((first | (refine zpt ?_) | (refine zpf ?_)); refine zn ?_)
      all_goals refine zcf ?_
      all_goals (refine zsk ?_; refine Q0 ?_; refine Q1 ?_; refine zb10 [_, _, _, _, _, _, _, _, _, _] ?_; refine zm ?_; refine Qo4 (n := 10) (e := 9) (by kernel_rfl) (by kernel_rfl) (by kernel_rfl) vw vw (by omega) (by omega) (show ((([] :: kindWords).map strV)[(0 : Int).toNat]? = some (strV [])) from rfl) ?_; refine zm ?_; refine zn ?_; refine zr ?_; refine zf ?_; refine ⟨_, rfl, ?_, hS.sp⟩; (rfl); done)
    · have hu := Qrz (ws := kindWords) (k := k) (by omega) (by omega)
      generalize wordN kindWords k = s at hu ⊢
      all_goals refine Q5N ?_
      all_goals (unfold parse_Kind_lc; refine Q0 ?_; refine Q1 ?_; refine zm ?_; refine zn ?_; refine Q0 ?_; refine Q0 ?_; refine Q1 ?_; refine zm ?_)
      all_goals (first | (refine Q1b ?_) | (refine Q1z ?_))
      all_goals (refine zm ?_; (first | refine zgn ?_ | (refine zgy ?_; refine zm ?_)))
      all_goals (first | refine zgn ?_ | (refine zgy ?_; (first | (refine QD ?_) | (refine QR ?_))))
      all_goals ((first | (refine zpt ?_) | (refine zpf ?_)); refine zn ?_)
      all_goals refine zcf ?_
      all_goals (refine zsk ?_; refine Q0 ?_; refine Q1 ?_; refine zb10 [_, _, _, _, _, _, _, _, _, _] ?_; refine zm ?_; refine Qo4 (n := 10) (e := 9) (by kernel_rfl) (by kernel_rfl) (by kernel_rfl) vw vw (by omega) (by omega) hu ?_; refine zm ?_; refine zn ?_; refine zr ?_; refine zf ?_; refine ⟨_, rfl, ?_, hS.sp⟩; (rfl); done)
theorem QrL {k : Int} (hS : St cx w L) : Rets Tryz.prog Qse [.int .i64 k] w fun u w' => u = strV (wordN opWords k) ∧ St cx w' L := by
  have hlen : opWords.length = 14 := rfl
  by_cases hb : k < 1 ∨ 14 < k
  · rw [Qge (by omega)]
    all_goals refine Qik ?_
    all_goals (unfold R_OpWord_lc; refine Q0 ?_; refine Q1 ?_; refine zm ?_; refine zn ?_; refine Q0 ?_; refine Q0 ?_; refine Q1 ?_; refine zm ?_)
    all_goals (first | (refine Q1b ?_) | (refine Q1z ?_) | (refine QH rfl rfl (fun hc => ?_) (fun hc => ?_)))
    all_goals (refine zm ?_; (first | refine zgn ?_ | (refine zgy ?_; refine zm ?_)))
    all_goals (first | refine zgn ?_ | (refine zgy ?_; refine QD ?_))
    all_goals ((first | (refine zpt ?_) | (refine zpf ?_)); refine zn ?_)
    all_goals refine zct ?_
    all_goals (refine Q0 ?_; refine Q1 ?_; refine zm ?_; refine zn ?_; refine zr ?_; refine zf ?_; refine ⟨_, rfl, ?_, hS.sp⟩; (rfl); done)
  · have hu := QnR (ws := opWords) (k := k) (by omega) (by omega)
    generalize wordN opWords k = s at hu ⊢
    all_goals refine Qik ?_
    all_goals (unfold R_OpWord_lc; refine Q0 ?_; refine Q1 ?_; refine zm ?_; refine zn ?_; refine Q0 ?_; refine Q0 ?_; refine Q1 ?_; refine zm ?_)
    all_goals (first | (refine Q1b ?_) | (refine Q1z ?_))
    all_goals (refine zm ?_; (first | refine zgn ?_ | (refine zgy ?_; refine zm ?_)))
    all_goals (first | refine zgn ?_ | (refine zgy ?_; (first | (refine QD ?_) | (refine QR ?_))))
    all_goals ((first | (refine zpt ?_) | (refine zpf ?_)); refine zn ?_)
    all_goals refine zcf ?_
    all_goals (refine zsk ?_; refine Q0 ?_; refine Q1 ?_; refine Qso (cs := opWords.map strV) vw vw vw vw vw vw vw vw vw vw vw vw vw vw (by rfl) ?_; intro b1 w1 hb1 hf1 _ hk1; have hS := hS.laid hb1 hf1 hk1; have hS := St.slOf (es := 1) (n := 14) (css := (opWords.map strV).map fun v => [v]) hS rfl (by intro c hc; obtain ⟨_, _, rfl⟩ := List.mem_map.1 hc; rfl) rfl; refine zm ?_; refine zsu ?_; refine QtF hS vw rfl (i := 0) rfl (by omega) (by show k - 1 < _; rw [List.length_map, List.length_map, hlen]; omega) ?_; intro b2 o2 hel2; refine QpB hS hel2 rfl (i := 0) rfl rfl (by rw [List.getElem?_map, hu]; rfl) rfl ?_; refine zm ?_; refine zn ?_; refine zr ?_; refine zf ?_; refine ⟨_, rfl, ?_, hS.sp⟩; (rfl); done)
theorem QlW {k : Int} (hS : St cx w L) : Rets Tryz.prog Qll [.int .i64 k] w fun u w' => u = strV (wordN kindWords k) ∧ St cx w' L := by
  have hlen : kindWords.length = 9 := rfl
  by_cases hb : k < 1 ∨ 9 < k
  · rw [Qge (by omega)]
    all_goals refine Qcf ?_
    all_goals (unfold R_KindWord_lc; refine Q0 ?_; refine Q1 ?_; refine zm ?_; refine zn ?_; refine Q0 ?_; refine Q0 ?_; refine Q1 ?_; refine zm ?_)
    all_goals (first | (refine Q1b ?_) | (refine Q1z ?_) | (refine QH rfl rfl (fun hc => ?_) (fun hc => ?_)))
    all_goals (refine zm ?_; (first | refine zgn ?_ | (refine zgy ?_; refine zm ?_)))
    all_goals (first | refine zgn ?_ | (refine zgy ?_; refine QD ?_))
    all_goals ((first | (refine zpt ?_) | (refine zpf ?_)); refine zn ?_)
    all_goals refine zct ?_
    all_goals (refine Q0 ?_; refine Q1 ?_; refine zm ?_; refine zn ?_; refine zr ?_; refine zf ?_; refine ⟨_, rfl, ?_, hS.sp⟩; (rfl); done)
  · have hu := QnR (ws := kindWords) (k := k) (by omega) (by omega)
    generalize wordN kindWords k = s at hu ⊢
    all_goals refine Qcf ?_
    all_goals (unfold R_KindWord_lc; refine Q0 ?_; refine Q1 ?_; refine zm ?_; refine zn ?_; refine Q0 ?_; refine Q0 ?_; refine Q1 ?_; refine zm ?_)
    all_goals (first | (refine Q1b ?_) | (refine Q1z ?_))
    all_goals (refine zm ?_; (first | refine zgn ?_ | (refine zgy ?_; refine zm ?_)))
    all_goals (first | refine zgn ?_ | (refine zgy ?_; (first | (refine QD ?_) | (refine QR ?_))))
    all_goals ((first | (refine zpt ?_) | (refine zpf ?_)); refine zn ?_)
    all_goals refine zcf ?_
    all_goals (refine zsk ?_; refine Q0 ?_; refine Q1 ?_; refine QtL (cs := kindWords.map strV) vw vw vw vw vw vw vw vw vw (by rfl) ?_; intro b1 w1 hb1 hf1 _ hk1; have hS := hS.laid hb1 hf1 hk1; have hS := St.slOf (es := 1) (n := 9) (css := (kindWords.map strV).map fun v => [v]) hS rfl (by intro c hc; obtain ⟨_, _, rfl⟩ := List.mem_map.1 hc; rfl) rfl; refine zm ?_; refine zsu ?_; refine QtF hS vw rfl (i := 0) rfl (by omega) (by show k - 1 < _; rw [List.length_map, List.length_map, hlen]; omega) ?_; intro b2 o2 hel2; refine QpB hS hel2 rfl (i := 0) rfl rfl (by rw [List.getElem?_map, hu]; rfl) rfl ?_; refine zm ?_; refine zn ?_; refine zr ?_; refine zf ?_; refine ⟨_, rfl, ?_, hS.sp⟩; (rfl); done)
end Go.Proofs.YtjecflbbcnocdaaGreatDoor
namespace Go.Lir
theorem Quu {s : List UInt8} : ∀ {ws : List (List UInt8)} {i : Nat}, ws[i]? = some s → (∀ j, j < i → ws[j]? ≠ some s) → ws.idxOf s = i
  | x :: ws, 0, h, _ => by
    simp only [List.getElem?_cons_zero, Option.some.injEq] at h
    subst h; simp
  | x :: ws, i + 1, h, hn => by
    have hx : ¬ x = s := fun e => hn 0 (by omega) (by rw [e]; rfl)
    rw [List.idxOf_cons, show (x == s) = false by simp [hx]]
    have := Quu (ws := ws) (i := i) (by simpa using h) fun j hj => by have := hn (j + 1) (by omega); simpa using this
    simp [this]
theorem idx_no {s : List UInt8} : ∀ {ws : List (List UInt8)}, (∀ j : Nat, j < ws.length → ws[j]? ≠ some s) → ws.idxOf s = ws.length
  | [], _ => rfl
  | x :: ws, h => by
    have hx : ¬ x = s := fun e => h 0 (by simp) (by rw [e]; rfl)
    rw [List.idxOf_cons, show (x == s) = false by simp [hx]]
    have := idx_no (ws := ws) fun j hj => by have := h (j + 1) (by simp; omega); simpa using this
    simp [this]
theorem find_y {s : List UInt8} {ws : List (List UInt8)} {i : Nat} (h : ws[i]? = some s) (hn : ∀ j, j < i → ws[j]? ≠ some s) : Qhd ws s = i + 1 := by
  have hl := (List.getElem?_eq_some_iff.1 h).1
  unfold Qhd; rw [Quu h hn, if_pos hl]
theorem find_n {s : List UInt8} {ws : List (List UInt8)} (h : ∀ j : Nat, j < ws.length → ws[j]? ≠ some s) : Qhd ws s = 0 := by
  unfold Qhd; rw [idx_no h, if_neg (by omega)]
theorem QnQ {ws : List (List UInt8)} {i : Nat} (h : i < ws.length) : ws[i]? = some (wordN ws ((i : Int) + 1)) := by
  unfold wordN
  rw [if_neg (by omega), List.getD_eq_getElem?_getD, show ((i : Int) + 1).toNat - 1 = i by omega, List.getElem?_eq_getElem h]; rfl
theorem Qmn {ws : List (List UInt8)} {l : List Tok} : Q3H ws l ≤ ws.length := by
  unfold Q3H
  split
  · omega
  · split
    · unfold Qhd; split <;> omega
    · omega
section
variable {α β : Type} {X : PGot β} {A : PGot α} {f : α → List Tok → PGot β} {a : α} {l l1 : List Tok} {g : Flt} {e : Nat} {op : Int}
theorem Q1M (h : X = Q6 A f) (hA : A = .error g) : X = .error g := by rw [h, hA]; rfl
theorem Q1O (h : X = Q6 A f) (hA : A = .ok (a, l1)) : X = f a l1 := by rw [h, hA]; rfl
theorem pb_1 (h : op = 1) : Q2C e op l = Q6 (Q38 e l) fun n l => .ok (⟨op, 0, 0, 0, 0, n, [], []⟩, l) := by subst h; rfl
theorem pb_2 (h : op = 2) : Q2C e op l = Q6 (Q7J e l) fun k l => Q6 (pNum e l) fun a l => Q6 (pNum e l) fun b l => .ok (⟨op, a, b, 0, k, 0, [], []⟩, l) := by subst h; rfl
theorem pb_4 (h : op = 4 ∨ op = 11 ∨ op = 13) : Q2C e op l = Q6 (pNum e l) fun a l => .ok (⟨op, a, 0, 0, 0, 0, [], []⟩, l) := by rcases h with h | h | h <;> subst h <;> rfl
theorem pb_5 (h : op = 5) : Q2C e op l = Q6 (pNum e l) fun a l => Q6 (Q4T e l) fun args l => .ok (⟨op, a, 0, 0, 0, 0, [], args⟩, l) := by subst h; rfl
theorem pb_6 (h : op = 6) : Q2C e op l = Q6 (pNum e l) fun a l => Q6 (pNum e l) fun k l => .ok (⟨op, a, 0, 0, k, 0, [], []⟩, l) := by subst h; rfl
theorem pb_7 (h : op = 7) : Q2C e op l = Q6 (pNum e l) fun a l => Q6 (pNum e l) fun k l => Q6 (pNum e l) fun b l => .ok (⟨op, a, b, 0, k, 0, [], []⟩, l) := by subst h; rfl
theorem pb_8 (h : op = 8 ∨ op = 9) : Q2C e op l = Q6 (pNum e l) fun a l => Q6 (pNum e l) fun b l => .ok (⟨op, a, b, 0, 0, 0, [], []⟩, l) := by rcases h with h | h <;> subst h <;> rfl
theorem pb_10 (h : op = 10) : Q2C e op l = Q6 (pNum e l) fun a l => Q6 (pNum e l) fun b l => Q6 (pNum e l) fun c l => .ok (⟨op, a, b, c, 0, 0, [], []⟩, l) := by subst h; rfl
theorem pb_14 (h : op = 14) : Q2C e op l = Q6 (pNum e l) fun k l => Q6 (Qh6 e l) fun regs l => Q6 (Q4T e l) fun args l => .ok (⟨op, 0, 0, 0, k, 0, regs, args⟩, l) := by subst h; rfl
theorem pb_0 (h : op ≠ 1 ∧ op ≠ 2 ∧ op ≠ 4 ∧ op ≠ 11 ∧ op ≠ 13 ∧ op ≠ 5 ∧ op ≠ 6 ∧ op ≠ 7 ∧ op ≠ 8 ∧ op ≠ 9 ∧ op ≠ 10 ∧ op ≠ 14) : Q2C e op l = .ok (⟨op, 0, 0, 0, 0, 0, [], []⟩, l) := by
  unfold Q2C; rw [if_neg (by omega), if_neg (by omega), if_neg (by omega), if_neg (by omega), if_neg (by omega), if_neg (by omega), if_neg (by omega), if_neg (by omega), if_neg (by omega)]
theorem kind_e {n : Nat} (h : Q3H kindWords l = n) (h0 : (n : Int) = 0) : Q7J e l = .error (Q1X e 4 l) := by unfold Q7J; rw [h, if_pos (by omega)]
theorem kind_o {n : Nat} (h : Q3H kindWords l = n) (h0 : ¬ (n : Int) = 0) : Q7J e l = .ok ((n : Int), l.tail) := by unfold Q7J; rw [h, if_neg (by omega)]
theorem head_get {ws : List (List UInt8)} {n : Nat} (h : Q3H ws l = n) (h0 : ¬ (n : Int) = 0) : ∃ t, l[0]? = some t := by
  cases l with
  | nil => exact absurd h.symm (fun h => h0 (by rw [h]; rfl))
  | cons t r => exact ⟨t, rfl⟩
theorem Qbi (h : Q3H opWords l = 0) : pIns e l = .ok (none, l) := by unfold pIns; rw [if_pos h]
theorem Q3f {n : Nat} (h : Q3H opWords l = n) (h0 : ¬ (n : Int) = 0) (hb : Q2C e n l.tail = .error g) : pIns e l = .error g := by unfold pIns; rw [h, if_neg (by omega), hb]; rfl
theorem ins_we {n : Nat} {x : Ins} (h : Q3H opWords l = n) (h0 : ¬ (n : Int) = 0) (hb : Q2C e n l.tail = .ok (x, l1)) (hw : want e [59] l1 = .error g) : pIns e l = .error g := by unfold pIns; rw [h, if_neg (by omega), hb]; simp only [Q6, hw]
theorem ins_o {n : Nat} {x : Ins} (h : Q3H opWords l = n) (h0 : ¬ (n : Int) = 0) (hb : Q2C e n l.tail = .ok (x, l1)) (hw : want e [59] l1 = .ok ((), l1.tail)) : pIns e l = .ok (some x, l1.tail) := by unfold pIns; rw [h, if_neg (by omega), hb]; simp only [Q6, hw]
end
end Go.Lir
namespace Go.Proofs.YtjecflbbcnocdaaGreatDoor
open Go.Lir
set_option maxHeartbeats 1000000
attribute [local irreducible] LC.wp Q2 QA QB retQ Q1e LO.wp Qj Calls
set_option linter.unusedSimpArgs false
set_option linter.unusedVariables false
attribute [local irreducible] pMany Q15 Q2Y pNum want isT pTyp Q2C Q7J Q38 wordN
variable {cx : Cx} {w : World} {L : List Res}
theorem find_c {ws : List (List UInt8)} {g : FuncId} {s : List UInt8} {m : Int} (hm : m = ws.length) (hws : ws.length ≤ 100) (hg : Q3B Tryz.prog g = true) (hof : ∀ {cx : Cx} {w : World} {L : List Res} (k : Int), St cx w L → Rets Tryz.prog g [.int .i64 k] w fun u w' => u = strV (wordN ws k) ∧ St cx w' L) (hS : St cx w L) :
    Rets Tryz.prog Q85 [.string ⟨s.toArray⟩, .int .i64 m, .func (.func g) #[] #[]] w fun u w' => u = .int .i64 (Qhd ws s) ∧ St cx w' L := by
  subst hm
  all_goals refine Qma ?_
  all_goals (unfold parse_find_lc; refine Q0 ?_; refine Q1 ?_; refine zm ?_; refine zn ?_; refine Q0 ?_; refine Q0 ?_; refine Q1 ?_; refine zm ?_; refine zn ?_; refine Qa ?_)
  refine zoL hS [0, 1, 2] (fun A LL ρ' w' => ∃ (i : Nat), Has ρ' A ∧ Has ρ' [(7, .int .i64 ((i : Int) + 1))] ∧ (i ≤ ws.length) ∧ (∀ j, j < i → ws[j]? ≠ some s) ∧ St cx w' (LL)) (fun ρ' _ => ((ws.length + 1) - iv (ρ' 7)).toNat) ?_ ?_
  · exact ⟨0, zh, zh, (by omega), fun j hj => by omega, hS.sp⟩
  rintro ρ w1 ⟨i, hA, hρ, hi, hno, hS⟩; obtain ⟨ρ, rfl⟩ := env2 hA hρ
  unfold Qbd
  all_goals (refine Q0 ?_; refine Q0 ?_; refine Q1 ?_; refine zm ?_; refine zm ?_; refine Q9Y rfl rfl ?_; refine zn ?_)
  refine QM rfl (fun hc => ?_) (fun hc => ?_)
  · skip
    all_goals (refine zsk ?_; refine Q0 ?_; refine Qa ?_; refine Q0 ?_; refine Q1 ?_; refine zm ?_; refine zm ?_; refine QtK rfl hg rfl (hof _ hS) ?_; rintro v1 w1 ⟨rfl, hS⟩; refine zm ?_)
    all_goals (refine Qo2 rfl rfl ?_; have hwn := QnQ (ws := ws) (i := i) (by omega); cases hq : decide (wordN ws ((i : Int) + 1) = s))
    all_goals (refine zn ?_)
    all_goals
      first
      | (refine zct ?_ -- Q85 c1
         all_goals (refine Q0 ?_; refine Q1 ?_; refine zm ?_; refine zm ?_; refine zn ?_; refine zr ?_; refine zf ?_)
         all_goals (exact ⟨_, rfl, (by rw [find_y (i := i) (by rw [hwn, of_decide_eq_true hq]) hno]; rfl), hS.sp⟩))
      | (refine zcf ?_ -- Q85 c1
         all_goals refine zsk ?_)
    all_goals (refine Q1 ?_; refine zm ?_; refine zad ?_; refine zm ?_; refine zn ?_)
    all_goals (exact ⟨⟨i + 1, zh, zh, (by omega), fun j hj => (by rcases (show j < i ∨ j = i by omega) with h9 | h9; exact hno j h9; rw [h9, hwn]; intro h; exact of_decide_eq_false hq (Option.some.inj h)), hS.sp⟩, QF (by omega)⟩)
  · skip
    all_goals (refine zex ?_; refine Q0 ?_; refine Q1 ?_; refine zm ?_; refine zn ?_; refine zr ?_; refine zf ?_; (first | exact ⟨_, rfl, (by rw [find_y (i := i) (by rw [hwn, of_decide_eq_true hq]) hno]; rfl), hS.sp⟩ | exact ⟨_, rfl, (by rw [find_n (fun j hj => hno j (by omega))]; rfl), hS.sp⟩))
end Go.Proofs.YtjecflbbcnocdaaGreatDoor
namespace Go.Proofs.YtjecflbbcnocdaaGreatDoor
open Go.Lir
set_option maxHeartbeats 1000000
attribute [local irreducible] LC.wp Q2 QA QB retQ Q1e LO.wp Qj Calls
set_option linter.unusedSimpArgs false
set_option linter.unusedVariables false
attribute [local irreducible] pMany Q15 Q2Y pNum want isT pTyp Q2C Q7J Q38 wordN Qhd pIns
variable {cx : Cx} {w : World} {L : List Res}
/-- What the reading of an instruction gives back. -/
def InsS (pb e : Nat) (v : Value) (l : List Tok) (cx : Cx) (L : List Res) (u : Value) (w' : World) : Prop :=
  (pIns e l = .ok (none, l) ∧ u = .tuple #[.agg ⟨[.int .i64 0, .int .i64 0, .int .i64 0, .int .i64 0, .int .i64 0, .int .i64 0, .slice none 0 0, .slice none 0 0]⟩, .bool false] ∧ St cx w' (prs pb v e :: L)) ∨
  (∃ x l' v' c' ds, pIns e l = .ok (some x, l') ∧ l'.length < l.length ∧ cx.Le c' ∧ insR.at c' ds x ∧ u = .tuple #[.agg ⟨ds⟩, .bool true] ∧ tokR.sl c' v' l' ∧ St c' w' (prs pb v' e :: L))
theorem len_cons {t : Tok} {r : List Tok} : ((t :: r : List Tok).length : Int) > 0 := by simp
theorem len_nil : ¬ ((([] : List Tok).length : Int) > 0) := by simp
theorem prins_n {pb e : Nat} {v : Value} (hv : tokR.sl cx v []) (hS : St cx w (prs pb v e :: L)) :
    Fins Tryz.prog Q7 [.pointer (some ⟨pb, 0, none⟩)] w (InsS pb e v [] cx L) (PBad (pIns e []) pb e cx L) := by
  unfold Fins InsS
  all_goals refine Q37 ?_
  all_goals (unfold parse_parser_ins_lc; refine Q0 ?_; refine Q1 ?_; refine Q9 hS ?_; intro p2 w1 hS; refine zm ?_; refine zn ?_; refine Q0 ?_; refine Q0 ?_; refine Q1 ?_; refine zm ?_; refine znc ?_; refine zf0 ?_; refine zl hS ?_; refine zL ?_; refine Qa0 rfl rfl (by simp) ?_; refine zm ?_; refine zgn ?_; refine zgn ?_; refine zgn ?_; refine zgn ?_; refine zgn ?_; refine zgn ?_; refine zgn ?_; refine zpt ?_; refine zn ?_)
  all_goals refine zct ?_
  all_goals (refine Q0 ?_; refine Q1 ?_; refine zb0 [_, _, _, _, _, _, _, _] ?_; refine zsn hS ?_; intro w1 hS; have hS := hS.ns; refine zm ?_; refine zn ?_; refine zr ?_; refine QV vw (Q5 (n := 8) (by kernel_rfl) (by kernel_rfl) (hS.blkAt fd) (by rfl) (by rfl)) vw ?_; exact .inl ⟨_, rfl, .inl ⟨Qbi rfl, rfl, hS.sp⟩⟩)
theorem prins_s {pb e : Nat} {a : Nat} {t2 : List UInt8} {m : Int} {v : Value} {r : List Tok} (hv : tokR.sl cx v (⟨a, t2, some m⟩ :: r)) (hS : St cx w (prs pb v e :: L)) :
    Fins Tryz.prog Q7 [.pointer (some ⟨pb, 0, none⟩)] w (InsS pb e v (⟨a, t2, some m⟩ :: r) cx L) (PBad (pIns e (⟨a, t2, some m⟩ :: r)) pb e cx L) := by
  unfold Fins InsS
  all_goals refine Q37 ?_
  all_goals (unfold parse_parser_ins_lc; refine Q0 ?_; refine Q1 ?_; refine Q9 hS ?_; intro p2 w1 hS; refine zm ?_; refine zn ?_; refine Q0 ?_; refine Q0 ?_; refine Q1 ?_; refine zm ?_; refine znc ?_; refine zf0 ?_; refine zl hS ?_; refine zL ?_; refine QgT rfl rfl (by simp; omega) ?_; refine zm ?_; (first | refine zgn ?_ | (refine zgy ?_; refine zm ?_)); (first | refine zgn ?_ | (refine zgy ?_; refine znc ?_)); (first | refine zgn ?_ | (refine zgy ?_; refine zf0 ?_)); (first | refine zgn ?_ | (refine zgy ?_; refine zl hS ?_)))
  all_goals (first | refine zgn ?_ | (refine zgy ?_; refine QN (m := 0) vw rfl hv rfl (by simp) ?_; intro b1 o1 cs1 x1 hat1 hx1 he1; cases hx1; obtain rfl := QE he1))
  all_goals ((first | refine zgn ?_ | (refine zgy ?_; (first | refine zf0 ?_ | refine zfd ?_))); (first | refine zgn ?_ | (refine zgy ?_; (first | (refine zl hS ?_) | (refine zlk hS ?_) | (refine zlj hS ?_)))); (first | (refine zpt ?_) | (refine zpf ?_)); refine zn ?_)
  all_goals refine zct ?_
  all_goals (refine Q0 ?_; refine Q1 ?_; refine zb0 [_, _, _, _, _, _, _, _] ?_; refine zsn hS ?_; intro w1 hS; have hS := hS.ns; refine zm ?_; refine zn ?_; refine zr ?_; refine QV vw (Q5 (n := 8) (by kernel_rfl) (by kernel_rfl) (hS.blkAt fd) (by rfl) (by rfl)) vw ?_; exact .inl ⟨_, rfl, .inl ⟨Qbi rfl, rfl, hS.sp⟩⟩)
theorem prins_w {pb e : Nat} {a : Nat} {t2 : List UInt8} {v : Value} {r : List Tok} (hv : tokR.sl cx v (⟨a, t2, none⟩ :: r)) (hS : St cx w (prs pb v e :: L)) :
    Fins Tryz.prog Q7 [.pointer (some ⟨pb, 0, none⟩)] w (InsS pb e v (⟨a, t2, none⟩ :: r) cx L) (PBad (pIns e (⟨a, t2, none⟩ :: r)) pb e cx L) := by
  have hle := St.refl hS
  have hnil : intR.sl cx (.slice none 0 0) [] := Rep.SR.nil _ _ _
  obtain ⟨op, hop⟩ : ∃ op : Nat, Q3H opWords (⟨a, t2, none⟩ :: r) = op := ⟨_, rfl⟩
  have hop2 : Qhd opWords t2 = op := hop
  have hope : op ≤ 14 := by rw [← hop]; exact Qmn
  unfold Fins InsS
  all_goals refine Q37 ?_
  all_goals (unfold parse_parser_ins_lc; refine Q0 ?_; refine Q1 ?_; refine Q9 hS ?_; intro p2 w1 hS; refine zm ?_; refine zn ?_; refine Q0 ?_; refine Q0 ?_; refine Q1 ?_; refine zm ?_; refine znc ?_; refine zf0 ?_; refine zl hS ?_; refine zL ?_; refine QgT rfl rfl (by simp; omega) ?_; refine zm ?_; (first | refine zgn ?_ | (refine zgy ?_; refine zm ?_)); (first | refine zgn ?_ | (refine zgy ?_; refine znc ?_)); (first | refine zgn ?_ | (refine zgy ?_; refine zf0 ?_)); (first | refine zgn ?_ | (refine zgy ?_; refine zl hS ?_)))
  all_goals (first | refine zgn ?_ | (refine zgy ?_; refine QN (m := 0) vw rfl hv rfl (by simp) ?_; intro b1 o1 cs1 x1 hat1 hx1 he1; cases hx1; obtain rfl := QE he1))
  all_goals ((first | refine zgn ?_ | (refine zgy ?_; (first | refine zf0 ?_ | refine zfd ?_))); (first | refine zgn ?_ | (refine zgy ?_; (first | (refine zl hS ?_) | (refine zlk hS ?_) | (refine zlj hS ?_)))); (first | (refine zpt ?_) | (refine zpf ?_)); refine zn ?_)
  all_goals refine zcf ?_
  all_goals (refine zsk ?_; refine Q0 ?_; refine Q1 ?_; refine zm ?_; refine znc ?_; refine zf0 ?_; refine zl hS ?_)
  all_goals (refine QN (m := 0) vw rfl hv rfl (by simp) ?_; intro b1 o1 cs1 x1 hat1 hx1 he1; cases hx1; obtain rfl := QE he1)
  all_goals ((first | refine zf0 ?_ | refine zfd ?_); (first | (refine zl hS ?_) | (refine zlk hS ?_) | (refine zlj hS ?_)); refine zR3 (c := find_c (ws := opWords) rfl (by decide) (by kernel_rfl) (fun k h => QrQ h) hS) (h := ?_); rintro u1 w1 ⟨rfl, hS⟩; rw [hop2]; refine zb1 [_, _, _, _, _, _, _, _] ?_; refine Q9 hS ?_; intro p4 w1 hS; refine zsn hS ?_; intro w1 hS; have hS := hS.ns; refine zn ?_; refine Q0 ?_; refine Q0 ?_; refine Q1 ?_; refine zf0 ?_; refine zl hS ?_)
  all_goals (first | (refine Qn ?_) | (refine Qq ?_) | (refine Qg rfl rfl (fun hc => ?_) (fun hc => ?_)))
  all_goals (refine zn ?_)
  all_goals
    first
    | (refine zct ?_ -- Q7 c1
       all_goals (refine Q0 ?_; refine Q1 ?_; refine zb0 [_, _, _, _, _, _, _, _] ?_; refine zsn hS ?_; intro w1 hS; have hS := hS.ns; refine zm ?_; refine zn ?_; refine zr ?_; refine QV vw (Q5 (n := 8) (by kernel_rfl) (by kernel_rfl) (hS.blkAt fd) (by rfl) (by rfl)) vw ?_)
       all_goals (exact .inl ⟨_, rfl, .inl ⟨Qbi (by omega), rfl, hS.sp⟩⟩))
    | (refine zcf ?_ -- Q7 c1
       all_goals refine zsk ?_)
  all_goals (refine Q0 ?_; refine Q1 ?_; refine zm ?_; have hS : St cx _ (prs pb v e :: blk p4 54 [.int .i64 (op : Int), .int .i64 0, .int .i64 0, .int .i64 0, .int .i64 0, .int .i64 0, .slice none 0 0, .slice none 0 0] :: blk p2 54 [.int .i64 0, .int .i64 0, .int .i64 0, .int .i64 0, .int .i64 0, .int .i64 0, .slice none 0 0, .slice none 0 0] :: L) := hS.sp; refine zR1 (c := QpF hv hS) (h := ?_); rintro u1 w1 ⟨rfl, vc, hvc, hS⟩; refine zn ?_)
  refine zM [0, 2, 4] (fun A ρ' w' => ∃ (x : Ins) (l2 : List Tok) (v2 : Value) (c5 : Cx) (vr va : Value), Has ρ' A ∧ Has ρ' [] ∧ (¬ (op : Int) = 0) ∧ (Q2C e op r = .ok (x, l2)) ∧ (l2.length ≤ r.length) ∧ (cx.Le c5) ∧ (insR.at c5 [.int .i64 x.op, .int .i64 x.a, .int .i64 x.b, .int .i64 x.c, .int .i64 x.k, .int .i64 x.n, vr, va] x) ∧ (tokR.sl c5 v2 l2) ∧ St c5 w' (prs pb v2 e :: blk p4 54 [.int .i64 x.op, .int .i64 x.a, .int .i64 x.b, .int .i64 x.c, .int .i64 x.k, .int .i64 x.n, vr, va] :: blk p2 54 [.int .i64 0, .int .i64 0, .int .i64 0, .int .i64 0, .int .i64 0, .int .i64 0, .slice none 0 0, .slice none 0 0] :: L)) ?_ ?_
  · skip
    all_goals (refine Q0 ?_; have hb0 : ¬ (op : Int) = 0 := hc; refine Q1 ?_; refine zf0 ?_; refine zl hS ?_; refine zn ?_; refine Qa ?_; refine Q0 ?_; refine Q1 ?_)
    all_goals (first | (refine Qn ?_) | (refine Qq ?_) | (refine Qg rfl rfl (fun hc => ?_) (fun hc => ?_)))
    all_goals (refine zm ?_; refine zn ?_)
    all_goals
      first
      | (refine zct ?_ -- Q7 c2
         all_goals (have hX := pb_1 (e := e) (l := r) (op := op) (by omega); refine Q1 ?_; refine zm ?_; refine zE1 (c := Qm2 hvc hS) (p := by rintro u9 w9 ⟨f, v', g1, rfl, hS⟩; (repeat (first | refine Qo ?_ | refine Qp ?_ | refine fun _ => ?_)); refine QJ ?_; refine .inr ⟨_, rfl, ?_⟩; exact ⟨f, v', Q3f hop hb0 (Q1M hX g1), rfl, hS.sp⟩) (h := ?_); rintro u1 w2 ⟨n, vc, g1, rfl, hvc, hS⟩; have hX := Q1O hX g1; (try dsimp only at hX); refine zf0 ?_; refine zst hS ?_; intro w1 hS; have hS := hS.ns; refine zn ?_)
         all_goals (exact ⟨_, _, _, cx, _, _, zh, zh, hb0, hX, (by have z1 := Q8 r; have z2 := Q8 r.tail; have z3 := Q8 r.tail.tail; have z4 := Q8 r.tail.tail.tail; omega), hle, ⟨_, _, rfl, hnil, hnil⟩, hvc, hS.sp⟩))
      | (refine zcf ?_ -- Q7 c2
         all_goals (refine Q0 ?_; refine Q1 ?_)
         all_goals (first | (refine Qn ?_) | (refine Qq ?_) | (refine Qg rfl rfl (fun hc => ?_) (fun hc => ?_)))
         all_goals (refine zm ?_; refine zn ?_)
         all_goals
           first
           | (refine zct ?_ -- Q7 c3
              refine zM [0, 2, 4] (fun A ρ' w' => ∃ (kv : Nat), Has ρ' A ∧ Has ρ' [] ∧ (Q3H kindWords r = kv) ∧ St cx w' (prs pb vc e :: blk p4 54 [.int .i64 (op : Int), .int .i64 0, .int .i64 0, .int .i64 0, .int .i64 (kv : Int), .int .i64 0, .slice none 0 0, .slice none 0 0] :: blk p2 54 [.int .i64 0, .int .i64 0, .int .i64 0, .int .i64 0, .int .i64 0, .int .i64 0, .slice none 0 0, .slice none 0 0] :: L)) ?_ ?_
              · skip
                all_goals (refine Q0 ?_; refine Q1 ?_)
                all_goals (rcases r with _ | ⟨⟨a3, t3, m3⟩, r3⟩; rotate_left; cases m3)
                all_goals (refine zm ?_; refine znc ?_; refine zf0 ?_; refine zl hS ?_; refine zL ?_; (first | refine Q5C rfl rfl len_cons ?_ | refine Qcq rfl rfl len_nil ?_); refine zm ?_; (first | refine zgn ?_ | (refine zgy ?_; refine zm ?_)); (first | refine zgn ?_ | (refine zgy ?_; refine znc ?_)); (first | refine zgn ?_ | (refine zgy ?_; refine zf0 ?_)); (first | refine zgn ?_ | (refine zgy ?_; refine zl hS ?_)))
                all_goals (first | refine zgn ?_ | (refine zgy ?_; refine QN (m := 0) vw rfl hvc rfl (by simp) ?_; intro b1 o1 cs1 x1 hat1 hx1 he1; cases hx1; obtain rfl := QE he1))
                all_goals ((first | refine zgn ?_ | (refine zgy ?_; (first | refine zf0 ?_ | refine zfd ?_))); (first | refine zgn ?_ | (refine zgy ?_; (first | (refine zl hS ?_) | (refine zlk hS ?_) | (refine zlj hS ?_)))); (first | refine zgn ?_ | (refine zgy ?_; refine znt ?_)); (first | (refine zpt ?_) | (refine zpf ?_)); refine zn ?_)
                all_goals
                  first
                  | (refine zct ?_ -- Q7 c4
                     all_goals (refine Q1 ?_; refine zm ?_; refine znc ?_; refine zf0 ?_; refine zl hS ?_)
                     all_goals (refine QN (m := 0) vw rfl hvc rfl (by simp) ?_; intro b1 o1 cs1 x1 hat1 hx1 he1; cases hx1; obtain rfl := QE he1)
                     all_goals ((first | refine zf0 ?_ | refine zfd ?_); (first | (refine zl hS ?_) | (refine zlk hS ?_) | (refine zlj hS ?_)); refine zR3 (c := find_c (ws := kindWords) rfl (by decide) (by kernel_rfl) (fun k h => Qgh h) hS) (h := ?_); rintro u1 w1 ⟨rfl, hS⟩; refine zf0 ?_; refine zst hS ?_; intro w1 hS; have hS := hS.ns)
                     all_goals refine zn ?_)
                  | (refine zcf ?_ -- Q7 c4
                     all_goals refine zsk ?_)
                all_goals (exact ⟨_, zh, zh, rfl, hS.sp⟩)
              rintro ρ w1 ⟨kv, hA, hρ, hk, hS⟩; obtain ⟨ρ, rfl⟩ := env2 hA hρ
              all_goals (refine Q0 ?_; refine Q0 ?_; have hX := pb_2 (e := e) (l := r) (op := op) (by omega); refine Q1 ?_; refine zf0 ?_; refine zl hS ?_)
              all_goals (first | (refine Qn ?_) | (refine Qq ?_) | (refine Qg rfl rfl (fun hc => ?_) (fun hc => ?_)))
              all_goals (refine zn ?_)
              all_goals
                first
                | (refine zct ?_ -- Q7 c5
                   all_goals (refine Q1 ?_; refine zm ?_)
                   all_goals (refine zE2 (c := Q7c hvc hS) (p := by rintro v9 w9 ⟨rfl, hS⟩; (repeat (first | refine Qo ?_ | refine Qp ?_ | refine fun _ => ?_)); refine QJ ?_; refine .inr ⟨_, rfl, ?_⟩; exact ⟨_, _, Q3f hop hb0 (Q1M hX (kind_e hk hc)), rfl, hS.sp⟩) (h := fun _ _ h9 => by cases h9))
                   all_goals refine zn ?_)
                | (refine zcf ?_ -- Q7 c5
                   all_goals refine zsk ?_)
              all_goals (refine Q0 ?_; have hX := Q1O hX (kind_o (e := e) hk hc); (try dsimp only at hX); obtain ⟨t9, ht9⟩ := head_get hk hc; refine Q1 ?_; refine zm ?_; refine zR1 (c := Qa2 ht9 hvc hS) (h := ?_); rintro u1 w1 ⟨rfl, vc, hvc, hS⟩; refine zn ?_; refine Q0 ?_; refine Q1 ?_; refine zm ?_; refine zE1 (c := Q2t hvc hS) (p := by rintro u9 w9 ⟨f, v', g1, rfl, hS⟩; (repeat (first | refine Qo ?_ | refine Qp ?_ | refine fun _ => ?_)); refine QJ ?_; refine .inr ⟨_, rfl, ?_⟩; exact ⟨f, v', Q3f hop hb0 (Q1M hX g1), rfl, hS.sp⟩) (h := ?_); rintro u1 w2 ⟨n, vc, g1, rfl, hvc, hS⟩; have hX := Q1O hX g1; (try dsimp only at hX); refine zf0 ?_; refine zst hS ?_; intro w1 hS; have hS := hS.ns; refine zn ?_; refine Q1 ?_; refine zm ?_; refine zE1 (c := Q2t hvc hS) (p := by rintro u9 w9 ⟨f, v', g1, rfl, hS⟩; (repeat (first | refine Qo ?_ | refine Qp ?_ | refine fun _ => ?_)); refine QJ ?_; refine .inr ⟨_, rfl, ?_⟩; exact ⟨f, v', Q3f hop hb0 (Q1M hX g1), rfl, hS.sp⟩) (h := ?_); rintro u1 w2 ⟨n, vc, g1, rfl, hvc, hS⟩; have hX := Q1O hX g1; (try dsimp only at hX); refine zf0 ?_; refine zst hS ?_; intro w1 hS; have hS := hS.ns; refine zn ?_)
              all_goals (exact ⟨_, _, _, cx, _, _, zh, zh, hb0, hX, (by have z1 := Q8 r; have z2 := Q8 r.tail; have z3 := Q8 r.tail.tail; have z4 := Q8 r.tail.tail.tail; omega), hle, ⟨_, _, rfl, hnil, hnil⟩, hvc, hS.sp⟩))
           | (refine zcf ?_ -- Q7 c3
              all_goals (refine Q0 ?_; refine Q0 ?_; refine Q1 ?_)
              all_goals (first | (refine Qn ?_) | (refine Qq ?_) | (refine Qg rfl rfl (fun hc => ?_) (fun hc => ?_)))
              all_goals (refine zm ?_; refine zn ?_)
              all_goals
                first
                | (refine zct ?_ -- Q7 c6
                   all_goals refine zsk ?_)
                | (refine zcf ?_ -- Q7 c6
                   all_goals (refine Q0 ?_; refine Q1 ?_)
                   all_goals (first | (refine Qn ?_) | (refine Qq ?_) | (refine Qg rfl rfl (fun hc => ?_) (fun hc => ?_)))
                   all_goals (refine zm ?_; refine zn ?_)
                   all_goals
                     first
                     | (refine zct ?_ -- Q7 c7
                        all_goals refine zsk ?_)
                     | (refine zcf ?_ -- Q7 c7
                        all_goals (refine Q1 ?_)
                        all_goals (first | (refine Qn ?_) | (refine Qq ?_) | (refine Qg rfl rfl (fun hc => ?_) (fun hc => ?_)))
                        all_goals (refine zm ?_)
                        all_goals refine zn ?_))
              all_goals
                first
                | (refine zct ?_ -- Q7 c8
                   all_goals (have hX := pb_4 (e := e) (l := r) (op := op) (by omega); refine Q1 ?_; refine zm ?_; refine zE1 (c := Q2t hvc hS) (p := by rintro u9 w9 ⟨f, v', g1, rfl, hS⟩; (repeat (first | refine Qo ?_ | refine Qp ?_ | refine fun _ => ?_)); refine QJ ?_; refine .inr ⟨_, rfl, ?_⟩; exact ⟨f, v', Q3f hop hb0 (Q1M hX g1), rfl, hS.sp⟩) (h := ?_); rintro u1 w2 ⟨n, vc, g1, rfl, hvc, hS⟩; have hX := Q1O hX g1; (try dsimp only at hX); refine zf0 ?_; refine zst hS ?_; intro w1 hS; have hS := hS.ns)
                   all_goals refine zn ?_)
                | (refine zcf ?_ -- Q7 c8
                   all_goals (refine Q0 ?_; refine Q1 ?_)
                   all_goals (first | (refine Qn ?_) | (refine Qq ?_) | (refine Qg rfl rfl (fun hc => ?_) (fun hc => ?_)))
                   all_goals (refine zm ?_; refine zn ?_)
                   all_goals
                     first
                     | (refine zct ?_ -- Q7 c9
                        all_goals (refine Q0 ?_; have hX := pb_5 (e := e) (l := r) (op := op) (by omega); refine Q1 ?_; refine zm ?_; refine zE1 (c := Q2t hvc hS) (p := by rintro u9 w9 ⟨f, v', g1, rfl, hS⟩; (repeat (first | refine Qo ?_ | refine Qp ?_ | refine fun _ => ?_)); refine QJ ?_; refine .inr ⟨_, rfl, ?_⟩; exact ⟨f, v', Q3f hop hb0 (Q1M hX g1), rfl, hS.sp⟩) (h := ?_); rintro u1 w2 ⟨n, vc, g1, rfl, hvc, hS⟩; have hX := Q1O hX g1; (try dsimp only at hX); refine zf0 ?_; refine zst hS ?_; intro w1 hS; have hS := hS.ns; refine zn ?_; refine Q1 ?_; refine zm ?_; refine zE3 (c := Qcw hvc hS) (p := by rintro u9 w9 ⟨f, v', g1, rfl, hS⟩; (repeat (first | refine Qo ?_ | refine Qp ?_ | refine fun _ => ?_)); refine QJ ?_; refine .inr ⟨_, rfl, ?_⟩; exact ⟨f, v', Q3f hop hb0 (Q1M hX g1), rfl, hS.sp⟩) (h := ?_); rintro u1 w2 ⟨xs, l4, vc, c2, g1, g2, hle2, hka, hvc, hS⟩; have hX := Q1O hX g1; (try dsimp only at hX); have hoa := Rep.SR.oneC hka; refine zf0 ?_; refine zst hS ?_; intro w1 hS; have hS := hS.ns)
                        all_goals refine zn ?_)
                     | (refine zcf ?_ -- Q7 c9
                        all_goals (refine Q0 ?_; refine Q1 ?_)
                        all_goals (first | (refine Qn ?_) | (refine Qq ?_) | (refine Qg rfl rfl (fun hc => ?_) (fun hc => ?_)))
                        all_goals (refine zm ?_; refine zn ?_)
                        all_goals
                          first
                          | (refine zct ?_ -- Q7 c10
                             all_goals (refine Q0 ?_; have hX := pb_6 (e := e) (l := r) (op := op) (by omega); refine Q1 ?_; refine zm ?_; refine zE1 (c := Q2t hvc hS) (p := by rintro u9 w9 ⟨f, v', g1, rfl, hS⟩; (repeat (first | refine Qo ?_ | refine Qp ?_ | refine fun _ => ?_)); refine QJ ?_; refine .inr ⟨_, rfl, ?_⟩; exact ⟨f, v', Q3f hop hb0 (Q1M hX g1), rfl, hS.sp⟩) (h := ?_); rintro u1 w2 ⟨n, vc, g1, rfl, hvc, hS⟩; have hX := Q1O hX g1; (try dsimp only at hX); refine zf0 ?_; refine zst hS ?_; intro w1 hS; have hS := hS.ns; refine zn ?_; refine Q1 ?_; refine zm ?_; refine zE1 (c := Q2t hvc hS) (p := by rintro u9 w9 ⟨f, v', g1, rfl, hS⟩; (repeat (first | refine Qo ?_ | refine Qp ?_ | refine fun _ => ?_)); refine QJ ?_; refine .inr ⟨_, rfl, ?_⟩; exact ⟨f, v', Q3f hop hb0 (Q1M hX g1), rfl, hS.sp⟩) (h := ?_); rintro u1 w2 ⟨n, vc, g1, rfl, hvc, hS⟩; have hX := Q1O hX g1; (try dsimp only at hX); refine zf0 ?_; refine zst hS ?_; intro w1 hS; have hS := hS.ns)
                             all_goals refine zn ?_)
                          | (refine zcf ?_ -- Q7 c10
                             all_goals (refine Q0 ?_; refine Q1 ?_)
                             all_goals (first | (refine Qn ?_) | (refine Qq ?_) | (refine Qg rfl rfl (fun hc => ?_) (fun hc => ?_)))
                             all_goals (refine zm ?_; refine zn ?_)
                             all_goals
                               first
                               | (refine zct ?_ -- Q7 c11
                                  all_goals (refine Q0 ?_; have hX := pb_7 (e := e) (l := r) (op := op) (by omega); refine Q1 ?_; refine zm ?_; refine zE1 (c := Q2t hvc hS) (p := by rintro u9 w9 ⟨f, v', g1, rfl, hS⟩; (repeat (first | refine Qo ?_ | refine Qp ?_ | refine fun _ => ?_)); refine QJ ?_; refine .inr ⟨_, rfl, ?_⟩; exact ⟨f, v', Q3f hop hb0 (Q1M hX g1), rfl, hS.sp⟩) (h := ?_); rintro u1 w2 ⟨n, vc, g1, rfl, hvc, hS⟩; have hX := Q1O hX g1; (try dsimp only at hX); refine zf0 ?_; refine zst hS ?_; intro w1 hS; have hS := hS.ns; refine zn ?_; refine Q0 ?_; refine Q1 ?_; refine zm ?_; refine zE1 (c := Q2t hvc hS) (p := by rintro u9 w9 ⟨f, v', g1, rfl, hS⟩; (repeat (first | refine Qo ?_ | refine Qp ?_ | refine fun _ => ?_)); refine QJ ?_; refine .inr ⟨_, rfl, ?_⟩; exact ⟨f, v', Q3f hop hb0 (Q1M hX g1), rfl, hS.sp⟩) (h := ?_); rintro u1 w2 ⟨n, vc, g1, rfl, hvc, hS⟩; have hX := Q1O hX g1; (try dsimp only at hX); refine zf0 ?_; refine zst hS ?_; intro w1 hS; have hS := hS.ns; refine zn ?_; refine Q1 ?_; refine zm ?_; refine zE1 (c := Q2t hvc hS) (p := by rintro u9 w9 ⟨f, v', g1, rfl, hS⟩; (repeat (first | refine Qo ?_ | refine Qp ?_ | refine fun _ => ?_)); refine QJ ?_; refine .inr ⟨_, rfl, ?_⟩; exact ⟨f, v', Q3f hop hb0 (Q1M hX g1), rfl, hS.sp⟩) (h := ?_); rintro u1 w2 ⟨n, vc, g1, rfl, hvc, hS⟩; have hX := Q1O hX g1; (try dsimp only at hX))
                                  all_goals (refine zf0 ?_; refine zst hS ?_; intro w1 hS; have hS := hS.ns)
                                  all_goals refine zn ?_)
                               | (refine zcf ?_ -- Q7 c11
                                  all_goals (refine Q0 ?_; refine Q0 ?_; refine Q1 ?_)
                                  all_goals (first | (refine Qn ?_) | (refine Qq ?_) | (refine Qg rfl rfl (fun hc => ?_) (fun hc => ?_)))
                                  all_goals (refine zm ?_; refine zn ?_)
                                  all_goals
                                    first
                                    | (refine zct ?_ -- Q7 c12
                                       all_goals refine zsk ?_)
                                    | (refine zcf ?_ -- Q7 c12
                                       all_goals (refine Q1 ?_)
                                       all_goals (first | (refine Qn ?_) | (refine Qq ?_) | (refine Qg rfl rfl (fun hc => ?_) (fun hc => ?_)))
                                       all_goals (refine zm ?_)
                                       all_goals refine zn ?_)
                                  all_goals
                                    first
                                    | (refine zct ?_ -- Q7 c13
                                       all_goals (refine Q0 ?_; have hX := pb_8 (e := e) (l := r) (op := op) (by omega); refine Q1 ?_; refine zm ?_; refine zE1 (c := Q2t hvc hS) (p := by rintro u9 w9 ⟨f, v', g1, rfl, hS⟩; (repeat (first | refine Qo ?_ | refine Qp ?_ | refine fun _ => ?_)); refine QJ ?_; refine .inr ⟨_, rfl, ?_⟩; exact ⟨f, v', Q3f hop hb0 (Q1M hX g1), rfl, hS.sp⟩) (h := ?_); rintro u1 w2 ⟨n, vc, g1, rfl, hvc, hS⟩; have hX := Q1O hX g1; (try dsimp only at hX); refine zf0 ?_; refine zst hS ?_; intro w1 hS; have hS := hS.ns; refine zn ?_; refine Q1 ?_; refine zm ?_; refine zE1 (c := Q2t hvc hS) (p := by rintro u9 w9 ⟨f, v', g1, rfl, hS⟩; (repeat (first | refine Qo ?_ | refine Qp ?_ | refine fun _ => ?_)); refine QJ ?_; refine .inr ⟨_, rfl, ?_⟩; exact ⟨f, v', Q3f hop hb0 (Q1M hX g1), rfl, hS.sp⟩) (h := ?_); rintro u1 w2 ⟨n, vc, g1, rfl, hvc, hS⟩; have hX := Q1O hX g1; (try dsimp only at hX); refine zf0 ?_; refine zst hS ?_; intro w1 hS; have hS := hS.ns)
                                       all_goals refine zn ?_)
                                    | (refine zcf ?_ -- Q7 c13
                                       all_goals (refine Q0 ?_; refine Q1 ?_)
                                       all_goals (first | (refine Qn ?_) | (refine Qq ?_) | (refine Qg rfl rfl (fun hc => ?_) (fun hc => ?_)))
                                       all_goals (refine zm ?_; refine zn ?_)
                                       all_goals
                                         first
                                         | (refine zct ?_ -- Q7 c14
                                            all_goals (refine Q0 ?_; have hX := pb_10 (e := e) (l := r) (op := op) (by omega); refine Q1 ?_; refine zm ?_; refine zE1 (c := Q2t hvc hS) (p := by rintro u9 w9 ⟨f, v', g1, rfl, hS⟩; (repeat (first | refine Qo ?_ | refine Qp ?_ | refine fun _ => ?_)); refine QJ ?_; refine .inr ⟨_, rfl, ?_⟩; exact ⟨f, v', Q3f hop hb0 (Q1M hX g1), rfl, hS.sp⟩) (h := ?_); rintro u1 w2 ⟨n, vc, g1, rfl, hvc, hS⟩; have hX := Q1O hX g1; (try dsimp only at hX); refine zf0 ?_; refine zst hS ?_; intro w1 hS; have hS := hS.ns; refine zn ?_; refine Q0 ?_; refine Q1 ?_; refine zm ?_; refine zE1 (c := Q2t hvc hS) (p := by rintro u9 w9 ⟨f, v', g1, rfl, hS⟩; (repeat (first | refine Qo ?_ | refine Qp ?_ | refine fun _ => ?_)); refine QJ ?_; refine .inr ⟨_, rfl, ?_⟩; exact ⟨f, v', Q3f hop hb0 (Q1M hX g1), rfl, hS.sp⟩) (h := ?_); rintro u1 w2 ⟨n, vc, g1, rfl, hvc, hS⟩; have hX := Q1O hX g1; (try dsimp only at hX); refine zf0 ?_; refine zst hS ?_; intro w1 hS; have hS := hS.ns; refine zn ?_; refine Q1 ?_; refine zm ?_; refine zE1 (c := Q2t hvc hS) (p := by rintro u9 w9 ⟨f, v', g1, rfl, hS⟩; (repeat (first | refine Qo ?_ | refine Qp ?_ | refine fun _ => ?_)); refine QJ ?_; refine .inr ⟨_, rfl, ?_⟩; exact ⟨f, v', Q3f hop hb0 (Q1M hX g1), rfl, hS.sp⟩) (h := ?_); rintro u1 w2 ⟨n, vc, g1, rfl, hvc, hS⟩; have hX := Q1O hX g1; (try dsimp only at hX))
                                            all_goals (refine zf0 ?_; refine zst hS ?_; intro w1 hS; have hS := hS.ns)
                                            all_goals refine zn ?_)
                                         | (refine zcf ?_ -- Q7 c14
                                            all_goals (refine Q0 ?_; refine Q1 ?_)
                                            all_goals (first | (refine Qn ?_) | (refine Qq ?_) | (refine Qg rfl rfl (fun hc => ?_) (fun hc => ?_)))
                                            all_goals (refine zm ?_; refine zn ?_)
                                            all_goals
                                              first
                                              | (refine zct ?_ -- Q7 c15
                                                 all_goals (refine Q0 ?_; have hX := pb_14 (e := e) (l := r) (op := op) (by omega); refine Q1 ?_; refine zm ?_; refine zE1 (c := Q2t hvc hS) (p := by rintro u9 w9 ⟨f, v', g1, rfl, hS⟩; (repeat (first | refine Qo ?_ | refine Qp ?_ | refine fun _ => ?_)); refine QJ ?_; refine .inr ⟨_, rfl, ?_⟩; exact ⟨f, v', Q3f hop hb0 (Q1M hX g1), rfl, hS.sp⟩) (h := ?_); rintro u1 w2 ⟨n, vc, g1, rfl, hvc, hS⟩; have hX := Q1O hX g1; (try dsimp only at hX); refine zf0 ?_; refine zst hS ?_; intro w1 hS; have hS := hS.ns; refine zn ?_; refine Q0 ?_; refine Q1 ?_; refine zm ?_; refine zE3 (c := Qcw hvc hS) (p := by rintro u9 w9 ⟨f, v', g1, rfl, hS⟩; (repeat (first | refine Qo ?_ | refine Qp ?_ | refine fun _ => ?_)); refine QJ ?_; refine .inr ⟨_, rfl, ?_⟩; exact ⟨f, v', Q3f hop hb0 (Q1M hX g1), rfl, hS.sp⟩) (h := ?_); rintro u1 w2 ⟨xs, l4, vc, c2, g1, g2, hle2, hkr, hvc, hS⟩; have hX := Q1O hX g1; (try dsimp only at hX); have hor := Rep.SR.oneC hkr; refine zf0 ?_; refine zst hS ?_; intro w1 hS; have hS := hS.ns; refine zn ?_; refine Q1 ?_; refine zm ?_; refine zE3 (c := Qcw hvc hS) (p := by rintro u9 w9 ⟨f, v', g1, rfl, hS⟩; (repeat (first | refine Qo ?_ | refine Qp ?_ | refine fun _ => ?_)); refine QJ ?_; refine .inr ⟨_, rfl, ?_⟩; exact ⟨f, v', Q3f hop hb0 (Q1M hX g1), rfl, St.weak hS.sp hle2⟩) (h := ?_); rintro u1 w2 ⟨ys, l5, vc, c3, g1, g3, hle3, hka, hvc, hS⟩; have hX := Q1O hX g1; (try dsimp only at hX); have hoa := Rep.SR.oneC hka)
                                                 all_goals (refine zf0 ?_; refine zst hS ?_; intro w1 hS; have hS := hS.ns)
                                                 all_goals refine zn ?_)
                                              | (refine zcf ?_ -- Q7 c15
                                                 all_goals refine zsk ?_)))))))
              all_goals (first | (exact ⟨_, _, _, cx, _, _, zh, zh, hb0, hX, (by have z1 := Q8 r; have z2 := Q8 r.tail; have z3 := Q8 r.tail.tail; have z4 := Q8 r.tail.tail.tail; omega), hle, ⟨_, _, rfl, hnil, hnil⟩, hvc, hS.sp⟩) | (exact ⟨_, _, _, _, _, _, zh, zh, hb0, hX, (by have z1 := Q8 r; have z2 := Q8 r.tail; have z3 := Q8 r.tail.tail; have z4 := Q8 r.tail.tail.tail; omega), hle2, ⟨_, _, rfl, hnil.up hle2, hka⟩, hvc, hS.sp⟩) | (exact ⟨_, _, _, _, _, _, zh, zh, hb0, hX, (by have z1 := Q8 r; have z2 := Q8 r.tail; have z3 := Q8 r.tail.tail; have z4 := Q8 r.tail.tail.tail; omega), hle2.trans hle3, ⟨_, _, rfl, hkr.up hle3, hka⟩, hvc, hS.sp⟩) | (exact ⟨_, _, _, cx, _, _, zh, zh, hb0, pb_0 (by omega), (by have z1 := Q8 r; have z2 := Q8 r.tail; have z3 := Q8 r.tail.tail; have z4 := Q8 r.tail.tail.tail; omega), hle, ⟨_, _, rfl, hnil, hnil⟩, hvc, hS.sp⟩))))
  rintro ρ w1 ⟨x, l2, v2, c5, vr, va, hA, hρ, hb0, hx, hl2, hle5, hd5, hv2, hS⟩; obtain ⟨ρ, rfl⟩ := env2 hA hρ
  all_goals (refine Q0 ?_; refine Q1 ?_; refine zm ?_; refine zB1 hS [_] ?_; intro b1 w1 hS; have hS := Q25 (s := [59]) hS; refine zE2 (c := Q24 hv2 hS) (p := by rintro u9 w9 ⟨f9, v8, hw1, rfl, hS⟩; (repeat (first | refine Qo ?_ | refine Qp ?_ | refine fun _ => ?_)); refine QJ ?_; refine .inr ⟨_, rfl, ?_⟩; exact ⟨_, _, ins_we hop hb0 hx hw1, rfl, St.weak hS.sp hle5⟩) (h := ?_); rintro u1 w2 ⟨rfl, hw1, v9, hv9, hS⟩; refine zn ?_; refine Q0 ?_; refine Q1 ?_; refine zv hS ?_; refine zsn hS ?_; intro w1 hS; have hS := hS.ns; refine zm ?_; refine zn ?_; refine zr ?_; refine QV vw (Q5 (n := 8) (by kernel_rfl) (by kernel_rfl) (hS.blkAt fd) (by rfl) (by rfl)) vw ?_; (first | exact .inl ⟨_, rfl, .inl ⟨Qbi (by omega), rfl, hS.sp⟩⟩ | exact .inl ⟨_, rfl, .inr ⟨x, l2.tail, v9, c5, _, ins_o hop hb0 hx hw1, (by have z1 := Q8 l2; show l2.tail.length < r.length + 1; omega), hle5, hd5, rfl, hv9, hS.sp⟩⟩))
theorem prins_c {pb e : Nat} {v : Value} {l : List Tok} (hv : tokR.sl cx v l) (hS : St cx w (prs pb v e :: L)) :
    Fins Tryz.prog Q7 [.pointer (some ⟨pb, 0, none⟩)] w (InsS pb e v l cx L) (PBad (pIns e l) pb e cx L) := by
  rcases l with _ | ⟨⟨a, t2, m⟩, r⟩
  · exact prins_n hv hS
  · cases m with
    | some n => exact prins_s hv hS
    | none => exact prins_w hv hS
end Go.Proofs.YtjecflbbcnocdaaGreatDoor
namespace Go.Lir
section
variable {e : Nat} {l l1 l2 : List Tok} {t : Tail} {g : Flt}
theorem to_X : pTo e l = Q6 (pNum e l) fun b l => Q6 (Qh6 e l) fun regs l => Q6 (Q4T e l) fun args l => .ok (⟨b, regs, args⟩, l) := rfl
theorem tail_j (h : isT Qf8 l = true) : Q3W e l = Q6 (pTo e l.tail) fun y l => .ok (⟨1, 0, y, ⟨0, [], []⟩, []⟩, l) := by unfold Q3W; rw [if_pos h]
theorem tail_i (h : isT Qf8 l = false) (h2 : isT tIf l = true) : Q3W e l = Q6 (pNum e l.tail) fun a l => Q6 (want e tTo l) fun _ l => Q6 (pTo e l) fun y l => Q6 (want e Qjd l) fun _ l => Q6 (pTo e l) fun n l => .ok (⟨2, a, y, n, []⟩, l) := by
  unfold Q3W; rw [if_neg (by rw [h]; decide), if_pos h2]
theorem tail_r (h : isT Qf8 l = false) (h2 : isT tIf l = false) : Q3W e l = Q6 (want e tRet l) fun _ l => Q6 (Q4T e l) fun args l => .ok (⟨3, 0, ⟨0, [], []⟩, ⟨0, [], []⟩, args⟩, l) := by
  unfold Q3W; rw [if_neg (by rw [h]; decide), if_neg (by rw [h2]; decide)]
theorem QeZ (h : Q3W e l = .error g) : Q3R e l = .error g := by unfold Q3R; rw [h]; rfl
theorem ends_w (h : Q3W e l = .ok (t, l1)) (h2 : want e [59] l1 = .error g) : Q3R e l = .error g := by unfold Q3R; rw [h]; simp only [Q6, h2]
theorem ends_o (h : Q3W e l = .ok (t, l1)) (h2 : want e [59] l1 = .ok ((), l2)) : Q3R e l = .ok (t, l2) := by unfold Q3R; rw [h]; simp only [Q6, h2]
end
end Go.Lir
namespace Go.Proofs.YtjecflbbcnocdaaGreatDoor
open Go.Lir
set_option maxHeartbeats 1000000
attribute [local irreducible] LC.wp Q2 QA QB retQ Q1e LO.wp Qj Calls
set_option linter.unusedSimpArgs false
set_option linter.unusedVariables false
attribute [local irreducible] pMany Q15 Q2Y pNum want isT pTyp Q38 pTo Q3W Q3R
variable {cx : Cx} {w : World} {L : List Res}
theorem Qu1 {pb e : Nat} {v : Value} {l : List Tok} (hv : tokR.sl cx v l) (hS : St cx w (prs pb v e :: L)) :
    Fins Tryz.prog Q7l [.pointer (some ⟨pb, 0, none⟩)] w (POk toR Q5P (pTo e l) pb e l.length cx L) (PBad (pTo e l) pb e cx L) := by
  have hX := to_X (e := e) (l := l)
  have z1 := Q8 l
  unfold Fins
  all_goals refine Qb8 ?_
  all_goals (unfold parse_parser_to_lc; refine Q0 ?_; refine Q1 ?_; refine Q9 hS ?_; intro p2 w1 hS; refine zn ?_; refine Q0 ?_; have hS : St _ _ (prs pb v e :: blk p2 48 [.int .i64 0, .slice none 0 0, .slice none 0 0] :: L) := hS.sp; refine Q1 ?_; refine zm ?_; refine zE1 (c := Q2t hv hS) (p := by rintro u9 w9 ⟨f, v', g1, rfl, hS⟩; (repeat (first | refine Qo ?_ | refine Qp ?_ | refine fun _ => ?_)); refine QJ ?_; refine .inr ⟨_, rfl, ?_⟩; exact ⟨_, _, Q1M hX g1, rfl, hS.sp⟩) (h := ?_); rintro u1 w2 ⟨b, vc, g1, rfl, hvc, hS⟩; have hX := Q1O hX g1; (try dsimp only at hX); refine zb1 [_, _, _] ?_; refine Q9 hS ?_; intro p3 w1 hS; refine zsn hS ?_; intro w1 hS; have hS := hS.ns; refine zn ?_; refine Q0 ?_; refine Q1 ?_; refine zm ?_; refine zE3 (c := Qcw hvc (St.mv1 hS)) (p := by rintro u9 w9 ⟨f, v', g1, rfl, hS⟩; (repeat (first | refine Qo ?_ | refine Qp ?_ | refine fun _ => ?_)); refine QJ ?_; refine .inr ⟨_, rfl, ?_⟩; exact ⟨_, _, Q1M hX g1, rfl, hS.sp⟩) (h := ?_); rintro u1 w2 ⟨xs, l4, vc, c2, g1, g2, hle2, hkr, hvc, hS⟩; have hX := Q1O hX g1; (try dsimp only at hX); have hor := Rep.SR.oneC hkr; refine zf0 ?_; refine zst hS ?_; intro w1 hS; have hS := hS.ns; refine zn ?_; refine Q0 ?_; refine Q1 ?_; refine zm ?_; refine zE3 (c := Qcw hvc hS) (p := by rintro u9 w9 ⟨f, v', g1, rfl, hS⟩; (repeat (first | refine Qo ?_ | refine Qp ?_ | refine fun _ => ?_)); refine QJ ?_; refine .inr ⟨_, rfl, ?_⟩; exact ⟨_, _, Q1M hX g1, rfl, St.weak hS.sp hle2⟩) (h := ?_); rintro u1 w2 ⟨ys, l5, vc, c3, g1, g3, hle3, hka, hvc, hS⟩; have hX := Q1O hX g1; (try dsimp only at hX); have hoa := Rep.SR.oneC hka)
  all_goals (refine zf0 ?_; refine zst hS ?_; intro w1 hS; have hS := hS.ns; refine zn ?_; refine Q0 ?_; refine Q1 ?_; refine zv hS ?_; refine zsn hS ?_; intro w1 hS; have hS := hS.ns; refine zn ?_; refine zr ?_; refine Q16 vw (Q5 (n := 3) (by kernel_rfl) (by kernel_rfl) (hS.blkAt fd) (by rfl) (by rfl)) ?_; exact .inl ⟨_, rfl, ⟨b, xs, ys⟩, l5, vc, c3, _, hX, by omega, hle2.trans hle3, ⟨_, _, rfl, hkr.up hle3, hka⟩, rfl, hvc, hS.sp⟩)
theorem prends_c {pb e : Nat} {v : Value} {l : List Tok} (hv : tokR.sl cx v l) (hS : St cx w (prs pb v e :: L)) :
    Fins Tryz.prog Q1F [.pointer (some ⟨pb, 0, none⟩)] w (POk endR Q5P (Q3R e l) pb e l.length cx L) (PBad (Q3R e l) pb e cx L) := by
  have hle := St.refl hS
  have hnil : intR.sl cx (.slice none 0 0) [] := Rep.SR.nil _ _ _
  have z1 := Q8 l
  have z2 := Q8 l.tail
  have z3 := Q8 l.tail.tail
  unfold Fins
  all_goals refine Q9z ?_
  all_goals (unfold parse_parser_ends_lc; refine Q0 ?_; refine Q1 ?_; refine Q9 hS ?_; intro p2 w1 hS; refine zn ?_; refine Q0 ?_; refine Q1 ?_; refine Q9 hS ?_; intro p3 w1 hS; refine zn ?_)
  refine zM [0, 2, 3] (fun A ρ' w' => ∃ (t : Tail) (l2 : List Tok) (v2 : Value) (c5 : Cx) (y1 y2 n1 n2 ar : Value), Has ρ' A ∧ Has ρ' [] ∧ (Q3W e l = .ok (t, l2)) ∧ (l2.length ≤ l.length) ∧ (cx.Le c5) ∧ (endR.at c5 [.int .i64 t.op, .int .i64 t.a, .int .i64 t.yes.block, y1, y2, .int .i64 t.no.block, n1, n2, ar] t) ∧ (tokR.sl c5 v2 l2) ∧ St c5 w' (prs pb v2 e :: blk p3 50 [.int .i64 t.op, .int .i64 t.a, .int .i64 t.yes.block, y1, y2, .int .i64 t.no.block, n1, n2, ar] :: blk p2 50 [.int .i64 0, .int .i64 0, .int .i64 0, .slice none 0 0, .slice none 0 0, .int .i64 0, .slice none 0 0, .slice none 0 0, .slice none 0 0] :: L)) ?_ ?_
  · skip
    all_goals (refine Qa ?_; refine Q0 ?_; refine Q1 ?_; refine zm ?_)
    all_goals (have hS : St _ _ (prs pb v e :: blk p3 50 [.int .i64 0, .int .i64 0, .int .i64 0, .slice none 0 0, .slice none 0 0, .int .i64 0, .slice none 0 0, .slice none 0 0, .slice none 0 0] :: blk p2 50 [.int .i64 0, .int .i64 0, .int .i64 0, .slice none 0 0, .slice none 0 0, .int .i64 0, .slice none 0 0, .slice none 0 0, .slice none 0 0] :: L) := hS.sp; refine zR2 (c := is_c (s := Qf8) hv hS) (h := ?_); rintro u1 w1 ⟨rfl, hS⟩; cases q0 : isT Qf8 l)
    all_goals (refine zm ?_; refine zn ?_)
    all_goals
      first
      | (refine zct ?_ -- Q1F c0
         all_goals (refine Q0 ?_; have hX := tail_j (e := e) q0; refine Q1 ?_; refine zm ?_; obtain ⟨t9, ht9⟩ := QcN q0; refine zR1 (c := Qa2 ht9 hv hS) (h := ?_); rintro u1 w1 ⟨rfl, vc, hvc, hS⟩; refine zn ?_; refine Q1 ?_; refine zm ?_; refine zE1 (c := Qu1 hvc hS) (p := by rintro u9 w9 ⟨f, v', g1, rfl, hS⟩; (repeat (first | refine Qo ?_ | refine Qp ?_ | refine fun _ => ?_)); refine QJ ?_; refine .inr ⟨_, rfl, ?_⟩; exact ⟨_, _, QeZ (Q1M hX g1), rfl, hS.sp⟩) (h := ?_); rintro u1 w2 ⟨a1, l1, vc, c2, ds, g1, k1, hle2, hd1, rfl, hvc, hS⟩; have hX := Q1O hX g1; (try dsimp only at hX); obtain ⟨u1, u2, rfl, e1, e2⟩ := Q4F hd1; have hq : endR.at c2 [.int .i64 1, .int .i64 0, .int .i64 a1.block, u1, u2, .int .i64 0, .slice none 0 0, .slice none 0 0, .slice none 0 0] (⟨1, 0, a1, ⟨0, [], []⟩, []⟩ : Tail) := ⟨_, _, _, _, _, rfl, e1, e2, hnil.up hle2, hnil.up hle2, hnil.up hle2⟩; have oq := endR.one hq; unfold Q5P; refine zb2 [_, _, _, _, _, _, _, _, _] ?_; refine zsn hS ?_; intro w1 hS; have hS := hS.ns)
         all_goals refine zn ?_)
      | (refine zcf ?_ -- Q1F c0
         all_goals (refine Q0 ?_; refine Q1 ?_; refine zm ?_)
         all_goals (refine zR2 (c := is_c (s := tIf) hv hS) (h := ?_); rintro u1 w1 ⟨rfl, hS⟩; cases q1 : isT tIf l)
         all_goals (refine zm ?_; refine zn ?_)
         all_goals
           first
           | (refine zct ?_ -- Q1F c1
              all_goals (refine Q0 ?_; have hX := tail_i (e := e) q0 q1; refine Q1 ?_; refine zm ?_; obtain ⟨t9, ht9⟩ := QcN q1; refine zR1 (c := Qa2 ht9 hv hS) (h := ?_); rintro u1 w1 ⟨rfl, vc, hvc, hS⟩; refine zn ?_; refine Q0 ?_; refine Q1 ?_; refine zm ?_; refine zE1 (c := Q2t hvc hS) (p := by rintro u9 w9 ⟨f, v', g1, rfl, hS⟩; (repeat (first | refine Qo ?_ | refine Qp ?_ | refine fun _ => ?_)); refine QJ ?_; refine .inr ⟨_, rfl, ?_⟩; exact ⟨_, _, QeZ (Q1M hX g1), rfl, hS.sp⟩) (h := ?_); rintro u1 w2 ⟨m, vc, g1, rfl, hvc, hS⟩; have hX := Q1O hX g1; (try dsimp only at hX); refine zb2 [_, _, _, _, _, _, _, _, _] ?_; refine zsn hS ?_; intro w1 hS; have hS := hS.ns; refine zn ?_; refine Q0 ?_; refine Q1 ?_; refine zm ?_; refine zB1 hS [_] ?_; intro b1 w1 hS; have hS := Q25 (s := tTo) hS; refine zE2 (c := Q24 hvc hS) (p := by rintro u9 w9 ⟨f, v', g1, rfl, hS⟩; (repeat (first | refine Qo ?_ | refine Qp ?_ | refine fun _ => ?_)); refine QJ ?_; refine .inr ⟨_, rfl, ?_⟩; exact ⟨_, _, QeZ (Q1M hX g1), rfl, hS.sp⟩) (h := ?_); rintro u1 w2 ⟨rfl, g1, vc, hvc, hS⟩; have hX := Q1O hX g1; (try dsimp only at hX); refine zn ?_; refine Q0 ?_; refine Q1 ?_; refine zm ?_; refine zE1 (c := Qu1 hvc hS) (p := by rintro u9 w9 ⟨f, v', g1, rfl, hS⟩; (repeat (first | refine Qo ?_ | refine Qp ?_ | refine fun _ => ?_)); refine QJ ?_; refine .inr ⟨_, rfl, ?_⟩; exact ⟨_, _, QeZ (Q1M hX g1), rfl, hS.sp⟩) (h := ?_); rintro u1 w2 ⟨a1, l1, vc, c2, ds, g1, k1, hle2, hd1, rfl, hvc, hS⟩; have hX := Q1O hX g1; (try dsimp only at hX); obtain ⟨u1, u2, rfl, e1, e2⟩ := Q4F hd1; unfold Q5P; have z4 := Q8 l1)
              all_goals (refine zf0 ?_; (first | (refine zsn hS ?_; intro w1 hS; have hS := hS.ns) | (refine zsm hS ?_; intro w1 hS; have hS := hS.ns)); refine zn ?_; refine Q0 ?_; refine Q1 ?_; refine zm ?_; refine zB1 hS [_] ?_; intro b1 w1 hS; have hS := Q25 (s := Qjd) hS; refine zE2 (c := Q24 hvc hS) (p := by rintro u9 w9 ⟨f, v', g1, rfl, hS⟩; (repeat (first | refine Qo ?_ | refine Qp ?_ | refine fun _ => ?_)); refine QJ ?_; refine .inr ⟨_, rfl, ?_⟩; exact ⟨_, _, QeZ (Q1M hX g1), rfl, St.weak hS.sp hle2⟩) (h := ?_); rintro u1 w2 ⟨rfl, g1, vc, hvc, hS⟩; have hX := Q1O hX g1; (try dsimp only at hX); refine zn ?_; refine Q1 ?_; refine zm ?_; refine zE1 (c := Qu1 hvc hS) (p := by rintro u9 w9 ⟨f, v', g1, rfl, hS⟩; (repeat (first | refine Qo ?_ | refine Qp ?_ | refine fun _ => ?_)); refine QJ ?_; refine .inr ⟨_, rfl, ?_⟩; exact ⟨_, _, QeZ (Q1M hX g1), rfl, St.weak hS.sp hle2⟩) (h := ?_); rintro u1 w2 ⟨a2, l2, vc, c3, ds, g1, k2, hle3, hd2, rfl, hvc, hS⟩; have hX := Q1O hX g1; (try dsimp only at hX); obtain ⟨u3, u4, rfl, e3, e4⟩ := Q4F hd2; have hq : endR.at c3 [.int .i64 2, .int .i64 m, .int .i64 a1.block, u1, u2, .int .i64 a2.block, u3, u4, .slice none 0 0] (⟨2, m, a1, a2, []⟩ : Tail) := ⟨_, _, _, _, _, rfl, e1.up hle3, e2.up hle3, e3, e4, hnil.up (hle2.trans hle3)⟩; have oq := endR.one hq; unfold Q5P; refine zf0 ?_; (first | (refine zsn hS ?_; intro w1 hS; have hS := hS.ns) | (refine zsm hS ?_; intro w1 hS; have hS := hS.ns)))
              all_goals refine zn ?_)
           | (refine zcf ?_ -- Q1F c1
              all_goals (refine Q0 ?_; have hX := tail_r (e := e) q0 q1; refine Q1 ?_; refine zm ?_; refine zB1 hS [_] ?_; intro b1 w1 hS; have hS := Q25 (s := tRet) hS; refine zE2 (c := Q24 hv hS) (p := by rintro u9 w9 ⟨f, v', g1, rfl, hS⟩; (repeat (first | refine Qo ?_ | refine Qp ?_ | refine fun _ => ?_)); refine QJ ?_; refine .inr ⟨_, rfl, ?_⟩; exact ⟨_, _, QeZ (Q1M hX g1), rfl, hS.sp⟩) (h := ?_); rintro u1 w2 ⟨rfl, g1, vc, hvc, hS⟩; have hX := Q1O hX g1; (try dsimp only at hX); refine zn ?_; refine Q1 ?_; refine zm ?_; refine zE3 (c := Qcw hvc hS) (p := by rintro u9 w9 ⟨f, v', g1, rfl, hS⟩; (repeat (first | refine Qo ?_ | refine Qp ?_ | refine fun _ => ?_)); refine QJ ?_; refine .inr ⟨_, rfl, ?_⟩; exact ⟨_, _, QeZ (Q1M hX g1), rfl, hS.sp⟩) (h := ?_); rintro u1 w2 ⟨xs, l1, vc, c2, g1, k1, hle2, hka, hvc, hS⟩; have hX := Q1O hX g1; (try dsimp only at hX); have hq : endR.at c2 [.int .i64 3, .int .i64 0, .int .i64 0, .slice none 0 0, .slice none 0 0, .int .i64 0, .slice none 0 0, .slice none 0 0, u1] (⟨3, 0, ⟨0, [], []⟩, ⟨0, [], []⟩, xs⟩ : Tail) := ⟨_, _, _, _, _, rfl, hnil.up hle2, hnil.up hle2, hnil.up hle2, hnil.up hle2, hka⟩; have oq := endR.one hq; obtain ⟨au, nu, rfl⟩ := Rep.SR.shape hka; refine zb2 [_, _, _, _, _, _, _, _, _] ?_; refine zsn hS ?_; intro w1 hS; have hS := hS.ns)
              all_goals refine zn ?_))
    all_goals ((first | (exact ⟨⟨1, 0, a1, ⟨0, [], []⟩, []⟩, l1, vc, c2, u1, u2, _, _, _, zh, zh, hX, by omega, hle2, ⟨_, _, _, _, _, rfl, e1, e2, hnil.up hle2, hnil.up hle2, hnil.up hle2⟩, hvc, hS.sp⟩) | (exact ⟨⟨2, m, a1, a2, []⟩, l2, vc, c3, u1, u2, u3, u4, _, zh, zh, hX, by omega, hle2.trans hle3, ⟨_, _, _, _, _, rfl, e1.up hle3, e2.up hle3, e3, e4, hnil.up (hle2.trans hle3)⟩, hvc, hS.sp⟩) | (exact ⟨⟨3, 0, ⟨0, [], []⟩, ⟨0, [], []⟩, xs⟩, l1, vc, c2, _, _, _, _, _, zh, zh, hX, by omega, hle2, ⟨_, _, _, _, _, rfl, hnil.up hle2, hnil.up hle2, hnil.up hle2, hnil.up hle2, hka⟩, hvc, hS.sp⟩)))
  rintro ρ w1 ⟨t, l2, v2, c5, y1, y2, n1, n2, ar, hA, hρ, hx, hl2, hle5, hd5, hv2, hS⟩; obtain ⟨ρ, rfl⟩ := env2 hA hρ
  all_goals (refine Q0 ?_; refine Q1 ?_; refine zm ?_; refine zB1 hS [_] ?_; intro b1 w1 hS; have hS := Q25 (s := [59]) hS; refine zE2 (c := Q24 hv2 hS) (p := by rintro u9 w9 ⟨f9, v8, hw1, rfl, hS⟩; (repeat (first | refine Qo ?_ | refine Qp ?_ | refine fun _ => ?_)); refine QJ ?_; refine .inr ⟨_, rfl, ?_⟩; exact ⟨_, _, ends_w hx hw1, rfl, St.weak hS.sp hle5⟩) (h := ?_); rintro u1 w2 ⟨rfl, hw1, v9, hv9, hS⟩; have hd6 := hd5; obtain ⟨w5, w6, w7, w8, w9, e9, i1, i2, i3, i4, i5⟩ := Qbl hd5; have hone := endR.one hd6; refine zn ?_; refine Q0 ?_; refine Q1 ?_; refine zv hS ?_; refine zsn hS ?_; intro w1 hS; have hS := hS.ns; refine zn ?_; refine zr ?_; refine Q16 vw (Q5 (n := 9) (by kernel_rfl) (by kernel_rfl) (hS.blkAt fd) (by rfl) (by rfl)) ?_; exact .inl ⟨_, rfl, t, l2.tail, v9, c5, _, ends_o hx hw1, (by have z9 := Q8 l2; omega), hle5, hd6, rfl, hv9, hS.sp⟩)
end Go.Proofs.YtjecflbbcnocdaaGreatDoor
namespace Go.Lir
section
variable {α β : Type} {e k : Nat} {f : List Tok → PGot (Option α)} {q : List Tok → PGot α} {p : List Tok → Bool} {l l1 l2 : List Tok} {xs : List α} {a : α} {g : Flt} {X : PGot (List α)}
theorem QuM : Q2G e l = Q6 (want e Q2d l) fun _ l => Q6 (pNum e l) fun regs l => Q6 (Q2v e l) fun ps l => Q6 (want e [123] l) fun _ l => Q6 (pAll (pIns e) l) fun code l => Q6 (Q3R e l) fun fin l => Q6 (want e [125] l) fun _ l => .ok (⟨regs, ps, code, fin⟩, l) := rfl
theorem func_X : pFun e l = Q6 (want e Qpx l) fun _ l => Q6 (pNum e l) fun regs l => Q6 (Q2v e l) fun ps l => Q6 (want e QaU l) fun _ l => Q6 (Q2v e l) fun rs l => Q6 (want e [123] l) fun _ l => Q6 (pAll (pIf (isT Q2d) (Q2G e)) l) fun bl l => Q6 (want e [125] l) fun _ l => .ok (⟨regs, ps, rs, bl⟩, l) := rfl
theorem QrV (f : List Tok → PGot (Option α)) (l : List Tok) : pAll f l = Q2Y [] (pOpts f (l.length + 1) l) := (Qui _).symm
theorem Qom (hd : X = Q2Y xs (pOpts f k l)) (hk : l.length < k) (h : f l = .error g) : X = .error g := by
  obtain ⟨k, rfl⟩ : ∃ m, k = m + 1 := ⟨k - 1, by omega⟩
  rw [hd, pOpts, h]; rfl
theorem Qol (hd : X = Q2Y xs (pOpts f k l)) (hk : l.length < k) (h : f l = .ok (none, l2)) : X = .ok (xs, l2) := by
  obtain ⟨k, rfl⟩ : ∃ m, k = m + 1 := ⟨k - 1, by omega⟩
  rw [hd, pOpts, h]; simp [Q6, Q2Y]
theorem QrU (hd : X = Q2Y xs (pOpts f k l)) (hk : l.length < k) (h : f l = .ok (some a, l2)) : X = Q2Y (xs ++ [a]) (pOpts f (k - 1) l2) := by
  obtain ⟨k, rfl⟩ : ∃ m, k = m + 1 := ⟨k - 1, by omega⟩
  rw [hd, pOpts, h, show k + 1 - 1 = k by omega]
  simp only [Q6]
  cases pOpts f k l2 with
  | error e => rfl
  | ok y => obtain ⟨y, r⟩ := y; simp [Q2Y]
theorem pif_e (h : p l = true) (h2 : q l = .error g) : pIf p q l = .error g := by unfold pIf; rw [if_pos h, h2]; rfl
theorem pif_o (h : p l = true) (h2 : q l = .ok (a, l2)) : pIf p q l = .ok (some a, l2) := by unfold pIf; rw [if_pos h, h2]; rfl
theorem pif_n (h : p l = false) : pIf p q l = .ok (none, l) := by unfold pIf; rw [if_neg (by rw [h]; decide)]
end
def QoG (w : World) (b j : Nat) : Value := (w.cell? ⟨b, j, none⟩).getD undef
theorem Q33 {w : World} {c : Cx} {L : List Res} {T b j i : Nat} {cs : List Value} {u : Value} (hS : St c w L) (hi : nth L i = some (blk b T cs)) (hj : cs[j]? = some u) : QoG w b j = u := by
  unfold QoG; rw [(hS.blkAt hi).cell hj]; rfl
end Go.Lir
namespace Go.Proofs.YtjecflbbcnocdaaGreatDoor
open Go.Lir
set_option maxHeartbeats 1000000
attribute [local irreducible] LC.wp Q2 QA QB retQ Q1e LO.wp Qj Calls
set_option linter.unusedSimpArgs false
set_option linter.unusedVariables false
attribute [local irreducible] pMany Q15 Q2Y pNum want isT pTyp Q38 pTo Q3W Q3R pIns Q2v pOpts pAll pIf Q2G pFun
variable {cx : Cx} {w : World} {L : List Res}
/-- An instruction, or none, which is all noughts. -/
def InsU (pb e : Nat) (l : List Tok) (cx : Cx) (L : List Res) (u : Value) (w' : World) : Prop :=
  ∃ x bb l' v' c' vr va, pIns e l = .ok (if bb = true then some x else none, l') ∧ l'.length ≤ l.length ∧ (bb = true → l'.length < l.length) ∧ cx.Le c' ∧ insR.at c' [.int .i64 x.op, .int .i64 x.a, .int .i64 x.b, .int .i64 x.c, .int .i64 x.k, .int .i64 x.n, vr, va] x ∧ u = .tuple #[.agg ⟨[.int .i64 x.op, .int .i64 x.a, .int .i64 x.b, .int .i64 x.c, .int .i64 x.k, .int .i64 x.n, vr, va]⟩, .bool bb] ∧ tokR.sl c' v' l' ∧ St c' w' (prs pb v' e :: L)
theorem Qu2 {pb e : Nat} {v : Value} {l : List Tok} (hv : tokR.sl cx v l) (hS : St cx w (prs pb v e :: L)) :
    Fins Tryz.prog Q7 [.pointer (some ⟨pb, 0, none⟩)] w (InsU pb e l cx L) (PBad (pIns e l) pb e cx L) := by
  refine Fins.mono (prins_c hv hS) ?_ (fun _ _ h => h)
  rintro u w' (⟨h1, rfl, hS'⟩ | ⟨x, l', v', c', ds, h1, h2, hle, hx, rfl, hv', hS'⟩)
  · exact ⟨⟨0, 0, 0, 0, 0, 0, [], []⟩, false, l, v, cx, _, _, h1, Nat.le_refl _, (fun h => by cases h), St.refl hS, ⟨_, _, rfl, Rep.SR.nil _ _ _, Rep.SR.nil _ _ _⟩, rfl, hv, hS'⟩
  · obtain ⟨vr, va, rfl, i1, i2⟩ := Q3M hx
    exact ⟨x, true, l', v', c', vr, va, h1, by omega, fun _ => h2, hle, ⟨_, _, rfl, i1, i2⟩, rfl, hv', hS'⟩
theorem Qu3 {pb e : Nat} {v : Value} {l : List Tok} (hN : l.length ≤ 100000) (hv : tokR.sl cx v l) (hS : St cx w (prs pb v e :: L)) :
    Fins Tryz.prog Q2g [.pointer (some ⟨pb, 0, none⟩)] w (POk blockR Q5P (Q2G e l) pb e (l.length - 1) cx L) (PBad (Q2G e l) pb e cx L) := by
  have hle := St.refl hS
  have hX := QuM (e := e) (l := l)
  unfold Fins
  all_goals refine Q7H ?_
  all_goals (unfold parse_parser_block_lc; refine Q0 ?_; refine Q1 ?_; refine Q9 hS ?_; intro p2 w1 hS; refine zn ?_; refine Q0 ?_; have hS : St cx _ (prs pb v e :: blk p2 52 [.int .i64 0, .slice none 0 0, .slice none 0 0, .int .i64 0, .int .i64 0, .int .i64 0, .slice none 0 0, .slice none 0 0, .int .i64 0, .slice none 0 0, .slice none 0 0, .slice none 0 0] :: L) := hS.sp; refine Q1 ?_; refine zm ?_; refine zB1 hS [_] ?_; intro b1 w1 hS; have hS := Q25 (s := Q2d) hS; refine zE2 (c := Q24 hv hS) (p := by rintro u9 w9 ⟨f, v', g1, rfl, hS⟩; (repeat (first | refine Qo ?_ | refine Qp ?_ | refine fun _ => ?_)); refine QJ ?_; refine .inr ⟨_, rfl, ?_⟩; exact ⟨_, _, Q1M hX g1, rfl, St.weak hS.sp hle⟩) (h := ?_); rintro u1 w2 ⟨rfl, g1, vc, hvc, hS⟩; have z1 := (Q5n g1).2; have hX := Q1O hX g1; (try dsimp only at hX); refine zn ?_; refine Q0 ?_; refine Q1 ?_; refine zm ?_; refine zE1 (c := Q2t hvc hS) (p := by rintro u9 w9 ⟨f, v', g1, rfl, hS⟩; (repeat (first | refine Qo ?_ | refine Qp ?_ | refine fun _ => ?_)); refine QJ ?_; refine .inr ⟨_, rfl, ?_⟩; exact ⟨_, _, Q1M hX g1, rfl, St.weak hS.sp hle⟩) (h := ?_); rintro u1 w2 ⟨rg, vc, g1, rfl, hvc, hS⟩; have hX := Q1O hX g1; (try dsimp only at hX); have z2 := Q8 l.tail; refine zb1 [_, _, _, _, _, _, _, _, _, _, _, _] ?_; refine Q9 hS ?_; intro p3 w1 hS; refine zsn hS ?_; intro w1 hS; have hS := hS.ns)
  all_goals (refine zn ?_; refine Q0 ?_; have hS : St cx _ (prs pb vc e :: blk p3 52 [.int .i64 rg, .slice none 0 0, .slice none 0 0, .int .i64 0, .int .i64 0, .int .i64 0, .slice none 0 0, .slice none 0 0, .int .i64 0, .slice none 0 0, .slice none 0 0, .slice none 0 0] :: blk p2 52 [.int .i64 0, .slice none 0 0, .slice none 0 0, .int .i64 0, .int .i64 0, .int .i64 0, .slice none 0 0, .slice none 0 0, .int .i64 0, .slice none 0 0, .slice none 0 0, .slice none 0 0] :: L) := hS.sp; refine Q1 ?_; refine zm ?_)
  all_goals (refine zE1 (c := Qm0 hvc hS) (p := by rintro u9 w9 ⟨f, v', g1, rfl, hS⟩; (repeat (first | refine Qo ?_ | refine Qp ?_ | refine fun _ => ?_)); refine QJ ?_; refine .inr ⟨_, rfl, ?_⟩; exact ⟨_, _, Q1M hX g1, rfl, St.weak hS.sp hle⟩) (h := ?_); rintro vps w2 ⟨ps, l4, vc, c2, g1, k1, hle2, hkp, hvc, hS⟩; have hX := Q1O hX g1; (try dsimp only at hX); (try have hle := hle.trans hle2); have ho := Rep.SR.oneC hkp)
  all_goals (refine zf0 ?_; refine zst hS ?_; intro w1 hS; have hS := hS.ns; refine zn ?_; refine Q0 ?_; have hS : St c2 _ (prs pb vc e :: blk p3 52 [.int .i64 rg, vps, .slice none 0 0, .int .i64 0, .int .i64 0, .int .i64 0, .slice none 0 0, .slice none 0 0, .int .i64 0, .slice none 0 0, .slice none 0 0, .slice none 0 0] :: blk p2 52 [.int .i64 0, .slice none 0 0, .slice none 0 0, .int .i64 0, .int .i64 0, .int .i64 0, .slice none 0 0, .slice none 0 0, .int .i64 0, .slice none 0 0, .slice none 0 0, .slice none 0 0] :: L) := hS.sp; refine Q1 ?_; refine zm ?_; refine zB1 hS [_] ?_; intro b1 w1 hS; have hS := Q25 (s := [123]) hS; refine zE2 (c := Q24 hvc hS) (p := by rintro u9 w9 ⟨f, v', g1, rfl, hS⟩; (repeat (first | refine Qo ?_ | refine Qp ?_ | refine fun _ => ?_)); refine QJ ?_; refine .inr ⟨_, rfl, ?_⟩; exact ⟨_, _, Q1M hX g1, rfl, St.weak hS.sp hle⟩) (h := ?_); rintro u1 w2 ⟨rfl, g1, vc, hvc, hS⟩; have z3 := (Q5n g1).2; have hX := Q1O hX g1; (try dsimp only at hX); have hd0 := QrV (pIns e) l4.tail; refine zn ?_; refine Q0 ?_; refine Q0 ?_; refine Q1 ?_; refine zm ?_)
  all_goals (refine zE1 (c := Qu2 hvc hS) (p := by rintro u9 w9 ⟨f, v', g1, rfl, hS⟩; (repeat (first | refine Qo ?_ | refine Qp ?_ | refine fun _ => ?_)); refine QJ ?_; refine .inr ⟨_, rfl, ?_⟩; exact ⟨_, _, Q1M hX (Qom hd0 (by omega) g1), rfl, St.weak hS.sp hle⟩) (h := ?_); rintro u1 w2 ⟨x, bb, l6, vc, c3, vr, va, g1, k2, k3, hle2, hx, rfl, hvc, hS⟩; (try have hle := hle.trans hle2); (try have hkp := hkp.up hle2))
  all_goals (refine zm ?_; refine zxt ?_; refine zxt ?_; refine Q9 hS ?_; intro p4 w1 hS; refine zsn hS ?_; intro w1 hS; have hS := hS.ns; refine zm ?_; refine zn ?_; refine Qa ?_)
  refine zo [0, 2, 3] (fun A ρ' w' => ∃ (k0 : Cx) (pq : Nat) (bb : Bool) (x : Ins) (vr va : Value) (l1 l2 : List Tok) (v2 : Value) (k : Nat) (xs : List Ins) (vb : Value) (cb : List (List Value)), Has ρ' A ∧ Has ρ' [(4, .pointer (some ⟨pq, 0, none⟩)), (5, .bool bb)] ∧ (c3.Le k0) ∧ (pIns e l1 = .ok (if bb = true then some x else none, l2)) ∧ (l1.length < k) ∧ (l2.length ≤ l1.length) ∧ (bb = true → l2.length < l1.length) ∧ (xs.length + l1.length ≤ l4.length) ∧ (insR.at k0 [.int .i64 x.op, .int .i64 x.a, .int .i64 x.b, .int .i64 x.c, .int .i64 x.k, .int .i64 x.n, vr, va] x) ∧ (tokR.sl k0 v2 l2) ∧ (insR.ls k0 cb xs) ∧ (oneC vb = true) ∧ (pAll (pIns e) l4.tail = Q2Y xs (pOpts (pIns e) k l1)) ∧ St k0 w' (prs pb v2 e :: sl 54 8 vb cb :: blk pq 54 [.int .i64 x.op, .int .i64 x.a, .int .i64 x.b, .int .i64 x.c, .int .i64 x.k, .int .i64 x.n, vr, va] :: blk p3 52 [.int .i64 rg, vps, vb, .int .i64 0, .int .i64 0, .int .i64 0, .slice none 0 0, .slice none 0 0, .int .i64 0, .slice none 0 0, .slice none 0 0, .slice none 0 0] :: blk p2 52 [.int .i64 0, .slice none 0 0, .slice none 0 0, .int .i64 0, .int .i64 0, .int .i64 0, .slice none 0 0, .slice none 0 0, .int .i64 0, .slice none 0 0, .slice none 0 0, .slice none 0 0] :: L)) (fun _ w' => l4.length + 1 - slen (QoG w' p3 2)) ?_ ?_
  · exact ⟨c3, p4, bb, x, vr, va, l4.tail, l6, vc, l4.tail.length + 1, [], .slice none 0 0, [], zh, zh, St.refl hS, g1, Nat.lt_succ_self _, k2, k3, (by simp only [List.length_nil]; omega), hx, hvc, Rep.LR.nil _ _ _, rfl, hd0, by have hS := hS.nil (T := 54) (es := 8); exact hS.sp⟩
  rintro ρ w1 ⟨k0, pq, bb, x, vr, va, l1, l2, v2, k, xs, vb, cb, hA, hρ, hle2, hq, hk, hl2, hlt, hxl, hx, hv2, hlb, hvb, hd, hS⟩; obtain ⟨ρ, rfl⟩ := env2 hA hρ; have hL0 := hle2; (try have hle := hle.trans hle2); (try have hvc := hvc.up hle2); (try have hkp := hkp.up hle2); have hm0 := Q33 (j := 2) hS (i := 3) rfl rfl; have hsl0 := St.slen hS (i := 1) rfl; have hcl0 := hlb.1
  unfold Q3Q
  all_goals (refine Q0 ?_; refine Q0 ?_)
  all_goals (cases bb)
  all_goals (refine Q1 ?_; refine zm ?_; refine zn ?_)
  all_goals
    first
    | (refine zct ?_ -- Q2g c0
       all_goals (refine zsk ?_; refine Q0 ?_; refine Qa ?_; have hlt := hlt rfl; have hd4 := QrU hd hk hq; refine Q1 ?_; refine zf0 ?_; refine zl hS ?_; refine zv hS ?_; refine zB1 hS [_, _, _, _, _, _, _, _] ?_; intro b1 w1 hS; refine za el_T45 u_T45 hS ?_; intro vp1 w1 css1 hls1 hv1 hS; have hS := hS.ns; refine zf0 ?_; refine zst hS ?_; intro w1 hS; have hS := hS.ns; refine zn ?_; refine Q0 ?_; refine Q0 ?_; refine Q1 ?_; refine zv hS ?_; refine zn ?_; refine Q1 ?_; refine Q9 hS ?_; intro p4 w1 hS; refine zsn hS ?_; intro w1 hS; have hS := hS.ns; refine zn ?_; have hS : St k0 _ (prs pb v2 e :: sl 54 8 vp1 css1 :: blk p4 54 [.int .i64 x.op, .int .i64 x.a, .int .i64 x.b, .int .i64 x.c, .int .i64 x.k, .int .i64 x.n, vr, va] :: blk p3 52 [.int .i64 rg, vps, vp1, .int .i64 0, .int .i64 0, .int .i64 0, .slice none 0 0, .slice none 0 0, .int .i64 0, .slice none 0 0, .slice none 0 0, .slice none 0 0] :: blk p2 52 [.int .i64 0, .slice none 0 0, .slice none 0 0, .int .i64 0, .int .i64 0, .int .i64 0, .slice none 0 0, .slice none 0 0, .int .i64 0, .slice none 0 0, .slice none 0 0, .slice none 0 0] :: L) := hS.sp)
       all_goals (refine Q1 ?_; refine zm ?_)
       all_goals (refine zE1 (c := Qu2 hv2 hS) (p := by rintro u9 w9 ⟨f, v', g3, rfl, hS⟩; (repeat (first | refine Qo ?_ | refine Qp ?_ | refine fun _ => ?_)); refine QJ ?_; refine .inr ⟨_, rfl, ?_⟩; exact ⟨_, _, Q1M hX (Qom hd4 (by omega) g3), rfl, St.weak hS.sp hle⟩) (h := ?_); rintro u1 w2 ⟨x3, b3, l7, v3, c4, vr3, va3, g3, k3, k4, hle2, hx3, rfl, hv3, hS⟩; (try have hle := hle.trans hle2); (try have hL0 := hL0.trans hle2); (try have hls1 := hls1.up hle2); (try have hvc := hvc.up hle2); (try have hkp := hkp.up hle2); (try have hlb := hlb.up hle2); (try have hx := hx.up hle2); (try have hv2 := hv2.up hle2); have hsl1 := St.slen hS (i := 1) rfl; have hcl1 := hls1.1; rw [List.length_append] at hcl1; have hc1 : [x].length = 1 := rfl)
       all_goals (refine zm ?_; refine zxt ?_; refine zxt ?_; refine zsn hS ?_; intro w1 hS; have hS := hS.ns; refine zm ?_; refine zn ?_)
       all_goals (exact ⟨⟨_, p4, b3, x3, vr3, va3, l2, l7, v3, k - 1, xs ++ [x], vp1, _, zh, zh, hL0, g3, by omega, k3, k4, (by rw [List.length_append]; omega), hx3, hv3, hls1, hv1, hd4, hS.sp⟩, by rw [hm0, Q33 (j := 2) hS (i := 3) rfl rfl]; omega⟩))
    | (refine zcf ?_ -- Q2g c0
       all_goals (refine zex ?_)
       all_goals (have hfin := Qol hd hk hq; have hX := Q1O hX hfin; (try dsimp only at hX); obtain ⟨c6, hle2, hS2, hkc⟩ := St.freezeL (r := insR) (hS.out (r := sl 54 8 vb cb) fd) hlb rfl (by omega); clear hS; have hS := hS2; simp only [List.eraseIdx_cons_zero, List.eraseIdx_cons_succ] at hS; (try have hle := hle.trans hle2); (try have hL0 := hL0.trans hle2); (try have hvc := hvc.up hle2); (try have hkp := hkp.up hle2); (try have hlb := hlb.up hle2); (try have hx := hx.up hle2); (try have hv2 := hv2.up hle2))
       all_goals (refine Q0 ?_; have hS : St c6 _ (prs pb v2 e :: blk p3 52 [.int .i64 rg, vps, vb, .int .i64 0, .int .i64 0, .int .i64 0, .slice none 0 0, .slice none 0 0, .int .i64 0, .slice none 0 0, .slice none 0 0, .slice none 0 0] :: blk p2 52 [.int .i64 0, .slice none 0 0, .slice none 0 0, .int .i64 0, .int .i64 0, .int .i64 0, .slice none 0 0, .slice none 0 0, .int .i64 0, .slice none 0 0, .slice none 0 0, .slice none 0 0] :: L) := hS.sp; refine Q1 ?_; refine zm ?_)
       all_goals (refine zE1 (c := prends_c hv2 hS) (p := by rintro u9 w9 ⟨f, v', g1, rfl, hS⟩; (repeat (first | refine Qo ?_ | refine Qp ?_ | refine fun _ => ?_)); refine QJ ?_; refine .inr ⟨_, rfl, ?_⟩; exact ⟨_, _, Q1M hX g1, rfl, St.weak hS.sp hle⟩) (h := ?_); rintro u1 w2 ⟨t, l8, v8, c7, ds, g1, k5, hle2, hd5, rfl, hvc, hS⟩; have hX := Q1O hX g1; (try dsimp only at hX); have hd6 := hd5; obtain ⟨y1, y2, y3, y4, y5, rfl, i1, i2, i3, i4, i5⟩ := Qbl hd5; unfold Q5P; (try have hle := hle.trans hle2); (try have hL0 := hL0.trans hle2); (try have hkp := hkp.up hle2); (try have hlb := hlb.up hle2); (try have hx := hx.up hle2); (try have hkc := hkc.up hle2); (try have hv2 := hv2.up hle2); have hone := endR.one hd6; have hbk : blockR.at c7 [.int .i64 rg, vps, vb, .int .i64 t.op, .int .i64 t.a, .int .i64 t.yes.block, y1, y2, .int .i64 t.no.block, y3, y4, y5] ⟨rg, ps, xs, t⟩ := QoI (x := ⟨rg, ps, xs, t⟩) hkp hkc i1 i2 i3 i4 i5)
       all_goals (refine zf0 ?_; (first | (refine zsn hS ?_; intro w1 hS; have hS := hS.ns) | (refine zsm hS ?_; intro w1 hS; have hS := hS.ns)); refine zn ?_; refine Q0 ?_; refine Q1 ?_; refine zm ?_; refine zB1 hS [_] ?_; intro b1 w1 hS; have hS := Q25 (s := [125]) hS; refine zE2 (c := Q24 hvc hS) (p := by rintro u9 w9 ⟨f, v', g1, rfl, hS⟩; (repeat (first | refine Qo ?_ | refine Qp ?_ | refine fun _ => ?_)); refine QJ ?_; refine .inr ⟨_, rfl, ?_⟩; exact ⟨_, _, Q1M hX g1, rfl, St.weak hS.sp hle⟩) (h := ?_); rintro u1 w2 ⟨rfl, g1, vc, hvc, hS⟩; have z9 := (Q5n g1).2; have hX := Q1O hX g1; (try dsimp only at hX); refine zn ?_; refine Q0 ?_; refine Q1 ?_; refine zv hS ?_; refine zsn hS ?_; intro w1 hS; have hS := hS.ns; refine zn ?_; refine zr ?_; refine Q16 vw (Q5 (n := 12) (by kernel_rfl) (by kernel_rfl) (hS.blkAt fd) (by rfl) (by rfl)) ?_)
       all_goals (exact .inl ⟨_, rfl, ⟨rg, ps, xs, t⟩, l8.tail, vc, c7, _, hX, by omega, hle, hbk, rfl, hvc, hS.sp⟩))
theorem prfun_c {pb e : Nat} {v : Value} {l : List Tok} (hN : l.length ≤ 100000) (hv : tokR.sl cx v l) (hS : St cx w (prs pb v e :: L)) :
    Fins Tryz.prog Q1V [.pointer (some ⟨pb, 0, none⟩)] w (POk funcR Q5P (pFun e l) pb e (l.length - 1) cx L) (PBad (pFun e l) pb e cx L) := by
  have hle := St.refl hS
  have hX := func_X (e := e) (l := l)
  unfold Fins
  all_goals refine Q5e ?_
  all_goals (unfold parse_parser_function_lc; refine Q0 ?_; refine Q1 ?_; refine Q9 hS ?_; intro p2 w1 hS; refine zn ?_; refine Q0 ?_; have hS : St cx _ (prs pb v e :: blk p2 43 [.int .i64 0, .slice none 0 0, .slice none 0 0, .slice none 0 0] :: L) := hS.sp; refine Q1 ?_; refine zm ?_; refine zB1 hS [_] ?_; intro b1 w1 hS; have hS := Q25 (s := Qpx) hS; refine zE2 (c := Q24 hv hS) (p := by rintro u9 w9 ⟨f, v', g1, rfl, hS⟩; (repeat (first | refine Qo ?_ | refine Qp ?_ | refine fun _ => ?_)); refine QJ ?_; refine .inr ⟨_, rfl, ?_⟩; exact ⟨_, _, Q1M hX g1, rfl, St.weak hS.sp hle⟩) (h := ?_); rintro u1 w2 ⟨rfl, g1, vc, hvc, hS⟩; have z1 := (Q5n g1).2; have hX := Q1O hX g1; (try dsimp only at hX); refine zn ?_; refine Q0 ?_; refine Q1 ?_; refine zm ?_; refine zE1 (c := Q2t hvc hS) (p := by rintro u9 w9 ⟨f, v', g1, rfl, hS⟩; (repeat (first | refine Qo ?_ | refine Qp ?_ | refine fun _ => ?_)); refine QJ ?_; refine .inr ⟨_, rfl, ?_⟩; exact ⟨_, _, Q1M hX g1, rfl, St.weak hS.sp hle⟩) (h := ?_); rintro u1 w2 ⟨rg, vc, g1, rfl, hvc, hS⟩; have hX := Q1O hX g1; (try dsimp only at hX); have z2 := Q8 l.tail; refine zb1 [_, _, _, _] ?_; refine Q9 hS ?_; intro p3 w1 hS; refine zsn hS ?_; intro w1 hS; have hS := hS.ns; refine zn ?_; refine Q0 ?_; have hS : St cx _ (prs pb vc e :: blk p3 43 [.int .i64 rg, .slice none 0 0, .slice none 0 0, .slice none 0 0] :: blk p2 43 [.int .i64 0, .slice none 0 0, .slice none 0 0, .slice none 0 0] :: L) := hS.sp)
  all_goals (refine Q1 ?_; refine zm ?_)
  all_goals (refine zE1 (c := Qm0 hvc hS) (p := by rintro u9 w9 ⟨f, v', g1, rfl, hS⟩; (repeat (first | refine Qo ?_ | refine Qp ?_ | refine fun _ => ?_)); refine QJ ?_; refine .inr ⟨_, rfl, ?_⟩; exact ⟨_, _, Q1M hX g1, rfl, St.weak hS.sp hle⟩) (h := ?_); rintro vps w2 ⟨ps, l4, vc, c2, g1, k1, hle2, hkp, hvc, hS⟩; have hX := Q1O hX g1; (try dsimp only at hX); (try have hle := hle.trans hle2); have ho := Rep.SR.oneC hkp)
  all_goals (refine zf0 ?_; refine zst hS ?_; intro w1 hS; have hS := hS.ns; refine zn ?_; refine Q0 ?_; have hS : St c2 _ (prs pb vc e :: blk p3 43 [.int .i64 rg, vps, .slice none 0 0, .slice none 0 0] :: blk p2 43 [.int .i64 0, .slice none 0 0, .slice none 0 0, .slice none 0 0] :: L) := hS.sp; refine Q1 ?_; refine zm ?_; refine zB1 hS [_] ?_; intro b1 w1 hS; have hS := Q25 (s := QaU) hS; refine zE2 (c := Q24 hvc hS) (p := by rintro u9 w9 ⟨f, v', g1, rfl, hS⟩; (repeat (first | refine Qo ?_ | refine Qp ?_ | refine fun _ => ?_)); refine QJ ?_; refine .inr ⟨_, rfl, ?_⟩; exact ⟨_, _, Q1M hX g1, rfl, St.weak hS.sp hle⟩) (h := ?_); rintro u1 w2 ⟨rfl, g1, vc, hvc, hS⟩; have z3 := (Q5n g1).2; have hX := Q1O hX g1; (try dsimp only at hX); refine zn ?_; refine Q0 ?_; have hS : St c2 _ (prs pb vc e :: blk p3 43 [.int .i64 rg, vps, .slice none 0 0, .slice none 0 0] :: blk p2 43 [.int .i64 0, .slice none 0 0, .slice none 0 0, .slice none 0 0] :: L) := hS.sp; refine Q1 ?_; refine zm ?_)
  all_goals (refine zE1 (c := Qm0 hvc hS) (p := by rintro u9 w9 ⟨f, v', g1, rfl, hS⟩; (repeat (first | refine Qo ?_ | refine Qp ?_ | refine fun _ => ?_)); refine QJ ?_; refine .inr ⟨_, rfl, ?_⟩; exact ⟨_, _, Q1M hX g1, rfl, St.weak hS.sp hle⟩) (h := ?_); rintro vrs w2 ⟨rs, l5, vc, c3, g1, k2, hle2, hkr, hvc, hS⟩; have hX := Q1O hX g1; (try dsimp only at hX); (try have hle := hle.trans hle2); (try have hkp := hkp.up hle2); have ho2 := Rep.SR.oneC hkr)
  all_goals (refine zf0 ?_; refine zst hS ?_; intro w1 hS; have hS := hS.ns; refine zn ?_; refine Q0 ?_; have hS : St c3 _ (prs pb vc e :: blk p3 43 [.int .i64 rg, vps, vrs, .slice none 0 0] :: blk p2 43 [.int .i64 0, .slice none 0 0, .slice none 0 0, .slice none 0 0] :: L) := hS.sp; refine Q1 ?_; refine zm ?_; refine zB1 hS [_] ?_; intro b1 w1 hS; have hS := Q25 (s := [123]) hS; refine zE2 (c := Q24 hvc hS) (p := by rintro u9 w9 ⟨f, v', g1, rfl, hS⟩; (repeat (first | refine Qo ?_ | refine Qp ?_ | refine fun _ => ?_)); refine QJ ?_; refine .inr ⟨_, rfl, ?_⟩; exact ⟨_, _, Q1M hX g1, rfl, St.weak hS.sp hle⟩) (h := ?_); rintro u1 w2 ⟨rfl, g1, vc, hvc, hS⟩; have z4 := (Q5n g1).2; have hX := Q1O hX g1; (try dsimp only at hX); have hd0 := QrV (pIf (isT Q2d) (Q2G e)) l5.tail; refine zn ?_; refine Q0 ?_; refine Qa ?_)
  refine zo [0, 2, 3] (fun A ρ' w' => ∃ (k0 : Cx) (l1 : List Tok) (v1 : Value) (k : Nat) (xs : List Block) (vb : Value) (cb : List (List Value)), Has ρ' A ∧ Has ρ' [] ∧ (c3.Le k0) ∧ (l1.length < k) ∧ (xs.length + l1.length ≤ l5.length) ∧ (tokR.sl k0 v1 l1) ∧ (blockR.ls k0 cb xs) ∧ (oneC vb = true) ∧ (pAll (pIf (isT Q2d) (Q2G e)) l5.tail = Q2Y xs (pOpts (pIf (isT Q2d) (Q2G e)) k l1)) ∧ St k0 w' (prs pb v1 e :: sl 52 12 vb cb :: blk p3 43 [.int .i64 rg, vps, vrs, vb] :: blk p2 43 [.int .i64 0, .slice none 0 0, .slice none 0 0, .slice none 0 0] :: L)) (fun _ w' => l5.length + 1 - slen (QoG w' p3 3)) ?_ ?_
  · exact ⟨c3, l5.tail, vc, l5.tail.length + 1, [], .slice none 0 0, [], zh, zh, St.refl hS, Nat.lt_succ_self _, (by simp only [List.length_nil]; omega), hvc, Rep.LR.nil _ _ _, rfl, hd0, by have hS := hS.nil (T := 52) (es := 12); exact hS.sp⟩
  rintro ρ w1 ⟨k0, l1, v1, k, xs, vb, cb, hA, hρ, hle2, hk, hxl, hv1, hlb, hvb, hd, hS⟩; obtain ⟨ρ, rfl⟩ := env2 hA hρ; have hL0 := hle2; (try have hle := hle.trans hle2); (try have hvc := hvc.up hle2); (try have hkp := hkp.up hle2); (try have hkr := hkr.up hle2); have hm0 := Q33 (j := 3) hS (i := 2) rfl rfl; have hsl0 := St.slen hS (i := 1) rfl; have hcl0 := hlb.1
  unfold Q3e
  all_goals (refine Q0 ?_; refine Q0 ?_; refine Q1 ?_; refine zm ?_)
  all_goals (refine zR2 (c := is_c (s := Q2d) hv1 hS) (h := ?_); rintro u1 w1 ⟨rfl, hS⟩; cases hq : isT Q2d l1)
  all_goals (refine zn ?_)
  all_goals
    first
    | (refine zct ?_ -- Q1V c0
       all_goals (refine zsk ?_; refine Qa ?_; refine zC [(0, none), (1, none), (2, none), (3, some (some [1])), (4, some (some [1])), (5, some none), (6, none), (7, some none)] ?_; have hS := hS.drew; refine s_cq ?_; refine zf0 ?_; refine zt ?_; refine s_cq ?_; refine zl hS ?_; refine zt ?_; refine s_cq ?_; refine zm ?_; refine zt ?_; refine Q5D ?_)
       all_goals (refine zE1 (c := Qu3 (by omega) hv1 hS) (p := by rintro u9 w9 ⟨f, v', g1, rfl, hS⟩; (repeat (first | refine Qo ?_ | refine Qp ?_ | refine fun _ => ?_)); refine QJ ?_; refine .inr ⟨_, rfl, ?_⟩; exact ⟨_, _, Q1M hX (Qom hd hk (pif_e hq g1)), rfl, St.weak hS.sp hle⟩) (h := ?_); rintro u1 w2 ⟨x, l8, v8, c8, ds, g1, k8, hle2, hx8, rfl, hv8, hS⟩; (try have hle := hle.trans hle2); (try have hL0 := hL0.trans hle2); (try have hvc := hvc.up hle2); (try have hkp := hkp.up hle2); (try have hkr := hkr.up hle2); (try have hlb := hlb.up hle2); (try have hv1 := hv1.up hle2); have hd9 := hx8; obtain ⟨n1, n2, n3, n4, n5, n6, n7, rfl, -⟩ := Q29 hx8; unfold Q5P; have hd4 := QrU hd hk (pif_o hq g1); have z8 := Qla hq; have z9 := Q8 l1)
       all_goals (refine zt ?_; refine zy ?_; refine Q5D ?_; refine zB1 hS [_, _, _, _, _, _, _, _, _, _, _, _] ?_; intro b1 w1 hS; refine zt ?_; refine zy ?_; refine s_cf ?_; refine za el_T41 u_T41 hS ?_; intro vp1 w1 css1 hls1 hv1 hS; have hS := hS.ns; refine zt ?_; refine s_cq ?_; refine zf0 ?_; refine zt ?_; refine s_cf ?_; refine zst hS ?_; intro w1 hS; have hS := hS.ns; refine zt ?_; refine zcn ?_)
       all_goals (exact ⟨⟨_, l8, v8, k - 1, xs ++ [x], _, _, zh, zh, hL0, by omega, (by rw [List.length_append]; simp only [List.length_cons, List.length_nil]; omega), hv8, hls1, by assumption, hd4, hS.sp⟩, by rw [hm0, Q33 (j := 3) hS (i := 3) rfl rfl, St.slen hS (i := 2) rfl, hsl0, hcl0, hls1.1, List.length_append]; simp only [List.length_cons, List.length_nil]; omega⟩))
    | (refine zcf ?_ -- Q1V c0
       all_goals (refine zex ?_)
       all_goals (have hfin := Qol hd hk (pif_n hq); have hX := Q1O hX hfin; (try dsimp only at hX); obtain ⟨c6, hle2, hS2, hkb⟩ := St.freezeL (r := blockR) (hS.out (r := sl 52 12 vb cb) fd) hlb rfl (by omega); clear hS; have hS := hS2; simp only [List.eraseIdx_cons_zero, List.eraseIdx_cons_succ] at hS; (try have hle := hle.trans hle2); (try have hL0 := hL0.trans hle2); (try have hvc := hvc.up hle2); (try have hkp := hkp.up hle2); (try have hkr := hkr.up hle2); (try have hlb := hlb.up hle2); (try have hv1 := hv1.up hle2); have hfn : funcR.at c6 [.int .i64 rg, vps, vrs, vb] ⟨rg, ps, rs, xs⟩ := ⟨_, _, _, rfl, hkp, hkr, hkb⟩)
       all_goals (refine Q0 ?_; have hS : St c6 _ (prs pb v1 e :: blk p3 43 [.int .i64 rg, vps, vrs, vb] :: blk p2 43 [.int .i64 0, .slice none 0 0, .slice none 0 0, .slice none 0 0] :: L) := hS.sp; refine Q1 ?_; refine zm ?_; refine zB1 hS [_] ?_; intro b1 w1 hS; have hS := Q25 (s := [125]) hS; refine zE2 (c := Q24 hv1 hS) (p := by rintro u9 w9 ⟨f, v', g1, rfl, hS⟩; (repeat (first | refine Qo ?_ | refine Qp ?_ | refine fun _ => ?_)); refine QJ ?_; refine .inr ⟨_, rfl, ?_⟩; exact ⟨_, _, Q1M hX g1, rfl, St.weak hS.sp hle⟩) (h := ?_); rintro u1 w2 ⟨rfl, g1, vc, hvc, hS⟩; have z10 := (Q5n g1).2; have hX := Q1O hX g1; (try dsimp only at hX); refine zn ?_; refine Q0 ?_; refine Q1 ?_; refine zv hS ?_; refine zsn hS ?_; intro w1 hS; have hS := hS.ns; refine zn ?_; refine zr ?_; refine Q16 vw (Q5 (n := 4) (by kernel_rfl) (by kernel_rfl) (hS.blkAt fd) (by rfl) (by rfl)) ?_)
       all_goals (exact .inl ⟨_, rfl, ⟨rg, ps, rs, xs⟩, l1.tail, vc, c6, _, hX, by omega, hle, hfn, rfl, hvc, hS.sp⟩))
end Go.Proofs.YtjecflbbcnocdaaGreatDoor
namespace Go.Lir
set_option linter.unusedVariables false
/-- What the program makes of a number ahead of writing it. -/
def zigI (n : Int) : Int := bitI .xor .u64 (IntKind.u64.wrap (IntKind.u64.wrap n * 2 ^ (min (1 : Int).toNat IntKind.u64.bits))) (IntKind.u64.wrap (n.fdiv (2 ^ (min (63 : Int).toNat IntKind.i64.bits))))
def zig (n : Int) : Nat := (zigI n).toNat
/-- The low bits first, seven at a time. -/
def leb : Nat → Nat → List UInt8
  | 0, _ => []
  | k + 1, u => if u < 128 then [UInt8.ofNat u] else UInt8.ofNat (u % 128 + 128) :: leb k (u / 128)
theorem Qun : ∀ (k u : Nat), (leb k u).length ≤ k
  | 0, _ => by simp [leb]
  | k + 1, u => by
    rw [leb]
    split
    · simp
    · have := Qun k (u / 128)
      simp only [List.length_cons]; omega
def Q6M (n : Int) : List UInt8 := leb 10 (zig n)
def QrZ (l : List Int) : List UInt8 := l.flatMap Q6M
theorem Q18 (n : Int) : (Q6M n).length ≤ 10 := Qun 10 _
theorem Ql9 : ∀ (l : List Int), (QrZ l).length ≤ 10 * l.length
  | [] => by simp [QrZ]
  | n :: l => by
    have h1 := Q18 n
    have h2 := Ql9 l
    simp only [QrZ, List.flatMap_cons, List.length_append, List.length_cons] at h2 ⊢
    omega
/-- A list of numbers, its length ahead of it. -/
def QpZ (l : List Int) : List UInt8 := Q6M l.length ++ QrZ l
mutual
def Ty.bts : Ty → List UInt8
  | .mk k r l => Q6M k ++ (if k ≠ 1 then Q6M r else []) ++ (if k = 3 then Q6M l.length ++ Tys.bts l else [])
def Tys.bts : List Ty → List UInt8
  | [] => []
  | x :: l => x.bts ++ Tys.bts l
end
/-- A list of types, its length ahead of it. -/
def tysB (l : List Ty) : List UInt8 := Q6M l.length ++ Tys.bts l
def To.bts (t : To) : List UInt8 := Q6M t.block ++ QpZ t.regs ++ QpZ t.args
def Tail.bts (e : Tail) : List UInt8 := Q6M e.op ++ (if e.op = 1 then e.yes.bts else if e.op = 2 then Q6M e.a ++ e.yes.bts ++ e.no.bts else if e.op = 3 then QpZ e.args else [])
/-- Which parts an instruction has. -/
def Qhe (op : Int) : Nat := if op < 0 ∨ 14 < op then 0 else [0, 64, 11, 0, 1, 33, 9, 11, 3, 3, 7, 1, 0, 1, 56].getD op.toNat 0
def regsB (h : Nat) : Nat → List Int → List UInt8
  | _, [] => []
  | k, n :: l => (if h / 2 ^ k % 2 = 1 then Q6M n else []) ++ regsB h (k + 1) l
def Ins.bts (x : Ins) : List UInt8 := Q6M x.op ++ regsB (Qhe x.op) 0 [x.a, x.b, x.c, x.k] ++ (if Qhe x.op / 64 % 2 = 1 then Q6M x.n else []) ++ (if Qhe x.op / 16 % 2 = 1 then QpZ x.regs else []) ++ (if Qhe x.op / 32 % 2 = 1 then QpZ x.args else [])
end Go.Lir
namespace Go.Lir
set_option linter.unusedVariables false
mutual
def Ty.nodes : Ty → Nat
  | .mk _ _ l => 1 + Tys.nodes l
def Tys.nodes : List Ty → Nat
  | [] => 0
  | x :: l => x.nodes + Tys.nodes l
end
mutual
theorem Ty.size_nodes : ∀ (t : Ty) {n : Int}, 0 ≤ t.size n → t.size n = n - t.nodes
  | .mk k r l, n, h => by
    rw [Ty.size] at h ⊢
    rw [Tys.size_nodes l h, Ty.nodes]
    omega
theorem Tys.size_nodes : ∀ (l : List Ty) {n : Int}, 0 ≤ Tys.size l n → Tys.size l n = n - Tys.nodes l
  | [], n, h => by rw [Tys.size, Tys.nodes]; omega
  | x :: l, n, h => by
    rw [Tys.size] at h ⊢
    by_cases hn : 0 ≤ n
    · rw [if_pos hn] at h ⊢
      have hx : 0 ≤ x.size n := by
        rcases Int.lt_or_le (x.size n) 0 with h1 | h1
        · rw [Tys.size_neg l h1] at h; omega
        · exact h1
      rw [Tys.size_nodes l h, Ty.size_nodes x hx, Tys.nodes]
      omega
    · rw [if_neg hn] at h; omega
end
theorem Ty.nodes_of_great {t : Ty} (h : t.great = false) : t.nodes ≤ 2000 := by
  unfold Ty.great at h
  simp at h
  have := Ty.size_nodes t h
  omega
end Go.Lir
namespace Go.Lir
set_option linter.unusedVariables false
/-- One bit. -/
def crcStep (c : BitVec 32) : BitVec 32 := (c >>> 1) ^^^ (3988292384#32 &&& -(c &&& 1#32))
def crcN : Nat → BitVec 32 → BitVec 32
  | 0, c => c
  | k + 1, c => crcN k (crcStep c)
/-- One byte. -/
def crcByte (c : BitVec 32) (x : UInt8) : BitVec 32 := crcN 8 (c ^^^ BitVec.ofNat 32 x.toNat)
def crcOf (bs : List UInt8) : BitVec 32 := 4294967295#32 ^^^ bs.foldl crcByte 4294967295#32
section
variable {P : Program} {l : List GO} {Q : QT} {ρ : Env} {w : World}
end
end Go.Lir
namespace Go.Lir
set_option linter.unusedVariables false
def Block.bts (b : Block) : List UInt8 := Q6M b.regs ++ tysB b.params ++ Q6M b.code.length ++ b.code.flatMap Ins.bts ++ b.fin.bts
def Fun.bts (f : Fun) : List UInt8 := Q6M f.regs ++ tysB f.params ++ tysB f.results ++ Q6M f.blocks.length ++ f.blocks.flatMap Block.bts
def Module.body (m : Module) : List UInt8 := [67, 72, 1] ++ Q6M m.funcs.length ++ m.funcs.flatMap Fun.bts
def Ins.Few (x : Ins) : Prop := x.regs.length ≤ 300 ∧ x.args.length ≤ 300
def To.Few (x : To) : Prop := x.regs.length ≤ 300 ∧ x.args.length ≤ 300
def Tail.Few (x : Tail) : Prop := x.yes.Few ∧ x.no.Few ∧ x.args.length ≤ 300
def Block.Few (b : Block) : Prop := Tys.great b.params = false ∧ b.code.length ≤ 200 ∧ (∀ i ∈ b.code, i.Few) ∧ b.fin.Few
def Fun.Few (f : Fun) : Prop := Tys.great f.params = false ∧ Tys.great f.results = false ∧ f.blocks.length ≤ 30 ∧ ∀ b ∈ f.blocks, b.Few
def Module.Few (m : Module) : Prop := m.funcs.length ≤ 20 ∧ ∀ f ∈ m.funcs, f.Few
theorem Qs5 {α : Type} {f : α → List UInt8} {c : Nat} : ∀ {l : List α}, (∀ x ∈ l, (f x).length ≤ c) → (l.flatMap f).length ≤ l.length * c
  | [], _ => by simp
  | x :: l, h => by
    have h1 := h x (List.mem_cons_self ..)
    have h2 := Qs5 (l := l) fun y hy => h y (List.mem_cons_of_mem _ hy)
    rw [List.flatMap_cons, List.length_append, List.length_cons, Nat.succ_mul]
    omega
theorem Qoy {α : Type} {f : α → List UInt8} {c n : Nat} {l : List α} (h : ∀ x ∈ l, (f x).length ≤ c) (hn : l.length ≤ n) : (l.flatMap f).length ≤ n * c :=
  Nat.le_trans (Qs5 h) (Nat.mul_le_mul_right c hn)
mutual
theorem Ty.bts_len : ∀ (t : Ty), t.bts.length ≤ 30 * t.nodes
  | .mk k r l => by
    have h1 := Tys.bts_len l
    have h2 := Q18 k
    have h3 := Q18 r
    have h4 := Q18 l.length
    rw [Ty.bts, Ty.nodes]
    simp only [List.length_append]
    split <;> split <;> simp only [List.length_append, List.length_nil] <;> omega
theorem Tys.bts_len : ∀ (l : List Ty), (Tys.bts l).length ≤ 30 * Tys.nodes l
  | [] => by simp [Tys.bts]
  | x :: l => by
    have h1 := Ty.bts_len x
    have h2 := Tys.bts_len l
    rw [Tys.bts, Tys.nodes, List.length_append]
    omega
end
theorem Tys.nodes_few : ∀ {l : List Ty}, (∀ x ∈ l, x.nodes ≤ 2000) → Tys.nodes l ≤ 2000 * l.length
  | [], _ => by simp [Tys.nodes]
  | x :: l, h => by
    have h1 := h x (List.mem_cons_self ..)
    have h2 := Tys.nodes_few (l := l) fun y hy => h y (List.mem_cons_of_mem _ hy)
    rw [Tys.nodes, List.length_cons]
    omega
theorem Qlo {l : List Ty} (h : Tys.great l = false) : (tysB l).length ≤ 12000010 := by
  unfold Tys.great at h
  rw [Bool.or_eq_false_iff] at h
  have hl : l.length ≤ 200 := by have := of_decide_eq_false h.1; omega
  have h1 := Tys.bts_len l
  have h2 := Tys.nodes_few (l := l) fun x hx => Ty.nodes_of_great (by have := List.any_eq_false.1 h.2 x hx; simpa using this)
  have h3 := Q18 l.length
  unfold tysB
  rw [List.length_append]
  omega
theorem Q7N {l : List Int} (h : l.length ≤ 300) : (QpZ l).length ≤ 3010 := by
  have h1 := Ql9 l
  have h2 := Q18 l.length
  unfold QpZ
  rw [List.length_append]
  omega
theorem To.bts_few {x : To} (h : x.Few) : x.bts.length ≤ 6030 := by
  have h1 := Q7N h.1
  have h2 := Q7N h.2
  have h3 := Q18 x.block
  unfold To.bts
  simp only [List.length_append]
  omega
theorem Tail.bts_few {x : Tail} (h : x.Few) : x.bts.length ≤ 13000 := by
  have h1 := To.bts_few h.1
  have h2 := To.bts_few h.2.1
  have h3 := Q7N h.2.2
  have h4 := Q18 x.op
  have h5 := Q18 x.a
  unfold Tail.bts
  rw [List.length_append]
  split
  · omega
  · split
    · simp only [List.length_append]; omega
    · split
      · omega
      · simp only [List.length_nil]; omega
theorem Ins.bts_few {x : Ins} (h : x.Few) : x.bts.length ≤ 6110 := by
  have h1 := Q7N h.1
  have h2 := Q7N h.2
  have h3 := Q18 x.op
  have h4 := Q18 x.n
  have ha := Q18 x.a
  have hb := Q18 x.b
  have hc := Q18 x.c
  have hk := Q18 x.k
  have h5 : (regsB (Qhe x.op) 0 [x.a, x.b, x.c, x.k]).length ≤ 40 := by
    simp only [regsB, List.length_append, List.length_nil]
    split <;> split <;> split <;> split <;> (try simp only [List.length_nil]) <;> omega
  unfold Ins.bts
  simp only [List.length_append]
  split <;> split <;> split <;> (try simp only [List.length_nil]) <;> omega
theorem Block.bts_few {b : Block} (h : b.Few) : b.bts.length ≤ 14000000 := by
  have h1 := Qlo h.1
  have h2 := Qoy (f := Ins.bts) (c := 6110) (fun x hx => Ins.bts_few (h.2.2.1 x hx)) h.2.1
  have h3 := Tail.bts_few h.2.2.2
  have h4 := Q18 b.regs
  have h5 := Q18 b.code.length
  unfold Block.bts
  simp only [List.length_append]
  omega
theorem Fun.bts_few {f : Fun} (h : f.Few) : f.bts.length ≤ 450000000 := by
  have h1 := Qlo h.1
  have h2 := Qlo h.2.1
  have h3 := Qoy (f := Block.bts) (c := 14000000) (fun x hx => Block.bts_few (h.2.2.2 x hx)) h.2.2.1
  have h4 := Q18 f.regs
  have h5 := Q18 f.blocks.length
  unfold Fun.bts
  simp only [List.length_append]
  omega
end Go.Lir
namespace Go.Lir
set_option linter.unusedVariables false
abbrev Got (α : Type) := Except Flt (α × List UInt8)
def rbind {α β : Type} (x : Got α) (f : α → List UInt8 → Got β) : Got β := match x with
  | .ok (a, r) => f a r
  | .error e => .error e
/-! ### What is read was written so -/
end Go.Lir
namespace Go.Lir
section
variable {P : Program} {l : List GO} {Q : QT} {ρ : Env} {w : World}
theorem Q5G {a b T T' : Nat} {R : Ending → World → Prop} {p o p' o' : Nat} {v v' : Value} (ha : ρ a = .pointer (some ⟨p, o, none⟩)) (hv : Qpt P w ⟨p, o, none⟩ T v) (ha' : ρ b = .pointer (some ⟨p', o', none⟩)) (hv' : Qpt P w ⟨p', o', none⟩ T' v') (h : R (.returned (.tuple #[v, v'])) w) : retQ P [.cell a T, .cell b T'] R .ret ρ w :=
  ⟨_, v, ha, hv, _, v', ha', hv', h⟩
end
end Go.Lir
namespace Go.Lir
def crc4 (c : BitVec 32) : List UInt8 := [UInt8.ofNat c.toNat, UInt8.ofNat (c >>> 8).toNat, UInt8.ofNat (c >>> 16).toNat, UInt8.ofNat (c >>> 24).toNat]
def Module.enc (m : Module) : List UInt8 := m.body ++ crc4 (crcOf m.body)
end Go.Lir
namespace Go.Lir
section
variable {bs : List UInt8} {at0 i u : Nat} {x : UInt8} {X : Got Nat}
end
end Go.Lir
namespace Go.Lir
section
variable {α : Type}
variable {f : List UInt8 → Got α} {N k n0 : Nat} {n : Int} {xs : List α} {r r1 r2 r3 : List UInt8} {a : α} {e : Flt} {X : Got (List α)}
end
end Go.Lir
namespace Go.Lir
section
variable {bs r : List UInt8} {N : Nat} {e : Flt} {l : List Fun}
end
end Go.Lir
namespace Go.Lir
set_option linter.unusedVariables false
section
variable {α β : Type} {M n : Nat}
def Goodp (M : Nat) (f : List UInt8 → Got α) (p : α → Prop) : Prop := ∀ r x r', r.length ≤ M → f r = .ok (x, r') → p x ∧ r'.length ≤ r.length
theorem Goodp.weak {f : List UInt8 → Got α} {p q : α → Prop} (h : Goodp M f p) (hq : ∀ x, p x → q x) : Goodp M f q := fun r x r' h1 h2 => ⟨hq x (h r x r' h1 h2).1, (h r x r' h1 h2).2⟩
end
end Go.Lir
namespace Go.Lir
section
variable {α β : Type} {e k n : Nat} {P : α → Prop} {Q : β → Prop} {A B : List Tok → PGot α} {x : α}
def Q22 (f : List Tok → PGot α) (P : α → Prop) : Prop := ∀ l x l', l.length ≤ 50000 → f l = .ok (x, l') → P x ∧ l'.length ≤ l.length
theorem Qux {P' : α → Prop} (h : Q22 A P) (hw : ∀ x, P x → P' x) : Q22 A P' := fun l x l' h1 h2 => ⟨hw _ (h l x l' h1 h2).1, (h l x l' h1 h2).2⟩
theorem Ql {f : α → List Tok → PGot β} (h : Q22 A P) (hf : ∀ a, P a → Q22 (f a) Q) : Q22 (fun l => Q6 (A l) f) Q := by
  intro l x l' h1 h2
  dsimp only at h2
  cases hA : A l with
  | error g => rw [hA] at h2; cases h2
  | ok y =>
    obtain ⟨a, l1⟩ := y
    rw [hA] at h2
    have h3 := h l a l1 h1 hA
    have h4 := hf a h3.1 l1 x l' (by omega) h2
    exact ⟨h4.1, by omega⟩
theorem Q13 (h : P x) : Q22 (fun l => .ok (x, l)) P := by
  intro l y l' h1 h2; cases h2; exact ⟨h, Nat.le_refl _⟩
theorem gp_t (h : Q22 A P) : Q22 (fun l => A l.tail) P := by
  intro l y l' h1 h2
  have := Q8 l
  have h3 := h l.tail y l' (by omega) h2
  exact ⟨h3.1, by omega⟩
theorem QuC {g : List Tok → Flt} : Q22 (fun l => .error (g l)) P := by intro l y l' h1 h2; cases h2
theorem Qmq {c : List Tok → Prop} [DecidablePred c] (h1 : Q22 A P) (h2 : Q22 B P) : Q22 (fun l => if c l then A l else B l) P := by
  intro l y l' h3 h4
  dsimp only at h4
  split at h4
  · exact h1 l y l' h3 h4
  · exact h2 l y l' h3 h4
theorem Q9N {c : Prop} [Decidable c] (h1 : Q22 A P) (h2 : Q22 B P) : Q22 (fun l => if c then A l else B l) P := by
  split
  · exact h1
  · exact h2
abbrev Any : α → Prop := fun _ => True
theorem Q3a {s : List UInt8} : Q22 (want e s) Any := Qmq (gp_t (A := fun l => .ok ((), l)) (Q13 trivial)) QuC
theorem gp_long : Q22 (Q38 e) Any := by
  intro l x l' h1 h2
  have := Qum h2
  exact ⟨trivial, by omega⟩
theorem Q2x : Q22 (pNum e) Any := by
  intro l x l' h1 h2
  have := num_lt h2
  exact ⟨trivial, by omega⟩
theorem gp_kind : Q22 (Q7J e) Any := Qmq QuC (by intro l x l' h1 h2; cases h2; exact ⟨trivial, Q8 l⟩)
theorem QuA {cl : List UInt8} (h : Q22 A P) : ∀ k n, Q22 (pMany e cl A k n) (fun l => l.length ≤ k ∧ ∀ x ∈ l, P x)
  | 0, n => QuC
  | k + 1, n => by
    have e9 : pMany e cl A (k + 1) n = fun l => if isT cl l = true then .ok ([], l.tail) else Q6 ((fun l => if n = 0 then .ok ((), l) else want e [44] l) l) fun _ l => Q6 (A l) fun x l => Q6 (pMany e cl A k (n + 1) l) fun xs l => .ok (x :: xs, l) := by funext l; rw [pMany]
    rw [e9]
    refine Qmq (gp_t (A := fun l => .ok ([], l)) (Q13 ⟨by simp, by simp⟩)) (Ql (Q9N (Q13 (P := Any) trivial) Q3a) fun _ _ => Ql h fun x hx => Ql (QuA h k (n + 1)) fun xs hxs => Q13 ⟨by simp; omega, ?_⟩)
    intro y hy
    rcases List.mem_cons.1 hy with rfl | hy
    · exact hx
    · exact hxs.2 y hy
theorem Qq1 {b cl : List UInt8} (h : Q22 A P) : Q22 (Q15 e b cl A) (fun l => l.length ≤ 101 ∧ ∀ x ∈ l, P x) := Ql Q3a fun _ _ => QuA h 101 0
theorem QuB {b cl : List UInt8} : Q22 (Q15 e b cl (pNum e)) (fun l => l.length ≤ 100000) := Qux (Qq1 Q2x) fun l h => by omega
theorem gp_typ : ∀ k, Q22 (pTyp e k) Ty.Short
  | 0 => by intro l x l' h1 h2; rw [show pTyp e 0 l = .error (Q1X e 19 l) by rw [pTyp]] at h2; cases h2
  | k + 1 => by
    have e9 : pTyp e (k + 1) = fun l => if isT tInt l = true then .ok (.mk 1 0 [], l.tail)
      else if isT Q1Z l = true then Q6 (pNum e l.tail) fun n l => .ok (.mk 2 n [], l)
      else if isT Q3O l = true then Q6 (pNum e l.tail) fun n l => .ok (.mk 4 n [], l)
      else Q6 (want e Q2F l) fun _ l => Q6 (pNum e l) fun n l => Q6 (Q15 e [40] [41] (pTyp e k) l) fun ts l => .ok (.mk 3 n ts, l) := by funext l; rw [pTyp]
    rw [e9]
    have hz : ∀ (a b : Int), Ty.Short (.mk a b []) := fun a b => .mk (by simp) (by simp)
    exact Qmq (gp_t (A := fun l => .ok (Ty.mk 1 0 [], l)) (Q13 (hz _ _))) (Qmq (Ql (gp_t Q2x) fun n _ => Q13 (hz _ _)) (Qmq (Ql (gp_t Q2x) fun n _ => Q13 (hz _ _)) (Ql Q3a fun _ _ => Ql Q2x fun n _ => Ql (Qq1 (gp_typ k)) fun ts ht => Q13 (.mk (by omega) ht.2))))
theorem Qmp : Q22 (Q2v e) Tys.Short := Qux (Qq1 (gp_typ 5)) fun l h => ⟨by omega, h.2⟩
theorem Quy : Q22 (Qh6 e) (fun l => l.length ≤ 100000) := QuB
theorem Qmr : Q22 (Q4T e) (fun l => l.length ≤ 100000) := QuB
theorem gp_body {op : Int} : Q22 (Q2C e op) Ins.Short := by
  have z : ∀ a b c d f g : Int, Ins.Short ⟨a, b, c, d, f, g, [], []⟩ := fun _ _ _ _ _ _ => ⟨by simp, by simp⟩
  refine Q9N (Ql gp_long fun n _ => Q13 (z ..)) ?_
  refine Q9N (Ql gp_kind fun k _ => Ql Q2x fun a _ => Ql Q2x fun b _ => Q13 (z ..)) ?_
  refine Q9N (Ql Q2x fun a _ => Q13 (z ..)) ?_
  refine Q9N (Ql Q2x fun a _ => Ql Qmr fun g hg => Q13 ⟨by simp, hg⟩) ?_
  refine Q9N (Ql Q2x fun a _ => Ql Q2x fun k _ => Q13 (z ..)) ?_
  refine Q9N (Ql Q2x fun a _ => Ql Q2x fun k _ => Ql Q2x fun b _ => Q13 (z ..)) ?_
  refine Q9N (Ql Q2x fun a _ => Ql Q2x fun b _ => Q13 (z ..)) ?_
  refine Q9N (Ql Q2x fun a _ => Ql Q2x fun b _ => Ql Q2x fun c _ => Q13 (z ..)) ?_
  exact Q9N (Ql Q2x fun k _ => Ql Quy fun r hr => Ql Qmr fun g hg => Q13 ⟨hr, hg⟩) (Q13 (z ..))
theorem gp_ins : Q22 (pIns e) (fun o => ∀ x, o = some x → Ins.Short x) := by
  intro l x l' h1 h2
  unfold pIns at h2
  split at h2
  · cases h2; exact ⟨fun x h => (by cases h), Nat.le_refl _⟩
  · exact (gp_t (Ql gp_body fun x hx => Ql Q3a fun _ _ => Q13 (P := fun o => ∀ x, o = some x → Ins.Short x) (fun y h => by cases h; exact hx))) l x l' h1 h2
theorem gp_to : Q22 (pTo e) To.Short := Ql Q2x fun b _ => Ql Quy fun r hr => Ql Qmr fun g hg => Q13 ⟨hr, hg⟩
theorem gp_tail : Q22 (Q3W e) Tail.Short := by
  have hz : To.Short ⟨0, [], []⟩ := ⟨by simp, by simp⟩
  refine Qmq (Ql (gp_t gp_to) fun y hy => Q13 ⟨hy, hz, by simp⟩) (Qmq ?_ ?_)
  · exact Ql (gp_t Q2x) fun a _ => Ql Q3a fun _ _ => Ql gp_to fun y hy => Ql Q3a fun _ _ => Ql gp_to fun n hn => Q13 ⟨hy, hn, by simp⟩
  · exact Ql Q3a fun _ _ => Ql Qmr fun g hg => Q13 ⟨hz, hz, hg⟩
theorem gp_ends : Q22 (Q3R e) Tail.Short := Ql gp_tail fun t ht => Ql Q3a fun _ _ => Q13 ht
theorem Quz {f : List Tok → PGot (Option α)} (h : Q22 f (fun o => ∀ x, o = some x → P x)) : ∀ k, Q22 (pOpts f k) (fun l => l.length ≤ k ∧ ∀ x ∈ l, P x)
  | 0 => Q13 ⟨by simp, by simp⟩
  | k + 1 => by
    have e9 : pOpts f (k + 1) = fun l => Q6 (f l) fun o l => match o with
      | none => .ok ([], l)
      | some x => Q6 (pOpts f k l) fun xs l => .ok (x :: xs, l) := by funext l; first | (rw [pOpts]; done) | (rw [pOpts]; rfl)
    rw [e9]
    refine Ql h fun o ho => ?_
    cases o with
    | none => exact Q13 ⟨by simp, by simp⟩
    | some x =>
      refine Ql (Quz h k) fun xs hxs => Q13 ⟨by simp; omega, ?_⟩
      intro y hy
      rcases List.mem_cons.1 hy with rfl | hy
      · exact ho _ rfl
      · exact hxs.2 y hy
theorem QuD {f : List Tok → PGot (Option α)} (h : Q22 f (fun o => ∀ x, o = some x → P x)) : Q22 (pAll f) (fun l => l.length ≤ 100000 ∧ ∀ x ∈ l, P x) := by
  intro l x l' h1 h2
  have h3 := Quz h (l.length + 1) l x l' h1 h2
  exact ⟨⟨by omega, h3.1.2⟩, h3.2⟩
theorem gp_pif {p : List Tok → Bool} (h : Q22 A P) : Q22 (pIf p A) (fun o => ∀ x, o = some x → P x) :=
  Qmq (Ql h fun x hx => Q13 (fun y h => by cases h; exact hx)) (Q13 fun y h => by cases h)
theorem gp_block : Q22 (Q2G e) Block.Short :=
  Ql Q3a fun _ _ => Ql Q2x fun g _ => Ql Qmp fun ps hp => Ql Q3a fun _ _ => Ql (QuD gp_ins) fun c hc => Ql gp_ends fun t ht => Ql Q3a fun _ _ => Q13 ⟨hp, hc.1, hc.2, ht⟩
theorem gp_fun : Q22 (pFun e) Fun.Short :=
  Ql Q3a fun _ _ => Ql Q2x fun g _ => Ql Qmp fun ps hp => Ql Q3a fun _ _ => Ql Qmp fun rs hr => Ql Q3a fun _ _ => Ql (QuD (gp_pif gp_block)) fun bl hb => Ql Q3a fun _ _ => Q13 ⟨hp, hr, hb.1, hb.2⟩
theorem Qh0 {l l' : List Tok} {fs : List Fun} (hl : l.length ≤ 50000) (h : Qok e l = .ok (fs, l')) : (Module.mk fs).Short := by
  have := (QuD (gp_pif gp_fun) l fs l' hl h).1
  exact ⟨this.1, this.2⟩
theorem Qo0 {n : Nat} : ∀ {k : Nat} {l : List UInt8} {acc res : List Tok}, Q3h n k l acc = .ok res → res.length ≤ acc.length + l.length
  | 0, l, acc, res, h => by rw [Q3h] at h; cases h; omega
  | k + 1, [], acc, res, h => by rw [Q3h] at h; cases h; omega
  | k + 1, c :: r, acc, res, h => by
    rw [Q3h] at h
    split at h
    · cases h
    · rename_i t m ht
      have h1 := Qo0 h
      have h2 := Qgf ht
      have h3 := Q81 false ((c :: r).drop t.length)
      rw [List.length_drop] at h3
      simp only [List.length_append, List.length_cons, List.length_nil] at h1 h2 h3 ⊢
      omega
theorem QrG {s : List UInt8} {l : List Tok} (h : scan s = .ok l) : l.length ≤ 40000 ∧ s.length ≤ 40000 := by
  unfold scan at h
  split at h
  · cases h
  · have h1 := Qo0 h
    have h2 := Q81 false s
    simp only [List.length_nil] at h1
    exact ⟨by omega, by omega⟩
variable {s : List UInt8} {l l' : List Tok} {f : Flt} {fs : List Fun}
theorem Q7d (h : scan s = .error f) : Q3G s = .error f := by unfold Q3G; rw [h]
theorem Qmc (h : scan s = .ok l) (h2 : Qok s.length l = .error f) : Q3G s = .error f := by unfold Q3G; rw [h]; dsimp only; rw [h2]
theorem Qmb (h : scan s = .ok l) (h2 : Qok s.length l = .ok (fs, l')) (h3 : (Module.fault ⟨fs⟩).1 ≠ 0) : Q3G s = .error (Module.fault ⟨fs⟩) := by unfold Q3G; rw [h]; dsimp only; rw [h2]; dsimp only; rw [if_pos h3]
theorem Qu7 (h : scan s = .ok l) (h2 : Qok s.length l = .ok (fs, l')) (h3 : (Module.fault ⟨fs⟩).1 = 0) : Q3G s = .ok ⟨fs⟩ := by unfold Q3G; rw [h]; dsimp only; rw [h2]; dsimp only; rw [if_neg (by rw [h3]; decide)]
end
end Go.Lir
namespace Go.Proofs
open Go.Shelf
def Tryz.lays156_ren : Go.Shelf.Ren := ⟨fun | 156 => 108 | 165 => 140 | 166 => 57 | 169 => 62 | 240 => 106 | 241 => 151 | 276 => 139 | 277 => 164 | n => n, fun | 31 => 86 | 9 => 9 | 3 => 3 | 4 => 4 | 0 => 0 | 20 => 20 | 72 => 107 | 76 => 110 | 70 => 104 | 37 => 105 | 75 => 109 | 127 => 154 | 164 => 171 | 5 => 5 | 80 => 115 | n => n, fun | n => n⟩
theorem Tryz.lays156 : Go.Proofs.Lays.n156 Tryz.prog Tryz.lays156_ren := {
  mixed := by kernel_rfl
  f156 := Tryz.func108.trans (congrArg some (by kernel_rfl))
  f165 := Tryz.func140.trans (congrArg some (by kernel_rfl))
  f166 := Tryz.func57.trans (congrArg some (by kernel_rfl))
  f169 := Tryz.func62.trans (congrArg some (by kernel_rfl))
  f240 := Tryz.func106.trans (congrArg some (by kernel_rfl))
  f241 := Tryz.func151.trans (congrArg some (by kernel_rfl))
  f276 := Tryz.func139.trans (congrArg some (by kernel_rfl))
  f277 := Tryz.func164.trans (congrArg some (by kernel_rfl))
  t0 := Tryz.underlying0
  a0 := Tryz.isAgg0
  z0 := Tryz.sizeOf0
  v0 := Tryz.zeroValue0
  t3 := Tryz.underlying3
  a3 := Tryz.isAgg3
  z3 := Tryz.sizeOf3
  v3 := Tryz.zeroValue3
  t4 := Tryz.underlying4
  a4 := Tryz.isAgg4
  z4 := Tryz.sizeOf4
  v4 := Tryz.zeroValue4
  t9 := Tryz.underlying9
  a9 := Tryz.isAgg9
  z9 := Tryz.sizeOf9
  v9 := Tryz.zeroValue9
  t20 := Tryz.underlying20
  a20 := Tryz.isAgg20
  z20 := Tryz.sizeOf20
  v20 := Tryz.zeroValue20
  t31 := Tryz.underlying86
  a31 := Tryz.isAgg86
  z31 := Tryz.sizeOf86
  v31 := Tryz.zeroValue86
  t37 := Tryz.underlying105
  a37 := Tryz.isAgg105
  z37 := Tryz.sizeOf105
  v37 := Tryz.zeroValue105
  t70 := Tryz.underlying104
  a70 := Tryz.isAgg104
  z70 := Tryz.sizeOf104
  v70 := Tryz.zeroValue104
  t72 := Tryz.underlying107
  a72 := Tryz.isAgg107
  z72 := Tryz.sizeOf107
  v72 := Tryz.zeroValue107
  t75 := Tryz.underlying109
  a75 := Tryz.isAgg109
  z75 := Tryz.sizeOf109
  v75 := Tryz.zeroValue109
  t76 := Tryz.underlying110
  a76 := Tryz.isAgg110
  z76 := Tryz.sizeOf110
  v76 := Tryz.zeroValue110
  t127 := Tryz.underlying154
  a127 := Tryz.isAgg154
  z127 := Tryz.sizeOf154
  v127 := Tryz.zeroValue154
  t164 := Tryz.underlying171
  a164 := Tryz.isAgg171
  z164 := Tryz.sizeOf171
  v164 := Tryz.zeroValue171 }
theorem Tryz.Builder_Extra_156 : Builder.Extra Tryz.prog Tryz.lays156_ren := {
  sizeBuilder := by kernel_rfl
  liesBuilder := by kernel_rfl
  t5 := Tryz.underlying5
  a5 := Tryz.isAgg5
  z5 := Tryz.sizeOf5
  v5 := Tryz.zeroValue5
  infoByte := by kernel_rfl
  cellsByte := by kernel_rfl
  sizeByte := by kernel_rfl
  neB5 := by decide }
open Go.RowKit in
/-- No element: the empty string; the world is as it was. (Whatever the slice's address and capacity: a nil slice too.) (LAID: no walk: one application.) -/
theorem Tryz.strings_Join_none (a : Option Addr) (c : Nat) (sep : ByteArray) (w : World) :
    Calls Tryz.prog 108 #[.slice a 0 c, .string sep] w fun e w' => e = .returned (.string ⟨#[]⟩) ∧ w' = w := Any.strings_Join_none Tryz.lays156 Tryz.Builder_Extra_156 a c sep w
open Go.RowKit in
/-- strings.Join: "Join concatenates the elements of its first argument to create a single string. The separator string sep is placed between elements in the resulting string.": HOWEVER MANY ELEMENTS. Below the heap's end the world is as it was. (LAID: no walk: one application.) -/
theorem Tryz.strings_Join (bk o c : Nat) (xs : List ByteArray) (sep : ByteArray) (w : World) (hcells : ∀ (j : Nat) x, xs[j]? = some x → w.cell? ⟨bk, o + j, none⟩ = some (.string x)) (hbk : bk < w.heap.size) (hN : xs.length ≤ 140737488355328) (hcap : xs.length ≤ c) (hlen : (Lib.join (xs.map (·.data.toList)) sep.data.toList).length ≤ 140737488355328) :
    Calls Tryz.prog 108 #[.slice (some ⟨bk, o, none⟩) xs.length c, .string sep] w fun e w' => e = .returned (.string ⟨(Lib.join (xs.map (·.data.toList)) sep.data.toList).toArray⟩) ∧ Below w.heap.size w w' := Any.strings_Join Tryz.lays156 Tryz.Builder_Extra_156 bk o c xs sep w hcells hbk hN hcap hlen
def Tryz.lays137_ren : Go.Shelf.Ren := ⟨fun | 137 => 121 | 217 => 143 | 266 => 156 | n => n, fun | 9 => 9 | 5 => 5 | 3 => 3 | n => n, fun | n => n⟩
theorem Tryz.lays137 : Go.Proofs.Lays.n137 Tryz.prog Tryz.lays137_ren := {
  mixed := by kernel_rfl
  f137 := Tryz.func121.trans (congrArg some (by kernel_rfl))
  f217 := Tryz.func143.trans (congrArg some (by kernel_rfl))
  f266 := Tryz.func156.trans (congrArg some (by kernel_rfl))
  t3 := Tryz.underlying3
  a3 := Tryz.isAgg3
  z3 := Tryz.sizeOf3
  v3 := Tryz.zeroValue3
  t5 := Tryz.underlying5
  a5 := Tryz.isAgg5
  z5 := Tryz.sizeOf5
  v5 := Tryz.zeroValue5
  t9 := Tryz.underlying9
  a9 := Tryz.isAgg9
  z9 := Tryz.sizeOf9
  v9 := Tryz.zeroValue9 }
open Go.RowKit in
/-- strings.IndexByte: "IndexByte returns the index of the first instance of c in s, or -1 if c is not present in s.": IT RETURNS 'Lib.indexByte s c'; the world is as it was. (LAID: no walk: one application.) -/
theorem Tryz.strings_IndexByte (s : ByteArray) (c : Int) (w : World) :
    Calls Tryz.prog 121 #[.string s, .int .u8 c] w fun e w' => e = .returned (.int .i64 (Lib.indexByte s.data.toList c.toNat.toUInt8)) ∧ w' = w := Any.strings_IndexByte Tryz.lays137 s c w
def Tryz.laysM246_ren : Go.Shelf.Ren := ⟨fun | 246 => 141 | 283 => 152 | 284 => 153 | 285 => 154 | 286 => 155 | 129 => 166 | 317 => 165 | 318 => 167 | 319 => 168 | 320 => 169 | 337 => 174 | 338 => 175 | n => n, fun | 2 => 2 | 3 => 3 | 9 => 9 | 4 => 4 | 171 => 176 | 0 => 0 | 53 => 177 | 37 => 105 | 5 => 5 | 173 => 180 | 212 => 193 | 51 => 194 | 20 => 20 | 213 => 195 | 46 => 186 | 232 => 207 | 233 => 208 | n => n, fun | 17 => 0 | 18 => 4 | 19 => 5 | n => n⟩
theorem Tryz.laysM246 : Go.Proofs.LaysM.n246 Tryz.prog Tryz.laysM246_ren := {
  mixed := by kernel_rfl
  f129 := Tryz.func166.trans (congrArg some (by kernel_rfl))
  f246 := Tryz.func141.trans (congrArg some (by kernel_rfl))
  f283 := Tryz.func152.trans (congrArg some (by kernel_rfl))
  f284 := Tryz.func153.trans (congrArg some (by kernel_rfl))
  f285 := Tryz.func154.trans (congrArg some (by kernel_rfl))
  f286 := Tryz.func155.trans (congrArg some (by kernel_rfl))
  f317 := Tryz.func165.trans (congrArg some (by kernel_rfl))
  f318 := Tryz.func167.trans (congrArg some (by kernel_rfl))
  f319 := Tryz.func168.trans (congrArg some (by kernel_rfl))
  f320 := Tryz.func169.trans (congrArg some (by kernel_rfl))
  f337 := Tryz.func174.trans (congrArg some (by kernel_rfl))
  f338 := Tryz.func175.trans (congrArg some (by kernel_rfl))
  t0 := Tryz.underlying0
  a0 := Tryz.isAgg0
  z0 := Tryz.sizeOf0
  v0 := Tryz.zeroValue0
  t2 := Tryz.underlying2
  a2 := Tryz.isAgg2
  z2 := Tryz.sizeOf2
  v2 := Tryz.zeroValue2
  t3 := Tryz.underlying3
  a3 := Tryz.isAgg3
  z3 := Tryz.sizeOf3
  v3 := Tryz.zeroValue3
  t4 := Tryz.underlying4
  a4 := Tryz.isAgg4
  z4 := Tryz.sizeOf4
  v4 := Tryz.zeroValue4
  t5 := Tryz.underlying5
  a5 := Tryz.isAgg5
  z5 := Tryz.sizeOf5
  v5 := Tryz.zeroValue5
  t9 := Tryz.underlying9
  a9 := Tryz.isAgg9
  z9 := Tryz.sizeOf9
  v9 := Tryz.zeroValue9
  t20 := Tryz.underlying20
  a20 := Tryz.isAgg20
  z20 := Tryz.sizeOf20
  v20 := Tryz.zeroValue20
  t37 := Tryz.underlying105
  a37 := Tryz.isAgg105
  z37 := Tryz.sizeOf105
  v37 := Tryz.zeroValue105
  t46 := Tryz.underlying186
  a46 := Tryz.isAgg186
  z46 := Tryz.sizeOf186
  v46 := Tryz.zeroValue186
  t51 := Tryz.underlying194
  a51 := Tryz.isAgg194
  z51 := Tryz.sizeOf194
  v51 := Tryz.zeroValue194
  t53 := Tryz.underlying177
  a53 := Tryz.isAgg177
  z53 := Tryz.sizeOf177
  v53 := Tryz.zeroValue177
  t171 := Tryz.underlying176
  a171 := Tryz.isAgg176
  z171 := Tryz.sizeOf176
  v171 := Tryz.zeroValue176
  t173 := Tryz.underlying180
  a173 := Tryz.isAgg180
  z173 := Tryz.sizeOf180
  v173 := Tryz.zeroValue180
  t212 := Tryz.underlying193
  a212 := Tryz.isAgg193
  z212 := Tryz.sizeOf193
  v212 := Tryz.zeroValue193
  t213 := Tryz.underlying195
  a213 := Tryz.isAgg195
  z213 := Tryz.sizeOf195
  t232 := Tryz.underlying207
  a232 := Tryz.isAgg207
  z232 := Tryz.sizeOf207
  v232 := Tryz.zeroValue207
  t233 := Tryz.underlying208
  a233 := Tryz.isAgg208
  z233 := Tryz.sizeOf208
  v233 := Tryz.zeroValue208
  g17 := by kernel_rfl
  g18 := by kernel_rfl
  g19 := by kernel_rfl
  i0 := by kernel_rfl
  i2 := by kernel_rfl
  i3 := by kernel_rfl
  i4 := by kernel_rfl
  i5 := by kernel_rfl
  i9 := by kernel_rfl
  i20 := by kernel_rfl
  i37 := by kernel_rfl
  i46 := by kernel_rfl
  i51 := by kernel_rfl
  i53 := by kernel_rfl
  i171 := by kernel_rfl
  i173 := by kernel_rfl
  i212 := by kernel_rfl
  i232 := by kernel_rfl
  i233 := by kernel_rfl
  m17 := by kernel_rfl
  m18 := by kernel_rfl
  m19 := by kernel_rfl }
open Go.RowKit Go.Sort Go.Lib in
/-- internal/strconv.FormatInt: "FormatInt returns the string representation of i in the given base": AT BASE 10: i's decimal numeral, for every int64. The world behind the call: the world before it, new blocks behind the heap, draws. (LAID: no walk: one application.) -/
theorem Tryz.internal_strconv_FormatInt_10 (n : Int) (h0 : -9223372036854775808 ≤ n) (h1 : n ≤ 9223372036854775807) (w : World) (htab : Lib.TabIs Tryz.prog w "internal/strconv.uint64pow10" .u64 Lib.pow10Tab) :
    Calls Tryz.prog 141 #[.int .i64 n, .int .i64 10] w fun e w' => e = .returned (.string ⟨(Lib.itoa n).toArray⟩) ∧ ∃ k os, w' = grow (w.drewN k) os := Any.internal_strconv_FormatInt_10 Tryz.laysM246 n h0 h1 w htab
def Tryz.laysM243_ren : Go.Shelf.Ren := ⟨fun | 243 => 112 | 246 => 141 | 283 => 152 | 284 => 153 | 285 => 154 | 286 => 155 | 129 => 166 | 317 => 165 | 318 => 167 | 319 => 168 | 320 => 169 | 337 => 174 | 338 => 175 | n => n, fun | 3 => 3 | 9 => 9 | 2 => 2 | 4 => 4 | 171 => 176 | 0 => 0 | 53 => 177 | 37 => 105 | 5 => 5 | 173 => 180 | 212 => 193 | 51 => 194 | 20 => 20 | 213 => 195 | 46 => 186 | 232 => 207 | 233 => 208 | n => n, fun | 17 => 0 | 18 => 4 | 19 => 5 | n => n⟩
theorem Tryz.laysM243 : Go.Proofs.LaysM.n243 Tryz.prog Tryz.laysM243_ren := {
  mixed := by kernel_rfl
  f129 := Tryz.func166.trans (congrArg some (by kernel_rfl))
  f243 := Tryz.func112.trans (congrArg some (by kernel_rfl))
  f246 := Tryz.func141.trans (congrArg some (by kernel_rfl))
  f283 := Tryz.func152.trans (congrArg some (by kernel_rfl))
  f284 := Tryz.func153.trans (congrArg some (by kernel_rfl))
  f285 := Tryz.func154.trans (congrArg some (by kernel_rfl))
  f286 := Tryz.func155.trans (congrArg some (by kernel_rfl))
  f317 := Tryz.func165.trans (congrArg some (by kernel_rfl))
  f318 := Tryz.func167.trans (congrArg some (by kernel_rfl))
  f319 := Tryz.func168.trans (congrArg some (by kernel_rfl))
  f320 := Tryz.func169.trans (congrArg some (by kernel_rfl))
  f337 := Tryz.func174.trans (congrArg some (by kernel_rfl))
  f338 := Tryz.func175.trans (congrArg some (by kernel_rfl))
  t0 := Tryz.underlying0
  a0 := Tryz.isAgg0
  z0 := Tryz.sizeOf0
  v0 := Tryz.zeroValue0
  t2 := Tryz.underlying2
  a2 := Tryz.isAgg2
  z2 := Tryz.sizeOf2
  v2 := Tryz.zeroValue2
  t3 := Tryz.underlying3
  a3 := Tryz.isAgg3
  z3 := Tryz.sizeOf3
  v3 := Tryz.zeroValue3
  t4 := Tryz.underlying4
  a4 := Tryz.isAgg4
  z4 := Tryz.sizeOf4
  v4 := Tryz.zeroValue4
  t5 := Tryz.underlying5
  a5 := Tryz.isAgg5
  z5 := Tryz.sizeOf5
  v5 := Tryz.zeroValue5
  t9 := Tryz.underlying9
  a9 := Tryz.isAgg9
  z9 := Tryz.sizeOf9
  v9 := Tryz.zeroValue9
  t20 := Tryz.underlying20
  a20 := Tryz.isAgg20
  z20 := Tryz.sizeOf20
  v20 := Tryz.zeroValue20
  t37 := Tryz.underlying105
  a37 := Tryz.isAgg105
  z37 := Tryz.sizeOf105
  v37 := Tryz.zeroValue105
  t46 := Tryz.underlying186
  a46 := Tryz.isAgg186
  z46 := Tryz.sizeOf186
  v46 := Tryz.zeroValue186
  t51 := Tryz.underlying194
  a51 := Tryz.isAgg194
  z51 := Tryz.sizeOf194
  v51 := Tryz.zeroValue194
  t53 := Tryz.underlying177
  a53 := Tryz.isAgg177
  z53 := Tryz.sizeOf177
  v53 := Tryz.zeroValue177
  t171 := Tryz.underlying176
  a171 := Tryz.isAgg176
  z171 := Tryz.sizeOf176
  v171 := Tryz.zeroValue176
  t173 := Tryz.underlying180
  a173 := Tryz.isAgg180
  z173 := Tryz.sizeOf180
  v173 := Tryz.zeroValue180
  t212 := Tryz.underlying193
  a212 := Tryz.isAgg193
  z212 := Tryz.sizeOf193
  v212 := Tryz.zeroValue193
  t213 := Tryz.underlying195
  a213 := Tryz.isAgg195
  z213 := Tryz.sizeOf195
  t232 := Tryz.underlying207
  a232 := Tryz.isAgg207
  z232 := Tryz.sizeOf207
  v232 := Tryz.zeroValue207
  t233 := Tryz.underlying208
  a233 := Tryz.isAgg208
  z233 := Tryz.sizeOf208
  v233 := Tryz.zeroValue208
  g17 := by kernel_rfl
  g18 := by kernel_rfl
  g19 := by kernel_rfl
  i0 := by kernel_rfl
  i2 := by kernel_rfl
  i3 := by kernel_rfl
  i4 := by kernel_rfl
  i5 := by kernel_rfl
  i9 := by kernel_rfl
  i20 := by kernel_rfl
  i37 := by kernel_rfl
  i46 := by kernel_rfl
  i51 := by kernel_rfl
  i53 := by kernel_rfl
  i171 := by kernel_rfl
  i173 := by kernel_rfl
  i212 := by kernel_rfl
  i232 := by kernel_rfl
  i233 := by kernel_rfl
  m17 := by kernel_rfl
  m18 := by kernel_rfl
  m19 := by kernel_rfl }
open Go.RowKit Go.Sort Go.Lib in
/-- internal/strconv.Itoa: "Itoa is equivalent to FormatInt(int64(i), 10).": i's decimal numeral, for every int. (LAID: no walk: one application.) -/
theorem Tryz.internal_strconv_Itoa (n : Int) (h0 : -9223372036854775808 ≤ n) (h1 : n ≤ 9223372036854775807) (w : World) (htab : Lib.TabIs Tryz.prog w "internal/strconv.uint64pow10" .u64 Lib.pow10Tab) :
    Calls Tryz.prog 112 #[.int .i64 n] w fun e w' => e = .returned (.string ⟨(Lib.itoa n).toArray⟩) ∧ ∃ k os, w' = grow (w.drewN k) os := Any.internal_strconv_Itoa Tryz.laysM243 n h0 h1 w htab
def Tryz.laysM171_ren : Go.Shelf.Ren := ⟨fun | 171 => 63 | 243 => 112 | 246 => 141 | 283 => 152 | 284 => 153 | 285 => 154 | 286 => 155 | 129 => 166 | 317 => 165 | 318 => 167 | 319 => 168 | 320 => 169 | 337 => 174 | 338 => 175 | n => n, fun | 3 => 3 | 9 => 9 | 2 => 2 | 4 => 4 | 171 => 176 | 0 => 0 | 53 => 177 | 37 => 105 | 5 => 5 | 173 => 180 | 212 => 193 | 51 => 194 | 20 => 20 | 213 => 195 | 46 => 186 | 232 => 207 | 233 => 208 | n => n, fun | 17 => 0 | 18 => 4 | 19 => 5 | n => n⟩
theorem Tryz.laysM171 : Go.Proofs.LaysM.n171 Tryz.prog Tryz.laysM171_ren := {
  mixed := by kernel_rfl
  f129 := Tryz.func166.trans (congrArg some (by kernel_rfl))
  f171 := Tryz.func63.trans (congrArg some (by kernel_rfl))
  f243 := Tryz.func112.trans (congrArg some (by kernel_rfl))
  f246 := Tryz.func141.trans (congrArg some (by kernel_rfl))
  f283 := Tryz.func152.trans (congrArg some (by kernel_rfl))
  f284 := Tryz.func153.trans (congrArg some (by kernel_rfl))
  f285 := Tryz.func154.trans (congrArg some (by kernel_rfl))
  f286 := Tryz.func155.trans (congrArg some (by kernel_rfl))
  f317 := Tryz.func165.trans (congrArg some (by kernel_rfl))
  f318 := Tryz.func167.trans (congrArg some (by kernel_rfl))
  f319 := Tryz.func168.trans (congrArg some (by kernel_rfl))
  f320 := Tryz.func169.trans (congrArg some (by kernel_rfl))
  f337 := Tryz.func174.trans (congrArg some (by kernel_rfl))
  f338 := Tryz.func175.trans (congrArg some (by kernel_rfl))
  t0 := Tryz.underlying0
  a0 := Tryz.isAgg0
  z0 := Tryz.sizeOf0
  v0 := Tryz.zeroValue0
  t2 := Tryz.underlying2
  a2 := Tryz.isAgg2
  z2 := Tryz.sizeOf2
  v2 := Tryz.zeroValue2
  t3 := Tryz.underlying3
  a3 := Tryz.isAgg3
  z3 := Tryz.sizeOf3
  v3 := Tryz.zeroValue3
  t4 := Tryz.underlying4
  a4 := Tryz.isAgg4
  z4 := Tryz.sizeOf4
  v4 := Tryz.zeroValue4
  t5 := Tryz.underlying5
  a5 := Tryz.isAgg5
  z5 := Tryz.sizeOf5
  v5 := Tryz.zeroValue5
  t9 := Tryz.underlying9
  a9 := Tryz.isAgg9
  z9 := Tryz.sizeOf9
  v9 := Tryz.zeroValue9
  t20 := Tryz.underlying20
  a20 := Tryz.isAgg20
  z20 := Tryz.sizeOf20
  v20 := Tryz.zeroValue20
  t37 := Tryz.underlying105
  a37 := Tryz.isAgg105
  z37 := Tryz.sizeOf105
  v37 := Tryz.zeroValue105
  t46 := Tryz.underlying186
  a46 := Tryz.isAgg186
  z46 := Tryz.sizeOf186
  v46 := Tryz.zeroValue186
  t51 := Tryz.underlying194
  a51 := Tryz.isAgg194
  z51 := Tryz.sizeOf194
  v51 := Tryz.zeroValue194
  t53 := Tryz.underlying177
  a53 := Tryz.isAgg177
  z53 := Tryz.sizeOf177
  v53 := Tryz.zeroValue177
  t171 := Tryz.underlying176
  a171 := Tryz.isAgg176
  z171 := Tryz.sizeOf176
  v171 := Tryz.zeroValue176
  t173 := Tryz.underlying180
  a173 := Tryz.isAgg180
  z173 := Tryz.sizeOf180
  v173 := Tryz.zeroValue180
  t212 := Tryz.underlying193
  a212 := Tryz.isAgg193
  z212 := Tryz.sizeOf193
  v212 := Tryz.zeroValue193
  t213 := Tryz.underlying195
  a213 := Tryz.isAgg195
  z213 := Tryz.sizeOf195
  t232 := Tryz.underlying207
  a232 := Tryz.isAgg207
  z232 := Tryz.sizeOf207
  v232 := Tryz.zeroValue207
  t233 := Tryz.underlying208
  a233 := Tryz.isAgg208
  z233 := Tryz.sizeOf208
  v233 := Tryz.zeroValue208
  g17 := by kernel_rfl
  g18 := by kernel_rfl
  g19 := by kernel_rfl
  i0 := by kernel_rfl
  i2 := by kernel_rfl
  i3 := by kernel_rfl
  i4 := by kernel_rfl
  i5 := by kernel_rfl
  i9 := by kernel_rfl
  i20 := by kernel_rfl
  i37 := by kernel_rfl
  i46 := by kernel_rfl
  i51 := by kernel_rfl
  i53 := by kernel_rfl
  i171 := by kernel_rfl
  i173 := by kernel_rfl
  i212 := by kernel_rfl
  i232 := by kernel_rfl
  i233 := by kernel_rfl
  m17 := by kernel_rfl
  m18 := by kernel_rfl
  m19 := by kernel_rfl }
open Go.RowKit Go.Sort Go.Lib in
/-- strconv.Itoa: "Itoa is equivalent to FormatInt(int64(i), 10).": i's DECIMAL NUMERAL ('Lib.itoa': a '-' where i is negative, then the digits), FOR EVERY int. The world behind the call: the world before it, new blocks behind the heap (the library's 'var a [24]byte'), draws. (LAID: no walk: one application.) -/
theorem Tryz.strconv_Itoa (n : Int) (h0 : -9223372036854775808 ≤ n) (h1 : n ≤ 9223372036854775807) (w : World) (htab : Lib.TabIs Tryz.prog w "internal/strconv.uint64pow10" .u64 Lib.pow10Tab) :
    Calls Tryz.prog 63 #[.int .i64 n] w fun e w' => e = .returned (.string ⟨(Lib.itoa n).toArray⟩) ∧ ∃ k os, w' = grow (w.drewN k) os := Any.strconv_Itoa Tryz.laysM171 n h0 h1 w htab
def Tryz.laysC174_ren : Go.Shelf.Ren := ⟨fun | 174 => 130 | 247 => 148 | 245 => 149 | 287 => 158 | 279 => 159 | 280 => 160 | 281 => 161 | 282 => 162 | 321 => 170 | 322 => 171 | 316 => 172 | 171 => 63 | 205 => 173 | 243 => 112 | 246 => 141 | 283 => 152 | 284 => 153 | 285 => 154 | 286 => 155 | 129 => 166 | 317 => 165 | 318 => 167 | 319 => 168 | 320 => 169 | 337 => 174 | 338 => 175 | n => n, fun | 9 => 9 | 3 => 3 | 2 => 2 | 75 => 109 | 85 => 165 | 4 => 4 | 167 => 183 | 5 => 5 | 53 => 177 | 175 => 184 | 46 => 186 | 168 => 187 | 37 => 105 | 0 => 0 | 210 => 201 | 21 => 21 | 127 => 154 | 145 => 206 | 143 => 204 | 171 => 176 | 173 => 180 | 212 => 193 | 51 => 194 | 20 => 20 | 213 => 195 | 232 => 207 | 233 => 208 | 80 => 115 | n => n, fun | 15 => 2 | 16 => 3 | 17 => 0 | 18 => 4 | 19 => 5 | n => n⟩
theorem Tryz.laysC174 : Go.Proofs.LaysC.n174 Tryz.prog Tryz.laysC174_ren := {
  mixed := by kernel_rfl
  f129 := Tryz.func166.trans (congrArg some (by kernel_rfl))
  f171 := Tryz.func63.trans (congrArg some (by kernel_rfl))
  f174 := Tryz.func130.trans (congrArg some (by kernel_rfl))
  f205 := Tryz.func173.trans (congrArg some (by kernel_rfl))
  f243 := Tryz.func112.trans (congrArg some (by kernel_rfl))
  f245 := Tryz.func149.trans (congrArg some (by kernel_rfl))
  f246 := Tryz.func141.trans (congrArg some (by kernel_rfl))
  f247 := Tryz.func148.trans (congrArg some (by kernel_rfl))
  f279 := Tryz.func159.trans (congrArg some (by kernel_rfl))
  f280 := Tryz.func160.trans (congrArg some (by kernel_rfl))
  f281 := Tryz.func161.trans (congrArg some (by kernel_rfl))
  f282 := Tryz.func162.trans (congrArg some (by kernel_rfl))
  f283 := Tryz.func152.trans (congrArg some (by kernel_rfl))
  f284 := Tryz.func153.trans (congrArg some (by kernel_rfl))
  f285 := Tryz.func154.trans (congrArg some (by kernel_rfl))
  f286 := Tryz.func155.trans (congrArg some (by kernel_rfl))
  f287 := Tryz.func158.trans (congrArg some (by kernel_rfl))
  f316 := Tryz.func172.trans (congrArg some (by kernel_rfl))
  f317 := Tryz.func165.trans (congrArg some (by kernel_rfl))
  f318 := Tryz.func167.trans (congrArg some (by kernel_rfl))
  f319 := Tryz.func168.trans (congrArg some (by kernel_rfl))
  f320 := Tryz.func169.trans (congrArg some (by kernel_rfl))
  f321 := Tryz.func170.trans (congrArg some (by kernel_rfl))
  f322 := Tryz.func171.trans (congrArg some (by kernel_rfl))
  f337 := Tryz.func174.trans (congrArg some (by kernel_rfl))
  f338 := Tryz.func175.trans (congrArg some (by kernel_rfl))
  t0 := Tryz.underlying0
  a0 := Tryz.isAgg0
  z0 := Tryz.sizeOf0
  v0 := Tryz.zeroValue0
  t2 := Tryz.underlying2
  a2 := Tryz.isAgg2
  z2 := Tryz.sizeOf2
  v2 := Tryz.zeroValue2
  t3 := Tryz.underlying3
  a3 := Tryz.isAgg3
  z3 := Tryz.sizeOf3
  v3 := Tryz.zeroValue3
  t4 := Tryz.underlying4
  a4 := Tryz.isAgg4
  z4 := Tryz.sizeOf4
  v4 := Tryz.zeroValue4
  t5 := Tryz.underlying5
  a5 := Tryz.isAgg5
  z5 := Tryz.sizeOf5
  v5 := Tryz.zeroValue5
  t9 := Tryz.underlying9
  a9 := Tryz.isAgg9
  z9 := Tryz.sizeOf9
  v9 := Tryz.zeroValue9
  t20 := Tryz.underlying20
  a20 := Tryz.isAgg20
  z20 := Tryz.sizeOf20
  v20 := Tryz.zeroValue20
  t21 := Tryz.underlying21
  a21 := Tryz.isAgg21
  z21 := Tryz.sizeOf21
  v21 := Tryz.zeroValue21
  t37 := Tryz.underlying105
  a37 := Tryz.isAgg105
  z37 := Tryz.sizeOf105
  v37 := Tryz.zeroValue105
  t46 := Tryz.underlying186
  a46 := Tryz.isAgg186
  z46 := Tryz.sizeOf186
  v46 := Tryz.zeroValue186
  t51 := Tryz.underlying194
  a51 := Tryz.isAgg194
  z51 := Tryz.sizeOf194
  v51 := Tryz.zeroValue194
  t53 := Tryz.underlying177
  a53 := Tryz.isAgg177
  z53 := Tryz.sizeOf177
  v53 := Tryz.zeroValue177
  t75 := Tryz.underlying109
  a75 := Tryz.isAgg109
  z75 := Tryz.sizeOf109
  v75 := Tryz.zeroValue109
  t85 := Tryz.underlying165
  a85 := Tryz.isAgg165
  z85 := Tryz.sizeOf165
  v85 := Tryz.zeroValue165
  t127 := Tryz.underlying154
  a127 := Tryz.isAgg154
  z127 := Tryz.sizeOf154
  v127 := Tryz.zeroValue154
  t143 := Tryz.underlying204
  a143 := Tryz.isAgg204
  z143 := Tryz.sizeOf204
  v143 := Tryz.zeroValue204
  t145 := Tryz.underlying206
  a145 := Tryz.isAgg206
  z145 := Tryz.sizeOf206
  v145 := Tryz.zeroValue206
  t167 := Tryz.underlying183
  a167 := Tryz.isAgg183
  z167 := Tryz.sizeOf183
  v167 := Tryz.zeroValue183
  t168 := Tryz.underlying187
  a168 := Tryz.isAgg187
  z168 := Tryz.sizeOf187
  v168 := Tryz.zeroValue187
  t171 := Tryz.underlying176
  a171 := Tryz.isAgg176
  z171 := Tryz.sizeOf176
  v171 := Tryz.zeroValue176
  t173 := Tryz.underlying180
  a173 := Tryz.isAgg180
  z173 := Tryz.sizeOf180
  v173 := Tryz.zeroValue180
  t175 := Tryz.underlying184
  a175 := Tryz.isAgg184
  z175 := Tryz.sizeOf184
  v175 := Tryz.zeroValue184
  t210 := Tryz.underlying201
  a210 := Tryz.isAgg201
  z210 := Tryz.sizeOf201
  v210 := Tryz.zeroValue201
  t212 := Tryz.underlying193
  a212 := Tryz.isAgg193
  z212 := Tryz.sizeOf193
  v212 := Tryz.zeroValue193
  t213 := Tryz.underlying195
  a213 := Tryz.isAgg195
  z213 := Tryz.sizeOf195
  t232 := Tryz.underlying207
  a232 := Tryz.isAgg207
  z232 := Tryz.sizeOf207
  v232 := Tryz.zeroValue207
  t233 := Tryz.underlying208
  a233 := Tryz.isAgg208
  z233 := Tryz.sizeOf208
  v233 := Tryz.zeroValue208
  g15 := by kernel_rfl
  g16 := by kernel_rfl
  g17 := by kernel_rfl
  g18 := by kernel_rfl
  g19 := by kernel_rfl
  t80 := Tryz.underlying115
  a80 := Tryz.isAgg115
  z80 := Tryz.sizeOf115
  v80 := Tryz.zeroValue115
  i0 := by kernel_rfl
  i2 := by kernel_rfl
  i3 := by kernel_rfl
  i4 := by kernel_rfl
  i5 := by kernel_rfl
  i9 := by kernel_rfl
  i20 := by kernel_rfl
  i21 := by kernel_rfl
  i37 := by kernel_rfl
  i46 := by kernel_rfl
  i51 := by kernel_rfl
  i53 := by kernel_rfl
  i75 := by kernel_rfl
  i80 := by kernel_rfl
  i85 := by kernel_rfl
  i127 := by kernel_rfl
  i143 := by kernel_rfl
  i145 := by kernel_rfl
  i167 := by kernel_rfl
  i168 := by kernel_rfl
  i171 := by kernel_rfl
  i173 := by kernel_rfl
  i175 := by kernel_rfl
  i210 := by kernel_rfl
  i212 := by kernel_rfl
  i232 := by kernel_rfl
  i233 := by kernel_rfl
  m15 := by kernel_rfl
  m16 := by kernel_rfl
  m17 := by kernel_rfl
  m18 := by kernel_rfl
  m19 := by kernel_rfl
  c0 := by kernel_rfl
  c2 := by kernel_rfl
  c3 := by kernel_rfl
  c4 := by kernel_rfl
  c5 := by kernel_rfl
  c9 := by kernel_rfl
  c20 := by kernel_rfl
  c21 := by kernel_rfl
  c37 := by kernel_rfl
  c46 := by kernel_rfl
  c51 := by kernel_rfl
  c53 := by kernel_rfl
  c75 := by kernel_rfl
  c80 := by kernel_rfl
  c85 := by kernel_rfl
  c127 := by kernel_rfl
  c143 := by kernel_rfl
  c145 := by kernel_rfl
  c167 := by kernel_rfl
  c168 := by kernel_rfl
  c171 := by kernel_rfl
  c173 := by kernel_rfl
  c175 := by kernel_rfl
  c210 := by kernel_rfl
  c212 := by kernel_rfl
  c213 := by kernel_rfl
  c232 := by kernel_rfl
  c233 := by kernel_rfl }
open Go.RowKit in
/-- strconv.ParseInt(s, 10, 64), AT EVERY STRING THAT SPELLS AN int64 ('Lib.parseIntB 64 s.data.toList = .ok v'): v, AND NO ERROR. (LAID: no walk: one application.) -/
theorem Tryz.strconv_ParseInt_10_at64_ok (s : ByteArray) (hmax : s.size ≤ 9223372036854775806) (v : Int) (h : Lib.parseIntB 64 s.data.toList = .ok v) (w : World) :
    Calls Tryz.prog 130 #[.string s, .int .i64 10, .int .i64 64] w fun e w' => e = .returned (.tuple #[.int .i64 v, .nilIface]) ∧ (w' = w ∨ ∃ t, w' = Lib.bytesWorld w 5 t) := Any.strconv_ParseInt_10_at64_ok Tryz.laysC174 s hmax v h w
open Go.RowKit in
/-- strconv.ParseInt(s, 10, 64), AT EVERY STRING THAT IS NO DECIMAL NUMERAL: 0, AND AN ERROR THAT IS NOT nil: a *NumError in a new block N: {Func: "ParseInt", Num: s's bytes, Err: what the variable ErrSyntax holds}. Of what was there nothing has turned. (LAID: no walk: one application.) -/
theorem Tryz.strconv_ParseInt_10_at64_syntax (s : ByteArray) (hlim : s.size ≤ 281474976710656) (h : Lib.parseIntB 64 s.data.toList = Lib.parseIntB 64 []) (ev : Value) (w : World) (hv : w.cell? ⟨2, 0, none⟩ = some ev) (hev : ev = .nilIface ∨ ∃ te pe, ev = .iface te pe) :
    Calls Tryz.prog 130 #[.string s, .int .i64 10, .int .i64 64] w fun e w' => ∃ N, e = .returned (.tuple #[.int .i64 (0), .iface 187 (.pointer (some ⟨N, 0, none⟩))]) ∧ w.heap.size ≤ N ∧ w'.heap[N]? = some (.cells #[.string ⟨#[80, 97, 114, 115, 101, 73, 110, 116]⟩, .string s, ev] 201 (0, 0)) ∧ Below w.heap.size w w' := Any.strconv_ParseInt_10_at64_syntax Tryz.laysC174 s hlim h ev w hv hev
open Go.RowKit in
/-- strconv.ParseInt(s, 10, 64), AT EVERY NUMERAL THAT NO int64 HOLDS: THE GREATEST OR THE LEAST int64, BY THE SIGN ('Lib.intSat 64'), AND AN ERROR THAT IS NOT nil: a *NumError in a new block N: {Func: "ParseInt", Num: s's bytes, Err: what the variable ErrRange holds}. Of what was there nothing has turned. (LAID: no walk: one application.) -/
theorem Tryz.strconv_ParseInt_10_at64_range (s : ByteArray) (hlim : s.size ≤ 281474976710656) (h : Lib.parseIntB 64 s.data.toList = .range) (ev : Value) (w : World) (hv : w.cell? ⟨3, 0, none⟩ = some ev) (hev : ev = .nilIface ∨ ∃ te pe, ev = .iface te pe) :
    Calls Tryz.prog 130 #[.string s, .int .i64 10, .int .i64 64] w fun e w' => ∃ N, e = .returned (.tuple #[.int .i64 (Lib.intSat 64 s.data.toList), .iface 187 (.pointer (some ⟨N, 0, none⟩))]) ∧ w.heap.size ≤ N ∧ w'.heap[N]? = some (.cells #[.string ⟨#[80, 97, 114, 115, 101, 73, 110, 116]⟩, .string s, ev] 201 (0, 0)) ∧ Below w.heap.size w w' := Any.strconv_ParseInt_10_at64_range Tryz.laysC174 s hlim h ev w hv hev
end Go.Proofs
namespace Go.Proofs.YtjecflbbcnocdaaGreatDoor
open Go.Lir
set_option maxHeartbeats 1000000
attribute [local irreducible] LC.wp Q2 QA QB retQ Q1e LO.wp Qj Calls
set_option linter.unusedSimpArgs false
set_option linter.unusedVariables false
variable {cx : Cx} {w : World} {L : List Res}
theorem Qs1 {c : UInt8} (hS : St cx w L) : Rets Tryz.prog QeV [.int .u8 c.toNat] w fun u w' => u = .bool (Q2D c) ∧ St cx w' L := by
  all_goals refine QgK ?_
  all_goals (unfold token_letter_lc; refine Q0 ?_; refine Q1 ?_; refine zm ?_; refine zn ?_; refine Q0 ?_; refine Q1 ?_; refine zm ?_)
  all_goals (first | (refine Q5Y ?_) | (refine Q6N ?_) | (refine Q35 rfl rfl (fun hc => ?_) (fun hc => ?_)))
  all_goals (refine zm ?_; (first | refine zgn ?_ | (refine zgy ?_; refine zm ?_)))
  all_goals (first | refine zgn ?_ | (refine zgy ?_; (first | (refine Qtk ?_) | (refine Qtl ?_) | (refine QgS rfl rfl (fun hc => ?_) (fun hc => ?_)))))
  all_goals ((first | (refine zpt ?_) | (refine zpf ?_)); refine zm ?_; refine zn ?_; refine zr ?_; refine zf ?_; exact ⟨_, rfl, (by unfold Q2D; first | rw [decide_eq_true (by omega)] | rw [decide_eq_false (by omega)]), hS.sp⟩)
theorem Qo7 {c : UInt8} (hS : St cx w L) : Rets Tryz.prog Qli [.int .u8 c.toNat] w fun u w' => u = .bool (Q2D c) ∧ St cx w' L := by
  all_goals refine Qn4 ?_
  all_goals (unfold R_isLetter_lc; refine Q0 ?_; refine Q1 ?_; refine zm ?_; refine zn ?_; refine Q0 ?_; refine Q1 ?_; refine zm ?_)
  all_goals (first | (refine Q5Y ?_) | (refine Q6N ?_) | (refine Q35 rfl rfl (fun hc => ?_) (fun hc => ?_)))
  all_goals (refine zm ?_; (first | refine zgn ?_ | (refine zgy ?_; refine zm ?_)))
  all_goals (first | refine zgn ?_ | (refine zgy ?_; (first | (refine Qtk ?_) | (refine Qtl ?_) | (refine QgS rfl rfl (fun hc => ?_) (fun hc => ?_)))))
  all_goals ((first | (refine zpt ?_) | (refine zpf ?_)); refine zm ?_; refine zn ?_; refine zr ?_; refine zf ?_; exact ⟨_, rfl, (by unfold Q2D; first | rw [decide_eq_true (by omega)] | rw [decide_eq_false (by omega)]), hS.sp⟩)
theorem Qq4 {c : UInt8} (hS : St cx w L) : Rets Tryz.prog QgM [.int .u8 c.toNat] w fun u w' => u = .bool (QU c) ∧ St cx w' L := by
  all_goals refine Qj7 ?_
  all_goals (unfold token_digit_lc; refine Q0 ?_; refine Q1 ?_; refine zm ?_; refine zn ?_; refine Q0 ?_; refine Q1 ?_; refine zm ?_)
  all_goals (first | (refine Q5Y ?_) | (refine Q6N ?_) | (refine Q35 rfl rfl (fun hc => ?_) (fun hc => ?_)))
  all_goals (refine zm ?_; (first | refine zgn ?_ | (refine zgy ?_; refine zm ?_)))
  all_goals (first | refine zgn ?_ | (refine zgy ?_; (first | (refine Qtk ?_) | (refine Qtl ?_) | (refine QgS rfl rfl (fun hc => ?_) (fun hc => ?_)))))
  all_goals ((first | (refine zpt ?_) | (refine zpf ?_)); refine zm ?_; refine zn ?_; refine zr ?_; refine zf ?_; exact ⟨_, rfl, (by unfold QU; first | rw [decide_eq_true (by omega)] | rw [decide_eq_false (by omega)]), hS.sp⟩)
theorem QlY {c : UInt8} (hS : St cx w L) : Rets Tryz.prog QoU [.int .u8 c.toNat] w fun u w' => u = .bool (QU c) ∧ St cx w' L := by
  all_goals refine QoT ?_
  all_goals (unfold R_isDigit_lc; refine Q0 ?_; refine Q1 ?_; refine zm ?_; refine zn ?_; refine Q0 ?_; refine Q1 ?_; refine zm ?_)
  all_goals (first | (refine Q5Y ?_) | (refine Q6N ?_) | (refine Q35 rfl rfl (fun hc => ?_) (fun hc => ?_)))
  all_goals (refine zm ?_; (first | refine zgn ?_ | (refine zgy ?_; refine zm ?_)))
  all_goals (first | refine zgn ?_ | (refine zgy ?_; (first | (refine Qtk ?_) | (refine Qtl ?_) | (refine QgS rfl rfl (fun hc => ?_) (fun hc => ?_)))))
  all_goals ((first | (refine zpt ?_) | (refine zpf ?_)); refine zm ?_; refine zn ?_; refine zr ?_; refine zf ?_; exact ⟨_, rfl, (by unfold QU; first | rw [decide_eq_true (by omega)] | rw [decide_eq_false (by omega)]), hS.sp⟩)
end Go.Proofs.YtjecflbbcnocdaaGreatDoor
namespace Go.Proofs.YtjecflbbcnocdaaGreatDoor
open Go.Lir
/-- The table of powers of ten lies in what is only read. -/
abbrev PowT (c : Cx) : Prop := TabK Tryz.prog c "internal/strconv.uint64pow10" .u64 Lib.pow10Tab
end Go.Proofs.YtjecflbbcnocdaaGreatDoor
namespace Go.Proofs.YtjecflbbcnocdaaGreatDoor
open Go.Lir
set_option maxHeartbeats 1000000
attribute [local irreducible] LC.wp Q2 QA QB retQ Q1e LO.wp Qj Calls
set_option linter.unusedSimpArgs false
set_option linter.unusedVariables false
theorem pi_nil (n : Int) : Lib.parseIntB 64 [] ≠ .ok n := fun h => by cases h
theorem pi_cases (t : List UInt8) : (∃ n, Lib.parseIntB 64 t = .ok n) ∨ Lib.parseIntB 64 t = .range ∨ Lib.parseIntB 64 t = Lib.parseIntB 64 [] := by
  cases h : Lib.parseIntB 64 t with
  | ok n => exact .inl ⟨n, rfl⟩
  | range => exact .inr (.inl rfl)
  | _ => exact .inr (.inr rfl)
attribute [local irreducible] Lib.itoa Lib.parseIntB
variable {cx : Cx} {w : World} {L : List Res}
/-- An error of the library's lies in what is only read. -/
def ErrV (c : Cx) (g : Nat) : Prop := c.K g ∧ ∀ w : World, w.heap[g]? = c.H0[g]? → ∃ ev, w.cell? ⟨g, 0, none⟩ = some ev ∧ (ev = .nilIface ∨ ∃ te pe, ev = .iface te pe)
theorem ErrV.up {c c' : Cx} {g : Nat} (h : ErrV c g) (hle : c.Le c') : ErrV c' g := ⟨(hle.K g h.1).1, fun w hw => h.2 w (hw.trans (hle.K g h.1).2)⟩
theorem ErrV.now {c : Cx} {g : Nat} (h : ErrV c g) (hS : St c w L) : ∃ ev, w.cell? ⟨g, 0, none⟩ = some ev ∧ (ev = .nilIface ∨ ∃ te pe, ev = .iface te pe) := h.2 w (hS.1.same g h.1)
/-- What the numbers' texts need. -/
structure NumK (c : Cx) : Prop where
  pow : PowT c
  syn : ErrV c 2
  rng : ErrV c 3
theorem NumK.up {c c' : Cx} (h : NumK c) (hle : c.Le c') : NumK c' := ⟨h.pow.up hle, h.syn.up hle, h.rng.up hle⟩
theorem bytes_fr (w : World) (T : TypeId) (t : ByteArray) : Fr NF w (Lib.bytesWorld w T t) :=
  ⟨rfl, rfl, rfl, by rw [Lib.bytesWorld_size]; omega, fun b hb _ => Lib.bytesWorld_at_old w T t b hb⟩
theorem ifmt_c {n : Int} (h0 : -9223372036854775808 ≤ n) (h1 : n ≤ 9223372036854775807) (hT : PowT cx) (hS : St cx w L) :
    Rets Tryz.prog 141 [.int .i64 n, .int .i64 10] w fun u w' => u = .string ⟨(Lib.itoa n).toArray⟩ ∧ St cx w' L := by
  refine Calls.mono (Tryz.internal_strconv_FormatInt_10 n h0 h1 w (hT.now hS)) ?_
  rintro e w' ⟨rfl, k, os, rfl⟩
  exact ⟨_, rfl, rfl, hS.fr0 (grow_fr w k os)⟩
/-- A number's text, read: the number, or an error. -/
theorem Qu9 {t : List UInt8} (ht : t.length ≤ 100000) (hT : NumK cx) (hS : St cx w L) :
    Rets Tryz.prog 130 [.string ⟨t.toArray⟩, .int .i64 10, .int .i64 64] w fun u w' => (∃ n, Lib.parseIntB 64 t = .ok n ∧ u = .tuple #[.int .i64 n, .nilIface] ∧ St cx w' L) ∨ ((∀ n, Lib.parseIntB 64 t ≠ .ok n) ∧ ∃ n T p, u = .tuple #[.int .i64 n, .iface T p] ∧ oneC p = true ∧ St cx w' L) := by
  have hsz : (⟨t.toArray⟩ : ByteArray).size = t.length := Qcl t
  rcases pi_cases t with ⟨n, h⟩ | h | h
  · refine Calls.mono (Tryz.strconv_ParseInt_10_at64_ok ⟨t.toArray⟩ (by omega) n h w) ?_
    rintro e w' ⟨rfl, h2⟩
    refine ⟨_, rfl, .inl ⟨n, h, rfl, ?_⟩⟩
    rcases h2 with rfl | ⟨s, rfl⟩
    · exact hS
    · exact hS.fr0 (bytes_fr w _ s)
  · obtain ⟨ev, h1, h2⟩ := hT.rng.now hS
    refine Calls.mono (Tryz.strconv_ParseInt_10_at64_range ⟨t.toArray⟩ (by omega) h ev w h1 h2) ?_
    rintro e w' ⟨N, rfl, _, _, hb⟩
    exact ⟨_, rfl, .inr ⟨fun n hn => (by rw [h] at hn; cases hn), _, _, _, rfl, rfl, hS.fr0 (Qsa hb)⟩⟩
  · obtain ⟨ev, h1, h2⟩ := hT.syn.now hS
    refine Calls.mono (Tryz.strconv_ParseInt_10_at64_syntax ⟨t.toArray⟩ (by omega) h ev w h1 h2) ?_
    rintro e w' ⟨N, rfl, _, _, hb⟩
    exact ⟨_, rfl, .inr ⟨fun n hn => pi_nil n (h.symm.trans hn), _, _, _, rfl, rfl, hS.fr0 (Qsa hb)⟩⟩
theorem fmtp_c {n : Int} (h0 : -9223372036854775808 ≤ n) (h1 : n ≤ 9223372036854775807) (hT : PowT cx) (hS : St cx w L) :
    Rets Tryz.prog 109 [.int .i64 n, .int .i64 10] w fun u w' => u = .string ⟨(Lib.itoa n).toArray⟩ ∧ St cx w' L := by
  all_goals refine Q8f ?_
  all_goals (unfold strconv_FormatInt_lc; refine Q0 ?_; refine Q1 ?_; refine zm ?_; refine zn ?_; refine Q0 ?_; refine Q1 ?_; refine zm ?_; refine zm ?_; refine zR2 (c := ifmt_c h0 h1 hT hS) (h := ?_); rintro v1 w1 ⟨rfl, hS⟩; refine zm ?_; refine zn ?_; refine zr ?_; refine zf ?_; exact ⟨_, rfl, rfl, hS.sp⟩)
theorem fmt_c {n : Int} (h0 : -9223372036854775808 ≤ n) (h1 : n ≤ 9223372036854775807) (hT : NumK cx) (hS : St cx w L) :
    Rets Tryz.prog 109 [.int .i64 n, .int .i64 10] w fun u w' => u = .string ⟨(Lib.itoa n).toArray⟩ ∧ St cx w' L := fmtp_c h0 h1 hT.pow hS
theorem iby_c {s : List UInt8} {c : UInt8} (hS : St cx w L) : Rets Tryz.prog 121 [.string ⟨s.toArray⟩, .int .u8 c.toNat] w fun u w' => u = .int .i64 (Lib.indexByte s c) ∧ St cx w' L := by
  refine Calls.mono (Tryz.strings_IndexByte ⟨s.toArray⟩ c.toNat w) ?_
  rintro e w' ⟨rfl, rfl⟩
  refine ⟨_, rfl, ?_, hS⟩
  rw [Int.toNat_natCast]
  simp
theorem ihp_c {s p : List UInt8} (hl : s.length ≤ 100000) (hS : St cx w L) : Rets Tryz.prog 142 [.string ⟨s.toArray⟩, .string ⟨p.toArray⟩] w fun u w' => u = .bool (decide (s.take p.length = p)) ∧ St cx w' L := by
  all_goals refine Q3r ?_
  all_goals (unfold internal_stringslite_HasPrefix_lc; refine Q0 ?_; refine Q1 ?_; refine zm ?_; refine zn ?_; refine Q0 ?_; refine Q1 ?_; refine zm ?_; refine Q1P rfl ?_; refine zm ?_; refine Q1P rfl ?_)
  all_goals (first | (refine Q5Y ?_) | (refine Q6N ?_) | (refine Q35 rfl rfl (fun hc => ?_) (fun hc => ?_)))
  all_goals (refine zm ?_; (first | refine zgn ?_ | (refine zgy ?_; refine zm ?_)); (first | refine zgn ?_ | (refine zgy ?_; refine zm ?_)); (first | refine zgn ?_ | (refine zgy ?_; refine Q1P rfl ?_)); (first | refine zgn ?_ | (refine zgy ?_; refine Q5A rfl (h' := p.length) ⟨_, rfl⟩ rfl (by omega) (by omega) ?_; rw [List.drop_zero])); (first | refine zgn ?_ | (refine zgy ?_; refine zm ?_)); (first | refine zgn ?_ | (refine zgy ?_; refine Qo2 rfl rfl ?_)); (first | (refine zpt ?_) | (refine zpf ?_)); refine zm ?_; refine zn ?_; refine zr ?_; refine zf ?_; (first | exact ⟨_, rfl, rfl, hS.sp⟩ | exact ⟨_, rfl, (by rw [decide_eq_false]; intro h; have h9 := congrArg List.length h; rw [List.length_take] at h9; omega), hS.sp⟩))
theorem hp_c {s p : List UInt8} (hl : s.length ≤ 100000) (hS : St cx w L) : Rets Tryz.prog 120 [.string ⟨s.toArray⟩, .string ⟨p.toArray⟩] w fun u w' => u = .bool (decide (s.take p.length = p)) ∧ St cx w' L := by
  all_goals refine Q8c ?_
  all_goals (unfold strings_HasPrefix_lc; refine Q0 ?_; refine Q1 ?_; refine zm ?_; refine zn ?_; refine Q0 ?_; refine Q1 ?_; refine zm ?_; refine zm ?_; refine zR2 (c := ihp_c hl hS) (h := ?_); rintro v1 w1 ⟨rfl, hS⟩; refine zm ?_; refine zn ?_; refine zr ?_; refine zf ?_; exact ⟨_, rfl, rfl, hS.sp⟩)
end Go.Proofs.YtjecflbbcnocdaaGreatDoor
namespace Go.Proofs.YtjecflbbcnocdaaGreatDoor
open Go.Lir
set_option maxHeartbeats 1000000
attribute [local irreducible] LC.wp Q2 QA QB retQ Q1e LO.wp Qj Calls
set_option linter.unusedSimpArgs false
set_option linter.unusedVariables false
attribute [local irreducible] skip
variable {cx : Cx} {w : World} {L : List Res}
@[reducible] def scn (sb : Nat) (src : List UInt8) (i : Nat) : Res := blk sb 124 [.string ⟨src.toArray⟩, .int .i64 (i : Int)]
theorem QuN {src : List UInt8} {sb at0 : Nat} (hl : src.length ≤ 100000) (ha : at0 ≤ src.length) (hS : St cx w (scn sb src at0 :: L)) : Rets Tryz.prog Qz [.pointer (some ⟨sb, 0, none⟩)] w fun u w' => ∃ at1, u = .tuple #[] ∧ at0 ≤ at1 ∧ at1 ≤ src.length ∧ src.drop at1 = skip false (src.drop at0) ∧ St cx w' (scn sb src at1 :: L) := by
  all_goals refine Q6o ?_
  all_goals (unfold token_scanner_blank_lc; refine Q0 ?_; refine Q1 ?_; refine zm ?_; refine zn ?_; refine Qa ?_)
  refine zo [0] (fun A ρ' w' => ∃ (rem : Bool) (i : Nat) (qc : Value), Has ρ' A ∧ Has ρ' [(2, .bool rem), (3, qc)] ∧ (at0 ≤ i) ∧ (i ≤ src.length) ∧ (skip false (src.drop at0) = skip rem (src.drop i)) ∧ St cx w' (scn sb src i :: L)) (fun _ w' => (src.length - QuK w' sb 1).toNat) ?_ ?_
  · exact ⟨false, at0, _, zh, zh, (by omega), (by omega), rfl, hS.sp⟩
  rintro ρ w1 ⟨rem, i, qc, hA, hρ, hi0, hi, hd, hS⟩; obtain ⟨ρ, rfl⟩ := env2 hA hρ; have hm0 := Q89 (j := 1) hS (i := 0) rfl rfl
  unfold Q3y
  all_goals (refine Q0 ?_; refine Q0 ?_; refine zD [(0, none), (1, none), (2, none), (3, none), (4, none), (5, none), (6, none), (7, none), (8, none), (9, some none)] ?_; have hS := hS.drew; refine zm ?_; refine znc ?_; refine zf0 ?_; refine zl hS ?_; refine zm ?_; refine znc ?_; refine zf0 ?_; refine zl hS ?_; refine Q1P rfl ?_)
  all_goals (first | (refine Q1b ?_) | (refine Q1z ?_) | (refine QH rfl rfl (fun hc => ?_) (fun hc => ?_)))
  all_goals (refine zn ?_)
  all_goals
    first
    | (refine zcf ?_ -- Qz c0
       all_goals (refine zex ?_)
       all_goals (refine Q3z ?_; exact ⟨_, rfl, i, rfl, hi0, hi, (by rw [hd, List.drop_of_length_le (by omega), QaW]), hS.sp⟩))
    | (refine zct ?_ -- Qz c0
       all_goals (refine zsk ?_)
       refine zM [0] (fun A ρ' w' => ∃ (rem2 : Bool), Has ρ' A ∧ Has ρ' [(2, .bool rem2)] ∧ (skip false (src.drop at0) = skip rem2 (src.drop (i + 1))) ∧ St cx w' (scn sb src i :: L)) ?_ ?_
       · skip
         all_goals (refine Qa ?_; refine Q0 ?_; obtain ⟨c, hc9⟩ : ∃ x, src[i]? = some x := ⟨_, List.getElem?_eq_getElem (by omega)⟩; rw [Q4 hc9] at hd; refine zD [(0, none), (1, none), (2, none), (3, none), (4, none), (5, none), (6, none), (7, none), (8, none), (9, some none)] ?_; have hS := hS.drew; refine zm ?_; refine znc ?_; refine zf0 ?_; refine zl hS ?_; refine zm ?_; refine znc ?_; refine zf0 ?_; refine zl hS ?_; refine Q1H rfl rfl hc9 ?_; refine zm ?_; refine zn ?_; refine Qa ?_; refine Q0 ?_; refine Q1 ?_; refine zm ?_)
         all_goals (first | (refine Qn ?_) | (refine Qq ?_) | (refine Qg rfl rfl (fun hc => ?_) (fun hc => ?_)))
         all_goals (refine zm ?_; refine zn ?_)
         all_goals
           first
           | (refine zct ?_ -- Qz c1
              all_goals (refine Q1 ?_; refine zm ?_)
              all_goals refine zn ?_)
           | (refine zcf ?_ -- Qz c1
              all_goals (refine Q0 ?_)
              all_goals (cases rem)
              all_goals (refine Q1 ?_; refine zm ?_; refine zm ?_; (first | refine zgn ?_ | (refine zgy ?_; refine zm ?_)))
              all_goals (first | refine zgn ?_ | (refine zgy ?_; (first | (refine Qn ?_) | (refine Qq ?_) | (refine Qg rfl rfl (fun hc => ?_) (fun hc => ?_)))))
              all_goals ((first | (refine zpt ?_) | (refine zpf ?_)); refine zm ?_; (first | refine zgn ?_ | (refine zgy ?_; refine zm ?_)))
              all_goals (first | refine zgn ?_ | (refine zgy ?_; (first | (refine Qn ?_) | (refine Qq ?_) | (refine Qg rfl rfl (fun hc => ?_) (fun hc => ?_)))))
              all_goals ((first | (refine zpt ?_) | (refine zpf ?_)); refine zm ?_; (first | refine zgn ?_ | (refine zgy ?_; refine zm ?_)))
              all_goals (first | refine zgn ?_ | (refine zgy ?_; (first | (refine Qn ?_) | (refine Qq ?_) | (refine Qg rfl rfl (fun hc => ?_) (fun hc => ?_)))))
              all_goals ((first | (refine zpt ?_) | (refine zpf ?_)); refine zm ?_; refine zn ?_)
              all_goals
                first
                | (refine zct ?_ -- Qz c2
                   all_goals refine zsk ?_)
                | (refine zcf ?_ -- Qz c2
                   all_goals (refine Q0 ?_; refine Q1 ?_; refine zm ?_)
                   all_goals (first | (refine Qn ?_) | (refine Qq ?_) | (refine Qg rfl rfl (fun hc => ?_) (fun hc => ?_)))
                   all_goals (refine zm ?_; refine zn ?_)
                   all_goals
                     first
                     | (refine zct ?_ -- Qz c3
                        all_goals (refine Q1 ?_; refine zm ?_)
                        all_goals refine zn ?_)
                     | (refine zcf ?_ -- Qz c3
                        all_goals (refine zr ?_; refine QtX ?_)
                        all_goals (exact ⟨_, rfl, i, rfl, hi0, hi, (by rw [hd, QgP (by omega) (by omega) (by omega) (by omega) (by omega), ← Q4 hc9]), hS.sp⟩))))
         all_goals ((first | (exact ⟨false, zh, zh, hd.trans (QgQ (by omega)), hS.sp⟩) | (exact ⟨true, zh, zh, hd.trans (QlP (by omega)), hS.sp⟩) | (exact ⟨false, zh, zh, hd.trans (Qpz (by omega)), hS.sp⟩) | (exact ⟨true, zh, zh, hd.trans (QnW (by omega)), hS.sp⟩)))
       rintro ρ w1 ⟨rem2, hA, hρ, hd2, hS⟩; obtain ⟨ρ, rfl⟩ := env2 hA hρ
       all_goals (refine Q1 ?_; refine zm ?_; refine znc ?_; refine zf0 ?_; refine zl hS ?_; refine zad ?_; refine znc ?_; refine zf0 ?_; refine zst hS ?_; intro w1 hS; have hS := hS.ns; refine zn ?_)
       all_goals (exact ⟨⟨rem2, i + 1, _, zh, zh, (by omega), (by omega), hd2, hS.sp⟩, by rw [hm0, Q89 (j := 1) hS (i := 0) rfl rfl]; omega⟩))
theorem Qtn {src : List UInt8} {sb at0 g : Nat} {p : UInt8 → Bool} (hg : Q3B Tryz.prog g = true) (hp : ∀ (c : UInt8) {cx : Cx} {w : World} {L : List Res}, St cx w L → Rets Tryz.prog g [.int .u8 c.toNat] w fun u w' => u = .bool (p c) ∧ St cx w' L) (hl : src.length ≤ 100000) (ha : at0 ≤ src.length) (hS : St cx w (scn sb src at0 :: L)) :
    Rets Tryz.prog Q23 [.pointer (some ⟨sb, 0, none⟩), .func (.func g) #[] #[]] w fun u w' => u = .string ⟨((src.drop at0).takeWhile p).toArray⟩ ∧ St cx w' (scn sb src (at0 + ((src.drop at0).takeWhile p).length) :: L) := by
  all_goals refine Q64 ?_
  all_goals (unfold token_scanner_while_lc; refine Q0 ?_; refine Q1 ?_; refine zm ?_; refine zn ?_; refine Q0 ?_; refine Q1 ?_; refine zm ?_; refine znc ?_; refine zf0 ?_; refine zl hS ?_; refine zm ?_; refine zn ?_; refine Q0 ?_; refine Qa ?_)
  refine zo [0, 1, 5] (fun A ρ' w' => ∃ (k : Nat), Has ρ' A ∧ Has ρ' [] ∧ (at0 + k ≤ src.length) ∧ (∀ x ∈ (src.drop at0).take k, p x = true) ∧ St cx w' (scn sb src (at0 + k) :: L)) (fun _ w' => (src.length - QuK w' sb 1).toNat) ?_ ?_
  · exact ⟨0, zh, zh, (by omega), (fun x hx => by simp at hx), hS.sp⟩
  rintro ρ w1 ⟨k, hA, hρ, hk, hall, hS⟩; obtain ⟨ρ, rfl⟩ := env2 hA hρ; have hm0 := Q89 (j := 1) hS (i := 0) rfl rfl
  unfold Q3x
  all_goals (refine Q0 ?_; refine Q0 ?_; refine zD [(0, none), (1, none), (2, none), (3, none), (4, none), (5, none), (6, none), (7, none), (8, none), (9, none), (10, none), (11, none), (12, none), (13, none), (14, none), (15, none), (16, none), (17, none), (18, none), (19, none), (20, none), (21, some none), (22, some none)] ?_; have hS := hS.drew; refine zm ?_; refine znc ?_; refine zf0 ?_; refine zl hS ?_; refine zm ?_; refine znc ?_; refine zf0 ?_; refine zl hS ?_; refine Q1P rfl ?_)
  all_goals (first | (refine Q1b ?_) | (refine Q1z ?_) | (refine QH rfl rfl (fun hc => ?_) (fun hc => ?_)))
  all_goals (refine zm ?_; (first | refine zgn ?_ | (refine zgy ?_; refine zm ?_)); (first | refine zgn ?_ | (refine zgy ?_; refine zm ?_)); (first | refine zgn ?_ | (refine zgy ?_; refine znc ?_)); (first | refine zgn ?_ | (refine zgy ?_; refine zf0 ?_)); (first | refine zgn ?_ | (refine zgy ?_; refine zl hS ?_)); (first | refine zgn ?_ | (refine zgy ?_; refine zm ?_)); (first | refine zgn ?_ | (refine zgy ?_; refine znc ?_)); (first | refine zgn ?_ | (refine zgy ?_; refine zf0 ?_)); (first | refine zgn ?_ | (refine zgy ?_; refine zl hS ?_)); (first | refine zgn ?_ | (refine zgy ?_; obtain ⟨c, hc9⟩ : ∃ x, src[at0 + k]? = some x := ⟨_, List.getElem?_eq_getElem (by omega)⟩; refine Q1H rfl rfl hc9 ?_)))
  all_goals (first | refine zgn ?_ | (refine zgy ?_; refine QtK rfl hg rfl (hp c hS) ?_; rintro v1 w1 ⟨rfl, hS⟩; cases hq : p c))
  all_goals ((first | (refine zpt ?_) | (refine zpf ?_)); refine zn ?_)
  all_goals
    first
    | (refine zct ?_ -- Q23 c0
       all_goals (refine zsk ?_; refine Qa ?_; refine Q1 ?_; refine zm ?_; refine znc ?_; refine zf0 ?_; refine zl hS ?_; refine zad ?_; refine znc ?_; refine zf0 ?_; refine zst hS ?_; intro w1 hS; have hS := hS.ns; refine zn ?_)
       all_goals (exact ⟨⟨k + 1, zh, zh, (by omega), QkW hall hc9 hq, hS.sp⟩, by rw [hm0, Q89 (j := 1) hS (i := 0) rfl rfl]; omega⟩))
    | (refine zcf ?_ -- Q23 c0
       all_goals (refine zex ?_)
       all_goals (have hw := QnS hall hk (by intro x hx; first | (rw [List.getElem?_eq_none (by omega)] at hx; cases hx) | (obtain rfl : c = x := Option.some.inj (hc9.symm.trans hx); exact hq)))
       all_goals (refine Q0 ?_; refine zD [(0, none), (1, none), (2, none), (3, none), (4, none), (5, none), (6, none), (7, none), (8, none), (9, none), (10, some none)] ?_; have hS := hS.drew; refine zm ?_; refine znc ?_; refine zf0 ?_; refine zl hS ?_; refine zm ?_; refine zm ?_; refine znc ?_; refine zf0 ?_; refine zl hS ?_; refine Q5A rfl (l' := at0) (h' := at0 + k) ⟨_, rfl⟩ ⟨_, rfl⟩ (by omega) (by omega) ?_; rw [hw.1]; refine zm ?_; refine zn ?_; refine zr ?_; refine zf ?_)
       all_goals (exact ⟨_, rfl, rfl, (by rw [← hw.2]; exact hS.sp)⟩))
theorem Qo8 {src : List UInt8} {at0 : Nat} (hl : src.length ≤ 100000) (ha : at0 ≤ src.length) (hS : St cx w L) : Rets Tryz.prog Q4D [.string ⟨src.toArray⟩, .int .i64 at0] w fun u w' => ∃ at1 : Nat, u = .int .i64 at1 ∧ at0 ≤ at1 ∧ at1 ≤ src.length ∧ src.drop at1 = skip false (src.drop at0) ∧ St cx w' L := by
  all_goals refine QqH ?_
  all_goals (unfold R_begins_lc; refine Q0 ?_; refine Q1 ?_; refine zm ?_; refine zn ?_; refine Q0 ?_; refine Qa ?_)
  refine zoL hS [0] (fun A LL ρ' w' => ∃ (i : Nat), Has ρ' A ∧ Has ρ' [(1, .int .i64 i)] ∧ (at0 ≤ i) ∧ (i ≤ src.length) ∧ (skip false (src.drop at0) = skip false (src.drop i)) ∧ St cx w' (LL)) (fun ρ' _ => (src.length - iv (ρ' 1)).toNat) ?_ ?_
  · exact ⟨at0, zh, zh, (by omega), (by omega), rfl, hS.sp⟩
  rintro ρ w1 ⟨i, hA, hρ, hi0, hi, hd, hS⟩; obtain ⟨ρ, rfl⟩ := env2 hA hρ
  unfold Qi3
  all_goals (refine Q0 ?_; refine Q0 ?_; refine Q1 ?_; refine zm ?_; refine zm ?_; refine Q1P rfl ?_; refine Q1i rfl rfl ?_; refine zn ?_)
  refine QM rfl (fun hc => ?_) (fun hc => ?_)
  · skip
    all_goals (refine zsk ?_; refine Qa ?_; refine Q0 ?_; obtain ⟨c, hc9⟩ : ∃ x, src[i]? = some x := ⟨_, List.getElem?_eq_getElem (by omega)⟩; refine Q1 ?_; refine zm ?_; refine zm ?_; refine Q1H rfl rfl hc9 ?_)
    all_goals (first | (refine Qn ?_) | (refine Qq ?_) | (refine Qg rfl rfl (fun hc => ?_) (fun hc => ?_)))
    all_goals (refine zm ?_; (first | refine zgn ?_ | (refine zgy ?_; refine zm ?_)); (first | refine zgn ?_ | (refine zgy ?_; refine zm ?_)); (first | refine Q1H rfl rfl hc9 ?_ | refine zgn ?_ | (refine zgy ?_; refine Q1H rfl rfl hc9 ?_)))
    all_goals (first | refine zgn ?_ | (refine zgy ?_; (first | (refine Qn ?_) | (refine Qq ?_) | (refine Qg rfl rfl (fun hc => ?_) (fun hc => ?_)))))
    all_goals ((first | (refine zpt ?_) | (refine zpf ?_)); refine zm ?_; (first | refine zgn ?_ | (refine zgy ?_; refine zm ?_)); (first | refine zgn ?_ | (refine zgy ?_; refine zm ?_)); (first | refine Q1H rfl rfl hc9 ?_ | refine zgn ?_ | (refine zgy ?_; refine Q1H rfl rfl hc9 ?_)))
    all_goals (first | refine zgn ?_ | (refine zgy ?_; (first | (refine Qn ?_) | (refine Qq ?_) | (refine Qg rfl rfl (fun hc => ?_) (fun hc => ?_)))))
    all_goals ((first | (refine zpt ?_) | (refine zpf ?_)); refine zm ?_; (first | refine zgn ?_ | (refine zgy ?_; refine zm ?_)); (first | refine zgn ?_ | (refine zgy ?_; refine zm ?_)); (first | refine Q1H rfl rfl hc9 ?_ | refine zgn ?_ | (refine zgy ?_; refine Q1H rfl rfl hc9 ?_)))
    all_goals (first | refine zgn ?_ | (refine zgy ?_; (first | (refine Qn ?_) | (refine Qq ?_) | (refine Qg rfl rfl (fun hc => ?_) (fun hc => ?_)))))
    all_goals ((first | (refine zpt ?_) | (refine zpf ?_)); refine zn ?_)
    all_goals
      first
      | (refine zct ?_ -- Q4D c1
         all_goals (refine Q1 ?_; refine zm ?_; refine zad ?_; refine zm ?_; refine zn ?_)
         all_goals (exact ⟨⟨i + 1, zh, zh, (by omega), (by omega), hd.trans (by rw [Q4 hc9]; first | exact Qpz (by omega) | exact QgQ (by omega)), hS.sp⟩, (by exact QF (by omega))⟩))
      | (refine zcf ?_ -- Q4D c1
         all_goals (refine Q0 ?_; refine Q1 ?_; refine zm ?_; refine zm ?_; refine Q1H rfl rfl hc9 ?_)
         all_goals (first | (refine Qn ?_) | (refine Qq ?_) | (refine Qg rfl rfl (fun hc => ?_) (fun hc => ?_)))
         all_goals (refine zn ?_)
         all_goals
           first
           | (refine zcf ?_ -- Q4D c2
              all_goals (refine zex ?_; have hfin : src.drop i = skip false (src.drop at0) := (by rw [hd]; first | (rw [List.drop_of_length_le (by omega), QaW]) | (rw [Q4 hc9, QgP (c := c) (by omega) (by omega) (by omega) (by omega) (by omega)])); refine Q0 ?_; refine Q1 ?_; refine zm ?_; refine zm ?_; refine zn ?_; refine zr ?_; refine zf ?_)
              all_goals (exact ⟨_, rfl, i, rfl, hi0, hi, hfin, hS.sp⟩))
           | (refine zct ?_ -- Q4D c2
              all_goals (refine Qa ?_)
              refine zoL hS [0] (fun A LL ρ' w' => ∃ (i2 : Nat), Has ρ' A ∧ Has ρ' [(1, .int .i64 i2)] ∧ (i ≤ i2) ∧ (i2 ≤ src.length) ∧ (skip false (src.drop at0) = skip true (src.drop i2)) ∧ St cx w' (LL)) (fun ρ' _ => (src.length - iv (ρ' 1)).toNat) ?_ ?_
              · exact ⟨i, zh, zh, (by omega), (by omega), hd.trans (by rw [Q4 hc9, QnW (c := c) (by omega), QlP (c := c) (by omega)]), hS.sp⟩
              rintro ρ w1 ⟨i2, hA, hρ, h2, h3, hd3, hS⟩; obtain ⟨ρ, rfl⟩ := env2 hA hρ
              unfold Qi2
              all_goals (refine Q0 ?_; refine Q0 ?_; refine Q1 ?_; refine zm ?_; refine zm ?_; refine Q1P rfl ?_)
              all_goals (first | (refine Q1b ?_) | (refine Q1z ?_) | (refine QH rfl rfl (fun hc => ?_) (fun hc => ?_)))
              all_goals (refine zm ?_; (first | refine zgn ?_ | (refine zgy ?_; refine zm ?_)); (first | refine zgn ?_ | (refine zgy ?_; refine zm ?_)); (first | refine zgn ?_ | (refine zgy ?_; obtain ⟨c2, hc2⟩ : ∃ x, src[i2]? = some x := ⟨_, List.getElem?_eq_getElem (by omega)⟩; refine Q1H rfl rfl hc2 ?_)))
              all_goals (first | refine zgn ?_ | (refine zgy ?_; (first | (refine Q1h ?_) | (refine Q1j ?_) | (refine Qv rfl rfl (fun hc => ?_) (fun hc => ?_)))))
              all_goals ((first | (refine zpt ?_) | (refine zpf ?_)); refine zn ?_)
              all_goals
                first
                | (refine zct ?_ -- Q4D c3
                   all_goals (refine zsk ?_; refine Qa ?_; refine Q1 ?_; refine zm ?_; refine zad ?_; refine zm ?_; refine zn ?_)
                   all_goals (exact ⟨⟨i2 + 1, zh, zh, (by omega), (by omega), hd3.trans (by rw [Q4 hc2, QlP (c := c2) (by omega)]), hS.sp⟩, QF (by omega)⟩))
                | (refine zcf ?_ -- Q4D c3
                   all_goals (refine zex ?_)
                   all_goals (have hlt : i < i2 := (by rcases Nat.lt_or_ge i i2 with h | h; exact h; exfalso; (obtain rfl : i2 = i := by omega); first | omega | (obtain rfl : c2 = c := Option.some.inj (hc2.symm.trans hc9); omega)))
                   all_goals (first | (exact ⟨⟨i + 1, zh, zh, (by omega), (by omega), hd.trans (by rw [Q4 hc9]; first | exact Qpz (by omega) | exact QgQ (by omega)), hS.sp⟩, (by exact QF (by omega))⟩) | (exact ⟨⟨i2, zh, zh, (by omega), (by omega), hd3.trans (by first | (rw [List.drop_of_length_le (show src.length ≤ i2 by omega), QaW, QaW]) | (rw [Q4 hc2, QgQ (c := c2) (by omega), QgQ (c := c2) (by omega)])), hS.sp⟩, (by first | exact QF (by omega) | (show ((src.length : Int) - (i2 : Int)).toNat < ((src.length : Int) - (i : Int)).toNat; omega))⟩)))))
  · skip
    all_goals (refine zex ?_; have hfin : src.drop i = skip false (src.drop at0) := (by rw [hd]; first | (rw [List.drop_of_length_le (by omega), QaW]) | (rw [Q4 hc9, QgP (c := c) (by omega) (by omega) (by omega) (by omega) (by omega)])); refine Q0 ?_; refine Q1 ?_; refine zm ?_; refine zm ?_; refine zn ?_; refine zr ?_; refine zf ?_; exact ⟨_, rfl, i, rfl, hi0, hi, hfin, hS.sp⟩)
theorem rsign_c {c : UInt8} (hS : St cx w L) : Rets Tryz.prog Qgm [.int .u8 c.toNat] w fun u w' => u = .bool (Q4X c) ∧ St cx w' L := by
  all_goals refine Qqy ?_
  all_goals (unfold R_isSign_lc; refine Q0 ?_; refine Q1 ?_; refine zm ?_; refine zn ?_; refine Q0 ?_; refine Q1 ?_; refine zm ?_; refine zn ?_; refine Q0 ?_; refine Q0 ?_; refine Q1 ?_; refine zm ?_; refine zn ?_; refine Qa ?_)
  refine zoL hS [0, 3] (fun A LL ρ' w' => ∃ (j : Nat), Has ρ' A ∧ Has ρ' [(4, .int .i64 j)] ∧ (j ≤ 8) ∧ (∀ (k : Nat) (b : UInt8), k < j → ([40, 41, 123, 125, 60, 62, 44, 59] : List UInt8)[k]? = some b → b ≠ c) ∧ St cx w' (LL)) (fun ρ' _ => (8 - iv (ρ' 4)).toNat) ?_ ?_
  · exact ⟨0, zh, zh, (by omega), (fun k b h => by omega), hS.sp⟩
  rintro ρ w1 ⟨j, hA, hρ, hj, hn, hS⟩; obtain ⟨ρ, rfl⟩ := env2 hA hρ
  unfold QhQ
  all_goals (refine Q0 ?_; refine Q0 ?_; refine Q1 ?_; refine zm ?_; refine zm ?_; refine Q1P (a := [40, 41, 123, 125, 60, 62, 44, 59]) rfl ?_; rw [show (([40, 41, 123, 125, 60, 62, 44, 59] : List UInt8).length : Int) = 8 from rfl]; refine Q1i rfl rfl ?_; refine zn ?_)
  refine QM rfl (fun hc => ?_) (fun hc => ?_)
  · skip
    all_goals (refine zsk ?_; refine Q0 ?_; refine Qa ?_; refine Q0 ?_; obtain ⟨b, hb9⟩ : ∃ x, ([40, 41, 123, 125, 60, 62, 44, 59] : List UInt8)[j]? = some x := ⟨_, List.getElem?_eq_getElem (by simp only [List.length_cons, List.length_nil]; omega)⟩; refine Q1 ?_; refine zm ?_; refine zm ?_; refine Q1H (a := [40, 41, 123, 125, 60, 62, 44, 59]) rfl rfl hb9 ?_; refine zm ?_)
    all_goals (first | (refine Qn ?_) | (refine Qq ?_) | (refine Qg rfl rfl (fun hc => ?_) (fun hc => ?_)))
    all_goals (refine zn ?_)
    all_goals
      first
      | (refine zct ?_ -- Qgm c1
         all_goals (refine Q0 ?_; refine Q1 ?_; refine zm ?_; refine zn ?_; refine zr ?_; refine zf ?_)
         all_goals (exact ⟨_, rfl, (by unfold Q4X; rw [decide_eq_true]; rw [show c = b from UInt8.toNat_inj.1 (by omega)]; exact List.mem_of_getElem? hb9), hS.sp⟩))
      | (refine zcf ?_ -- Qgm c1
         all_goals refine zsk ?_)
    all_goals (refine Q1 ?_; refine zm ?_; refine zad ?_; refine zm ?_; refine zn ?_)
    all_goals (exact ⟨⟨j + 1, zh, zh, (by omega), (fun k b2 hk hb2 => by rcases Nat.lt_or_ge k j with h | h; exact hn k b2 h hb2; (obtain rfl : k = j := by omega); obtain rfl : b = b2 := Option.some.inj (hb9.symm.trans hb2); rintro rfl; omega), hS.sp⟩, QF (by omega)⟩)
  · skip
    all_goals (refine zex ?_; refine Q0 ?_; refine Q1 ?_; refine zm ?_; refine zn ?_; refine zr ?_; refine zf ?_; (first | exact ⟨_, rfl, (by unfold Q4X; rw [decide_eq_true]; rw [show c = b from UInt8.toNat_inj.1 (by omega)]; exact List.mem_of_getElem? hb9), hS.sp⟩ | exact ⟨_, rfl, (by unfold Q4X; rw [decide_eq_false]; intro hm; obtain ⟨k, hk⟩ := List.mem_iff_getElem?.1 hm; have hk8 := (List.getElem?_eq_some_iff.1 hk).1; simp only [List.length_cons, List.length_nil] at hk8; exact hn k c (by omega) hk rfl), hS.sp⟩))
end Go.Proofs.YtjecflbbcnocdaaGreatDoor
namespace Go.Proofs.YtjecflbbcnocdaaGreatDoor
open Go.Lir
set_option maxHeartbeats 1000000
attribute [local irreducible] LC.wp Q2 QA QB retQ Q1e LO.wp Qj Calls
set_option linter.unusedSimpArgs false
set_option linter.unusedVariables false
attribute [local irreducible] skip Lib.itoa Lib.parseIntB tok1
variable {cx : Cx} {w : World} {L : List Res}
abbrev tokV (a : Int) (t : List UInt8) (m : Option Int) : Value := .agg ⟨[.int .i64 a, .string ⟨t.toArray⟩, .bool m.isSome, .int .i64 (m.getD 0)]⟩
theorem Qmm {t : List UInt8} (h : ∀ n, Lib.parseIntB 64 t ≠ .ok n) : QcL t = none := by
  unfold QcL
  split
  · rename_i n hn; exact absurd hn (h n)
  · rfl
theorem Ql8 {t : List UInt8} {n : Int} (h : Lib.parseIntB 64 t = .ok n) : QcL t = if Lib.itoa n = t then some n else none := by
  unfold QcL; rw [h]
theorem QrX {src pre : List UInt8} {sb at0 : Nat} {a : Int} (hT : NumK cx) (hl : src.length ≤ 50000) (hpre : pre.length ≤ 1) (ha : at0 ≤ src.length) (hS : St cx w (scn sb src at0 :: L)) :
    Rets Tryz.prog Q1Y [.pointer (some ⟨sb, 0, none⟩), .int .i64 a, .string ⟨pre.toArray⟩] w fun u w' => ((∃ n, QcL (pre ++ (src.drop at0).takeWhile QU) = some n ∧ u = .tuple #[tokV a (pre ++ (src.drop at0).takeWhile QU) (some n), .int .i64 0]) ∨ (QcL (pre ++ (src.drop at0).takeWhile QU) = none ∧ u = .tuple #[tokV 0 [] none, .int .i64 8])) ∧ St cx w' (scn sb src (at0 + ((src.drop at0).takeWhile QU).length) :: L) := by
  have hw : ((src.drop at0).takeWhile QU).length ≤ 50000 := by
    have h1 := (List.takeWhile_prefix (l := src.drop at0) QU).length_le
    rw [List.length_drop] at h1; omega
  obtain ⟨t, ht⟩ : ∃ t, pre ++ (src.drop at0).takeWhile QU = t := ⟨_, rfl⟩
  have htl : t.length ≤ 50001 := by rw [← ht, List.length_append]; omega
  rw [ht]
  all_goals refine Q5w ?_
  all_goals (unfold token_scanner_number_lc; refine Q0 ?_; refine Q1 ?_; refine Q9 hS ?_; intro p6 w1 hS; refine zm ?_; refine zn ?_; refine Q0 ?_; refine Q1 ?_; refine zm ?_; refine zm ?_; have hS : St cx _ (scn sb src at0 :: _) := hS.mv1; refine zR2 (c := Qtn (g := 118) (p := QU) (by kernel_rfl) (fun c {_ _ _} h => Qq4 h) (by omega) ha hS) (h := ?_); rintro v1 w1 ⟨rfl, hS⟩; refine s_sadd rfl rfl (by omega) ?_; rw [ht]; refine zm ?_; refine zn ?_; refine Q0 ?_; refine Q1 ?_; refine zm ?_)
  all_goals (refine zR3 (c := Qu9 (by omega) hT hS) (h := ?_); rintro v1 w1 (⟨n, hn, rfl, hS⟩ | ⟨hno, n, T, p, rfl, hp, hS⟩))
  all_goals (refine zm ?_; refine zxt ?_; refine zxt ?_; refine zm ?_; refine zm ?_; refine zn ?_; refine Q0 ?_; refine Q0 ?_; refine Q1 ?_; refine zm ?_; (first | refine QlS Tryz.underlying109 rfl ?_ | refine QlT Tryz.underlying109 rfl ?_); refine zm ?_; (first | refine zgn ?_ | (refine zgy ?_; refine zm ?_)); (first | refine zgn ?_ | (refine zgy ?_; have hb9 := Lib.parseIntB_bounds hn; refine zR2 (c := fmt_c (by omega) (by omega) hT hS) (h := ?_); rintro v1 w1 ⟨rfl, hS⟩)); (first | refine zgn ?_ | (refine zgy ?_; refine zm ?_)))
  all_goals (first | refine zgn ?_ | (refine zgy ?_; refine QtA rfl rfl ?_; cases hq : decide (Lib.itoa n ≠ t)))
  all_goals ((first | (refine zpt ?_) | (refine zpf ?_)); refine zn ?_)
  all_goals
    first
    | (refine zct ?_ -- Q1Y c0
       all_goals (refine Q0 ?_; refine Q1 ?_; refine zb0 [_, _, _, _] ?_; refine zsn hS ?_; intro w1 hS; have hS := hS.ns; refine zm ?_; refine zn ?_; refine zr ?_; refine QV vw (Q5 (n := 4) (by kernel_rfl) (by kernel_rfl) (hS.blkAt fd) (by rfl) (by rfl)) vw ?_)
       all_goals ((first | exact ⟨_, rfl, .inr ⟨Qmm hno, rfl⟩, hS.sp⟩ | exact ⟨_, rfl, .inr ⟨by rw [Ql8 hn, if_neg (of_decide_eq_true hq)], rfl⟩, hS.sp⟩)))
    | (refine zcf ?_ -- Q1Y c0
       all_goals refine zsk ?_)
  all_goals (refine Q0 ?_; refine Q1 ?_; refine zm ?_; refine zm ?_; refine zm ?_; refine zb4 [_, _, _, _] ?_; refine zsn hS ?_; intro w1 hS; have hS := hS.ns; refine zm ?_; refine zn ?_; refine zr ?_; refine QV vw (Q5 (n := 4) (by kernel_rfl) (by kernel_rfl) (hS.blkAt fd) (by rfl) (by rfl)) vw ?_; (first | exact ⟨_, rfl, .inr ⟨Qmm hno, rfl⟩, hS.sp⟩ | exact ⟨_, rfl, .inr ⟨by rw [Ql8 hn, if_neg (of_decide_eq_true hq)], rfl⟩, hS.sp⟩ | exact ⟨_, rfl, .inl ⟨n, by rw [Ql8 hn, if_pos (Classical.not_not.1 (of_decide_eq_false hq))], rfl⟩, hS.sp⟩))
theorem longof_c {t : List UInt8} (hT : NumK cx) (htl : t.length ≤ 60000) (hS : St cx w L) : Rets Tryz.prog Qgn [.string ⟨t.toArray⟩] w fun u w' => ((∃ n, QcL t = some n ∧ u = .tuple #[.int .i64 n, .bool true]) ∨ (QcL t = none ∧ u = .tuple #[.int .i64 0, .bool false])) ∧ St cx w' L := by
  all_goals refine Qrg ?_
  all_goals (unfold R_LongOf_lc; refine Q0 ?_; refine Q1 ?_; refine zm ?_; refine zm ?_; refine zn ?_; refine Q0 ?_; refine Q1 ?_; refine zm ?_)
  all_goals (refine zR3 (c := Qu9 (by omega) hT hS) (h := ?_); rintro v1 w1 (⟨n, hn, rfl, hS⟩ | ⟨hno, n, T, p, rfl, hp, hS⟩))
  all_goals (refine zm ?_; refine zxt ?_; refine zxt ?_; refine zm ?_; refine zm ?_; refine zn ?_; refine Q0 ?_; refine Q0 ?_; refine Q1 ?_; refine zm ?_; (first | refine QlS Tryz.underlying109 rfl ?_ | refine QlT Tryz.underlying109 rfl ?_); refine zm ?_; (first | refine zgn ?_ | (refine zgy ?_; refine zm ?_)); (first | refine zgn ?_ | (refine zgy ?_; have hb9 := Lib.parseIntB_bounds hn; refine zR2 (c := fmt_c (by omega) (by omega) hT hS) (h := ?_); rintro v1 w1 ⟨rfl, hS⟩)); (first | refine zgn ?_ | (refine zgy ?_; refine zm ?_)))
  all_goals (first | refine zgn ?_ | (refine zgy ?_; refine QtA rfl rfl ?_; cases hq : decide (Lib.itoa n ≠ t)))
  all_goals ((first | (refine zpt ?_) | (refine zpf ?_)); refine zn ?_)
  all_goals
    first
    | (refine zct ?_ -- Qgn c0
       all_goals (refine Q0 ?_; refine Q1 ?_; refine zm ?_; refine zm ?_; refine zn ?_; refine zr ?_; refine zf2 ?_)
       all_goals ((first | exact ⟨_, rfl, .inr ⟨Qmm hno, rfl⟩, hS.sp⟩ | exact ⟨_, rfl, .inr ⟨by rw [Ql8 hn, if_neg (of_decide_eq_true hq)], rfl⟩, hS.sp⟩)))
    | (refine zcf ?_ -- Qgn c0
       all_goals refine zsk ?_)
  all_goals (refine Q0 ?_; refine Q1 ?_; refine zm ?_; refine zm ?_; refine zm ?_; refine zn ?_; refine zr ?_; refine zf2 ?_; (first | exact ⟨_, rfl, .inr ⟨Qmm hno, rfl⟩, hS.sp⟩ | exact ⟨_, rfl, .inr ⟨by rw [Ql8 hn, if_neg (of_decide_eq_true hq)], rfl⟩, hS.sp⟩ | exact ⟨_, rfl, .inl ⟨n, by rw [Ql8 hn, if_pos (Classical.not_not.1 (of_decide_eq_false hq))], rfl⟩, hS.sp⟩))
abbrev signs : List UInt8 := [40, 41, 123, 125, 60, 62, 44, 59, 45]
theorem Qtw (c : UInt8) (h : c.toNat ≠ 45) : (0 ≤ Lib.indexByte signs c ↔ Q4X c = true) := by
  have hall : ∀ p : Fin 256, p.val ≠ 45 → (decide (0 ≤ Lib.indexByte signs (UInt8.ofNat p.val)) = Q4X (UInt8.ofNat p.val)) := by decide +kernel
  have h1 := hall ⟨c.toNat, c.toNat_lt⟩ h
  simp only [UInt8.ofNat_toNat] at h1
  rw [← h1, decide_eq_true_iff]
theorem Q5Q {t : List UInt8} {n : Int} (h : QcL t = some n) : numT t = .ok (t, some n) := by unfold numT; rw [h]
theorem Q4U {t : List UInt8} (h : QcL t = none) : numT t = .error 8 := by unfold numT; rw [h]
theorem Qx {b : Bool} (h : b = false) : ¬ b = true := by rw [h]; exact Bool.false_ne_true
theorem Qsc {l : List UInt8} (h : l.take 2 = [45, 62]) : l = 45 :: 62 :: l.drop 2 := by
  conv => lhs; rw [← List.take_append_drop 2 l, h]
  rfl
theorem eq45 {c : UInt8} (h : c.toNat = 45) : c = 45 := UInt8.toNat_inj.1 h
theorem ne45 {c : UInt8} (h : c.toNat ≠ 45) : ¬ c = 45 := fun e => h (by rw [e]; rfl)
theorem Qq5 {d : UInt8} (h : QU d = true) : ¬ d = 62 := by rintro rfl; exact absurd h (by decide)
theorem min62 {l r : List UInt8} {d : UInt8} (h : decide (l.take ([45, 62] : List UInt8).length = [45, 62]) = false) (hl : l = 45 :: d :: r) : ¬ d = 62 := by
  rintro rfl
  exact absurd (by rw [hl]; rfl) (of_decide_eq_false h)
theorem QuS {sb at0 : Nat} {src l : List UInt8} (h : St cx w (scn sb src (at0 + 1 + l.length) :: L)) : St cx w (scn sb src (at0 + (45 :: l).length) :: L) := by
  rw [List.length_cons, show at0 + (l.length + 1) = at0 + 1 + l.length by omega]; exact h
/-- What the reading of the next one gives back. -/
def NextS (cx : Cx) (L : List Res) (sb : Nat) (src : List UInt8) (at0 : Nat) (u : Value) (w' : World) : Prop :=
  (∃ t m, tok1 (src.drop at0) = .ok (t, m) ∧ u = .tuple #[tokV at0 t m, .int .i64 0] ∧ St cx w' (scn sb src (at0 + t.length) :: L)) ∨ (∃ e at1, tok1 (src.drop at0) = .error e ∧ e ≠ 0 ∧ u = .tuple #[tokV 0 [] none, .int .i64 e] ∧ St cx w' (scn sb src at1 :: L))
theorem next_c {src : List UInt8} {sb at0 : Nat} (hT : NumK cx) (hl : src.length ≤ 50000) (ha : at0 < src.length) (hS : St cx w (scn sb src at0 :: L)) :
    Rets Tryz.prog Qw [.pointer (some ⟨sb, 0, none⟩)] w fun u w' => NextS cx L sb src at0 u w' := by
  obtain ⟨c, hc9⟩ : ∃ x, src[at0]? = some x := ⟨_, List.getElem?_eq_getElem ha⟩
  have hdc := Q4 hc9
  all_goals refine Q6Z ?_
  all_goals (unfold token_scanner_next_lc; refine Q0 ?_; refine Q1 ?_; refine Q9 hS ?_; intro p2 w1 hS; refine zm ?_; refine zn ?_; refine Q0 ?_; refine Q1 ?_; refine zm ?_; refine znc ?_; refine zf0 ?_; refine zl hS ?_; refine zm ?_; refine zn ?_; refine Q0 ?_; refine Q0 ?_; refine Q1 ?_; refine zm ?_; refine znc ?_; refine zf0 ?_; refine zl hS ?_; refine zm ?_; refine Q1H rfl rfl hc9 ?_; refine zm ?_; refine zn ?_; refine Qa ?_; refine Q0 ?_; refine Q1 ?_; refine zm ?_)
  all_goals (refine zR1 (c := Qs1 hS) (h := ?_); rintro v1 w1 ⟨rfl, hS⟩; cases hq0 : Q2D c)
  all_goals (refine zm ?_; refine zn ?_)
  all_goals
    first
    | (refine zct ?_ -- Qw c0
       all_goals (refine Q0 ?_; refine Q1 ?_; refine zm ?_; refine zm ?_; have hS : St cx _ (scn sb src at0 :: _) := hS.mv1; refine zR2 (c := Qtn (g := 116) (p := Q2D) (by kernel_rfl) (fun c {_ _ _} h => Qs1 h) (by omega) (by omega) hS) (h := ?_); rintro v1 w1 ⟨rfl, hS⟩; refine zb2 [_, _, _, _] ?_; refine zsn hS ?_; intro w1 hS; have hS := hS.ns; refine zm ?_; refine zn ?_; refine zr ?_; refine QV vw (Q5 (n := 4) (by kernel_rfl) (by kernel_rfl) (hS.blkAt fd) (by rfl) (by rfl)) vw ?_)
       all_goals (exact ⟨_, rfl, .inl ⟨(src.drop at0).takeWhile Q2D, none, by rw [hdc, Q30 hq0], rfl, hS.sp⟩⟩))
    | (refine zcf ?_ -- Qw c0
       all_goals (refine Q0 ?_; refine Q1 ?_; refine zm ?_)
       all_goals (refine zR1 (c := Qq4 hS) (h := ?_); rintro v1 w1 ⟨rfl, hS⟩; cases hq1 : QU c)
       all_goals (refine zm ?_; refine zn ?_)
       all_goals
         first
         | (refine zcf ?_ -- Qw c1
            all_goals (refine Q0 ?_; refine Q1 ?_; refine zm ?_; refine znc ?_; refine zf0 ?_; refine zl hS ?_; refine zm ?_; refine Q5A rfl (l' := at0) (h' := src.length) rfl ⟨_, rfl⟩ (by omega) (by omega) ?_; rw [List.take_length])
            all_goals (refine zR2 (c := hp_c (p := [45, 62]) (by rw [List.length_drop]; omega) hS) (h := ?_); rintro v1 w1 ⟨rfl, hS⟩; cases hq2 : decide ((src.drop at0).take ([45, 62] : List UInt8).length = [45, 62]))
            all_goals (refine zm ?_; refine zn ?_)
            all_goals
              first
              | (refine zcf ?_ -- Qw c2
                 all_goals (refine Q0 ?_; refine Q1 ?_; refine zm ?_)
                 all_goals (first | (refine Qn ?_) | (refine Qq ?_) | (refine Qg rfl rfl (fun hc => ?_) (fun hc => ?_)))
                 all_goals (refine zm ?_; (first | refine zgn ?_ | (refine zgy ?_; refine zm ?_)); (first | refine zgn ?_ | (refine zgy ?_; refine zad ?_)); (first | refine zgn ?_ | (refine zgy ?_; refine zm ?_)); (first | refine zgn ?_ | (refine zgy ?_; refine znc ?_)); (first | refine zgn ?_ | (refine zgy ?_; refine zf0 ?_)); (first | refine zgn ?_ | (refine zgy ?_; refine zl hS ?_)); (first | refine zgn ?_ | (refine zgy ?_; refine Q1P rfl ?_)))
                 all_goals (first | refine zgn ?_ | (refine zgy ?_; (first | (refine Q1b ?_) | (refine Q1z ?_) | (refine QH rfl rfl (fun hc => ?_) (fun hc => ?_)))))
                 all_goals ((first | (refine zpt ?_) | (refine zpf ?_)); refine zm ?_; (first | refine zgn ?_ | (refine zgy ?_; refine zm ?_)); (first | refine zgn ?_ | (refine zgy ?_; refine znc ?_)); (first | refine zgn ?_ | (refine zgy ?_; refine zf0 ?_)); (first | refine zgn ?_ | (refine zgy ?_; refine zl hS ?_)); (first | refine zgn ?_ | (refine zgy ?_; refine zm ?_)); (first | refine zgn ?_ | (refine zgy ?_; refine zad ?_)); (first | refine zgn ?_ | (refine zgy ?_; obtain ⟨d, hd9⟩ : ∃ x, src[at0 + 1]? = some x := ⟨_, List.getElem?_eq_getElem (by omega)⟩; refine Q1H (m := at0 + 1) rfl rfl hd9 ?_)))
                 all_goals (first | refine zgn ?_ | (refine zgy ?_; refine zR1 (c := Qq4 hS) (h := ?_); rintro v1 w1 ⟨rfl, hS⟩; cases hq3 : QU d))
                 all_goals ((first | (refine zpt ?_) | (refine zpf ?_)); refine zm ?_; refine zn ?_)
                 all_goals
                   first
                   | (refine zcf ?_ -- Qw c3
                      all_goals (refine Q0 ?_; refine Q1 ?_; refine zm ?_)
                      all_goals (first | (refine Q1h ?_) | (refine Q1j ?_))
                      all_goals (refine zm ?_; (first | refine zgn ?_ | (refine zgy ?_; refine zm ?_)); (first | refine zgn ?_ | (refine zgy ?_; refine zR2 (c := iby_c (s := signs) hS) (h := ?_); rintro v1 w1 ⟨rfl, hS⟩; have hsi := Qtw c (by omega))))
                      all_goals (first | refine zgn ?_ | (refine zgy ?_; (first | (refine Q5Y ?_) | (refine Q6N ?_) | (refine Q35 rfl rfl (fun hc => ?_) (fun hc => ?_)))))
                      all_goals ((first | (refine zpt ?_) | (refine zpf ?_)); refine zm ?_; refine zn ?_)
                      all_goals
                        first
                        | (refine zcf ?_ -- Qw c4
                           all_goals refine zsk ?_)
                        | (refine zct ?_ -- Qw c4
                           all_goals (refine Q0 ?_; refine Q1 ?_; refine zm ?_; refine znc ?_; refine zf0 ?_; refine zl hS ?_; refine zad ?_; refine znc ?_; refine zf0 ?_; refine zst hS ?_; intro w1 hS; have hS := hS.ns; refine zn ?_; refine Q0 ?_; refine Q1 ?_; refine zm ?_; refine zm ?_; refine znc ?_; refine zf0 ?_; refine zl hS ?_; refine zm ?_; refine zm ?_; refine zad ?_; refine Q5A rfl (l' := at0) (h' := at0 + 1) ⟨_, rfl⟩ ⟨_, rfl⟩ (by omega) (by omega) ?_; rw [show (src.take (at0 + 1)).drop at0 = [c] by rw [QnV hc9, List.drop_left' (by rw [List.length_take]; omega)]]; refine zb2 [_, _, _, _] ?_; refine zsn hS ?_; intro w1 hS; have hS := hS.ns; refine zm ?_; refine zn ?_; refine zr ?_; refine QV vw (Q5 (n := 4) (by kernel_rfl) (by kernel_rfl) (hS.blkAt fd) (by rfl) (by rfl)) vw ?_)
                           all_goals ((first | exact ⟨_, rfl, .inl ⟨(src.drop at0).takeWhile Q2D, none, by rw [hdc, Q30 hq0], rfl, hS.sp⟩⟩ | exact ⟨_, rfl, .inl ⟨(src.drop at0).takeWhile QU, some n, by rw [hdc, Q2z (Qx hq0) hq1, ← hdc, Q5Q hn], rfl, hS.sp⟩⟩ | exact ⟨_, rfl, .inr ⟨8, _, by rw [hdc, Q2z (Qx hq0) hq1, ← hdc, Q4U hn], by decide, rfl, hS.sp⟩⟩ | exact ⟨_, rfl, .inl ⟨[45, 62], none, by rw [Qsc (of_decide_eq_true hq2), Q7Z], rfl, hS.sp⟩⟩ | exact ⟨_, rfl, .inl ⟨45 :: (src.drop (at0 + 1)).takeWhile QU, some n, by rw [hdc, eq45 (c := c) (by omega), Q4 hd9, Q43 (Qq5 hq3) hq3, ← Q4 hd9, Q5Q (t := 45 :: _) hn], rfl, QuS hS.sp⟩⟩ | exact ⟨_, rfl, .inr ⟨8, _, by rw [hdc, eq45 (c := c) (by omega), Q4 hd9, Q43 (Qq5 hq3) hq3, ← Q4 hd9, Q4U (t := 45 :: _) hn], by decide, rfl, hS.sp⟩⟩ | exact ⟨_, rfl, .inl ⟨[c], none, by rw [hdc, Q5y (Qx hq0) (Qx hq1) (ne45 (by omega)) (hsi.1 (by omega))], rfl, hS.sp⟩⟩))))
                   | (refine zct ?_ -- Qw c3
                      all_goals (refine Q0 ?_; refine Q1 ?_; refine zm ?_; refine znc ?_; refine zf0 ?_; refine zl hS ?_; refine zad ?_; refine znc ?_; refine zf0 ?_; refine zst hS ?_; intro w1 hS; have hS := hS.ns; refine zn ?_; refine Q0 ?_; refine Q1 ?_; refine zm ?_; refine zm ?_)
                      all_goals (have hS : St cx _ (scn sb src (at0 + 1) :: blk p2 126 [.int .i64 0, .string ⟨#[]⟩, .bool false, .int .i64 0] :: L) := hS.sp; refine zR3 (c := QrX (pre := [45]) hT hl (by simp) (by omega) hS) (h := ?_); rintro v1 w1 ⟨⟨n, hn, rfl⟩ | ⟨hn, rfl⟩, hS⟩ <;> rw [List.singleton_append] at hn)
                      all_goals (refine zxt ?_; refine zxt ?_; refine zsn hS ?_; intro w1 hS; have hS := hS.ns; refine zm ?_; refine zn ?_; refine zr ?_; refine QV vw (Q5 (n := 4) (by kernel_rfl) (by kernel_rfl) (hS.blkAt fd) (by rfl) (by rfl)) vw ?_)
                      all_goals ((first | exact ⟨_, rfl, .inl ⟨(src.drop at0).takeWhile Q2D, none, by rw [hdc, Q30 hq0], rfl, hS.sp⟩⟩ | exact ⟨_, rfl, .inl ⟨(src.drop at0).takeWhile QU, some n, by rw [hdc, Q2z (Qx hq0) hq1, ← hdc, Q5Q hn], rfl, hS.sp⟩⟩ | exact ⟨_, rfl, .inr ⟨8, _, by rw [hdc, Q2z (Qx hq0) hq1, ← hdc, Q4U hn], by decide, rfl, hS.sp⟩⟩ | exact ⟨_, rfl, .inl ⟨[45, 62], none, by rw [Qsc (of_decide_eq_true hq2), Q7Z], rfl, hS.sp⟩⟩ | exact ⟨_, rfl, .inl ⟨45 :: (src.drop (at0 + 1)).takeWhile QU, some n, by rw [hdc, eq45 (c := c) (by omega), Q4 hd9, Q43 (Qq5 hq3) hq3, ← Q4 hd9, Q5Q (t := 45 :: _) hn], rfl, QuS hS.sp⟩⟩ | exact ⟨_, rfl, .inr ⟨8, _, by rw [hdc, eq45 (c := c) (by omega), Q4 hd9, Q43 (Qq5 hq3) hq3, ← Q4 hd9, Q4U (t := 45 :: _) hn], by decide, rfl, hS.sp⟩⟩))))
              | (refine zct ?_ -- Qw c2
                 all_goals (refine Q0 ?_; refine Q1 ?_; refine zm ?_; refine znc ?_; refine zf0 ?_; refine zl hS ?_; refine zad ?_; refine znc ?_; refine zf0 ?_; refine zst hS ?_; intro w1 hS; have hS := hS.ns; refine zn ?_; refine Q0 ?_; refine Q1 ?_; refine zm ?_; refine zb2 [_, _, _, _] ?_; refine zsn hS ?_; intro w1 hS; have hS := hS.ns; refine zm ?_; refine zn ?_; refine zr ?_; refine QV vw (Q5 (n := 4) (by kernel_rfl) (by kernel_rfl) (hS.blkAt fd) (by rfl) (by rfl)) vw ?_)
                 all_goals ((first | exact ⟨_, rfl, .inl ⟨(src.drop at0).takeWhile Q2D, none, by rw [hdc, Q30 hq0], rfl, hS.sp⟩⟩ | exact ⟨_, rfl, .inl ⟨(src.drop at0).takeWhile QU, some n, by rw [hdc, Q2z (Qx hq0) hq1, ← hdc, Q5Q hn], rfl, hS.sp⟩⟩ | exact ⟨_, rfl, .inr ⟨8, _, by rw [hdc, Q2z (Qx hq0) hq1, ← hdc, Q4U hn], by decide, rfl, hS.sp⟩⟩ | exact ⟨_, rfl, .inl ⟨[45, 62], none, by rw [Qsc (of_decide_eq_true hq2), Q7Z], rfl, hS.sp⟩⟩))))
         | (refine zct ?_ -- Qw c1
            all_goals (refine Q0 ?_; refine Q1 ?_; refine zm ?_; refine zm ?_)
            all_goals (have hS : St cx _ (scn sb src at0 :: _) := hS.mv1; refine zR3 (c := QrX (pre := []) hT hl (by simp) (by omega) hS) (h := ?_); rintro v1 w1 ⟨⟨n, hn, rfl⟩ | ⟨hn, rfl⟩, hS⟩ <;> rw [List.nil_append] at hn)
            all_goals (refine zxt ?_; refine zxt ?_; refine zsn hS ?_; intro w1 hS; have hS := hS.ns; refine zm ?_; refine zn ?_; refine zr ?_; refine QV vw (Q5 (n := 4) (by kernel_rfl) (by kernel_rfl) (hS.blkAt fd) (by rfl) (by rfl)) vw ?_)
            all_goals ((first | exact ⟨_, rfl, .inl ⟨(src.drop at0).takeWhile Q2D, none, by rw [hdc, Q30 hq0], rfl, hS.sp⟩⟩ | exact ⟨_, rfl, .inl ⟨(src.drop at0).takeWhile QU, some n, by rw [hdc, Q2z (Qx hq0) hq1, ← hdc, Q5Q hn], rfl, hS.sp⟩⟩ | exact ⟨_, rfl, .inr ⟨8, _, by rw [hdc, Q2z (Qx hq0) hq1, ← hdc, Q4U hn], by decide, rfl, hS.sp⟩⟩))))
  all_goals (refine Q0 ?_; refine Q1 ?_; refine zb0 [_, _, _, _] ?_; refine zsn hS ?_; intro w1 hS; have hS := hS.ns; refine zm ?_; refine zn ?_; refine zr ?_; refine QV vw (Q5 (n := 4) (by kernel_rfl) (by kernel_rfl) (hS.blkAt fd) (by rfl) (by rfl)) vw ?_)
  all_goals ((first | exact ⟨_, rfl, .inl ⟨(src.drop at0).takeWhile Q2D, none, by rw [hdc, Q30 hq0], rfl, hS.sp⟩⟩ | exact ⟨_, rfl, .inl ⟨(src.drop at0).takeWhile QU, some n, by rw [hdc, Q2z (Qx hq0) hq1, ← hdc, Q5Q hn], rfl, hS.sp⟩⟩ | exact ⟨_, rfl, .inr ⟨8, _, by rw [hdc, Q2z (Qx hq0) hq1, ← hdc, Q4U hn], by decide, rfl, hS.sp⟩⟩ | exact ⟨_, rfl, .inl ⟨[45, 62], none, by rw [Qsc (of_decide_eq_true hq2), Q7Z], rfl, hS.sp⟩⟩ | exact ⟨_, rfl, .inl ⟨45 :: (src.drop (at0 + 1)).takeWhile QU, some n, by rw [hdc, eq45 (c := c) (by omega), Q4 hd9, Q43 (Qq5 hq3) hq3, ← Q4 hd9, Q5Q (t := 45 :: _) hn], rfl, QuS hS.sp⟩⟩ | exact ⟨_, rfl, .inr ⟨8, _, by rw [hdc, eq45 (c := c) (by omega), Q4 hd9, Q43 (Qq5 hq3) hq3, ← Q4 hd9, Q4U (t := 45 :: _) hn], by decide, rfl, hS.sp⟩⟩ | exact ⟨_, rfl, .inl ⟨[c], none, by rw [hdc, Q5y (Qx hq0) (Qx hq1) (ne45 (by omega)) (hsi.1 (by omega))], rfl, hS.sp⟩⟩ | exact ⟨_, rfl, .inr ⟨6, _, by rw [hdc, QlO (Qx hq0) (Qx hq1) (ne45 (by omega)) (fun h9 => absurd (hsi.2 h9) (by omega))], by decide, rfl, hS.sp⟩⟩ | exact ⟨_, rfl, .inr ⟨6, _, by rw [hdc, eq45 (c := c) (by omega), List.drop_eq_nil_of_le (by omega), QrB], by decide, rfl, hS.sp⟩⟩ | exact ⟨_, rfl, .inr ⟨6, _, by rw [hdc, eq45 (c := c) (by omega), Q4 hd9, QrC (min62 hq2 (by rw [hdc, eq45 (c := c) (by omega), Q4 hd9])) (Qx hq3)], by decide, rfl, hS.sp⟩⟩))
end Go.Proofs.YtjecflbbcnocdaaGreatDoor
namespace Go.Proofs.YtjecflbbcnocdaaGreatDoor
open Go.Lir
set_option maxHeartbeats 1000000
attribute [local irreducible] LC.wp Q2 QA QB retQ Q1e LO.wp Qj Calls
set_option linter.unusedSimpArgs false
set_option linter.unusedVariables false
attribute [local irreducible] skip Q3h scan tok1
variable {cx : Cx} {w : World} {L : List Res}
/-- What a scan gives back. -/
def ScanS (cx : Cx) (L : List Res) (src : List UInt8) (u : Value) (w' : World) : Prop :=
  (∃ l c' v, scan src = .ok l ∧ cx.Le c' ∧ u = .tuple #[v, .agg ⟨[.int .i64 0, .int .i64 0]⟩] ∧ tokR.sl c' v l ∧ St c' w' L) ∨ (∃ e n, scan src = .error (e, n) ∧ u = .tuple #[.slice none 0 0, .agg ⟨[.int .i64 e, .int .i64 n]⟩] ∧ St cx w' L)
theorem scan_c {src : List UInt8} (hT : NumK cx) (hl : src.length ≤ 100000) (hS : St cx w L) :
    Rets Tryz.prog Q3F [.string ⟨src.toArray⟩] w fun u w' => ScanS cx L src u w' := by
  have hle := St.refl hS
  all_goals refine QaR ?_
  all_goals (unfold token_Scan_lc; refine Q0 ?_; refine Q1 ?_; refine zm ?_; refine Q9 hS ?_; intro p3 w1 hS; refine zn ?_; refine Q0 ?_; refine Q0 ?_; refine Q1 ?_; refine zm ?_; refine Q1P rfl ?_)
  all_goals (first | (refine QD ?_) | (refine QR ?_) | (refine Qr rfl rfl (fun hc => ?_) (fun hc => ?_)))
  all_goals (refine zn ?_)
  all_goals
    first
    | (refine zct ?_ -- Q3F c0
       all_goals (refine Q0 ?_; refine Q1 ?_; refine zb2 [_, _] ?_; refine zm ?_; refine zsn hS ?_; intro w1 hS; have hS := hS.ns; refine zn ?_; refine zr ?_; refine Q78 vw vw (Q5 (n := 2) (by kernel_rfl) (by kernel_rfl) (hS.blkAt fd) (by rfl) (by rfl)) ?_)
       all_goals (exact ⟨_, rfl, .inr ⟨2, 40000, Q3P (by omega), rfl, hS.sp⟩⟩))
    | (refine zcf ?_ -- Q3F c0
       all_goals refine zsk ?_)
  all_goals (refine Q0 ?_; refine Q1 ?_; refine zm ?_; refine zb1 [_, _] ?_; refine zb hS ?_; intro p15 w1 hS; refine zm ?_; refine zn ?_; refine Q0 ?_; refine Q1 ?_; refine zm ?_; refine zn ?_; refine Q0 ?_; refine Q0 ?_; refine Q1 ?_; refine zm ?_; have hS : St cx _ (scn p15 src 0 :: blk p3 29 [.int .i64 0, .int .i64 0] :: L) := hS.sp; refine zR1 (c := QuN (by omega) (by omega) hS) (h := ?_); rintro v1 w1 ⟨at1, rfl, h01, h02, h03, hS⟩; refine zn ?_; refine Qa ?_)
  refine zo [0, 3, 4] (fun A ρ' w' => ∃ (k i : Nat) (out : List Tok) (vb : Value) (cb : List (List Value)) (q6 q8 q7 : Value), Has ρ' A ∧ Has ρ' [(5, vb), (6, q6), (7, q7), (8, q8)] ∧ (i ≤ src.length) ∧ (src.length - i < k) ∧ (scan src = Q3h src.length k (src.drop i) out) ∧ (out.length ≤ i) ∧ (tokR.ls cx cb out) ∧ (oneC vb = true) ∧ St cx w' (scn p15 src i :: sl 126 4 vb cb :: blk p3 29 [.int .i64 0, .int .i64 0] :: L)) (fun _ w' => (src.length - QuK w' p15 1).toNat) ?_ ?_
  · exact ⟨src.length + 1, at1, [], .slice none 0 0, [], _, _, _, zh, zh, (by omega), (by omega), QrF (by omega) (by rw [h03]; rfl), (by omega), Rep.LR.nil _ _ _, rfl, by have hS := hS.nil (T := 126) (es := 4); exact hS.sp⟩
  rintro ρ w1 ⟨k, i, out, vb, cb, q6, q8, q7, hA, hρ, hi, hk, hd, hol, hlb, hvb, hS⟩; obtain ⟨ρ, rfl⟩ := env2 hA hρ; have hm0 := Q89 (j := 1) hS (i := 0) rfl rfl
  unfold QaS
  all_goals (refine Q0 ?_; refine Q0 ?_; refine Q1 ?_; refine zm ?_; refine znc ?_; refine zf0 ?_; refine zl hS ?_; refine zm ?_; refine Q1P rfl ?_; refine Q1i rfl rfl ?_; refine zn ?_)
  refine QM rfl (fun hc => ?_) (fun hc => ?_)
  · skip
    all_goals (refine zsk ?_; refine Q0 ?_; refine Qa ?_; refine Q0 ?_; refine Q1 ?_; refine zm ?_; refine znc ?_; refine zf0 ?_; refine zl hS ?_; refine zm ?_; refine zn ?_; refine Q0 ?_; refine Q1 ?_; refine zm ?_)
    all_goals (have hS : St cx _ (scn p15 src i :: _) := hS; refine zR1 (c := next_c hT (by omega) (by omega) hS) (h := ?_); rintro v1 w1 (⟨t, m, ht, rfl, hS⟩ | ⟨e, at9, ht, he, rfl, hS⟩))
    all_goals (refine zm ?_; refine zxt ?_; refine zxt ?_; refine Q9 hS ?_; intro p7 w1 hS; refine zsn hS ?_; intro w1 hS; have hS := hS.ns; refine zm ?_; refine zn ?_; refine Q0 ?_; refine Q0 ?_; refine Q1 ?_; refine zm ?_)
    all_goals (first | (refine Q1h ?_) | (refine Q1j ?_))
    all_goals (refine zn ?_)
    all_goals
      first
      | (refine zcf ?_ -- Q3F c2
         all_goals refine zsk ?_)
      | (refine zct ?_ -- Q3F c2
         all_goals (refine Q0 ?_; refine Q1 ?_; refine zm ?_; refine zm ?_; refine zb2 [_, _] ?_; refine zm ?_; refine zsn hS ?_; intro w1 hS; have hS := hS.ns; refine zn ?_; refine zr ?_; refine Q78 vw vw (Q5 (n := 2) (by kernel_rfl) (by kernel_rfl) (hS.blkAt fd) (by rfl) (by rfl)) ?_)
         all_goals ((first | exact ⟨_, rfl, .inr ⟨2, 40000, Q3P (by omega), rfl, hS.sp⟩⟩ | exact ⟨_, rfl, .inr ⟨e, i, by rw [hd, show k = k - 1 + 1 by omega, Q4g (by omega) ht], rfl, hS.sp⟩⟩)))
    all_goals (have hf9 := QrD (by omega) ht; have hd9 : tokR.at cx [.int .i64 (i : Int), .string ⟨t.toArray⟩, .bool m.isSome, .int .i64 (m.getD 0)] (⟨i, t, m⟩ : Tok) := rfl; refine Q1 ?_; refine zm ?_; refine zv hS ?_; refine zB1 hS [_, _, _, _] ?_; intro b1 w1 hS; refine za el_T63 u_T63 hS ?_; intro vp1 w1 css1 hls1 hv1 hS; have hS := hS.ns; refine zm ?_; refine zn ?_; refine Q1 ?_; refine zm ?_; have hS : St cx _ (scn p15 src (i + t.length) :: sl 126 4 vp1 css1 :: blk p3 29 [.int .i64 0, .int .i64 0] :: L) := hS.sp; refine zR1 (c := QuN (by omega) (by omega) hS) (h := ?_); rintro v1 w1 ⟨at2, rfl, h11, h12, h13, hS⟩; refine zn ?_; exact ⟨⟨k - 1, at2, out ++ [⟨i, t, m⟩], _, _, _, _, _, zh, zh, (by omega), (by omega), QnY (by rw [show k - 1 + 1 = k by omega]; exact hd) (by omega) ht h13, (by first | omega | assumption | rfl | (simp; done) | (simp; omega)), by assumption, by assumption, hS.sp⟩, by rw [hm0, Q89 (j := 1) hS (i := 0) rfl rfl]; omega⟩)
  · skip
    all_goals (refine zex ?_; obtain ⟨c2, hle2, hS2, hk2⟩ := St.freezeL (r := tokR) (hS.out (r := sl 126 4 vb cb) fd) hlb rfl (by omega); clear hS; have hS := hS2; simp only [List.eraseIdx_cons_zero, List.eraseIdx_cons_succ] at hS; refine Q0 ?_; refine Q1 ?_; refine zm ?_; refine zb0 [_, _] ?_; refine zm ?_; refine zsn hS ?_; intro w1 hS; have hS := hS.ns; refine zn ?_; refine zr ?_; refine Q78 vw vw (Q5 (n := 2) (by kernel_rfl) (by kernel_rfl) (hS.blkAt fd) (by rfl) (by rfl)) ?_; (first | exact ⟨_, rfl, .inr ⟨2, 40000, Q3P (by omega), rfl, hS.sp⟩⟩ | exact ⟨_, rfl, .inr ⟨e, i, by rw [hd, show k = k - 1 + 1 by omega, Q4g (by omega) ht], rfl, hS.sp⟩⟩ | exact ⟨_, rfl, .inl ⟨out, c2, vb, by rw [hd, QaY (by omega)], hle2, rfl, hk2, hS.sp⟩⟩))
end Go.Proofs.YtjecflbbcnocdaaGreatDoor
