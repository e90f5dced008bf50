/- Lemmas of the proof, part 3: what the functions of the program do (contracts), and what follows. -/
import Derived.Test.YtanlkfeogoganaaZ2
import Derived.Test.YtanlkfeogoganaaZ1
import Derived.Lib.Strings
import Derived.Test.YtanlkfeogoganaaProg
namespace Go.Proofs.Ytanlkfeogoganaa
open Go.Lir
set_option maxHeartbeats 1000000
attribute [local irreducible] LC.wp Q3 Qz QJ retQ Q1A LO.wp Qh Calls
set_option linter.unusedSimpArgs false
set_option linter.unusedVariables false
attribute [local irreducible] bitI IntKind.wrap Q3N rdLong rdMany QF mmap
variable {cx : Cx} {w : World} {L : List Res}
/-- What a reader answers: a thing that its cells say, a list, or that it gives up. -/
def OkA {α : Type} (r : Rep α) (tv : List Value → Value) (X : Got α) (bs : List UInt8) (rb : Nat) (v : Value) (at0 : Nat) (cx : Cx) (L : List Res) (u : Value) (w' : World) : Prop :=
  ∃ a at' c' ds, X = .ok (a, bs.drop at') ∧ at0 ≤ at' ∧ at' ≤ bs.length ∧ cx.Le c' ∧ r.at c' ds a ∧ u = tv ds ∧ St c' w' (blk rb 120 [v, .int .i64 at'] :: L)
def OkS {α : Type} (r : Rep α) (X : Got (List α)) (bs : List UInt8) (rb : Nat) (v : Value) (at0 : Nat) (cx : Cx) (L : List Res) (u : Value) (w' : World) : Prop :=
  ∃ l at' c', X = .ok (l, bs.drop at') ∧ at0 ≤ at' ∧ at' ≤ bs.length ∧ cx.Le c' ∧ r.sl c' u l ∧ St c' w' (blk rb 120 [v, .int .i64 at'] :: L)
def Bad {α : Type} (X : Got α) (rb : Nat) (v : Value) (cx : Cx) (L : List Res) (u : Value) (w' : World) : Prop :=
  ∃ e, ∃ at' : Int, X = .error e ∧ u = Qk0 e ∧ St cx w' (blk rb 120 [v, .int .i64 at'] :: L)
/-- A reader of one thing, whatever else lies about. -/
def RdC {α : Type} (r : Rep α) (tv : List Value → Value) (P : Program) (g : FuncId) (cap : List Value) (f : List UInt8 → Got α) (bs : List UInt8) (rb : Nat) (v : Value) (cx : Cx) (L : List Res) : Prop :=
  ∀ (at1 : Nat) (c1 : Cx) (w1 : World) (r0 : Res), cx.Le c1 → at1 ≤ bs.length → St c1 w1 (blk rb 120 [v, .int .i64 at1] :: r0 :: L) → Fins P g cap w1 (OkA r tv (f (bs.drop at1)) bs rb v at1 c1 (r0 :: L)) (Bad (f (bs.drop at1)) rb v c1 (r0 :: L))
def int1 (ds : List Value) : Value := ds.getD 0 undef
def aggV (ds : List Value) : Value := .agg ⟨ds⟩
theorem QgO {f : List UInt8 → Got _} {bs : List UInt8} {rb at0 : Nat} {v fv : Value} {g : FuncId} {cap : List Value} (hfv : FnV fv g cap) (hg : Q2r Try.prog g = true) (hb : bs.length ≤ 1000000) (hone : RdC intR int1 Try.prog g cap f bs rb v cx L) (hv : u8R.sl cx v bs) (ha : at0 ≤ bs.length) (hS : St cx w (blk rb 120 [v, .int .i64 at0] :: L)) :
    Fins Try.prog Q2l [.pointer (some ⟨rb, 0, none⟩), fv] w (OkS intR (QF bs.length f (bs.drop at0)) bs rb v at0 cx L) (Bad (QF bs.length f (bs.drop at0)) rb v cx L) := by
  unfold RdC at hone
  obtain ⟨va, vn, rfl⟩ := Rep.SR.shape hv
  have hle := St.refl hS
  unfold Fins
  all_goals refine Q9Q ?_
  all_goals (unfold codec_list_int_lc; refine Q0 ?_; refine Q1 ?_; refine zm ?_; refine zn ?_; refine Q0 ?_; refine Q1 ?_; refine zm ?_; refine Qo rfl ?_; refine Q2 rfl ?_; refine zl hS ?_; refine zm ?_; refine zn ?_; refine Q0 ?_; refine Q1 ?_; refine zm ?_; refine zE1 (c := Q3R hv ha hS) (p := by rintro v9 w9 ⟨e, at1, h1, rfl, hS⟩; (repeat (first | refine Qt ?_ | refine Qu ?_ | refine fun _ => ?_)); refine Q1g ?_; refine .inr ⟨_, rfl, ?_⟩; exact ⟨e, at1, Q8E h1, rfl, hS⟩) (h := ?_); rintro v1 w1 ⟨n, at1, h1, h2, h3, rfl, hS⟩; refine zm ?_; refine zn ?_)
  refine zML hS [1, 6] (fun A LL ρ' w' => Has ρ' A ∧ Has ρ' [] ∧ (0 ≤ n ∧ n ≤ (bs.length : Int) - at1) ∧ St cx w' (LL)) ?_ ?_
  · skip
    all_goals (refine Q0 ?_; refine zD [(0, none), (1, none), (2, none), (3, none), (4, none), (5, none), (6, none), (7, none), (8, none), (9, none), (10, none), (11, none), (12, none), (13, none), (14, none), (15, some none)] ?_; have hS := hS.drew; refine zm ?_)
    all_goals (first | (refine Q2w ?_) | (refine Q2x ?_) | (refine Q1a rfl rfl (fun hc => ?_) (fun hc => ?_)))
    all_goals (refine zm ?_; (first | refine s_gn rfl rfl ?_ | (refine s_gy rfl ?_; refine zm ?_)); (first | refine s_gn rfl rfl ?_ | (refine s_gy rfl ?_; refine zm ?_)); (first | refine s_gn rfl rfl ?_ | (refine s_gy rfl ?_; refine Qo rfl ?_)); (first | refine s_gn rfl rfl ?_ | (refine s_gy rfl ?_; refine Q2 rfl ?_)); (first | refine s_gn rfl rfl ?_ | (refine s_gy rfl ?_; refine zl hS ?_)); (first | refine s_gn rfl rfl ?_ | (refine s_gy rfl ?_; refine zL ?_)); (first | refine s_gn rfl rfl ?_ | (refine s_gy rfl ?_; refine zm ?_)); (first | refine s_gn rfl rfl ?_ | (refine s_gy rfl ?_; refine Qo rfl ?_)); (first | refine s_gn rfl rfl ?_ | (refine s_gy rfl ?_; refine Q2 rfl ?_)); (first | refine s_gn rfl rfl ?_ | (refine s_gy rfl ?_; refine zl hS ?_)); (first | refine s_gn rfl rfl ?_ | (refine s_gy rfl ?_; refine zsu ?_)))
    all_goals (first | refine s_gn rfl rfl ?_ | (refine s_gy rfl ?_; (first | (refine Q16 ?_) | (refine Q1d ?_) | (refine Qe rfl rfl (fun hc => ?_) (fun hc => ?_)))))
    all_goals ((first | (refine zpt ?_) | (refine zpf ?_)); refine zn ?_)
    all_goals
      first
      | (refine Q5 rfl ?_ -- Q2l c0
         all_goals (refine Q1 ?_; refine zm ?_; refine zb2 [_, _] ?_; refine zki ?_)
         all_goals (refine Q3P rfl ?_; (repeat (first | refine Qt ?_ | refine Qu ?_ | refine fun _ => ?_)); refine Q1g ?_; exact .inr ⟨_, rfl, (2, at0), _, Q4Y ha h3 h1 (by omega), rfl, hS.sp⟩))
      | (refine Q6 rfl ?_ -- Q2l c0
         all_goals refine zsk ?_)
    all_goals (exact ⟨zh, zh, by omega, hS.sp⟩)
  rintro ρ w1 ⟨hA, hρ, hn, hS⟩; obtain ⟨ρ, rfl⟩ := env2 hA hρ
  all_goals (refine Q0 ?_; refine Q1 ?_; refine zm ?_; refine zn ?_; refine Q0 ?_; refine Q0 ?_; refine Q1 ?_; refine zm ?_; refine zm ?_; refine zn ?_; refine Qa ?_; have hS := St.nil (T := 3) (es := 1) hS; have hgo := Q4Z (f := f) h3 h1 hn)
  refine zo [1, 33] (fun A ρ' w' => ∃ (k0 : Cx) (k at2 : Nat) (vl : Value) (co : List (List Value)) (xs : List _), Has ρ' A ∧ Has ρ' [(34, .int .i64 k), (7, vl)] ∧ (cx.Le k0) ∧ (k ≤ n.toNat) ∧ (at1 ≤ at2 ∧ at2 ≤ bs.length) ∧ (Rep.ls intR k0 co xs) ∧ (xs.length = k) ∧ (oneC vl = true) ∧ (rdMany f n.toNat (bs.drop at1) = mmap xs (rdMany f (n.toNat - k) (bs.drop at2))) ∧ St k0 w' (sl 3 1 vl co :: blk rb 120 [.slice va bs.length vn, .int .i64 at2] :: L)) (fun ρ' _ => (n.toNat - iv (ρ' 34)).toNat) ?_ ?_
  · exact ⟨cx, 0, at1, _, _, [], zh, zh, St.refl hS, (by omega), by omega, Rep.LR.nil _ _ _, rfl, rfl, by rw [QgX]; rfl, hS.sp⟩
  rintro ρ w1 ⟨k0, k, at2, vl, co, xs, hA, hρ, hle2, hk, hat2, hlo, hxl, hvl, hd, hS⟩; obtain ⟨ρ, rfl⟩ := env2 hA hρ; have hL0 := hle2; (try have hle := hle.trans hle2); (try have hv := hv.up hle2)
  unfold Q3G
  all_goals (refine Q0 ?_; refine Q1 ?_; refine Qs rfl rfl ?_; refine zn ?_; refine Q0 ?_)
  refine Qi rfl (fun hc => ?_) (fun hc => ?_)
  · skip
    all_goals (refine zsk ?_; refine Q0 ?_; refine Qa ?_; refine Q1 ?_; refine zm ?_; refine zm ?_)
    all_goals (refine Qcz rfl hfv hg (hone at2 k0 _ _ hL0 hat2.2 (St.mv1 hS)) (by rintro v9 w9 ⟨e, at3, he1, rfl, hS⟩; (repeat (first | refine Qt ?_ | refine Qu ?_ | refine fun _ => ?_)); refine Q1g ?_; refine .inr ⟨_, rfl, ?_⟩; exact ⟨e, at3, hgo.trans (Q8D hd (by omega) he1), rfl, St.weak hS.sp hL0⟩) ?_; rintro v1 w1 ⟨a, at3, c3, ds, he1, h4, h5, hle2, hd1, rfl, hS⟩; (try have hle := hle.trans hle2); (try have hL0 := hL0.trans hle2); (try have hv := hv.up hle2); (try have hlo := hlo.up hle2); have hd1' := hd1; unfold int1; obtain rfl := Q1H hd1)
    all_goals (refine zB1 hS [_] ?_; intro b1 w1 hS; refine za el_T25 u_T25 hS ?_; intro vp1 w1 css1 hls1 hv1 hS; have hS := hS.ns; refine zm ?_; refine zn ?_; refine Q1 ?_; refine zad ?_; refine zm ?_; refine zn ?_; exact ⟨⟨_, k + 1, at3, _, _, xs ++ [a], zh, zh, hL0, (by omega), by omega, hls1, by simp [hxl], by assumption, Q8C hd (by omega) he1, hS.sp⟩, Qg (by omega)⟩)
  · skip
    all_goals (refine zex ?_; refine Q0 ?_; refine Q1 ?_; refine zm ?_; refine zm ?_; refine zn ?_; refine zr ?_; refine zf ?_; obtain ⟨c4, hle4, hS, hk4⟩ := St.freezeL (r := intR) hS hlo rfl (by omega); exact .inl ⟨_, rfl, xs, at2, c4, hgo.trans (Q8B hd (by omega)), by omega, hat2.2, hL0.trans hle4, hk4, hS.sp⟩)
theorem QhJ {f : List UInt8 → Got _} {bs : List UInt8} {rb at0 : Nat} {v fv : Value} {g : FuncId} {cap : List Value} (hfv : FnV fv g cap) (hg : Q2r Try.prog g = true) (hb : bs.length ≤ 1000000) (hone : RdC tyR aggV Try.prog g cap f bs rb v cx L) (hv : u8R.sl cx v bs) (ha : at0 ≤ bs.length) (hS : St cx w (blk rb 120 [v, .int .i64 at0] :: L)) :
    Fins Try.prog Q1i [.pointer (some ⟨rb, 0, none⟩), fv] w (OkS tyR (QF bs.length f (bs.drop at0)) bs rb v at0 cx L) (Bad (QF bs.length f (bs.drop at0)) rb v cx L) := by
  unfold RdC at hone
  obtain ⟨va, vn, rfl⟩ := Rep.SR.shape hv
  have hle := St.refl hS
  unfold Fins
  all_goals refine Q4B ?_
  all_goals (unfold codec_list_api_Type_lc; refine Q0 ?_; refine Q1 ?_; refine zm ?_; refine zn ?_; refine Q0 ?_; refine Q1 ?_; refine zm ?_; refine Qo rfl ?_; refine Q2 rfl ?_; refine zl hS ?_; refine zm ?_; refine zn ?_; refine Q0 ?_; refine Q1 ?_; refine zm ?_; refine zE1 (c := Q3R hv ha hS) (p := by rintro v9 w9 ⟨e, at1, h1, rfl, hS⟩; (repeat (first | refine Qt ?_ | refine Qu ?_ | refine fun _ => ?_)); refine Q1g ?_; refine .inr ⟨_, rfl, ?_⟩; exact ⟨e, at1, Q8E h1, rfl, hS⟩) (h := ?_); rintro v1 w1 ⟨n, at1, h1, h2, h3, rfl, hS⟩; refine zm ?_; refine zn ?_)
  refine zML hS [1, 6] (fun A LL ρ' w' => Has ρ' A ∧ Has ρ' [] ∧ (0 ≤ n ∧ n ≤ (bs.length : Int) - at1) ∧ St cx w' (LL)) ?_ ?_
  · skip
    all_goals (refine Q0 ?_; refine zD [(0, none), (1, none), (2, none), (3, none), (4, none), (5, none), (6, none), (7, none), (8, none), (9, none), (10, none), (11, none), (12, none), (13, none), (14, none), (15, some none)] ?_; have hS := hS.drew; refine zm ?_)
    all_goals (first | (refine Q2w ?_) | (refine Q2x ?_) | (refine Q1a rfl rfl (fun hc => ?_) (fun hc => ?_)))
    all_goals (refine zm ?_; (first | refine s_gn rfl rfl ?_ | (refine s_gy rfl ?_; refine zm ?_)); (first | refine s_gn rfl rfl ?_ | (refine s_gy rfl ?_; refine zm ?_)); (first | refine s_gn rfl rfl ?_ | (refine s_gy rfl ?_; refine Qo rfl ?_)); (first | refine s_gn rfl rfl ?_ | (refine s_gy rfl ?_; refine Q2 rfl ?_)); (first | refine s_gn rfl rfl ?_ | (refine s_gy rfl ?_; refine zl hS ?_)); (first | refine s_gn rfl rfl ?_ | (refine s_gy rfl ?_; refine zL ?_)); (first | refine s_gn rfl rfl ?_ | (refine s_gy rfl ?_; refine zm ?_)); (first | refine s_gn rfl rfl ?_ | (refine s_gy rfl ?_; refine Qo rfl ?_)); (first | refine s_gn rfl rfl ?_ | (refine s_gy rfl ?_; refine Q2 rfl ?_)); (first | refine s_gn rfl rfl ?_ | (refine s_gy rfl ?_; refine zl hS ?_)); (first | refine s_gn rfl rfl ?_ | (refine s_gy rfl ?_; refine zsu ?_)))
    all_goals (first | refine s_gn rfl rfl ?_ | (refine s_gy rfl ?_; (first | (refine Q16 ?_) | (refine Q1d ?_) | (refine Qe rfl rfl (fun hc => ?_) (fun hc => ?_)))))
    all_goals ((first | (refine zpt ?_) | (refine zpf ?_)); refine zn ?_)
    all_goals
      first
      | (refine Q5 rfl ?_ -- Q1i c0
         all_goals (refine Q1 ?_; refine zm ?_; refine zb2 [_, _] ?_; refine zki ?_)
         all_goals (refine Q3P rfl ?_; (repeat (first | refine Qt ?_ | refine Qu ?_ | refine fun _ => ?_)); refine Q1g ?_; exact .inr ⟨_, rfl, (2, at0), _, Q4Y ha h3 h1 (by omega), rfl, hS.sp⟩))
      | (refine Q6 rfl ?_ -- Q1i c0
         all_goals refine zsk ?_)
    all_goals (exact ⟨zh, zh, by omega, hS.sp⟩)
  rintro ρ w1 ⟨hA, hρ, hn, hS⟩; obtain ⟨ρ, rfl⟩ := env2 hA hρ
  all_goals (refine Q0 ?_; refine Q1 ?_; refine zm ?_; refine zn ?_; refine Q0 ?_; refine Q0 ?_; refine Q1 ?_; refine zm ?_; refine zm ?_; refine zn ?_; refine Qa ?_; have hS := St.nil (T := 65) (es := 3) hS; have hgo := Q4Z (f := f) h3 h1 hn)
  refine zo [1, 33] (fun A ρ' w' => ∃ (k0 : Cx) (k at2 : Nat) (vl : Value) (co : List (List Value)) (xs : List _), Has ρ' A ∧ Has ρ' [(34, .int .i64 k), (7, vl)] ∧ (cx.Le k0) ∧ (k ≤ n.toNat) ∧ (at1 ≤ at2 ∧ at2 ≤ bs.length) ∧ (Rep.ls tyR k0 co xs) ∧ (xs.length = k) ∧ (oneC vl = true) ∧ (rdMany f n.toNat (bs.drop at1) = mmap xs (rdMany f (n.toNat - k) (bs.drop at2))) ∧ St k0 w' (sl 65 3 vl co :: blk rb 120 [.slice va bs.length vn, .int .i64 at2] :: L)) (fun ρ' _ => (n.toNat - iv (ρ' 34)).toNat) ?_ ?_
  · exact ⟨cx, 0, at1, _, _, [], zh, zh, St.refl hS, (by omega), by omega, Rep.LR.nil _ _ _, rfl, rfl, by rw [QgX]; rfl, hS.sp⟩
  rintro ρ w1 ⟨k0, k, at2, vl, co, xs, hA, hρ, hle2, hk, hat2, hlo, hxl, hvl, hd, hS⟩; obtain ⟨ρ, rfl⟩ := env2 hA hρ; have hL0 := hle2; (try have hle := hle.trans hle2); (try have hv := hv.up hle2)
  unfold Q2d
  all_goals (refine Q0 ?_; refine Q1 ?_; refine Qs rfl rfl ?_; refine zn ?_; refine Q0 ?_)
  refine Qi rfl (fun hc => ?_) (fun hc => ?_)
  · skip
    all_goals (refine zsk ?_; refine Q0 ?_; refine Qa ?_; refine Q1 ?_; refine zm ?_; refine zm ?_)
    all_goals (refine Qcz rfl hfv hg (hone at2 k0 _ _ hL0 hat2.2 (St.mv1 hS)) (by rintro v9 w9 ⟨e, at3, he1, rfl, hS⟩; (repeat (first | refine Qt ?_ | refine Qu ?_ | refine fun _ => ?_)); refine Q1g ?_; refine .inr ⟨_, rfl, ?_⟩; exact ⟨e, at3, hgo.trans (Q8D hd (by omega) he1), rfl, St.weak hS.sp hL0⟩) ?_; rintro v1 w1 ⟨a, at3, c3, ds, he1, h4, h5, hle2, hd1, rfl, hS⟩; (try have hle := hle.trans hle2); (try have hL0 := hL0.trans hle2); (try have hv := hv.up hle2); (try have hlo := hlo.up hle2); have hd1' := hd1; unfold aggV; obtain ⟨vo, rfl, ho⟩ := Q1l hd1)
    all_goals (refine zB1 hS [_, _, _] ?_; intro b1 w1 hS; refine za el_T28 u_T28 hS ?_; intro vp1 w1 css1 hls1 hv1 hS; have hS := hS.ns; refine zm ?_; refine zn ?_; refine Q1 ?_; refine zad ?_; refine zm ?_; refine zn ?_; exact ⟨⟨_, k + 1, at3, _, _, xs ++ [a], zh, zh, hL0, (by omega), by omega, hls1, by simp [hxl], by assumption, Q8C hd (by omega) he1, hS.sp⟩, Qg (by omega)⟩)
  · skip
    all_goals (refine zex ?_; refine Q0 ?_; refine Q1 ?_; refine zm ?_; refine zm ?_; refine zn ?_; refine zr ?_; refine zf ?_; obtain ⟨c4, hle4, hS, hk4⟩ := St.freezeL (r := tyR) hS hlo rfl (by omega); exact .inl ⟨_, rfl, xs, at2, c4, hgo.trans (Q8B hd (by omega)), by omega, hat2.2, hL0.trans hle4, hk4, hS.sp⟩)
theorem QgP {f : List UInt8 → Got _} {bs : List UInt8} {rb at0 : Nat} {v fv : Value} {g : FuncId} {cap : List Value} (hfv : FnV fv g cap) (hg : Q2r Try.prog g = true) (hb : bs.length ≤ 1000000) (hone : RdC insR aggV Try.prog g cap f bs rb v cx L) (hv : u8R.sl cx v bs) (ha : at0 ≤ bs.length) (hS : St cx w (blk rb 120 [v, .int .i64 at0] :: L)) :
    Fins Try.prog Q1w [.pointer (some ⟨rb, 0, none⟩), fv] w (OkS insR (QF bs.length f (bs.drop at0)) bs rb v at0 cx L) (Bad (QF bs.length f (bs.drop at0)) rb v cx L) := by
  unfold RdC at hone
  obtain ⟨va, vn, rfl⟩ := Rep.SR.shape hv
  have hle := St.refl hS
  unfold Fins
  all_goals refine Q5T ?_
  all_goals (unfold codec_list_api_Ins_lc; refine Q0 ?_; refine Q1 ?_; refine zm ?_; refine zn ?_; refine Q0 ?_; refine Q1 ?_; refine zm ?_; refine Qo rfl ?_; refine Q2 rfl ?_; refine zl hS ?_; refine zm ?_; refine zn ?_; refine Q0 ?_; refine Q1 ?_; refine zm ?_; refine zE1 (c := Q3R hv ha hS) (p := by rintro v9 w9 ⟨e, at1, h1, rfl, hS⟩; (repeat (first | refine Qt ?_ | refine Qu ?_ | refine fun _ => ?_)); refine Q1g ?_; refine .inr ⟨_, rfl, ?_⟩; exact ⟨e, at1, Q8E h1, rfl, hS⟩) (h := ?_); rintro v1 w1 ⟨n, at1, h1, h2, h3, rfl, hS⟩; refine zm ?_; refine zn ?_)
  refine zML hS [1, 6] (fun A LL ρ' w' => Has ρ' A ∧ Has ρ' [] ∧ (0 ≤ n ∧ n ≤ (bs.length : Int) - at1) ∧ St cx w' (LL)) ?_ ?_
  · skip
    all_goals (refine Q0 ?_; refine zD [(0, none), (1, none), (2, none), (3, none), (4, none), (5, none), (6, none), (7, none), (8, none), (9, none), (10, none), (11, none), (12, none), (13, none), (14, none), (15, some none)] ?_; have hS := hS.drew; refine zm ?_)
    all_goals (first | (refine Q2w ?_) | (refine Q2x ?_) | (refine Q1a rfl rfl (fun hc => ?_) (fun hc => ?_)))
    all_goals (refine zm ?_; (first | refine s_gn rfl rfl ?_ | (refine s_gy rfl ?_; refine zm ?_)); (first | refine s_gn rfl rfl ?_ | (refine s_gy rfl ?_; refine zm ?_)); (first | refine s_gn rfl rfl ?_ | (refine s_gy rfl ?_; refine Qo rfl ?_)); (first | refine s_gn rfl rfl ?_ | (refine s_gy rfl ?_; refine Q2 rfl ?_)); (first | refine s_gn rfl rfl ?_ | (refine s_gy rfl ?_; refine zl hS ?_)); (first | refine s_gn rfl rfl ?_ | (refine s_gy rfl ?_; refine zL ?_)); (first | refine s_gn rfl rfl ?_ | (refine s_gy rfl ?_; refine zm ?_)); (first | refine s_gn rfl rfl ?_ | (refine s_gy rfl ?_; refine Qo rfl ?_)); (first | refine s_gn rfl rfl ?_ | (refine s_gy rfl ?_; refine Q2 rfl ?_)); (first | refine s_gn rfl rfl ?_ | (refine s_gy rfl ?_; refine zl hS ?_)); (first | refine s_gn rfl rfl ?_ | (refine s_gy rfl ?_; refine zsu ?_)))
    all_goals (first | refine s_gn rfl rfl ?_ | (refine s_gy rfl ?_; (first | (refine Q16 ?_) | (refine Q1d ?_) | (refine Qe rfl rfl (fun hc => ?_) (fun hc => ?_)))))
    all_goals ((first | (refine zpt ?_) | (refine zpf ?_)); refine zn ?_)
    all_goals
      first
      | (refine Q5 rfl ?_ -- Q1w c0
         all_goals (refine Q1 ?_; refine zm ?_; refine zb2 [_, _] ?_; refine zki ?_)
         all_goals (refine Q3P rfl ?_; (repeat (first | refine Qt ?_ | refine Qu ?_ | refine fun _ => ?_)); refine Q1g ?_; exact .inr ⟨_, rfl, (2, at0), _, Q4Y ha h3 h1 (by omega), rfl, hS.sp⟩))
      | (refine Q6 rfl ?_ -- Q1w c0
         all_goals refine zsk ?_)
    all_goals (exact ⟨zh, zh, by omega, hS.sp⟩)
  rintro ρ w1 ⟨hA, hρ, hn, hS⟩; obtain ⟨ρ, rfl⟩ := env2 hA hρ
  all_goals (refine Q0 ?_; refine Q1 ?_; refine zm ?_; refine zn ?_; refine Q0 ?_; refine Q0 ?_; refine Q1 ?_; refine zm ?_; refine zm ?_; refine zn ?_; refine Qa ?_; have hS := St.nil (T := 27) (es := 8) hS; have hgo := Q4Z (f := f) h3 h1 hn)
  refine zo [1, 33] (fun A ρ' w' => ∃ (k0 : Cx) (k at2 : Nat) (vl : Value) (co : List (List Value)) (xs : List _), Has ρ' A ∧ Has ρ' [(34, .int .i64 k), (7, vl)] ∧ (cx.Le k0) ∧ (k ≤ n.toNat) ∧ (at1 ≤ at2 ∧ at2 ≤ bs.length) ∧ (Rep.ls insR k0 co xs) ∧ (xs.length = k) ∧ (oneC vl = true) ∧ (rdMany f n.toNat (bs.drop at1) = mmap xs (rdMany f (n.toNat - k) (bs.drop at2))) ∧ St k0 w' (sl 27 8 vl co :: blk rb 120 [.slice va bs.length vn, .int .i64 at2] :: L)) (fun ρ' _ => (n.toNat - iv (ρ' 34)).toNat) ?_ ?_
  · exact ⟨cx, 0, at1, _, _, [], zh, zh, St.refl hS, (by omega), by omega, Rep.LR.nil _ _ _, rfl, rfl, by rw [QgX]; rfl, hS.sp⟩
  rintro ρ w1 ⟨k0, k, at2, vl, co, xs, hA, hρ, hle2, hk, hat2, hlo, hxl, hvl, hd, hS⟩; obtain ⟨ρ, rfl⟩ := env2 hA hρ; have hL0 := hle2; (try have hle := hle.trans hle2); (try have hv := hv.up hle2)
  unfold Q2v
  all_goals (refine Q0 ?_; refine Q1 ?_; refine Qs rfl rfl ?_; refine zn ?_; refine Q0 ?_)
  refine Qi rfl (fun hc => ?_) (fun hc => ?_)
  · skip
    all_goals (refine zsk ?_; refine Q0 ?_; refine Qa ?_; refine Q1 ?_; refine zm ?_; refine zm ?_)
    all_goals (refine Qcz rfl hfv hg (hone at2 k0 _ _ hL0 hat2.2 (St.mv1 hS)) (by rintro v9 w9 ⟨e, at3, he1, rfl, hS⟩; (repeat (first | refine Qt ?_ | refine Qu ?_ | refine fun _ => ?_)); refine Q1g ?_; refine .inr ⟨_, rfl, ?_⟩; exact ⟨e, at3, hgo.trans (Q8D hd (by omega) he1), rfl, St.weak hS.sp hL0⟩) ?_; rintro v1 w1 ⟨a, at3, c3, ds, he1, h4, h5, hle2, hd1, rfl, hS⟩; (try have hle := hle.trans hle2); (try have hL0 := hL0.trans hle2); (try have hv := hv.up hle2); (try have hlo := hlo.up hle2); have hd1' := hd1; unfold aggV; obtain ⟨vo1, vo2, rfl, ho1, ho2⟩ := Q26 hd1)
    all_goals (refine zB1 hS [_, _, _, _, _, _, _, _] ?_; intro b1 w1 hS; refine za el_T58 u_T58 hS ?_; intro vp1 w1 css1 hls1 hv1 hS; have hS := hS.ns; refine zm ?_; refine zn ?_; refine Q1 ?_; refine zad ?_; refine zm ?_; refine zn ?_; exact ⟨⟨_, k + 1, at3, _, _, xs ++ [a], zh, zh, hL0, (by omega), by omega, hls1, by simp [hxl], by assumption, Q8C hd (by omega) he1, hS.sp⟩, Qg (by omega)⟩)
  · skip
    all_goals (refine zex ?_; refine Q0 ?_; refine Q1 ?_; refine zm ?_; refine zm ?_; refine zn ?_; refine zr ?_; refine zf ?_; obtain ⟨c4, hle4, hS, hk4⟩ := St.freezeL (r := insR) hS hlo rfl (by omega); exact .inl ⟨_, rfl, xs, at2, c4, hgo.trans (Q8B hd (by omega)), by omega, hat2.2, hL0.trans hle4, hk4, hS.sp⟩)
theorem QgR {f : List UInt8 → Got _} {bs : List UInt8} {rb at0 : Nat} {v fv : Value} {g : FuncId} {cap : List Value} (hfv : FnV fv g cap) (hg : Q2r Try.prog g = true) (hb : bs.length ≤ 1000000) (hone : RdC blockR aggV Try.prog g cap f bs rb v cx L) (hv : u8R.sl cx v bs) (ha : at0 ≤ bs.length) (hS : St cx w (blk rb 120 [v, .int .i64 at0] :: L)) :
    Fins Try.prog Q1n [.pointer (some ⟨rb, 0, none⟩), fv] w (OkS blockR (QF bs.length f (bs.drop at0)) bs rb v at0 cx L) (Bad (QF bs.length f (bs.drop at0)) rb v cx L) := by
  unfold RdC at hone
  obtain ⟨va, vn, rfl⟩ := Rep.SR.shape hv
  have hle := St.refl hS
  unfold Fins
  all_goals refine Q4g ?_
  all_goals (unfold codec_list_api_Block_lc; refine Q0 ?_; refine Q1 ?_; refine zm ?_; refine zn ?_; refine Q0 ?_; refine Q1 ?_; refine zm ?_; refine Qo rfl ?_; refine Q2 rfl ?_; refine zl hS ?_; refine zm ?_; refine zn ?_; refine Q0 ?_; refine Q1 ?_; refine zm ?_; refine zE1 (c := Q3R hv ha hS) (p := by rintro v9 w9 ⟨e, at1, h1, rfl, hS⟩; (repeat (first | refine Qt ?_ | refine Qu ?_ | refine fun _ => ?_)); refine Q1g ?_; refine .inr ⟨_, rfl, ?_⟩; exact ⟨e, at1, Q8E h1, rfl, hS⟩) (h := ?_); rintro v1 w1 ⟨n, at1, h1, h2, h3, rfl, hS⟩; refine zm ?_; refine zn ?_)
  refine zML hS [1, 6] (fun A LL ρ' w' => Has ρ' A ∧ Has ρ' [] ∧ (0 ≤ n ∧ n ≤ (bs.length : Int) - at1) ∧ St cx w' (LL)) ?_ ?_
  · skip
    all_goals (refine Q0 ?_; refine zD [(0, none), (1, none), (2, none), (3, none), (4, none), (5, none), (6, none), (7, none), (8, none), (9, none), (10, none), (11, none), (12, none), (13, none), (14, none), (15, some none)] ?_; have hS := hS.drew; refine zm ?_)
    all_goals (first | (refine Q2w ?_) | (refine Q2x ?_) | (refine Q1a rfl rfl (fun hc => ?_) (fun hc => ?_)))
    all_goals (refine zm ?_; (first | refine s_gn rfl rfl ?_ | (refine s_gy rfl ?_; refine zm ?_)); (first | refine s_gn rfl rfl ?_ | (refine s_gy rfl ?_; refine zm ?_)); (first | refine s_gn rfl rfl ?_ | (refine s_gy rfl ?_; refine Qo rfl ?_)); (first | refine s_gn rfl rfl ?_ | (refine s_gy rfl ?_; refine Q2 rfl ?_)); (first | refine s_gn rfl rfl ?_ | (refine s_gy rfl ?_; refine zl hS ?_)); (first | refine s_gn rfl rfl ?_ | (refine s_gy rfl ?_; refine zL ?_)); (first | refine s_gn rfl rfl ?_ | (refine s_gy rfl ?_; refine zm ?_)); (first | refine s_gn rfl rfl ?_ | (refine s_gy rfl ?_; refine Qo rfl ?_)); (first | refine s_gn rfl rfl ?_ | (refine s_gy rfl ?_; refine Q2 rfl ?_)); (first | refine s_gn rfl rfl ?_ | (refine s_gy rfl ?_; refine zl hS ?_)); (first | refine s_gn rfl rfl ?_ | (refine s_gy rfl ?_; refine zsu ?_)))
    all_goals (first | refine s_gn rfl rfl ?_ | (refine s_gy rfl ?_; (first | (refine Q16 ?_) | (refine Q1d ?_) | (refine Qe rfl rfl (fun hc => ?_) (fun hc => ?_)))))
    all_goals ((first | (refine zpt ?_) | (refine zpf ?_)); refine zn ?_)
    all_goals
      first
      | (refine Q5 rfl ?_ -- Q1n c0
         all_goals (refine Q1 ?_; refine zm ?_; refine zb2 [_, _] ?_; refine zki ?_)
         all_goals (refine Q3P rfl ?_; (repeat (first | refine Qt ?_ | refine Qu ?_ | refine fun _ => ?_)); refine Q1g ?_; exact .inr ⟨_, rfl, (2, at0), _, Q4Y ha h3 h1 (by omega), rfl, hS.sp⟩))
      | (refine Q6 rfl ?_ -- Q1n c0
         all_goals refine zsk ?_)
    all_goals (exact ⟨zh, zh, by omega, hS.sp⟩)
  rintro ρ w1 ⟨hA, hρ, hn, hS⟩; obtain ⟨ρ, rfl⟩ := env2 hA hρ
  all_goals (refine Q0 ?_; refine Q1 ?_; refine zm ?_; refine zn ?_; refine Q0 ?_; refine Q0 ?_; refine Q1 ?_; refine zm ?_; refine zm ?_; refine zn ?_; refine Qa ?_; have hS := St.nil (T := 77) (es := 12) hS; have hgo := Q4Z (f := f) h3 h1 hn)
  refine zo [1, 33] (fun A ρ' w' => ∃ (k0 : Cx) (k at2 : Nat) (vl : Value) (co : List (List Value)) (xs : List _), Has ρ' A ∧ Has ρ' [(34, .int .i64 k), (7, vl)] ∧ (cx.Le k0) ∧ (k ≤ n.toNat) ∧ (at1 ≤ at2 ∧ at2 ≤ bs.length) ∧ (Rep.ls blockR k0 co xs) ∧ (xs.length = k) ∧ (oneC vl = true) ∧ (rdMany f n.toNat (bs.drop at1) = mmap xs (rdMany f (n.toNat - k) (bs.drop at2))) ∧ St k0 w' (sl 77 12 vl co :: blk rb 120 [.slice va bs.length vn, .int .i64 at2] :: L)) (fun ρ' _ => (n.toNat - iv (ρ' 34)).toNat) ?_ ?_
  · exact ⟨cx, 0, at1, _, _, [], zh, zh, St.refl hS, (by omega), by omega, Rep.LR.nil _ _ _, rfl, rfl, by rw [QgX]; rfl, hS.sp⟩
  rintro ρ w1 ⟨k0, k, at2, vl, co, xs, hA, hρ, hle2, hk, hat2, hlo, hxl, hvl, hd, hS⟩; obtain ⟨ρ, rfl⟩ := env2 hA hρ; have hL0 := hle2; (try have hle := hle.trans hle2); (try have hv := hv.up hle2)
  unfold Q28
  all_goals (refine Q0 ?_; refine Q1 ?_; refine Qs rfl rfl ?_; refine zn ?_; refine Q0 ?_)
  refine Qi rfl (fun hc => ?_) (fun hc => ?_)
  · skip
    all_goals (refine zsk ?_; refine Q0 ?_; refine Qa ?_; refine Q1 ?_; refine zm ?_; refine zm ?_)
    all_goals (refine Qcz rfl hfv hg (hone at2 k0 _ _ hL0 hat2.2 (St.mv1 hS)) (by rintro v9 w9 ⟨e, at3, he1, rfl, hS⟩; (repeat (first | refine Qt ?_ | refine Qu ?_ | refine fun _ => ?_)); refine Q1g ?_; refine .inr ⟨_, rfl, ?_⟩; exact ⟨e, at3, hgo.trans (Q8D hd (by omega) he1), rfl, St.weak hS.sp hL0⟩) ?_; rintro v1 w1 ⟨a, at3, c3, ds, he1, h4, h5, hle2, hd1, rfl, hS⟩; (try have hle := hle.trans hle2); (try have hL0 := hL0.trans hle2); (try have hv := hv.up hle2); (try have hlo := hlo.up hle2); have hd1' := hd1; unfold aggV; obtain ⟨o1, o2, o3, o4, o5, o6, o7, rfl, q1, q2, q3, q4, q5, q6, q7⟩ := Q1t hd1)
    all_goals (refine zB1 hS [_, _, _, _, _, _, _, _, _, _, _, _] ?_; intro b1 w1 hS; refine za el_T29 u_T29 hS ?_; intro vp1 w1 css1 hls1 hv1 hS; have hS := hS.ns; refine zm ?_; refine zn ?_; refine Q1 ?_; refine zad ?_; refine zm ?_; refine zn ?_; exact ⟨⟨_, k + 1, at3, _, _, xs ++ [a], zh, zh, hL0, (by omega), by omega, hls1, by simp [hxl], by assumption, Q8C hd (by omega) he1, hS.sp⟩, Qg (by omega)⟩)
  · skip
    all_goals (refine zex ?_; refine Q0 ?_; refine Q1 ?_; refine zm ?_; refine zm ?_; refine zn ?_; refine zr ?_; refine zf ?_; obtain ⟨c4, hle4, hS, hk4⟩ := St.freezeL (r := blockR) hS hlo rfl (by omega); exact .inl ⟨_, rfl, xs, at2, c4, hgo.trans (Q8B hd (by omega)), by omega, hat2.2, hL0.trans hle4, hk4, hS.sp⟩)
theorem QgQ {f : List UInt8 → Got _} {bs : List UInt8} {rb at0 : Nat} {v fv : Value} {g : FuncId} {cap : List Value} (hfv : FnV fv g cap) (hg : Q2r Try.prog g = true) (hb : bs.length ≤ 1000000) (hone : RdC funcR aggV Try.prog g cap f bs rb v cx L) (hv : u8R.sl cx v bs) (ha : at0 ≤ bs.length) (hS : St cx w (blk rb 120 [v, .int .i64 at0] :: L)) :
    Fins Try.prog Q1r [.pointer (some ⟨rb, 0, none⟩), fv] w (OkS funcR (QF bs.length f (bs.drop at0)) bs rb v at0 cx L) (Bad (QF bs.length f (bs.drop at0)) rb v cx L) := by
  unfold RdC at hone
  obtain ⟨va, vn, rfl⟩ := Rep.SR.shape hv
  have hle := St.refl hS
  unfold Fins
  all_goals refine Q4P ?_
  all_goals (unfold codec_list_api_Func_lc; refine Q0 ?_; refine Q1 ?_; refine zm ?_; refine zn ?_; refine Q0 ?_; refine Q1 ?_; refine zm ?_; refine Qo rfl ?_; refine Q2 rfl ?_; refine zl hS ?_; refine zm ?_; refine zn ?_; refine Q0 ?_; refine Q1 ?_; refine zm ?_; refine zE1 (c := Q3R hv ha hS) (p := by rintro v9 w9 ⟨e, at1, h1, rfl, hS⟩; (repeat (first | refine Qt ?_ | refine Qu ?_ | refine fun _ => ?_)); refine Q1g ?_; refine .inr ⟨_, rfl, ?_⟩; exact ⟨e, at1, Q8E h1, rfl, hS⟩) (h := ?_); rintro v1 w1 ⟨n, at1, h1, h2, h3, rfl, hS⟩; refine zm ?_; refine zn ?_)
  refine zML hS [1, 6] (fun A LL ρ' w' => Has ρ' A ∧ Has ρ' [] ∧ (0 ≤ n ∧ n ≤ (bs.length : Int) - at1) ∧ St cx w' (LL)) ?_ ?_
  · skip
    all_goals (refine Q0 ?_; refine zD [(0, none), (1, none), (2, none), (3, none), (4, none), (5, none), (6, none), (7, none), (8, none), (9, none), (10, none), (11, none), (12, none), (13, none), (14, none), (15, some none)] ?_; have hS := hS.drew; refine zm ?_)
    all_goals (first | (refine Q2w ?_) | (refine Q2x ?_) | (refine Q1a rfl rfl (fun hc => ?_) (fun hc => ?_)))
    all_goals (refine zm ?_; (first | refine s_gn rfl rfl ?_ | (refine s_gy rfl ?_; refine zm ?_)); (first | refine s_gn rfl rfl ?_ | (refine s_gy rfl ?_; refine zm ?_)); (first | refine s_gn rfl rfl ?_ | (refine s_gy rfl ?_; refine Qo rfl ?_)); (first | refine s_gn rfl rfl ?_ | (refine s_gy rfl ?_; refine Q2 rfl ?_)); (first | refine s_gn rfl rfl ?_ | (refine s_gy rfl ?_; refine zl hS ?_)); (first | refine s_gn rfl rfl ?_ | (refine s_gy rfl ?_; refine zL ?_)); (first | refine s_gn rfl rfl ?_ | (refine s_gy rfl ?_; refine zm ?_)); (first | refine s_gn rfl rfl ?_ | (refine s_gy rfl ?_; refine Qo rfl ?_)); (first | refine s_gn rfl rfl ?_ | (refine s_gy rfl ?_; refine Q2 rfl ?_)); (first | refine s_gn rfl rfl ?_ | (refine s_gy rfl ?_; refine zl hS ?_)); (first | refine s_gn rfl rfl ?_ | (refine s_gy rfl ?_; refine zsu ?_)))
    all_goals (first | refine s_gn rfl rfl ?_ | (refine s_gy rfl ?_; (first | (refine Q16 ?_) | (refine Q1d ?_) | (refine Qe rfl rfl (fun hc => ?_) (fun hc => ?_)))))
    all_goals ((first | (refine zpt ?_) | (refine zpf ?_)); refine zn ?_)
    all_goals
      first
      | (refine Q5 rfl ?_ -- Q1r c0
         all_goals (refine Q1 ?_; refine zm ?_; refine zb2 [_, _] ?_; refine zki ?_)
         all_goals (refine Q3P rfl ?_; (repeat (first | refine Qt ?_ | refine Qu ?_ | refine fun _ => ?_)); refine Q1g ?_; exact .inr ⟨_, rfl, (2, at0), _, Q4Y ha h3 h1 (by omega), rfl, hS.sp⟩))
      | (refine Q6 rfl ?_ -- Q1r c0
         all_goals refine zsk ?_)
    all_goals (exact ⟨zh, zh, by omega, hS.sp⟩)
  rintro ρ w1 ⟨hA, hρ, hn, hS⟩; obtain ⟨ρ, rfl⟩ := env2 hA hρ
  all_goals (refine Q0 ?_; refine Q1 ?_; refine zm ?_; refine zn ?_; refine Q0 ?_; refine Q0 ?_; refine Q1 ?_; refine zm ?_; refine zm ?_; refine zn ?_; refine Qa ?_; have hS := St.nil (T := 31) (es := 4) hS; have hgo := Q4Z (f := f) h3 h1 hn)
  refine zo [1, 33] (fun A ρ' w' => ∃ (k0 : Cx) (k at2 : Nat) (vl : Value) (co : List (List Value)) (xs : List _), Has ρ' A ∧ Has ρ' [(34, .int .i64 k), (7, vl)] ∧ (cx.Le k0) ∧ (k ≤ n.toNat) ∧ (at1 ≤ at2 ∧ at2 ≤ bs.length) ∧ (Rep.ls funcR k0 co xs) ∧ (xs.length = k) ∧ (oneC vl = true) ∧ (rdMany f n.toNat (bs.drop at1) = mmap xs (rdMany f (n.toNat - k) (bs.drop at2))) ∧ St k0 w' (sl 31 4 vl co :: blk rb 120 [.slice va bs.length vn, .int .i64 at2] :: L)) (fun ρ' _ => (n.toNat - iv (ρ' 34)).toNat) ?_ ?_
  · exact ⟨cx, 0, at1, _, _, [], zh, zh, St.refl hS, (by omega), by omega, Rep.LR.nil _ _ _, rfl, rfl, by rw [QgX]; rfl, hS.sp⟩
  rintro ρ w1 ⟨k0, k, at2, vl, co, xs, hA, hρ, hle2, hk, hat2, hlo, hxl, hvl, hd, hS⟩; obtain ⟨ρ, rfl⟩ := env2 hA hρ; have hL0 := hle2; (try have hle := hle.trans hle2); (try have hv := hv.up hle2)
  unfold Q2e
  all_goals (refine Q0 ?_; refine Q1 ?_; refine Qs rfl rfl ?_; refine zn ?_; refine Q0 ?_)
  refine Qi rfl (fun hc => ?_) (fun hc => ?_)
  · skip
    all_goals (refine zsk ?_; refine Q0 ?_; refine Qa ?_; refine Q1 ?_; refine zm ?_; refine zm ?_)
    all_goals (refine Qcz rfl hfv hg (hone at2 k0 _ _ hL0 hat2.2 (St.mv1 hS)) (by rintro v9 w9 ⟨e, at3, he1, rfl, hS⟩; (repeat (first | refine Qt ?_ | refine Qu ?_ | refine fun _ => ?_)); refine Q1g ?_; refine .inr ⟨_, rfl, ?_⟩; exact ⟨e, at3, hgo.trans (Q8D hd (by omega) he1), rfl, St.weak hS.sp hL0⟩) ?_; rintro v1 w1 ⟨a, at3, c3, ds, he1, h4, h5, hle2, hd1, rfl, hS⟩; (try have hle := hle.trans hle2); (try have hL0 := hL0.trans hle2); (try have hv := hv.up hle2); (try have hlo := hlo.up hle2); have hd1' := hd1; unfold aggV; obtain ⟨o1, o2, o3, rfl, q1, q2, q3⟩ := Q1B hd1)
    all_goals (refine zB1 hS [_, _, _, _] ?_; intro b1 w1 hS; refine za el_T22 u_T22 hS ?_; intro vp1 w1 css1 hls1 hv1 hS; have hS := hS.ns; refine zm ?_; refine zn ?_; refine Q1 ?_; refine zad ?_; refine zm ?_; refine zn ?_; exact ⟨⟨_, k + 1, at3, _, _, xs ++ [a], zh, zh, hL0, (by omega), by omega, hls1, by simp [hxl], by assumption, Q8C hd (by omega) he1, hS.sp⟩, Qg (by omega)⟩)
  · skip
    all_goals (refine zex ?_; refine Q0 ?_; refine Q1 ?_; refine zm ?_; refine zm ?_; refine zn ?_; refine zr ?_; refine zf ?_; obtain ⟨c4, hle4, hS, hk4⟩ := St.freezeL (r := funcR) hS hlo rfl (by omega); exact .inl ⟨_, rfl, xs, at2, c4, hgo.trans (Q8B hd (by omega)), by omega, hat2.2, hL0.trans hle4, hk4, hS.sp⟩)
end Go.Proofs.Ytanlkfeogoganaa
namespace Go.Proofs.Ytanlkfeogoganaa
open Go.Lir
set_option maxHeartbeats 1000000
attribute [local irreducible] LC.wp Q3 Qz QJ retQ Q1A LO.wp Qh Calls
set_option linter.unusedSimpArgs false
set_option linter.unusedVariables false
attribute [local irreducible] bitI IntKind.wrap Q3N rdLong rdMany QF mmap
variable {cx : Cx} {w : World} {L : List Res}
theorem Qjt {bs : List UInt8} {rb : Nat} {v : Value} (hv : u8R.sl cx v bs) : RdC intR int1 Try.prog Q2C [.pointer (some ⟨rb, 0, none⟩)] (rdLong bs.length) bs rb v cx L := by
  intro at1 c1 w1 r0 hle hat hS
  refine Fins.mono (Q3p (Rep.SR.up hv hle) hat hS) ?_ ?_
  · rintro u w' ⟨n, at', h1, h2, h3, rfl, hS⟩; exact ⟨n, at', c1, [.int .i64 n], h1, h2, h3, St.refl hS, rfl, rfl, hS⟩
  · rintro u w' ⟨e, at', h1, rfl, hS⟩; exact ⟨e, at', h1, rfl, hS⟩
theorem Q8A {bs : List UInt8} {rb at0 : Nat} {v : Value} (hb : bs.length ≤ 1000000) (hv : u8R.sl cx v bs) (ha : at0 ≤ bs.length) (hS : St cx w (blk rb 120 [v, .int .i64 at0] :: L)) :
    Fins Try.prog Q3y [.pointer (some ⟨rb, 0, none⟩)] w (OkS intR (Q2n bs.length (bs.drop at0)) bs rb v at0 cx L) (Bad (Q2n bs.length (bs.drop at0)) rb v cx L) := by
  unfold Fins
  all_goals refine Q6P ?_
  all_goals (unfold codec_reader_ints_lc; refine Q0 ?_; refine Q1 ?_; refine zm ?_; refine zn ?_; refine Q0 ?_; refine Q1 ?_; refine zm ?_; refine zm ?_; refine s_mkb (u := [.pointer (some ⟨rb, 0, none⟩)]) rfl ?_; refine zE2 (c := QgO (cx := cx) ⟨[_], [], rfl, rfl⟩ (by kernel_rfl) hb (Qjt hv) hv ha hS) (p := by rintro v9 w9 hX; (repeat (first | refine Qt ?_ | refine Qu ?_ | refine fun _ => ?_)); refine Q1g ?_; refine .inr ⟨_, rfl, ?_⟩; exact hX) (h := ?_); rintro v1 w1 hX; refine zm ?_; refine zn ?_; refine zr ?_; refine zf ?_; exact .inl ⟨_, rfl, hX⟩)
theorem Qjs {bs : List UInt8} {rb at0 : Nat} {v : Value} (hb : bs.length ≤ 1000000) (hv : u8R.sl cx v bs) (ha : at0 ≤ bs.length) (hS : St cx w (blk rb 120 [v, .int .i64 at0] :: L)) :
    Fins Try.prog Q5u [.pointer (some ⟨rb, 0, none⟩)] w (OkA toR aggV (rdTo bs.length (bs.drop at0)) bs rb v at0 cx L) (Bad (rdTo bs.length (bs.drop at0)) rb v cx L) := by
  have hle := St.refl hS
  unfold Fins
  all_goals refine Q8W ?_
  all_goals (unfold codec_reader_to_lc; refine Q0 ?_; refine Q1 ?_; refine Qb hS ?_; intro p2 w1 hS; refine zn ?_; refine Q0 ?_; refine Q1 ?_; refine zm ?_; refine zE1 (c := Q3p hv ha hS.sp) (p := by rintro v9 w9 ⟨e, at1, h1, rfl, hS⟩; (repeat (first | refine Qt ?_ | refine Qu ?_ | refine fun _ => ?_)); refine Q1g ?_; refine .inr ⟨_, rfl, ?_⟩; exact ⟨e, at1, by simp only [rdTo, Qj, h1], rfl, hS.sp⟩) (h := ?_); rintro v1 w1 ⟨n, at1, h1, h2, h3, rfl, hS⟩; refine zb1 [_, _, _] ?_; refine Qb hS ?_; intro p3 w1 hS; refine zsn hS ?_; intro w1 hS; have hS := hS.ns; refine zn ?_; refine Q0 ?_; refine Q1 ?_; refine zm ?_; refine Q1v rfl (Q8A hb hv h3 (St.mv1 hS)) (by rintro v9 w9 ⟨e, at2, e2, rfl, hS⟩; (repeat (first | refine Qt ?_ | refine Qu ?_ | refine fun _ => ?_)); refine Q1g ?_; refine .inr ⟨_, rfl, ?_⟩; exact ⟨e, at2, by simp only [rdTo, Qj, h1, e2], rfl, hS.sp⟩) ?_; rintro v2 w2 ⟨l1, at2, c2, e2, h4, h5, hle2, hl1, hS⟩; have hv2 := Rep.SR.up hv hle2; have ho2 := Rep.SR.oneC hl1; refine Q2 rfl ?_; refine zst hS ?_; intro w1 hS; have hS := hS.ns; refine zn ?_; refine Q0 ?_; refine Q1 ?_; refine zm ?_; refine Q1v rfl (Q8A hb hv2 h5 hS) (by rintro v9 w9 ⟨e, at3, e3, rfl, hS⟩; (repeat (first | refine Qt ?_ | refine Qu ?_ | refine fun _ => ?_)); refine Q1g ?_; refine .inr ⟨_, rfl, ?_⟩; exact ⟨e, at3, by simp only [rdTo, Qj, h1, e2, e3], rfl, St.weak hS.sp hle2⟩) ?_; rintro v3 w3 ⟨l2, at3, c3, e3, h6, h7, hle3, hl2, hS⟩; have ho3 := Rep.SR.oneC hl2)
  all_goals (refine Q2 rfl ?_; refine zst hS ?_; intro w1 hS; have hS := hS.ns; refine zn ?_; refine Q0 ?_; refine Q1 ?_; refine zv hS ?_; refine zsn hS ?_; intro w1 hS; have hS := hS.ns; refine zn ?_; refine zr ?_; refine QaK vw (Ql (n := 3) (by kernel_rfl) (by kernel_rfl) (hS.blkAt fd) (by rfl) (by rfl)) ?_; exact .inl ⟨_, rfl, ⟨n, l1, l2⟩, at3, c3, _, by simp only [rdTo, Qj, h1, e2, e3], by omega, by omega, hle2.trans hle3, ⟨_, _, rfl, Rep.SR.up hl1 hle3, hl2⟩, rfl, hS.sp⟩)
end Go.Proofs.Ytanlkfeogoganaa
namespace Go.Lir
section
variable {n : Nat} {r r1 r2 r3 r4 : List UInt8} {e : Flt} {op a : Int} {yes no : To} {l : List Int}
theorem rdEnd_e (h : rdLong n r = .error e) : Q2b n r = .error e := by simp [Q2b, Qj, h]
theorem rdEnd_0 (h : rdLong n r = .ok (op, r1)) (h1 : op ≠ 1) (h2 : op ≠ 2) (h3 : op ≠ 3) : Q2b n r = .ok (⟨op, 0, ⟨0, [], []⟩, ⟨0, [], []⟩, []⟩, r1) := by simp [Q2b, Qj, rdIf, h, h1, h2, h3]
theorem rdEnd_1e (h : rdLong n r = .ok (op, r1)) (ho : op = 1) (h2 : rdTo n r1 = .error e) : Q2b n r = .error e := by simp [Q2b, Qj, rdIf, h, ho, h2]
theorem rdEnd_1 (h : rdLong n r = .ok (op, r1)) (ho : op = 1) (h2 : rdTo n r1 = .ok (yes, r2)) : Q2b n r = .ok (⟨op, 0, yes, ⟨0, [], []⟩, []⟩, r2) := by simp [Q2b, Qj, rdIf, h, ho, h2]
theorem rdEnd_2a (h : rdLong n r = .ok (op, r1)) (ho : op = 2) (h2 : rdLong n r1 = .error e) : Q2b n r = .error e := by simp [Q2b, Qj, rdIf, h, ho, h2]
theorem rdEnd_2b (h : rdLong n r = .ok (op, r1)) (ho : op = 2) (h2 : rdLong n r1 = .ok (a, r2)) (h3 : rdTo n r2 = .error e) : Q2b n r = .error e := by simp [Q2b, Qj, rdIf, h, ho, h2, h3]
theorem rdEnd_2c (h : rdLong n r = .ok (op, r1)) (ho : op = 2) (h2 : rdLong n r1 = .ok (a, r2)) (h3 : rdTo n r2 = .ok (yes, r3)) (h4 : rdTo n r3 = .error e) : Q2b n r = .error e := by simp [Q2b, Qj, rdIf, h, ho, h2, h3, h4]
theorem rdEnd_2 (h : rdLong n r = .ok (op, r1)) (ho : op = 2) (h2 : rdLong n r1 = .ok (a, r2)) (h3 : rdTo n r2 = .ok (yes, r3)) (h4 : rdTo n r3 = .ok (no, r4)) : Q2b n r = .ok (⟨op, a, yes, no, []⟩, r4) := by simp [Q2b, Qj, rdIf, h, ho, h2, h3, h4]
theorem rdEnd_3e (h : rdLong n r = .ok (op, r1)) (ho : op = 3) (h2 : Q2n n r1 = .error e) : Q2b n r = .error e := by simp [Q2b, Qj, rdIf, h, ho, h2]
theorem rdEnd_3 (h : rdLong n r = .ok (op, r1)) (ho : op = 3) (h2 : Q2n n r1 = .ok (l, r2)) : Q2b n r = .ok (⟨op, 0, ⟨0, [], []⟩, ⟨0, [], []⟩, l⟩, r2) := by simp [Q2b, Qj, rdIf, h, ho, h2]
def set4 (j : Nat) (x : Int × Int × Int × Int) (y : Int) : Int × Int × Int × Int := match j with | 0 => (y, x.2.1, x.2.2.1, x.2.2.2) | 1 => (x.1, y, x.2.2.1, x.2.2.2) | 2 => (x.1, x.2.1, y, x.2.2.2) | _ => (x.1, x.2.1, x.2.2.1, y)
/-- The four numbers of an instruction that its head says. -/
def Q1Z (n h : Nat) : Nat → Nat → Int × Int × Int × Int → List UInt8 → Got (Int × Int × Int × Int)
  | 0, _, x, r => .ok (x, r)
  | f + 1, j, x, r => if h / 2 ^ j % 2 = 1 then Qj (rdLong n r) fun y r => Q1Z n h f (j + 1) (set4 j x y) r else Q1Z n h f (j + 1) x r
def Q57 (n h : Nat) (op : Int) (x : Int × Int × Int × Int) (r : List UInt8) : Got Ins :=
  Qj (rdIf (h / 64 % 2 = 1) 0 (rdLong n) r) fun m r => Qj (rdIf (h / 16 % 2 = 1) [] (Q2n n) r) fun regs r => Qj (rdIf (h / 32 % 2 = 1) [] (Q2n n) r) fun args r => .ok (⟨op, x.1, x.2.1, x.2.2.1, x.2.2.2, m, regs, args⟩, r)
theorem Qfy (n : Nat) (r : List UInt8) : Q6d n r = Qj (rdLong n r) fun op r => Qj (Q1Z n (Qv op) 4 0 (0, 0, 0, 0) r) fun x r => Q57 n (Qv op) op x r := by
  unfold Q6d
  cases rdLong n r with
  | error e => rfl
  | ok p =>
    obtain ⟨op, r⟩ := p
    show Qj _ _ = Qj _ _
    rcases Decidable.em (Qv op / 2 ^ 0 % 2 = 1) with h0 | h0
    all_goals rcases Decidable.em (Qv op / 2 ^ 1 % 2 = 1) with h1 | h1
    all_goals rcases Decidable.em (Qv op / 2 ^ 2 % 2 = 1) with h2 | h2
    all_goals rcases Decidable.em (Qv op / 2 ^ 3 % 2 = 1) with h3 | h3
    all_goals simp only [rdIf, Q1Z, h0, h1, h2, h3, if_true, if_false, Q57, Qj, set4, Nat.zero_add, Nat.reduceAdd]
    all_goals (first | rfl | skip)
    all_goals (repeat (first | rfl | split))
variable {h j : Nat} {x : Int × Int × Int × Int} {y : Int} {X : Got (Int × Int × Int × Int)}
theorem rdRegs_e (hd : X = Q1Z n h (4 - j) j x r) (hj : j < 4) (hq : h / 2 ^ j % 2 = 1) (e2 : rdLong n r = .error e) : X = .error e := by
  rw [hd, show 4 - j = (4 - (j + 1)) + 1 by omega, Q1Z, if_pos hq, e2]; rfl
theorem Qc4 (hd : X = Q1Z n h (4 - j) j x r) (hj : j < 4) (hq : h / 2 ^ j % 2 = 1) (e2 : rdLong n r = .ok (y, r1)) : X = Q1Z n h (4 - (j + 1)) (j + 1) (set4 j x y) r1 := by
  rw [hd, show 4 - j = (4 - (j + 1)) + 1 by omega, Q1Z, if_pos hq, e2]; rfl
theorem Qc5 (hd : X = Q1Z n h (4 - j) j x r) (hj : j < 4) (hq : ¬ h / 2 ^ j % 2 = 1) : X = Q1Z n h (4 - (j + 1)) (j + 1) x r := by
  rw [hd, show 4 - j = (4 - (j + 1)) + 1 by omega, Q1Z, if_neg hq]
theorem rdIns_e (h1 : rdLong n r = .error e) : Q6d n r = .error e := by rw [Qfy, h1]; rfl
theorem rdIns_re (h1 : rdLong n r = .ok (op, r1)) (hf : Qv op = h) (h2 : Q1Z n h 4 0 (0, 0, 0, 0) r1 = .error e) : Q6d n r = .error e := by
  rw [Qfy, h1]; subst hf; show Qj (Q1Z n (Qv op) 4 0 (0, 0, 0, 0) r1) _ = _; rw [h2]; rfl
theorem rdIns_t (h1 : rdLong n r = .ok (op, r1)) (hf : Qv op = h) (hd : Q1Z n h 4 0 (0, 0, 0, 0) r1 = Q1Z n h (4 - j) j x r2) (hj : 4 ≤ j) : Q6d n r = Q57 n h op x r2 := by
  rw [Qfy, h1]; subst hf; show Qj (Q1Z n (Qv op) 4 0 (0, 0, 0, 0) r1) _ = _; rw [hd, show 4 - j = 0 by omega, Q1Z]; rfl
end
end Go.Lir
namespace Go.Proofs.Ytanlkfeogoganaa
open Go.Lir
set_option maxHeartbeats 1000000
attribute [local irreducible] LC.wp Q3 Qz QJ retQ Q1A LO.wp Qh Calls
set_option linter.unusedSimpArgs false
set_option linter.unusedVariables false
attribute [local irreducible] bitI IntKind.wrap Q3N rdLong rdMany QF mmap Q2n rdTo
variable {cx : Cx} {w : World} {L : List Res}
theorem rdend_c {bs : List UInt8} {rb at0 : Nat} {v : Value} (hb : bs.length ≤ 1000000) (hv : u8R.sl cx v bs) (ha : at0 ≤ bs.length) (hS : St cx w (blk rb 120 [v, .int .i64 at0] :: L)) :
    Fins Try.prog QI [.pointer (some ⟨rb, 0, none⟩)] w (OkA endR aggV (Q2b bs.length (bs.drop at0)) bs rb v at0 cx L) (Bad (Q2b bs.length (bs.drop at0)) rb v cx L) := by
  have hle := St.refl hS
  have hnil : intR.sl cx vn [] := Rep.SR.nil _ _ _
  unfold Fins
  all_goals refine Q8f ?_
  all_goals (unfold codec_reader_end_lc; refine Q0 ?_; refine Q1 ?_; refine Qb hS ?_; intro p2 w1 hS; refine zn ?_; refine Q0 ?_; refine Q1 ?_; refine zm ?_; refine zE1 (c := Q3p hv ha hS.sp) (p := by rintro v9 w9 ⟨e, at1, h1, rfl, hS⟩; (repeat (first | refine Qt ?_ | refine Qu ?_ | refine fun _ => ?_)); refine Q1g ?_; refine .inr ⟨_, rfl, ?_⟩; exact ⟨e, at1, rdEnd_e h1, rfl, hS.sp⟩) (h := ?_); rintro v1 w1 ⟨n, at1, h1, h2, h3, rfl, hS⟩; refine zb1 [_, _, _, _, _, _, _, _, _] ?_; refine Qb hS ?_; intro p3 w1 hS; refine zsn hS ?_; intro w1 hS; have hS := hS.ns; refine zn ?_; refine Q0 ?_; refine Q0 ?_; refine Q1 ?_; refine Q2 rfl ?_; refine zl hS ?_; refine zn ?_; refine Qa ?_; refine Q0 ?_; refine Q1 ?_)
  all_goals (first | (refine QO ?_) | (refine Q1e ?_) | (refine Qf rfl rfl (fun hc => ?_) (fun hc => ?_)))
  all_goals (refine zm ?_; refine zn ?_)
  all_goals
    first
    | (refine Q5 rfl ?_ -- QI c0
       all_goals (refine Q1 ?_; refine zm ?_; refine Q1v rfl (Qjs hb hv h3 (St.mv1 hS)) (by rintro v9 w9 ⟨e, at2, e2, rfl, hS⟩; (repeat (first | refine Qt ?_ | refine Qu ?_ | refine fun _ => ?_)); refine Q1g ?_; refine .inr ⟨_, rfl, ?_⟩; exact ⟨e, at2, rdEnd_1e h1 (by omega) e2, rfl, hS.sp⟩) ?_; rintro v2 w2 ⟨a1, at2, c2, ds, e2, h4, h5, hle2, hd1, rfl, hS⟩; obtain ⟨u1, u2, rfl, q1, q2⟩ := Q7g hd1; have o1 := Rep.SR.oneC q1; have o2 := Rep.SR.oneC q2; unfold aggV; refine Q2 rfl ?_; (first | (refine zsn hS ?_; intro w1 hS; have hS := hS.ns) | (refine zsm hS ?_; intro w1 hS; have hS := hS.ns)))
       all_goals refine zn ?_)
    | (refine Q6 rfl ?_ -- QI c0
       all_goals (refine Q0 ?_; refine Q1 ?_)
       all_goals (first | (refine QO ?_) | (refine Q1e ?_) | (refine Qf rfl rfl (fun hc => ?_) (fun hc => ?_)))
       all_goals (refine zm ?_; refine zn ?_)
       all_goals
         first
         | (refine Q5 rfl ?_ -- QI c1
            all_goals (refine Q0 ?_; refine Q1 ?_; refine zm ?_; refine Q1v rfl (Q3p hv h3 (St.mv1 hS)) (by rintro v9 w9 ⟨e, at2, e2, rfl, hS⟩; (repeat (first | refine Qt ?_ | refine Qu ?_ | refine fun _ => ?_)); refine Q1g ?_; refine .inr ⟨_, rfl, ?_⟩; exact ⟨e, at2, rdEnd_2a h1 (by omega) e2, rfl, hS.sp⟩) ?_; rintro v2 w2 ⟨m, at2, e2, h4, h5, rfl, hS⟩; refine Q2 rfl ?_; refine zst hS ?_; intro w1 hS; have hS := hS.ns; refine zn ?_; refine Q0 ?_; refine Q1 ?_; refine zm ?_; refine Q1v rfl (Qjs hb hv h5 hS) (by rintro v9 w9 ⟨e, at3, e3, rfl, hS⟩; (repeat (first | refine Qt ?_ | refine Qu ?_ | refine fun _ => ?_)); refine Q1g ?_; refine .inr ⟨_, rfl, ?_⟩; exact ⟨e, at3, rdEnd_2b h1 (by omega) e2 e3, rfl, hS.sp⟩) ?_; rintro v3 w3 ⟨a2, at3, c3, ds, e3, h6, h7, hle3, hd1, rfl, hS⟩; obtain ⟨u1, u2, rfl, q1, q2⟩ := Q7g hd1; have o1 := Rep.SR.oneC q1; have o2 := Rep.SR.oneC q2; unfold aggV; refine Q2 rfl ?_; (first | (refine zsn hS ?_; intro w1 hS; have hS := hS.ns) | (refine zsm hS ?_; intro w1 hS; have hS := hS.ns)); refine zn ?_; refine Q1 ?_; refine zm ?_; refine Q1v rfl (Qjs hb (Rep.SR.up hv hle3) h7 hS) (by rintro v9 w9 ⟨e, at4, e4, rfl, hS⟩; (repeat (first | refine Qt ?_ | refine Qu ?_ | refine fun _ => ?_)); refine Q1g ?_; refine .inr ⟨_, rfl, ?_⟩; exact ⟨e, at4, rdEnd_2c h1 (by omega) e2 e3 e4, rfl, St.weak hS.sp hle3⟩) ?_; rintro v4 w4 ⟨a3, at4, c4, ds, e4, h8, h9, hle4, hd2, rfl, hS⟩; obtain ⟨u3, u4, rfl, q3, q4⟩ := Q7g hd2; have o3 := Rep.SR.oneC q3; have o4 := Rep.SR.oneC q4; unfold aggV)
            all_goals (refine Q2 rfl ?_; (first | (refine zsn hS ?_; intro w1 hS; have hS := hS.ns) | (refine zsm hS ?_; intro w1 hS; have hS := hS.ns)))
            all_goals refine zn ?_)
         | (refine Q6 rfl ?_ -- QI c1
            all_goals (refine Q0 ?_; refine Q1 ?_)
            all_goals (first | (refine QO ?_) | (refine Q1e ?_) | (refine Qf rfl rfl (fun hc => ?_) (fun hc => ?_)))
            all_goals (refine zm ?_; refine zn ?_)
            all_goals
              first
              | (refine Q5 rfl ?_ -- QI c2
                 all_goals (refine Q1 ?_; refine zm ?_; refine Q1v rfl (Q8A hb hv h3 (St.mv1 hS)) (by rintro v9 w9 ⟨e, at2, e2, rfl, hS⟩; (repeat (first | refine Qt ?_ | refine Qu ?_ | refine fun _ => ?_)); refine Q1g ?_; refine .inr ⟨_, rfl, ?_⟩; exact ⟨e, at2, rdEnd_3e h1 (by omega) e2, rfl, hS.sp⟩) ?_; rintro v2 w2 ⟨l1, at2, c2, e2, h4, h5, hle2, hl1, hS⟩; have o1 := Rep.SR.oneC hl1; refine Q2 rfl ?_; refine zst hS ?_; intro w1 hS; have hS := hS.ns)
                 all_goals refine zn ?_)
              | (refine Q6 rfl ?_ -- QI c2
                 all_goals refine zsk ?_)))
  all_goals (refine Q0 ?_; (first | (have hd9 : endR.at c2 [.int .i64 n, vi 0, .int .i64 a1.block, u1, u2, vi 0, vn, vn, vn] ⟨n, 0, a1, ⟨0, [], []⟩, []⟩ := ⟨_, _, _, _, _, rfl, q1, q2, Rep.SR.up hnil hle2, Rep.SR.up hnil hle2, Rep.SR.up hnil hle2⟩; have he9 := rdEnd_1 h1 (by omega) e2; have hle9 := hle2) | (have hd9 : endR.at c4 [.int .i64 n, .int .i64 m, .int .i64 a2.block, u1, u2, .int .i64 a3.block, u3, u4, vn] ⟨n, m, a2, a3, []⟩ := ⟨_, _, _, _, _, rfl, Rep.SR.up q1 hle4, Rep.SR.up q2 hle4, q3, q4, Rep.SR.up hnil (hle3.trans hle4)⟩; have he9 := rdEnd_2 h1 (by omega) e2 e3 e4; have hle9 := hle3.trans hle4) | (have hd9 : endR.at c2 [.int .i64 n, vi 0, vi 0, vn, vn, vi 0, vn, vn, v2] ⟨n, 0, ⟨0, [], []⟩, ⟨0, [], []⟩, l1⟩ := ⟨_, _, _, _, _, rfl, Rep.SR.up hnil hle2, Rep.SR.up hnil hle2, Rep.SR.up hnil hle2, Rep.SR.up hnil hle2, hl1⟩; have he9 := rdEnd_3 h1 (by omega) e2; have hle9 := hle2) | (have hd9 : endR.at cx [.int .i64 n, vi 0, vi 0, vn, vn, vi 0, vn, vn, vn] ⟨n, 0, ⟨0, [], []⟩, ⟨0, [], []⟩, []⟩ := ⟨_, _, _, _, _, rfl, hnil, hnil, hnil, hnil, hnil⟩; have he9 := rdEnd_0 h1 (by omega) (by omega) (by omega); have hle9 := hle)); refine Q1 ?_; refine zv hS ?_; refine zsn hS ?_; intro w1 hS; have hS := hS.ns; refine zn ?_; refine zr ?_; refine QaK vw (Ql (n := 9) (by kernel_rfl) (by kernel_rfl) (hS.blkAt fd) (by rfl) (by rfl)) ?_)
  all_goals ((first | exact .inl ⟨_, rfl, _, at2, c2, _, he9, by omega, by omega, hle9, hd9, rfl, hS.sp⟩ | exact .inl ⟨_, rfl, _, at4, c4, _, he9, by omega, by omega, hle9, hd9, rfl, hS.sp⟩ | exact .inl ⟨_, rfl, _, at2, c2, _, he9, by omega, by omega, hle9, hd9, rfl, hS.sp⟩ | exact .inl ⟨_, rfl, _, at1, cx, _, he9, by omega, by omega, hle9, hd9, rfl, hS.sp⟩))
end Go.Proofs.Ytanlkfeogoganaa
namespace Go.Proofs.Ytanlkfeogoganaa
open Go.Lir
set_option maxHeartbeats 1000000
attribute [local irreducible] LC.wp Q3 Qz QJ retQ Q1A LO.wp Qh Calls
set_option linter.unusedSimpArgs false
set_option linter.unusedVariables false
attribute [local irreducible] bitI IntKind.wrap Q3N rdLong rdMany QF mmap Q2n QP
variable {cx : Cx} {w : World} {L : List Res}
/-- What the reader of types does where so many levels are left. -/
def TysC (bs : List UInt8) (rb : Nat) (v : Value) (k : Nat) : Prop :=
  ∀ (cx : Cx) (w : World) (L : List Res) (d : Int) (at0 : Nat), 0 ≤ d → d + k = 6 → u8R.sl cx v bs → at0 ≤ bs.length → St cx w (blk rb 120 [v, .int .i64 at0] :: L) →
    Fins Try.prog Q1m [.pointer (some ⟨rb, 0, none⟩), .int .i64 d] w (OkS tyR (QP bs.length k (bs.drop at0)) bs rb v at0 cx L) (Bad (QP bs.length k (bs.drop at0)) rb v cx L)
theorem Q78 {α : Type} {p : Prop} [Decidable p] {z : α} {f : List UInt8 → Got α} {r : List UInt8} (h : p) : rdIf p z f r = f r := if_pos h
theorem QgU {α : Type} {p : Prop} [Decidable p] {z : α} {f : List UInt8 → Got α} {r : List UInt8} (h : ¬ p) : rdIf p z f r = .ok (z, r) := if_neg h
theorem rdty_c {bs : List UInt8} {rb p q at0 k : Nat} {d : Int} {v : Value} (hrec : TysC bs rb v k) (h0 : 0 ≤ d) (hd : d + k = 5) (hv : u8R.sl cx v bs) (ha : at0 ≤ bs.length) (hS : St cx w (blk rb 120 [v, .int .i64 at0] :: blk p 118 [.pointer (some ⟨rb, 0, none⟩)] :: blk q 3 [.int .i64 d] :: L)) :
    Fins Try.prog QB [.pointer (some ⟨p, 0, none⟩), .pointer (some ⟨q, 0, none⟩)] w (OkA tyR aggV (rdTy bs.length k (bs.drop at0)) bs rb v at0 cx (blk p 118 [.pointer (some ⟨rb, 0, none⟩)] :: blk q 3 [.int .i64 d] :: L)) (Bad (rdTy bs.length k (bs.drop at0)) rb v cx (blk p 118 [.pointer (some ⟨rb, 0, none⟩)] :: blk q 3 [.int .i64 d] :: L)) := by
  have hle := St.refl hS
  have hnil : tyR.sl cx vn [] := Rep.SR.nil _ _ _
  unfold Fins
  all_goals refine Q41 ?_
  all_goals (unfold codec_reader_types_1_lc; refine Q0 ?_; refine Q1 ?_; refine Qb hS ?_; intro p2 w1 hS; refine zn ?_; refine Q0 ?_; refine Q1 ?_; refine zl hS ?_; refine Q1v rfl (Q3p hv ha hS.sp) (by rintro v9 w9 ⟨e, at2, e2, rfl, hS⟩; (repeat (first | refine Qt ?_ | refine Qu ?_ | refine fun _ => ?_)); refine Q1g ?_; refine .inr ⟨_, rfl, ?_⟩; exact ⟨e, at2, by simp only [rdTy, Qj, e2], rfl, hS.sp⟩) ?_; rintro v1 w1 ⟨n, at1, h1, h2, h3, rfl, hS⟩; refine zb1 [_, _, _] ?_; refine Qb hS ?_; intro p3 w1 hS; refine zsn hS ?_; intro w1 hS; have hS := hS.ns; refine zn ?_)
  refine zM [0, 1, 2, 3] (fun A ρ' w' => ∃ (g : Int) (at2 : Nat), Has ρ' A ∧ Has ρ' [] ∧ (rdIf (n ≠ 1) 0 (rdLong bs.length) (bs.drop at1) = .ok (g, bs.drop at2)) ∧ (at1 ≤ at2) ∧ (at2 ≤ bs.length) ∧ St cx w' (blk rb 120 [v, .int .i64 at2] :: blk p3 65 [.int .i64 n, .int .i64 g, vn] :: blk p2 65 [vi 0, vi 0, vn] :: blk p 118 [.pointer (some ⟨rb, 0, none⟩)] :: blk q 3 [.int .i64 d] :: L)) ?_ ?_
  · skip
    all_goals (refine Q0 ?_; refine Q1 ?_; refine Q2 rfl ?_; refine zl hS ?_)
    all_goals (first | (refine Q1D ?_) | (refine Q1E ?_) | (refine QA rfl rfl (fun hc => ?_) (fun hc => ?_)))
    all_goals (refine zn ?_)
    all_goals
      first
      | (refine Q5 rfl ?_ -- QB c0
         all_goals (refine Q1 ?_; refine zl hS ?_; refine Q1v rfl (Q3p hv h3 hS.sp) (by rintro v9 w9 ⟨e, at2, e2, rfl, hS⟩; (repeat (first | refine Qt ?_ | refine Qu ?_ | refine fun _ => ?_)); refine Q1g ?_; refine .inr ⟨_, rfl, ?_⟩; exact ⟨e, at2, by simp only [rdTy, Qj, h1, Q78 (show n ≠ 1 by omega), e2], rfl, hS.sp⟩) ?_; rintro v2 w2 ⟨g, at2, e2, h4, h5, rfl, hS⟩; refine Q2 rfl ?_; refine zst hS ?_; intro w1 hS; have hS := hS.ns)
         all_goals refine zn ?_)
      | (refine Q6 rfl ?_ -- QB c0
         all_goals refine zsk ?_)
    all_goals ((first | (exact ⟨g, at2, zh, zh, by rw [Q78 (show n ≠ 1 by omega)]; exact e2, by omega, by omega, hS.sp⟩) | (exact ⟨0, at1, zh, zh, by rw [QgU (show ¬ n ≠ 1 by omega)], by omega, by omega, hS.sp⟩)))
  rintro ρ w1 ⟨g, at2, hA, hρ, hg, h4, h5, hS⟩; obtain ⟨ρ, rfl⟩ := env2 hA hρ
  all_goals (refine Q0 ?_; refine Q0 ?_; refine Q1 ?_; refine Q2 rfl ?_; refine zl hS ?_)
  all_goals (first | (refine QO ?_) | (refine Q1e ?_) | (refine Qf rfl rfl (fun hc => ?_) (fun hc => ?_)))
  all_goals (refine zn ?_)
  all_goals
    first
    | (refine Q6 rfl ?_ -- QB c1
       all_goals refine zsk ?_)
    | (refine Q5 rfl ?_ -- QB c1
       all_goals (refine Q1 ?_; refine zl hS ?_; refine zl hS ?_; refine zad ?_; refine Q1v rfl (hrec cx _ _ (d + 1) at2 (by omega) (by omega) hv h5 hS.sp) (by rintro v9 w9 ⟨e, at3, e3, rfl, hS⟩; (repeat (first | refine Qt ?_ | refine Qu ?_ | refine fun _ => ?_)); refine Q1g ?_; refine .inr ⟨_, rfl, ?_⟩; exact ⟨e, at3, by simp only [rdTy, Qj, h1, hg, Q78 (show n = 3 by omega), e3], rfl, hS.sp⟩) ?_; rintro v2 w2 ⟨l, at3, c3, e3, h6, h7, hle3, hl, hS⟩; have ho := Rep.SR.oneC hl; refine Q2 rfl ?_; refine zst hS ?_; intro w1 hS; have hS := hS.ns)
       all_goals refine zn ?_)
  all_goals (refine Q0 ?_; refine Q1 ?_; refine zv hS ?_; refine zsn hS ?_; intro w1 hS; have hS := hS.ns; refine zn ?_; refine zr ?_; refine QaK vw (Ql (n := 3) (by kernel_rfl) (by kernel_rfl) (hS.blkAt fd) (by rfl) (by rfl)) ?_; (first | exact .inl ⟨_, rfl, .mk n g l, at3, c3, _, by simp only [rdTy, Qj, h1, hg, Q78 (show n = 3 by omega), e3], by omega, by omega, hle3, tyR_mk hl, rfl, hS.sp⟩ | exact .inl ⟨_, rfl, .mk n g [], at2, cx, _, by simp only [rdTy, Qj, h1, hg, QgU (show ¬ n = 3 by omega)], by omega, by omega, hle, tyR_mk hnil, rfl, hS.sp⟩))
theorem Qjq {bs : List UInt8} {rb : Nat} {v : Value} : TysC bs rb v 0 := by
  intro cx w L d at0 h0 hd hv ha hS
  have e0 : QP bs.length 0 (bs.drop at0) = .error (19, (at0 : Int)) := by rw [QP, QfN ha]
  unfold Fins
  all_goals refine Q2u ?_
  all_goals (unfold codec_reader_types_lc; refine Q0 ?_; refine Q1 ?_; refine zb hS ?_; intro p2 w1 hS; refine zb hS ?_; intro p3 w1 hS; refine zm ?_; refine zn ?_; refine Q0 ?_; refine Q0 ?_; refine Q1 ?_; refine zl hS ?_)
  all_goals (refine Q16 ?_)
  all_goals (refine zn ?_)
  all_goals
    first
    | (refine Q5 rfl ?_ -- Q1m c0
       all_goals (refine Q1 ?_; refine zl hS ?_; refine Qo rfl ?_; refine Q2 rfl ?_; refine zl hS ?_; refine zb2 [_, _] ?_; refine zki ?_)
       all_goals (refine Q3P rfl ?_; (repeat (first | refine Qt ?_ | refine Qu ?_ | refine fun _ => ?_)); refine Q1g ?_; exact .inr ⟨_, rfl, (19, at0), _, e0, rfl, hS.sp⟩))
  all_goals (refine Q0 ?_; refine Q1 ?_; refine zl hS ?_; refine Qjh ?_; fail "no contract of Q1i"; refine zm ?_; refine zn ?_; refine zr ?_; refine zf ?_; (exfalso; omega))
theorem rdone_ty {bs : List UInt8} {rb p q k : Nat} {d : Int} {v : Value} (hrec : TysC bs rb v k) (h0 : 0 ≤ d) (hd : d + k = 5) (hv : u8R.sl cx v bs) : RdC tyR aggV Try.prog QB [.pointer (some ⟨p, 0, none⟩), .pointer (some ⟨q, 0, none⟩)] (rdTy bs.length k) bs rb v cx (blk p 118 [.pointer (some ⟨rb, 0, none⟩)] :: blk q 3 [.int .i64 d] :: L) := by
  intro at1 c1 w1 r0 hle hat hS
  refine Fins.mono (rdty_c (L := r0 :: L) hrec h0 hd (Rep.SR.up hv hle) hat hS.sp) ?_ ?_
  · rintro u w' ⟨a, at', c', ds, h1, h2, h3, h4, h5, rfl, hS⟩; exact ⟨a, at', c', ds, h1, h2, h3, h4, h5, rfl, hS.sp⟩
  · rintro u w' ⟨e, at', h1, rfl, hS⟩; exact ⟨e, at', h1, rfl, hS.sp⟩
theorem Qjr {bs : List UInt8} {rb k : Nat} {v : Value} (hb : bs.length ≤ 1000000) (hrec : TysC bs rb v k) : TysC bs rb v (k + 1) := by
  intro cx w L d at0 h0 hd hv ha hS
  have e0 := QaJ bs.length k (bs.drop at0)
  unfold Fins
  all_goals refine Q2u ?_
  all_goals (unfold codec_reader_types_lc; refine Q0 ?_; refine Q1 ?_; refine zb hS ?_; intro p2 w1 hS; refine zb hS ?_; intro p3 w1 hS; refine zm ?_; refine zn ?_; refine Q0 ?_; refine Q0 ?_; refine Q1 ?_; refine zl hS ?_)
  all_goals (first | (refine Q16 ?_) | (refine Q1d ?_))
  all_goals (refine zn ?_)
  all_goals
    first
    | (refine Q5 rfl ?_ -- Q1m c0
       all_goals (refine Q1 ?_; refine zl hS ?_; refine Qo rfl ?_; refine Q2 rfl ?_; refine zl hS ?_; refine zb2 [_, _] ?_; refine zki ?_)
       all_goals fail "no law for panic")
    | (refine Q6 rfl ?_ -- Q1m c0
       all_goals refine zsk ?_)
  all_goals (refine Q0 ?_; refine Q1 ?_; refine zl hS ?_; refine Qjh ?_; refine Q1v rfl (QhJ (cx := cx) ⟨[], [_, _], rfl, rfl⟩ (by kernel_rfl) hb (rdone_ty hrec h0 (by omega) hv) hv ha hS.sp) (by rintro v9 w9 ⟨e, at3, e3, rfl, hS⟩; (repeat (first | refine Qt ?_ | refine Qu ?_ | refine fun _ => ?_)); refine Q1g ?_; refine .inr ⟨_, rfl, ?_⟩; exact ⟨e, at3, e0.trans e3, rfl, hS.sp⟩) ?_; rintro v2 w2 ⟨l, at3, c3, e3, h6, h7, hle3, hl, hS⟩; refine zm ?_; refine zn ?_; refine zr ?_; refine zf ?_; exact .inl ⟨_, rfl, l, at3, c3, e0.trans e3, by omega, by omega, hle3, hl, hS.sp⟩)
theorem Q8z {bs : List UInt8} {rb : Nat} {v : Value} (hb : bs.length ≤ 1000000) : ∀ k, TysC bs rb v k
  | 0 => Qjq
  | k + 1 => Qjr hb (Q8z hb k)
end Go.Proofs.Ytanlkfeogoganaa
namespace Go.Lir
section
variable {P : Program} {l : List GO} {Q : QT} {ρ : Env} {w : World}
end
end Go.Lir
namespace Go.Lir
section
variable {P : Program} {l : List GO} {Q : QT} {ρ : Env} {w : World}
/-- A block is from here on only read, as a list of one. -/
theorem St.freeze1 {α : Type} {r : Rep α} {c : Cx} {L : List Res} {T b : Nat} {cs : List Value} {x : α} (h : St c w (blk b T cs :: L)) (hr : r.at c cs x) : ∃ c', c.Le c' ∧ St c' w L ∧ r.sl c' (.slice (some ⟨b, 0, none⟩) 1 1) [x] := by
  have h1 : St c w (sl T r.es (.slice (some ⟨b, 0, none⟩) 1 1) [cs] :: L) := h.slOf (css := [cs]) (by simp) (by intro q hq; simp at hq; subst hq; exact r.len hr) rfl
  exact h1.freezeL (r := r) ((Rep.LR.nil r _ _).push hr) rfl (by simp)
end
end Go.Lir
namespace Go.Proofs.Ytanlkfeogoganaa
open Go.Lir
set_option maxHeartbeats 1000000
attribute [local irreducible] LC.wp Q3 Qz QJ retQ Q1A LO.wp Qh Calls
set_option linter.unusedSimpArgs false
set_option linter.unusedVariables false
attribute [local irreducible] bitI IntKind.wrap zig leb
variable {cx : Cx} {w : World} {L : List Res}
theorem long_c {l : List Int} {wb : Nat} {v v2 : Value} {css : List (List Value)} {bs : List UInt8} (hls : u8R.ls cx css bs) (hv : oneC v = true) (hl : intR.sl cx v2 l) (hb : bs.length + (Q1b l).length ≤ 60000000000000)
    (hS : St cx w (blk wb 112 [v] :: sl 5 1 v css :: L)) :
    Rets Try.prog Q2h [.pointer (some ⟨wb, 0, none⟩), v2] w fun u w' => ∃ v' css', u = .tuple #[] ∧ oneC v' = true ∧ u8R.ls cx css' (bs ++ Q1b l) ∧ St cx w' (blk wb 112 [v'] :: sl 5 1 v' css' :: L) := by
  have hlen := hl.len
  all_goals refine Q6n ?_
  all_goals (unfold codec_writer_long_lc; refine Q0 ?_; refine Q1 ?_; refine zm ?_; refine zL ?_; refine zm ?_; refine zn ?_; refine Qa ?_)
  refine zo [0, 7, 8] (fun A ρ' w' => ∃ (j : Nat) (va : Value) (ca : List (List Value)), Has ρ' A ∧ Has ρ' [(9, .int .i64 j)] ∧ (j ≤ l.length) ∧ (u8R.ls cx ca (bs ++ Q1b (l.take j))) ∧ (oneC va = true) ∧ St cx w' (blk wb 112 [va] :: sl 5 1 va ca :: L)) (fun ρ' _ => (l.length - iv (ρ' 9)).toNat) ?_ ?_
  · exact ⟨0, v, css, zh, zh, (by omega), by simpa [Q1b] using hls, by assumption, hS.sp⟩
  rintro ρ w1 ⟨j, va, ca, hA, hρ, hj, hla, hva, hS⟩; obtain ⟨ρ, rfl⟩ := env2 hA hρ
  unfold Q2G
  all_goals (refine Q0 ?_; refine Q1 ?_; refine Qs rfl rfl ?_; refine zn ?_; refine Q0 ?_)
  refine Qi rfl (fun hc => ?_) (fun hc => ?_)
  · skip
    all_goals (refine zsk ?_; refine Q0 ?_; refine Qa ?_; refine Q0 ?_; refine Q1 ?_; refine zi ?_; intro b1 o1 cs1 x1 hat1 hx1 he1; obtain rfl := Q1H he1; (first | (refine zl hS ?_) | (refine zlk hS ?_)); refine zm ?_; refine zn ?_; refine Q0 ?_; refine Q1 ?_; refine zm ?_; refine Q2D rfl ?_; refine Qjf rfl rfl (by omega) ?_; refine zm ?_; refine Qee rfl rfl (by omega) ?_; refine Q2D rfl ?_; refine QiF rfl rfl ?_; rw [show bitI .xor .u64 _ _ = zigI x1 from rfl, zig_val]; refine zm ?_; refine zn ?_; refine Q0 ?_; refine Qa ?_)
    refine zo [0, 7, 8, 9] (fun A ρ' w' => ∃ (u k : Nat) (vb : Value) (cb : List (List Value)) (acc : List UInt8), Has ρ' A ∧ Has ρ' [(6, .int .u64 (u : Int))] ∧ (u < 128 ^ (k + 1)) ∧ (k ≤ 9) ∧ (acc ++ leb (k + 1) u = bs ++ Q1b (l.take j) ++ Q15 x1) ∧ (u8R.ls cx cb acc) ∧ (oneC vb = true) ∧ St cx w' (blk wb 112 [vb] :: sl 5 1 vb cb :: L)) (fun ρ' _ => (iv (ρ' 6)).toNat) ?_ ?_
    · exact ⟨zig x1, 9, va, ca, _, zh, zh, by have := zig_lt x1; omega, (by omega), rfl, by assumption, by assumption, hS.sp⟩
    rintro ρ w1 ⟨u, k, vb, cb, acc, hA, hρ, hk, hk9, hd, hlb, hvb, hS⟩; obtain ⟨ρ, rfl⟩ := env2 hA hρ; have hal := acc_len hd hx1 hb
    unfold Q2F
    all_goals (refine Q0 ?_; refine Q0 ?_; refine Q1 ?_; refine zm ?_; refine Qfu rfl rfl ?_; refine zn ?_)
    refine Qi rfl (fun hc => ?_) (fun hc => ?_)
    · skip
      all_goals (refine zsk ?_; refine Q0 ?_; refine Qa ?_; refine Q1 ?_; refine zm ?_; refine zm ?_; refine Qo rfl ?_; refine Q2 rfl ?_; refine zl hS ?_; refine zm ?_; refine Q2D rfl ?_; refine s_or rfl rfl ?_; rw [or_byte]; refine zB1 hS [_] ?_; intro b1 w1 hS; refine za QjX u_T50 hS ?_; intro vp1 w1 css1 hls1 hv1 hS; have hS := hS.ns; refine Qo rfl ?_; refine Q2 rfl ?_; refine zst hS ?_; intro w1 hS; have hS := hS.ns; refine zn ?_; refine Q1 ?_; refine zm ?_; refine Qee rfl rfl (by decide) ?_; rw [shr_nat]; refine zm ?_; refine zn ?_; exact ⟨⟨u / 128, k - 1, _, _, _, zh, zh, leb_lt hk (by omega), (by omega), leb_step hd hk (by omega), by assumption, by assumption, hS.sp⟩, leb_meas (by omega)⟩)
    · skip
      all_goals (refine zex ?_; refine Q1 ?_; refine zm ?_; refine zm ?_; refine Qo rfl ?_; refine Q2 rfl ?_; refine zl hS ?_; refine zm ?_; refine Q2D rfl ?_; rw [low_byte (by omega)]; refine zB1 hS [_] ?_; intro b1 w1 hS; refine za QjX u_T50 hS ?_; intro vp2 w2 css2 hls2 hv2 hS; have hS := hS.ns; refine Qo rfl ?_; refine Q2 rfl ?_; refine zst hS ?_; intro w1 hS; have hS := hS.ns; refine zn ?_; refine Q1 ?_; refine zad ?_; refine zm ?_; refine zn ?_; exact ⟨⟨j + 1, _, _, zh, zh, (by omega), by rw [Q3T hx1, ← List.append_assoc, ← hd, leb_last (by omega)]; assumption, by assumption, hS.sp⟩, Qg (by omega)⟩)
  · skip
    all_goals (refine zex ?_; refine Q2o ?_; exact ⟨_, rfl, va, ca, rfl, hva, by rw [List.take_of_length_le (by omega)] at hla; exact hla, hS.sp⟩)
theorem Qj2 {l : List Int} {wb : Nat} {v v2 : Value} {bs : List UInt8} (hv : oneC v = true) (hl : intR.sl cx v2 l) (hb : bs.length + (Q1b l).length ≤ 60000000000000)
    (hS : St cx w (blk wb 112 [v] :: sl 5 1 v (bs.map Qy) :: L)) :
    Rets Try.prog Q2h [.pointer (some ⟨wb, 0, none⟩), v2] w fun u w' => ∃ v', u = .tuple #[] ∧ oneC v' = true ∧ St cx w' (blk wb 112 [v'] :: sl 5 1 v' ((bs ++ Q1b l).map Qy) :: L) :=
  (long_c (QaH bs) hv hl hb hS).mono fun u w' ⟨v', css', h1, h2, h3, h4⟩ => ⟨v', h1, h2, by rw [Rep.LR.u8 rfl h3] at h4; exact h4⟩
theorem wint_c {l : List Int} {wb : Nat} {v v2 : Value} {bs : List UInt8} (hv : oneC v = true) (hl : intR.sl cx v2 l) (hb : bs.length + (Q1b l).length ≤ 60000000000000)
    (hS : St cx w (blk wb 112 [v] :: sl 5 1 v (bs.map Qy) :: L)) :
    Rets Try.prog Q2B [.pointer (some ⟨wb, 0, none⟩), v2] w fun u w' => ∃ v', u = .tuple #[] ∧ oneC v' = true ∧ St cx w' (blk wb 112 [v'] :: sl 5 1 v' ((bs ++ Q1b l).map Qy) :: L) := by
  have hlen := hl.len
  all_goals refine Q7t ?_
  all_goals (unfold codec_writer_int_lc; refine Q0 ?_; refine Q1 ?_; refine zm ?_; refine zL ?_; refine zm ?_; refine zn ?_; refine Qa ?_)
  refine zo [0, 6, 7] (fun A ρ' w' => ∃ (j : Nat) (va : Value), Has ρ' A ∧ Has ρ' [(8, .int .i64 j)] ∧ (j ≤ l.length) ∧ (oneC va = true) ∧ St cx w' (blk wb 112 [va] :: sl 5 1 va ((bs ++ Q1b (l.take j)).map Qy) :: L)) (fun ρ' _ => (l.length - iv (ρ' 8)).toNat) ?_ ?_
  · exact ⟨0, v, zh, zh, (by omega), by assumption, by rw [List.take_zero, show Q1b [] = [] from rfl, List.append_nil]; exact hS.sp⟩
  rintro ρ w1 ⟨j, va, hA, hρ, hj, hva, hS⟩; obtain ⟨ρ, rfl⟩ := env2 hA hρ
  unfold Q2Y
  all_goals (refine Q0 ?_; refine Q1 ?_; refine Qs rfl rfl ?_; refine zn ?_; refine Q0 ?_)
  refine Qi rfl (fun hc => ?_) (fun hc => ?_)
  · skip
    all_goals (refine zsk ?_; refine Q0 ?_; refine Qa ?_; refine Q0 ?_; refine Q1 ?_; refine zi ?_; intro b1 o1 cs1 x1 hat1 hx1 he1; obtain rfl := Q1H he1; (first | (refine zl hS ?_) | (refine zlk hS ?_)); refine zm ?_; refine zn ?_; refine Q1 ?_; refine zm ?_; refine zm ?_; refine zB1 hS [_] ?_; intro b1 w1 hS; obtain ⟨c1, hle1, hS, hf9⟩ := St.freeze1 (r := intR) (x := x1) hS rfl; refine zR2 (c := Qj2 (l := [x1]) hva hf9 (room_one hx1 hb) hS) (h := ?_); rintro v1 w1 ⟨vb, rfl, hvb, hS⟩; have hS := St.weak hS hle1; refine zn ?_; refine Q1 ?_; refine zad ?_; refine zm ?_; refine zn ?_; exact ⟨⟨j + 1, vb, zh, zh, (by omega), by assumption, by rw [QiS hx1]; exact hS.sp⟩, Qg (by omega)⟩)
  · skip
    all_goals (refine zex ?_; refine Q2o ?_; refine ⟨_, rfl, va, rfl, hva, ?_⟩; rw [List.take_of_length_le (by omega)] at hS; exact hS)
/-- One number. -/
theorem Q36 {n : Int} {q wb : Nat} {T : TypeId} {v : Value} {bs : List UInt8} (hv : oneC v = true) (hb : bs.length + (Q15 n).length ≤ 60000000000000)
    (hS : St cx w (blk q T [.int .i64 n] :: blk wb 112 [v] :: sl 5 1 v (bs.map Qy) :: L)) :
    Rets Try.prog Q2B [.pointer (some ⟨wb, 0, none⟩), .slice (some ⟨q, 0, none⟩) 1 1] w fun u w' => ∃ v', u = .tuple #[] ∧ oneC v' = true ∧ St cx w' (blk wb 112 [v'] :: sl 5 1 v' ((bs ++ Q15 n).map Qy) :: L) := by
  obtain ⟨c1, hle1, hS, hf9⟩ := St.freeze1 (r := intR) (x := n) hS rfl
  refine (wint_c (l := [n]) hv hf9 (by rw [Q2O]; exact hb) hS).mono ?_
  rintro u w' ⟨v', h1, h2, h3⟩
  rw [Q2O] at h3
  exact ⟨v', h1, h2, St.weak h3 hle1⟩
theorem Qce {l : List Int} {wb : Nat} {v v2 : Value} {bs : List UInt8} (hv : oneC v = true) (hl : intR.sl cx v2 l) (hb : bs.length + (Q9y l).length ≤ 60000000000000)
    (hS : St cx w (blk wb 112 [v] :: sl 5 1 v (bs.map Qy) :: L)) :
    Rets Try.prog Q3w [.pointer (some ⟨wb, 0, none⟩), v2] w fun u w' => ∃ v', u = .tuple #[] ∧ oneC v' = true ∧ St cx w' (blk wb 112 [v'] :: sl 5 1 v' ((bs ++ Q9y l).map Qy) :: L) := by
  unfold Q9y at hb ⊢
  rw [List.length_append] at hb
  rw [← List.append_assoc]
  all_goals refine Q6q ?_
  all_goals (unfold codec_writer_ints_lc; refine Q0 ?_; refine Q1 ?_; refine zm ?_; refine zm ?_; refine zL ?_; refine zB1 hS [_] ?_; intro b1 w1 hS; refine zR2 (c := Q36 (n := l.length) hv (by omega) hS) (h := ?_); rintro v1 w1 ⟨va, rfl, hva, hS⟩; refine zn ?_; refine Q1 ?_; refine zm ?_; refine zm ?_; refine zR2 (c := wint_c hva hl (by rw [List.length_append]; omega) hS) (h := ?_); rintro v1 w1 ⟨vb, rfl, hvb, hS⟩; refine zn ?_; refine Q2o ?_; exact ⟨_, rfl, vb, rfl, hvb, hS⟩)
theorem wto_c {x : To} {wb : Nat} {v : Value} {cs : List Value} {bs : List UInt8} (hv : oneC v = true) (hx : toR.at cx cs x) (hb : bs.length + x.bts.length ≤ 60000000000000)
    (hS : St cx w (blk wb 112 [v] :: sl 5 1 v (bs.map Qy) :: L)) :
    Rets Try.prog Q5n [.pointer (some ⟨wb, 0, none⟩), .agg ⟨cs⟩] w fun u w' => ∃ v', u = .tuple #[] ∧ oneC v' = true ∧ St cx w' (blk wb 112 [v'] :: sl 5 1 v' ((bs ++ x.bts).map Qy) :: L) := by
  obtain ⟨vr, va, rfl, hr, ha⟩ := Q7g hx
  obtain ⟨ar, lr, rfl⟩ := Rep.SR.shape hr
  obtain ⟨aa, la, rfl⟩ := Rep.SR.shape ha
  unfold To.bts at hb ⊢
  rw [List.length_append, List.length_append] at hb
  rw [← List.append_assoc, ← List.append_assoc]
  all_goals refine Q8Q ?_
  all_goals (unfold codec_writer_to_lc; refine Q0 ?_; refine Q1 ?_; refine zb hS ?_; intro p3 w1 hS; refine zn ?_; refine Q0 ?_; refine Q1 ?_; refine zm ?_; refine Q2 rfl ?_; refine zl hS ?_; refine zB1 hS [_] ?_; intro b1 w1 hS; have hS : St cx _ (blk _ 3 [.int .i64 x.block] :: blk wb 112 [v] :: sl 5 1 v (bs.map Qy) :: blk p3 33 _ :: L) := hS.sp; refine zR2 (c := Q36 (n := x.block) hv (by omega) hS) (h := ?_); rintro v1 w1 ⟨v3, rfl, hv3, hS⟩; refine zn ?_; refine Q0 ?_; refine Q1 ?_; refine zm ?_; refine Q2 rfl ?_; refine zl hS ?_; refine zR2 (c := Qce hv3 hr (by rw [List.length_append]; omega) hS) (h := ?_); rintro v1 w1 ⟨v4, rfl, hv4, hS⟩; refine zn ?_; refine Q1 ?_; refine zm ?_; refine Q2 rfl ?_; refine zl hS ?_; refine zR2 (c := Qce hv4 ha (by rw [List.length_append, List.length_append]; omega) hS) (h := ?_); rintro v1 w1 ⟨v5, rfl, hv5, hS⟩; refine zn ?_; refine Q2o ?_; exact ⟨_, rfl, v5, rfl, hv5, hS.sp⟩)
theorem QgD {l : List Ty} (ih : ∀ x ∈ l, ∀ {cx : Cx} {w : World} {L : List Res} {wb : Nat} {v v2 : Value} {bs : List UInt8}, oneC v = true → tyR.sl cx v2 x.l → bs.length + (tysB x.l).length ≤ 60000000000000 → St cx w (blk wb 112 [v] :: sl 5 1 v (bs.map Qy) :: L) →
      Rets Try.prog Qr [.pointer (some ⟨wb, 0, none⟩), v2] w fun u w' => ∃ v', u = .tuple #[] ∧ oneC v' = true ∧ St cx w' (blk wb 112 [v'] :: sl 5 1 v' ((bs ++ tysB x.l).map Qy) :: L))
    {wb : Nat} {v v2 : Value} {bs : List UInt8} (hv : oneC v = true) (hl : tyR.sl cx v2 l) (hb : bs.length + (tysB l).length ≤ 60000000000000) (hS : St cx w (blk wb 112 [v] :: sl 5 1 v (bs.map Qy) :: L)) :
    Rets Try.prog Qr [.pointer (some ⟨wb, 0, none⟩), v2] w fun u w' => ∃ v', u = .tuple #[] ∧ oneC v' = true ∧ St cx w' (blk wb 112 [v'] :: sl 5 1 v' ((bs ++ tysB l).map Qy) :: L) := by
  have hlen := hl.len
  unfold tysB at hb ⊢
  rw [List.length_append] at hb
  rw [← List.append_assoc]
  all_goals refine Q5m ?_
  all_goals (unfold codec_writer_types_lc; refine Q0 ?_; refine Q1 ?_; refine zm ?_; refine zm ?_; refine zL ?_; refine zB1 hS [_] ?_; intro b1 w1 hS; refine zR2 (c := Q36 (n := l.length) hv (by omega) hS) (h := ?_); rintro v1 w1 ⟨v3, rfl, hv3, hS⟩; refine zn ?_; refine Q0 ?_; refine Q1 ?_; refine zm ?_; refine zL ?_; refine zm ?_; refine zn ?_; refine Qa ?_)
  refine zo [0, 11, 12] (fun A ρ' w' => ∃ (j : Nat) (va : Value), Has ρ' A ∧ Has ρ' [(13, .int .i64 j)] ∧ (j ≤ l.length) ∧ (oneC va = true) ∧ St cx w' (blk wb 112 [va] :: sl 5 1 va ((bs ++ Q15 l.length ++ Tys.bts (l.take j)).map Qy) :: L)) (fun ρ' _ => (l.length - iv (ρ' 13)).toNat) ?_ ?_
  · exact ⟨0, v3, zh, zh, (by omega), by assumption, by rw [List.take_zero, show Tys.bts [] = [] from by rw [Tys.bts], List.append_nil]; exact hS.sp⟩
  rintro ρ w1 ⟨j, va, hA, hρ, hj, hva, hS⟩; obtain ⟨ρ, rfl⟩ := env2 hA hρ
  unfold Q2t
  all_goals (refine Q0 ?_; refine Q1 ?_; refine Qs rfl rfl ?_; refine zn ?_; refine Q0 ?_)
  refine Qi rfl (fun hc => ?_) (fun hc => ?_)
  · skip
    all_goals (refine zsk ?_; refine Q0 ?_; refine Qa ?_; refine Q0 ?_; refine Q1 ?_; refine zi ?_; intro b1 o1 cs1 x1 hat1 hx1 he1; obtain ⟨vl1, rfl, hl1⟩ := Q1l he1; (first | (refine zv hS ?_) | (refine zvk hS ?_)); refine Qb hS ?_; intro p5 w1 hS; refine zsn hS ?_; intro w1 hS; have hS := hS.ns; refine zn ?_; have hroom := Tys.bts_room hx1; have hbm := congrArg List.length (Ty.bts_mk x1); obtain ⟨acc, hacc⟩ : ∃ acc, bs ++ Q15 l.length ++ Tys.bts (l.take j) = acc := ⟨_, rfl⟩; have hal := congrArg List.length hacc; rw [hacc] at hS; simp only [List.length_append] at hal hbm; obtain ⟨ax, nx, rfl⟩ := Rep.SR.shape hl1; refine Q0 ?_; refine Q1 ?_; refine zm ?_; refine Q2 rfl ?_; refine zl hS ?_; refine zB1 hS [_] ?_; intro b1 w1 hS; have hS : St cx _ (blk _ 3 [.int .i64 x1.kind] :: blk wb 112 [va] :: sl 5 1 va (acc.map Qy) :: blk p5 65 [.int .i64 x1.kind, .int .i64 x1.r, .slice ax x1.l.length nx] :: L) := hS.sp; refine zR2 (c := Q36 (n := x1.kind) hva (by omega) hS) (h := ?_); rintro v1 w1 ⟨v4, rfl, hv4, hS⟩; refine zn ?_)
    refine zM [0, 5, 11, 12, 13] (fun A ρ' w' => ∃ (vc : Value), Has ρ' A ∧ Has ρ' [] ∧ (oneC vc = true) ∧ St cx w' (blk wb 112 [vc] :: sl 5 1 vc ((acc ++ Q15 x1.kind ++ (if x1.kind ≠ 1 then Q15 x1.r else [])).map Qy) :: blk p5 65 [.int .i64 x1.kind, .int .i64 x1.r, .slice ax x1.l.length nx] :: L)) ?_ ?_
    · skip
      all_goals (refine Q0 ?_; refine Q1 ?_; refine Q2 rfl ?_; refine zl hS ?_)
      all_goals (first | (refine Q1D ?_) | (refine Q1E ?_) | (refine QA rfl rfl (fun hc => ?_) (fun hc => ?_)))
      all_goals (refine zn ?_)
      all_goals
        first
        | (refine Q5 rfl ?_ -- Qr c1
           all_goals (refine Q1 ?_; refine zm ?_; refine Q2 rfl ?_; refine zl hS ?_; refine zB1 hS [_] ?_; intro b1 w1 hS; rw [if_pos (by omega)] at hbm; have hS : St cx _ (blk _ 3 [.int .i64 x1.r] :: blk wb 112 [v4] :: sl 5 1 v4 ((acc ++ Q15 x1.kind).map Qy) :: blk p5 65 [.int .i64 x1.kind, .int .i64 x1.r, .slice ax x1.l.length nx] :: L) := hS.sp; refine zR2 (c := Q36 (n := x1.r) hv4 (by rw [List.length_append]; omega) hS) (h := ?_); rintro v1 w1 ⟨v5, rfl, hv5, hS⟩)
           all_goals refine zn ?_)
        | (refine Q6 rfl ?_ -- Qr c1
           all_goals refine zsk ?_)
      all_goals ((first | (exact ⟨_, zh, zh, by assumption, by rw [if_pos (by omega)]; exact hS.sp⟩) | (exact ⟨_, zh, zh, by assumption, by rw [if_neg (by omega), List.append_nil]; exact hS.sp⟩)))
    rintro ρ w1 ⟨vc, hA, hρ, hvc, hS⟩; obtain ⟨ρ, rfl⟩ := env2 hA hρ
    all_goals (refine Q0 ?_; refine Q1 ?_; refine Q2 rfl ?_; refine zl hS ?_)
    all_goals (first | (refine QO ?_) | (refine Q1e ?_) | (refine Qf rfl rfl (fun hc => ?_) (fun hc => ?_)))
    all_goals (refine zn ?_)
    all_goals
      first
      | (refine Q5 rfl ?_ -- Qr c2
         all_goals (refine Q1 ?_; refine zm ?_; refine Q2 rfl ?_; refine zl hS ?_; rw [if_pos (show x1.kind = 3 by omega)] at hbm; refine zR2 (c := ih x1 (List.mem_of_getElem? hx1) hvc hl1 (by simp only [List.length_append]; omega) hS) (h := ?_); rintro v1 w1 ⟨v6, rfl, hv6, hS⟩)
         all_goals refine zn ?_)
      | (refine Q6 rfl ?_ -- Qr c2
         all_goals refine zsk ?_)
    all_goals (refine Q1 ?_; refine zad ?_; refine zm ?_; refine zn ?_; (first | (exact ⟨⟨j + 1, _, zh, zh, (by omega), by assumption, by rw [Tys.bts_snoc hx1, ← List.append_assoc, hacc, Ty.bts_mk, if_pos (show x1.kind = 3 by omega), ← List.append_assoc, ← List.append_assoc]; exact hS.sp⟩, Qg (by omega)⟩) | (exact ⟨⟨j + 1, _, zh, zh, (by omega), by assumption, by rw [Tys.bts_snoc hx1, ← List.append_assoc, hacc, Ty.bts_mk, if_neg (show ¬ x1.kind = 3 by omega), List.append_nil, ← List.append_assoc]; exact hS.sp⟩, Qg (by omega)⟩)))
  · skip
    all_goals (refine zex ?_; refine Q2o ?_; refine ⟨_, rfl, va, rfl, hva, ?_⟩; rw [List.take_of_length_le (by omega)] at hS; exact hS)
theorem wtys_c : ∀ (t : Ty) {cx : Cx} {w : World} {L : List Res} {wb : Nat} {v v2 : Value} {bs : List UInt8}, oneC v = true → tyR.sl cx v2 t.l → bs.length + (tysB t.l).length ≤ 60000000000000 → St cx w (blk wb 112 [v] :: sl 5 1 v (bs.map Qy) :: L) →
      Rets Try.prog Qr [.pointer (some ⟨wb, 0, none⟩), v2] w fun u w' => ∃ v', u = .tuple #[] ∧ oneC v' = true ∧ St cx w' (blk wb 112 [v'] :: sl 5 1 v' ((bs ++ tysB t.l).map Qy) :: L) := by
  intro t
  induction t using Ty.ind with
  | h k r l ih => intro cx w L wb v v2 bs hv hl hb hS; exact QgD (fun x hx => ih x hx) hv hl hb hS
theorem Qfb {l : List Ty} {wb : Nat} {v v2 : Value} {bs : List UInt8} (hv : oneC v = true) (hl : tyR.sl cx v2 l) (hb : bs.length + (tysB l).length ≤ 60000000000000) (hS : St cx w (blk wb 112 [v] :: sl 5 1 v (bs.map Qy) :: L)) :
    Rets Try.prog Qr [.pointer (some ⟨wb, 0, none⟩), v2] w fun u w' => ∃ v', u = .tuple #[] ∧ oneC v' = true ∧ St cx w' (blk wb 112 [v'] :: sl 5 1 v' ((bs ++ tysB l).map Qy) :: L) := QgD (fun x _ => wtys_c x) hv hl hb hS
theorem QgE {op : Int} (hS : St cx w L) : Rets Try.prog Q3b [.int .i64 op] w fun u w' => u = .int .i64 (Qv op : Int) ∧ St cx w' L := by
  all_goals refine QcW ?_
  all_goals (unfold codec_fields_lc; refine Q0 ?_; refine Q1 ?_; refine zm ?_; refine zn ?_; refine Q0 ?_; refine Q0 ?_; refine Q1 ?_; refine zm ?_)
  all_goals (first | (refine Q2w ?_) | (refine Q2x ?_) | (refine Q1a rfl rfl (fun hc => ?_) (fun hc => ?_)))
  all_goals (refine zm ?_; (first | refine s_gn rfl rfl ?_ | (refine s_gy rfl ?_; refine zm ?_)))
  all_goals (first | refine s_gn rfl rfl ?_ | (refine s_gy rfl ?_; (first | (refine Q16 ?_) | (refine Q1d ?_) | (refine Qe rfl rfl (fun hc => ?_) (fun hc => ?_)))))
  all_goals ((first | (refine zpt ?_) | (refine zpf ?_)); refine zn ?_)
  all_goals
    first
    | (refine Q5 rfl ?_ -- Q3b c0
       all_goals (refine Q0 ?_; refine Q1 ?_; refine zm ?_; refine zn ?_; refine zr ?_; refine zf ?_)
       all_goals (refine ⟨_, rfl, ?_, hS.sp⟩; unfold Qv; rw [if_pos (by omega)]; rfl; done))
    | (refine Q6 rfl ?_ -- Q3b c0
       all_goals refine zsk ?_)
  all_goals (refine Q0 ?_; refine Q1 ?_; refine QgL (cs := [_, _, _, _, _, _, _, _, _, _, _, _, _, _, _]) vw vw vw vw vw vw vw vw vw vw vw vw vw vw vw (by rfl) ?_; refine zm ?_; refine s_idxv (n := 15) (e := 3) (by kernel_rfl) (by kernel_rfl) (by kernel_rfl) rfl rfl (by omega) (by omega) (QhW (by omega) (by omega)) ?_; refine zm ?_; refine zn ?_; refine zr ?_; refine zf ?_; (first | (refine ⟨_, rfl, ?_, hS.sp⟩; unfold Qv; rw [if_pos (by omega)]; rfl; done) | (refine ⟨_, rfl, ?_, hS.sp⟩; (rfl); done)))
end Go.Proofs.Ytanlkfeogoganaa
namespace Go.Proofs.Ytanlkfeogoganaa
open Go.Lir
set_option maxHeartbeats 1000000
attribute [local irreducible] LC.wp Q3 Qz QJ retQ Q1A LO.wp Qh Calls
set_option linter.unusedSimpArgs false
set_option linter.unusedVariables false
attribute [local irreducible] bitI IntKind.wrap Q3N rdLong rdMany QF mmap Q2n Qv Q6d
variable {cx : Cx} {w : World} {L : List Res}
theorem rdins_c {bs : List UInt8} {rb at0 : Nat} {v : Value} (hb : bs.length ≤ 1000000) (hv : u8R.sl cx v bs) (ha : at0 ≤ bs.length) (hS : St cx w (blk rb 120 [v, .int .i64 at0] :: L)) :
    Fins Try.prog Qp [.pointer (some ⟨rb, 0, none⟩)] w (OkA insR aggV (Q6d bs.length (bs.drop at0)) bs rb v at0 cx L) (Bad (Q6d bs.length (bs.drop at0)) rb v cx L) := by
  have hle := St.refl hS
  have hnil : intR.sl cx vn [] := Rep.SR.nil _ _ _
  unfold Fins
  all_goals refine Q84 ?_
  all_goals (unfold codec_reader_ins_lc; refine Q0 ?_; refine Q1 ?_; refine Qb hS ?_; intro p2 w1 hS; refine zn ?_; refine Q0 ?_; refine Q1 ?_; refine zm ?_; refine zE1 (c := Q3p hv ha hS.sp) (p := by rintro v9 w9 ⟨e, at1, h1, rfl, hS⟩; (repeat (first | refine Qt ?_ | refine Qu ?_ | refine fun _ => ?_)); refine Q1g ?_; refine .inr ⟨_, rfl, ?_⟩; exact ⟨e, at1, rdIns_e h1, rfl, hS.sp⟩) (h := ?_); rintro v1 w1 ⟨n, at1, h1, h2, h3, rfl, hS⟩; refine zb1 [_, _, _, _, _, _, _, _] ?_; refine Qb hS ?_; intro p3 w1 hS; refine zsn hS ?_; intro w1 hS; have hS := hS.ns; refine zn ?_; refine Q0 ?_; refine Q1 ?_; refine Q2 rfl ?_; refine zl hS ?_; obtain ⟨h, hh⟩ : ∃ h, Qv n = h := ⟨_, rfl⟩; have hlt := Qf6 n; rw [hh] at hlt; refine zR1 (c := QgE hS) (h := ?_); rintro v1 w1 ⟨rfl, hS⟩; rw [hh]; refine zm ?_; refine zn ?_; refine Q0 ?_; refine Q0 ?_; refine Q1 ?_; refine Q2 rfl ?_; refine Q2 rfl ?_; refine Q2 rfl ?_; refine Q2 rfl ?_; refine zB4 hS [_, _, _, _] ?_; intro b1 w1 hS; (first | (refine zL ?_) | (refine zLe hS ?_) | (refine zLk ?_) | (refine s_len rfl ?_)); refine zm ?_; refine zn ?_; refine Qa ?_)
  refine zo [0, 2, 3, 4, 17, 18] (fun A ρ' w' => ∃ (j : Nat) (a b c k : Int) (at2 : Nat), Has ρ' A ∧ Has ρ' [(19, .int .i64 j)] ∧ (j ≤ 4) ∧ (at1 ≤ at2) ∧ (at2 ≤ bs.length) ∧ (Q1Z bs.length h 4 0 (0, 0, 0, 0) (bs.drop at1) = Q1Z bs.length h (4 - j) j (a, b, c, k) (bs.drop at2)) ∧ St cx w' (blk rb 120 [v, .int .i64 at2] :: blk b1 167 [.pointer (some ⟨p3, 1, none⟩), .pointer (some ⟨p3, 2, none⟩), .pointer (some ⟨p3, 3, none⟩), .pointer (some ⟨p3, 4, none⟩)] :: blk p3 27 [.int .i64 n, .int .i64 a, .int .i64 b, .int .i64 c, .int .i64 k, vi 0, vn, vn] :: blk p2 27 [vi 0, vi 0, vi 0, vi 0, vi 0, vi 0, vn, vn] :: L)) (fun ρ' _ => (4 - iv (ρ' 19)).toNat) ?_ ?_
  · exact ⟨0, 0, 0, 0, 0, at1, zh, zh, by omega, by omega, by omega, rfl, hS.sp⟩
  rintro ρ w1 ⟨j, a, b, c, k, at2, hA, hρ, hj, h4, h5, hd, hS⟩; obtain ⟨ρ, rfl⟩ := env2 hA hρ
  unfold Q30
  all_goals (refine Q0 ?_; refine Q1 ?_; refine Qs rfl rfl ?_; refine zn ?_; refine Q0 ?_)
  refine Qi rfl (fun hc => ?_) (fun hc => ?_)
  · skip
    all_goals (refine zsk ?_; refine Q0 ?_; refine Qa ?_; refine Q0 ?_)
    all_goals (rcases (show j = 0 ∨ j = 1 ∨ j = 2 ∨ j = 3 by omega) with rfl | rfl | rfl | rfl)
    all_goals (refine Q1 ?_; refine zm ?_; refine s_idx rfl rfl (by omega) (by omega) ?_; refine zl hS ?_; refine zm ?_; refine zm ?_; refine zn ?_; refine Q0 ?_; refine Q1 ?_; refine zm ?_; refine zm ?_; refine Qee rfl rfl (by omega) ?_; refine Q9q rfl rfl ?_; rw [bit_at hlt (by omega)])
    all_goals (first | (refine QO ?_) | (refine Q1e ?_) | (refine Qf rfl rfl (fun hc => ?_) (fun hc => ?_)))
    all_goals (refine zn ?_)
    all_goals
      first
      | (refine Q5 rfl ?_ -- Qp c1
         all_goals (refine Q1 ?_; refine zm ?_; refine zm ?_; refine Q1v rfl (Q3p hv h5 hS.sp) (by rintro v9 w9 ⟨e, at3, e3, rfl, hS⟩; (repeat (first | refine Qt ?_ | refine Qu ?_ | refine fun _ => ?_)); refine Q1g ?_; refine .inr ⟨_, rfl, ?_⟩; exact ⟨e, at3, rdIns_re h1 hh (rdRegs_e hd (by omega) (by omega) e3), rfl, hS.sp⟩) ?_; rintro v2 w2 ⟨y, at3, e3, h6, h7, rfl, hS⟩; refine Qo rfl ?_; refine zst hS ?_; intro w1 hS; have hS := hS.ns)
         all_goals refine zn ?_)
      | (refine Q6 rfl ?_ -- Qp c1
         all_goals refine zsk ?_)
    all_goals (refine Q1 ?_; refine zad ?_; refine zm ?_; refine zn ?_; (first | (exact ⟨⟨1, y, b, c, k, at3, zh, zh, by omega, by omega, by omega, Qc4 hd (by omega) (by omega) e3, hS.sp⟩, Qg (by omega)⟩) | (exact ⟨⟨2, a, y, c, k, at3, zh, zh, by omega, by omega, by omega, Qc4 hd (by omega) (by omega) e3, hS.sp⟩, Qg (by omega)⟩) | (exact ⟨⟨3, a, b, y, k, at3, zh, zh, by omega, by omega, by omega, Qc4 hd (by omega) (by omega) e3, hS.sp⟩, Qg (by omega)⟩) | (exact ⟨⟨4, a, b, c, y, at3, zh, zh, by omega, by omega, by omega, Qc4 hd (by omega) (by omega) e3, hS.sp⟩, Qg (by omega)⟩) | (exact ⟨⟨1, a, b, c, k, at2, zh, zh, by omega, by omega, by omega, Qc5 (j := 0) hd (by omega) (by omega), hS.sp⟩, Qg (by omega)⟩) | (exact ⟨⟨2, a, b, c, k, at2, zh, zh, by omega, by omega, by omega, Qc5 (j := 1) hd (by omega) (by omega), hS.sp⟩, Qg (by omega)⟩) | (exact ⟨⟨3, a, b, c, k, at2, zh, zh, by omega, by omega, by omega, Qc5 (j := 2) hd (by omega) (by omega), hS.sp⟩, Qg (by omega)⟩) | (exact ⟨⟨4, a, b, c, k, at2, zh, zh, by omega, by omega, by omega, Qc5 (j := 3) hd (by omega) (by omega), hS.sp⟩, Qg (by omega)⟩)))
  · skip
    all_goals (refine zex ?_; have hI := rdIns_t h1 hh hd (by omega))
    refine zM [0, 2, 3, 4] (fun A ρ' w' => ∃ (m : Int) (at3 : Nat), Has ρ' A ∧ Has ρ' [] ∧ (rdIf (h / 64 % 2 = 1) 0 (rdLong bs.length) (bs.drop at2) = .ok (m, bs.drop at3)) ∧ (at2 ≤ at3) ∧ (at3 ≤ bs.length) ∧ St cx w' (blk rb 120 [v, .int .i64 at3] :: blk p3 27 [.int .i64 n, .int .i64 a, .int .i64 b, .int .i64 c, .int .i64 k, .int .i64 m, vn, vn] :: blk p2 27 [vi 0, vi 0, vi 0, vi 0, vi 0, vi 0, vn, vn] :: L)) ?_ ?_
    · skip
      all_goals (refine Q0 ?_; refine Q1 ?_; refine zm ?_; refine Q9q rfl rfl ?_; rw [and64 hlt])
      all_goals (first | (refine Q1D ?_) | (refine Q1E ?_) | (refine QA rfl rfl (fun hc => ?_) (fun hc => ?_)))
      all_goals (refine zn ?_)
      all_goals
        first
        | (refine Q5 rfl ?_ -- Qp c2
           all_goals (refine Q1 ?_; refine zm ?_; refine Q1v rfl (Q3R hv h5 hS.sp) (by rintro v9 w9 ⟨e, at3, e3, rfl, hS⟩; (repeat (first | refine Qt ?_ | refine Qu ?_ | refine fun _ => ?_)); refine Q1g ?_; refine .inr ⟨_, rfl, ?_⟩; exact ⟨e, at3, hI.trans (by simp only [Q57, Qj, Q78 (show h / 64 % 2 = 1 by omega), e3]), rfl, hS.sp⟩) ?_; rintro v2 w2 ⟨m, at3, e3, h6, h7, rfl, hS⟩; refine Q2 rfl ?_; refine zst hS ?_; intro w1 hS; have hS := hS.ns)
           all_goals refine zn ?_)
        | (refine Q6 rfl ?_ -- Qp c2
           all_goals refine zsk ?_)
      all_goals ((first | (exact ⟨m, at3, zh, zh, by rw [Q78 (show h / 64 % 2 = 1 by omega)]; exact e3, by omega, by omega, hS.sp⟩) | (exact ⟨0, at2, zh, zh, by rw [QgU (show ¬ h / 64 % 2 = 1 by omega)], by omega, by omega, hS.sp⟩)))
    rintro ρ w1 ⟨m, at3, hA, hρ, hm, h6, h7, hS⟩; obtain ⟨ρ, rfl⟩ := env2 hA hρ
    refine zM [0, 2, 3, 4] (fun A ρ' w' => ∃ (vr : Value) (l1 : List Int) (at4 : Nat) (c4 : Cx), Has ρ' A ∧ Has ρ' [] ∧ (rdIf (h / 16 % 2 = 1) [] (Q2n bs.length) (bs.drop at3) = .ok (l1, bs.drop at4)) ∧ (at3 ≤ at4) ∧ (at4 ≤ bs.length) ∧ (cx.Le c4) ∧ (intR.sl c4 vr l1) ∧ (oneC vr = true) ∧ St c4 w' (blk rb 120 [v, .int .i64 at4] :: blk p3 27 [.int .i64 n, .int .i64 a, .int .i64 b, .int .i64 c, .int .i64 k, .int .i64 m, vr, vn] :: blk p2 27 [vi 0, vi 0, vi 0, vi 0, vi 0, vi 0, vn, vn] :: L)) ?_ ?_
    · skip
      all_goals (refine Q0 ?_; refine Q1 ?_; refine zm ?_; refine Q9q rfl rfl ?_; rw [and16 hlt])
      all_goals (first | (refine Q1D ?_) | (refine Q1E ?_) | (refine QA rfl rfl (fun hc => ?_) (fun hc => ?_)))
      all_goals (refine zn ?_)
      all_goals
        first
        | (refine Q5 rfl ?_ -- Qp c3
           all_goals (refine Q1 ?_; refine zm ?_; refine Q1v rfl (Q8A hb hv h7 hS.sp) (by rintro v9 w9 ⟨e, at4, e4, rfl, hS⟩; (repeat (first | refine Qt ?_ | refine Qu ?_ | refine fun _ => ?_)); refine Q1g ?_; refine .inr ⟨_, rfl, ?_⟩; exact ⟨e, at4, hI.trans (by simp only [Q57, Qj, hm, Q78 (show h / 16 % 2 = 1 by omega), e4]), rfl, hS.sp⟩) ?_; rintro vr w2 ⟨l1, at4, c4, e4, h8, h9, hle4, hl1, hS⟩; have ho1 := Rep.SR.oneC hl1; refine Q2 rfl ?_; refine zst hS ?_; intro w1 hS; have hS := hS.ns)
           all_goals refine zn ?_)
        | (refine Q6 rfl ?_ -- Qp c3
           all_goals refine zsk ?_)
      all_goals ((first | (exact ⟨vr, l1, at4, c4, zh, zh, by rw [Q78 (show h / 16 % 2 = 1 by omega)]; exact e4, by omega, by omega, hle4, hl1, ho1, hS.sp⟩) | (exact ⟨vn, [], at3, cx, zh, zh, by rw [QgU (show ¬ h / 16 % 2 = 1 by omega)], by omega, by omega, hle, hnil, rfl, hS.sp⟩)))
    rintro ρ w1 ⟨vr, l1, at4, c4, hA, hρ, hr, h8, h9, hle4, hl1, ho1, hS⟩; obtain ⟨ρ, rfl⟩ := env2 hA hρ
    all_goals (refine Q0 ?_; refine Q0 ?_; refine Q1 ?_; refine zm ?_; refine Q9q rfl rfl ?_; rw [and32 hlt])
    all_goals (first | (refine Q1D ?_) | (refine Q1E ?_) | (refine QA rfl rfl (fun hc => ?_) (fun hc => ?_)))
    all_goals (refine zn ?_)
    all_goals
      first
      | (refine Q5 rfl ?_ -- Qp c4
         all_goals (refine Q1 ?_; refine zm ?_; refine Q1v rfl (Q8A hb (Rep.SR.up hv hle4) h9 hS.sp) (by rintro v9 w9 ⟨e, at5, e5, rfl, hS⟩; (repeat (first | refine Qt ?_ | refine Qu ?_ | refine fun _ => ?_)); refine Q1g ?_; refine .inr ⟨_, rfl, ?_⟩; exact ⟨e, at5, hI.trans (by simp only [Q57, Qj, hm, hr, Q78 (show h / 32 % 2 = 1 by omega), e5]), rfl, St.weak hS.sp hle4⟩) ?_; rintro va w2 ⟨l2, at5, c5, e5, h10, h11, hle5, hl2, hS⟩; have ho2 := Rep.SR.oneC hl2; refine Q2 rfl ?_; refine zst hS ?_; intro w1 hS; have hS := hS.ns)
         all_goals refine zn ?_)
      | (refine Q6 rfl ?_ -- Qp c4
         all_goals refine zsk ?_)
    all_goals (refine Q0 ?_; (first | (have hd9 : insR.at c5 [.int .i64 n, .int .i64 a, .int .i64 b, .int .i64 c, .int .i64 k, .int .i64 m, vr, va] ⟨n, a, b, c, k, m, l1, l2⟩ := ⟨_, _, rfl, Rep.SR.up hl1 hle5, hl2⟩; have he9 := hI.trans (by simp only [Q57, Qj, hm, hr, Q78 (show h / 32 % 2 = 1 by omega), e5] : _ = Except.ok (⟨n, a, b, c, k, m, l1, l2⟩, bs.drop at5)); have hle9 := hle4.trans hle5) | (have hd9 : insR.at c4 [.int .i64 n, .int .i64 a, .int .i64 b, .int .i64 c, .int .i64 k, .int .i64 m, vr, vn] ⟨n, a, b, c, k, m, l1, []⟩ := ⟨_, _, rfl, hl1, Rep.SR.up hnil hle4⟩; have he9 := hI.trans (by simp only [Q57, Qj, hm, hr, QgU (show ¬ h / 32 % 2 = 1 by omega)] : _ = Except.ok (⟨n, a, b, c, k, m, l1, []⟩, bs.drop at4)); have hle9 := hle4)); refine Q1 ?_; refine zv hS ?_; refine zsn hS ?_; intro w1 hS; have hS := hS.ns; refine zn ?_; refine zr ?_; refine QaK vw (Ql (n := 8) (by kernel_rfl) (by kernel_rfl) (hS.blkAt fd) (by rfl) (by rfl)) ?_; (first | exact .inl ⟨_, rfl, _, at5, c5, _, he9, by omega, by omega, hle9, hd9, rfl, hS.sp⟩ | exact .inl ⟨_, rfl, _, at4, c4, _, he9, by omega, by omega, hle9, hd9, rfl, hS.sp⟩))
end Go.Proofs.Ytanlkfeogoganaa
namespace Go.Proofs.Ytanlkfeogoganaa
open Go.Lir
set_option maxHeartbeats 1000000
attribute [local irreducible] LC.wp Q3 Qz QJ retQ Q1A LO.wp Qh Calls
set_option linter.unusedSimpArgs false
set_option linter.unusedVariables false
attribute [local irreducible] bitI IntKind.wrap Q3N rdLong rdMany QF mmap Q2n Qv Q6d Q2b QP Q1o Q3q
variable {cx : Cx} {w : World} {L : List Res}
section
attribute [local semireducible] Q1o Q3q
theorem QjA {N : Nat} {r : List UInt8} {e : Flt} (h : rdLong N r = .error e) : Q1o N r = .error e := by simp only [Q1o, Qj, h]
theorem QjD {N : Nat} {r r1 : List UInt8} {n : Int} {e : Flt} (h : rdLong N r = .ok (n, r1)) (h1 : QP N 6 r1 = .error e) : Q1o N r = .error e := by simp only [Q1o, Qj, h, h1]
theorem QjC {N : Nat} {r r1 r2 : List UInt8} {n : Int} {ps : List Ty} {e : Flt} (h : rdLong N r = .ok (n, r1)) (h1 : QP N 6 r1 = .ok (ps, r2)) (h2 : QF N (Q6d N) r2 = .error e) : Q1o N r = .error e := by simp only [Q1o, Qj, h, h1, h2]
theorem QjB {N : Nat} {r r1 r2 r3 : List UInt8} {n : Int} {ps : List Ty} {c : List Ins} {e : Flt} (h : rdLong N r = .ok (n, r1)) (h1 : QP N 6 r1 = .ok (ps, r2)) (h2 : QF N (Q6d N) r2 = .ok (c, r3)) (h3 : Q2b N r3 = .error e) : Q1o N r = .error e := by simp only [Q1o, Qj, h, h1, h2, h3]
theorem Qjz {N : Nat} {r r1 r2 r3 r4 : List UInt8} {n : Int} {ps : List Ty} {c : List Ins} {t : Tail} (h : rdLong N r = .ok (n, r1)) (h1 : QP N 6 r1 = .ok (ps, r2)) (h2 : QF N (Q6d N) r2 = .ok (c, r3)) (h3 : Q2b N r3 = .ok (t, r4)) : Q1o N r = .ok (⟨n, ps, c, t⟩, r4) := by simp only [Q1o, Qj, h, h1, h2, h3]
theorem rdFun_e {N : Nat} {r : List UInt8} {e : Flt} (h : rdLong N r = .error e) : Q3q N r = .error e := by simp only [Q3q, Qj, h]
theorem rdFun_1 {N : Nat} {r r1 : List UInt8} {n : Int} {e : Flt} (h : rdLong N r = .ok (n, r1)) (h1 : QP N 6 r1 = .error e) : Q3q N r = .error e := by simp only [Q3q, Qj, h, h1]
theorem rdFun_2 {N : Nat} {r r1 r2 : List UInt8} {n : Int} {ps : List Ty} {e : Flt} (h : rdLong N r = .ok (n, r1)) (h1 : QP N 6 r1 = .ok (ps, r2)) (h2 : QP N 6 r2 = .error e) : Q3q N r = .error e := by simp only [Q3q, Qj, h, h1, h2]
theorem rdFun_3 {N : Nat} {r r1 r2 r3 : List UInt8} {n : Int} {ps rs : List Ty} {e : Flt} (h : rdLong N r = .ok (n, r1)) (h1 : QP N 6 r1 = .ok (ps, r2)) (h2 : QP N 6 r2 = .ok (rs, r3)) (h3 : QF N (Q1o N) r3 = .error e) : Q3q N r = .error e := by simp only [Q3q, Qj, h, h1, h2, h3]
theorem rdFun_o {N : Nat} {r r1 r2 r3 r4 : List UInt8} {n : Int} {ps rs : List Ty} {bl : List Block} (h : rdLong N r = .ok (n, r1)) (h1 : QP N 6 r1 = .ok (ps, r2)) (h2 : QP N 6 r2 = .ok (rs, r3)) (h3 : QF N (Q1o N) r3 = .ok (bl, r4)) : Q3q N r = .ok (⟨n, ps, rs, bl⟩, r4) := by simp only [Q3q, Qj, h, h1, h2, h3]
end
theorem Qju {bs : List UInt8} {rb : Nat} {v : Value} (hb : bs.length ≤ 1000000) (hv : u8R.sl cx v bs) : RdC insR aggV Try.prog Qp [.pointer (some ⟨rb, 0, none⟩)] (Q6d bs.length) bs rb v cx L := by
  intro at1 c1 w1 r0 hle hat hS
  exact rdins_c hb (Rep.SR.up hv hle) hat hS
theorem Qjx {bs : List UInt8} {rb at0 : Nat} {v : Value} (hb : bs.length ≤ 1000000) (hv : u8R.sl cx v bs) (ha : at0 ≤ bs.length) (hS : St cx w (blk rb 120 [v, .int .i64 at0] :: L)) :
    Fins Try.prog Q27 [.pointer (some ⟨rb, 0, none⟩)] w (OkA blockR aggV (Q1o bs.length (bs.drop at0)) bs rb v at0 cx L) (Bad (Q1o bs.length (bs.drop at0)) rb v cx L) := by
  unfold Fins
  all_goals refine Q5I ?_
  all_goals (unfold codec_reader_block_lc; refine Q0 ?_; refine Q1 ?_; refine Qb hS ?_; intro p2 w1 hS; refine zn ?_; refine Q0 ?_; refine Q1 ?_; refine zm ?_; refine zE1 (c := Q3p hv ha hS.sp) (p := by rintro v9 w9 ⟨e, at1, h1, rfl, hS⟩; (repeat (first | refine Qt ?_ | refine Qu ?_ | refine fun _ => ?_)); refine Q1g ?_; refine .inr ⟨_, rfl, ?_⟩; exact ⟨e, at1, QjA h1, rfl, hS.sp⟩) (h := ?_); rintro v1 w1 ⟨n, at1, h1, h2, h3, rfl, hS⟩; refine zb1 [_, _, _, _, _, _, _, _, _, _, _, _] ?_; refine Qb hS ?_; intro p3 w1 hS; refine zsn hS ?_; intro w1 hS; have hS := hS.ns; refine zn ?_; refine Q0 ?_; refine Q1 ?_; refine zm ?_; refine Q1v rfl (Q8z hb 6 cx _ _ 0 at1 (by omega) (by omega) hv h3 (St.mv1 hS)) (by rintro v9 w9 ⟨e, at2, e2, rfl, hS⟩; (repeat (first | refine Qt ?_ | refine Qu ?_ | refine fun _ => ?_)); refine Q1g ?_; refine .inr ⟨_, rfl, ?_⟩; exact ⟨e, at2, QjD h1 e2, rfl, hS.sp⟩) ?_; rintro v2 w2 ⟨l1, at2, c2, e2, h4, h5, hle2, hl1, hS⟩; have hv2 := Rep.SR.up hv hle2; have ho1 := Rep.SR.oneC hl1; refine Q2 rfl ?_; refine zst hS ?_; intro w1 hS; have hS := hS.ns; refine zn ?_; refine Q0 ?_; refine Q1 ?_; refine zm ?_; refine zm ?_; refine s_mkb (u := [.pointer (some ⟨rb, 0, none⟩)]) rfl ?_; refine Q1v rfl (QgP (cx := c2) ⟨[_], [], rfl, rfl⟩ (by kernel_rfl) hb (Qju hb hv2) hv2 h5 hS) (by rintro v9 w9 ⟨e, at3, e3, rfl, hS⟩; (repeat (first | refine Qt ?_ | refine Qu ?_ | refine fun _ => ?_)); refine Q1g ?_; refine .inr ⟨_, rfl, ?_⟩; exact ⟨e, at3, QjC h1 e2 e3, rfl, St.weak hS.sp hle2⟩) ?_; rintro v3 w3 ⟨l2, at3, c3, e3, h6, h7, hle3, hl2, hS⟩; have hv3 := Rep.SR.up hv2 hle3; have ho2 := Rep.SR.oneC hl2)
  all_goals (refine Q2 rfl ?_; refine zst hS ?_; intro w1 hS; have hS := hS.ns; refine zn ?_; refine Q0 ?_; refine Q1 ?_; refine zm ?_; refine Q1v rfl (rdend_c hb hv3 h7 hS) (by rintro v9 w9 ⟨e, at4, e4, rfl, hS⟩; (repeat (first | refine Qt ?_ | refine Qu ?_ | refine fun _ => ?_)); refine Q1g ?_; refine .inr ⟨_, rfl, ?_⟩; exact ⟨e, at4, QjB h1 e2 e3 e4, rfl, St.weak hS.sp (hle2.trans hle3)⟩) ?_; rintro v4 w4 ⟨t, at4, c4, ds, e4, h8, h9, hle4, hd, rfl, hS⟩; obtain ⟨u1, u2, u3, u4, u5, rfl, q1, q2, q3, q4, q5⟩ := QfI hd; have hone := endR.one hd; unfold aggV; refine Q2 rfl ?_; (first | (refine zsn hS ?_; intro w1 hS; have hS := hS.ns) | (refine zsm hS ?_; intro w1 hS; have hS := hS.ns)); refine zn ?_; refine Q0 ?_; have hd9 : blockR.at c4 [.int .i64 n, v2, v3, .int .i64 t.op, .int .i64 t.a, .int .i64 t.yes.block, u1, u2, .int .i64 t.no.block, u3, u4, u5] ⟨n, l1, l2, t⟩ := ⟨_, _, _, rfl, Rep.SR.up hl1 (hle3.trans hle4), Rep.SR.up hl2 hle4, hd⟩; refine Q1 ?_; refine zv hS ?_; refine zsn hS ?_; intro w1 hS; have hS := hS.ns; refine zn ?_; refine zr ?_; refine QaK vw (Ql (n := 12) (by kernel_rfl) (by kernel_rfl) (hS.blkAt fd) (by rfl) (by rfl)) ?_; exact .inl ⟨_, rfl, _, at4, c4, _, Qjz h1 e2 e3 e4, by omega, by omega, (hle2.trans hle3).trans hle4, hd9, rfl, hS.sp⟩)
theorem Qjw {bs : List UInt8} {rb : Nat} {v : Value} (hb : bs.length ≤ 1000000) (hv : u8R.sl cx v bs) : RdC blockR aggV Try.prog Q27 [.pointer (some ⟨rb, 0, none⟩)] (Q1o bs.length) bs rb v cx L := by
  intro at1 c1 w1 r0 hle hat hS
  exact Qjx hb (Rep.SR.up hv hle) hat hS
theorem rdfun_c {bs : List UInt8} {rb at0 : Nat} {v : Value} (hb : bs.length ≤ 1000000) (hv : u8R.sl cx v bs) (ha : at0 ≤ bs.length) (hS : St cx w (blk rb 120 [v, .int .i64 at0] :: L)) :
    Fins Try.prog Q1C [.pointer (some ⟨rb, 0, none⟩)] w (OkA funcR aggV (Q3q bs.length (bs.drop at0)) bs rb v at0 cx L) (Bad (Q3q bs.length (bs.drop at0)) rb v cx L) := by
  unfold Fins
  all_goals refine Q3F ?_
  all_goals (unfold codec_reader_function_lc; refine Q0 ?_; refine Q1 ?_; refine Qb hS ?_; intro p2 w1 hS; refine zn ?_; refine Q0 ?_; refine Q1 ?_; refine zm ?_; refine zE1 (c := Q3p hv ha hS.sp) (p := by rintro v9 w9 ⟨e, at1, h1, rfl, hS⟩; (repeat (first | refine Qt ?_ | refine Qu ?_ | refine fun _ => ?_)); refine Q1g ?_; refine .inr ⟨_, rfl, ?_⟩; exact ⟨e, at1, rdFun_e h1, rfl, hS.sp⟩) (h := ?_); rintro v1 w1 ⟨n, at1, h1, h2, h3, rfl, hS⟩; refine zb1 [_, _, _, _] ?_; refine Qb hS ?_; intro p3 w1 hS; refine zsn hS ?_; intro w1 hS; have hS := hS.ns; refine zn ?_; refine Q0 ?_; refine Q1 ?_; refine zm ?_; refine Q1v rfl (Q8z hb 6 cx _ _ 0 at1 (by omega) (by omega) hv h3 (St.mv1 hS)) (by rintro v9 w9 ⟨e, at2, e2, rfl, hS⟩; (repeat (first | refine Qt ?_ | refine Qu ?_ | refine fun _ => ?_)); refine Q1g ?_; refine .inr ⟨_, rfl, ?_⟩; exact ⟨e, at2, rdFun_1 h1 e2, rfl, hS.sp⟩) ?_; rintro v2 w2 ⟨l1, at2, c2, e2, h4, h5, hle2, hl1, hS⟩; have hv2 := Rep.SR.up hv hle2; have ho1 := Rep.SR.oneC hl1; refine Q2 rfl ?_; refine zst hS ?_; intro w1 hS; have hS := hS.ns; refine zn ?_; refine Q0 ?_; refine Q1 ?_; refine zm ?_; refine Q1v rfl (Q8z hb 6 c2 _ _ 0 at2 (by omega) (by omega) hv2 h5 hS) (by rintro v9 w9 ⟨e, at3, e3, rfl, hS⟩; (repeat (first | refine Qt ?_ | refine Qu ?_ | refine fun _ => ?_)); refine Q1g ?_; refine .inr ⟨_, rfl, ?_⟩; exact ⟨e, at3, rdFun_2 h1 e2 e3, rfl, St.weak hS.sp hle2⟩) ?_; rintro v3 w3 ⟨l2, at3, c3, e3, h6, h7, hle3, hl2, hS⟩; have hv3 := Rep.SR.up hv2 hle3; have ho2 := Rep.SR.oneC hl2)
  all_goals (refine Q2 rfl ?_; refine zst hS ?_; intro w1 hS; have hS := hS.ns; refine zn ?_; refine Q0 ?_; refine Q1 ?_; refine zm ?_; refine zm ?_; refine s_mkb (u := [.pointer (some ⟨rb, 0, none⟩)]) rfl ?_; refine Q1v rfl (QgR (cx := c3) ⟨[_], [], rfl, rfl⟩ (by kernel_rfl) hb (Qjw hb hv3) hv3 h7 hS) (by rintro v9 w9 ⟨e, at4, e4, rfl, hS⟩; (repeat (first | refine Qt ?_ | refine Qu ?_ | refine fun _ => ?_)); refine Q1g ?_; refine .inr ⟨_, rfl, ?_⟩; exact ⟨e, at4, rdFun_3 h1 e2 e3 e4, rfl, St.weak hS.sp (hle2.trans hle3)⟩) ?_; rintro v4 w4 ⟨l3, at4, c4, e4, h8, h9, hle4, hl3, hS⟩; have ho3 := Rep.SR.oneC hl3; refine Q2 rfl ?_; refine zst hS ?_; intro w1 hS; have hS := hS.ns; refine zn ?_; refine Q0 ?_; have hd9 : funcR.at c4 [.int .i64 n, v2, v3, v4] ⟨n, l1, l2, l3⟩ := ⟨_, _, _, rfl, Rep.SR.up hl1 (hle3.trans hle4), Rep.SR.up hl2 hle4, hl3⟩; refine Q1 ?_; refine zv hS ?_; refine zsn hS ?_; intro w1 hS; have hS := hS.ns; refine zn ?_; refine zr ?_; refine QaK vw (Ql (n := 4) (by kernel_rfl) (by kernel_rfl) (hS.blkAt fd) (by rfl) (by rfl)) ?_; exact .inl ⟨_, rfl, _, at4, c4, _, rdFun_o h1 e2 e3 e4, by omega, by omega, (hle2.trans hle3).trans hle4, hd9, rfl, hS.sp⟩)
theorem Qjv {bs : List UInt8} {rb : Nat} {v : Value} (hb : bs.length ≤ 1000000) (hv : u8R.sl cx v bs) : RdC funcR aggV Try.prog Q1C [.pointer (some ⟨rb, 0, none⟩)] (Q3q bs.length) bs rb v cx L := by
  intro at1 c1 w1 r0 hle hat hS
  exact rdfun_c hb (Rep.SR.up hv hle) hat hS
end Go.Proofs.Ytanlkfeogoganaa
namespace Go.Proofs.Ytanlkfeogoganaa
open Go.Lir
set_option maxHeartbeats 1000000
attribute [local irreducible] LC.wp Q3 Qz QJ retQ Q1A LO.wp Qh Calls
set_option linter.unusedSimpArgs false
set_option linter.unusedVariables false
variable {cx : Cx} {w : World} {L : List Res}
theorem Qj4 {P : Program} {T : TypeId} (h : aggT P T = true) : ∃ D, P.underlying T = some D ∧ ∀ m, D ≠ .interface m := by
  unfold aggT at h
  split at h
  · exact ⟨_, by assumption, by intro m h; cases h⟩
  · exact ⟨_, by assumption, by intro m h; cases h⟩
  · cases h
theorem Q2X {p q : Nat} {cs ds : List Value} (hS : St cx w (blk p 24 cs :: blk q 47 ds :: L)) : Defs Try.prog Q3u [.pointer (some ⟨p, 0, none⟩), .pointer (some ⟨q, 0, none⟩)] .returning w fun u' w' => u' = .returning ∧ St cx w' (blk p 24 cs :: blk q 47 ds :: L) := by
  unfold Defs
  all_goals refine Q3c ?_
  all_goals (unfold codec_Decode_1_ld; refine r_seq ?_; refine r_sp ?_; refine zn ?_; refine zm ?_; refine zn ?_; refine r_pl ?_; refine Q0 ?_; refine Q1 ?_; refine zm ?_; refine s_inil_f (ms := #[]) (by kernel_rfl) rfl ?_; refine zn ?_)
  all_goals refine Q6 rfl ?_
  all_goals (refine zsk ?_; refine q_endR ?_; refine Q2o ?_; exact ⟨⟨_, rfl⟩, rfl, hS.sp⟩)
theorem QjZ {p q : Nat} {v0 a0 b0 : Value} {e : Flt} (hS : St cx w (blk p 24 [v0] :: blk q 47 [a0, b0] :: L)) : Defs Try.prog Q3u [.pointer (some ⟨p, 0, none⟩), .pointer (some ⟨q, 0, none⟩)] (.panicking [{ v := Qk0 e, recovered := false }]) w fun u' w' => u' = .panicking [{ v := Qk0 e, recovered := true }] ∧ St cx w' (blk p 24 [vn] :: blk q 47 [.int .i64 e.1, .int .i64 e.2] :: L) := by
  obtain ⟨D, hD, hi⟩ := Qj4 (P := Try.prog) (T := 116) (by kernel_rfl)
  unfold Defs
  all_goals refine Q3c ?_
  all_goals (unfold codec_Decode_1_ld; refine r_seq ?_; refine r_sp ?_; refine zn ?_; refine zm ?_; refine zn ?_; refine r_pl ?_; refine Q0 ?_; refine Q1 ?_; refine zm ?_; refine s_inil_t (ms := #[]) (by kernel_rfl) rfl ?_; refine zn ?_)
  all_goals refine Q5 rfl ?_
  all_goals (refine Q0 ?_; refine Q1 ?_; refine zm ?_; refine s_assert hD hi rfl ?_; refine zm ?_; refine Qef rfl rfl ?_; refine Qef rfl rfl ?_; refine Qb hS ?_; intro p3 w1 hS; refine zsn hS ?_; intro w1 hS; have hS := hS.ns; refine zm ?_; refine zn ?_; refine Q0 ?_; refine Q0 ?_; refine Q1 ?_; refine zm ?_; refine Q2L rfl ?_; refine zn ?_)
  all_goals refine Q6 rfl ?_
  all_goals (refine zsk ?_; refine zC [(0, none), (1, none), (2, some (some [1])), (3, some none)] ?_; have hS := hS.drew; refine s_cq ?_; refine zb0 [_] ?_; refine zt ?_; refine s_cq ?_; refine zv hS ?_; refine zt ?_; refine QgK ?_; refine zsn hS ?_; intro w1 hS; have hS := hS.ns; refine zt ?_; refine zy ?_; refine s_cf ?_; refine zsn hS ?_; intro w1 hS; have hS := hS.ns; refine zt ?_; refine zcn ?_; refine q_endR ?_; refine Q2o ?_; exact ⟨⟨_, rfl⟩, rfl, hS.sp⟩)
end Go.Proofs.Ytanlkfeogoganaa
namespace Go.Lir
section
variable {P : Program} {l : List GO} {Q : QT} {ρ : Env} {w : World}
theorem s_sneql {d T : Nat} {x y : Operand} {a b : List UInt8} (hx : ρ.ev x = .string ⟨a.toArray⟩) (hy : ρ.ev y = .string ⟨b.toArray⟩)
    (h : Q3 P l Q (upd ρ d (.bool (decide (a ≠ b)))) w) : Q3 P (⟨none, .bin d .neq T x y⟩ :: l) Q ρ w :=
  ⟨_, fun w0 => by
    rw [hx, hy]
    have e : ∀ c : List UInt8, (⟨c.toArray⟩ : ByteArray).toList = c := fun c => Lib.toList_data _
    have e2 : (a != b) = decide (a ≠ b) := by by_cases h : a = b <;> simp [h]
    have e3 : (a == b) = decide (a = b) := by by_cases h : a = b <;> simp [h]
    simp [eqGuard, binOp, Op.stringOp, e, e2, e3], h⟩
theorem Q50 {a b T T' : Nat} {R : Ending → World → Prop} {p o p' o' : Nat} {v v' : Value} (ha : ρ a = .pointer (some ⟨p, o, none⟩)) (hv : Qic P w ⟨p, o, none⟩ T v) (ha' : ρ b = .pointer (some ⟨p', o', none⟩)) (hv' : Qic P w ⟨p', o', none⟩ T' v') (h : R (.returned (.tuple #[v, v'])) w) : retQ P [.cell a T, .cell b T'] R .ret ρ w :=
  ⟨_, v, ha, hv, _, v', ha', hv', h⟩
end
theorem QhE {n : Nat} (h : n < 4294967296) : IntKind.u32.wrap (n : Int) = (n : Int) := by
  unfold IntKind.wrap; simp [IntKind.bits, IntKind.signed]; omega
theorem Qih (x : UInt8) : IntKind.u32.wrap (x.toNat : Int) = (x.toNat : Int) := QhE (Nat.lt_trans x.toNat_lt (by decide))
theorem QfB {u y k : Nat} {z : Int} (hz : z = (k : Int)) (hk : k ≤ 24) (hu : u < 2 ^ k) (hy : y < 256) : bitI .or .u32 (u : Int) (IntKind.u32.wrap ((y : Int) * 2 ^ (min z.toNat IntKind.u32.bits))) = ((u + y * 2 ^ k : Nat) : Int) := by
  subst hz
  have e1 : min ((k : Nat) : Int).toNat IntKind.u32.bits = k := by simp [IntKind.bits]; omega
  have hp : 2 ^ k ≤ 2 ^ 24 := Nat.pow_le_pow_right (by decide) hk
  have hlt : y * 2 ^ k < 4294967296 := by
    calc y * 2 ^ k ≤ 255 * 2 ^ 24 := Nat.mul_le_mul (by omega) hp
      _ < _ := by decide
  rw [e1, show ((y : Int) * 2 ^ k) = ((y * 2 ^ k : Nat) : Int) by push_cast; rfl, QhE hlt]
  have e3 : u ||| y * 2 ^ k = u + y * 2 ^ k := by
    rw [Nat.or_comm, Nat.mul_comm y, Nat.add_comm]
    exact (Nat.two_pow_add_eq_or_of_lt hu y).symm
  have hsum : u + y * 2 ^ k < 4294967296 := by
    rw [← e3]; exact Nat.or_lt_two_pow (n := 32) (by omega) hlt
  have e4 : (BitVec.ofNat 32 u ||| BitVec.ofNat 32 (y * 2 ^ k)).toNat = u + y * 2 ^ k := by
    rw [BitVec.toNat_or, BitVec.toNat_ofNat, BitVec.toNat_ofNat, Nat.mod_eq_of_lt (by omega), Nat.mod_eq_of_lt (by omega), e3]
  show IntKind.u32.wrap (((BitVec.ofInt 32 (u : Int) ||| BitVec.ofInt 32 ((y * 2 ^ k : Nat) : Int)).toNat : Nat) : Int) = _
  rw [BitVec.ofInt_natCast, BitVec.ofInt_natCast, e4]
  exact QhE hsum
theorem sumB_eq {c : BitVec 32} {a b d e : UInt8} : sumB c = [a, b, d, e] ↔ c.toNat = a.toNat + b.toNat * 256 + d.toNat * 65536 + e.toNat * 16777216 := by
  have hc := c.isLt
  have ha := a.toNat_lt; have hb := b.toNat_lt; have hd := d.toNat_lt; have he := e.toNat_lt
  unfold sumB
  constructor
  · intro h
    simp only [List.cons.injEq, and_true] at h
    obtain ⟨h1, h2, h3, h4⟩ := h
    have h1 := congrArg UInt8.toNat h1; have h2 := congrArg UInt8.toNat h2; have h3 := congrArg UInt8.toNat h3; have h4 := congrArg UInt8.toNat h4
    simp only [UInt8.toNat_ofNat'] at h1 h2 h3 h4
    omega
  · intro h
    simp only [List.cons.injEq, and_true]
    refine ⟨?_, ?_, ?_, ?_⟩ <;> (apply UInt8.toNat_inj.1; simp only [UInt8.toNat_ofNat']; omega)
end Go.Lir
namespace Go.Lir
section
variable {bs r : List UInt8} {N : Nat} {e : Flt} {l : List Fun}
theorem Q2s (h7 : bs.length < 7) : decode bs = .error (5, (bs.length : Int)) := by unfold decode; rw [if_pos h7]
theorem Q69 (h7 : ¬ bs.length < 7) (h : 20000 < bs.length) : decode bs = .error (2, 20000) := by unfold decode; rw [if_neg h7, if_pos h]
theorem Q6a (h7 : ¬ bs.length < 7) (h : ¬ 20000 < bs.length) (hh : bs.take 3 ≠ [67, 72, 1]) : decode bs = .error (4, 0) := by unfold decode; rw [if_neg h7, if_neg h, if_pos hh]
theorem QcP (hN : bs.length = N + 4) (h7 : ¬ bs.length < 7) (h : ¬ 20000 < bs.length) (hh : ¬ bs.take 3 ≠ [67, 72, 1]) (hs : sumB (Q2c (bs.take N)) ≠ bs.drop N) : decode bs = .error (16, (N : Int)) := by
  unfold decode; rw [if_neg h7, if_neg h, if_neg hh, show bs.length - 4 = N by omega, if_pos hs]
theorem dec_e (hN : bs.length = N + 4) (h7 : ¬ bs.length < 7) (h : ¬ 20000 < bs.length) (hh : ¬ bs.take 3 ≠ [67, 72, 1]) (hs : ¬ sumB (Q2c (bs.take N)) ≠ bs.drop N) (hr : QgS N ((bs.take N).drop 3) = .error e) : decode bs = .error e := by
  unfold decode; rw [if_neg h7, if_neg h, if_neg hh, show bs.length - 4 = N by omega, if_neg hs, hr]
theorem dec_left (hN : bs.length = N + 4) (h7 : ¬ bs.length < 7) (h : ¬ 20000 < bs.length) (hh : ¬ bs.take 3 ≠ [67, 72, 1]) (hs : ¬ sumB (Q2c (bs.take N)) ≠ bs.drop N) (hr : QgS N ((bs.take N).drop 3) = .ok (l, r)) (hl : r ≠ []) : decode bs = .error (4, (N : Int) - r.length) := by
  unfold decode; rw [if_neg h7, if_neg h, if_neg hh, show bs.length - 4 = N by omega, if_neg hs, hr]; show (if _ then _ else _) = _; rw [if_pos hl]
theorem Qh8 (hN : bs.length = N + 4) (h7 : ¬ bs.length < 7) (h : ¬ 20000 < bs.length) (hh : ¬ bs.take 3 ≠ [67, 72, 1]) (hs : ¬ sumB (Q2c (bs.take N)) ≠ bs.drop N) (hr : QgS N ((bs.take N).drop 3) = .ok (l, r)) (hl : ¬ r ≠ []) (hf : (Module.fault ⟨l⟩).1 ≠ 0) : decode bs = .error (3, (N : Int)) := by
  unfold decode; rw [if_neg h7, if_neg h, if_neg hh, show bs.length - 4 = N by omega, if_neg hs, hr]; show (if _ then _ else _) = _; rw [if_neg hl, if_pos hf]
theorem dec_ok (hN : bs.length = N + 4) (h7 : ¬ bs.length < 7) (h : ¬ 20000 < bs.length) (hh : ¬ bs.take 3 ≠ [67, 72, 1]) (hs : ¬ sumB (Q2c (bs.take N)) ≠ bs.drop N) (hr : QgS N ((bs.take N).drop 3) = .ok (l, r)) (hl : ¬ r ≠ []) (hf : ¬ (Module.fault ⟨l⟩).1 ≠ 0) : decode bs = .ok ⟨l⟩ := by
  unfold decode; rw [if_neg h7, if_neg h, if_neg hh, show bs.length - 4 = N by omega, if_neg hs, hr]; show (if _ then _ else _) = _; rw [if_neg hl, if_neg hf]
theorem QcQ {at1 : Nat} (hN : bs.length = N + 4) (h7 : ¬ bs.length < 7) (h : ¬ 20000 < bs.length) (hh : ¬ bs.take 3 ≠ [67, 72, 1]) (hs : ¬ sumB (Q2c (bs.take N)) ≠ bs.drop N) (hr : QgS N ((bs.take N).drop 3) = .ok (l, (bs.take N).drop at1)) (ha : at1 < N) : decode bs = .error (4, (at1 : Int)) := by
  have e : ((bs.take N).drop at1).length = N - at1 := by simp [hN]
  rw [dec_left hN h7 h hh hs hr (by intro h0; rw [h0] at e; simp at e; omega), e, show ((N : Int) - ((N - at1 : Nat) : Int)) = (at1 : Int) by omega]
theorem QfM {at1 : Nat} (hN : bs.length = N + 4) (ha : ¬ at1 < N) : ¬ (bs.take N).drop at1 ≠ [] := by
  simp [hN]; omega
/-- The last four bytes. -/
theorem drop4 {a b c d : UInt8} (hN : bs.length = N + 4) (h0 : bs[N]? = some a) (h1 : bs[N + 1]? = some b) (h2 : bs[N + 2]? = some c) (h3 : bs[N + 3]? = some d) : bs.drop N = [a, b, c, d] := by
  apply List.ext_getElem?
  intro i
  rw [List.getElem?_drop]
  match i with
  | 0 => simpa using h0
  | 1 => simpa using h1
  | 2 => simpa using h2
  | 3 => simpa using h3
  | i + 4 => rw [List.getElem?_eq_none (by omega)]; simp
end
end Go.Lir
namespace Go.Lir
set_option linter.unusedVariables false
section
variable {α β : Type} {M n : Nat}
def Goodp (M : Nat) (f : List UInt8 → Got α) (p : α → Prop) : Prop := ∀ r x r', r.length ≤ M → f r = .ok (x, r') → p x ∧ r'.length ≤ r.length
theorem Goodp.weak {f : List UInt8 → Got α} {p q : α → Prop} (h : Goodp M f p) (hq : ∀ x, p x → q x) : Goodp M f q := fun r x r' h1 h2 => ⟨hq x (h r x r' h1 h2).1, (h r x r' h1 h2).2⟩
theorem Q1h : Goodp M (rdLong n) (fun _ => True) := fun r x r' h1 h2 => by
  refine ⟨trivial, ?_⟩
  rw [(QgT h2).1, List.length_append]; omega
theorem Q2q {x : α} {p : α → Prop} (hp : p x) : Goodp M (fun r => .ok (x, r)) p := fun r y r' h1 h2 => by
  simp only [Except.ok.injEq, Prod.mk.injEq] at h2
  obtain ⟨rfl, rfl⟩ := h2
  exact ⟨hp, Nat.le_refl _⟩
theorem Qm {f : List UInt8 → Got α} {g : α → List UInt8 → Got β} {p : α → Prop} {q : β → Prop} (hf : Goodp M f p) (hg : ∀ x, p x → Goodp M (g x) q) : Goodp M (fun r => Qj (f r) g) q := fun r y r' h1 h2 => by
  obtain ⟨x, s, h3, h4⟩ := Q63 h2
  obtain ⟨h5, h6⟩ := hf r x s h1 h3
  obtain ⟨h7, h8⟩ := hg x h5 s y r' (by omega) h4
  exact ⟨h7, by omega⟩
theorem Q2g {f : List UInt8 → Got α} {p : α → Prop} {c : Prop} [Decidable c] {z : α} (hf : Goodp M f p) (hz : p z) : Goodp M (rdIf c z f) p := by
  intro r x r' h1 h2
  unfold rdIf at h2
  split at h2
  · exact hf r x r' h1 h2
  · exact Q2q hz r x r' h1 h2
theorem Qh6 {f : List UInt8 → Got α} {p : α → Prop} (hf : Goodp M f p) : ∀ k, Goodp M (rdMany f k) (fun l => l.length = k ∧ ∀ x ∈ l, p x)
  | 0 => fun r x r' h1 h2 => by
    rw [rdMany] at h2
    exact Q2q (p := fun l : List α => l.length = 0 ∧ ∀ x ∈ l, p x) (by simp) r x r' h1 h2
  | k + 1 => fun r x r' h1 h2 => by
    rw [rdMany] at h2
    obtain ⟨a, s, h3, h4⟩ := Q63 h2
    obtain ⟨l, s2, h5, h6⟩ := Q63 h4
    obtain ⟨h7, h8⟩ := hf r a s h1 h3
    obtain ⟨⟨h9, h10⟩, h11⟩ := Qh6 hf k s l s2 (by omega) h5
    simp only [Except.ok.injEq, Prod.mk.injEq] at h6
    obtain ⟨rfl, rfl⟩ := h6
    refine ⟨⟨by simp [h9], ?_⟩, by omega⟩
    intro y hy
    rcases List.mem_cons.1 hy with rfl | hy
    · exact h7
    · exact h10 y hy
theorem Q58 {f : List UInt8 → Got α} {p : α → Prop} (hf : Goodp M f p) : Goodp M (QF n f) (fun l => l.length ≤ M ∧ ∀ x ∈ l, p x) := by
  intro r x r' h1 h2
  unfold QF at h2
  obtain ⟨c, s, h3, h4⟩ := Q63 h2
  obtain ⟨_, h5⟩ := Q1h r c s h1 h3
  split at h4
  · cases h4
  · obtain ⟨⟨h6, h7⟩, h8⟩ := Qh6 hf _ s x r' (by omega) h4
    exact ⟨⟨by omega, h7⟩, by omega⟩
theorem Q66 (hM : M ≤ 100000) : ∀ k, Goodp M (QP n k) Tys.Short
  | 0 => fun r x r' h1 h2 => by rw [QP] at h2; cases h2
  | k + 1 => fun r x r' h1 h2 => by
    rw [QaJ] at h2
    have ht : Goodp M (rdTy n k) Ty.Short := by
      unfold rdTy
      refine Qm Q1h fun kd _ => Qm (Q2g Q1h trivial) fun g _ => Qm (Q2g (Q66 hM k) ⟨by simp, by simp⟩) fun l hl => Q2q ?_
      exact .mk hl.1 hl.2
    obtain ⟨h3, h4⟩ := Q58 ht r x r' h1 h2
    exact ⟨⟨by omega, h3.2⟩, h4⟩
theorem Q59 (hM : M ≤ 100000) : Goodp M (Q2n n) (fun l => l.length ≤ 100000) := (Q58 Q1h).weak fun l h => by omega
theorem good_ins (hM : M ≤ 100000) : Goodp M (Q6d n) Ins.Short := by
  unfold Q6d
  refine Qm Q1h fun op _ => Qm (Q2g Q1h trivial) fun a _ => Qm (Q2g Q1h trivial) fun b _ => Qm (Q2g Q1h trivial) fun c _ => Qm (Q2g Q1h trivial) fun k _ => Qm (Q2g Q1h trivial) fun m _ => ?_
  exact Qm (Q2g (Q59 hM) (by simp)) fun l1 h1 => Qm (Q2g (Q59 hM) (by simp)) fun l2 h2 => Q2q ⟨h1, h2⟩
theorem QjT (hM : M ≤ 100000) : Goodp M (rdTo n) To.Short := by
  unfold rdTo
  exact Qm Q1h fun b _ => Qm (Q59 hM) fun l1 h1 => Qm (Q59 hM) fun l2 h2 => Q2q ⟨h1, h2⟩
theorem good_end (hM : M ≤ 100000) : Goodp M (Q2b n) Tail.Short := by
  unfold Q2b
  have hz : To.Short ⟨0, [], []⟩ := ⟨by simp, by simp⟩
  exact Qm Q1h fun op _ => Qm (Q2g Q1h trivial) fun a _ => Qm (Q2g (QjT hM) hz) fun y hy => Qm (Q2g (QjT hM) hz) fun z hz => Qm (Q2g (Q59 hM) (by simp)) fun l hl => Q2q ⟨hy, hz, hl⟩
theorem QiV (hM : M ≤ 100000) : Goodp M (Q1o n) Block.Short := by
  unfold Q1o
  exact Qm Q1h fun g _ => Qm (Q66 hM 6) fun ps hp => Qm (Q58 (good_ins hM)) fun c hc => Qm (good_end hM) fun t ht => Q2q ⟨hp, by have := hc.1; show c.length ≤ 100000; omega, hc.2, ht⟩
theorem good_fun (hM : M ≤ 100000) : Goodp M (Q3q n) Fun.Short := by
  unfold Q3q
  exact Qm Q1h fun g _ => Qm (Q66 hM 6) fun ps hp => Qm (Q66 hM 6) fun rs hr => Qm (Q58 (QiV hM)) fun bl hb => Q2q ⟨hp, hr, by have := hb.1; show bl.length ≤ 100000; omega, hb.2⟩
theorem QhK {r r' : List UInt8} {l : List Fun} (hr : r.length ≤ 100000) (h : QgS n r = .ok (l, r')) : (Module.mk l).Short := by
  have := (Q58 (good_fun (n := n) (Nat.le_refl 100000)) r l r' hr h).1
  exact ⟨this.1, this.2⟩
theorem Qh7 {bs r : List UInt8} {l : List Fun} {N : Nat} (hN : N ≤ 20000) (h : QgS N ((bs.take N).drop 3) = .ok (l, r)) : (Module.mk l).Short := by
  refine QhK ?_ h
  rw [List.length_drop, List.length_take]; omega
end
end Go.Lir
namespace Go.Proofs.Ytanlkfeogoganaa
open Go.Lir
set_option maxHeartbeats 1000000
attribute [local irreducible] LC.wp Q3 Qz QJ retQ Q1A LO.wp Qh Calls
set_option linter.unusedSimpArgs false
set_option linter.unusedVariables false
attribute [local irreducible] bitI IntKind.wrap
variable {cx : Cx} {w : World} {L : List Res}
theorem sum_c {bs : List UInt8} {v : Value} (hl : u8R.sl cx v bs) (hS : St cx w L) : Rets Try.prog Qhk [v] w fun u w' => u = .int .u32 ((Q2c bs).toNat : Int) ∧ St cx w' L := by
  have hlen := hl.len
  all_goals refine Qhj ?_
  all_goals (unfold codec_Sum_lc; refine Q0 ?_; refine Q1 ?_; refine zm ?_; refine zn ?_; refine Q0 ?_; refine Q1 ?_; refine zm ?_; refine zn ?_; refine Q0 ?_; refine Q0 ?_; refine Q1 ?_; refine zm ?_; refine zL ?_; refine zm ?_; refine zn ?_; refine Qa ?_)
  refine zoL hS [6, 7] (fun A LL ρ' w' => ∃ (j : Nat) (c : BitVec 32), Has ρ' A ∧ Has ρ' [(3, .int .u32 (c.toNat : Int)), (8, .int .i64 j)] ∧ (j ≤ bs.length) ∧ (bs.foldl Q2A 4294967295#32 = (bs.drop j).foldl Q2A c) ∧ St cx w' (LL)) (fun ρ' _ => (bs.length - iv (ρ' 8)).toNat) ?_ ?_
  · exact ⟨0, 4294967295#32, zh, zh, (by omega), by rw [List.drop_zero], hS.sp⟩
  rintro ρ w1 ⟨j, c, hA, hρ, hj, hd, hS⟩; obtain ⟨ρ, rfl⟩ := env2 hA hρ
  unfold QaN
  all_goals (refine Q0 ?_; refine Q1 ?_; refine Qs rfl rfl ?_; refine zn ?_; refine Q0 ?_)
  refine Qi rfl (fun hc => ?_) (fun hc => ?_)
  · skip
    all_goals (refine zsk ?_; refine Q0 ?_; refine Qa ?_; refine Q0 ?_; refine Q1 ?_; refine zi ?_; intro b1 o1 cs1 x1 hat1 hx1 he1; (first | (obtain rfl := Q1H he1) | (obtain rfl := Q4R he1)); (first | (refine zl hS ?_) | (refine zlk hS ?_)); refine zm ?_; refine zn ?_; refine Q0 ?_; refine Q1 ?_; refine zm ?_; refine zm ?_; refine Q2D rfl ?_; rw [bv_byte]; refine QiF rfl rfl ?_; rw [Qk2]; refine zm ?_; refine zn ?_; refine Q0 ?_; refine Q1 ?_; refine zm ?_; refine zn ?_; refine Qa ?_)
    refine zoL hS [6, 7, 8] (fun A LL ρ' w' => ∃ (k : Nat) (c1 : BitVec 32), Has ρ' A ∧ Has ρ' [(3, .int .u32 (c1.toNat : Int)), (16, .int .i64 k)] ∧ (k ≤ 8) ∧ (Q2A c x1 = crcN (8 - k) c1) ∧ St cx w' (LL)) (fun ρ' _ => (8 - iv (ρ' 16)).toNat) ?_ ?_
    · exact ⟨0, _, zh, zh, (by omega), by rfl, hS.sp⟩
    rintro ρ w1 ⟨k, c1, hA, hρ, hk, hd1, hS⟩; obtain ⟨ρ, rfl⟩ := env2 hA hρ
    unfold QaM
    all_goals (refine Q0 ?_; refine Q1 ?_; refine Qs rfl rfl ?_; refine zn ?_; refine Q0 ?_)
    refine Qi rfl (fun hc => ?_) (fun hc => ?_)
    · skip
      all_goals (refine zsk ?_; refine Q0 ?_; refine Qa ?_; refine Q1 ?_; refine zm ?_; refine Qee rfl rfl (by decide) ?_; rw [bv_shr]; refine zm ?_; refine Q9q rfl rfl ?_; rw [show (1 : Int) = ((1#32).toNat : Int) from rfl, bv_and]; refine s_neg rfl ?_; rw [bv_neg]; refine Q9q rfl rfl ?_; rw [show (3988292384 : Int) = ((3988292384#32).toNat : Int) from rfl, bv_and]; refine QiF rfl rfl ?_; rw [Qk2]; refine zm ?_; refine zn ?_; refine Q1 ?_; refine zad ?_; refine zm ?_; refine zn ?_; exact ⟨⟨k + 1, Q7m c1, zh, zh, (by omega), by rw [hd1, show 8 - k = (8 - (k + 1)) + 1 by omega]; rfl, hS.sp⟩, Qg (by omega)⟩)
    · skip
      all_goals (refine zex ?_; refine Q1 ?_; refine zad ?_; refine zm ?_; refine zn ?_; exact ⟨⟨j + 1, c1, zh, zh, (by omega), by rw [hd, Q7 hx1, List.foldl_cons, hd1, show 8 - k = 0 by omega]; rfl, hS.sp⟩, Qg (by omega)⟩)
  · skip
    all_goals (refine zex ?_; refine Q0 ?_; refine Q1 ?_; refine zm ?_; refine s_compl rfl ?_; refine zm ?_; refine zn ?_; refine zr ?_; refine zf ?_; refine ⟨_, rfl, ?_, hS.sp⟩; unfold Q2c; rw [hd, List.drop_of_length_le (by omega)]; rfl; done)
end Go.Proofs.Ytanlkfeogoganaa
namespace Go.Proofs.Ytanlkfeogoganaa
open Go.Lir
set_option maxRecDepth 100000

/- 3 -/
/- 4 -/
/- 10 -/
/- 11 -/
def QbP : List GO := [qb 1 24 0, qk 2 (.bool false)]
def QbO : List GO := [qf 8 1 0, ql 9 8, qL 10 9, qj 11 .gtr 3 10 20]
def QbN : List GO := [qk 2 (.bool true)]
def QbM : List GO := [qk 3 (vi 0)]
def QbL : List GO := [qm 12 3, qf 13 1 0, ql 14 13, qL 15 14, qt 16 .lss 3 12 15]
def QbK : List GO := [qf 19 1 0, ql 20 19, qm 21 3, qi 22 4 20 21, qV 23 4 22, ⟨none, .alloc 4 31 [(vi 0), vn, vn, vn]⟩, qw 4 4 23]
def QbJ : List GO := [qf 24 4 3, ql 25 24, qL 26 25, qj 27 .gtr 3 26 30, qm 28 27, qg 28 false (qf 29 4 1), qg 28 false (ql 30 29), ⟨some (28, false), .call (some 31) 46 [(.tmp 30)]⟩, ⟨none, .pick 32 (.tmp 28) (.const (.bool true)) (.tmp 31)⟩, qm 33 32, qg 33 false (qf 34 4 2), qg 33 false (ql 35 34), ⟨some (33, false), .call (some 36) 46 [(.tmp 35)]⟩, ⟨none, .pick 37 (.tmp 33) (.const (.bool true)) (.tmp 36)⟩]
def QbI : List GO := [qk 2 (.bool true)]
def QbH : List GO := [qk 5 (vi 0)]
def QbG : List GO := [qm 38 5, qf 39 4 3, ql 40 39, qL 41 40, qt 42 .lss 3 38 41]
def Qav : List GO := [qf 45 4 3, ql 46 45, qm 47 5, qi 48 12 46 47, qV 49 12 48, ⟨none, .alloc 6 77 [(vi 0), vn, vn, (vi 0), (vi 0), (vi 0), vn, vn, (vi 0), vn, vn, vn]⟩, qw 12 6 49]
def Qau : List GO := [qf 50 6 2, ql 51 50, qL 52 51, qj 53 .gtr 3 52 200, qm 54 53, qg 54 false (qf 55 6 1), qg 54 false (ql 56 55), ⟨some (54, false), .call (some 57) 46 [(.tmp 56)]⟩, ⟨none, .pick 58 (.tmp 54) (.const (.bool true)) (.tmp 57)⟩, qm 59 58, qg 59 false (qf 60 6 3), qg 59 false (qf 61 60 8), qg 59 false (ql 62 61), qg 59 false (qL 63 62), qg 59 false (qj 64 .gtr 3 63 300), ⟨none, .pick 65 (.tmp 59) (.const (.bool true)) (.tmp 64)⟩, qm 66 65, qg 66 false (qf 67 6 3), qg 66 false (qf 68 67 2), qg 66 false (qf 69 68 1), qg 66 false (ql 70 69), qg 66 false (qL 71 70), qg 66 false (qj 72 .gtr 3 71 300), ⟨none, .pick 73 (.tmp 66) (.const (.bool true)) (.tmp 72)⟩, qm 74 73, qg 74 false (qf 75 6 3), qg 74 false (qf 76 75 2), qg 74 false (qf 77 76 2), qg 74 false (ql 78 77), qg 74 false (qL 79 78), qg 74 false (qj 80 .gtr 3 79 300), ⟨none, .pick 81 (.tmp 74) (.const (.bool true)) (.tmp 80)⟩, qm 82 81, qg 82 false (qf 83 6 3), qg 82 false (qf 84 83 5), qg 82 false (qf 85 84 1), qg 82 false (ql 86 85), qg 82 false (qL 87 86), qg 82 false (qj 88 .gtr 3 87 300), ⟨none, .pick 89 (.tmp 82) (.const (.bool true)) (.tmp 88)⟩, qm 90 89, qg 90 false (qf 91 6 3), qg 90 false (qf 92 91 5), qg 90 false (qf 93 92 2), qg 90 false (ql 94 93), qg 90 false (qL 95 94), qg 90 false (qj 96 .gtr 3 95 300), ⟨none, .pick 97 (.tmp 90) (.const (.bool true)) (.tmp 96)⟩]
def Qat : List GO := [qk 2 (.bool true)]
def Qas : List GO := [qk 7 (vi 0)]
def Qar : List GO := [qm 98 7, qf 99 6 2, ql 100 99, qL 101 100, qt 102 .lss 3 98 101]
def Qaq : List GO := [qf 105 6 2, ql 106 105, qm 107 7, qi 108 8 106 107, qf 109 108 6, ql 110 109, qL 111 110, qj 112 .gtr 3 111 300, qm 113 112, qg 113 false (qf 114 6 2), qg 113 false (ql 115 114), qg 113 false (qm 116 7), qg 113 false (qi 117 8 115 116), qg 113 false (qf 118 117 7), qg 113 false (ql 119 118), qg 113 false (qL 120 119), qg 113 false (qj 121 .gtr 3 120 300), ⟨none, .pick 122 (.tmp 113) (.const (.bool true)) (.tmp 121)⟩]
def Qap : List GO := [qk 2 (.bool true)]
def Qao : List GO := [qm 103 7, qj 104 .add 3 103 1, qm 7 104]
def Q3M : LC := (.seq (.seq (.ops Qar) (.cond (.tmp 102) .skip (.exit 4))) (.seq (.block 5 (.seq (.ops Qaq) (.cond (.tmp 122) (.seq (.ops Qap) .ret) .skip))) (.ops Qao)))
def Qan : List GO := [qm 43 5, qj 44 .add 3 43 1, qm 5 44]
def Q4l : LC := (.seq (.seq (.ops QbG) (.cond (.tmp 42) .skip (.exit 2))) (.seq (.block 3 (.seq (.ops Qav) (.seq (.seq (.ops Qau) (.cond (.tmp 97) (.seq (.ops Qat) .ret) .skip)) (.seq (.ops Qas) (.block 4 (.loop Q3M)))))) (.ops Qan)))
def Qam : List GO := [qm 17 3, qj 18 .add 3 17 1, qm 3 18]
def Q4m : LC := (.seq (.seq (.ops QbL) (.cond (.tmp 16) .skip (.exit 0))) (.seq (.block 1 (.seq (.ops QbK) (.seq (.seq (.ops QbJ) (.cond (.tmp 37) (.seq (.ops QbI) .ret) .skip)) (.seq (.ops QbH) (.block 2 (.loop Q4l)))))) (.ops Qam)))
def Qal : List GO := [qk 2 (.bool false)]
def R_GreatModule_lc : LC := (.seq (.ops QbP) (.seq (.seq (.ops QbO) (.cond (.tmp 11) (.seq (.ops QbN) .ret) .skip)) (.seq (.seq (.ops QbM) (.block 0 (.loop Q4m))) (.seq (.ops Qal) .ret))))
@[reducible] def QN : FuncId := 11
theorem Qaw : lowF Try.prog Try.f11 = some R_GreatModule_lc := by kernel_rfl
theorem QbQ {a0 : Value} {w : World} {R : Ending → World → Prop} (h : R_GreatModule_lc.wp Try.prog (retQ Try.prog [.tmp 2] R) (Qd [a0]) w) : Calls Try.prog QN ⟨[a0]⟩ w R :=
  Q4 Try.func11 Qaw (by kernel_rfl) (by kernel_rfl) h

/- 12 -/
/- 13 -/
/- 14 -/
/- 15 -/
/- 16 -/
def Qej : List GO := [qk 2 (vi 0)]
def Qei : List GO := [qm 3 0, qj 4 .mul 3 3 10000, qj 5 .add 3 4 9999, qm 2 5]
def code_FuncAt_lc : LC := (.seq (.ops Qej) (.seq (.ops Qei) .ret))
@[reducible] def Qdm : FuncId := 16
theorem Qdl : lowF Try.prog Try.f16 = some code_FuncAt_lc := by kernel_rfl
theorem Qek {a0 : Value} {w : World} {R : Ending → World → Prop} (h : code_FuncAt_lc.wp Try.prog (retQ Try.prog [.tmp 2] R) (Qd [a0]) w) : Calls Try.prog Qdm ⟨[a0]⟩ w R :=
  Q4 Try.func16 Qdl (by kernel_rfl) (by kernel_rfl) h

/- 17 -/
/- 18 -/
def Qdr : List GO := [qk 4 (vi 0)]
def Qdq : List GO := [qm 5 0, qj 6 .mul 3 5 10000, qm 7 1, qj 8 .mul 3 7 100, qt 9 .add 3 6 8, qj 10 .add 3 9 90, qm 4 10]
def code_BlockAt_lc : LC := (.seq (.ops Qdr) (.seq (.ops Qdq) .ret))
@[reducible] def QaO : FuncId := 18
theorem Qbx : lowF Try.prog Try.f18 = some code_BlockAt_lc := by kernel_rfl
theorem Qds {a0 a1 : Value} {w : World} {R : Ending → World → Prop} (h : code_BlockAt_lc.wp Try.prog (retQ Try.prog [.tmp 4] R) (Qd [a0, a1]) w) : Calls Try.prog QaO ⟨[a0, a1]⟩ w R :=
  Q4 Try.func18 Qbx (by kernel_rfl) (by kernel_rfl) h

/- 19 -/
/- 20 -/
def QfX : List GO := [qk 4 (vi 0)]
def QfW : List GO := [qm 5 0, qj 6 .mul 3 5 10000, qm 7 1, qj 8 .mul 3 7 100, qt 9 .add 3 6 8, qj 10 .add 3 9 91, qm 4 10]
def code_EndAt_lc : LC := (.seq (.ops QfX) (.seq (.ops QfW) .ret))
@[reducible] def Qf9 : FuncId := 20
theorem Qel : lowF Try.prog Try.f20 = some code_EndAt_lc := by kernel_rfl
theorem QfY {a0 a1 : Value} {w : World} {R : Ending → World → Prop} (h : code_EndAt_lc.wp Try.prog (retQ Try.prog [.tmp 4] R) (Qd [a0, a1]) w) : Calls Try.prog Qf9 ⟨[a0, a1]⟩ w R :=
  Q4 Try.func20 Qel (by kernel_rfl) (by kernel_rfl) h

/- 21 -/
/- 22 -/
def QfU : List GO := [qk 6 (vi 0)]
def QfT : List GO := [qm 7 0, qj 8 .mul 3 7 10000, qm 9 1, qj 10 .mul 3 9 100, qt 11 .add 3 8 10, qm 12 2, qt 13 .add 3 11 12, qm 6 13]
def code_InsAt_lc : LC := (.seq (.ops QfU) (.seq (.ops QfT) .ret))
@[reducible] def Qf8 : FuncId := 22
theorem Qeh : lowF Try.prog Try.f22 = some code_InsAt_lc := by kernel_rfl
theorem QfV {a0 a1 a2 : Value} {w : World} {R : Ending → World → Prop} (h : code_InsAt_lc.wp Try.prog (retQ Try.prog [.tmp 6] R) (Qd [a0, a1, a2]) w) : Calls Try.prog Qf8 ⟨[a0, a1, a2]⟩ w R :=
  Q4 Try.func22 Qeh (by kernel_rfl) (by kernel_rfl) h

/- 23 -/
/- 24 -/
/- 25 -/
def Qg8 : List GO := [qb 1 24 0, ⟨none, .alloc 2 47 [(vi 0), (vi 0)]⟩]
def Qg7 : List GO := [qV 7 1 1, ⟨none, .build 8 [vn, (vi 0), (vi 0), (vi 0)] [(0, (1, (.tmp 7))), (3, (1, (.const (vi (-1)))))]⟩, qb 9 83 8, qm 3 9]
def Qg6 : List GO := [qm 10 3, qf 11 1 0, ql 12 11, qL 13 12, qj 14 .eql 3 13 0, qm 15 14, qg 15 false (qf 16 1 0), qg 15 false (ql 17 16), qg 15 false (qL 18 17), qg 15 false (qj 19 .gtr 3 18 8), ⟨none, .pick 20 (.tmp 15) (.const (.bool true)) (.tmp 19)⟩, ⟨none, .call (some 21) 54 [(.tmp 10), (.tmp 20), (.const (vi 2))]⟩]
def Qg5 : List GO := [qk 4 (vi 0)]
def Qg4 : List GO := [qm 22 4, qf 23 1 0, ql 24 23, qL 25 24, qt 26 .lss 3 22 25, qm 27 26, qg 27 true (qm 28 3), qg 27 true (qn 29 28), qg 27 true (qf 30 29 1), qg 27 true (qf 31 30 0), qg 27 true (ql 32 31), qg 27 true (qj 33 .eql 3 32 0), ⟨none, .pick 34 (.tmp 27) (.tmp 33) (.const (.bool false))⟩]
def Qg3 : List GO := [qf 37 1 0, ql 38 37, qm 39 4, qi 40 4 38 39, qV 41 4 40, ⟨none, .alloc 5 31 [(vi 0), vn, vn, vn]⟩, qw 4 5 41]
def Qg2 : List GO := [qm 42 3, qm 43 4, ⟨none, .call (some 44) 16 [(.tmp 43)]⟩, qn 45 42, qf 46 45 3, qs 46 44]
def Qg1 : List GO := [qm 47 3, qf 48 5 0, ql 49 48, qj 50 .lss 3 49 0, qm 51 50, qg 51 false (qf 52 5 0), qg 51 false (ql 53 52), qg 51 false (qj 54 .gtr 3 53 6), ⟨none, .pick 55 (.tmp 51) (.const (.bool true)) (.tmp 54)⟩, ⟨none, .call (some 56) 54 [(.tmp 47), (.tmp 55), (.const (vi 1))]⟩]
def Qg0 : List GO := [qm 57 3, qf 58 5 1, ql 59 58, qf 60 5 0, ql 61 60, ⟨none, .call (some 62) 55 [(.tmp 57), (.tmp 59), (.tmp 61)]⟩]
def QfZ : List GO := [qm 63 3, qf 64 5 2, ql 65 64, qf 66 5 0, ql 67 66, ⟨none, .call (some 68) 55 [(.tmp 63), (.tmp 65), (.tmp 67)]⟩]
def Qet : List GO := [qm 69 3, qf 70 5 3, ql 71 70, qL 72 71, qj 73 .eql 3 72 0, qm 74 73, qg 74 false (qf 75 5 3), qg 74 false (ql 76 75), qg 74 false (qL 77 76), qg 74 false (qj 78 .gtr 3 77 12), ⟨none, .pick 79 (.tmp 74) (.const (.bool true)) (.tmp 78)⟩, ⟨none, .call (some 80) 54 [(.tmp 69), (.tmp 79), (.const (vi 2))]⟩]
def Qes : List GO := [qm 81 3, qm 82 4, qj 83 .eql 3 82 0, qm 84 83, qg 84 true (qf 85 5 0), qg 84 true (ql 86 85), qg 84 true (qj 87 .gtr 3 86 0), qg 84 true (qm 88 87), qg 88 false (qf 89 5 1), qg 88 false (ql 90 89), qg 88 false (qL 91 90), qg 88 false (qj 92 .gtr 3 91 0), ⟨some (84, true), .pick 93 (.tmp 88) (.const (.bool true)) (.tmp 92)⟩, qg 84 true (qm 94 93), qg 94 false (qf 95 5 2), qg 94 false (ql 96 95), ⟨some (94, false), .call (some 97) 56 [(.tmp 96), (.func 57)]⟩, ⟨some (84, true), .pick 98 (.tmp 94) (.const (.bool true)) (.tmp 97)⟩, ⟨none, .pick 99 (.tmp 84) (.tmp 98) (.const (.bool false))⟩, ⟨none, .call (some 100) 54 [(.tmp 81), (.tmp 99), (.const (vi 18))]⟩]
def Qer : List GO := [qk 6 (vi 0)]
def Qeq : List GO := [qm 101 6, qf 102 5 3, ql 103 102, qL 104 103, qt 105 .lss 3 101 104, qm 106 105, qg 106 true (qm 107 3), qg 106 true (qn 108 107), qg 106 true (qf 109 108 1), qg 106 true (qf 110 109 0), qg 106 true (ql 111 110), qg 106 true (qj 112 .eql 3 111 0), ⟨none, .pick 113 (.tmp 106) (.tmp 112) (.const (.bool false))⟩]
def Qep : List GO := [qm 116 3, qm 117 4, qm 118 6, ⟨none, .call (some 119) 58 [(.tmp 116), (.tmp 117), (.tmp 118)]⟩]
def Qeo : List GO := [qm 114 6, qj 115 .add 3 114 1, qm 6 115]
def Q7b : LC := (.seq (.seq (.ops Qeq) (.cond (.tmp 113) .skip (.exit 2))) (.seq (.block 3 (.ops Qep)) (.ops Qeo)))
def Qen : List GO := [qm 35 4, qj 36 .add 3 35 1, qm 4 36]
def Q9j : LC := (.seq (.seq (.ops Qg4) (.cond (.tmp 34) .skip (.exit 0))) (.seq (.block 1 (.seq (.ops Qg3) (.seq (.ops Qg2) (.seq (.ops Qg1) (.seq (.ops Qg0) (.seq (.ops QfZ) (.seq (.ops Qet) (.seq (.ops Qes) (.seq (.ops Qer) (.block 2 (.loop Q7b))))))))))) (.ops Qen)))
def Qem : List GO := [qm 120 3, qn 121 120, qf 122 121 1, qV 123 2 122, qw 2 2 123]
def code_Check_lc : LC := (.seq (.ops Qg8) (.seq (.ops Qg7) (.seq (.ops Qg6) (.seq (.seq (.ops Qg5) (.block 0 (.loop Q9j))) (.seq (.ops Qem) .ret)))))
@[reducible] def Q2P : FuncId := 25
theorem Qeu : lowF Try.prog Try.f25 = some code_Check_lc := by kernel_rfl
theorem Qg9 {a0 : Value} {w : World} {R : Ending → World → Prop} (h : code_Check_lc.wp Try.prog (retQ Try.prog [.cell 2 47] R) (Qd [a0]) w) : Calls Try.prog Q2P ⟨[a0]⟩ w R :=
  Q4 Try.func25 Qeu (by kernel_rfl) (by kernel_rfl) h

/- 26 -/
/- 27 -/
def QdP : List GO := [qb 2 24 0, qb 3 24 1, qk 4 (.bool false)]
def QdO : List GO := [qf 9 2 0, ql 10 9, qL 11 10, qf 12 3 0, ql 13 12, qL 14 13, qt 15 .neq 3 11 14]
def QdN : List GO := [qk 4 (.bool false)]
def QdM : List GO := [qk 5 (vi 0)]
def QdL : List GO := [qm 16 5, qf 17 2 0, ql 18 17, qL 19 18, qt 20 .lss 3 16 19]
def QdK : List GO := [qf 23 2 0, ql 24 23, qm 25 5, qi 26 4 24 25, qV 27 4 26, qf 28 3 0, ql 29 28, qm 30 5, qi 31 4 29 30, qV 32 4 31, ⟨none, .alloc 6 31 [(vi 0), vn, vn, vn]⟩, ⟨none, .alloc 7 31 [(vi 0), vn, vn, vn]⟩, qw 4 6 27, qw 4 7 32]
def QdR : List (List Nat) := [[],[0],[],[1,2],[3],[],[5],[],[6,7],[8],[],[],[10,4,0,1,2,3,4,10,11],[11,9,12,0,1,2,3,4,5,6,7,8,9,10,11,12]]
def QdJ : List GO := [qf 33 6 0, ql 34 33, qf 35 7 0, ql 36 35, qt 37 .neq 3 34 36, qm 38 37, qg 38 false (qf 39 6 1), qg 38 false (ql 40 39), qg 38 false (qf 41 7 1), qg 38 false (ql 42 41), ⟨some (38, false), .call (some 43) 41 [(.tmp 40), (.tmp 42)]⟩, ⟨some (38, false), .un 44 .not (.tmp 43)⟩, ⟨none, .pick 45 (.tmp 38) (.const (.bool true)) (.tmp 44)⟩, qm 46 45, qg 46 false (qf 47 6 2), qg 46 false (ql 48 47), qg 46 false (qf 49 7 2), qg 46 false (ql 50 49), ⟨some (46, false), .call (some 51) 41 [(.tmp 48), (.tmp 50)]⟩, ⟨some (46, false), .un 52 .not (.tmp 51)⟩, ⟨none, .pick 53 (.tmp 46) (.const (.bool true)) (.tmp 52)⟩, qm 54 53, qg 54 false (qf 55 6 3), qg 54 false (ql 56 55), qg 54 false (qL 57 56), qg 54 false (qf 58 7 3), qg 54 false (ql 59 58), qg 54 false (qL 60 59), qg 54 false (qt 61 .neq 3 57 60), ⟨none, .pick 62 (.tmp 54) (.const (.bool true)) (.tmp 61)⟩]
def QdI : List GO := [qk 4 (.bool false)]
def QdH : List GO := [qk 8 (vi 0)]
def QdG : List GO := [qm 63 8, qf 64 6 3, ql 65 64, qL 66 65, qt 67 .lss 3 63 66]
def QbD : List GO := [qf 70 6 3, ql 71 70, qm 72 8, qi 73 12 71 72, qV 74 12 73, qf 75 7 3, ql 76 75, qm 77 8, qi 78 12 76 77, qV 79 12 78, ⟨none, .call (some 80) 62 [(.tmp 74), (.tmp 79)]⟩, ⟨none, .un 81 .not (.tmp 80)⟩]
def QbF : List (List Nat) := [[],[0],[],[1,2],[3],[],[5],[],[6,7],[8],[4,9],[10]]
def QbC : List GO := [qk 4 (.bool false)]
def QbB : List GO := [qm 68 8, qj 69 .add 3 68 1, qm 8 69]
def Q33 : LC := (.seq (.seq (.ops QdG) (.cond (.tmp 67) .skip (.exit 2))) (.seq (.block 3 (.seq (.draw QbD QbF) (.cond (.tmp 81) (.seq (.ops QbC) .ret) .skip))) (.ops QbB)))
def QbA : List GO := [qm 21 5, qj 22 .add 3 21 1, qm 5 22]
def Q60 : LC := (.seq (.seq (.ops QdL) (.cond (.tmp 20) .skip (.exit 0))) (.seq (.block 1 (.seq (.draw QdK QdR) (.seq (.seq (.ops QdJ) (.cond (.tmp 62) (.seq (.ops QdI) .ret) .skip)) (.seq (.ops QdH) (.block 2 (.loop Q33)))))) (.ops QbA)))
def Qbz : List GO := [qk 4 (.bool true)]
def R_SameModule_lc : LC := (.seq (.ops QdP) (.seq (.seq (.ops QdO) (.cond (.tmp 15) (.seq (.ops QdN) .ret) .skip)) (.seq (.seq (.ops QdM) (.block 0 (.loop Q60))) (.seq (.ops Qbz) .ret))))
@[reducible] def QK : FuncId := 27
theorem QbE : lowF Try.prog Try.f27 = some R_SameModule_lc := by kernel_rfl
theorem QdQ {a0 a1 : Value} {w : World} {R : Ending → World → Prop} (h : R_SameModule_lc.wp Try.prog (retQ Try.prog [.tmp 4] R) (Qd [a0, a1]) w) : Calls Try.prog QK ⟨[a0, a1]⟩ w R :=
  Q4 Try.func27 QbE (by kernel_rfl) (by kernel_rfl) h

/- 28 -/
/- 29 -/
/- 41 -/
def QeQ : List GO := [qk 4 (.bool false)]
def QeP : List GO := [qm 6 0, qL 7 6, qm 8 1, qL 9 8, qt 10 .neq 3 7 9]
def QeO : List GO := [qk 4 (.bool false)]
def QeN : List GO := [qk 5 (vi 0)]
def QeM : List GO := [qm 11 5, qm 12 0, qL 13 12, qt 14 .lss 3 11 13]
def QeL : List GO := [qm 17 0, qm 18 5, qi 19 3 17 18, qV 20 3 19, qm 21 1, qm 22 5, qi 23 3 21 22, qV 24 3 23, ⟨none, .call (some 25) 87 [(.tmp 20), (.tmp 24)]⟩, ⟨none, .un 26 .not (.tmp 25)⟩]
def QeS : List (List Nat) := [[],[],[0,1],[2],[],[],[4,5],[6],[3,7],[8]]
def QeK : List GO := [qk 4 (.bool false)]
def QeJ : List GO := [qm 15 5, qj 16 .add 3 15 1, qm 5 16]
def Q7d : LC := (.seq (.seq (.ops QeM) (.cond (.tmp 14) .skip (.exit 0))) (.seq (.block 1 (.seq (.draw QeL QeS) (.cond (.tmp 26) (.seq (.ops QeK) .ret) .skip))) (.ops QeJ)))
def QeI : List GO := [qk 4 (.bool true)]
def R_SameTypes_lc : LC := (.seq (.ops QeQ) (.seq (.seq (.ops QeP) (.cond (.tmp 10) (.seq (.ops QeO) .ret) .skip)) (.seq (.seq (.ops QeN) (.block 0 (.loop Q7d))) (.seq (.ops QeI) .ret))))
@[reducible] def Q1Y : FuncId := 41
theorem QdF : lowF Try.prog Try.f41 = some R_SameTypes_lc := by kernel_rfl
theorem QeR {a0 a1 : Value} {w : World} {R : Ending → World → Prop} (h : R_SameTypes_lc.wp Try.prog (retQ Try.prog [.tmp 4] R) (Qd [a0, a1]) w) : Calls Try.prog Q1Y ⟨[a0, a1]⟩ w R :=
  Q4 Try.func41 QdF (by kernel_rfl) (by kernel_rfl) h

/- 42 -/
def Qgw : List GO := [qk 4 (.bool false)]
def Qgv : List GO := [qm 6 0, qL 7 6, qm 8 1, qL 9 8, qt 10 .neq 3 7 9]
def Qgu : List GO := [qk 4 (.bool false)]
def Qgt : List GO := [qk 5 (vi 0)]
def Qgs : List GO := [qm 11 5, qm 12 0, qL 13 12, qt 14 .lss 3 11 13]
def Qgr : List GO := [qm 17 0, qm 18 5, qi 19 1 17 18, ql 20 19, qm 21 1, qm 22 5, qi 23 1 21 22, ql 24 23, qt 25 .neq 3 20 24]
def Qgy : List (List Nat) := [[],[],[0,1],[2],[],[],[4,5],[6],[3,7]]
def Qgq : List GO := [qk 4 (.bool false)]
def Qgp : List GO := [qm 15 5, qj 16 .add 3 15 1, qm 5 16]
def Q9n : LC := (.seq (.seq (.ops Qgs) (.cond (.tmp 14) .skip (.exit 0))) (.seq (.block 1 (.seq (.draw Qgr Qgy) (.cond (.tmp 25) (.seq (.ops Qgq) .ret) .skip))) (.ops Qgp)))
def Qgo : List GO := [qk 4 (.bool true)]
def R_SameInts_lc : LC := (.seq (.ops Qgw) (.seq (.seq (.ops Qgv) (.cond (.tmp 10) (.seq (.ops Qgu) .ret) .skip)) (.seq (.seq (.ops Qgt) (.block 0 (.loop Q9n))) (.seq (.ops Qgo) .ret))))
@[reducible] def Q2Q : FuncId := 42
theorem QeU : lowF Try.prog Try.f42 = some R_SameInts_lc := by kernel_rfl
theorem Qgx {a0 a1 : Value} {w : World} {R : Ending → World → Prop} (h : R_SameInts_lc.wp Try.prog (retQ Try.prog [.tmp 4] R) (Qd [a0, a1]) w) : Calls Try.prog Q2Q ⟨[a0, a1]⟩ w R :=
  Q4 Try.func42 QeU (by kernel_rfl) (by kernel_rfl) h

/- 45 -/
def Qhz : List GO := [⟨none, .alloc 0 24 [vn]⟩]
def Qhy : List GO := [⟨none, .build 1 [(vi 0), (vi 0), (vi 0), vn, vn, (vi 0), vn, vn, vn] [(0, (1, (.const (vi 3))))]⟩, ⟨none, .build 2 [(vi 0), vn, vn, (vi 0), (vi 0), (vi 0), vn, vn, (vi 0), vn, vn, vn] [(3, (9, (.tmp 1)))]⟩, ⟨none, .buildS 3 77 1 [(vi 0), vn, vn, (vi 0), (vi 0), (vi 0), vn, vn, (vi 0), vn, vn, vn] [(0, (12, (.tmp 2)))]⟩, ⟨none, .build 4 [(vi 0), vn, vn, vn] [(3, (1, (.tmp 3)))]⟩, ⟨none, .buildS 5 31 1 [(vi 0), vn, vn, vn] [(0, (4, (.tmp 4)))]⟩, ⟨none, .build 6 [vn] [(0, (1, (.tmp 5)))]⟩, qw 1 0 6]
def Law_least_lc : LC := (.seq (.ops Qhz) (.seq (.ops Qhy) .ret))
@[reducible] def QhB : FuncId := 45
theorem Qgz : lowF Try.prog Try.f45 = some Law_least_lc := by kernel_rfl
theorem QhA {w : World} {R : Ending → World → Prop} (h : Law_least_lc.wp Try.prog (retQ Try.prog [.cell 0 24] R) (Qd []) w) : Calls Try.prog QhB ⟨[]⟩ w R :=
  Q4 Try.func45 Qgz (by kernel_rfl) (by kernel_rfl) h

/- 46 -/
def QdD : List GO := [qk 2 (.bool false)]
def QdC : List GO := [qm 4 0, qL 5 4, qj 6 .gtr 3 5 200]
def QdB : List GO := [qk 2 (.bool true)]
def QdA : List GO := [qk 3 (vi 0)]
def Qdz : List GO := [qm 7 3, qm 8 0, qL 9 8, qt 10 .lss 3 7 9]
def Qdy : List GO := [qm 13 0, qm 14 3, qi 15 3 13 14, qV 16 3 15, ⟨none, .call (some 17) 89 [(.tmp 16)]⟩]
def Qdx : List GO := [qk 2 (.bool true)]
def Qdw : List GO := [qm 11 3, qj 12 .add 3 11 1, qm 3 12]
def Q5Z : LC := (.seq (.seq (.ops Qdz) (.cond (.tmp 10) .skip (.exit 0))) (.seq (.block 1 (.seq (.ops Qdy) (.cond (.tmp 17) (.seq (.ops Qdx) .ret) .skip))) (.ops Qdw)))
def Qdv : List GO := [qk 2 (.bool false)]
def R_greatTypes_lc : LC := (.seq (.ops QdD) (.seq (.seq (.ops QdC) (.cond (.tmp 6) (.seq (.ops QdB) .ret) .skip)) (.seq (.seq (.ops QdA) (.block 0 (.loop Q5Z))) (.seq (.ops Qdv) .ret))))
@[reducible] def Q21 : FuncId := 46
theorem Qby : lowF Try.prog Try.f46 = some R_greatTypes_lc := by kernel_rfl
theorem QdE {a0 : Value} {w : World} {R : Ending → World → Prop} (h : R_greatTypes_lc.wp Try.prog (retQ Try.prog [.tmp 2] R) (Qd [a0]) w) : Calls Try.prog Q21 ⟨[a0]⟩ w R :=
  Q4 Try.func46 Qby (by kernel_rfl) (by kernel_rfl) h

/- 47 -/
def Qaa : List GO := [qb 3 27 1]
def Qa9 : List GO := [qm 5 0, qf 6 3 0, ql 7 6, qj 8 .lss 3 7 1, qm 9 8, qg 9 false (qf 10 3 0), qg 9 false (ql 11 10), qg 9 false (qj 12 .gtr 3 11 14), ⟨none, .pick 13 (.tmp 9) (.const (.bool true)) (.tmp 12)⟩, ⟨none, .call (some 14) 54 [(.tmp 5), (.tmp 13), (.const (vi 3))]⟩]
def Qa8 : List GO := [qf 15 3 0, ql 16 15, ⟨none, .call (some 17) 90 [(.tmp 16)]⟩, qm 4 17]
def Qa7 : List GO := [qm 18 0, qm 19 4, ⟨none, .call (some 20) 91 [(.tmp 19), (.const (.int .u8 97))]⟩, ⟨none, .un 21 .not (.tmp 20)⟩, qm 22 21, qg 22 true (qf 23 3 1), qg 22 true (ql 24 23), qg 22 true (qj 25 .neq 3 24 0), ⟨none, .pick 26 (.tmp 22) (.tmp 25) (.const (.bool false))⟩, qm 27 26, qg 27 false (qm 28 4), ⟨some (27, false), .call (some 29) 91 [(.tmp 28), (.const (.int .u8 98))]⟩, ⟨some (27, false), .un 30 .not (.tmp 29)⟩, qg 27 false (qm 31 30), qg 31 true (qf 32 3 2), qg 31 true (ql 33 32), qg 31 true (qj 34 .neq 3 33 0), ⟨some (27, false), .pick 35 (.tmp 31) (.tmp 34) (.const (.bool false))⟩, ⟨none, .pick 36 (.tmp 27) (.const (.bool true)) (.tmp 35)⟩, qm 37 36, qg 37 false (qm 38 4), ⟨some (37, false), .call (some 39) 91 [(.tmp 38), (.const (.int .u8 99))]⟩, ⟨some (37, false), .un 40 .not (.tmp 39)⟩, qg 37 false (qm 41 40), qg 41 true (qf 42 3 3), qg 41 true (ql 43 42), qg 41 true (qj 44 .neq 3 43 0), ⟨some (37, false), .pick 45 (.tmp 41) (.tmp 44) (.const (.bool false))⟩, ⟨none, .pick 46 (.tmp 37) (.const (.bool true)) (.tmp 45)⟩, qm 47 46, qg 47 false (qm 48 4), ⟨some (47, false), .call (some 49) 91 [(.tmp 48), (.const (.int .u8 107))]⟩, ⟨some (47, false), .un 50 .not (.tmp 49)⟩, qg 47 false (qm 51 50), qg 51 true (qf 52 3 4), qg 51 true (ql 53 52), qg 51 true (qj 54 .neq 3 53 0), ⟨some (47, false), .pick 55 (.tmp 51) (.tmp 54) (.const (.bool false))⟩, ⟨none, .pick 56 (.tmp 47) (.const (.bool true)) (.tmp 55)⟩, qm 57 56, qg 57 false (qm 58 4), ⟨some (57, false), .call (some 59) 91 [(.tmp 58), (.const (.int .u8 110))]⟩, ⟨some (57, false), .un 60 .not (.tmp 59)⟩, qg 57 false (qm 61 60), qg 61 true (qf 62 3 5), qg 61 true (ql 63 62), qg 61 true (qj 64 .neq 2 63 0), ⟨some (57, false), .pick 65 (.tmp 61) (.tmp 64) (.const (.bool false))⟩, ⟨none, .pick 66 (.tmp 57) (.const (.bool true)) (.tmp 65)⟩, qm 67 66, qg 67 false (qm 68 4), ⟨some (67, false), .call (some 69) 91 [(.tmp 68), (.const (.int .u8 103))]⟩, ⟨some (67, false), .un 70 .not (.tmp 69)⟩, qg 67 false (qm 71 70), qg 71 true (qf 72 3 6), qg 71 true (ql 73 72), qg 71 true (qL 74 73), qg 71 true (qj 75 .gtr 3 74 0), ⟨some (67, false), .pick 76 (.tmp 71) (.tmp 75) (.const (.bool false))⟩, ⟨none, .pick 77 (.tmp 67) (.const (.bool true)) (.tmp 76)⟩, qm 78 77, qg 78 false (qm 79 4), ⟨some (78, false), .call (some 80) 91 [(.tmp 79), (.const (.int .u8 114))]⟩, ⟨some (78, false), .un 81 .not (.tmp 80)⟩, qg 78 false (qm 82 81), qg 82 true (qf 83 3 7), qg 82 true (ql 84 83), qg 82 true (qL 85 84), qg 82 true (qj 86 .gtr 3 85 0), ⟨some (78, false), .pick 87 (.tmp 82) (.tmp 86) (.const (.bool false))⟩, ⟨none, .pick 88 (.tmp 78) (.const (.bool true)) (.tmp 87)⟩, ⟨none, .call (some 89) 54 [(.tmp 18), (.tmp 88), (.const (vi 4))]⟩]
def Qa6 : List GO := [qf 90 3 0, ql 91 90]
def Qa5 : List GO := [qj 93 .eql 3 91 2, qm 92 93]
def Qa4 : List GO := [qm 94 0, qf 95 3 4, ql 96 95, qj 97 .lss 3 96 1, qm 98 97, qg 98 false (qf 99 3 4), qg 98 false (ql 100 99), qg 98 false (qj 101 .gtr 3 100 9), ⟨none, .pick 102 (.tmp 98) (.const (.bool true)) (.tmp 101)⟩, ⟨none, .call (some 103) 54 [(.tmp 94), (.tmp 102), (.const (vi 1))]⟩]
def Qa3 : List GO := [qj 105 .eql 3 91 5, qm 104 105]
def Qa2 : List GO := [qm 106 0, qf 107 3 7, ql 108 107, qL 109 108, qj 110 .gtr 3 109 8, ⟨none, .call (some 111) 54 [(.tmp 106), (.tmp 110), (.const (vi 2))]⟩]
def Qa1 : List GO := [qj 113 .eql 3 91 6, qm 112 113]
def Q9d : List GO := [qj 114 .eql 3 91 7, qm 112 114]
def Q9c : List GO := [qm 115 0, qf 116 3 4, ql 117 116, qj 118 .lss 3 117 0, qm 119 118, qg 119 false (qf 120 3 4), qg 119 false (ql 121 120), qg 119 false (qj 122 .geq 3 121 8), ⟨none, .pick 123 (.tmp 119) (.const (.bool true)) (.tmp 122)⟩, ⟨none, .call (some 124) 54 [(.tmp 115), (.tmp 123), (.const (vi 1))]⟩]
def Q9b : List GO := [qj 126 .eql 3 91 14, qm 125 126]
def Q9a : List GO := [qm 127 0, qf 128 3 4, ql 129 128, qj 130 .lss 3 129 0, qm 131 130, qg 131 false (qf 132 3 4), qg 131 false (ql 133 132), qg 131 false (qm 134 0), qg 131 false (qn 135 134), qg 131 false (qf 136 135 0), qg 131 false (qf 137 136 0), qg 131 false (ql 138 137), qg 131 false (qL 139 138), qg 131 false (qt 140 .geq 3 133 139), ⟨none, .pick 141 (.tmp 131) (.const (.bool true)) (.tmp 140)⟩, ⟨none, .call (some 142) 54 [(.tmp 127), (.tmp 141), (.const (vi 1))]⟩]
def Q9f : List (List Nat) := [[],[],[1],[2],[3],[4],[5,4],[4],[7,4],[8,4],[9,4],[10,4],[11,4],[6,12,4],[4,13],[0,14,4]]
def Q99 : List GO := [qm 143 0, qf 144 3 6, ql 145 144, qL 146 145, qj 147 .gtr 3 146 6, qm 148 147, qg 148 false (qf 149 3 7), qg 148 false (ql 150 149), qg 148 false (qL 151 150), qg 148 false (qj 152 .gtr 3 151 8), ⟨none, .pick 153 (.tmp 148) (.const (.bool true)) (.tmp 152)⟩, ⟨none, .call (some 154) 54 [(.tmp 143), (.tmp 153), (.const (vi 2))]⟩]
def code_judge_ins_lc : LC := (.seq (.ops Qaa) (.seq (.ops Qa9) (.seq (.ops Qa8) (.seq (.ops Qa7) (.seq (.ops Qa6) (.block 0 (.seq (.ops Qa5) (.cond (.tmp 92) (.ops Qa4) (.seq (.ops Qa3) (.cond (.tmp 104) (.ops Qa2) (.seq (.seq (.ops Qa1) (.cond (.tmp 112) .skip (.ops Q9d))) (.cond (.tmp 112) (.ops Q9c) (.seq (.ops Q9b) (.cond (.tmp 125) (.seq (.draw Q9a Q9f) (.ops Q99)) .skip))))))))))))))
@[reducible] def Qx : FuncId := 47
theorem Q9e : lowF Try.prog Try.f47 = some code_judge_ins_lc := by kernel_rfl
theorem Qab {a0 a1 : Value} {w : World} {R : Ending → World → Prop} (h : code_judge_ins_lc.wp Try.prog (retQ Try.prog [] R) (Qd [a0, a1]) w) : Calls Try.prog Qx ⟨[a0, a1]⟩ w R :=
  Q4 Try.func47 Q9e (by kernel_rfl) (by kernel_rfl) h

/- 48 -/
/- 49 -/
def Qah : List GO := [qb 4 31 1, qb 5 35 2]
def Qag : List GO := [qm 6 0, qf 7 5 0, ql 8 7, qj 9 .lss 3 8 1, qm 10 9, qg 10 false (qf 11 5 0), qg 10 false (ql 12 11), qg 10 false (qj 13 .gtr 3 12 3), ⟨none, .pick 14 (.tmp 10) (.const (.bool true)) (.tmp 13)⟩, ⟨none, .call (some 15) 54 [(.tmp 6), (.tmp 14), (.const (vi 3))]⟩]
def Qaf : List GO := [qm 16 0, qf 17 5 0, ql 18 17, qj 19 .neq 3 18 2, qm 20 19, qg 20 true (qf 21 5 1), qg 20 true (ql 22 21), qg 20 true (qj 23 .neq 3 22 0), ⟨none, .pick 24 (.tmp 20) (.tmp 23) (.const (.bool false))⟩, qm 25 24, qg 25 false (qf 26 5 0), qg 25 false (ql 27 26), qg 25 false (qj 28 .neq 3 27 3), qg 25 false (qm 29 28), qg 29 true (qf 30 5 8), qg 29 true (ql 31 30), qg 29 true (qL 32 31), qg 29 true (qj 33 .gtr 3 32 0), ⟨some (25, false), .pick 34 (.tmp 29) (.tmp 33) (.const (.bool false))⟩, ⟨none, .pick 35 (.tmp 25) (.const (.bool true)) (.tmp 34)⟩, ⟨none, .call (some 36) 54 [(.tmp 16), (.tmp 35), (.const (vi 4))]⟩]
def Qae : List GO := [qm 37 0, qf 38 5 8, ql 39 38, qL 40 39, qj 41 .gtr 3 40 8, ⟨none, .call (some 42) 54 [(.tmp 37), (.tmp 41), (.const (vi 2))]⟩]
def Qad : List GO := [qm 43 0, qV 44 4 4, qf 45 5 2, qV 46 3 45, qf 47 5 0, ql 48 47, qj 49 .neq 3 48 3, ⟨none, .call (some 50) 92 [(.tmp 43), (.tmp 44), (.tmp 46), (.tmp 49)]⟩]
def Qac : List GO := [qm 51 0, qV 52 4 4, qf 53 5 5, qV 54 3 53, qf 55 5 0, ql 56 55, qj 57 .eql 3 56 2, ⟨none, .call (some 58) 92 [(.tmp 51), (.tmp 52), (.tmp 54), (.tmp 57)]⟩]
def code_judge_end_lc : LC := (.seq (.ops Qah) (.seq (.ops Qag) (.seq (.ops Qaf) (.seq (.ops Qae) (.seq (.ops Qad) (.ops Qac))))))
@[reducible] def Q7a : FuncId := 49
theorem Q9i : lowF Try.prog Try.f49 = some code_judge_end_lc := by kernel_rfl
theorem Qai {a0 a1 a2 : Value} {w : World} {R : Ending → World → Prop} (h : code_judge_end_lc.wp Try.prog (retQ Try.prog [] R) (Qd [a0, a1, a2]) w) : Calls Try.prog Q7a ⟨[a0, a1, a2]⟩ w R :=
  Q4 Try.func49 Q9i (by kernel_rfl) (by kernel_rfl) h

/- 50 -/
/- 51 -/
/- 52 -/
/- 53 -/
/- 54 -/
def Q9h : List GO := [qm 6 1, qm 7 6, qg 7 true (qm 8 0), qg 7 true (qn 9 8), qg 7 true (qf 10 9 1), qg 7 true (qf 11 10 0), qg 7 true (ql 12 11), qg 7 true (qj 13 .eql 3 12 0), ⟨none, .pick 14 (.tmp 7) (.tmp 13) (.const (.bool false))⟩]
def Q9g : List GO := [qm 15 0, qm 16 2, qm 17 0, qn 18 17, qf 19 18 3, ql 20 19, ⟨none, .build 21 [(vi 0), (vi 0)] [(0, (1, (.tmp 16))), (1, (1, (.tmp 20)))]⟩, qn 22 15, qf 23 22 1, qw 2 23 21]
def code_judge_fail_lc : LC := (.seq (.ops Q9h) (.cond (.tmp 14) (.ops Q9g) .skip))
@[reducible] def Q2a : FuncId := 54
theorem Q8h : lowF Try.prog Try.f54 = some code_judge_fail_lc := by kernel_rfl
theorem Q29 {a0 a1 a2 : Value} {w : World} {R : Ending → World → Prop} (h : code_judge_fail_lc.wp Try.prog (retQ Try.prog [] R) (Qd [a0, a1, a2]) w) : Calls Try.prog Q2a ⟨[a0, a1, a2]⟩ w R :=
  Q4 Try.func54 Q8h (by kernel_rfl) (by kernel_rfl) h

/- 55 -/
def Q97 : List GO := [qm 9 0, qm 10 1, qL 11 10, qj 12 .gtr 3 11 8, ⟨none, .call (some 13) 54 [(.tmp 9), (.tmp 12), (.const (vi 2))]⟩]
def Q96 : List GO := [qm 14 1, qL 15 14, qk 16 (vi 0)]
def Q95 : List GO := [qt 17 .lss 3 16 15]
def Q94 : List GO := [qi 18 3 14 16, qV 19 3 18, ⟨none, .alloc 7 65 [(vi 0), (vi 0), vn]⟩, qw 3 7 19]
def Q93 : List GO := [qV 20 3 7, qm 21 2, ⟨none, .call (some 22) 94 [(.tmp 20), (.tmp 21)]⟩, qm 8 22]
def Q92 : List GO := [qm 23 0, qm 24 8, qj 25 .neq 3 24 0, qm 26 8, ⟨none, .call (some 27) 54 [(.tmp 23), (.tmp 25), (.tmp 26)]⟩]
def Q91 : List GO := [qj 28 .add 3 16 1, qm 16 28]
def Q3d : LC := (.seq (.ops Q95) (.seq (.cond (.tmp 17) .skip (.exit 0)) (.seq (.block 1 (.seq (.ops Q94) (.seq (.ops Q93) (.ops Q92)))) (.ops Q91))))
def code_judge_list_lc : LC := (.seq (.ops Q97) (.seq (.ops Q96) (.block 0 (.loop Q3d))))
@[reducible] def Q5W : FuncId := 55
theorem Q8g : lowF Try.prog Try.f55 = some code_judge_list_lc := by kernel_rfl
theorem Q98 {a0 a1 a2 : Value} {w : World} {R : Ending → World → Prop} (h : code_judge_list_lc.wp Try.prog (retQ Try.prog [] R) (Qd [a0, a1, a2]) w) : Calls Try.prog Q5W ⟨[a0, a1, a2]⟩ w R :=
  Q4 Try.func55 Q8g (by kernel_rfl) (by kernel_rfl) h

/- 56 -/
def Q1y : List GO := [qk 4 (.bool false)]
def Q1x : List GO := [qm 5 0, qm 6 1, ⟨none, .call (some 7) 95 [(.tmp 5), (.tmp 6)]⟩, qj 8 .geq 3 7 0, qm 4 8]
def slices_ContainsFunc_api_Type_api_Type_lc : LC := (.seq (.ops Q1y) (.seq (.ops Q1x) .ret))
@[reducible] def Q19 : FuncId := 56
theorem Q1u : lowF Try.prog Try.f56 = some slices_ContainsFunc_api_Type_api_Type_lc := by kernel_rfl
theorem Q1z {a0 a1 : Value} {w : World} {R : Ending → World → Prop} (h : slices_ContainsFunc_api_Type_api_Type_lc.wp Try.prog (retQ Try.prog [.tmp 4] R) (Qd [a0, a1]) w) : Calls Try.prog Q19 ⟨[a0, a1]⟩ w R :=
  Q4 Try.func56 Q1u (by kernel_rfl) (by kernel_rfl) h

/- 57 -/
def Qdo : List GO := [qb 1 65 0, qk 2 (.bool false)]
def Qdn : List GO := [qf 3 1 0, ql 4 3, qj 5 .neq 3 4 1, qm 2 5]
def code_Check_1_lc : LC := (.seq (.ops Qdo) (.seq (.ops Qdn) .ret))
@[reducible] def Q3e : FuncId := 57
theorem Qbw : lowF Try.prog Try.f57 = some code_Check_1_lc := by kernel_rfl
theorem Qdp {a0 : Value} {w : World} {R : Ending → World → Prop} (h : code_Check_1_lc.wp Try.prog (retQ Try.prog [.tmp 2] R) (Qd [a0]) w) : Calls Try.prog Q3e ⟨[a0]⟩ w R :=
  Q4 Try.func57 Qbw (by kernel_rfl) (by kernel_rfl) h

/- 58 -/
def Q8r : List GO := [qm 9 0, qn 10 9, qf 11 10 0, qf 12 11 0, ql 13 12, qm 14 1, qi 15 4 13 14, qV 16 4 15, ⟨none, .alloc 6 31 [(vi 0), vn, vn, vn]⟩, qw 4 6 16]
def Q8q : List GO := [qf 17 6 3, ql 18 17, qm 19 2, qi 20 12 18 19, qV 21 12 20, ⟨none, .alloc 7 77 [(vi 0), vn, vn, (vi 0), (vi 0), (vi 0), vn, vn, (vi 0), vn, vn, vn]⟩, qw 12 7 21]
def Q8p : List GO := [qm 22 0, qm 23 1, qm 24 2, ⟨none, .call (some 25) 18 [(.tmp 23), (.tmp 24)]⟩, qn 26 22, qf 27 26 3, qs 27 25]
def Q8o : List GO := [qm 28 0, qf 29 7 0, ql 30 29, qf 31 6 0, ql 32 31, qt 33 .lss 3 30 32, qm 34 33, qg 34 false (qf 35 7 0), qg 34 false (ql 36 35), qg 34 false (qj 37 .gtr 3 36 16), ⟨none, .pick 38 (.tmp 34) (.const (.bool true)) (.tmp 37)⟩, ⟨none, .call (some 39) 54 [(.tmp 28), (.tmp 38), (.const (vi 1))]⟩]
def Q8n : List GO := [qm 40 0, qf 41 7 1, ql 42 41, qf 43 7 0, ql 44 43, ⟨none, .call (some 45) 55 [(.tmp 40), (.tmp 42), (.tmp 44)]⟩]
def Q8m : List GO := [qm 46 0, qm 47 2, qj 48 .eql 3 47 0, qm 49 48, qg 49 true (qf 50 7 0), qg 49 true (ql 51 50), qg 49 true (qf 52 6 0), qg 49 true (ql 53 52), qg 49 true (qt 54 .neq 3 51 53), qg 49 true (qm 55 54), qg 55 false (qf 56 7 1), qg 55 false (ql 57 56), qg 55 false (qf 58 6 1), qg 55 false (ql 59 58), ⟨some (55, false), .call (some 60) 68 [(.tmp 57), (.tmp 59), (.func 69)]⟩, ⟨some (55, false), .un 61 .not (.tmp 60)⟩, ⟨some (49, true), .pick 62 (.tmp 55) (.const (.bool true)) (.tmp 61)⟩, ⟨none, .pick 63 (.tmp 49) (.tmp 62) (.const (.bool false))⟩, ⟨none, .call (some 64) 54 [(.tmp 46), (.tmp 63), (.const (vi 9))]⟩]
def Q8l : List GO := [qm 65 0, qf 66 7 2, ql 67 66, qL 68 67, qj 69 .gtr 3 68 40, ⟨none, .call (some 70) 54 [(.tmp 65), (.tmp 69), (.const (vi 2))]⟩]
def Q8k : List GO := [qk 8 (vi 0)]
def Q8j : List GO := [qm 71 8, qf 72 7 2, ql 73 72, qL 74 73, qt 75 .lss 3 71 74, qm 76 75, qg 76 true (qm 77 0), qg 76 true (qn 78 77), qg 76 true (qf 79 78 1), qg 76 true (qf 80 79 0), qg 76 true (ql 81 80), qg 76 true (qj 82 .eql 3 81 0), ⟨none, .pick 83 (.tmp 76) (.tmp 82) (.const (.bool false))⟩]
def Q8i : List GO := [qm 86 0, qm 87 1, qm 88 2, qm 89 8, ⟨none, .call (some 90) 22 [(.tmp 87), (.tmp 88), (.tmp 89)]⟩, qn 91 86, qf 92 91 3, qs 92 90]
def Q74 : List GO := [qm 93 0, qf 94 7 2, ql 95 94, qm 96 8, qi 97 8 95 96, qV 98 8 97, ⟨none, .call (some 99) 47 [(.tmp 93), (.tmp 98)]⟩]
def Q73 : List GO := [qm 84 8, qj 85 .add 3 84 1, qm 8 85]
def Q31 : LC := (.seq (.seq (.ops Q8j) (.cond (.tmp 83) .skip (.exit 0))) (.seq (.block 1 (.seq (.ops Q8i) (.ops Q74))) (.ops Q73)))
def Q72 : List GO := [qm 100 0, qm 101 1, qm 102 2, ⟨none, .call (some 103) 20 [(.tmp 101), (.tmp 102)]⟩, qn 104 100, qf 105 104 3, qs 105 103]
def Q71 : List GO := [qm 106 0, qV 107 4 6, qf 108 7 3, qV 109 9 108, ⟨none, .call (some 110) 49 [(.tmp 106), (.tmp 107), (.tmp 109)]⟩]
def code_judge_block_lc : LC := (.seq (.ops Q8r) (.seq (.ops Q8q) (.seq (.ops Q8p) (.seq (.ops Q8o) (.seq (.ops Q8n) (.seq (.ops Q8m) (.seq (.ops Q8l) (.seq (.seq (.ops Q8k) (.block 0 (.loop Q31))) (.seq (.ops Q72) (.ops Q71))))))))))
@[reducible] def Q1V : FuncId := 58
theorem Q75 : lowF Try.prog Try.f58 = some code_judge_block_lc := by kernel_rfl
theorem Q8s {a0 a1 a2 : Value} {w : World} {R : Ending → World → Prop} (h : code_judge_block_lc.wp Try.prog (retQ Try.prog [] R) (Qd [a0, a1, a2]) w) : Calls Try.prog Q1V ⟨[a0, a1, a2]⟩ w R :=
  Q4 Try.func58 Q75 (by kernel_rfl) (by kernel_rfl) h

/- 59 -/
/- 60 -/
/- 61 -/
/- 62 -/
def QeF : List GO := [qb 2 77 0, qb 3 77 1, qk 4 (.bool false)]
def QeE : List GO := [qf 6 2 0, ql 7 6, qf 8 3 0, ql 9 8, qt 10 .neq 3 7 9, qm 11 10, qg 11 false (qf 12 2 1), qg 11 false (ql 13 12), qg 11 false (qf 14 3 1), qg 11 false (ql 15 14), ⟨some (11, false), .call (some 16) 41 [(.tmp 13), (.tmp 15)]⟩, ⟨some (11, false), .un 17 .not (.tmp 16)⟩, ⟨none, .pick 18 (.tmp 11) (.const (.bool true)) (.tmp 17)⟩, qm 19 18, qg 19 false (qf 20 2 2), qg 19 false (ql 21 20), qg 19 false (qL 22 21), qg 19 false (qf 23 3 2), qg 19 false (ql 24 23), qg 19 false (qL 25 24), qg 19 false (qt 26 .neq 3 22 25), ⟨none, .pick 27 (.tmp 19) (.const (.bool true)) (.tmp 26)⟩]
def QeD : List GO := [qk 4 (.bool false)]
def QeC : List GO := [qk 5 (vi 0)]
def QeB : List GO := [qm 28 5, qf 29 2 2, ql 30 29, qL 31 30, qt 32 .lss 3 28 31]
def QeA : List GO := [qf 35 2 2, ql 36 35, qm 37 5, qi 38 8 36 37, qV 39 8 38, qf 40 3 2, ql 41 40, qm 42 5, qi 43 8 41 42, qV 44 8 43, ⟨none, .call (some 45) 97 [(.tmp 39), (.tmp 44)]⟩, ⟨none, .un 46 .not (.tmp 45)⟩]
def QeH : List (List Nat) := [[],[0],[],[1,2],[3],[],[5],[],[6,7],[8],[4,9],[10]]
def Qez : List GO := [qk 4 (.bool false)]
def Qey : List GO := [qm 33 5, qj 34 .add 3 33 1, qm 5 34]
def Q7c : LC := (.seq (.seq (.ops QeB) (.cond (.tmp 32) .skip (.exit 0))) (.seq (.block 1 (.seq (.draw QeA QeH) (.cond (.tmp 46) (.seq (.ops Qez) .ret) .skip))) (.ops Qey)))
def Qex : List GO := [qf 47 2 3, qf 48 47 0, ql 49 48, qf 50 3 3, qf 51 50 0, ql 52 51, qt 53 .eql 3 49 52, qm 54 53, qg 54 true (qf 55 2 3), qg 54 true (qf 56 55 1), qg 54 true (ql 57 56), qg 54 true (qf 58 3 3), qg 54 true (qf 59 58 1), qg 54 true (ql 60 59), qg 54 true (qt 61 .eql 3 57 60), ⟨none, .pick 62 (.tmp 54) (.tmp 61) (.const (.bool false))⟩, qm 63 62, qg 63 true (qf 64 2 3), qg 63 true (qf 65 64 2), qg 63 true (qV 66 3 65), qg 63 true (qf 67 3 3), qg 63 true (qf 68 67 2), qg 63 true (qV 69 3 68), ⟨some (63, true), .call (some 70) 98 [(.tmp 66), (.tmp 69)]⟩, ⟨none, .pick 71 (.tmp 63) (.tmp 70) (.const (.bool false))⟩, qm 72 71, qg 72 true (qf 73 2 3), qg 72 true (qf 74 73 5), qg 72 true (qV 75 3 74), qg 72 true (qf 76 3 3), qg 72 true (qf 77 76 5), qg 72 true (qV 78 3 77), ⟨some (72, true), .call (some 79) 98 [(.tmp 75), (.tmp 78)]⟩, ⟨none, .pick 80 (.tmp 72) (.tmp 79) (.const (.bool false))⟩, qm 81 80, qg 81 true (qf 82 2 3), qg 81 true (qf 83 82 8), qg 81 true (ql 84 83), qg 81 true (qf 85 3 3), qg 81 true (qf 86 85 8), qg 81 true (ql 87 86), ⟨some (81, true), .call (some 88) 42 [(.tmp 84), (.tmp 87)]⟩, ⟨none, .pick 89 (.tmp 81) (.tmp 88) (.const (.bool false))⟩, qm 4 89]
def R_sameBlock_lc : LC := (.seq (.ops QeF) (.seq (.seq (.ops QeE) (.cond (.tmp 27) (.seq (.ops QeD) .ret) .skip)) (.seq (.seq (.ops QeC) (.block 0 (.loop Q7c))) (.seq (.ops Qex) .ret))))
@[reducible] def Q2j : FuncId := 62
theorem Qdu : lowF Try.prog Try.f62 = some R_sameBlock_lc := by kernel_rfl
theorem QeG {a0 a1 : Value} {w : World} {R : Ending → World → Prop} (h : R_sameBlock_lc.wp Try.prog (retQ Try.prog [.tmp 4] R) (Qd [a0, a1]) w) : Calls Try.prog Q2j ⟨[a0, a1]⟩ w R :=
  Q4 Try.func62 Qdu (by kernel_rfl) (by kernel_rfl) h

/- 63 -/
/- 64 -/
/- 65 -/
/- 66 -/
/- 67 -/
/- 68 -/
def Q13 : List GO := [qk 6 (.bool false)]
def Q12 : List GO := [qm 10 0, qL 11 10, qm 12 1, qL 13 12, qt 14 .neq 3 11 13]
def Q11 : List GO := [qk 6 (.bool false)]
def Q10 : List GO := [qm 15 0, qL 16 15, qk 17 (vi 0)]
def QZ : List GO := [qt 18 .lss 3 17 16]
def QY : List GO := [qm 19 17, qi 20 3 15 17, qV 21 3 20, ⟨none, .alloc 8 65 [(vi 0), (vi 0), vn]⟩, qm 7 19, qw 3 8 21]
def QX : List GO := [qm 22 1, qm 23 7, qi 24 3 22 23, qV 25 3 24, ⟨none, .alloc 9 65 [(vi 0), (vi 0), vn]⟩, qw 3 9 25]
def QW : List GO := [qm 26 2, qV 27 3 8, qV 28 3 9, ⟨none, .callv (some 29) (.tmp 26) [(.tmp 27), (.tmp 28)]⟩, ⟨none, .un 30 .not (.tmp 29)⟩]
def QV : List GO := [qk 6 (.bool false)]
def QU : List GO := [qj 31 .add 3 17 1, qm 17 31]
def Qn : LC := (.seq (.ops QZ) (.seq (.cond (.tmp 18) .skip (.exit 0)) (.seq (.block 1 (.seq (.ops QY) (.seq (.ops QX) (.seq (.ops QW) (.cond (.tmp 30) (.seq (.ops QV) .ret) .skip))))) (.ops QU))))
def QQ : List GO := [qk 6 (.bool true)]
def slices_EqualFunc_api_Type_api_Type_api_Type_api_Type_lc : LC := (.seq (.ops Q13) (.seq (.seq (.ops Q12) (.cond (.tmp 14) (.seq (.ops Q11) .ret) .skip)) (.seq (.seq (.ops Q10) (.block 0 (.loop Qn))) (.seq (.ops QQ) .ret))))
@[reducible] def Q9 : FuncId := 68
theorem QR : lowF Try.prog Try.f68 = some slices_EqualFunc_api_Type_api_Type_api_Type_api_Type_lc := by kernel_rfl
theorem Q14 {a0 a1 a2 : Value} {w : World} {R : Ending → World → Prop} (h : slices_EqualFunc_api_Type_api_Type_api_Type_api_Type_lc.wp Try.prog (retQ Try.prog [.tmp 6] R) (Qd [a0, a1, a2]) w) : Calls Try.prog Q9 ⟨[a0, a1, a2]⟩ w R :=
  Q4 Try.func68 QR (by kernel_rfl) (by kernel_rfl) h

/- 69 -/
def Qfs : List GO := [qb 2 65 0, qb 3 65 1, qk 4 (.bool false)]
def Qfr : List GO := [qf 5 2 0, ql 6 5, qf 7 3 0, ql 8 7, qt 9 .eql 3 6 8, qm 10 9, qg 10 true (qf 11 2 1), qg 10 true (ql 12 11), qg 10 true (qf 13 3 1), qg 10 true (ql 14 13), qg 10 true (qt 15 .eql 3 12 14), ⟨none, .pick 16 (.tmp 10) (.tmp 15) (.const (.bool false))⟩, qm 17 16, qg 17 true (qf 18 2 2), qg 17 true (ql 19 18), qg 17 true (qf 20 3 2), qg 17 true (ql 21 20), ⟨some (17, true), .call (some 22) 68 [(.tmp 19), (.tmp 21), (.func 69)]⟩, ⟨none, .pick 23 (.tmp 17) (.tmp 22) (.const (.bool false))⟩, qm 4 23]
def types_Same_lc : LC := (.seq (.ops Qfs) (.seq (.ops Qfr) .ret))
@[reducible] def QeZ : FuncId := 69
theorem Qe7 : lowF Try.prog Try.f69 = some types_Same_lc := by kernel_rfl
theorem Qft {a0 a1 : Value} {w : World} {R : Ending → World → Prop} (h : types_Same_lc.wp Try.prog (retQ Try.prog [.tmp 4] R) (Qd [a0, a1]) w) : Calls Try.prog QeZ ⟨[a0, a1]⟩ w R :=
  Q4 Try.func69 Qe7 (by kernel_rfl) (by kernel_rfl) h

/- 70 -/
/- 71 -/
/- 87 -/
def Qgm : List GO := [qb 2 65 0, qb 3 65 1, qk 4 (.bool false)]
def Qgl : List GO := [qf 5 2 0, ql 6 5, qf 7 3 0, ql 8 7, qt 9 .eql 3 6 8, qm 10 9, qg 10 true (qf 11 2 1), qg 10 true (ql 12 11), qg 10 true (qf 13 3 1), qg 10 true (ql 14 13), qg 10 true (qt 15 .eql 3 12 14), ⟨none, .pick 16 (.tmp 10) (.tmp 15) (.const (.bool false))⟩, qm 17 16, qg 17 true (qf 18 2 2), qg 17 true (ql 19 18), qg 17 true (qf 20 3 2), qg 17 true (ql 21 20), ⟨some (17, true), .call (some 22) 41 [(.tmp 19), (.tmp 21)]⟩, ⟨none, .pick 23 (.tmp 17) (.tmp 22) (.const (.bool false))⟩, qm 4 23]
def R_SameType_lc : LC := (.seq (.ops Qgm) (.seq (.ops Qgl) .ret))
@[reducible] def Qak : FuncId := 87
theorem QeT : lowF Try.prog Try.f87 = some R_SameType_lc := by kernel_rfl
theorem Qgn {a0 a1 : Value} {w : World} {R : Ending → World → Prop} (h : R_SameType_lc.wp Try.prog (retQ Try.prog [.tmp 4] R) (Qd [a0, a1]) w) : Calls Try.prog Qak ⟨[a0, a1]⟩ w R :=
  Q4 Try.func87 QeT (by kernel_rfl) (by kernel_rfl) h

/- 89 -/
def QeW : List GO := [qb 1 65 0, qk 2 (.bool false)]
def QeV : List GO := [qV 3 3 1, ⟨none, .call (some 4) 126 [(.tmp 3), (.const (vi 2000))]⟩, qj 5 .lss 3 4 0, qm 2 5]
def R_GreatType_lc : LC := (.seq (.ops QeW) (.seq (.ops QeV) .ret))
@[reducible] def QdT : FuncId := 89
theorem QdS : lowF Try.prog Try.f89 = some R_GreatType_lc := by kernel_rfl
theorem QeX {a0 : Value} {w : World} {R : Ending → World → Prop} (h : R_GreatType_lc.wp Try.prog (retQ Try.prog [.tmp 2] R) (Qd [a0]) w) : Calls Try.prog QdT ⟨[a0]⟩ w R :=
  Q4 Try.func89 QdS (by kernel_rfl) (by kernel_rfl) h

/- 90 -/
def Qi4 : List GO := [qk 2 (.string ⟨#[]⟩)]
def Qi3 : List GO := [qm 3 0, qj 4 .lss 3 3 1, qm 5 4, qg 5 false (qm 6 0), qg 5 false (qj 7 .gtr 3 6 14), ⟨none, .pick 8 (.tmp 5) (.const (.bool true)) (.tmp 7)⟩]
def Qi2 : List GO := [qk 2 (.string ⟨#[]⟩)]
def Qi1 : List GO := [⟨none, .build 9 [(.string ⟨#[]⟩), (.string ⟨#[]⟩), (.string ⟨#[]⟩), (.string ⟨#[]⟩), (.string ⟨#[]⟩), (.string ⟨#[]⟩), (.string ⟨#[]⟩), (.string ⟨#[]⟩), (.string ⟨#[]⟩), (.string ⟨#[]⟩), (.string ⟨#[]⟩), (.string ⟨#[]⟩), (.string ⟨#[]⟩), (.string ⟨#[]⟩), (.string ⟨#[]⟩)] [(0, (1, (.const (.string ⟨#[]⟩)))), (1, (1, (.const (.string ⟨#[110]⟩)))), (2, (1, (.const (.string ⟨#[97, 98, 107]⟩)))), (3, (1, (.const (.string ⟨#[]⟩)))), (4, (1, (.const (.string ⟨#[97]⟩)))), (5, (1, (.const (.string ⟨#[97, 114]⟩)))), (6, (1, (.const (.string ⟨#[97, 107]⟩)))), (7, (1, (.const (.string ⟨#[97, 98, 107]⟩)))), (8, (1, (.const (.string ⟨#[97, 98]⟩)))), (9, (1, (.const (.string ⟨#[97, 98]⟩)))), (10, (1, (.const (.string ⟨#[97, 98, 99]⟩)))), (11, (1, (.const (.string ⟨#[97]⟩)))), (12, (1, (.const (.string ⟨#[]⟩)))), (13, (1, (.const (.string ⟨#[97]⟩)))), (14, (1, (.const (.string ⟨#[107, 103, 114]⟩))))]⟩, qm 10 0, ⟨none, .raw ⟨(some 11), (.index 151 (.tmp 9) (.tmp 10)), 9, "", #[], none⟩⟩, qm 2 11]
def code_has_lc : LC := (.seq (.ops Qi4) (.seq (.seq (.ops Qi3) (.cond (.tmp 8) (.seq (.ops Qi2) .ret) .skip)) (.seq (.ops Qi1) .ret)))
@[reducible] def Qiw : FuncId := 90
theorem Qhq : lowF Try.prog Try.f90 = some code_has_lc := by kernel_rfl
theorem Qdk {a0 : Value} {w : World} {R : Ending → World → Prop} (h : code_has_lc.wp Try.prog (retQ Try.prog [.tmp 2] R) (Qd [a0]) w) : Calls Try.prog Qiw ⟨[a0]⟩ w R :=
  Q4 Try.func90 Qhq (by kernel_rfl) (by kernel_rfl) h

/- 91 -/
def Qhn : List GO := [qk 4 (.bool false)]
def Qhm : List GO := [qm 5 0, ⟨none, .raw ⟨(some 6), (.convert 9 50 (.tmp 5)), 50, "", #[], none⟩⟩, qm 7 1, ⟨none, .call (some 8) 127 [(.tmp 6), (.tmp 7)]⟩, qm 4 8]
def code_with_lc : LC := (.seq (.ops Qhn) (.seq (.ops Qhm) .ret))
@[reducible] def Qhp : FuncId := 91
theorem QfS : lowF Try.prog Try.f91 = some code_with_lc := by kernel_rfl
theorem Qho {a0 a1 : Value} {w : World} {R : Ending → World → Prop} (h : code_with_lc.wp Try.prog (retQ Try.prog [.tmp 4] R) (Qd [a0, a1]) w) : Calls Try.prog Qhp ⟨[a0, a1]⟩ w R :=
  Q4 Try.func91 QfS (by kernel_rfl) (by kernel_rfl) h

/- 92 -/
def Qbv : List GO := [qb 5 31 1, qb 6 33 2]
def Qbu : List GO := [qm 8 3, ⟨none, .un 9 .not (.tmp 8)⟩]
def Qbt : List GO := [qm 10 0, qf 11 6 0, ql 12 11, qj 13 .neq 3 12 0, qm 14 13, qg 14 false (qf 15 6 1), qg 14 false (ql 16 15), qg 14 false (qL 17 16), qg 14 false (qj 18 .gtr 3 17 0), ⟨none, .pick 19 (.tmp 14) (.const (.bool true)) (.tmp 18)⟩, qm 20 19, qg 20 false (qf 21 6 2), qg 20 false (ql 22 21), qg 20 false (qL 23 22), qg 20 false (qj 24 .gtr 3 23 0), ⟨none, .pick 25 (.tmp 20) (.const (.bool true)) (.tmp 24)⟩, ⟨none, .call (some 26) 54 [(.tmp 10), (.tmp 25), (.const (vi 4))]⟩]
def Qbs : List GO := [qm 27 0, qf 28 6 0, ql 29 28, qj 30 .lss 3 29 0, qm 31 30, qg 31 false (qf 32 6 0), qg 31 false (ql 33 32), qg 31 false (qf 34 5 3), qg 31 false (ql 35 34), qg 31 false (qL 36 35), qg 31 false (qt 37 .geq 3 33 36), ⟨none, .pick 38 (.tmp 31) (.const (.bool true)) (.tmp 37)⟩, ⟨none, .call (some 39) 54 [(.tmp 27), (.tmp 38), (.const (vi 1))]⟩]
def Qbr : List GO := [qm 40 0, qf 41 6 1, ql 42 41, qL 43 42, qj 44 .gtr 3 43 16, qm 45 44, qg 45 false (qf 46 6 2), qg 45 false (ql 47 46), qg 45 false (qL 48 47), qg 45 false (qj 49 .gtr 3 48 8), ⟨none, .pick 50 (.tmp 45) (.const (.bool true)) (.tmp 49)⟩, ⟨none, .call (some 51) 54 [(.tmp 40), (.tmp 50), (.const (vi 2))]⟩]
def code_judge_to_lc : LC := (.seq (.ops Qbv) (.seq (.seq (.ops Qbu) (.cond (.tmp 9) (.seq (.ops Qbt) .ret) .skip)) (.seq (.ops Qbs) (.ops Qbr))))
@[reducible] def Q90 : FuncId := 92
theorem Qa0 : lowF Try.prog Try.f92 = some code_judge_to_lc := by kernel_rfl
theorem Q4k {a0 a1 a2 a3 : Value} {w : World} {R : Ending → World → Prop} (h : code_judge_to_lc.wp Try.prog (retQ Try.prog [] R) (Qd [a0, a1, a2, a3]) w) : Calls Try.prog Q90 ⟨[a0, a1, a2, a3]⟩ w R :=
  Q4 Try.func92 Qa0 (by kernel_rfl) (by kernel_rfl) h

/- 93 -/
/- 94 -/
def Qeb : List GO := [qb 2 65 0, qk 4 (vi 0)]
def Qea : List GO := [qV 5 3 2, ⟨none, .call (some 6) 128 [(.tmp 5), (.const (vi 4))]⟩, ⟨none, .un 7 .not (.tmp 6)⟩]
def Qe9 : List GO := [qk 4 (vi 19)]
def Qe8 : List GO := [qV 8 3 2, qm 9 1, ⟨none, .call (some 10) 129 [(.tmp 8), (.tmp 9)]⟩, qm 4 10]
def types_Check_lc : LC := (.seq (.ops Qeb) (.seq (.seq (.ops Qea) (.cond (.tmp 7) (.seq (.ops Qe9) .ret) .skip)) (.seq (.ops Qe8) .ret)))
@[reducible] def Q3O : FuncId := 94
theorem Qcv : lowF Try.prog Try.f94 = some types_Check_lc := by kernel_rfl
theorem Qec {a0 a1 : Value} {w : World} {R : Ending → World → Prop} (h : types_Check_lc.wp Try.prog (retQ Try.prog [.tmp 4] R) (Qd [a0, a1]) w) : Calls Try.prog Q3O ⟨[a0, a1]⟩ w R :=
  Q4 Try.func94 Qcv (by kernel_rfl) (by kernel_rfl) h

/- 95 -/
def Q1Q : List GO := [qk 4 (vi 0)]
def Q1P : List GO := [qm 6 0, qL 7 6, qk 8 (vi 0)]
def Q1O : List GO := [qt 9 .lss 3 8 7]
def Q1N : List GO := [qm 10 8, qm 5 10]
def Q1M : List GO := [qm 11 1, qm 12 0, qm 13 5, qi 14 3 12 13, qV 15 3 14, ⟨none, .callv (some 16) (.tmp 11) [(.tmp 15)]⟩]
def Q1L : List GO := [qm 17 5, qm 4 17]
def Q1K : List GO := [qj 18 .add 3 8 1, qm 8 18]
def Q18 : LC := (.seq (.ops Q1O) (.seq (.cond (.tmp 9) .skip (.exit 0)) (.seq (.block 1 (.seq (.ops Q1N) (.seq (.ops Q1M) (.cond (.tmp 16) (.seq (.ops Q1L) .ret) .skip)))) (.ops Q1K))))
def Q1J : List GO := [qk 4 (vi (-1))]
def slices_IndexFunc_api_Type_api_Type_lc : LC := (.seq (.ops Q1Q) (.seq (.seq (.ops Q1P) (.block 0 (.loop Q18))) (.seq (.ops Q1J) .ret)))
@[reducible] def Qq : FuncId := 95
theorem Q1G : lowF Try.prog Try.f95 = some slices_IndexFunc_api_Type_api_Type_lc := by kernel_rfl
theorem Q1R {a0 a1 : Value} {w : World} {R : Ending → World → Prop} (h : slices_IndexFunc_api_Type_api_Type_lc.wp Try.prog (retQ Try.prog [.tmp 4] R) (Qd [a0, a1]) w) : Calls Try.prog Qq ⟨[a0, a1]⟩ w R :=
  Q4 Try.func95 Q1G (by kernel_rfl) (by kernel_rfl) h

/- 96 -/
/- 97 -/
def Qhv : List GO := [qb 2 27 0, qb 3 27 1, qk 4 (.bool false)]
def Qhu : List GO := [qf 5 2 0, ql 6 5, qf 7 3 0, ql 8 7, qt 9 .eql 3 6 8, qm 10 9, qg 10 true (qf 11 2 1), qg 10 true (ql 12 11), qg 10 true (qf 13 3 1), qg 10 true (ql 14 13), qg 10 true (qt 15 .eql 3 12 14), ⟨none, .pick 16 (.tmp 10) (.tmp 15) (.const (.bool false))⟩, qm 17 16, qg 17 true (qf 18 2 2), qg 17 true (ql 19 18), qg 17 true (qf 20 3 2), qg 17 true (ql 21 20), qg 17 true (qt 22 .eql 3 19 21), ⟨none, .pick 23 (.tmp 17) (.tmp 22) (.const (.bool false))⟩, qm 24 23, qg 24 true (qf 25 2 3), qg 24 true (ql 26 25), qg 24 true (qf 27 3 3), qg 24 true (ql 28 27), qg 24 true (qt 29 .eql 3 26 28), ⟨none, .pick 30 (.tmp 24) (.tmp 29) (.const (.bool false))⟩, qm 31 30, qg 31 true (qf 32 2 4), qg 31 true (ql 33 32), qg 31 true (qf 34 3 4), qg 31 true (ql 35 34), qg 31 true (qt 36 .eql 3 33 35), ⟨none, .pick 37 (.tmp 31) (.tmp 36) (.const (.bool false))⟩, qm 38 37, qg 38 true (qf 39 2 5), qg 38 true (ql 40 39), qg 38 true (qf 41 3 5), qg 38 true (ql 42 41), qg 38 true (qt 43 .eql 2 40 42), ⟨none, .pick 44 (.tmp 38) (.tmp 43) (.const (.bool false))⟩, qm 45 44, qg 45 true (qf 46 2 6), qg 45 true (ql 47 46), qg 45 true (qf 48 3 6), qg 45 true (ql 49 48), ⟨some (45, true), .call (some 50) 42 [(.tmp 47), (.tmp 49)]⟩, ⟨none, .pick 51 (.tmp 45) (.tmp 50) (.const (.bool false))⟩, qm 52 51, qg 52 true (qf 53 2 7), qg 52 true (ql 54 53), qg 52 true (qf 55 3 7), qg 52 true (ql 56 55), ⟨some (52, true), .call (some 57) 42 [(.tmp 54), (.tmp 56)]⟩, ⟨none, .pick 58 (.tmp 52) (.tmp 57) (.const (.bool false))⟩, qm 4 58]
def R_sameIns_lc : LC := (.seq (.ops Qhv) (.seq (.ops Qhu) .ret))
@[reducible] def Qhx : FuncId := 97
theorem Qgk : lowF Try.prog Try.f97 = some R_sameIns_lc := by kernel_rfl
theorem Qhw {a0 a1 : Value} {w : World} {R : Ending → World → Prop} (h : R_sameIns_lc.wp Try.prog (retQ Try.prog [.tmp 4] R) (Qd [a0, a1]) w) : Calls Try.prog Qhx ⟨[a0, a1]⟩ w R :=
  Q4 Try.func97 Qgk (by kernel_rfl) (by kernel_rfl) h

/- 98 -/
def Qia : List GO := [qb 2 33 0, qb 3 33 1, qk 4 (.bool false)]
def Qi9 : List GO := [qf 5 2 0, ql 6 5, qf 7 3 0, ql 8 7, qt 9 .eql 3 6 8, qm 10 9, qg 10 true (qf 11 2 1), qg 10 true (ql 12 11), qg 10 true (qf 13 3 1), qg 10 true (ql 14 13), ⟨some (10, true), .call (some 15) 42 [(.tmp 12), (.tmp 14)]⟩, ⟨none, .pick 16 (.tmp 10) (.tmp 15) (.const (.bool false))⟩, qm 17 16, qg 17 true (qf 18 2 2), qg 17 true (ql 19 18), qg 17 true (qf 20 3 2), qg 17 true (ql 21 20), ⟨some (17, true), .call (some 22) 42 [(.tmp 19), (.tmp 21)]⟩, ⟨none, .pick 23 (.tmp 17) (.tmp 22) (.const (.bool false))⟩, qm 4 23]
def R_sameTo_lc : LC := (.seq (.ops Qia) (.seq (.ops Qi9) .ret))
@[reducible] def Qiz : FuncId := 98
theorem Qht : lowF Try.prog Try.f98 = some R_sameTo_lc := by kernel_rfl
theorem Qib {a0 a1 : Value} {w : World} {R : Ending → World → Prop} (h : R_sameTo_lc.wp Try.prog (retQ Try.prog [.tmp 4] R) (Qd [a0, a1]) w) : Calls Try.prog Qiz ⟨[a0, a1]⟩ w R :=
  Q4 Try.func98 Qht (by kernel_rfl) (by kernel_rfl) h

/- 99 -/
/- 100 -/
/- 101 -/
/- 102 -/
/- 103 -/
/- 126 -/
def Qgi : List GO := [qb 2 65 0, qk 4 (vi 0)]
def Qgh : List GO := [qm 6 1, qj 7 .sub 3 6 1, qm 1 7]
def Qgg : List GO := [qk 5 (vi 0)]
def Qgf : List GO := [qm 8 5, qf 9 2 2, ql 10 9, qL 11 10, qt 12 .lss 3 8 11, qm 13 12, qg 13 true (qm 14 1), qg 13 true (qj 15 .geq 3 14 0), ⟨none, .pick 16 (.tmp 13) (.tmp 15) (.const (.bool false))⟩]
def Qge : List GO := [qf 19 2 2, ql 20 19, qm 21 5, qi 22 3 20 21, qV 23 3 22, qm 24 1, ⟨none, .call (some 25) 126 [(.tmp 23), (.tmp 24)]⟩, qm 1 25]
def Qgd : List GO := [qm 17 5, qj 18 .add 3 17 1, qm 5 18]
def Q9m : LC := (.seq (.seq (.ops Qgf) (.cond (.tmp 16) .skip (.exit 0))) (.seq (.block 1 (.ops Qge)) (.ops Qgd)))
def Qgc : List GO := [qm 26 1, qm 4 26]
def R_typeSize_lc : LC := (.seq (.ops Qgi) (.seq (.ops Qgh) (.seq (.seq (.ops Qgg) (.block 0 (.loop Q9m))) (.seq (.ops Qgc) .ret))))
@[reducible] def Q6c : FuncId := 126
theorem Qew : lowF Try.prog Try.f126 = some R_typeSize_lc := by kernel_rfl
theorem Qgj {a0 a1 : Value} {w : World} {R : Ending → World → Prop} (h : R_typeSize_lc.wp Try.prog (retQ Try.prog [.tmp 4] R) (Qd [a0, a1]) w) : Calls Try.prog Q6c ⟨[a0, a1]⟩ w R :=
  Q4 Try.func126 Qew (by kernel_rfl) (by kernel_rfl) h

/- 127 -/
def Q2J : List GO := [qk 4 (.bool false)]
def Q2I : List GO := [qm 5 0, qm 6 1, ⟨none, .call (some 7) 141 [(.tmp 5), (.tmp 6)]⟩, qj 8 .geq 3 7 0, qm 4 8]
def slices_Contains_byte_byte_lc : LC := (.seq (.ops Q2J) (.seq (.ops Q2I) .ret))
@[reducible] def Q1T : FuncId := 127
theorem Q2y : lowF Try.prog Try.f127 = some slices_Contains_byte_byte_lc := by kernel_rfl
theorem Q2K {a0 a1 : Value} {w : World} {R : Ending → World → Prop} (h : slices_Contains_byte_byte_lc.wp Try.prog (retQ Try.prog [.tmp 4] R) (Qd [a0, a1]) w) : Calls Try.prog Q1T ⟨[a0, a1]⟩ w R :=
  Q4 Try.func127 Q2y (by kernel_rfl) (by kernel_rfl) h

/- 128 -/
def Qfp : List GO := [qb 2 65 0, qk 4 (.bool false)]
def Qfo : List GO := [qm 7 1, qj 8 .lss 3 7 0]
def Qfn : List GO := [qk 4 (.bool false)]
def Qfm : List GO := [qf 9 2 2, ql 10 9, qL 11 10, qk 12 (vi 0)]
def Qfl : List GO := [qt 13 .lss 3 12 11]
def Qfk : List GO := [qi 14 3 10 12, qV 15 3 14, ⟨none, .alloc 6 65 [(vi 0), (vi 0), vn]⟩, qw 3 6 15]
def Qfj : List GO := [qV 16 3 6, qm 17 1, qj 18 .sub 3 17 1, ⟨none, .call (some 19) 128 [(.tmp 16), (.tmp 18)]⟩, ⟨none, .un 20 .not (.tmp 19)⟩]
def Qfi : List GO := [qk 4 (.bool false)]
def Qfh : List GO := [qj 21 .add 3 12 1, qm 12 21]
def Q8w : LC := (.seq (.ops Qfl) (.seq (.cond (.tmp 13) .skip (.exit 0)) (.seq (.block 1 (.seq (.ops Qfk) (.seq (.ops Qfj) (.cond (.tmp 20) (.seq (.ops Qfi) .ret) .skip)))) (.ops Qfh))))
def Qfg : List GO := [qk 4 (.bool true)]
def types_deep_lc : LC := (.seq (.ops Qfp) (.seq (.seq (.ops Qfo) (.cond (.tmp 8) (.seq (.ops Qfn) .ret) .skip)) (.seq (.seq (.ops Qfm) (.block 0 (.loop Q8w))) (.seq (.ops Qfg) .ret))))
@[reducible] def Q2N : FuncId := 128
theorem Qe6 : lowF Try.prog Try.f128 = some types_deep_lc := by kernel_rfl
theorem Qfq {a0 a1 : Value} {w : World} {R : Ending → World → Prop} (h : types_deep_lc.wp Try.prog (retQ Try.prog [.tmp 4] R) (Qd [a0, a1]) w) : Calls Try.prog Q2N ⟨[a0, a1]⟩ w R :=
  Q4 Try.func128 Qe6 (by kernel_rfl) (by kernel_rfl) h

/- 129 -/
def Qe4 : List GO := [qb 2 65 0, qk 4 (vi 0)]
def Qe3 : List GO := [qf 8 2 0, ql 9 8]
def Qe2 : List GO := [qj 11 .eql 3 9 1, qm 10 11]
def Qe1 : List GO := [qf 12 2 1, ql 13 12, qj 14 .neq 3 13 0, qm 15 14, qg 15 false (qf 16 2 2), qg 15 false (ql 17 16), qg 15 false (qL 18 17), qg 15 false (qj 19 .gtr 3 18 0), ⟨none, .pick 20 (.tmp 15) (.const (.bool true)) (.tmp 19)⟩]
def Qe0 : List GO := [qk 4 (vi 4)]
def QdZ : List GO := [qk 4 (vi 0)]
def QdY : List GO := [qj 22 .eql 3 9 2, qm 21 22]
def QdX : List GO := [qj 23 .eql 3 9 4, qm 21 23]
def QdW : List GO := [qf 24 2 2, ql 25 24, qL 26 25, qj 27 .gtr 3 26 0]
def QdV : List GO := [qk 4 (vi 4)]
def Qct : List GO := [qj 29 .eql 3 9 3, qm 28 29]
def Qcs : List GO := [qf 30 2 2, ql 31 30, qL 32 31, qj 33 .gtr 3 32 8]
def Qcr : List GO := [qk 4 (vi 2)]
def Qcq : List GO := [qk 4 (vi 3)]
def Qcp : List GO := [qf 34 2 1, ql 35 34, qj 36 .lss 3 35 0, qm 37 36, qg 37 false (qf 38 2 1), qg 37 false (ql 39 38), qg 37 false (qm 40 1), qg 37 false (qt 41 .geq 3 39 40), ⟨none, .pick 42 (.tmp 37) (.const (.bool true)) (.tmp 41)⟩]
def Qco : List GO := [qk 4 (vi 1)]
def Qcn : List GO := [qf 43 2 2, ql 44 43, qL 45 44, qk 46 (vi 0)]
def Qcm : List GO := [qt 47 .lss 3 46 45]
def Qcl : List GO := [qi 48 3 44 46, qV 49 3 48, ⟨none, .alloc 6 65 [(vi 0), (vi 0), vn]⟩, qw 3 6 49]
def Qck : List GO := [qV 50 3 6, qm 51 1, ⟨none, .call (some 52) 129 [(.tmp 50), (.tmp 51)]⟩, qm 7 52]
def Qcj : List GO := [qm 53 7, qj 54 .neq 3 53 0]
def Qci : List GO := [qm 55 7, qm 4 55]
def Qch : List GO := [qj 56 .add 3 46 1, qm 46 56]
def Q4S : LC := (.seq (.ops Qcm) (.seq (.cond (.tmp 47) .skip (.exit 1)) (.seq (.block 2 (.seq (.ops Qcl) (.seq (.ops Qck) (.seq (.ops Qcj) (.cond (.tmp 54) (.seq (.ops Qci) .ret) .skip))))) (.ops Qch))))
def Qcg : List GO := [qk 4 (vi 0)]
def types_wrong_lc : LC := (.seq (.ops Qe4) (.seq (.seq (.ops Qe3) (.block 0 (.seq (.ops Qe2) (.cond (.tmp 10) (.seq (.seq (.ops Qe1) (.cond (.tmp 20) (.seq (.ops Qe0) .ret) .skip)) (.seq (.ops QdZ) .ret)) (.seq (.seq (.ops QdY) (.cond (.tmp 21) .skip (.ops QdX))) (.cond (.tmp 21) (.seq (.ops QdW) (.cond (.tmp 27) (.seq (.ops QdV) .ret) .skip)) (.seq (.ops Qct) (.cond (.tmp 28) (.seq (.ops Qcs) (.cond (.tmp 33) (.seq (.ops Qcr) .ret) .skip)) (.seq (.ops Qcq) .ret))))))))) (.seq (.seq (.ops Qcp) (.cond (.tmp 42) (.seq (.ops Qco) .ret) .skip)) (.seq (.seq (.ops Qcn) (.block 1 (.loop Q4S))) (.seq (.ops Qcg) .ret)))))
@[reducible] def Qk : FuncId := 129
theorem Qcu : lowF Try.prog Try.f129 = some types_wrong_lc := by kernel_rfl
theorem Qe5 {a0 a1 : Value} {w : World} {R : Ending → World → Prop} (h : types_wrong_lc.wp Try.prog (retQ Try.prog [.tmp 4] R) (Qd [a0, a1]) w) : Calls Try.prog Qk ⟨[a0, a1]⟩ w R :=
  Q4 Try.func129 Qcu (by kernel_rfl) (by kernel_rfl) h

/- 130 -/
/- 131 -/
/- 139 -/
/- 141 -/
def Q3m : List GO := [qk 4 (vi 0)]
def Q3l : List GO := [qm 6 0, qL 7 6, qk 8 (vi 0)]
def Q3k : List GO := [qt 9 .lss 3 8 7]
def Q3j : List GO := [qm 10 8, qm 5 10]
def Q3i : List GO := [qm 11 1, qm 12 0, qm 13 5, qi 14 1 12 13, ql 15 14, qt 16 .eql 5 11 15]
def Q3h : List GO := [qm 17 5, qm 4 17]
def Q3g : List GO := [qj 18 .add 3 8 1, qm 8 18]
def Q1S : LC := (.seq (.ops Q3k) (.seq (.cond (.tmp 9) .skip (.exit 0)) (.seq (.block 1 (.seq (.ops Q3j) (.seq (.ops Q3i) (.cond (.tmp 16) (.seq (.ops Q3h) .ret) .skip)))) (.ops Q3g))))
def Q3f : List GO := [qk 4 (vi (-1))]
def slices_Index_byte_byte_lc : LC := (.seq (.ops Q3m) (.seq (.seq (.ops Q3l) (.block 0 (.loop Q1S))) (.seq (.ops Q3f) .ret)))
@[reducible] def Q1j : FuncId := 141
theorem Q34 : lowF Try.prog Try.f141 = some slices_Index_byte_byte_lc := by kernel_rfl
theorem Q3n {a0 a1 : Value} {w : World} {R : Ending → World → Prop} (h : slices_Index_byte_byte_lc.wp Try.prog (retQ Try.prog [.tmp 4] R) (Qd [a0, a1]) w) : Calls Try.prog Q1j ⟨[a0, a1]⟩ w R :=
  Q4 Try.func141 Q34 (by kernel_rfl) (by kernel_rfl) h

/- 145 -/
end Go.Proofs.Ytanlkfeogoganaa
namespace Go.Proofs.Ytanlkfeogoganaa
open Go.Lir
set_option maxHeartbeats 1000000
attribute [local irreducible] LC.wp Q3 Qz QJ retQ Q1A LO.wp Qh Calls
set_option linter.unusedSimpArgs false
set_option linter.unusedVariables false
theorem size_c : ∀ (t : Ty) {cx : Cx} {w : World} {L : List Res} {cs : List Value} {left : Int}, tyR.at cx cs t → -1 ≤ left → left ≤ 1000000 → St cx w L →
    Rets Try.prog Q6c [.agg ⟨cs⟩, .int .i64 left] w fun v w' => v = .int .i64 (t.size left) ∧ St cx w' L := by
  intro t
  induction t using Ty.ind with
  | h k r l ih =>
    intro cx w L cs left ht h1 h2 hS
    obtain ⟨v, rfl, hl⟩ := Q1l ht
    simp only [Ty.kind, Ty.r, Ty.l] at hl ht ⊢
    have hlen := hl.len
    rw [Ty.size]
    all_goals refine Qgj ?_
    all_goals (unfold R_typeSize_lc; refine Q0 ?_; refine Q1 ?_; refine zb hS ?_; intro p2 w1 hS; refine zm ?_; refine zn ?_; refine Q0 ?_; refine Q1 ?_; refine zm ?_; refine zsu ?_; refine zm ?_; refine zn ?_; refine Q0 ?_; refine Q0 ?_; refine Q1 ?_; refine zm ?_; refine zn ?_; refine Qa ?_)
    refine zoL hS [2] (fun A LL ρ' w' => ∃ (j : Nat) (n : Int), Has ρ' A ∧ Has ρ' [(1, .int .i64 n), (5, .int .i64 j)] ∧ (j ≤ l.length) ∧ (n ≤ 1000000) ∧ (-2 ≤ n) ∧ (Tys.size l (left - 1) = Tys.size (l.drop j) n) ∧ St cx w' (LL)) (fun ρ' _ => (l.length - iv (ρ' 5)).toNat) ?_ ?_
    · exact ⟨0, left - 1, zh, zh, (by omega), (by omega), (by omega), by simp, hS.sp⟩
    rintro ρ w1 ⟨j, n, hA, hρ, hj, hn, hn1, hd, hS⟩; obtain ⟨ρ, rfl⟩ := env2 hA hρ
    unfold Q9m
    all_goals (refine Q0 ?_; refine Q0 ?_; refine Q1 ?_; refine zm ?_; refine Q2 rfl ?_; refine zl hS ?_; refine zL ?_)
    all_goals (first | (refine Q2w ?_) | (refine Q2x ?_) | (refine Q1a rfl rfl (fun hc => ?_) (fun hc => ?_)))
    all_goals (refine zm ?_; (first | refine s_gn rfl rfl ?_ | (refine s_gy rfl ?_; refine zm ?_)))
    all_goals (first | refine s_gn rfl rfl ?_ | (refine s_gy rfl ?_; (first | (refine QgA ?_) | (refine QgB ?_) | (refine Q4W rfl rfl (fun hc => ?_) (fun hc => ?_)))))
    all_goals ((first | (refine zpt ?_) | (refine zpf ?_)); refine zn ?_)
    all_goals
      first
      | (refine Q6 rfl ?_ -- Q6c c0
         all_goals (refine zex ?_; refine Q0 ?_; refine Q1 ?_; refine zm ?_; refine zm ?_; refine zn ?_; refine zr ?_; refine zf ?_)
         all_goals (refine ⟨_, rfl, ?_, hS.sp⟩; (rw [hd]; congr 1; first | (rw [Tys.size_neg _ (by omega)]; done) | (rw [List.drop_of_length_le (by omega), Tys.size]; done)); done))
      | (refine Q5 rfl ?_ -- Q6c c0
         all_goals (refine zsk ?_; refine Q0 ?_; refine Qa ?_; refine Q1 ?_; refine Q2 rfl ?_; refine zl hS ?_; refine zm ?_; refine zi ?_; intro b1 o1 cs1 x1 hat1 hx1 he1; obtain ⟨vl1, rfl, hl1⟩ := Q1l he1; (first | (refine zv hS ?_) | (refine zvk hS ?_)); refine zm ?_; refine zR2 (c := ih _ (List.mem_of_getElem? (by assumption)) (by assumption) (by omega) (by omega) hS) (h := ?_); rintro v1 w1 ⟨rfl, hS⟩; refine zm ?_; refine zn ?_; refine Q1 ?_; refine zm ?_; refine zad ?_; refine zm ?_; refine zn ?_)
         all_goals (exact ⟨⟨j + 1, _, zh, zh, (by omega), by have := Ty.size_rng x1 (left := n) (by omega); omega, by have := Ty.size_rng x1 (left := n) (by omega); omega, by rw [hd, Q7 hx1, Tys.size, if_pos (by omega)], hS.sp⟩, Qg (by omega)⟩))
theorem great_c {t : Ty} {cx : Cx} {w : World} {L : List Res} {cs : List Value} (ht : tyR.at cx cs t) (hS : St cx w L) :
    Rets Try.prog QdT [.agg ⟨cs⟩] w fun v w' => v = .bool t.great ∧ St cx w' L := by
  obtain ⟨v, rfl, hl⟩ := Q1l ht
  all_goals refine QeX ?_
  all_goals (unfold R_GreatType_lc; refine Q0 ?_; refine Q1 ?_; refine zb hS ?_; intro p1 w1 hS; refine zm ?_; refine zn ?_; refine Q0 ?_; refine Q1 ?_; refine zv hS ?_; refine zR2 (c := size_c t ht (by omega) (by omega) hS) (h := ?_); rintro v1 w1 ⟨rfl, hS⟩; refine Qs rfl rfl ?_; refine zm ?_; refine zn ?_; refine zr ?_; refine zf ?_; refine ⟨_, rfl, ?_, hS.sp⟩; (rfl); done)
theorem QfE {l : List Ty} {cx : Cx} {w : World} {L : List Res} {v : Value} (hl : tyR.sl cx v l) (hS : St cx w L) :
    Rets Try.prog Q21 [v] w fun u w' => u = .bool (Tys.great l) ∧ St cx w' L := by
  have hlen := hl.len
  unfold Tys.great
  all_goals refine QdE ?_
  all_goals (unfold R_greatTypes_lc; refine Q0 ?_; refine Q1 ?_; refine zm ?_; refine zn ?_; refine Q0 ?_; refine Q0 ?_; refine Q1 ?_; refine zm ?_; refine zL ?_)
  all_goals (first | (refine Q16 ?_) | (refine Q1d ?_) | (refine Qe rfl rfl (fun hc => ?_) (fun hc => ?_)))
  all_goals (refine zn ?_)
  all_goals
    first
    | (refine Q5 rfl ?_ -- Q21 c0
       all_goals (refine Q0 ?_; refine Q1 ?_; refine zm ?_; refine zn ?_; refine zr ?_; refine zf ?_)
       all_goals (refine ⟨_, rfl, ?_, hS.sp⟩; rw [decide_eq_true (by omega), Bool.true_or]; done))
    | (refine Q6 rfl ?_ -- Q21 c0
       all_goals refine zsk ?_)
  all_goals (refine Q0 ?_; refine Q0 ?_; refine Q1 ?_; refine zm ?_; refine zn ?_; refine Qa ?_)
  refine zoL hS [0] (fun A LL ρ' w' => ∃ (j : Nat), Has ρ' A ∧ Has ρ' [(3, .int .i64 j)] ∧ (j ≤ l.length) ∧ (l.any Ty.great = (l.drop j).any Ty.great) ∧ St cx w' (LL)) (fun ρ' _ => (l.length - iv (ρ' 3)).toNat) ?_ ?_
  · exact ⟨0, zh, zh, (by omega), by simp, hS.sp⟩
  rintro ρ w1 ⟨j, hA, hρ, hj, hd, hS⟩; obtain ⟨ρ, rfl⟩ := env2 hA hρ
  unfold Q5Z
  all_goals (refine Q0 ?_; refine Q0 ?_; refine Q1 ?_; refine zm ?_; refine zm ?_; refine zL ?_; refine Qs rfl rfl ?_; refine zn ?_)
  refine Qi rfl (fun hc => ?_) (fun hc => ?_)
  · skip
    all_goals (refine zsk ?_; refine Q0 ?_; refine Qa ?_; refine Q0 ?_; refine Q1 ?_; refine zm ?_; refine zm ?_; refine zi ?_; intro b1 o1 cs1 x1 hat1 hx1 he1; obtain ⟨vl1, rfl, hl1⟩ := Q1l he1; (first | (refine zv hS ?_) | (refine zvk hS ?_)))
    all_goals (refine zR1 (c := great_c (by assumption) hS) (h := ?_); rintro v1 w1 ⟨rfl, hS⟩; cases hg : x1.great)
    all_goals (refine zn ?_)
    all_goals
      first
      | (refine Q5 rfl ?_ -- Q21 c2
         all_goals (refine Q0 ?_; refine Q1 ?_; refine zm ?_; refine zn ?_; refine zr ?_; refine zf ?_)
         all_goals (first | (refine ⟨_, rfl, ?_, hS.sp⟩; rw [decide_eq_true (by omega), Bool.true_or]; done) | (refine ⟨_, rfl, ?_, hS.sp⟩; rw [decide_eq_false (by omega), hd, Bool.false_or, Q7 hx1, List.any_cons, hg, Bool.true_or]; done)))
      | (refine Q6 rfl ?_ -- Q21 c2
         all_goals refine zsk ?_)
    all_goals (refine Q1 ?_; refine zm ?_; refine zad ?_; refine zm ?_; refine zn ?_; exact ⟨⟨j + 1, zh, zh, (by omega), by rw [hd, Q7 hx1, List.any_cons, hg, Bool.false_or], hS.sp⟩, Qg (by omega)⟩)
  · skip
    all_goals (refine zex ?_; refine Q0 ?_; refine Q1 ?_; refine zm ?_; refine zn ?_; refine zr ?_; refine zf ?_; (first | (refine ⟨_, rfl, ?_, hS.sp⟩; rw [decide_eq_true (by omega), Bool.true_or]; done) | (refine ⟨_, rfl, ?_, hS.sp⟩; rw [decide_eq_false (by omega), hd, Bool.false_or, Q7 hx1, List.any_cons, hg, Bool.true_or]; done) | (refine ⟨_, rfl, ?_, hS.sp⟩; rw [decide_eq_false (by omega), hd, Bool.false_or, List.drop_of_length_le (by omega)]; rfl; done)))
theorem deep_c : ∀ (t : Ty) {cx : Cx} {w : World} {L : List Res} {cs : List Value} {left : Int}, tyR.at cx cs t → left ≤ 1000000 → St cx w L →
    Rets Try.prog Q2N [.agg ⟨cs⟩, .int .i64 left] w fun v w' => v = .bool (t.deepB left) ∧ St cx w' L := by
  intro t
  induction t using Ty.ind with
  | h k r l ih =>
    intro cx w L cs left ht h1 hS
    obtain ⟨v, rfl, hl⟩ := Q1l ht
    simp only [Ty.kind, Ty.r, Ty.l] at hl ht ⊢
    have hlen := hl.len
    rw [Ty.deepB]
    all_goals refine Qfq ?_
    all_goals (unfold types_deep_lc; refine Q0 ?_; refine Q1 ?_; refine zb hS ?_; intro p2 w1 hS; refine zm ?_; refine zn ?_; refine Q0 ?_; refine Q0 ?_; refine Q1 ?_; refine zm ?_)
    all_goals (first | (refine Q2w ?_) | (refine Q2x ?_) | (refine Q1a rfl rfl (fun hc => ?_) (fun hc => ?_)))
    all_goals (refine zn ?_)
    all_goals
      first
      | (refine Q5 rfl ?_ -- Q2N c0
         all_goals (refine Q0 ?_; refine Q1 ?_; refine zm ?_; refine zn ?_; refine zr ?_; refine zf ?_)
         all_goals (refine ⟨_, rfl, ?_, hS.sp⟩; rw [if_pos (by omega)]; done))
      | (refine Q6 rfl ?_ -- Q2N c0
         all_goals refine zsk ?_)
    all_goals (refine Q0 ?_; refine Q0 ?_; refine Q1 ?_; refine Q2 rfl ?_; refine zl hS ?_; refine zL ?_; refine zm ?_; refine zn ?_; refine Qa ?_)
    refine zoL hS [1, 10, 11] (fun A LL ρ' w' => ∃ (j : Nat), Has ρ' A ∧ Has ρ' [(12, .int .i64 j)] ∧ (j ≤ l.length) ∧ (Tys.deepB l (left - 1) = Tys.deepB (l.drop j) (left - 1)) ∧ St cx w' (LL)) (fun ρ' _ => (l.length - iv (ρ' 12)).toNat) ?_ ?_
    · exact ⟨0, zh, zh, (by omega), by simp, hS.sp⟩
    rintro ρ w1 ⟨j, hA, hρ, hj, hd, hS⟩; obtain ⟨ρ, rfl⟩ := env2 hA hρ
    unfold Q8w
    all_goals (refine Q0 ?_; refine Q1 ?_; refine Qs rfl rfl ?_; refine zn ?_; refine Q0 ?_)
    refine Qi rfl (fun hc => ?_) (fun hc => ?_)
    · skip
      all_goals (refine zsk ?_; refine Q0 ?_; refine Qa ?_; refine Q0 ?_; refine Q1 ?_; refine zi ?_; intro b1 o1 cs1 x1 hat1 hx1 he1; obtain ⟨vl1, rfl, hl1⟩ := Q1l he1; (first | (refine zv hS ?_) | (refine zvk hS ?_)); refine Qb hS ?_; intro p6 w1 hS; refine zsn hS ?_; intro w1 hS; have hS := hS.ns; refine zn ?_; refine Q0 ?_; refine Q1 ?_; refine zv hS ?_; refine zm ?_; refine zsu ?_)
      all_goals (refine zR2 (c := ih _ (List.mem_of_getElem? (by assumption)) (by assumption) (by omega) hS) (h := ?_); rintro v1 w1 ⟨rfl, hS⟩; cases hg : x1.deepB (left - 1))
      all_goals (refine Q2L rfl ?_; refine zn ?_)
      all_goals
        first
        | (refine Q6 rfl ?_ -- Q2N c2
           all_goals refine zsk ?_)
        | (refine Q5 rfl ?_ -- Q2N c2
           all_goals (refine Q0 ?_; refine Q1 ?_; refine zm ?_; refine zn ?_; refine zr ?_; refine zf ?_)
           all_goals (first | (refine ⟨_, rfl, ?_, hS.sp⟩; rw [if_pos (by omega)]; done) | (refine ⟨_, rfl, ?_, hS.sp⟩; rw [if_neg (by omega), hd, Q7 hx1, Tys.deepB, hg, Bool.false_and]; done)))
      all_goals (refine Q1 ?_; refine zad ?_; refine zm ?_; refine zn ?_; exact ⟨⟨j + 1, zh, zh, (by omega), by rw [hd, Q7 hx1, Tys.deepB, hg, Bool.true_and], hS.sp⟩, Qg (by omega)⟩)
    · skip
      all_goals (refine zex ?_; refine Q0 ?_; refine Q1 ?_; refine zm ?_; refine zn ?_; refine zr ?_; refine zf ?_; (first | (refine ⟨_, rfl, ?_, hS.sp⟩; rw [if_pos (by omega)]; done) | (refine ⟨_, rfl, ?_, hS.sp⟩; rw [if_neg (by omega), hd, Q7 hx1, Tys.deepB, hg, Bool.false_and]; done) | (refine ⟨_, rfl, ?_, hS.sp⟩; rw [if_neg (by omega), hd, List.drop_of_length_le (by omega), Tys.deepB]; done)))
theorem wrong_c : ∀ (t : Ty) {cx : Cx} {w : World} {L : List Res} {cs : List Value} {regs : Int}, tyR.at cx cs t → St cx w L →
    Rets Try.prog Qk [.agg ⟨cs⟩, .int .i64 regs] w fun v w' => v = .int .i64 (t.wrong 8 regs) ∧ St cx w' L := by
  intro t
  induction t using Ty.ind with
  | h k r l ih =>
    intro cx w L cs regs ht hS
    obtain ⟨v, rfl, hl⟩ := Q1l ht
    simp only [Ty.kind, Ty.r, Ty.l] at hl ht ⊢
    have hlen := hl.len
    rw [Ty.wrong]
    all_goals refine Qe5 ?_
    all_goals (unfold types_wrong_lc; refine Q0 ?_; refine Q1 ?_; refine zb hS ?_; intro p2 w1 hS; refine zm ?_; refine zn ?_)
    refine zML hS [1, 2] (fun A LL ρ' w' => Has ρ' A ∧ Has ρ' [] ∧ (1 ≤ k ∧ k ≤ 4 ∧ k ≠ 1 ∧ (k ≠ 3 → l.length = 0) ∧ l.length ≤ 8) ∧ St cx w' (LL)) ?_ ?_
    · skip
      all_goals (refine Q0 ?_; refine Q1 ?_; refine Q2 rfl ?_; refine zl hS ?_; refine zn ?_; refine Qa ?_; refine Q0 ?_; refine Q1 ?_)
      all_goals (first | (refine QO ?_) | (refine Q1e ?_) | (refine Qf rfl rfl (fun hc => ?_) (fun hc => ?_)))
      all_goals (refine zm ?_; refine zn ?_)
      all_goals
        first
        | (refine Q5 rfl ?_ -- Qk c0
           all_goals (refine Q0 ?_; refine Q0 ?_; refine Q1 ?_; refine Q2 rfl ?_; refine zl hS ?_)
           all_goals (first | (refine Q1D ?_) | (refine Q1E ?_) | (refine QA rfl rfl (fun hc => ?_) (fun hc => ?_)))
           all_goals (refine zm ?_; (first | refine s_gn rfl rfl ?_ | (refine s_gy rfl ?_; refine Q2 rfl ?_)); (first | refine s_gn rfl rfl ?_ | (refine s_gy rfl ?_; refine zl hS ?_)); (first | refine s_gn rfl rfl ?_ | (refine s_gy rfl ?_; refine zL ?_)))
           all_goals (first | refine s_gn rfl rfl ?_ | (refine s_gy rfl ?_; (first | (refine Q16 ?_) | (refine Q1d ?_) | (refine Qe rfl rfl (fun hc => ?_) (fun hc => ?_)))))
           all_goals ((first | (refine zpt ?_) | (refine zpf ?_)); refine zn ?_)
           all_goals
             first
             | (refine Q5 rfl ?_ -- Qk c1
                all_goals (refine Q0 ?_; refine Q1 ?_; refine zm ?_; refine zn ?_; refine zr ?_; refine zf ?_)
                all_goals (refine ⟨_, rfl, ?_, hS.sp⟩; (repeat (first | rw [if_pos (by omega)] | rw [if_neg (by omega)])); done))
             | (refine Q6 rfl ?_ -- Qk c1
                all_goals refine zsk ?_)
           all_goals (refine Q0 ?_; refine Q1 ?_; refine zm ?_; refine zn ?_; refine zr ?_; refine zf ?_)
           all_goals (first | (refine ⟨_, rfl, ?_, hS.sp⟩; (repeat (first | rw [if_pos (by omega)] | rw [if_neg (by omega)])); done) | (refine ⟨_, rfl, ?_, hS.sp⟩; ((repeat (first | rw [if_pos (by omega)] | rw [if_neg (by omega)])); rw [hd, Q7 hx1, Tys.wrong, if_pos (by assumption)]); done) | (refine ⟨_, rfl, ?_, hS.sp⟩; ((repeat (first | rw [if_pos (by omega)] | rw [if_neg (by omega)])); rw [List.eq_nil_of_length_eq_zero (l := l) (by omega), Tys.wrong]); done)))
        | (refine Q6 rfl ?_ -- Qk c0
           all_goals (refine Q0 ?_; refine Q0 ?_; refine Q1 ?_)
           all_goals (first | (refine QO ?_) | (refine Q1e ?_) | (refine Qf rfl rfl (fun hc => ?_) (fun hc => ?_)))
           all_goals (refine zm ?_; refine zn ?_)
           all_goals
             first
             | (refine Q5 rfl ?_ -- Qk c2
                all_goals refine zsk ?_)
             | (refine Q6 rfl ?_ -- Qk c2
                all_goals (refine Q1 ?_)
                all_goals (first | (refine QO ?_) | (refine Q1e ?_) | (refine Qf rfl rfl (fun hc => ?_) (fun hc => ?_)))
                all_goals (refine zm ?_)
                all_goals refine zn ?_)
           all_goals
             first
             | (refine Q5 rfl ?_ -- Qk c3
                all_goals (refine Q0 ?_; refine Q1 ?_; refine Q2 rfl ?_; refine zl hS ?_; refine zL ?_)
                all_goals (first | (refine Q16 ?_) | (refine Q1d ?_) | (refine Qe rfl rfl (fun hc => ?_) (fun hc => ?_)))
                all_goals (refine zn ?_)
                all_goals
                  first
                  | (refine Q5 rfl ?_ -- Qk c4
                     all_goals (refine Q0 ?_; refine Q1 ?_; refine zm ?_; refine zn ?_; refine zr ?_; refine zf ?_)
                     all_goals (refine ⟨_, rfl, ?_, hS.sp⟩; (repeat (first | rw [if_pos (by omega)] | rw [if_neg (by omega)])); done))
                  | (refine Q6 rfl ?_ -- Qk c4
                     all_goals refine zsk ?_))
             | (refine Q6 rfl ?_ -- Qk c3
                all_goals (refine Q0 ?_; refine Q1 ?_)
                all_goals (first | (refine QO ?_) | (refine Q1e ?_) | (refine Qf rfl rfl (fun hc => ?_) (fun hc => ?_)))
                all_goals (refine zm ?_; refine zn ?_)
                all_goals
                  first
                  | (refine Q5 rfl ?_ -- Qk c5
                     all_goals (refine Q0 ?_; refine Q1 ?_; refine Q2 rfl ?_; refine zl hS ?_; refine zL ?_)
                     all_goals (first | (refine Q16 ?_) | (refine Q1d ?_) | (refine Qe rfl rfl (fun hc => ?_) (fun hc => ?_)))
                     all_goals (refine zn ?_)
                     all_goals
                       first
                       | (refine Q5 rfl ?_ -- Qk c6
                          all_goals (refine Q0 ?_; refine Q1 ?_; refine zm ?_; refine zn ?_; refine zr ?_; refine zf ?_)
                          all_goals (refine ⟨_, rfl, ?_, hS.sp⟩; (repeat (first | rw [if_pos (by omega)] | rw [if_neg (by omega)])); done))
                       | (refine Q6 rfl ?_ -- Qk c6
                          all_goals refine zsk ?_))
                  | (refine Q6 rfl ?_ -- Qk c5
                     all_goals (refine Q0 ?_; refine Q1 ?_; refine zm ?_; refine zn ?_; refine zr ?_; refine zf ?_)
                     all_goals (refine ⟨_, rfl, ?_, hS.sp⟩; (repeat (first | rw [if_pos (by omega)] | rw [if_neg (by omega)])); done))))
      all_goals (exact ⟨zh, zh, by omega, hS.sp⟩)
    rintro ρ w1 ⟨hA, hρ, hk, hS⟩; obtain ⟨ρ, rfl⟩ := env2 hA hρ
    all_goals (refine Q0 ?_; refine Q0 ?_; refine Q1 ?_; refine Q2 rfl ?_; refine zl hS ?_)
    all_goals (first | (refine Q2w ?_) | (refine Q2x ?_) | (refine Q1a rfl rfl (fun hc => ?_) (fun hc => ?_)))
    all_goals (refine zm ?_; (first | refine s_gn rfl rfl ?_ | (refine s_gy rfl ?_; refine Q2 rfl ?_)); (first | refine s_gn rfl rfl ?_ | (refine s_gy rfl ?_; refine zl hS ?_)); (first | refine s_gn rfl rfl ?_ | (refine s_gy rfl ?_; refine zm ?_)))
    all_goals (first | refine s_gn rfl rfl ?_ | (refine s_gy rfl ?_; (first | (refine QgA ?_) | (refine QgB ?_) | (refine Q4W rfl rfl (fun hc => ?_) (fun hc => ?_)))))
    all_goals ((first | (refine zpt ?_) | (refine zpf ?_)); refine zn ?_)
    all_goals
      first
      | (refine Q5 rfl ?_ -- Qk c7
         all_goals (refine Q0 ?_; refine Q1 ?_; refine zm ?_; refine zn ?_; refine zr ?_; refine zf ?_)
         all_goals (refine ⟨_, rfl, ?_, hS.sp⟩; (repeat (first | rw [if_pos (by omega)] | rw [if_neg (by omega)])); done))
      | (refine Q6 rfl ?_ -- Qk c7
         all_goals refine zsk ?_)
    all_goals (refine Q0 ?_; refine Q0 ?_; refine Q1 ?_; refine Q2 rfl ?_; refine zl hS ?_; refine zL ?_; refine zm ?_; refine zn ?_; refine Qa ?_)
    refine zoL hS [1, 44, 45] (fun A LL ρ' w' => ∃ (j : Nat), Has ρ' A ∧ Has ρ' [(46, .int .i64 j)] ∧ (j ≤ l.length) ∧ (Tys.wrong 8 l regs = Tys.wrong 8 (l.drop j) regs) ∧ St cx w' (LL)) (fun ρ' _ => (l.length - iv (ρ' 46)).toNat) ?_ ?_
    · exact ⟨0, zh, zh, (by omega), by simp, hS.sp⟩
    rintro ρ w1 ⟨j, hA, hρ, hj, hd, hS⟩; obtain ⟨ρ, rfl⟩ := env2 hA hρ
    unfold Q4S
    all_goals (refine Q0 ?_; refine Q1 ?_; refine Qs rfl rfl ?_; refine zn ?_; refine Q0 ?_)
    refine Qi rfl (fun hc => ?_) (fun hc => ?_)
    · skip
      all_goals (refine zsk ?_; refine Q0 ?_; refine Qa ?_; refine Q0 ?_; refine Q1 ?_; refine zi ?_; intro b1 o1 cs1 x1 hat1 hx1 he1; obtain ⟨vl1, rfl, hl1⟩ := Q1l he1; (first | (refine zv hS ?_) | (refine zvk hS ?_)); refine Qb hS ?_; intro p6 w1 hS; refine zsn hS ?_; intro w1 hS; have hS := hS.ns; refine zn ?_; refine Q0 ?_; refine Q1 ?_; refine zv hS ?_; refine zm ?_; refine zR2 (c := ih _ (List.mem_of_getElem? (by assumption)) (by assumption) hS) (h := ?_); rintro v1 w1 ⟨rfl, hS⟩; refine zm ?_; refine zn ?_; refine Q0 ?_; refine Q1 ?_; refine zm ?_)
      all_goals (first | (refine Q1D ?_) | (refine Q1E ?_) | (refine QA rfl rfl (fun hc => ?_) (fun hc => ?_)))
      all_goals (refine zn ?_)
      all_goals
        first
        | (refine Q5 rfl ?_ -- Qk c9
           all_goals (refine Q0 ?_; refine Q1 ?_; refine zm ?_; refine zm ?_; refine zn ?_; refine zr ?_; refine zf ?_)
           all_goals (first | (refine ⟨_, rfl, ?_, hS.sp⟩; (repeat (first | rw [if_pos (by omega)] | rw [if_neg (by omega)])); done) | (refine ⟨_, rfl, ?_, hS.sp⟩; ((repeat (first | rw [if_pos (by omega)] | rw [if_neg (by omega)])); rw [hd, Q7 hx1, Tys.wrong, if_pos (by assumption)]); done)))
        | (refine Q6 rfl ?_ -- Qk c9
           all_goals refine zsk ?_)
      all_goals (refine Q1 ?_; refine zad ?_; refine zm ?_; refine zn ?_; exact ⟨⟨j + 1, zh, zh, (by omega), by rw [hd, Q7 hx1, Tys.wrong, if_neg (by omega)], hS.sp⟩, Qg (by omega)⟩)
    · skip
      all_goals (refine zex ?_; refine Q0 ?_; refine Q1 ?_; refine zm ?_; refine zn ?_; refine zr ?_; refine zf ?_; (first | (refine ⟨_, rfl, ?_, hS.sp⟩; (repeat (first | rw [if_pos (by omega)] | rw [if_neg (by omega)])); done) | (refine ⟨_, rfl, ?_, hS.sp⟩; ((repeat (first | rw [if_pos (by omega)] | rw [if_neg (by omega)])); rw [hd, Q7 hx1, Tys.wrong, if_pos (by assumption)]); done) | (refine ⟨_, rfl, ?_, hS.sp⟩; ((repeat (first | rw [if_pos (by omega)] | rw [if_neg (by omega)])); rw [List.eq_nil_of_length_eq_zero (l := l) (by omega), Tys.wrong]); done) | (refine ⟨_, rfl, ?_, hS.sp⟩; ((repeat (first | rw [if_pos (by omega)] | rw [if_neg (by omega)])); rw [hd, List.drop_of_length_le (by omega), Tys.wrong]); done)))
theorem tcheck_c {t : Ty} {cx : Cx} {w : World} {L : List Res} {cs : List Value} {regs : Int} (ht : tyR.at cx cs t) (hS : St cx w L) :
    Rets Try.prog Q3O [.agg ⟨cs⟩, .int .i64 regs] w fun v w' => v = .int .i64 (t.fault regs) ∧ St cx w' L := by
  obtain ⟨v, rfl, hl⟩ := Q1l ht
  unfold Ty.fault
  all_goals refine Qec ?_
  all_goals (unfold types_Check_lc; refine Q0 ?_; refine Q1 ?_; refine zb hS ?_; intro p2 w1 hS; refine zm ?_; refine zn ?_; refine Q0 ?_; refine Q0 ?_; refine Q1 ?_; refine zv hS ?_)
  all_goals (refine zR2 (c := deep_c t ht (by omega) hS) (h := ?_); rintro v1 w1 ⟨rfl, hS⟩; cases hg : t.deepB 4)
  all_goals (refine Q2L rfl ?_; refine zn ?_)
  all_goals
    first
    | (refine Q5 rfl ?_ -- Q3O c0
       all_goals (refine Q0 ?_; refine Q1 ?_; refine zm ?_; refine zn ?_; refine zr ?_; refine zf ?_)
       all_goals (refine ⟨_, rfl, ?_, hS.sp⟩; (rfl); done))
    | (refine Q6 rfl ?_ -- Q3O c0
       all_goals refine zsk ?_)
  all_goals (refine Q0 ?_; refine Q1 ?_; refine zv hS ?_; refine zm ?_; refine zR2 (c := wrong_c t ht hS) (h := ?_); rintro v1 w1 ⟨rfl, hS⟩; refine zm ?_; refine zn ?_; refine zr ?_; refine zf ?_; refine ⟨_, rfl, ?_, hS.sp⟩; (rfl); done)
end Go.Proofs.Ytanlkfeogoganaa
namespace Go.Proofs.Ytanlkfeogoganaa
open Go.Lir
set_option maxHeartbeats 1000000
attribute [local irreducible] LC.wp Q3 Qz QJ retQ Q1A LO.wp Qh Calls
set_option linter.unusedSimpArgs false
set_option linter.unusedVariables false
end Go.Proofs.Ytanlkfeogoganaa
namespace Go.Proofs.Ytanlkfeogoganaa
open Go.Lir
set_option maxHeartbeats 1000000
attribute [local irreducible] LC.wp Q3 Qz QJ retQ Q1A LO.wp Qh Calls
set_option linter.unusedSimpArgs false
set_option linter.unusedVariables false
theorem QgN {l : List Ty} (ih : ∀ x ∈ l, ∀ (y : Ty) {cx : Cx} {w : World} {L : List Res} {cs ds : List Value}, tyR.at cx cs x → tyR.at cx ds y → St cx w L → Rets Try.prog Qak [.agg ⟨cs⟩, .agg ⟨ds⟩] w fun u w' => u = .bool (decide (x = y)) ∧ St cx w' L)
    {m : List Ty} {cx : Cx} {w : World} {L : List Res} {v v2 : Value} (hl : tyR.sl cx v l) (hm : tyR.sl cx v2 m) (hS : St cx w L) : Rets Try.prog Q1Y [v, v2] w fun u w' => u = .bool (decide (l = m)) ∧ St cx w' L := by
  have hlen := hl.len
  all_goals refine QeR ?_
  all_goals (unfold R_SameTypes_lc; refine Q0 ?_; refine Q1 ?_; refine zm ?_; refine zn ?_; refine Q0 ?_; refine Q0 ?_; refine Q1 ?_; refine zm ?_; refine zL ?_; refine zm ?_; refine zL ?_)
  all_goals (first | (refine Q1D ?_) | (refine Q1E ?_) | (refine QA rfl rfl (fun hc => ?_) (fun hc => ?_)))
  all_goals (refine zn ?_)
  all_goals
    first
    | (refine Q5 rfl ?_ -- Q1Y c0
       all_goals (refine Q0 ?_; refine Q1 ?_; refine zm ?_; refine zn ?_; refine zr ?_; refine zf ?_)
       all_goals (refine ⟨_, rfl, ?_, hS.sp⟩; rw [decide_eq_false]; exact fun e => absurd (congrArg List.length e) (by omega); done))
    | (refine Q6 rfl ?_ -- Q1Y c0
       all_goals refine zsk ?_)
  all_goals (refine Q0 ?_; refine Q0 ?_; refine Q1 ?_; refine zm ?_; refine zn ?_; refine Qa ?_)
  refine zoL hS [0, 1] (fun A LL ρ' w' => ∃ (j : Nat), Has ρ' A ∧ Has ρ' [(5, .int .i64 j)] ∧ (j ≤ l.length) ∧ (l.length = m.length) ∧ (l = m ↔ l.drop j = m.drop j) ∧ St cx w' (LL)) (fun ρ' _ => (l.length - iv (ρ' 5)).toNat) ?_ ?_
  · exact ⟨0, zh, zh, (by omega), (by omega), by simp, hS.sp⟩
  rintro ρ w1 ⟨j, hA, hρ, hj, hlm, hd, hS⟩; obtain ⟨ρ, rfl⟩ := env2 hA hρ
  unfold Q7d
  all_goals (refine Q0 ?_; refine Q0 ?_; refine Q1 ?_; refine zm ?_; refine zm ?_; refine zL ?_; refine Qs rfl rfl ?_; refine zn ?_)
  refine Qi rfl (fun hc => ?_) (fun hc => ?_)
  · skip
    all_goals (refine zsk ?_; refine Q0 ?_; refine Qa ?_; refine Q0 ?_; refine zD [(0, none), (1, none), (2, none), (3, none), (4, none), (5, none), (6, none), (7, none), (8, some none), (9, some none)] ?_; have hS := hS.drew; refine zm ?_; refine zm ?_; refine zi ?_; intro b1 o1 cs1 x1 hat1 hx1 he1; obtain ⟨vl1, rfl, hl1⟩ := Q1l he1; (first | (refine zv hS ?_) | (refine zvk hS ?_)); refine zm ?_; refine zm ?_; refine zi ?_; intro b2 o2 cs2 x2 hat2 hx2 he2; obtain ⟨vl2, rfl, hl2⟩ := Q1l he2; (first | (refine zv hS ?_) | (refine zvk hS ?_)))
    all_goals (refine zR2 (c := ih _ (List.mem_of_getElem? hx1) _ he1 he2 hS) (h := ?_); rintro v1 w1 ⟨rfl, hS⟩; (cases hdec : decide (x1 = x2)); have hg := of_decide_eq_false hdec; rotate_left; have hg := of_decide_eq_true hdec; all_goals skip)
    all_goals (refine Q2L rfl ?_; refine zn ?_)
    all_goals
      first
      | (refine Q5 rfl ?_ -- Q1Y c2
         all_goals (refine Q0 ?_; refine Q1 ?_; refine zm ?_; refine zn ?_; refine zr ?_; refine zf ?_)
         all_goals (first | (refine ⟨_, rfl, ?_, hS.sp⟩; rw [decide_eq_false]; exact fun e => absurd (congrArg List.length e) (by omega); done) | (refine ⟨_, rfl, ?_, hS.sp⟩; rw [decide_eq_false]; rw [hd, Q7 hx1, Q7 hx2]; simp [hg]; done)))
      | (refine Q6 rfl ?_ -- Q1Y c2
         all_goals refine zsk ?_)
    all_goals (refine Q1 ?_; refine zm ?_; refine zad ?_; refine zm ?_; refine zn ?_; exact ⟨⟨j + 1, zh, zh, (by omega), (by omega), by rw [hd, Q7 hx1, Q7 hx2, hg]; simp, hS.sp⟩, Qg (by omega)⟩)
  · skip
    all_goals (refine zex ?_; refine Q0 ?_; refine Q1 ?_; refine zm ?_; refine zn ?_; refine zr ?_; refine zf ?_; (first | (refine ⟨_, rfl, ?_, hS.sp⟩; rw [decide_eq_false]; exact fun e => absurd (congrArg List.length e) (by omega); done) | (refine ⟨_, rfl, ?_, hS.sp⟩; rw [decide_eq_false]; rw [hd, Q7 hx1, Q7 hx2]; simp [hg]; done) | (refine ⟨_, rfl, ?_, hS.sp⟩; rw [decide_eq_true]; rw [hd, List.drop_of_length_le (by omega), List.drop_of_length_le (by omega)]; done)))
theorem rsame_c : ∀ (t u : Ty) {cx : Cx} {w : World} {L : List Res} {cs ds : List Value}, tyR.at cx cs t → tyR.at cx ds u → St cx w L →
    Rets Try.prog Qak [.agg ⟨cs⟩, .agg ⟨ds⟩] w fun v w' => v = .bool (decide (t = u)) ∧ St cx w' L := by
  intro t
  induction t using Ty.ind with
  | h k r l ih =>
    rintro ⟨k2, r2, m⟩ cx w L cs ds ht hu hS
    obtain ⟨v, rfl, hl⟩ := Q1l ht
    obtain ⟨v2, rfl, hm⟩ := Q1l hu
    simp only [Ty.kind, Ty.r, Ty.l, Ty.mk.injEq] at hl hm ht hu ⊢
    all_goals refine Qgn ?_
    all_goals (unfold R_SameType_lc; refine Q0 ?_; refine Q1 ?_; refine zb hS ?_; intro p2 w1 hS; refine zb hS ?_; intro p3 w1 hS; refine zm ?_; refine zn ?_; refine Q0 ?_; refine Q1 ?_; refine Q2 rfl ?_; refine zl hS ?_; refine Q2 rfl ?_; refine zl hS ?_)
    all_goals (first | (refine QO ?_) | (refine Q1e ?_) | (refine Qf rfl rfl (fun hc => ?_) (fun hc => ?_)))
    all_goals (refine zm ?_; (first | refine s_gn rfl rfl ?_ | (refine s_gy rfl ?_; refine Q2 rfl ?_)); (first | refine s_gn rfl rfl ?_ | (refine s_gy rfl ?_; refine zl hS ?_)); (first | refine s_gn rfl rfl ?_ | (refine s_gy rfl ?_; refine Q2 rfl ?_)); (first | refine s_gn rfl rfl ?_ | (refine s_gy rfl ?_; refine zl hS ?_)))
    all_goals (first | refine s_gn rfl rfl ?_ | (refine s_gy rfl ?_; (first | (refine QO ?_) | (refine Q1e ?_) | (refine Qf rfl rfl (fun hc => ?_) (fun hc => ?_)))))
    all_goals ((first | (refine zpt ?_) | (refine zpf ?_)); refine zm ?_; (first | refine s_gn rfl rfl ?_ | (refine s_gy rfl ?_; refine Q2 rfl ?_)); (first | refine s_gn rfl rfl ?_ | (refine s_gy rfl ?_; refine zl hS ?_)); (first | refine s_gn rfl rfl ?_ | (refine s_gy rfl ?_; refine Q2 rfl ?_)); (first | refine s_gn rfl rfl ?_ | (refine s_gy rfl ?_; refine zl hS ?_)); (first | refine s_gn rfl rfl ?_ | (refine s_gy rfl ?_; refine zR2 (c := QgN ih hl hm hS) (h := ?_); rintro v1 w1 ⟨rfl, hS⟩)); (first | (refine zpt ?_) | (refine zpf ?_)); refine zm ?_; refine zn ?_; refine zr ?_; refine zf ?_; refine ⟨_, rfl, ?_, hS.sp⟩; (simp [*]); done)
theorem Q8y {l m : List Ty} {cx : Cx} {w : World} {L : List Res} {v v2 : Value} (hl : tyR.sl cx v l) (hm : tyR.sl cx v2 m) (hS : St cx w L) : Rets Try.prog Q1Y [v, v2] w fun u w' => u = .bool (decide (l = m)) ∧ St cx w' L :=
  QgN (fun x _ => rsame_c x) hl hm hS
/-- slices.EqualFunc, by a function that tells whether two are the same. -/
theorem eqfT_c {l : List Ty} {f : FuncId} (hf : Q2r Try.prog f = true) {m : List Ty} {cx : Cx} {w : World} {L : List Res} {v v2 : Value}
    (hcall : ∀ x ∈ l, ∀ y ∈ m, ∀ {w : World} {L : List Res} {cs ds : List Value}, tyR.at cx cs x → tyR.at cx ds y → St cx w L → Rets Try.prog f [.agg ⟨cs⟩, .agg ⟨ds⟩] w fun u w' => u = .bool (decide (x = y)) ∧ St cx w' L)
    (hl : tyR.sl cx v l) (hm : tyR.sl cx v2 m) (hS : St cx w L) : Rets Try.prog Q9 [v, v2, .func (.func f) #[] #[]] w fun u w' => u = .bool (decide (l = m)) ∧ St cx w' L := by
  have hlen := hl.len
  all_goals refine Q14 ?_
  all_goals (unfold slices_EqualFunc_api_Type_api_Type_api_Type_api_Type_lc; refine Q0 ?_; refine Q1 ?_; refine zm ?_; refine zn ?_; refine Q0 ?_; refine Q0 ?_; refine Q1 ?_; refine zm ?_; refine zL ?_; refine zm ?_; refine zL ?_)
  all_goals (first | (refine Q1D ?_) | (refine Q1E ?_) | (refine QA rfl rfl (fun hc => ?_) (fun hc => ?_)))
  all_goals (refine zn ?_)
  all_goals
    first
    | (refine Q5 rfl ?_ -- Q9 c0
       all_goals (refine Q0 ?_; refine Q1 ?_; refine zm ?_; refine zn ?_; refine zr ?_; refine zf ?_)
       all_goals (refine ⟨_, rfl, ?_, hS.sp⟩; rw [decide_eq_false]; exact fun e => absurd (congrArg List.length e) (by omega); done))
    | (refine Q6 rfl ?_ -- Q9 c0
       all_goals refine zsk ?_)
  all_goals (refine Q0 ?_; refine Q0 ?_; refine Q1 ?_; refine zm ?_; refine zL ?_; refine zm ?_; refine zn ?_; refine Qa ?_)
  refine zoL hS [1, 2, 15, 16] (fun A LL ρ' w' => ∃ (j : Nat), Has ρ' A ∧ Has ρ' [(17, .int .i64 j)] ∧ (j ≤ l.length) ∧ (l.length = m.length) ∧ (l = m ↔ l.drop j = m.drop j) ∧ St cx w' (LL)) (fun ρ' _ => (l.length - iv (ρ' 17)).toNat) ?_ ?_
  · exact ⟨0, zh, zh, (by omega), (by omega), by simp, hS.sp⟩
  rintro ρ w1 ⟨j, hA, hρ, hj, hlm, hd, hS⟩; obtain ⟨ρ, rfl⟩ := env2 hA hρ
  unfold Qn
  all_goals (refine Q0 ?_; refine Q1 ?_; refine Qs rfl rfl ?_; refine zn ?_; refine Q0 ?_)
  refine Qi rfl (fun hc => ?_) (fun hc => ?_)
  · skip
    all_goals (refine zsk ?_; refine Q0 ?_; refine Qa ?_; refine Q0 ?_; refine Q1 ?_; refine zm ?_; refine zi ?_; intro b1 o1 cs1 x1 hat1 hx1 he1; obtain ⟨vl1, rfl, hl1⟩ := Q1l he1; (first | (refine zv hS ?_) | (refine zvk hS ?_)); refine Qb hS ?_; intro p8 w1 hS; refine zm ?_; refine zsn hS ?_; intro w1 hS; have hS := hS.ns; refine zn ?_; refine Q0 ?_; refine Q1 ?_; refine zm ?_; refine zm ?_; refine zi ?_; intro b2 o2 cs2 x2 hat2 hx2 he2; obtain ⟨vl2, rfl, hl2⟩ := Q1l he2; (first | (refine zv hS ?_) | (refine zvk hS ?_)); refine Qb hS ?_; intro p9 w1 hS; refine zsn hS ?_; intro w1 hS; have hS := hS.ns; refine zn ?_; refine Q0 ?_; refine Q1 ?_; refine zm ?_; refine zv hS ?_; refine zv hS ?_)
    all_goals (refine Qjg rfl hf (by rfl) (hcall _ (List.mem_of_getElem? hx1) _ (List.mem_of_getElem? hx2) he1 he2 hS) ?_; rintro v1 w1 ⟨rfl, hS⟩; (cases hdec : decide (x1 = x2)); have hg := of_decide_eq_false hdec; rotate_left; have hg := of_decide_eq_true hdec; all_goals skip)
    all_goals (refine Q2L rfl ?_; refine zn ?_)
    all_goals
      first
      | (refine Q5 rfl ?_ -- Q9 c2
         all_goals (refine Q0 ?_; refine Q1 ?_; refine zm ?_; refine zn ?_; refine zr ?_; refine zf ?_)
         all_goals (first | (refine ⟨_, rfl, ?_, hS.sp⟩; rw [decide_eq_false]; exact fun e => absurd (congrArg List.length e) (by omega); done) | (refine ⟨_, rfl, ?_, hS.sp⟩; rw [decide_eq_false]; rw [hd, Q7 hx1, Q7 hx2]; simp [hg]; done)))
      | (refine Q6 rfl ?_ -- Q9 c2
         all_goals refine zsk ?_)
    all_goals (refine Q1 ?_; refine zad ?_; refine zm ?_; refine zn ?_; exact ⟨⟨j + 1, zh, zh, (by omega), (by omega), by rw [hd, Q7 hx1, Q7 hx2, hg]; simp, hS.sp⟩, Qg (by omega)⟩)
  · skip
    all_goals (refine zex ?_; refine Q0 ?_; refine Q1 ?_; refine zm ?_; refine zn ?_; refine zr ?_; refine zf ?_; (first | (refine ⟨_, rfl, ?_, hS.sp⟩; rw [decide_eq_false]; exact fun e => absurd (congrArg List.length e) (by omega); done) | (refine ⟨_, rfl, ?_, hS.sp⟩; rw [decide_eq_false]; rw [hd, Q7 hx1, Q7 hx2]; simp [hg]; done) | (refine ⟨_, rfl, ?_, hS.sp⟩; rw [decide_eq_true]; rw [hd, List.drop_of_length_le (by omega), List.drop_of_length_le (by omega)]; done)))
theorem psame_c : ∀ (t u : Ty) {cx : Cx} {w : World} {L : List Res} {cs ds : List Value}, tyR.at cx cs t → tyR.at cx ds u → St cx w L →
    Rets Try.prog QeZ [.agg ⟨cs⟩, .agg ⟨ds⟩] w fun v w' => v = .bool (decide (t = u)) ∧ St cx w' L := by
  intro t
  induction t using Ty.ind with
  | h k r l ih =>
    rintro ⟨k2, r2, m⟩ cx w L cs ds ht hu hS
    obtain ⟨v, rfl, hl⟩ := Q1l ht
    obtain ⟨v2, rfl, hm⟩ := Q1l hu
    simp only [Ty.kind, Ty.r, Ty.l, Ty.mk.injEq] at hl hm ht hu ⊢
    all_goals refine Qft ?_
    all_goals (unfold types_Same_lc; refine Q0 ?_; refine Q1 ?_; refine zb hS ?_; intro p2 w1 hS; refine zb hS ?_; intro p3 w1 hS; refine zm ?_; refine zn ?_; refine Q0 ?_; refine Q1 ?_; refine Q2 rfl ?_; refine zl hS ?_; refine Q2 rfl ?_; refine zl hS ?_)
    all_goals (first | (refine QO ?_) | (refine Q1e ?_) | (refine Qf rfl rfl (fun hc => ?_) (fun hc => ?_)))
    all_goals (refine zm ?_; (first | refine s_gn rfl rfl ?_ | (refine s_gy rfl ?_; refine Q2 rfl ?_)); (first | refine s_gn rfl rfl ?_ | (refine s_gy rfl ?_; refine zl hS ?_)); (first | refine s_gn rfl rfl ?_ | (refine s_gy rfl ?_; refine Q2 rfl ?_)); (first | refine s_gn rfl rfl ?_ | (refine s_gy rfl ?_; refine zl hS ?_)))
    all_goals (first | refine s_gn rfl rfl ?_ | (refine s_gy rfl ?_; (first | (refine QO ?_) | (refine Q1e ?_) | (refine Qf rfl rfl (fun hc => ?_) (fun hc => ?_)))))
    all_goals ((first | (refine zpt ?_) | (refine zpf ?_)); refine zm ?_; (first | refine s_gn rfl rfl ?_ | (refine s_gy rfl ?_; refine Q2 rfl ?_)); (first | refine s_gn rfl rfl ?_ | (refine s_gy rfl ?_; refine zl hS ?_)); (first | refine s_gn rfl rfl ?_ | (refine s_gy rfl ?_; refine Q2 rfl ?_)); (first | refine s_gn rfl rfl ?_ | (refine s_gy rfl ?_; refine zl hS ?_)); (first | refine s_gn rfl rfl ?_ | (refine s_gy rfl ?_; refine zR3 (c := eqfT_c (by kernel_rfl) (fun x hx y _ {_ _ _ _} h1 h2 h3 => ih x hx y h1 h2 h3) hl hm hS) (h := ?_); rintro v1 w1 ⟨rfl, hS⟩)); (first | (refine zpt ?_) | (refine zpf ?_)); refine zm ?_; refine zn ?_; refine zr ?_; refine zf ?_; refine ⟨_, rfl, ?_, hS.sp⟩; (simp [*]); done)
end Go.Proofs.Ytanlkfeogoganaa
namespace Go.Proofs.Ytanlkfeogoganaa
open Go.Lir
set_option maxHeartbeats 1000000
attribute [local irreducible] LC.wp Q3 Qz QJ retQ Q1A LO.wp Qh Calls
set_option linter.unusedSimpArgs false
set_option linter.unusedVariables false
theorem QcC {l m : List Int} {cx : Cx} {w : World} {L : List Res} {v v2 : Value} (hl : intR.sl cx v l) (hm : intR.sl cx v2 m) (hS : St cx w L) : Rets Try.prog Q2Q [v, v2] w fun u w' => u = .bool (decide (l = m)) ∧ St cx w' L := by
  have hlen := hl.len
  all_goals refine Qgx ?_
  all_goals (unfold R_SameInts_lc; refine Q0 ?_; refine Q1 ?_; refine zm ?_; refine zn ?_; refine Q0 ?_; refine Q0 ?_; refine Q1 ?_; refine zm ?_; refine zL ?_; refine zm ?_; refine zL ?_)
  all_goals (first | (refine Q1D ?_) | (refine Q1E ?_) | (refine QA rfl rfl (fun hc => ?_) (fun hc => ?_)))
  all_goals (refine zn ?_)
  all_goals
    first
    | (refine Q5 rfl ?_ -- Q2Q c0
       all_goals (refine Q0 ?_; refine Q1 ?_; refine zm ?_; refine zn ?_; refine zr ?_; refine zf ?_)
       all_goals (refine ⟨_, rfl, ?_, hS.sp⟩; rw [decide_eq_false]; exact fun e => absurd (congrArg List.length e) (by omega); done))
    | (refine Q6 rfl ?_ -- Q2Q c0
       all_goals refine zsk ?_)
  all_goals (refine Q0 ?_; refine Q0 ?_; refine Q1 ?_; refine zm ?_; refine zn ?_; refine Qa ?_)
  refine zoL hS [0, 1] (fun A LL ρ' w' => ∃ (j : Nat), Has ρ' A ∧ Has ρ' [(5, .int .i64 j)] ∧ (j ≤ l.length) ∧ (l.length = m.length) ∧ (l = m ↔ l.drop j = m.drop j) ∧ St cx w' (LL)) (fun ρ' _ => (l.length - iv (ρ' 5)).toNat) ?_ ?_
  · exact ⟨0, zh, zh, (by omega), (by omega), by simp, hS.sp⟩
  rintro ρ w1 ⟨j, hA, hρ, hj, hlm, hd, hS⟩; obtain ⟨ρ, rfl⟩ := env2 hA hρ
  unfold Q9n
  all_goals (refine Q0 ?_; refine Q0 ?_; refine Q1 ?_; refine zm ?_; refine zm ?_; refine zL ?_; refine Qs rfl rfl ?_; refine zn ?_)
  refine Qi rfl (fun hc => ?_) (fun hc => ?_)
  · skip
    all_goals (refine zsk ?_; refine Q0 ?_; refine Qa ?_; refine Q0 ?_; refine zD [(0, none), (1, none), (2, none), (3, none), (4, none), (5, none), (6, none), (7, none), (8, some none)] ?_; have hS := hS.drew; refine zm ?_; refine zm ?_; refine zi ?_; intro b1 o1 cs1 x1 hat1 hx1 he1; obtain rfl := Q1H he1; (first | (refine zl hS ?_) | (refine zlk hS ?_)); refine zm ?_; refine zm ?_; refine zi ?_; intro b2 o2 cs2 x2 hat2 hx2 he2; obtain rfl := Q1H he2; (first | (refine zl hS ?_) | (refine zlk hS ?_)))
    all_goals (first | (refine Q1D ?_) | (refine Q1E ?_) | (refine QA rfl rfl (fun hc => ?_) (fun hc => ?_)))
    all_goals (refine zn ?_)
    all_goals
      first
      | (refine Q5 rfl ?_ -- Q2Q c2
         all_goals (refine Q0 ?_; refine Q1 ?_; refine zm ?_; refine zn ?_; refine zr ?_; refine zf ?_)
         all_goals (first | (refine ⟨_, rfl, ?_, hS.sp⟩; rw [decide_eq_false]; exact fun e => absurd (congrArg List.length e) (by omega); done) | (refine ⟨_, rfl, ?_, hS.sp⟩; rw [decide_eq_false]; rw [hd, Q7 hx1, Q7 hx2]; simp [*]; done)))
      | (refine Q6 rfl ?_ -- Q2Q c2
         all_goals refine zsk ?_)
    all_goals (refine Q1 ?_; refine zm ?_; refine zad ?_; refine zm ?_; refine zn ?_; exact ⟨⟨j + 1, zh, zh, (by omega), (by omega), by rw [hd, Q7 hx1, Q7 hx2, show x1 = x2 by omega]; simp, hS.sp⟩, Qg (by omega)⟩)
  · skip
    all_goals (refine zex ?_; refine Q0 ?_; refine Q1 ?_; refine zm ?_; refine zn ?_; refine zr ?_; refine zf ?_; (first | (refine ⟨_, rfl, ?_, hS.sp⟩; rw [decide_eq_false]; exact fun e => absurd (congrArg List.length e) (by omega); done) | (refine ⟨_, rfl, ?_, hS.sp⟩; rw [decide_eq_false]; rw [hd, Q7 hx1, Q7 hx2]; simp [*]; done) | (refine ⟨_, rfl, ?_, hS.sp⟩; rw [decide_eq_true]; rw [hd, List.drop_of_length_le (by omega), List.drop_of_length_le (by omega)]; done)))
theorem QgM {x y : To} {cx : Cx} {w : World} {L : List Res} {cs ds : List Value} (hx : toR.at cx cs x) (hy : toR.at cx ds y) (hS : St cx w L) : Rets Try.prog Qiz [.agg ⟨cs⟩, .agg ⟨ds⟩] w fun u w' => u = .bool (decide (x = y)) ∧ St cx w' L := by
  obtain ⟨n, xr, xa⟩ := x
  obtain ⟨n2, yr, ya⟩ := y
  obtain ⟨v1, v2, rfl, h1, h2⟩ := Q7g hx
  obtain ⟨v3, v4, rfl, h3, h4⟩ := Q7g hy
  simp only [To.mk.injEq] at *
  all_goals refine Qib ?_
  all_goals (unfold R_sameTo_lc; refine Q0 ?_; refine Q1 ?_; refine zb hS ?_; intro p2 w1 hS; refine zb hS ?_; intro p3 w1 hS; refine zm ?_; refine zn ?_; refine Q0 ?_; refine Q1 ?_; refine Q2 rfl ?_; refine zl hS ?_; refine Q2 rfl ?_; refine zl hS ?_)
  all_goals (first | (refine QO ?_) | (refine Q1e ?_) | (refine Qf rfl rfl (fun hc => ?_) (fun hc => ?_)))
  all_goals (refine zm ?_; (first | refine s_gn rfl rfl ?_ | (refine s_gy rfl ?_; refine Q2 rfl ?_)); (first | refine s_gn rfl rfl ?_ | (refine s_gy rfl ?_; refine zl hS ?_)); (first | refine s_gn rfl rfl ?_ | (refine s_gy rfl ?_; refine Q2 rfl ?_)); (first | refine s_gn rfl rfl ?_ | (refine s_gy rfl ?_; refine zl hS ?_)))
  all_goals ((first | (refine s_gn rfl rfl ?_) | (refine s_gy rfl ?_; refine zR2 (c := QcC h1 h3 hS) (h := ?_); rintro v1 w1 ⟨rfl, hS⟩; (cases hdec : decide (xr = yr)); have hg := of_decide_eq_false hdec; rotate_left; have hg := of_decide_eq_true hdec; all_goals skip)))
  all_goals ((first | (refine zpt ?_) | (refine zpf ?_)); refine zm ?_; (first | refine s_gn rfl rfl ?_ | (refine s_gy rfl ?_; refine Q2 rfl ?_)); (first | refine s_gn rfl rfl ?_ | (refine s_gy rfl ?_; refine zl hS ?_)); (first | refine s_gn rfl rfl ?_ | (refine s_gy rfl ?_; refine Q2 rfl ?_)); (first | refine s_gn rfl rfl ?_ | (refine s_gy rfl ?_; refine zl hS ?_)); (first | (refine s_gn rfl rfl ?_) | (refine s_gy rfl ?_; refine zR2 (c := QcC h2 h4 hS) (h := ?_); rintro v1 w1 ⟨rfl, hS⟩)); (first | (refine zpt ?_) | (refine zpf ?_)); refine zm ?_; refine zn ?_; refine zr ?_; refine zf ?_; refine ⟨_, rfl, ?_, hS.sp⟩; (simp [*]); done)
theorem QiJ {x y : Ins} {cx : Cx} {w : World} {L : List Res} {cs ds : List Value} (hx : insR.at cx cs x) (hy : insR.at cx ds y) (hS : St cx w L) : Rets Try.prog Qhx [.agg ⟨cs⟩, .agg ⟨ds⟩] w fun u w' => u = .bool (decide (x = y)) ∧ St cx w' L := by
  obtain ⟨n, a, b, c, k, nn, xr, xa⟩ := x
  obtain ⟨n2, a2, b2, c2, k2, nn2, yr, ya⟩ := y
  obtain ⟨v1, v2, rfl, h1, h2⟩ := Q26 hx
  obtain ⟨v3, v4, rfl, h3, h4⟩ := Q26 hy
  simp only [Ins.mk.injEq] at *
  all_goals refine Qhw ?_
  all_goals (unfold R_sameIns_lc; refine Q0 ?_; refine Q1 ?_; refine zb hS ?_; intro p2 w1 hS; refine zb hS ?_; intro p3 w1 hS; refine zm ?_; refine zn ?_; refine Q0 ?_; refine Q1 ?_; refine Q2 rfl ?_; refine zl hS ?_; refine Q2 rfl ?_; refine zl hS ?_)
  all_goals (first | (refine QO ?_) | (refine Q1e ?_) | (refine Qf rfl rfl (fun hc => ?_) (fun hc => ?_)))
  all_goals (refine zm ?_; (first | refine s_gn rfl rfl ?_ | (refine s_gy rfl ?_; refine Q2 rfl ?_)); (first | refine s_gn rfl rfl ?_ | (refine s_gy rfl ?_; refine zl hS ?_)); (first | refine s_gn rfl rfl ?_ | (refine s_gy rfl ?_; refine Q2 rfl ?_)); (first | refine s_gn rfl rfl ?_ | (refine s_gy rfl ?_; refine zl hS ?_)))
  all_goals (first | refine s_gn rfl rfl ?_ | (refine s_gy rfl ?_; (first | (refine QO ?_) | (refine Q1e ?_) | (refine Qf rfl rfl (fun hc => ?_) (fun hc => ?_)))))
  all_goals ((first | (refine zpt ?_) | (refine zpf ?_)); refine zm ?_; (first | refine s_gn rfl rfl ?_ | (refine s_gy rfl ?_; refine Q2 rfl ?_)); (first | refine s_gn rfl rfl ?_ | (refine s_gy rfl ?_; refine zl hS ?_)); (first | refine s_gn rfl rfl ?_ | (refine s_gy rfl ?_; refine Q2 rfl ?_)); (first | refine s_gn rfl rfl ?_ | (refine s_gy rfl ?_; refine zl hS ?_)))
  all_goals (first | refine s_gn rfl rfl ?_ | (refine s_gy rfl ?_; (first | (refine QO ?_) | (refine Q1e ?_) | (refine Qf rfl rfl (fun hc => ?_) (fun hc => ?_)))))
  all_goals ((first | (refine zpt ?_) | (refine zpf ?_)); refine zm ?_; (first | refine s_gn rfl rfl ?_ | (refine s_gy rfl ?_; refine Q2 rfl ?_)); (first | refine s_gn rfl rfl ?_ | (refine s_gy rfl ?_; refine zl hS ?_)); (first | refine s_gn rfl rfl ?_ | (refine s_gy rfl ?_; refine Q2 rfl ?_)); (first | refine s_gn rfl rfl ?_ | (refine s_gy rfl ?_; refine zl hS ?_)))
  all_goals (first | refine s_gn rfl rfl ?_ | (refine s_gy rfl ?_; (first | (refine QO ?_) | (refine Q1e ?_) | (refine Qf rfl rfl (fun hc => ?_) (fun hc => ?_)))))
  all_goals ((first | (refine zpt ?_) | (refine zpf ?_)); refine zm ?_; (first | refine s_gn rfl rfl ?_ | (refine s_gy rfl ?_; refine Q2 rfl ?_)); (first | refine s_gn rfl rfl ?_ | (refine s_gy rfl ?_; refine zl hS ?_)); (first | refine s_gn rfl rfl ?_ | (refine s_gy rfl ?_; refine Q2 rfl ?_)); (first | refine s_gn rfl rfl ?_ | (refine s_gy rfl ?_; refine zl hS ?_)))
  all_goals (first | refine s_gn rfl rfl ?_ | (refine s_gy rfl ?_; (first | (refine QO ?_) | (refine Q1e ?_) | (refine Qf rfl rfl (fun hc => ?_) (fun hc => ?_)))))
  all_goals ((first | (refine zpt ?_) | (refine zpf ?_)); refine zm ?_; (first | refine s_gn rfl rfl ?_ | (refine s_gy rfl ?_; refine Q2 rfl ?_)); (first | refine s_gn rfl rfl ?_ | (refine s_gy rfl ?_; refine zl hS ?_)); (first | refine s_gn rfl rfl ?_ | (refine s_gy rfl ?_; refine Q2 rfl ?_)); (first | refine s_gn rfl rfl ?_ | (refine s_gy rfl ?_; refine zl hS ?_)))
  all_goals (first | refine s_gn rfl rfl ?_ | (refine s_gy rfl ?_; (first | (refine QO ?_) | (refine Q1e ?_) | (refine Qf rfl rfl (fun hc => ?_) (fun hc => ?_)))))
  all_goals ((first | (refine zpt ?_) | (refine zpf ?_)); refine zm ?_; (first | refine s_gn rfl rfl ?_ | (refine s_gy rfl ?_; refine Q2 rfl ?_)); (first | refine s_gn rfl rfl ?_ | (refine s_gy rfl ?_; refine zl hS ?_)); (first | refine s_gn rfl rfl ?_ | (refine s_gy rfl ?_; refine Q2 rfl ?_)); (first | refine s_gn rfl rfl ?_ | (refine s_gy rfl ?_; refine zl hS ?_)))
  all_goals ((first | (refine s_gn rfl rfl ?_) | (refine s_gy rfl ?_; refine zR2 (c := QcC h1 h3 hS) (h := ?_); rintro v1 w1 ⟨rfl, hS⟩; (cases hdec : decide (xr = yr)); have hg := of_decide_eq_false hdec; rotate_left; have hg := of_decide_eq_true hdec; all_goals skip)))
  all_goals ((first | (refine zpt ?_) | (refine zpf ?_)); refine zm ?_; (first | refine s_gn rfl rfl ?_ | (refine s_gy rfl ?_; refine Q2 rfl ?_)); (first | refine s_gn rfl rfl ?_ | (refine s_gy rfl ?_; refine zl hS ?_)); (first | refine s_gn rfl rfl ?_ | (refine s_gy rfl ?_; refine Q2 rfl ?_)); (first | refine s_gn rfl rfl ?_ | (refine s_gy rfl ?_; refine zl hS ?_)); (first | (refine s_gn rfl rfl ?_) | (refine s_gy rfl ?_; refine zR2 (c := QcC h2 h4 hS) (h := ?_); rintro v1 w1 ⟨rfl, hS⟩)); (first | (refine zpt ?_) | (refine zpf ?_)); refine zm ?_; refine zn ?_; refine zr ?_; refine zf ?_; refine ⟨_, rfl, ?_, hS.sp⟩; (simp [*]); done)
end Go.Proofs.Ytanlkfeogoganaa
namespace Go.Proofs.Ytanlkfeogoganaa
open Go.Lir
set_option maxHeartbeats 1000000
attribute [local irreducible] LC.wp Q3 Qz QJ retQ Q1A LO.wp Qh Calls
set_option linter.unusedSimpArgs false
set_option linter.unusedVariables false
end Go.Proofs.Ytanlkfeogoganaa
