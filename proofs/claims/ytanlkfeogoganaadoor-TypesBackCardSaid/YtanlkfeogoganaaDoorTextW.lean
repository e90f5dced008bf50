/- The text of types (contracts). -/
import Derived.Test.YtanlkfeogoganaaDoorTyS
import Derived.Test.YtanlkfeogoganaaDoorTyTxt
import Derived.Test.YtanlkfeogoganaaDoorLirTab
import Derived.Test.YtanlkfeogoganaaDoorShelf
namespace Go.Proofs.YtanlkfeogoganaaDoor
open Go.Lir
attribute [local irreducible] LC.wp opsWp thenQ blockQ retQ resWp LO.wp callPost Calls
set_option linter.unusedSimpArgs false
set_option linter.unusedVariables false
attribute [local irreducible] Lib.itoa Lib.join
/-- The table of powers of ten lies in what is only read. -/
abbrev PowT (c : Cx) : Prop := TabK Tryd.prog c "internal/strconv.uint64pow10" .u64 Lib.pow10Tab
theorem itoa_c {n : Int} {cx : Cx} {w : World} {L : List Res} (h0 : -9223372036854775808 ≤ n) (h1 : n ≤ 9223372036854775807) (hT : PowT cx) (hS : St cx w L) :
    Rets Tryd.prog 24 [.int .i64 n] w fun u w' => u = .string ⟨(Lib.itoa n).toArray⟩ ∧ St cx w' L := by
  refine Calls.mono (Tryd.strconv_Itoa n h0 h1 w (hT.now hS)) ?_
  rintro e w' ⟨rfl, k, os, rfl⟩
  exact ⟨_, rfl, rfl, hS.fr0 (grow_fr w k os)⟩
theorem join_c {xs : List (List UInt8)} {sep : List UInt8} {cx : Cx} {w : World} {L : List Res} {T : TypeId} {i : Nat} {v : Value} {css : List (List Value)} (hS : St cx w L) (hi : nth L i = some (sl T 1 v css))
    (hl : strR.ls cx css (xs.map fun x => ⟨x.toArray⟩)) (hn : xs.length ≤ 140737488355328) (hlen : (Lib.join xs sep).length ≤ 140737488355328) :
    Rets Tryd.prog 25 [v, .string ⟨sep.toArray⟩] w fun u w' => u = .string ⟨(Lib.join xs sep).toArray⟩ ∧ St cx w' L := by
  obtain ⟨a, cap, rfl, hcap, hc⟩ := hS.strs hi hl
  have hm : (xs.map fun x => (⟨x.toArray⟩ : ByteArray)).map (·.data.toList) = xs := by
    rw [List.map_map]; exact (List.map_congr_left fun x _ => rfl).trans (List.map_id xs)
  rcases hc with hc | ⟨b, off, rfl, hb, hcells⟩
  · have hx : xs = [] := by simpa using hc
    subst hx
    refine Calls.mono (Tryd.strings_Join_none a cap ⟨sep.toArray⟩ w) ?_
    rintro e w' ⟨rfl, rfl⟩
    exact ⟨_, rfl, by rw [Lib.join_nil], hS⟩
  · have := Tryd.strings_Join b off cap (xs.map fun x => ⟨x.toArray⟩) ⟨sep.toArray⟩ w hcells hb (by simpa using hn) hcap (by rw [hm]; exact hlen)
    rw [hm] at this
    refine Calls.mono this ?_
    rintro e w' ⟨rfl, hbw⟩
    exact ⟨_, rfl, rfl, hS.fr0 (below_fr hbw)⟩
theorem ttext_c : ∀ (t : Ty), t.InR → t.nodes ≤ 100000 → ∀ {cx : Cx} {w : World} {L : List Res} {cs : List Value}, tyR.at cx cs t → PowT cx → St cx w L →
    Rets Tryd.prog types_Text [.agg ⟨cs⟩] w fun u w' => u = .string ⟨t.txt.toArray⟩ ∧ St cx w' L := by
  intro t
  induction t using Ty.ind with
  | h k r l ih =>
    intro hr hn cx w L cs ht hT hS
    obtain ⟨v, rfl, hl⟩ := tyR_out ht
    simp only [Ty.kind, Ty.r, Ty.l] at hl ht ⊢
    obtain ⟨hk, ⟨hr0, hr1⟩, hsub⟩ := hr.parts
    have hi := Lib.itoa_length_le r hr0 hr1
    rw [Ty.nodes] at hn
    have hlen := Tys.nodes_len l
    have hnm : ∀ x ∈ l, x.nodes ≤ 100000 := fun x hx => by have := Tys.nodes_mem hx; omega
    have hjl := Tys.join_len l hsub
    rw [Ty.txt]
    all_goals refine types_Text_in ?_
    all_goals (unfold types_Text_lc; refine s_seq ?_; refine s_ops ?_; refine s_boxB hS (by (conv => lhs; whnf); first | done | exact rfl) (by rfl) ?_; (intro p1 w1 hS); refine s_mov (by (conv => lhs; whnf); first | done | exact rfl) ?_; refine s_nil ?_; (repeat (first | refine s_then ?_ | refine s_blockN ?_)); refine s_seq ?_; refine s_ops ?_; (first | refine s_fld0 rfl ?_ | refine s_fld rfl ?_); (first | (refine s_loadB hS rfl (NthP.nth (by repeat constructor)) rfl ?_) | (refine s_loadK hS (by assumption) rfl rfl ?_) | (refine s_loadKj hS (by assumption) rfl rfl ?_)); refine s_rets_1 (by (conv => lhs; whnf); first | done | exact rfl) (itoa_c hr0 hr1 hT hS) ?_; rintro v1 w1 ⟨rfl, hS⟩; refine s_mov (by (conv => lhs; whnf); first | done | exact rfl) ?_; refine s_nil ?_; (repeat (first | refine s_then ?_ | refine s_blockN ?_)); refine s_seq ?_; refine s_seq ?_; refine s_ops ?_; (first | refine s_fld0 rfl ?_ | refine s_fld rfl ?_); (first | (refine s_loadB hS rfl (NthP.nth (by repeat constructor)) rfl ?_) | (refine s_loadK hS (by assumption) rfl rfl ?_) | (refine s_loadKj hS (by assumption) rfl rfl ?_)); refine s_nil ?_; (repeat (first | refine s_then ?_ | refine s_blockN ?_)); refine s_block ?_; refine s_seq ?_; refine s_ops ?_)
    all_goals (first | (refine s_eql_t rfl rfl (by omega) ?_) | (refine s_eql_f rfl rfl (by omega) ?_) | (refine s_eql_s rfl rfl (fun hc => ?_) (fun hc => ?_)))
    all_goals (refine s_mov (by (conv => lhs; whnf); first | done | exact rfl) ?_; refine s_nil ?_; (repeat (first | refine s_then ?_ | refine s_blockN ?_)))
    all_goals
      first
      | (refine s_cond_t rfl ?_ -- types_Text c0
         all_goals (refine s_seq ?_; refine s_ops ?_; refine s_mov (by (conv => lhs; whnf); first | done | exact rfl) ?_; refine s_sadd rfl rfl (by first | omega | (simp only [List.length_append, List.length_cons, List.length_nil]; omega)) ?_; refine s_mov (by (conv => lhs; whnf); first | done | exact rfl) ?_; refine s_nil ?_; (repeat (first | refine s_then ?_ | refine s_blockN ?_)); refine s_ret ?_; (repeat (first | refine s_retT ?_ | refine s_retB ?_)); refine q_ret1 (by (conv => lhs; whnf); first | done | exact rfl) ?_)
         all_goals (first | ((refine ⟨_, rfl, ?_, (hS.subP (by (repeat constructor); first | done | fail))⟩; (rw [if_pos (by omega)]); done)) | ((refine ⟨_, rfl, ?_, (hS.subP (by (repeat constructor); first | done | fail))⟩; (rw [if_neg (by omega), if_pos (by omega)]); done)) | ((refine ⟨_, rfl, ?_, (hS.subP (by (repeat constructor); first | done | fail))⟩; (rw [if_neg (by omega), if_neg (by omega), if_pos (by omega)]); done)) | ((refine ⟨_, rfl, ?_, (hS.subP (by (repeat constructor); first | done | fail))⟩; (rw [if_neg (by omega), if_neg (by omega), if_neg (by omega)]); done)) | (trace_state; fail "no ret fits")))
      | (refine s_cond_f rfl ?_ -- types_Text c0
         all_goals (refine s_seq ?_; refine s_ops ?_)
         all_goals (first | (refine s_eql_t rfl rfl (by omega) ?_) | (refine s_eql_f rfl rfl (by omega) ?_) | (refine s_eql_s rfl rfl (fun hc => ?_) (fun hc => ?_)))
         all_goals (refine s_mov (by (conv => lhs; whnf); first | done | exact rfl) ?_; refine s_nil ?_; (repeat (first | refine s_then ?_ | refine s_blockN ?_)))
         all_goals
           first
           | (refine s_cond_t rfl ?_ -- types_Text c1
              all_goals (refine s_seq ?_; refine s_ops ?_; refine s_mov (by (conv => lhs; whnf); first | done | exact rfl) ?_; refine s_sadd rfl rfl (by first | omega | (simp only [List.length_append, List.length_cons, List.length_nil]; omega)) ?_; refine s_mov (by (conv => lhs; whnf); first | done | exact rfl) ?_; refine s_nil ?_; (repeat (first | refine s_then ?_ | refine s_blockN ?_)); refine s_ret ?_; (repeat (first | refine s_retT ?_ | refine s_retB ?_)); refine q_ret1 (by (conv => lhs; whnf); first | done | exact rfl) ?_)
              all_goals (first | ((refine ⟨_, rfl, ?_, (hS.subP (by (repeat constructor); first | done | fail))⟩; (rw [if_pos (by omega)]); done)) | ((refine ⟨_, rfl, ?_, (hS.subP (by (repeat constructor); first | done | fail))⟩; (rw [if_neg (by omega), if_pos (by omega)]); done)) | ((refine ⟨_, rfl, ?_, (hS.subP (by (repeat constructor); first | done | fail))⟩; (rw [if_neg (by omega), if_neg (by omega), if_pos (by omega)]); done)) | ((refine ⟨_, rfl, ?_, (hS.subP (by (repeat constructor); first | done | fail))⟩; (rw [if_neg (by omega), if_neg (by omega), if_neg (by omega)]); done)) | (trace_state; fail "no ret fits")))
           | (refine s_cond_f rfl ?_ -- types_Text c1
              all_goals (refine s_seq ?_; refine s_ops ?_)
              all_goals (first | (refine s_eql_t rfl rfl (by omega) ?_) | (refine s_eql_f rfl rfl (by omega) ?_) | (refine s_eql_s rfl rfl (fun hc => ?_) (fun hc => ?_)))
              all_goals (refine s_mov (by (conv => lhs; whnf); first | done | exact rfl) ?_; refine s_nil ?_; (repeat (first | refine s_then ?_ | refine s_blockN ?_)))
              all_goals
                first
                | (refine s_cond_t rfl ?_ -- types_Text c2
                   all_goals (refine s_seq ?_; refine s_ops ?_; refine s_mov (by (conv => lhs; whnf); first | done | exact rfl) ?_; refine s_nil ?_; (repeat (first | refine s_then ?_ | refine s_blockN ?_)); refine s_seq ?_; refine s_seq ?_; refine s_ops ?_; (first | refine s_fld0 rfl ?_ | refine s_fld rfl ?_); (first | (refine s_loadB hS rfl (NthP.nth (by repeat constructor)) rfl ?_) | (refine s_loadK hS (by assumption) rfl rfl ?_) | (refine s_loadKj hS (by assumption) rfl rfl ?_)); (first | (refine s_lenL (by (conv => lhs; whnf); first | done | exact rfl) (by assumption) ?_) | (refine s_lenEn hS (by (conv => lhs; whnf); first | done | exact rfl) (NthP.nth (by repeat constructor)) (by first | exact List.length_map _ | rfl) ?_) | (refine s_lenKn (by (conv => lhs; whnf); first | done | exact rfl) (by assumption) (by first | exact List.length_map _ | rfl) ?_) | (refine s_len rfl ?_)); refine s_mov (by (conv => lhs; whnf); first | done | exact rfl) ?_; refine s_nil ?_; (repeat (first | refine s_then ?_ | refine s_blockN ?_)); refine s_block ?_)
                   refine s_ask (i := 3) (by (conv => lhs; whnf); first | done | exact rfl) (fun e3 => ?_)
                   refine s_ask (i := 23) (by (conv => lhs; whnf); first | done | exact rfl) (fun e23 => ?_)
                   refine s_ask (i := 24) (by (conv => lhs; whnf); first | done | exact rfl) (fun e24 => ?_)
                   refine s_loop ((fun {xx3 V3 : Value} (_ : xx3 = V3) {xx23 V23 : Value} (_ : xx23 = V23) {xx24 V24 : Value} (_ : xx24 = V24) {cc : Cx} {ww : World} {LL : List Res} (_ : St cc ww LL) => (fun ρ' w' => ∃ (j : Nat) (u : Value) (css : List (List Value)), Has ρ' [(3, V3), (23, V23), (24, V24), (4, u), (25, .int .i64 j)] ∧ (j ≤ l.length) ∧ (strR.ls cx css ((l.take j).map fun x => ⟨x.txt.toArray⟩)) ∧ (oneC u = true) ∧ St cx w' (sl 9 1 u css :: LL) : Env → World → Prop)) e3 e23 e24 hS) (fun ρ' _ => (l.length - iv (ρ' 25)).toNat) ?_ ?_
                   · exact ⟨0, .slice none 0 0, [], ⟨rfl, rfl, rfl, rfl, rfl, trivial⟩, (by first | omega | assumption | rfl | (simp; done) | (simp; omega)), Rep.LR.nil _ _ _, rfl, by have hS := hS.nil (T := 9) (es := 1); exact (hS.subP (by (repeat constructor); first | done | fail))⟩
                   dsimp only; clear e3 e23 e24; rintro ρ w1 ⟨j, u, css, hρ, hj, hls, hu, hS⟩; obtain ⟨ρ, rfl⟩ := env_intro _ hρ
                   unfold types_Text_b10
                   all_goals (refine s_seq ?_; refine s_ops ?_; refine s_lss_d rfl rfl ?_; refine s_nil ?_; (repeat (first | refine s_then ?_ | refine s_blockN ?_)); refine s_seq ?_)
                   refine s_cond_d rfl (fun hc => ?_) (fun hc => ?_)
                   · skip
                     all_goals (refine s_skip ?_; (repeat (first | refine s_then ?_ | refine s_blockN ?_)); refine s_seq ?_; refine s_block ?_; refine s_seq ?_; refine s_ops ?_; (first | refine s_idxLn (by (conv => lhs; whnf); first | done | exact rfl) rfl (by assumption) rfl (by first | omega | (simp; omega)) ?_ | refine s_idxL (by (conv => lhs; whnf); first | done | exact rfl) rfl (by assumption) rfl (by first | omega | (simp; omega)) (by first | omega | (simp; omega)) ?_); intro b1 o1 cs1 x1 hat1 hx1 he1; (first | (obtain ⟨vl1, rfl, hl1⟩ := tyR_out he1) | skip); (first | (refine s_loadnB hS rfl (NthP.nth (by repeat constructor)) rfl rfl ?_) | (refine s_loadnK hS (by assumption) rfl rfl ?_) | (refine s_loadnKj hS (by assumption) rfl rfl rfl ?_)); refine s_allocB hS ?_; (intro p6 w1 hS); (first | (refine s_storenF hS rfl rfl (by rfl) (NthP.nth (by repeat constructor)) (by rfl) (by first | (simp [oneC]; done) | assumption | exact Rep.one _ (by assumption) | (simp only [List.take_succ_cons, List.take_zero, List.drop_zero, List.mem_cons, List.not_mem_nil, or_false, forall_eq_or_imp, forall_eq]; ((try refine And.intro ?_ ?_) <;> try refine And.intro ?_ ?_) <;> first | rfl | assumption)) ?_; intro w1 hS; simp only [List.set_cons_zero, List.set_cons_succ] at hS) | (refine s_storenB hS rfl rfl (by rfl) (NthP.nth (by repeat constructor)) (by simp) (by first | (simp [oneC]; done) | assumption | exact Rep.one _ (by assumption) | (simp only [List.take_succ_cons, List.take_zero, List.drop_zero, List.mem_cons, List.not_mem_nil, or_false, forall_eq_or_imp, forall_eq]; ((try refine And.intro ?_ ?_) <;> try refine And.intro ?_ ?_) <;> first | rfl | assumption)) (by (conv => lhs; simp only [List.take_succ_cons, List.take_zero, List.drop_succ_cons, List.drop_zero, List.cons_append, List.nil_append]); first | done | exact rfl) ?_; intro w1 hS; simp only [List.set_cons_zero, List.set_cons_succ] at hS)))
                     all_goals (refine s_nil ?_; (repeat (first | refine s_then ?_ | refine s_blockN ?_)); refine s_ops ?_; refine s_mov (by (conv => lhs; whnf); first | done | exact rfl) ?_; (first | (refine s_loadnB hS rfl (NthP.nth (by repeat constructor)) rfl rfl ?_) | (refine s_loadnK hS (by assumption) rfl rfl ?_) | (refine s_loadnKj hS (by assumption) rfl rfl rfl ?_)); refine s_rets_1 (by (conv => lhs; whnf); first | done | exact rfl) (ih _ (List.mem_of_getElem? hx1) (hsub _ (List.mem_of_getElem? hx1)) (hnm _ (List.mem_of_getElem? hx1)) he1 hT hS) ?_; rintro v1 w1 ⟨rfl, hS⟩; refine s_buildS1 (cs := [_]) (by (conv => lhs; whnf); first | done | exact rfl) (by rfl) ?_; intro b1 w1 hb1 hf1 _ hk1; have hS := hS.laid hb1 hf1 hk1; (first | (refine s_appR1 el_T42 u_T42 hS (by (conv => lhs; whnf); first | done | exact rfl) (by (conv => lhs; whnf); first | done | exact rfl) (NthP.nth (by repeat constructor)) (NthP.nth (by repeat constructor)) (by assumption) (by first | assumption | exact rfl) rfl (by first | omega | (simp only [List.length_take]; omega) | (simp; omega)) ?_; intro vp1 w1 css1 hls1 hv1 hS; simp only [List.set_cons_zero, List.set_cons_succ] at hS) | (refine s_appRK el_T42 u_T42 hS (by (conv => lhs; whnf); first | done | exact rfl) (by (conv => lhs; whnf); first | done | exact rfl) (NthP.nth (by repeat constructor)) (by assumption) (by assumption) rfl (by first | omega | (simp only [List.length_take]; omega) | (simp; omega)) ?_; intro vp1 w1 css1 hls1 hv1 hS; simp only [List.set_cons_zero, List.set_cons_succ] at hS) | (refine s_appRS el_T42 u_T42 hS (by (conv => lhs; whnf); first | done | exact rfl) (by (conv => lhs; whnf); first | done | exact rfl) (NthP.nth (by repeat constructor)) (NthP.nth (by repeat constructor)) (by assumption) (by assumption) (by first | omega | (simp only [List.length_take]; omega) | (simp; omega)) ?_; intro vp1 w1 css1 hls1 hv1 hS; simp only [List.set_cons_zero, List.set_cons_succ] at hS)))
                     all_goals (refine s_mov (by (conv => lhs; whnf); first | done | exact rfl) ?_; refine s_nil ?_; (repeat (first | refine s_then ?_ | refine s_blockN ?_)); refine s_ops ?_; (first | (refine s_add rfl rfl (by omega) (by omega) ?_) | (refine s_addw rfl rfl ?_)); refine s_mov (by (conv => lhs; whnf); first | done | exact rfl) ?_; refine s_nil ?_; (repeat (first | refine s_then ?_ | refine s_blockN ?_)); (first | (exact ⟨⟨j + 1, _, _, ⟨rfl, rfl, rfl, rfl, rfl, trivial⟩, (by first | omega | assumption | rfl | (simp; done) | (simp; omega)), by rw [take_snoc hx1, List.map_append]; assumption, by assumption, (hS.subP (by (repeat constructor); first | done | fail))⟩, meas_lt (by omega)⟩) | (trace_state; fail "no next 0 fits")))
                   · skip
                     all_goals (refine s_exit ?_; (repeat (first | refine s_exitQ ?_ | refine s_exitT ?_ | refine s_exitB rfl ?_ | refine s_then ?_ | refine s_blockN ?_)); refine s_seq ?_; refine s_ops ?_; refine s_mov (by (conv => lhs; whnf); first | done | exact rfl) ?_; refine s_sadd rfl rfl (by first | omega | (simp only [List.length_append, List.length_cons, List.length_nil]; omega)) ?_; refine s_sadd rfl rfl (by first | omega | (simp only [List.length_append, List.length_cons, List.length_nil]; omega)) ?_; refine s_mov (by (conv => lhs; whnf); first | done | exact rfl) ?_; refine s_rets_2 (by (conv => lhs; whnf); first | done | exact rfl) (by (conv => lhs; whnf); first | done | exact rfl) (join_c (xs := Tys.txts l) (sep := [44, 32]) hS (NthP.nth (by repeat constructor)) (by rw [List.take_of_length_le (by omega)] at hls; rw [Tys.txts_map, List.map_map]; exact hls) (by rw [Tys.txts_map, List.length_map]; omega) (by omega)) ?_; rintro v1 w1 ⟨rfl, hS⟩; refine s_sadd rfl rfl (by first | omega | (simp only [List.length_append, List.length_cons, List.length_nil]; omega)) ?_; refine s_sadd rfl rfl (by first | omega | (simp only [List.length_append, List.length_cons, List.length_nil]; omega)) ?_; refine s_mov (by (conv => lhs; whnf); first | done | exact rfl) ?_; refine s_nil ?_; (repeat (first | refine s_then ?_ | refine s_blockN ?_)); refine s_ret ?_; (repeat (first | refine s_retT ?_ | refine s_retB ?_)); refine q_ret1 (by (conv => lhs; whnf); first | done | exact rfl) ?_)
                     all_goals (first | ((refine ⟨_, rfl, ?_, (hS.subP (by (repeat constructor); first | done | fail))⟩; (rw [if_pos (by omega)]); done)) | ((refine ⟨_, rfl, ?_, (hS.subP (by (repeat constructor); first | done | fail))⟩; (rw [if_neg (by omega), if_pos (by omega)]); done)) | ((refine ⟨_, rfl, ?_, (hS.subP (by (repeat constructor); first | done | fail))⟩; (rw [if_neg (by omega), if_neg (by omega), if_pos (by omega)]); done)) | ((refine ⟨_, rfl, ?_, (hS.subP (by (repeat constructor); first | done | fail))⟩; (rw [if_neg (by omega), if_neg (by omega), if_neg (by omega)]); done)) | (trace_state; fail "no ret fits")))
                | (refine s_cond_f rfl ?_ -- types_Text c2
                   all_goals (refine s_skip ?_; (repeat (first | refine s_then ?_ | refine s_blockN ?_)); refine s_seq ?_; refine s_ops ?_; refine s_mov (by (conv => lhs; whnf); first | done | exact rfl) ?_; refine s_nil ?_; (repeat (first | refine s_then ?_ | refine s_blockN ?_)); refine s_ret ?_; (repeat (first | refine s_retT ?_ | refine s_retB ?_)); refine q_ret1 (by (conv => lhs; whnf); first | done | exact rfl) ?_)
                   all_goals (first | ((refine ⟨_, rfl, ?_, (hS.subP (by (repeat constructor); first | done | fail))⟩; (rw [if_pos (by omega)]); done)) | ((refine ⟨_, rfl, ?_, (hS.subP (by (repeat constructor); first | done | fail))⟩; (rw [if_neg (by omega), if_pos (by omega)]); done)) | ((refine ⟨_, rfl, ?_, (hS.subP (by (repeat constructor); first | done | fail))⟩; (rw [if_neg (by omega), if_neg (by omega), if_pos (by omega)]); done)) | ((refine ⟨_, rfl, ?_, (hS.subP (by (repeat constructor); first | done | fail))⟩; (rw [if_neg (by omega), if_neg (by omega), if_neg (by omega)]); done)) | (trace_state; fail "no ret fits")))))
end Go.Proofs.YtanlkfeogoganaaDoor
