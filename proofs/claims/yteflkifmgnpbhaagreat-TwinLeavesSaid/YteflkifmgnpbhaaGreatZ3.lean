/- Lemmas of the proof, part 3: what the functions of the program do (contracts), and what follows. -/
import Derived.Test.YteflkifmgnpbhaaGreatZ2
import Derived.Test.YteflkifmgnpbhaaGreatProg
import Derived.Test.YteflkifmgnpbhaaGreatZ1
namespace Go.Proofs.YteflkifmgnpbhaaGreat
open Go.Lir
set_option maxHeartbeats 1000000
attribute [local irreducible] LC.wp Q0 Qk Qh retQ Qt LO.wp Q4 Calls
set_option linter.unusedSimpArgs false
set_option linter.unusedVariables false
variable {cx:Cx}{w:World}{L:List Res}{i:Nat}{e:Value}{s:EstS}

theorem EstS.has_at {s:EstS}(h:s.Ok){b:Nat}{e:Value}{rv:List RegV}(ho:EstO e s b rv){k:Nat}(hk:k < 16){r:RegV}(hr:rv[k]?=some r):s.has k=r.there:=by
 obtain ⟨r',h1,h2⟩:=ho.at_ hk
 rw [hr] at h1;cases h1
 unfold EstS.has;rw [h2];rfl
theorem QbG (k:Int) (hS:St cx w L) (hi:nth L i=some (estX e s)):Rets Tryz.prog Q70 [e, .int .i64 k] w fun v w'=> v= .bool (s.has k)∧St cx w' L:=by
 obtain ⟨b,pp,rv,ho,hS⟩:=Q21 (hS.out hi)
 obtain rfl:=ho.he
 have ok:=ho.ok
 rcases (show (k < 0∨16≤k)∨∃m:Nat,k=m∧m < 16 by (by_cases h:k < 0∨16≤k;(exact .inl h);exact .inr ⟨k.toNat,by omega,by omega⟩)) with hk|⟨m,rfl,hm⟩
 · have e0:s.has k=false:=by unfold EstS.has;rw [EstS.reg_out ok hk];rfl
   all_goals refine lgo tyD Tryz.func196 ?_
   all_goals (refine ZbA ?_)
   all_goals (first|(refine Q2n ?_)|(refine Q2Z ?_)|(refine Q1r rfl rfl (fun hc=> ?_) (fun hc=> ?_)))
   all_goals (refine Zam ?_)
   all_goals (refine Yav ?_)
   all_goals ((first|refine Q1m rfl (by (conv=> lhs;whnf);first|done|exact rfl) ?_|refine Q1C rfl (by (conv=> lhs;whnf);first|done|exact rfl) ?_);refine zm ?_;refine zgn ?_;refine zgn ?_;refine zgn ?_;refine zgn ?_;refine zgn ?_;refine zgn ?_;refine zgn ?_)
   all_goals ((first|refine Q1m rfl (by (conv=> lhs;whnf);first|done|exact rfl) ?_|refine Q1C rfl (by (conv=> lhs;whnf);first|done|exact rfl) ?_);refine Zap ?_;exact ⟨_,rfl,by rw [e0],(QW ho hS).back0 hi⟩)
 · obtain ⟨r,hr,hrs⟩:=ho.at_ hm
   have e0:=EstS.has_at ok ho hm hr
   all_goals refine lgo tyD Tryz.func196 ?_
   all_goals (refine ZbA ?_)
   all_goals (refine Q2n ?_)
   all_goals (refine Zam ?_)
   all_goals (first|refine zgn ?_|(refine zgy ?_;refine Q15 ?_))
   all_goals (refine Q1m rfl (by (conv=> lhs;whnf);first|done|exact rfl) ?_;refine Zbl ?_;refine ZaV ?_;(first|refine zgn ?_|(refine zgy ?_;refine Q7U rfl rfl (by omega) (by omega) ?_));refine Yah ?_;(first|refine zgn ?_|(refine zgy ?_;refine QE hS rfl (NthP.nth (by repeat constructor)) (Q2m (j:=0) hr rfl) ?_)))
   all_goals (refine Q1m rfl (by (conv=> lhs;whnf);first|done|exact rfl) ?_;refine Zap ?_;exact ⟨_,rfl,by rw [e0],(QW ho hS).back0 hi⟩)
theorem eopen_c (hS:St cx w L) (hi:nth L i=some (estX e s)):Rets Tryz.prog Q6b [e] w fun v w'=> v= .int .i64 s.openV∧St cx w' (L.set i (estX e s.open)):=by
 obtain ⟨b,pp,rv,ho,hS⟩:=Q21 (hS.out hi)
 obtain rfl:=ho.he
 have ok:=ho.ok
 have hlen:=ho.len
 all_goals refine lgo tyD Tryz.func136 ?_
 all_goals (refine Zaf ?_;refine QB ?_;refine ZbO ?_)
 refine Q9g (fun ρ' w'=>∃(j:Nat),Has ρ' [(0, .pointer (some ⟨b,0,none⟩)),(4, .int .i64 j)]∧(j≤16)∧(∀m,m < j→(s.reg (m:Nat)).there=true)∧St cx w' (blk b 73 (pp::Q1o rv)::Q1B pp s.p::big RegV.res rv::L.eraseIdx i)) (fun ρ' _=> (16 - iv (ρ' 4)).toNat) ?_ ?_
 · exact ⟨0,⟨rfl,rfl,trivial⟩,(by omega),fun m hm=> absurd hm (by omega),(hS.subP (by (repeat constructor);first|done|fail))⟩
 rintro ρ w1 ⟨j,hρ,hj,hth,hS⟩;obtain ⟨ρ,rfl⟩:=Q3I _ hρ
 all_goals (refine ZaI ?_)
 refine Qq rfl (fun hc=> ?_) (fun hc=> ?_)
 · skip
   all_goals (refine Zbp ?_;refine ZaF ?_;obtain ⟨r,hr,hrs⟩:=ho.at_ (k:=j) (by omega);refine Zae ?_;refine ZaA ?_;refine zf0 ?_;refine Q7U rfl rfl (by omega) (by omega) ?_;refine Yad ?_;refine QE hS rfl (NthP.nth (by repeat constructor)) (Q2m (j:=0) hr rfl) ?_)
   all_goals (refine Zbm ?_)
   refine Q9i rfl (fun hc=> ?_) (fun hc=> ?_)
   · skip
     all_goals (have hlow:s.low=j:=EstS.low_eq ok (by omega) (by rw [hrs];show r.there=false;simpa using hc) hth;refine ZaX ?_;refine Q9W (cs:=[_,_,_]) (by (conv=> lhs;whnf);first|done|exact rfl) (by rfl) ?_;refine znc ?_;refine zf0 ?_;refine Q7U rfl rfl (by omega) (by omega) ?_;refine Q1Q hS rfl rfl (by rfl) (NthP.nth (by repeat constructor)) (by rw [List.length_cons,Q3H,hlen];omega) (by simp [oneC]) (e_setn (r':=⟨true, .slice none 0 0,[],0⟩) (by omega)) ?_;intro w1 hS;simp only [List.set_cons_zero,List.set_cons_succ] at hS;simp only [Int.toNat_natCast] at hS;have hS:=hS.mv2;have hS:=hS.bigOut nth0 hr;have hS:=hS.drop.nil (T:=3) (es:=1);have hS:=St.bigIn (f:=RegV.res) (l:=rv) (k:=j) (x':=⟨true, .slice none 0 0,[],0⟩) hS nth0 (by omega);refine Zaz ?_;refine Zap ?_;have e1:s.open=⟨s.p,s.rs.set j ⟨true,[],0⟩⟩:=(by unfold EstS.open;rw [hlow,if_pos (by omega)]);have e2:s.openV=j:=(by unfold EstS.openV;rw [hlow,if_pos (by omega)]);exact ⟨_,rfl,by rw [e2],(QW (s:=s.open) (by rw [e1];exact ho.set (r':=⟨true, .slice none 0 0,[],0⟩) rfl (e1 ▸ EstS.ok_open ok)) (by rw [e1];exact (hS.subP (by (repeat constructor);first|done|fail)))).back hi⟩)
   · skip
     all_goals (refine zsk ?_;refine Q10 ?_;refine zad ?_;refine Zad ?_)
     all_goals (exact ⟨⟨j+1,⟨rfl,rfl,trivial⟩,(by omega),fun m hm=> by rcases Nat.lt_or_ge m j with h|h;exact hth m h;rw [show m=j by omega,hrs];show r.there=true;simpa using hc,(hS.subP (by (repeat constructor);first|done|fail))⟩,Qv (by omega)⟩)
 · skip
   all_goals (refine ZbL ?_;(first|(have e1:s.open=⟨s.p,s.rs.set j ⟨true,[],0⟩⟩:=(by unfold EstS.open;rw [hlow,if_pos (by omega)]);have e2:s.openV=j:=(by unfold EstS.openV;rw [hlow,if_pos (by omega)]);exact ⟨_,rfl,by rw [e2],(QW (s:=s.open) (by rw [e1];exact ho.set (r':=⟨true, .slice none 0 0,[],0⟩) rfl (e1 ▸ EstS.ok_open ok)) (by rw [e1];exact (hS.subP (by (repeat constructor);first|done|fail)))).back hi⟩)|(have hlow:s.low=16:=EstS.low_full ok (fun m hm=> hth m (by omega));have e1:s.open=s:=(by unfold EstS.open;rw [hlow,if_neg (by omega)]);have e2:s.openV=-1:=(by unfold EstS.openV;rw [hlow,if_neg (by omega)]);exact ⟨_,rfl,by rw [e2],(QW (by rw [e1];exact ho) (by rw [e1];exact hS)).back hi⟩)))
theorem QcP {rs:List Reg}{j:Nat}(h:j < rs.length):(rs.take (j+1)).countP (fun r=> r.there)=(rs.take j).countP (fun r=> r.there)+if (rs.getD j Reg.none).there then 1 else 0:=by
 rw [Q5a Reg.none h,List.countP_append,List.countP_singleton]
theorem ecount_c (hS:St cx w L) (hi:nth L i=some (estX e s)):Rets Tryz.prog Q5G [e] w fun v w'=> v= .int .i64 s.count∧St cx w' L:=by
 obtain ⟨b,pp,rv,ho,hS⟩:=Q21 (hS.out hi)
 obtain rfl:=ho.he
 have ok:=ho.ok
 have hlen:=ho.len
 have hl:=ok.len
 all_goals refine lgo tyD Tryz.func40 ?_
 all_goals (refine Zaf ?_;refine Zaf ?_;refine QB ?_;refine ZbO ?_)
 refine Q9g (fun ρ' w'=>∃(j n:Nat),Has ρ' [(0, .pointer (some ⟨b,0,none⟩)),(3, .int .i64 n),(5, .int .i64 j)]∧(j≤16)∧(n=(s.rs.take j).countP (fun r=> r.there))∧St cx w' (blk b 73 (pp::Q1o rv)::Q1B pp s.p::big RegV.res rv::L.eraseIdx i)) (fun ρ' _=> (16 - iv (ρ' 5)).toNat) ?_ ?_
 · exact ⟨0,0,⟨rfl,rfl,rfl,trivial⟩,(by omega),(by first|omega|assumption|rfl),(hS.subP (by (repeat constructor);first|done|fail))⟩
 rintro ρ w1 ⟨j,n,hρ,hj,hn,hS⟩;obtain ⟨ρ,rfl⟩:=Q3I _ hρ;have hcl:=List.countP_le_length (p:=fun r:Reg=> r.there) (l:=s.rs.take j);have htl:=List.length_take_le j s.rs
 all_goals (refine ZaI ?_)
 refine Qq rfl (fun hc=> ?_) (fun hc=> ?_)
 · skip
   all_goals (refine ZaE ?_;refine QB ?_;obtain ⟨r,hr,hrs⟩:=ho.at_ (k:=j) (by omega);have hcs:=QcP (rs:=s.rs) (j:=j) (by omega);have hrg:s.rs.getD j Reg.none=r.reg:=(by rw [←hrs];unfold EstS.reg;rw [if_pos (by omega),Int.toNat_natCast]);rw [hrg] at hcs;refine Zae ?_;refine ZaL ?_;refine ZaA ?_;refine zf0 ?_;refine Q7U rfl rfl (by omega) (by omega) ?_;refine Yad ?_;refine QE hS rfl (NthP.nth (by repeat constructor)) (Q2m (j:=0) hr rfl) ?_)
   all_goals (refine zn ?_)
   refine Q9i rfl (fun hc=> ?_) (fun hc=> ?_)
   · skip
     all_goals (refine Zae ?_;refine zad ?_;refine Zad ?_;refine Q10 ?_;refine zad ?_;refine Zad ?_;exact ⟨⟨j+1,n+1,⟨rfl,rfl,rfl,trivial⟩,(by omega),(by rw [hcs,hn,if_pos (show r.reg.there=true from hc)]),(hS.subP (by (repeat constructor);first|done|fail))⟩,Qv (by omega)⟩)
   · skip
     all_goals (refine zsk ?_;refine Q10 ?_;refine zad ?_;refine Zad ?_;(first|(exact ⟨⟨j+1,n+1,⟨rfl,rfl,rfl,trivial⟩,(by omega),(by rw [hcs,hn,if_pos (show r.reg.there=true from hc)]),(hS.subP (by (repeat constructor);first|done|fail))⟩,Qv (by omega)⟩)|(exact ⟨⟨j+1,n,⟨rfl,rfl,rfl,trivial⟩,(by omega),(by rw [hcs,hn,if_neg (show¬r.reg.there=true from by rw [show r.reg.there=false from hc];simp)];rfl),(hS.subP (by (repeat constructor);first|done|fail))⟩,Qv (by omega)⟩)))
 · skip
   all_goals (refine zex ?_;refine Zbq ?_;have hn':s.count=(n:Int):=(by unfold EstS.count;rw [hn,List.take_of_length_le (by omega)]);exact ⟨_,rfl,by rw [hn'],(QW ho hS).back0 hi⟩)
theorem EstS.shut_yes {s:EstS}{m:Nat}(hk:s.has m=true):s.shut m=⟨s.p.gives (s.reg m).pages,s.rs.set m Reg.none⟩:=by unfold EstS.shut;rw [if_pos hk,Int.toNat_natCast]
theorem EstS.shut_no {s:EstS}{k:Int}(hk:s.has k=false):s.shut k=s:=by unfold EstS.shut;rw [hk,if_neg (by simp)]
theorem eshut_c (k:Int) (hS:St cx w L) (hi:nth L i=some (estX e s)):Rets Tryz.prog Q6a [e, .int .i64 k] w fun v w'=> v= .bool (s.has k)∧St cx w' (L.set i (estX e (s.shut k))):=by
 obtain ⟨ok,b,rfl⟩:=Q8G hS hi
 cases hk:s.has k with
 | true=>
   obtain ⟨m,rfl,hm⟩:=EstS.has_in ok hk
   have e1:=EstS.shut_yes hk
   have hpl:=EstS.regTo_len ok hm
   all_goals refine lgo tyD Tryz.func137 ?_
   all_goals (refine ZaQ ?_;refine zm ?_;refine Q3S (by (conv=> lhs;whnf);first|done|exact rfl) (by (conv=> lhs;whnf);first|done|exact rfl) (QbG _ hS hi) ?_;rintro v1 w1 ⟨rfl,hS⟩;rw [hk];refine Zbm ?_)
   all_goals
    first
    | (refine zct ?_
       all_goals (refine Zac ?_;refine s_nil ?_;(repeat (refine Q7Q ?_));refine s_ret ?_;(repeat (refine s_retT ?_));refine zf ?_)
       all_goals (exact ⟨_,rfl,rfl,(QW (s:=s.shut m) (by rw [e1];exact ho.set (k:=m) (r':=RegV.nil) rfl (e1 ▸ EstS.ok_shut ok m)) (by rw [e1];exact (hS.subP (by (repeat constructor);first|done|fail)))).back hi⟩))
    | (refine zcf ?_
       all_goals (refine zsk ?_))
   all_goals (refine QB ?_;refine QB ?_;obtain ⟨pp,rv,ho,hS⟩:=est_at hS hi;obtain ⟨r,hr,hrs⟩:=ho.at_ hm;have hlen:=ho.len;rw [hrs] at hpl e1;have hpl':r.pages.length≤64:=hpl;refine Zae ?_;refine ZaA ?_;refine zf0 ?_;refine Q7U rfl rfl (by omega) (by omega) ?_;refine Yad ?_;refine QE hS rfl (NthP.nth (by repeat constructor)) (Q2m (j:=1) hr rfl) ?_;have hS:=hS.bigOut nth2 hr;refine QQ hS (by (conv=> lhs;whnf);first|done|exact rfl) (nth0 (a:=RegV.res r)) (List.length_map _) ?_;refine ZaB ?_)
   refine Q9g (fun ρ' w'=>∃(j:Nat),Has ρ' [(0, .pointer (some ⟨b,0,none⟩)),(1, .int .i64 m),(17,r.pv),(18, .int .i64 r.pages.length),(19, .int .i64 j)]∧(j≤r.pages.length)∧St cx w' (sl 3 1 r.pv (r.pages.map Qj)::blk b 73 (pp::Q1o rv)::Q1B pp (s.p.gives (r.pages.take j))::big RegV.res (rv.eraseIdx m)::L.eraseIdx i)) (fun ρ' _=> (r.pages.length - iv (ρ' 19)).toNat) ?_ ?_
   · exact ⟨0,⟨rfl,rfl,rfl,rfl,rfl,trivial⟩,(by omega),(hS.subP (by (repeat constructor);first|done|fail))⟩
   rintro ρ w1 ⟨j,hρ,hj,hS⟩;obtain ⟨ρ,rfl⟩:=Q3I _ hρ
   all_goals (refine ZaI ?_)
   refine Qq rfl (fun hc=> ?_) (fun hc=> ?_)
   · skip
     all_goals (refine Zbf ?_;refine Q4c hS (by (conv=> lhs;whnf);first|done|exact rfl) rfl (NthP.nth (by repeat constructor)) (by first|omega|(simp only [List.length_map,List.length_append,List.length_cons,List.length_nil,List.length_set,List.length_replicate];omega)) ?_;intro b1 o1 hel1;(first|(refine QE hS rfl (NthP.nth (by repeat constructor)) (by rfl) ?_)|(refine Qc7 hS (by assumption) rfl (NthP.nth (by repeat constructor)) rfl (by omega) ?_)))
     all_goals (refine Zad ?_;refine Zbt ?_;refine zf0 ?_;refine QE hS rfl (NthP.nth (by repeat constructor)) rfl ?_;refine zm ?_;refine Q3S (by (conv=> lhs;whnf);first|done|exact rfl) (by (conv=> lhs;whnf);first|done|exact rfl) (give_x _ hS (NthP.nth (by repeat constructor))) ?_;rintro v2 w2 ⟨rfl,hS⟩;simp only [List.set_cons_zero,List.set_cons_succ] at hS;refine Zbi ?_;refine zad ?_;refine Zad ?_;exact ⟨⟨j+1,⟨rfl,rfl,rfl,rfl,rfl,trivial⟩,(by omega),by rw [Qei (by omega)];exact (hS.subP (by (repeat constructor);first|done|fail))⟩,Qv (by omega)⟩)
   · skip
     all_goals (refine zex ?_;obtain rfl:j=r.pages.length:=(by omega);rw [List.take_length] at hS;refine ZaX ?_;refine Q7v (cs:=[_,_,_]) (by rfl) ?_;refine znc ?_;refine zf0 ?_;refine Q7U rfl rfl (by omega) (by omega) ?_;refine Q1Q hS rfl rfl (by rfl) (NthP.nth (by repeat constructor)) (by rw [List.length_cons,Q3H,hlen];omega) (by simp [oneC]) (e_setn (r':=RegV.nil) (by omega)) ?_;intro w1 hS;simp only [List.set_cons_zero,List.set_cons_succ] at hS;simp only [Int.toNat_natCast] at hS;have hS:=hS.drop.nil (T:=3) (es:=1);have hS:=St.bigIn (f:=RegV.res) (l:=rv) (k:=m) (x':=RegV.nil) hS nth2 (by omega);simp only [List.set_cons_zero,List.set_cons_succ] at hS;refine zn ?_;refine Zas ?_;exact ⟨_,rfl,rfl,(QW (s:=s.shut m) (by rw [e1];exact ho.set (k:=m) (r':=RegV.nil) rfl (e1 ▸ EstS.ok_shut ok m)) (by rw [e1];exact (hS.subP (by (repeat constructor);first|done|fail)))).back hi⟩)
 | false=>
   rw [EstS.shut_no hk,Q2U hi]
   all_goals refine lgo tyD Tryz.func137 ?_
   all_goals (refine ZaQ ?_;refine zm ?_;refine Q3S (by (conv=> lhs;whnf);first|done|exact rfl) (by (conv=> lhs;whnf);first|done|exact rfl) (QbG _ hS hi) ?_;rintro v1 w1 ⟨rfl,hS⟩;rw [hk];refine Zbm ?_)
   all_goals refine zct ?_
   all_goals (refine Zas ?_;exact ⟨_,rfl,rfl,hS⟩)
theorem code_no {s:EstS}{k n:Int}(hk:s.has k=false):s.code k n=15:=by unfold EstS.code;rw [hk];rfl
theorem code_rng {s:EstS}{k n:Int}(hk:s.has k=true) (hn:n < 1∨16 < n):s.code k n=1:=by unfold EstS.code;rw [hk,if_neg (by simp),if_pos hn]
theorem Qgp {s:EstS}{k n:Int}(hk:s.has k=true) (hn:¬(n < 1∨16 < n)) (h:(s.reg k).more n=true∧s.p.fr=[]):s.code k n=14:=by unfold EstS.code;rw [hk,if_neg (by simp),if_neg hn,if_pos h]
theorem Qgo {s:EstS}{k n:Int}(hk:s.has k=true) (hn:¬(n < 1∨16 < n)) (h:¬((s.reg k).more n=true∧s.p.fr=[])):s.code k n=0:=by unfold EstS.code;rw [hk,if_neg (by simp),if_neg hn,if_neg h]
theorem Q8z {s:EstS}{k n:Int}(h:s.code k n≠0):s.get k n=s∧s.getV k n=0:=by unfold EstS.get EstS.getV;rw [if_neg h,if_neg h];exact ⟨rfl,rfl⟩
theorem RegV.more_iff {r:RegV}{n:Int}:r.reg.more n=true↔(r.pages=[]∨16 < r.used+n):=decide_eq_true_iff
theorem Qgc {rv:List RegV}{m:Nat}{r:RegV}(h:m < rv.length):(rv.set m r)[m]?=some r:=by simp [h]
theorem set_set {rv:List RegV}{m:Nat}{r r':RegV}:(rv.set m r).set m r'=rv.set m r':=List.set_set ..
theorem eget_c (k n:Int) (hS:St cx w L) (hi:nth L i=some (estX e s)):Rets Tryz.prog Q71 [e, .int .i64 k, .int .i64 n] w fun v w'=> v= .tuple #[.int .i64 (s.getV k n), .int .i64 (s.code k n)]∧St cx w' (L.set i (estX e (s.get k n))):=by
 obtain ⟨ok,b,rfl⟩:=Q8G hS hi
 cases hk:s.has k with
 | false=>
   have hc:=code_no (n:=n) hk
   obtain ⟨e1,e2⟩:=Q8z (s:=s) (k:=k) (n:=n) (by omega)
   rw [e1,Q2U hi,e2,hc]
   all_goals refine lgo tyD Tryz.func225 ?_
   all_goals (refine Zac ?_;refine Zad ?_;refine Zar ?_;refine ZaX ?_;refine Q3S (by (conv=> lhs;whnf);first|done|exact rfl) (by (conv=> lhs;whnf);first|done|exact rfl) (QbG _ hS hi) ?_;rintro v1 w1 ⟨rfl,hS⟩;rw [hk];refine znt ?_;refine Zad ?_)
   all_goals refine zct ?_
   all_goals (refine Zac ?_;refine ZaZ ?_;exact ⟨_,rfl,rfl,hS⟩)
 | true =>
   by_cases hn:n < 1∨16 < n
   · have hc:=code_rng hk hn
     obtain ⟨e1,e2⟩:=Q8z (s:=s) (k:=k) (n:=n) (by omega)
     rw [e1,Q2U hi,e2,hc]
     all_goals refine lgo tyD Tryz.func225 ?_
     all_goals (refine Zac ?_;refine Zad ?_;refine Zar ?_;refine ZaX ?_;refine Q3S (by (conv=> lhs;whnf);first|done|exact rfl) (by (conv=> lhs;whnf);first|done|exact rfl) (QbG _ hS hi) ?_;rintro v1 w1 ⟨rfl,hS⟩;rw [hk];refine znt ?_;refine Zad ?_)
     all_goals refine zcf ?_
     all_goals (refine Zac ?_)
     all_goals (first|(refine Q15 ?_)|(refine Q1c ?_)|(refine Qu rfl rfl (fun hc=> ?_) (fun hc=> ?_)))
     all_goals (refine Zam ?_)
     all_goals (refine Yax ?_)
     all_goals ((first|refine Q1m rfl (by (conv=> lhs;whnf);first|done|exact rfl) ?_|refine Q1C rfl (by (conv=> lhs;whnf);first|done|exact rfl) ?_);refine Zad ?_)
     all_goals refine zct ?_
     all_goals (refine Zac ?_;refine ZaZ ?_;exact ⟨_,rfl,rfl,hS⟩)
   · obtain ⟨m,rfl,hm⟩:=EstS.has_in ok hk
     have hpl:=EstS.regTo_len ok hm
     have hpr:=EstS.pages_rng ok hm
     have hur:=EstS.used_rng ok hm
     all_goals refine lgo tyD Tryz.func225 ?_
     all_goals (refine Zac ?_;refine Zad ?_;refine Zar ?_;refine ZaX ?_;refine Q3S (by (conv=> lhs;whnf);first|done|exact rfl) (by (conv=> lhs;whnf);first|done|exact rfl) (QbG _ hS hi) ?_;rintro v1 w1 ⟨rfl,hS⟩;rw [hk];refine znt ?_;refine Zad ?_)
     all_goals refine zcf ?_
     all_goals (refine Zac ?_)
     all_goals (refine Yau ?_)
     all_goals (refine Zam ?_)
     all_goals (refine Yao ?_)
     all_goals ((first|refine Q1m rfl (by (conv=> lhs;whnf);first|done|exact rfl) ?_|refine Q1C rfl (by (conv=> lhs;whnf);first|done|exact rfl) ?_);refine Zad ?_)
     all_goals refine zcf ?_
     all_goals (refine zsk ?_;refine QB ?_;obtain ⟨pp,rv,ho,hS⟩:=est_at hS hi;obtain ⟨r,hr,hrs⟩:=ho.at_ hm;have hlen:=ho.len;rw [hrs] at hpl hpr hur;have hpl':r.pages.length≤64:=hpl;have hur':0≤r.used∧r.used≤16:=hur;have hS:St cx w1 (sl 3 1 r.pv (r.pages.map Qj)::blk b 73 (pp::Q1o rv)::Q1B pp s.p::big RegV.res (rv.eraseIdx m)::L.eraseIdx i):=hS.bigOut nth2 hr;have hpe:r.pages=[]↔r.pages.length=0:=List.length_eq_zero_iff.symm;refine Zae ?_;refine ZaA ?_;refine zf0 ?_;refine Q7U rfl rfl (by omega) (by omega) ?_;refine Zad ?_)
     refine s_mid (fun ρ' w'=>∃(r1:RegV) (p1:PoolS),Has ρ' [(0, .pointer (some ⟨b,0,none⟩)),(1, .int .i64 m),(2, .int .i64 n),(8, .pointer (some ⟨b,1+m*3,none⟩))]∧(s.code m n=0)∧(r1.reg=s.regTo m n)∧(p1=(if (s.reg m).more n then s.p.take else s.p))∧(r1.pages.length≤65)∧(r1.pages≠[])∧(∀x∈r1.pages,0≤x∧x < 64)∧(0≤r1.used∧r1.used+n≤16)∧St cx w' (sl 3 1 r1.pv (r1.pages.map Qj)::blk b 73 (pp::Q1o (rv.set m r1))::Q1B pp p1::big RegV.res (rv.eraseIdx m)::L.eraseIdx i)) ?_ ?_
     · skip
       all_goals (refine ZaR ?_;refine Yad ?_;refine QE hS rfl (NthP.nth (by repeat constructor)) (Q2m (j:=1) hr rfl) ?_;refine QQ hS (by (conv=> lhs;whnf);first|done|exact rfl) (NthP.nth (by repeat constructor)) (by exact List.length_map _) ?_)
       all_goals (first|(refine Ql ?_)|(refine Qo ?_)|(refine Q8 rfl rfl (fun hc=> ?_) (fun hc=> ?_)))
       all_goals (refine Zam ?_;refine Yaf ?_;refine Yah ?_;(first|refine zgn ?_|(refine zgy ?_;(first|(refine QE hS rfl (NthP.nth (by repeat constructor)) (Q2m (j:=1) hr rfl) ?_)|(refine QE hS rfl (NthP.nth (by repeat constructor)) (Q2m (j:=2) hr rfl) ?_))));refine Yaa ?_)
       all_goals ((first|refine zgn ?_|(refine zgy ?_;refine zad ?_)))
       all_goals (first|refine zgn ?_|(refine zgy ?_;(first|(refine Q17 ?_)|(refine Q1a ?_)|(refine Qs rfl rfl (fun hc=> ?_) (fun hc=> ?_)))))
       all_goals ((first|refine Q1m rfl (by (conv=> lhs;whnf);first|done|exact rfl) ?_|refine Q1C rfl (by (conv=> lhs;whnf);first|done|exact rfl) ?_);refine zn ?_)
       all_goals
        first
        | (refine zct ?_
           all_goals (have hmo:(s.reg m).more n=true:=(by rw [hrs,RegV.more_iff,hpe];omega);refine ZaR ?_;refine zf0 ?_;(first|(refine QE hS rfl (NthP.nth (by repeat constructor)) (Q2m (j:=1) hr rfl) ?_)|(refine QE hS rfl (NthP.nth (by repeat constructor)) (Q2m (j:=2) hr rfl) ?_)|(refine QE hS rfl (NthP.nth (by repeat constructor)) (Q2m (j:=1) hr1 rfl) ?_)|(refine QE hS rfl (NthP.nth (by repeat constructor)) (Q2m (j:=2) hr1 rfl) ?_)|(refine QE hS rfl (NthP.nth (by repeat constructor)) (by rfl) ?_));refine Q9Q (by (conv=> lhs;whnf);first|done|exact rfl) (take_x hS (NthP.nth (by repeat constructor))) ?_;rintro v4 w4 ⟨rfl,hS⟩;simp only [List.set_cons_zero,List.set_cons_succ] at hS;refine Zad ?_)
           all_goals (refine QB ?_;refine QB ?_)
           all_goals (rcases PoolS.split ok.pok with ⟨h1,h2,h3⟩|⟨k2,fr2,h1,h2,h3⟩)
           all_goals (refine Q10 ?_)
           all_goals (first|(have hcd:=Qgp hk hn ⟨hmo,h1⟩;obtain ⟨e1,e2⟩:=Q8z (s:=s) (k:=m) (n:=n) (by omega);rw [h3] at hS)|(obtain ⟨_,hk2,_⟩:=(EstS.tk_at ok hm).take ok.pok h1 h2 h3;have hcd:=Qgo hk hn (fun h=> by rw [h1] at h;simp at h);have h64:=ok.n64))
           all_goals (refine zm ?_)
           all_goals (refine Yau ?_)
           all_goals (refine zn ?_)
           all_goals
            first
            | (refine zct ?_
               all_goals (refine Zac ?_;refine ZaZ ?_)
               all_goals (rw [e1,Q2U hi,e2,hcd];have hS:St cx w4 (RegV.res r::blk b 73 (pp::Q1o rv)::Q1B pp s.p::big RegV.res (rv.eraseIdx m)::L.eraseIdx i):=hS;have hS:=St.bigIn (f:=RegV.res) (l:=rv) (k:=m) (x':=r) hS nth2 (by omega);simp only [List.set_cons_zero,List.set_cons_succ] at hS;rw [Q4S hr] at hS;exact ⟨_,rfl,rfl,(QW ho hS).back0 hi⟩))
            | (refine zcf ?_
               all_goals (refine zsk ?_))
           all_goals (refine Zac ?_;refine Zbd ?_;refine QE hS rfl (NthP.nth (by repeat constructor)) (Q2m (j:=1) hr rfl) ?_;refine zm ?_;refine Q2b (cs:=[_]) (by (conv=> lhs;whnf);first|done|exact rfl) (by rfl) ?_;intro b1 w1 hb1 hf1 _ hk1;have hS:=hS.laid hb1 hf1 hk1;refine Q1T Qgj (.inl QeD) hS (by (conv=> lhs;whnf);first|done|exact rfl) (by (conv=> lhs;whnf);first|done|exact rfl) (NthP.nth (by repeat constructor)) (hS.srcB1 (NthP.nth (by repeat constructor)) rfl) (by first|omega|(simp only [List.length_map,List.length_append,List.length_cons,List.length_nil,List.length_set,List.length_replicate];omega)) ?_;intro v7 w7 hS;simp only [List.set_cons_zero,List.set_cons_succ] at hS;have hS:=hS.drop)
           all_goals (refine ZaU ?_;refine Q7S hS rfl (by (conv=> lhs;whnf);first|done|exact rfl) (NthP.nth (by repeat constructor)) (by rw [List.length_cons,Q3H,hlen];omega) (by first|rfl|assumption|exact hS.oneC (NthP.nth (by repeat constructor))) (e_set (r':=⟨r.there,v7,r.pages++[s.p.top],r.used⟩) (j:=1) hr (by omega) rfl) ?_;intro w8 hS;simp only [List.set_cons_zero,List.set_cons_succ] at hS;refine ZaJ ?_;refine ZaU ?_;refine Q7S hS rfl (by (conv=> lhs;whnf);first|done|exact rfl) (NthP.nth (by repeat constructor)) (by rw [List.length_cons,Q3H,List.length_set,hlen];omega) (by rfl) (e_set (r:=⟨r.there,v7,r.pages++[s.p.top],r.used⟩) (r':=⟨r.there,v7,r.pages++[s.p.top],0⟩) (j:=2) (Qgc (by omega)) (by omega) rfl) ?_;intro w9 hS;simp only [List.set_cons_zero,List.set_cons_succ] at hS;simp only [Int.toNat_natCast,set_set] at hS)
           all_goals (refine zn ?_))
        | (refine zcf ?_
           all_goals (have hmo:¬(s.reg m).more n=true:=(by rw [hrs,RegV.more_iff,hpe];omega))
           all_goals (refine zsk ?_))
       all_goals (first|(exact ⟨r,s.p,⟨rfl,rfl,rfl,rfl,trivial⟩,(Qgo hk hn fun h=> hmo h.1),(by unfold EstS.regTo;rw [if_neg hmo,hrs]),(by rw [if_neg hmo]),(by omega),(by rw [Ne,hpe];omega),hpr,(by omega),by rw [Q4S hr];exact (hS.subP (by (repeat constructor);first|done|fail))⟩)|(exact ⟨⟨r.there,v7,r.pages++[s.p.top],0⟩,s.p.take,⟨rfl,rfl,rfl,rfl,trivial⟩,hcd,(by unfold EstS.regTo;rw [if_pos hmo,hrs];rfl),(by rw [if_pos hmo]),(by simp;omega),(by simp),(by intro x hx;rcases List.mem_append.1 hx with h|h;exact hpr x h;simp only [List.mem_singleton] at h;omega),(by simp only;omega),by simp only [List.map_append];exact (hS.subP (by (repeat constructor);first|done|fail))⟩))
     rintro ρ w1 ⟨r1,p1,hρ,hcd,hreg,hp1,hpl1,hne,hrg,hu1,hS⟩;obtain ⟨ρ,rfl⟩:=Q3I _ hρ;have hr1:(rv.set m r1)[m]?=some r1:=Qgc (by omega);have hlast:=QbB hne;have hmem:=hrg (r1.pages.getD (((r1.pages.length:Nat):Int) - 1).toNat 0) (getD_mem (by have:=List.length_pos_iff.2 hne;omega));have hpos:=List.length_pos_iff.2 hne
     all_goals (refine QB ?_;refine Qfb [(0,none),(1,none),(2,none),(3,none),(4,none),(5,none),(6,none),(7,none),(8,none),(9,none),(10,none),(11,none),(12,none),(13,none),(14,none),(15,none),(16,none),(17,none),(18,some none)] (by kernel_rfl) (by kernel_rfl) ?_;have hS:=hS.drew;refine Zbd ?_;(first|(refine QE hS rfl (NthP.nth (by repeat constructor)) (Q2m (j:=1) hr rfl) ?_)|(refine QE hS rfl (NthP.nth (by repeat constructor)) (Q2m (j:=2) hr rfl) ?_)|(refine QE hS rfl (NthP.nth (by repeat constructor)) (Q2m (j:=1) hr1 rfl) ?_));refine zm ?_)
     all_goals (refine ZaU ?_;(first|(refine QE hS rfl (NthP.nth (by repeat constructor)) (Q2m (j:=1) hr rfl) ?_)|(refine QE hS rfl (NthP.nth (by repeat constructor)) (Q2m (j:=2) hr rfl) ?_)|(refine QE hS rfl (NthP.nth (by repeat constructor)) (Q2m (j:=1) hr1 rfl) ?_));refine QQ hS (by (conv=> lhs;whnf);first|done|exact rfl) (NthP.nth (by repeat constructor)) (by exact List.length_map _) ?_;refine zsu ?_;(first|(refine Q4c hS (by (conv=> lhs;whnf);first|done|exact rfl) rfl (NthP.nth (by repeat constructor)) (by first|omega|(simp only [List.length_map,List.length_append,List.length_cons,List.length_nil,List.length_set,List.length_replicate];omega)) ?_;intro b1 o1 hel1)|(refine Q6v hS (by (conv=> lhs;whnf);first|done|exact rfl) rfl (NthP.nth (by repeat constructor)) (by omega) (by first|omega|(simp only [List.length_map,List.length_append,List.length_cons,List.length_nil,List.length_set,List.length_replicate];omega)) ?_;intro b1 o1 hel1)))
     all_goals ((first|(refine QE hS rfl (NthP.nth (by repeat constructor)) (Q2m (j:=1) hr rfl) ?_)|(refine QE hS rfl (NthP.nth (by repeat constructor)) (Q2m (j:=2) hr rfl) ?_)|(refine QE hS rfl (NthP.nth (by repeat constructor)) (Q2m (j:=1) hr1 rfl) ?_)|(refine QE hS rfl (NthP.nth (by repeat constructor)) (Q2m (j:=2) hr1 rfl) ?_)|(refine QE hS rfl (NthP.nth (by repeat constructor)) (by rfl) ?_)|(refine Qc7 hS (by assumption) rfl (NthP.nth (by repeat constructor)) rfl (by omega) ?_));refine zmu ?_;refine Zbd ?_;(first|(refine QE hS rfl (NthP.nth (by repeat constructor)) (Q2m (j:=1) hr rfl) ?_)|(refine QE hS rfl (NthP.nth (by repeat constructor)) (Q2m (j:=2) hr rfl) ?_)|(refine QE hS rfl (NthP.nth (by repeat constructor)) (Q2m (j:=1) hr1 rfl) ?_)|(refine QE hS rfl (NthP.nth (by repeat constructor)) (Q2m (j:=2) hr1 rfl) ?_)))
     all_goals (refine zad ?_;refine ZaL ?_;refine ZaU ?_;(first|(refine QE hS rfl (NthP.nth (by repeat constructor)) (Q2m (j:=1) hr rfl) ?_)|(refine QE hS rfl (NthP.nth (by repeat constructor)) (Q2m (j:=2) hr rfl) ?_)|(refine QE hS rfl (NthP.nth (by repeat constructor)) (Q2m (j:=1) hr1 rfl) ?_)|(refine QE hS rfl (NthP.nth (by repeat constructor)) (Q2m (j:=2) hr1 rfl) ?_));refine zm ?_;refine zad ?_)
     all_goals (refine ZaU ?_;refine Q7S hS rfl (by (conv=> lhs;whnf);first|done|exact rfl) (NthP.nth (by repeat constructor)) (by rw [List.length_cons,Q3H,List.length_set,hlen];omega) (by rfl) (e_set (r:=r1) (r':=⟨r1.there,r1.pv,r1.pages,r1.used+n⟩) (j:=2) hr1 (by omega) rfl) ?_;intro w9 hS;simp only [List.set_cons_zero,List.set_cons_succ] at hS;simp only [set_set] at hS;have hS:=St.bigIn (f:=RegV.res) (l:=rv) (k:=m) (x':=⟨r1.there,r1.pv,r1.pages,r1.used+n⟩) hS nth2 (by omega);simp only [List.set_cons_zero,List.set_cons_succ] at hS;refine Zaz ?_;refine Zbz ?_;(first|(rw [e1,Q2U hi,e2,hcd];have hS:St cx w4 (RegV.res r::blk b 73 (pp::Q1o rv)::Q1B pp s.p::big RegV.res (rv.eraseIdx m)::L.eraseIdx i):=hS;have hS:=St.bigIn (f:=RegV.res) (l:=rv) (k:=m) (x':=r) hS nth2 (by omega);simp only [List.set_cons_zero,List.set_cons_succ] at hS;rw [Q4S hr] at hS;exact ⟨_,rfl,rfl,(QW ho hS).back0 hi⟩)|(have e1:s.get m n=⟨p1,s.rs.set m ((s.regTo m n).use n)⟩:=(by unfold EstS.get;rw [if_pos hcd,hp1,Int.toNat_natCast]);have e2:s.getV m n=r1.pages.getD (((r1.pages.length:Nat):Int) - 1).toNat 0*16+r1.used:=(by unfold EstS.getV;rw [if_pos hcd,←hreg,hlast];rfl);exact ⟨_,rfl,by rw [e2,hcd],(QW (s:=s.get m n) (by rw [e1];exact ho.set (k:=m) (r':=⟨r1.there,r1.pv,r1.pages,r1.used+n⟩) (by rw [←hreg];rfl) (e1 ▸ EstS.ok_get ok m n)) (by rw [e1];exact (hS.subP (by (repeat constructor);first|done|fail)))).back hi⟩)))
theorem big_nil:∀(n:Nat){cx:Cx}{w:World}{L:List Res},St cx w L→St cx w (big RegV.res (List.replicate n RegV.nil)::L)
 | 0,_,_,_,h=> h.emp (r:=emp) fun _ h=> h
 | n+1,_,_,_,h=> by
   have h1:=(big_nil n h).nil (T:=3) (es:=1)
   exact St.star' (r:=RegV.res RegV.nil) h1
theorem Qcv (n:Nat):(List.replicate n RegV.nil).map RegV.reg=List.replicate n Reg.none:=by rw [List.map_replicate];rfl
theorem enew_c (n:Int) (hS:St cx w L):Rets Tryz.prog Qek [.int .i64 n] w fun v w'=>
 (n < 0∨64 < n)∧v= .tuple #[.pointer none, .agg ⟨[.int .i64 1, .int .i64 (-1)]⟩]∧St cx w' L∨
 ∃(m:Nat) (b:Nat),n=m∧m≤64∧v= .tuple #[.pointer (some ⟨b,0,none⟩), .agg ⟨[.int .i64 0, .int .i64 0]⟩]∧St cx w' (estX (.pointer (some ⟨b,0,none⟩)) (EstS.mk0 m)::L):=by
 all_goals refine lgo tyD Tryz.func79 ?_
 all_goals (refine Zac ?_;refine Qg hS ?_;intro b1 w1 hS;refine Zaz ?_)
 all_goals (refine Q9Q (by (conv=> lhs;whnf);first|done|exact rfl) (new_x _ hS) ?_;rintro v3 w3 (⟨hn,rfl,hS⟩|⟨m,b,rfl,hm,rfl,hS⟩))
 all_goals (refine ZbI ?_;intro b1 w1 hS;refine zm ?_;refine Q1Q hS rfl rfl (by rfl) (NthP.nth (by repeat constructor)) (by simp) (by (simp [oneC];done)) (by rfl) ?_;intro w1 hS;simp only [List.set_cons_zero,List.set_cons_succ] at hS;refine Zbu ?_;refine zf0 ?_;refine QE hS rfl (NthP.nth (by repeat constructor)) (by rfl) ?_)
 all_goals (refine Yar ?_)
 all_goals (refine zn ?_)
 all_goals
  first
  | (refine zct ?_
     all_goals (refine QB ?_;refine Qfb [(0,none),(1,none),(2,some none)] (by kernel_rfl) (by kernel_rfl) ?_;have hS:=hS.drew;refine Q9U hS rfl (NthP.nth (by repeat constructor)) (by rfl) (by rfl) ?_;refine zm ?_;refine Q1Q hS rfl rfl (by rfl) (NthP.nth (by repeat constructor)) (by simp) (by (simp [oneC];done)) (by rfl) ?_;intro w1 hS;simp only [List.set_cons_zero,List.set_cons_succ] at hS;refine ZaS ?_)
     all_goals (refine Q1G (by (conv=> lhs;whnf);first|done|exact rfl) (by (conv=> lhs;whnf);first|done|exact rfl) (Q9 (n:=2) (by kernel_rfl) (by kernel_rfl) (hS.blkAt (NthP.nth (by repeat constructor))) (by rfl) (by rfl)) ?_;exact ⟨_,rfl, .inl ⟨hn,rfl,(hS.subP (by (repeat constructor);first|done|fail))⟩⟩))
  | (refine zcf ?_
     all_goals (refine zsk ?_))
 all_goals (refine QB ?_;have hS:=big_nil 16 hS;refine Zae ?_;refine Q9W (cs:=[_,_,_,_,_,_,_,_,_,_,_,_,_,_,_,_,_,_,_,_,_,_,_,_,_,_,_,_,_,_,_,_,_,_,_,_,_,_,_,_,_,_,_,_,_,_,_,_,_]) (by (conv=> lhs;whnf);first|done|exact rfl) (by rfl) ?_;refine Q23 hS (by (conv=> lhs;whnf);first|done|exact rfl) (by rfl) ?_;intro b1 w1 hS;refine Q7v (cs:=[_,_]) (by rfl) ?_;refine zm ?_;refine Q1Q hS rfl rfl (by rfl) (NthP.nth (by repeat constructor)) (by simp) (by (simp [oneC];done)) (by rfl) ?_;intro w1 hS;simp only [List.set_cons_zero,List.set_cons_succ] at hS;refine ZaS ?_;(first|(refine Q1G (by (conv=> lhs;whnf);first|done|exact rfl) (by (conv=> lhs;whnf);first|done|exact rfl) (Q9 (n:=2) (by kernel_rfl) (by kernel_rfl) (hS.blkAt (NthP.nth (by repeat constructor))) (by rfl) (by rfl)) ?_;exact ⟨_,rfl, .inl ⟨hn,rfl,(hS.subP (by (repeat constructor);first|done|fail))⟩⟩)|(refine Q1G (by (conv=> lhs;whnf);first|done|exact rfl) (by (conv=> lhs;whnf);first|done|exact rfl) (Q9 (n:=2) (by kernel_rfl) (by kernel_rfl) (hS.blkAt (NthP.nth (by repeat constructor))) (by rfl) (by rfl)) ?_;exact ⟨_,rfl, .inr ⟨m,_,rfl,hm,rfl,QW (s:=EstS.mk0 m) (rv:=List.replicate 16 RegV.nil) ⟨rfl,Qcv 16,EstS.ok_new hm⟩ (hS.subP (by (repeat constructor);first|done|fail))⟩⟩)))
end Go.Proofs.YteflkifmgnpbhaaGreat
namespace Go.Lir
set_option linter.unusedVariables false
abbrev Flt:=Int×Int
def orF (a b:Flt):Flt:=if a.1=0∧b.1≠0 then b else a
def mkF (c at':Int):Flt:=if c=0 then (0,0) else (c,at')
theorem Q39 (a b c:Flt):orF (orF a b) c=orF a (orF b c):=by
 unfold orF
 by_cases h1:a.1=0 <;> by_cases h2:b.1=0 <;> by_cases h3:c.1=0 <;> simp [h1,h2,h3]
theorem Qcn {a b:Flt}(h:a.1≠0):orF a b=a:=by unfold orF;rw [if_neg (fun h'=> h h'.1)]
theorem Qe5 {a b:Flt}(h:b.1=0):orF a b=a:=by unfold orF;rw [if_neg (fun h'=> h'.2 h)]
theorem Qe6 {b:Flt}(h:b.1=0→b=(0,0)):orF (0,0) b=b:=by
 unfold orF
 by_cases hb:b.1=0
 · rw [h hb];rfl
 · rw [if_pos ⟨rfl,hb⟩]
theorem mkF_0 (at':Int):mkF 0 at'=(0,0):=rfl
theorem mkF_c {c at':Int}(h:c≠0):mkF c at'=(c,at'):=if_neg h
theorem Q3Z (c at':Int):(mkF c at').1=c:=by unfold mkF;split <;> simp_all
theorem Q90 (c at':Int):(mkF c at').1=0→mkF c at'=(0,0):=by rw [Q3Z];rintro rfl;rfl
theorem Qa6 {a b:Flt}(ha:a.1=0→a=(0,0)) (hb:b.1=0→b=(0,0)):(orF a b).1=0→orF a b=(0,0):=by
 unfold orF
 split
 · exact hb
 · exact ha
def orC (a b:Int):Int:=if a≠0 then a else b
theorem Q2q {g:Flt}{a b at':Int}:orF (orF g (mkF a at')) (mkF b at')=orF g (mkF (orC a b) at'):=by
 rw [Q39]
 congr 1
 unfold orC orF
 by_cases h:a=0
 · subst h
   by_cases hb:b=0
   · subst hb;rfl
   · simp [mkF,hb]
 · simp [mkF,h]

def fA (op:Int):Bool:=decide (op=2∨op=4∨op=5∨op=6∨op=7∨op=8∨op=9∨op=10∨op=11∨op=13)
def fB (op:Int):Bool:=decide (op=2∨op=7∨op=8∨op=9∨op=10)
def fC (op:Int):Bool:=decide (op=10)
def fK (op:Int):Bool:=decide (op=2∨op=6∨op=7∨op=14)
def fN (op:Int):Bool:=decide (op=1)
def fG (op:Int):Bool:=decide (op=14)
def fR (op:Int):Bool:=decide (op=5∨op=14)
def Ins.odd (x:Ins):Prop:=(fA x.op=false∧x.a≠0)∨(fB x.op=false∧x.b≠0)∨(fC x.op=false∧x.c≠0)∨(fK x.op=false∧x.k≠0)∨(fN x.op=false∧x.n≠0)∨(fG x.op=false∧0 < x.regs.length)∨(fR x.op=false∧0 < x.args.length)
instance (x:Ins):Decidable x.odd:=by unfold Ins.odd;infer_instance
def Q1k (n:Nat) (x:Ins):Int:=
 if x.op=2 then (if x.k < 1∨9 < x.k then 1 else 0)
 else if x.op=5 then (if 8 < x.args.length then 2 else 0)
 else if x.op=6∨x.op=7 then (if x.k < 0∨8≤x.k then 1 else 0)
 else if x.op=14 then (if x.k < 0∨(n:Int)≤x.k then 1 else if 6 < x.regs.length∨8 < x.args.length then 2 else 0)
 else 0
def QC (n:Nat) (x:Ins):Int:=if x.op < 1∨14 < x.op then 3 else if x.odd then 4 else Q1k n x
def Q1K (n:Nat) (t:To) (is:Bool):Int:=
 if is=false then (if t.block≠0∨0 < t.regs.length∨0 < t.args.length then 4 else 0)
 else if t.block < 0∨(n:Int)≤t.block then 1 else if 16 < t.regs.length∨8 < t.args.length then 2 else 0
def Q1I (n:Nat) (e:Tail):Int:=
 if e.op < 1∨3 < e.op then 3
 else if e.op≠2∧e.a≠0∨e.op≠3∧0 < e.args.length then 4
 else if 8 < e.args.length then 2
 else orC (Q1K n e.yes (decide (e.op≠3))) (Q1K n e.no (decide (e.op=2)))
def Q3M (regs:Int):List Ty→Int
 | []=> 0
 | t::l=> orC (t.fault regs) (Q3M regs l)
def QM (l:List Ty) (regs:Int):Int:=if 8 < l.length then 2 else Q3M regs l
def Q3j (f:Nat):Int:=f*10000+9999
def Q3A (f b:Nat):Int:=f*10000+b*100+90
def Q74 (f b:Nat):Int:=f*10000+b*100+91
def Q7r (f b i:Nat):Int:=f*10000+b*100+i
def Q2c (n f b:Nat):Nat→List Ins→Flt
 | _,[]=> (0,0)
 | i,x::l=> orF (mkF (QC n x) (Q7r f b i)) (Q2c n f b (i+1) l)
def Q2y (x:Fun) (b:Nat) (y:Block):Int:=
 if y.regs < x.regs∨16 < y.regs then 1
 else if QM y.params y.regs≠0 then QM y.params y.regs
 else if b=0∧(y.regs≠x.regs∨y.params≠x.params) then 9
 else if 40 < y.code.length then 2 else 0
def Q2E (n f:Nat) (x:Fun) (b:Nat) (y:Block):Flt:=orF (mkF (Q2y x b y) (Q3A f b)) (orF (Q2c n f b 0 y.code) (mkF (Q1I x.blocks.length y.fin) (Q74 f b)))
def Q1y (n f:Nat) (x:Fun):Nat→List Block→Flt
 | _,[]=> (0,0)
 | b,y::l=> orF (Q2E n f x b y) (Q1y n f x (b+1) l)
def Q3h (f:Nat) (x:Fun):Int:=
 if x.regs < 0∨6 < x.regs then 1
 else if QM x.params x.regs≠0 then QM x.params x.regs
 else if QM x.results x.regs≠0 then QM x.results x.regs
 else if x.blocks.length < 1∨12 < x.blocks.length then 2
 else if f=0∧(0 < x.regs∨0 < x.params.length∨∃t∈x.results,t.kind≠1) then 18 else 0
def Q7D (n f:Nat) (x:Fun):Flt:=orF (mkF (Q3h f x) (Q3j f)) (Q1y n f x 0 x.blocks)
def Q2v (n:Nat):Nat→List Fun→Flt
 | _,[]=> (0,0)
 | f,x::l=> orF (Q7D n f x) (Q2v n (f+1) l)
def Module.fault (m:Module):Flt:=orF (mkF (if m.funcs.length < 1∨8 < m.funcs.length then 2 else 0) (-1)) (Q2v m.funcs.length 0 m.funcs)
theorem Q8N {n f b:Nat}:∀{l:List Ins}{i:Nat},(Q2c n f b i l).1=0→Q2c n f b i l=(0,0)
 | [],_=> fun _=> rfl
 | _::_,_=> Qa6 (Q90 _ _) Q8N
theorem QbM {n f:Nat}{x:Fun}{b:Nat}{y:Block}:(Q2E n f x b y).1=0→Q2E n f x b y=(0,0):=Qa6 (Q90 _ _) (Qa6 Q8N (Q90 _ _))
theorem Q6j {n f:Nat}{x:Fun}:∀{l:List Block}{b:Nat},(Q1y n f x b l).1=0→Q1y n f x b l=(0,0)
 | [],_=> fun _=> rfl
 | _::_,_=> Qa6 QbM Q6j
theorem Q8C {n:Nat}:∀{l:List Fun}{f:Nat},(Q2v n f l).1=0→Q2v n f l=(0,0)
 | [],_=> fun _=> rfl
 | _::_,_=> Qa6 (Qa6 (Q90 _ _) Q6j) Q8C
theorem Module.fault_z {m:Module}:m.fault.1=0→m.fault=(0,0):=Qa6 (Q90 _ _) Q8C

def hasTab:List ByteArray:=[⟨#[]⟩,⟨#[110]⟩,⟨#[97,98,107]⟩,⟨#[]⟩,⟨#[97]⟩,⟨#[97,114]⟩,⟨#[97,107]⟩,⟨#[97,98,107]⟩,⟨#[97,98]⟩,⟨#[97,98]⟩,⟨#[97,98,99]⟩,⟨#[97]⟩,⟨#[]⟩,⟨#[97]⟩,⟨#[107,103,114]⟩]
def hasF (op:Int):ByteArray:=if op < 1∨14 < op then ⟨#[]⟩ else hasTab.getD op.toNat ⟨#[]⟩
def Q1b (s:ByteArray) (c:Nat):Bool:=s.data.toList.any fun b=> decide (b.toNat=c)
theorem op_cases {op:Int}(h1:¬op < 1) (h2:¬14 < op):op=1∨op=2∨op=3∨op=4∨op=5∨op=6∨op=7∨op=8∨op=9∨op=10∨op=11∨op=12∨op=13∨op=14:=by omega
theorem with_all (op:Int) (h:¬(op < 1∨14 < op)):Q1b (hasF op) 97=fA op∧Q1b (hasF op) 98=fB op∧Q1b (hasF op) 99=fC op∧Q1b (hasF op) 107=fK op∧Q1b (hasF op) 110=fN op∧Q1b (hasF op) 103=fG op∧Q1b (hasF op) 114=fR op:=by
 rcases op_cases (op:=op) (by omega) (by omega) with rfl|rfl|rfl|rfl|rfl|rfl|rfl|rfl|rfl|rfl|rfl|rfl|rfl|rfl <;> decide
end Go.Lir
namespace Go.Lir
set_option linter.unusedVariables false
structure Val where
 kind:Int
 region:Int
 thing:Int
 n:Int
deriving DecidableEq
def Val.cells (v:Val):List Value:=[.int .i64 v.kind, .int .i64 v.region, .int .i64 v.thing, .int .i64 v.n]
def Val.v (v:Val):Value:= .agg ⟨v.cells⟩
def Val.zero:Val:=⟨0,0,0,0⟩
structure Thg where
 array:Bool
 l:List Val
structure Rgn where
 there:Bool
 l:List Thg
 pages:Int
 used:Int
def Rgn.none:Rgn:=⟨false,[],0,0⟩
structure HpS where
 l:List Rgn
 left:Int
def HpS.reg (s:HpS) (k:Int):Rgn:=if 0≤k then s.l.getD k.toNat Rgn.none else Rgn.none
def HpS.has (s:HpS) (k:Int):Bool:=(s.reg k).there
def HpS.live (s:HpS):Nat:=s.l.countP fun r=> r.there
def HpS.full (s:HpS):Bool:=decide (s.live=16)
def HpS.open (s:HpS):HpS:=if s.full then s else ⟨s.l++[⟨true,[],0,0⟩],s.left⟩
def HpS.openV (s:HpS):Val:=if s.full then Val.zero else ⟨2,s.l.length,0,0⟩
def HpS.can (s:HpS) (v:Val):Bool:=decide (v.kind=2) && s.has v.region
def HpS.shut (s:HpS) (v:Val):HpS:=if s.can v then ⟨s.l.set v.region.toNat Rgn.none,s.left+(s.reg v.region).pages⟩ else s
def Rgn.more (r:Rgn) (n:Int):Bool:=decide (r.pages=0∨16 < r.used+n)
def Rgn.room (r:Rgn) (n:Int):Rgn:=if r.more n then ⟨r.there,r.l,r.pages+1,n⟩ else ⟨r.there,r.l,r.pages,r.used+n⟩
def Rgn.push (r:Rgn) (t:Thg):Rgn:=⟨r.there,r.l++[t],r.pages,r.used⟩
def HpS.code (s:HpS) (v:Val) (n:Int):Int:=if !s.can v then 20 else if (s.reg v.region).more n∧s.left=0 then 14 else 0
def HpS.put (s:HpS) (v:Val) (n:Int) (t:Thg):HpS:=if s.code v n=0 then ⟨s.l.set v.region.toNat (((s.reg v.region).room n).push t),if (s.reg v.region).more n then s.left - 1 else s.left⟩ else s
def HpS.putV (s:HpS) (v:Val) (kind n:Int):Val:=if s.code v n=0 then ⟨kind,v.region,(s.reg v.region).l.length,0⟩ else Val.zero
def HpS.thg (s:HpS) (k t:Nat):Thg:=(s.reg k).l.getD t ⟨false,[]⟩
def HpS.at_ (s:HpS) (v:Val):Option (Nat×Nat):=
 if (v.kind=3∨v.kind=4)∧s.has v.region=true∧0≤v.thing∧v.thing < (s.reg v.region).l.length∧(s.thg v.region.toNat v.thing.toNat).array=decide (v.kind=4) then some (v.region.toNat,v.thing.toNat) else none
def HpS.get (s:HpS) (v:Val) (k:Int):Val×Int:=match s.at_ v with
 | none=> (Val.zero,20)
 | some (r,t)=> if 0≤k∧k < (s.thg r t).l.length then ((s.thg r t).l.getD k.toNat Val.zero,0) else (Val.zero,1)
def HpS.setC (s:HpS) (v:Val) (k:Int) (x:Val):Int:=match s.at_ v with
 | none=> 20
 | some (r,t)=> if (s.thg r t).array=true∧x.kind≠1 then 20 else if 0≤k∧k < (s.thg r t).l.length then 0 else 1
def Rgn.upd (r:Rgn) (t:Nat) (x:Thg):Rgn:=⟨r.there,r.l.set t x,r.pages,r.used⟩
def Thg.upd (t:Thg) (k:Nat) (x:Val):Thg:=⟨t.array,t.l.set k x⟩
def HpS.set (s:HpS) (v:Val) (k:Int) (x:Val):HpS:=match s.at_ v with
 | none=> s
 | some (r,t)=> if s.setC v k x=0 then ⟨s.l.set r ((s.reg r).upd t ((s.thg r t).upd k.toNat x)),s.left⟩ else s
def HpS.len (s:HpS) (v:Val):Int×Int:=match s.at_ v with
 | none=> (0,20)
 | some (r,t)=> ((s.thg r t).l.length,0)
def Q1d (l:List Val):Int:=if l.length=0 then 1 else l.length
def HpS.tuple (s:HpS) (v:Val) (l:List Val):HpS:=s.put v (Q1d l) ⟨false,l⟩
def Q1O (n:Int):List Val:=List.replicate n.toNat ⟨1,0,0,0⟩
def HpS.arrC (s:HpS) (v:Val) (n:Int):Int:=if n < 0∨15 < n then 1 else s.code v (n+1)
def HpS.arr (s:HpS) (v:Val) (n:Int):HpS:=if n < 0∨15 < n then s else s.put v (n+1) ⟨true,Q1O n⟩
def HpS.arrV (s:HpS) (v:Val) (n:Int):Val:=if n < 0∨15 < n then Val.zero else s.putV v 4 (n+1)

structure HpS.Ok (N:Nat) (s:HpS):Prop where
 len:s.l.length≤N
 each:∀r∈s.l,r.l.length≤N∧(∀t∈r.l,t.l.length≤1000)∧0≤r.pages∧0≤r.used∧r.used≤1000∧(r.there=false→r=Rgn.none)
 left:0≤s.left
 sum:s.left+(s.l.map Rgn.pages).sum≤1000
 live:s.live≤16

theorem Q9I {l l':List Int}(h:l.Perm l'):l.sum=l'.sum:=by
 induction h with
 | nil=> rfl
 | cons x _ ih=> rw [List.sum_cons,List.sum_cons,ih]
 | swap x y l=> simp only [List.sum_cons];omega
 | trans _ _ h1 h2=> rw [h1,h2]
theorem Q6s {l:List Int}(h:∀x∈l,0≤x):0≤l.sum:=by
 induction l with
 | nil=> simp
 | cons x l ih=> rw [List.sum_cons];have:=h x (by simp);have:=ih fun y hy=> h y (by simp [hy]);omega
theorem Q4I {α:Type}:∀{l:List α}{k:Nat}{x:α},l[k]?=some x→l.Perm (x::l.eraseIdx k)
 | [],_,_,h=> by simp at h
 | y::l,0,x,h=> by simp at h;subst h;exact .refl _
 | y::l,k+1,x,h=> ((Q4I (l:=l) (by simpa using h)).cons y).trans (.swap _ _ _)
theorem Q5L {α:Type}:∀{l:List α}{k:Nat}{x:α},k < l.length→(l.set k x).Perm (x::l.eraseIdx k)
 | [],_,_,h=> by simp at h
 | y::l,0,x,h=> .refl _
 | y::l,k+1,x,h=> ((Q5L (l:=l) (by simpa using h)).cons y).trans (.swap _ _ _)
theorem QeN {l:List Rgn}{k:Nat}{r r':Rgn}(hr:l[k]?=some r):((l.set k r').map Rgn.pages).sum+r.pages=(l.map Rgn.pages).sum+r'.pages:=by
 have h1:=Q9I ((Q4I hr).map Rgn.pages)
 have h2:=Q9I ((Q5L (x:=r') (List.getElem?_eq_some_iff.1 hr).1).map Rgn.pages)
 rw [List.map_cons,List.sum_cons] at h1 h2
 rw [h1,h2];omega
theorem Q40 {l:List Rgn}{k:Nat}{r r':Rgn}(hr:l[k]?=some r):((l.set k r').countP fun r=> r.there)+(if r.there then 1 else 0)=(l.countP fun r=> r.there)+if r'.there then 1 else 0:=by
 have h1:=(Q4I hr).countP_eq fun r:Rgn=> r.there
 have h2:=(Q5L (x:=r') (List.getElem?_eq_some_iff.1 hr).1).countP_eq fun r:Rgn=> r.there
 rw [List.countP_cons] at h1 h2
 rw [h1,h2];omega
theorem HpS.Ok.pages {N:Nat}{s:HpS}(h:s.Ok N):s.left≤1000∧∀r∈s.l,r.pages+s.left≤1000:=by
 have h1:=h.sum
 have h2:=Q6s (l:=s.l.map Rgn.pages) (by intro x hx;obtain ⟨r,hr,rfl⟩:=List.mem_map.1 hx;exact (h.each r hr).2.2.1)
 have h3:=h.left
 refine ⟨by omega,fun r hr=> ?_⟩
 obtain ⟨k,hk⟩:=List.mem_iff_getElem?.1 hr
 have h4:=Q9I ((Q4I hk).map Rgn.pages)
 rw [List.map_cons,List.sum_cons] at h4
 have h5:=Q6s (l:=(s.l.eraseIdx k).map Rgn.pages) (by intro x hx;obtain ⟨r,hr,rfl⟩:=List.mem_map.1 hx;exact (h.each r (List.mem_of_mem_eraseIdx hr)).2.2.1)
 omega
theorem mem_set_or {α:Type}{l:List α}{k:Nat}{x y:α}(h:y∈l.set k x):y=x∨y∈l:=(List.mem_or_eq_of_mem_set h).symm
theorem HpS.Ok.mono {N M:Nat}{s:HpS}(h:s.Ok N) (hm:N≤M):s.Ok M:=⟨by have:=h.len;omega,fun r hr=> by obtain ⟨h1,h2⟩:=h.each r hr;exact ⟨by omega,h2⟩,h.left,h.sum,h.live⟩
theorem HpS.ok_set {N M:Nat}{s:HpS}(h:s.Ok N){k:Nat}{r r':Rgn}(hr:s.l[k]?=some r){left:Int}(hM:N≤M) (h0:0≤left) (hs:left+r'.pages=s.left+r.pages) (hl:s.live+(if r'.there then 1 else 0)≤16+if r.there then 1 else 0)
 (he:r'.l.length≤M∧(∀t∈r'.l,t.l.length≤1000)∧0≤r'.pages∧0≤r'.used∧r'.used≤1000∧(r'.there=false→r'=Rgn.none)):(⟨s.l.set k r',left⟩:HpS).Ok M:=by
 have h1:=QeN (r':=r') hr
 have h2:=Q40 (r':=r') hr
 have h3:=h.sum
 have h4:=h.len
 refine ⟨by rw [List.length_set];omega,fun x hx=> ?_,h0,by show left+((s.l.set k r').map Rgn.pages).sum≤1000;omega,?_⟩
 · rcases mem_set_or hx with rfl|hx
   · exact he
   · obtain ⟨g1,g2⟩:=h.each x hx;exact ⟨by omega,g2⟩
 · show (s.l.set k r').countP (fun r=> r.there)≤16
   have:s.live=s.l.countP fun r=> r.there:=rfl
   omega
theorem HpS.reg_get {s:HpS}{k:Nat}{r:Rgn}(h:s.l[k]?=some r):s.reg k=r:=by
 unfold HpS.reg;rw [if_pos (by omega),Int.toNat_natCast,List.getD_eq_getElem?_getD,h];rfl
theorem HpS.ok_put {N:Nat}{s:HpS}(h:s.Ok N){v:Val}{n:Int}(hn:1≤n∧n≤1000){t:Thg}(ht:t.l.length≤1000):(s.put v n t).Ok (N+1):=by
 unfold HpS.put
 split
 · rename_i hc
   have hcan:s.can v=true:=by
    unfold HpS.code at hc
    cases hx:s.can v with
    | true=> rfl
    | false=> rw [hx] at hc;cases hc
   unfold HpS.can at hcan
   rw [Bool.and_eq_true] at hcan
   have hh:=hcan.2
   unfold HpS.has HpS.reg at hh
   split at hh
   · rename_i h0
     rw [List.getD_eq_getElem?_getD] at hh
     cases hk:s.l[v.region.toNat]? with
     | none=> rw [hk] at hh;cases hh
     | some r=>
       have hrg:s.reg v.region=r:=by have:=HpS.reg_get hk;rw [Int.toNat_of_nonneg h0] at this;exact this
       have hth:r.there=true:=by rw [hk] at hh;exact hh
       rw [hrg]
       have he:=h.each r (List.mem_of_getElem? hk)
       have hl:=h.left
       have hlive:=h.live
       have hne:r.more n=true→s.left≠0:=fun hm e=> by
        unfold HpS.code at hc
        rw [hrg] at hc
        split at hc
        · cases hc
        · rw [if_pos ⟨hm,e⟩] at hc;cases hc
       have hu:¬r.more n=true→r.used+n≤16:=fun hm=> by unfold Rgn.more at hm;rw [decide_eq_true_iff] at hm;omega
       refine HpS.ok_set h hk (by omega) ?_ ?_ ?_ ?_
       · split
         · rename_i hm;have:=hne hm;omega
         · exact hl
       · unfold Rgn.room
         split <;> simp only [Rgn.push] <;> omega
       · unfold Rgn.room
         split <;> simp only [Rgn.push,hth,if_true] <;> omega
       · obtain ⟨g1,g2,g3,g4,g5,g6⟩:=he
         have e1:(r.room n).l=r.l∧(r.room n).there=r.there∧0≤(r.room n).pages∧0≤(r.room n).used∧(r.room n).used≤1000:=by
          unfold Rgn.room
          split
          · exact ⟨rfl,rfl,by simp only;omega,by simp only;omega,by simp only;omega⟩
          · rename_i hm;have:=hu hm;exact ⟨rfl,rfl,by simp only;omega,by simp only;omega,by simp only;omega⟩
         obtain ⟨e1,e2,e3,e4,e5⟩:=e1
         refine ⟨by simp [Rgn.push,e1];omega,fun x hx=> ?_,e3,e4,e5,fun hf=> ?_⟩
         · simp only [Rgn.push,e1,List.mem_append,List.mem_singleton] at hx
           rcases hx with hx|rfl
           · exact g2 x hx
           · exact ht
         · simp only [Rgn.push,e2,hth] at hf;cases hf
   · cases hh
 · exact h.mono (by omega)
theorem HpS.ok_shut {N:Nat}{s:HpS}(h:s.Ok N){m:Nat}{r:Rgn}(hk:s.l[m]?=some r):(⟨s.l.set m Rgn.none,s.left+r.pages⟩:HpS).Ok N:=by
 have he:=h.each r (List.mem_of_getElem? hk)
 have hl:=h.left
 have hlive:=h.live
 exact HpS.ok_set h hk (Nat.le_refl _) (by omega) (by simp [Rgn.none]) (by simp [Rgn.none];split <;> omega) ⟨by simp [Rgn.none],by simp [Rgn.none],by simp [Rgn.none],by simp [Rgn.none],by simp [Rgn.none],fun _=> rfl⟩
theorem HpS.ok_open {N:Nat}{s:HpS}(h:s.Ok N):s.open.Ok (N+1):=by
 unfold HpS.open
 split
 · exact h.mono (by omega)
 · rename_i hf
   have hl:s.live≠16:=fun e=> hf (decide_eq_true e)
   have hlive:=h.live
   have h2:=h.sum
   have h3:=h.len
   refine ⟨by simp;omega,fun r hr=> ?_,h.left,by simp;omega,?_⟩
   · rcases List.mem_append.1 hr with hr|hr
     · obtain ⟨g1,g2⟩:=h.each r hr;exact ⟨by omega,g2⟩
     · simp only [List.mem_singleton] at hr;subst hr;exact ⟨by simp,by simp,by simp,by simp,by simp,fun e=> by cases e⟩
   · show (s.l++[(⟨true,[],0,0⟩:Rgn)]).countP (fun r:Rgn=> r.there)≤16
     rw [List.countP_append]
     have:s.live=s.l.countP fun r:Rgn=> r.there:=rfl
     simp;omega
end Go.Lir
namespace Go.Lir
abbrev wr (n:Int):Int:=IntKind.i64.wrap n
def divF (a b:Int):Int×Bool:=if b=0 then (0,false) else if b=-1 then (wr (0 - a),true) else (wr (a.tdiv b),true)
def opF (k a b:Int):Int×Bool:=
 if k=1 then (wr (a+b),true) else if k=2 then (wr (a - b),true) else if k=3 then (wr (a*b),true)
 else if k=4 then divF a b else if k=5 then (if (divF a b).2 then (wr (a - wr ((divF a b).1*b)),true) else (0,false))
 else if k=6 then (if a < b then 1 else 0,true) else if k=7 then (if a=b then 1 else 0,true) else if k=8 then (bitI .and .i64 a b,true) else if k=9 then (bitI .xor .i64 a b,true) else (0,false)
end Go.Lir
namespace Go.Lir
set_option linter.unusedVariables false
structure Frm where
 f:Nat
 b:Nat
 i:Nat
 vals:List Val
 regs:List Int
structure MS where
 h:HpS
 g:Frm
 st:List Frm
 inp:List Int
 out:List Int
 fuel:Nat
inductive Stp where
 | go (s:MS)
 | halt (e:Int)
 | done (l:List Int)
 | lost
def Q14 {α:Type}(x:Option α) (f:α→Stp):Stp:=match x with
 | none=> .lost
 | some a=> f a
theorem QK {α:Type}{x:Option α}{f:α→Stp}(h:x=none):Q14 x f= .lost:=by rw [h];rfl
theorem Q1 {α:Type}{x:Option α}{f:α→Stp}{a:α}(h:x=some a):Q14 x f=f a:=by rw [h];rfl
abbrev intV (n:Int):Val:=⟨1,0,0,n⟩
def Frm.val (g:Frm) (k:Int):Option Val:=if k < 0 then none else g.vals[k.toNat]?
def Frm.num (g:Frm) (k:Int):Option Int:=match g.val k with
 | none=> none
 | some v=> if v.kind=1 then some v.n else none
def Frm.args (g:Frm):List Int→Option (List Val)
 | []=> some []
 | k::l=> match g.val k,g.args l with
   | some v,some vs=> some (v::vs)
   | _,_=> none
def Frm.reg (g:Frm) (k:Int):Option Int:=if k < 0 then none else g.regs[k.toNat]?
def Frm.rgs (g:Frm):List Int→Option (List Int)
 | []=> some []
 | k::l=> match g.reg k,g.rgs l with
   | some v,some vs=> some (v::vs)
   | _,_=> none
def MS.put (s:MS) (vs:List Val):MS:=⟨s.h,⟨s.g.f,s.g.b,s.g.i,s.g.vals++vs,s.g.regs⟩,s.st,s.inp,s.out,s.fuel⟩
def MS.hp (s:MS) (h:HpS):MS:=⟨h,s.g,s.st,s.inp,s.out,s.fuel⟩
def MS.fr (s:MS) (g:Frm):MS:=⟨s.h,g,s.st,s.inp,s.out,s.fuel⟩
def MS.made (s:MS) (e:Int) (h:HpS) (v:Val):Stp:=if e=14 then .halt 6 else if e≠0 then .lost else .go ((s.hp h).put [v])
def Q38 (v:Val) (e:Int) (k:Stp):Stp:=if v.kind≠4 then .lost else if e=1 then .halt 2 else if e≠0 then .lost else k
def MS.newR (s:MS):Stp:=if s.h.full=true then .halt 6 else .go ((⟨s.h.open,⟨s.g.f,s.g.b,s.g.i,s.g.vals,s.g.regs++[s.h.openV.region]⟩,s.st,s.inp,s.out,s.fuel⟩:MS).put [s.h.openV])
def MS.inS (s:MS):Stp:=match s.inp with
 | []=> .halt 4
 | n::r=> .go ((⟨s.h,s.g,s.st,r,s.out,s.fuel⟩:MS).put [intV n])
def MS.outS (s:MS) (n:Int):Stp:=if s.out.length=2000 then .halt 8 else .go ⟨s.h,s.g,s.st,s.inp,s.out++[n],s.fuel⟩
def MS.call (m:Module) (s:MS) (x:Ins):Stp:=match m.funcs[x.k.toNat]? with
 | none=> .lost
 | some g=> Q14 (s.g.rgs x.regs) fun rs=> Q14 (s.g.args x.args) fun vs=>
   if (rs.length:Int)≠g.regs∨vs.length≠g.params.length then .lost else if s.st.length+1=40 then .halt 5 else .go ⟨s.h,⟨x.k.toNat,0,0,vs,rs⟩,s.g::s.st,s.inp,s.out,s.fuel⟩
def MS.ins (m:Module) (s:MS) (x:Ins):Stp:=
 if x.op=1 then .go (s.put [intV x.n])
 else if x.op=2 then Q14 (s.g.num x.a) fun a=> Q14 (s.g.num x.b) fun b=> if (opF x.k a b).2=false then .halt 1 else .go (s.put [intV (opF x.k a b).1])
 else if x.op=3 then s.newR
 else if x.op=4 then Q14 (s.g.val x.a) fun v=> if s.h.can v=false then .lost else .go (s.hp (s.h.shut v))
 else if x.op=5 then Q14 (s.g.val x.a) fun v=> Q14 (s.g.args x.args) fun l=> s.made (s.h.code v (Q1d l)) (s.h.tuple v l) (s.h.putV v 3 (Q1d l))
 else if x.op=6 then Q14 (s.g.val x.a) fun v=> if v.kind≠3 then .lost else if (s.h.get v x.k).2≠0 then .lost else .go (s.put [(s.h.get v x.k).1])
 else if x.op=7 then Q14 (s.g.val x.a) fun v=> if v.kind≠3 then .lost else Q14 (s.g.val x.b) fun y=> if s.h.setC v x.k y≠0 then .lost else .go (s.hp (s.h.set v x.k y))
 else if x.op=8 then Q14 (s.g.val x.a) fun v=> Q14 (s.g.num x.b) fun n=> if n < 0∨15 < n then .halt 3 else s.made (s.h.arrC v n) (s.h.arr v n) (s.h.arrV v n)
 else if x.op=9 then Q14 (s.g.val x.a) fun v=> Q14 (s.g.num x.b) fun n=> Q38 v (s.h.get v n).2 (.go (s.put [(s.h.get v n).1]))
 else if x.op=10 then Q14 (s.g.val x.a) fun v=> Q14 (s.g.num x.b) fun n=> Q14 (s.g.num x.c) fun c=> Q38 v (s.h.setC v n (intV c)) (.go (s.hp (s.h.set v n (intV c))))
 else if x.op=11 then Q14 (s.g.val x.a) fun v=> Q38 v (s.h.len v).2 (.go (s.put [intV (s.h.len v).1]))
 else if x.op=12 then s.inS
 else if x.op=13 then Q14 (s.g.num x.a) fun n=> s.outS n
 else s.call m x
def MS.to (f:Fun) (s:MS) (t:To):Stp:=match f.blocks[t.block.toNat]? with
 | none=> .lost
 | some b=> Q14 (s.g.rgs t.regs) fun rs=> Q14 (s.g.args t.args) fun vs=>
   if (rs.length:Int)≠b.regs∨vs.length≠b.params.length then .lost else .go (s.fr ⟨s.g.f,t.block.toNat,0,vs,rs⟩)
def intsV:List Val→Option (List Int)
 | []=> some []
 | v::l=> match intsV l with
   | none=> none
   | some ns=> if v.kind=1 then some (v.n::ns) else none
def MS.ret (f:Fun) (s:MS) (e:Tail):Stp:=Q14 (s.g.args e.args) fun vs=> if vs.length≠f.results.length then .lost else match s.st with
 | c::st=> .go ((⟨s.h,c,st,s.inp,s.out,s.fuel⟩:MS).put vs)
 | []=> match intsV vs with
   | none=> .lost
   | some ns=> .done ns
def MS.fin (f:Fun) (s:MS) (e:Tail):Stp:=
 if e.op=1 then s.to f e.yes
 else if e.op=2 then Q14 (s.g.num e.a) fun n=> if n≠0 then s.to f e.yes else s.to f e.no
 else s.ret f e
def MS.next (s:MS):MS:=s.fr ⟨s.g.f,s.g.b,s.g.i+1,s.g.vals,s.g.regs⟩
def MS.one (m:Module) (s:MS):Stp:=match m.funcs[s.g.f]? with
 | none=> .lost
 | some f=> match f.blocks[s.g.b]? with
   | none=> .lost
   | some b=> match b.code[s.g.i]? with
     | some x=> s.next.ins m x
     | none=> s.fin f b.fin
def MS.place (m:Module) (s:MS):Int:=match m.funcs[s.g.f]? with
 | none=> 0
 | some f=> match f.blocks[s.g.b]? with
   | none=> 0
   | some b=> if s.g.i < b.code.length then Q7r s.g.f s.g.b s.g.i else Q74 s.g.f s.g.b
def MS.tick (s:MS):MS:=⟨s.h,s.g,s.st,s.inp,s.out,s.fuel+1⟩
inductive Run where
 | on (s:MS)
 | over (s:MS) (e:Int) (back:List Int)
 | stuck (f:Flt)
def Run.of (m:Module) (s:MS):Stp→Run
 | .go s'=> .on s'
 | .halt e=> .over s.tick e []
 | .done l=> .over s.tick 0 l
 | .lost=> .stuck (20,s.place m)
def Run.step (m:Module) (most:Nat):Run→Run
 | .on s=> if s.fuel=most then .over s 7 [] else .of m s (s.tick.one m)
 | r=> r
def Run.steps (m:Module) (most:Nat):Nat→Run→Run
 | 0,r=> r
 | k+1,r=> Run.steps m most k (r.step m most)
def MS.start (inp:List Int) (pages:Int):MS:=⟨⟨[],pages⟩,⟨0,0,0,[],[]⟩,[],inp,[],0⟩
structure Oc where
 e:Int
 back:List Int
 out:List Int
 fuel:Int
def Run.oc:Run→Oc
 | .on s=> ⟨0,[],s.out,s.fuel⟩
 | .over s e back=> ⟨e,back,s.out,s.fuel⟩
 | .stuck _=> ⟨0,[],[],0⟩
def Run.flt:Run→Flt
 | .stuck f=> f
 | _=> (0,0)
def Run.all (m:Module) (inp:List Int) (most:Nat) (pages:Int):Run:=Run.steps m most (most+1) (.on (MS.start inp pages))
end Go.Lir
namespace Go.Proofs.YteflkifmgnpbhaaGreat
open Go.Lir
set_option linter.unusedVariables false
structure RFrm where
 f:Nat
 b:Nat
 i:Nat
 vals:List Int
structure RS where
 e:EstS
 g:RFrm
 st:List RFrm
 inp:List Int
 out:List Int
 fuel:Nat
inductive RStp where
 | go (s:RS)
 | halt (e:Int)
 | done (l:List Int)
 | crash
def Q1t {α:Type}(x:Option α) (f:α→RStp):RStp:=match x with
 | none=> .crash
 | some a=> f a
theorem Q1q {α:Type}{x:Option α}{f:α→RStp}{a:α}(h:x=some a):Q1t x f=f a:=by rw [h];rfl
def RFrm.val (g:RFrm) (k:Int):Option Int:=if k < 0 then none else g.vals[k.toNat]?
def RFrm.args (g:RFrm):List Int→Option (List Int)
 | []=> some []
 | k::l=> match g.val k,g.args l with
   | some v,some vs=> some (v::vs)
   | _,_=> none
def RS.put (s:RS) (vs:List Int):RS:=⟨s.e,⟨s.g.f,s.g.b,s.g.i,s.g.vals++vs⟩,s.st,s.inp,s.out,s.fuel⟩
def RS.es (s:RS) (e:EstS):RS:=⟨e,s.g,s.st,s.inp,s.out,s.fuel⟩
def RS.fr (s:RS) (g:RFrm):RS:=⟨s.e,g,s.st,s.inp,s.out,s.fuel⟩
def EstS.word (s:EstS) (i:Int):Int:=s.p.word i
def EstS.store (s:EstS) (i x:Int):EstS:=⟨s.p.store i x,s.rs⟩
def EstS.storesA (s:EstS) (at_:Int) (k:Nat):List Int→EstS
 | []=> s
 | v::l=> (s.store (wr (at_+k)) v).storesA at_ (k+1) l
def EstS.stores (s:EstS) (at_:Int) (l:List Int):EstS:=s.storesA at_ 0 l
theorem EstS.storesA_one {at_ v:Int}:∀{l:List Int}{s:EstS}{k:Nat},s.storesA at_ k (l++[v])=(s.storesA at_ k l).store (wr (at_+(k+l.length:Nat))) v
 | [],s,k=> by simp [EstS.storesA]
 | a::l,s,k=> by
   rw [List.cons_append,EstS.storesA,EstS.storesA,EstS.storesA_one (l:=l),List.length_cons,show k+1+l.length=k+(l.length+1) by omega]
theorem EstS.stores_take {s:EstS}{at_ v:Int}{l:List Int}{q:Nat}(h:l[q]?=some v):s.stores at_ (l.take (q+1))=(s.stores at_ (l.take q)).store (wr (at_+q)) v:=by
 obtain ⟨hq,hv⟩:=List.getElem?_eq_some_iff.mp h
 rw [List.take_add_one,h]
 show s.storesA at_ 0 (l.take q++[v])=_
 rw [EstS.storesA_one,List.length_take,Nat.min_eq_left (by omega),Nat.zero_add];rfl
def RS.gotR (s:RS) (r n:Int) (k:EstS→Int→RStp):RStp:=if s.e.code r n=14 then .halt 6 else k (s.e.get r n) (s.e.getV r n)
def RS.atR (s:RS) (a k:Int) (c:Int→RStp):RStp:=if k < 0∨s.e.word a≤k then .halt 2 else c (wr (wr (a+1)+k))
def RS.inR (s:RS):RStp:=match s.inp with
 | []=> .halt 4
 | n::r=> .go ((⟨s.e,s.g,s.st,r,s.out,s.fuel⟩:RS).put [n])
def RS.outR (s:RS) (n:Int):RStp:=if s.out.length=2000 then .halt 8 else .go ⟨s.e,s.g,s.st,s.inp,s.out++[n],s.fuel⟩
def RS.callR (s:RS) (k:Int) (vs:List Int):RStp:=if s.st.length+1=40 then .halt 5 else .go ⟨s.e,⟨k.toNat,0,0,vs⟩,s.g::s.st,s.inp,s.out,s.fuel⟩
def RS.ins (m:Module) (s:RS) (x:Ins):RStp:=
 if x.op=1 then .go (s.put [x.n])
 else if x.op=2 then Q1t (s.g.val x.a) fun a=> Q1t (s.g.val x.b) fun b=> if (opF x.k a b).2=false then .halt 1 else .go (s.put [(opF x.k a b).1])
 else if x.op=3 then (if s.e.openV < 0 then .halt 6 else .go ((s.es s.e.open).put [s.e.openV]))
 else if x.op=4 then Q1t (s.g.val x.a) fun a=> .go (s.es (s.e.shut a))
 else if x.op=5 then Q1t (s.g.val x.a) fun a=> Q1t (s.g.args x.args) fun l=> s.gotR a (max (x.args.length:Int) 1) fun e at_=> .go ((s.es (e.stores at_ l)).put [at_])
 else if x.op=6 then Q1t (s.g.val x.a) fun a=> .go (s.put [s.e.word (wr (a+x.k))])
 else if x.op=7 then Q1t (s.g.val x.a) fun a=> Q1t (s.g.val x.b) fun b=> .go (s.es (s.e.store (wr (a+x.k)) b))
 else if x.op=8 then Q1t (s.g.val x.a) fun a=> Q1t (s.g.val x.b) fun n=> if n < 0∨15 < n then .halt 3 else s.gotR a (1+n) fun e at_=> .go ((s.es (e.store at_ n)).put [at_])
 else if x.op=9 then Q1t (s.g.val x.a) fun a=> Q1t (s.g.val x.b) fun k=> s.atR a k fun q=> .go (s.put [s.e.word q])
 else if x.op=10 then Q1t (s.g.val x.a) fun a=> Q1t (s.g.val x.b) fun k=> Q1t (s.g.val x.c) fun c=> s.atR a k fun q=> .go (s.es (s.e.store q c))
 else if x.op=11 then Q1t (s.g.val x.a) fun a=> .go (s.put [s.e.word a])
 else if x.op=12 then s.inR
 else if x.op=13 then Q1t (s.g.val x.a) fun n=> s.outR n
 else Q1t (s.g.args x.args) fun vs=> s.callR x.k vs
def RS.to (s:RS) (t:To):RStp:=Q1t (s.g.args t.args) fun vs=> .go (s.fr ⟨s.g.f,t.block.toNat,0,vs⟩)
def RS.fin (s:RS) (e:Tail):RStp:=
 if e.op=3 then Q1t (s.g.args e.args) fun vs=> match s.st with
  | c::st=> .go ((⟨s.e,c,st,s.inp,s.out,s.fuel⟩:RS).put vs)
  | []=> .done vs
 else if e.op=2 then Q1t (s.g.val e.a) fun n=> if n=0 then s.to e.no else s.to e.yes
 else s.to e.yes
def RS.next (s:RS):RS:=s.fr ⟨s.g.f,s.g.b,s.g.i+1,s.g.vals⟩
def RS.one (m:Module) (s:RS):RStp:=match m.funcs[s.g.f]? with
 | none=> .crash
 | some f=> match f.blocks[s.g.b]? with
   | none=> .crash
   | some b=> match b.code[s.g.i]? with
     | some x=> s.next.ins m x
     | none=> s.fin b.fin
def RS.tick (s:RS):RS:=⟨s.e,s.g,s.st,s.inp,s.out,s.fuel+1⟩
def RS.start (inp:List Int) (pages:Nat):RS:=⟨EstS.mk0 pages,⟨0,0,0,[]⟩,[],inp,[],0⟩
end Go.Proofs.YteflkifmgnpbhaaGreat
namespace Go.Proofs.YteflkifmgnpbhaaGreat
open Go.Lir
set_option maxHeartbeats 1000000
attribute [local irreducible] LC.wp Q0 Qk Qh retQ Qt LO.wp Q4 Calls
set_option linter.unusedSimpArgs false
set_option linter.unusedVariables false
theorem size_c:∀(t:Ty){cx:Cx}{w:World}{L:List Res}{cs:List Value}{left:Int},tyR.at cx cs t→-1≤left→left≤1000000→St cx w L→
 Rets Tryz.prog Qew [.agg ⟨cs⟩, .int .i64 left] w fun v w'=> v= .int .i64 (t.size left)∧St cx w' L:=by
 intro t
 induction t using Ty.ind with
 | h k r l ih=>
   intro cx w L cs left ht h1 h2 hS
   obtain ⟨v,rfl,hl⟩:=Qr ht
   simp only [Ty.kind,Ty.r,Ty.l] at hl ht ⊢
   have hlen:=hl.len
   rw [Ty.size]
   all_goals refine lgo tyD Tryz.func158 ?_
   all_goals (refine Zat ?_;intro p2 w1 hS;refine ZaL ?_;refine zsu ?_;refine ZaF ?_;refine ZbO ?_)
   refine zoL hS [2] (fun A LL ρ' w'=>∃(j:Nat) (n:Int),Has ρ' A∧Has ρ' [(1, .int .i64 n),(5, .int .i64 j)]∧(j≤l.length)∧(n≤1000000)∧(-2≤n)∧(Tys.size l (left - 1)=Tys.size (l.drop j) n)∧St cx w' (LL)) (fun ρ' _=> (l.length - iv (ρ' 5)).toNat) ?_ ?_
   · exact ⟨0,left - 1,zh,zh,(by omega),(by omega),(by omega),by simp,hS.sp⟩
   rintro ρ w1 ⟨j,n,hA,hρ,hj,hn,hn1,hd,hS⟩;obtain ⟨ρ,rfl⟩:=env2 hA hρ
   all_goals (refine Zak ?_;refine zf0 ?_;refine zl hS ?_;refine zL ?_)
   all_goals (first|(refine Q15 ?_)|(refine Q1c ?_)|(refine Qu rfl rfl (fun hc=> ?_) (fun hc=> ?_)))
   all_goals (refine Zam ?_)
   all_goals (first|refine zgn ?_|(refine zgy ?_;(first|(refine Q2n ?_)|(refine Q2Z ?_)|(refine Q1r rfl rfl (fun hc=> ?_) (fun hc=> ?_)))))
   all_goals (refine ZaO ?_)
   all_goals
    first
    | (refine zcf ?_
       all_goals (refine zex ?_;refine Zbq ?_)
       all_goals (refine ⟨_,rfl,?_,hS.sp⟩;(rw [hd];congr 1;first|(rw [Tys.size_neg _ (by omega)];done)|(rw [List.drop_of_length_le (by omega),Tys.size];done));done))
    | (refine zct ?_
       all_goals (refine ZaE ?_;refine Q10 ?_;refine zf0 ?_;refine zl hS ?_;refine zm ?_;refine zi ?_;intro b1 o1 cs1 x1 hat1 hx1 he1;obtain ⟨vl1,rfl,hl1⟩:=Qr he1;refine Yai ?_;refine zm ?_;refine zR2 (c:=ih _ (List.mem_of_getElem? (by assumption)) (by assumption) (by omega) (by omega) hS) (h:=?_);rintro v1 w1 ⟨rfl,hS⟩;refine Zad ?_;refine Zae ?_;refine zad ?_;refine Zad ?_)
       all_goals (exact ⟨⟨j+1,_,zh,zh,(by omega),by have:=Ty.size_rng x1 (left:=n) (by omega);omega,by have:=Ty.size_rng x1 (left:=n) (by omega);omega,by rw [hd,Qb hx1,Tys.size,if_pos (by omega)],hS.sp⟩,Qv (by omega)⟩))
theorem great_c {t:Ty}{cx:Cx}{w:World}{L:List Res}{cs:List Value}(ht:tyR.at cx cs t) (hS:St cx w L):
 Rets Tryz.prog QcU [.agg ⟨cs⟩] w fun v w'=> v= .bool t.great∧St cx w' L:=by
 obtain ⟨v,rfl,hl⟩:=Qr ht
 all_goals refine lgo tyD Tryz.func101 ?_
 all_goals (refine Zat ?_;intro p1 w1 hS;refine Zad ?_;refine Zaa ?_;refine zv hS ?_;refine zR2 (c:=size_c t ht (by omega) (by omega) hS) (h:=?_);rintro v1 w1 ⟨rfl,hS⟩;refine Q3T rfl rfl ?_;refine Zap ?_;refine ⟨_,rfl,?_,hS.sp⟩;(rfl);done)
theorem Qaw {l:List Ty}{cx:Cx}{w:World}{L:List Res}{v:Value}(hl:tyR.sl cx v l) (hS:St cx w L):
 Rets Tryz.prog QbR [v] w fun u w'=> u= .bool (Tys.great l)∧St cx w' L:=by
 have hlen:=hl.len
 unfold Tys.great
 all_goals refine lgo tyD Tryz.func58 ?_
 all_goals (refine ZaQ ?_;refine zL ?_)
 all_goals (first|(refine Q17 ?_)|(refine Q1a ?_)|(refine Qs rfl rfl (fun hc=> ?_) (fun hc=> ?_)))
 all_goals (refine zn ?_)
 all_goals
  first
  | (refine zct ?_
     all_goals (refine Zas ?_)
     all_goals (refine ⟨_,rfl,?_,hS.sp⟩;rw [decide_eq_true (by omega),Bool.true_or];done))
  | (refine zcf ?_
     all_goals refine zsk ?_)
 all_goals (refine QB ?_;refine ZbO ?_)
 refine zoL hS [0] (fun A LL ρ' w'=>∃(j:Nat),Has ρ' A∧Has ρ' [(3, .int .i64 j)]∧(j≤l.length)∧(l.any Ty.great=(l.drop j).any Ty.great)∧St cx w' (LL)) (fun ρ' _=> (l.length - iv (ρ' 3)).toNat) ?_ ?_
 · exact ⟨0,zh,zh,(by omega),by simp,hS.sp⟩
 rintro ρ w1 ⟨j,hA,hρ,hj,hd,hS⟩;obtain ⟨ρ,rfl⟩:=env2 hA hρ
 all_goals (refine Zak ?_;refine zm ?_;refine zL ?_;refine Q3T rfl rfl ?_;refine zn ?_)
 refine Qq rfl (fun hc=> ?_) (fun hc=> ?_)
 · skip
   all_goals (refine ZaE ?_;refine ZaX ?_;refine zi ?_;intro b1 o1 cs1 x1 hat1 hx1 he1;obtain ⟨vl1,rfl,hl1⟩:=Qr he1;refine Yai ?_)
   all_goals (refine zR1 (c:=great_c (by assumption) hS) (h:=?_);rintro v1 w1 ⟨rfl,hS⟩;cases hg:x1.great)
   all_goals (refine zn ?_)
   all_goals
    first
    | (refine zct ?_
       all_goals (refine Zas ?_)
       all_goals (first|(refine ⟨_,rfl,?_,hS.sp⟩;rw [decide_eq_true (by omega),Bool.true_or];done)|(refine ⟨_,rfl,?_,hS.sp⟩;rw [decide_eq_false (by omega),hd,Bool.false_or,Qb hx1,List.any_cons,hg,Bool.true_or];done)))
    | (refine zcf ?_
       all_goals refine zsk ?_)
   all_goals (refine Zae ?_;refine zad ?_;refine Zad ?_;exact ⟨⟨j+1,zh,zh,(by omega),by rw [hd,Qb hx1,List.any_cons,hg,Bool.false_or],hS.sp⟩,Qv (by omega)⟩)
 · skip
   all_goals (refine ZbL ?_;(first|(refine ⟨_,rfl,?_,hS.sp⟩;rw [decide_eq_true (by omega),Bool.true_or];done)|(refine ⟨_,rfl,?_,hS.sp⟩;rw [decide_eq_false (by omega),hd,Bool.false_or,Qb hx1,List.any_cons,hg,Bool.true_or];done)|(refine ⟨_,rfl,?_,hS.sp⟩;rw [decide_eq_false (by omega),hd,Bool.false_or,List.drop_of_length_le (by omega)];rfl;done)))
theorem deep_c:∀(t:Ty){cx:Cx}{w:World}{L:List Res}{cs:List Value}{left:Int},tyR.at cx cs t→left≤1000000→St cx w L→
 Rets Tryz.prog QdP [.agg ⟨cs⟩, .int .i64 left] w fun v w'=> v= .bool (t.deepB left)∧St cx w' L:=by
 intro t
 induction t using Ty.ind with
 | h k r l ih=>
   intro cx w L cs left ht h1 hS
   obtain ⟨v,rfl,hl⟩:=Qr ht
   simp only [Ty.kind,Ty.r,Ty.l] at hl ht ⊢
   have hlen:=hl.len
   rw [Ty.deepB]
   all_goals refine lgo tyD Tryz.func211 ?_
   all_goals (refine Zat ?_;intro p2 w1 hS;refine Zbj ?_)
   all_goals (first|(refine Q15 ?_)|(refine Q1c ?_)|(refine Qu rfl rfl (fun hc=> ?_) (fun hc=> ?_)))
   all_goals (refine zn ?_)
   all_goals
    first
    | (refine zct ?_
       all_goals (refine Zas ?_)
       all_goals (refine ⟨_,rfl,?_,hS.sp⟩;rw [if_pos (by omega)];done))
    | (refine zcf ?_
       all_goals refine zsk ?_)
   all_goals (refine Zbs ?_;refine zf0 ?_;refine zl hS ?_;refine zL ?_;refine ZaB ?_)
   refine zoL hS [1,10,11] (fun A LL ρ' w'=>∃(j:Nat),Has ρ' A∧Has ρ' [(12, .int .i64 j)]∧(j≤l.length)∧(Tys.deepB l (left - 1)=Tys.deepB (l.drop j) (left - 1))∧St cx w' (LL)) (fun ρ' _=> (l.length - iv (ρ' 12)).toNat) ?_ ?_
   · exact ⟨0,zh,zh,(by omega),by simp,hS.sp⟩
   rintro ρ w1 ⟨j,hA,hρ,hj,hd,hS⟩;obtain ⟨ρ,rfl⟩:=env2 hA hρ
   all_goals (refine ZaI ?_)
   refine Qq rfl (fun hc=> ?_) (fun hc=> ?_)
   · skip
     all_goals (refine Zbf ?_;refine zi ?_;intro b1 o1 cs1 x1 hat1 hx1 he1;obtain ⟨vl1,rfl,hl1⟩:=Qr he1;refine ZaP ?_;intro p6 w1 hS;refine zsn hS ?_;intro w1 hS;have hS:=hS.ns;refine ZaD ?_;refine zv hS ?_;refine zm ?_;refine zsu ?_)
     all_goals (refine zR2 (c:=ih _ (List.mem_of_getElem? (by assumption)) (by assumption) (by omega) hS) (h:=?_);rintro v1 w1 ⟨rfl,hS⟩;cases hg:x1.deepB (left - 1))
     all_goals (refine Zbm ?_)
     all_goals
      first
      | (refine zcf ?_
         all_goals refine zsk ?_)
      | (refine zct ?_
         all_goals (refine Zas ?_)
         all_goals (first|(refine ⟨_,rfl,?_,hS.sp⟩;rw [if_pos (by omega)];done)|(refine ⟨_,rfl,?_,hS.sp⟩;rw [if_neg (by omega),hd,Qb hx1,Tys.deepB,hg,Bool.false_and];done)))
     all_goals (refine Q10 ?_;refine zad ?_;refine Zad ?_;exact ⟨⟨j+1,zh,zh,(by omega),by rw [hd,Qb hx1,Tys.deepB,hg,Bool.true_and],hS.sp⟩,Qv (by omega)⟩)
   · skip
     all_goals (refine ZbL ?_;(first|(refine ⟨_,rfl,?_,hS.sp⟩;rw [if_pos (by omega)];done)|(refine ⟨_,rfl,?_,hS.sp⟩;rw [if_neg (by omega),hd,Qb hx1,Tys.deepB,hg,Bool.false_and];done)|(refine ⟨_,rfl,?_,hS.sp⟩;rw [if_neg (by omega),hd,List.drop_of_length_le (by omega),Tys.deepB];done)))
theorem wrong_c : ∀ (t:Ty){cx:Cx}{w:World}{L:List Res}{cs:List Value}{regs:Int},tyR.at cx cs t→St cx w L→
 Rets Tryz.prog QbU [.agg ⟨cs⟩, .int .i64 regs] w fun v w'=> v= .int .i64 (t.wrong 8 regs)∧St cx w' L:=by
 intro t
 induction t using Ty.ind with
 | h k r l ih =>
   intro cx w L cs regs ht hS
   obtain ⟨v,rfl,hl⟩:=Qr ht
   simp only [Ty.kind,Ty.r,Ty.l] at hl ht ⊢
   have hlen:=hl.len
   rw [Ty.wrong]
   all_goals refine lgo tyD Tryz.func212 ?_
   all_goals (refine Zat ?_;intro p2 w1 hS;refine Zad ?_)
   refine zML hS [1,2] (fun A LL ρ' w'=> Has ρ' A∧Has ρ' []∧(1≤k∧k≤4∧k≠1∧(k≠3→l.length=0)∧l.length≤8)∧St cx w' (LL)) ?_ ?_
   · skip
     all_goals (refine Zaa ?_;refine zf0 ?_;refine zl hS ?_;refine zn ?_;refine Zby ?_)
     all_goals (first|(refine Ql ?_)|(refine Qo ?_)|(refine Q8 rfl rfl (fun hc=> ?_) (fun hc=> ?_)))
     all_goals (refine Zad ?_)
     all_goals
      first
      | (refine zct ?_
         all_goals (refine Zbs ?_;refine zf0 ?_;refine zl hS ?_)
         all_goals (first|(refine Q1D ?_)|(refine Q1M ?_)|(refine QI rfl rfl (fun hc=> ?_) (fun hc=> ?_)))
         all_goals (refine ZaN ?_;refine Yaj ?_)
         all_goals (first|refine zgn ?_|(refine zgy ?_;(first|(refine Q17 ?_)|(refine Q1a ?_)|(refine Qs rfl rfl (fun hc=> ?_) (fun hc=> ?_)))))
         all_goals (refine ZaO ?_)
         all_goals
          first
          | (refine zct ?_
             all_goals (refine Zas ?_)
             all_goals (refine ⟨_,rfl,?_,hS.sp⟩;(repeat (first|rw [if_pos (by omega)]|rw [if_neg (by omega)]));done))
          | (refine zcf ?_
             all_goals refine zsk ?_)
         all_goals (refine Zas ?_)
         all_goals (first|(refine ⟨_,rfl,?_,hS.sp⟩;(repeat (first|rw [if_pos (by omega)]|rw [if_neg (by omega)]));done)|(refine ⟨_,rfl,?_,hS.sp⟩;((repeat (first|rw [if_pos (by omega)]|rw [if_neg (by omega)]));rw [hd,Qb hx1,Tys.wrong,if_pos (by assumption)]);done)|(refine ⟨_,rfl,?_,hS.sp⟩;((repeat (first|rw [if_pos (by omega)]|rw [if_neg (by omega)]));rw [List.eq_nil_of_length_eq_zero (l:=l) (by omega),Tys.wrong]);done)))
      | (refine zcf ?_
         all_goals (refine Zbs ?_)
         all_goals (first|(refine Ql ?_)|(refine Qo ?_)|(refine Q8 rfl rfl (fun hc=> ?_) (fun hc=> ?_)))
         all_goals (refine Zad ?_)
         all_goals
          first
          | (refine zct ?_
             all_goals refine zsk ?_)
          | (refine zcf ?_
             all_goals (refine Q10 ?_)
             all_goals (first|(refine Ql ?_)|(refine Qo ?_)|(refine Q8 rfl rfl (fun hc=> ?_) (fun hc=> ?_)))
             all_goals (refine zm ?_)
             all_goals refine zn ?_)
         all_goals
          first
          | (refine zct ?_
             all_goals (refine Zaa ?_;refine zf0 ?_;refine zl hS ?_;refine zL ?_)
             all_goals (first|(refine Q17 ?_)|(refine Q1a ?_)|(refine Qs rfl rfl (fun hc=> ?_) (fun hc=> ?_)))
             all_goals (refine zn ?_)
             all_goals
              first
              | (refine zct ?_
                 all_goals (refine Zas ?_)
                 all_goals (refine ⟨_,rfl,?_,hS.sp⟩;(repeat (first|rw [if_pos (by omega)]|rw [if_neg (by omega)]));done))
              | (refine zcf ?_
                 all_goals refine zsk ?_))
          | (refine zcf ?_
             all_goals (refine Zaa ?_)
             all_goals (first|(refine Ql ?_)|(refine Qo ?_)|(refine Q8 rfl rfl (fun hc=> ?_) (fun hc=> ?_)))
             all_goals (refine Zad ?_)
             all_goals
              first
              | (refine zct ?_
                 all_goals (refine Zaa ?_;refine zf0 ?_;refine zl hS ?_;refine zL ?_)
                 all_goals (first|(refine Q17 ?_)|(refine Q1a ?_)|(refine Qs rfl rfl (fun hc=> ?_) (fun hc=> ?_)))
                 all_goals (refine zn ?_)
                 all_goals
                  first
                  | (refine zct ?_
                     all_goals (refine Zas ?_)
                     all_goals (refine ⟨_,rfl,?_,hS.sp⟩;(repeat (first|rw [if_pos (by omega)]|rw [if_neg (by omega)]));done))
                  | (refine zcf ?_
                     all_goals refine zsk ?_))
              | (refine zcf ?_
                 all_goals (refine Zas ?_)
                 all_goals (refine ⟨_,rfl,?_,hS.sp⟩;(repeat (first|rw [if_pos (by omega)]|rw [if_neg (by omega)]));done))))
     all_goals (exact ⟨zh,zh,by omega,hS.sp⟩)
   rintro ρ w1 ⟨hA,hρ,hk,hS⟩;obtain ⟨ρ,rfl⟩:=env2 hA hρ
   all_goals (refine Zbs ?_;refine zf0 ?_;refine zl hS ?_)
   all_goals (first|(refine Q15 ?_)|(refine Q1c ?_)|(refine Qu rfl rfl (fun hc=> ?_) (fun hc=> ?_)))
   all_goals (refine ZaN ?_;refine Yaa ?_)
   all_goals (first|refine zgn ?_|(refine zgy ?_;(first|(refine Q2n ?_)|(refine Q2Z ?_)|(refine Q1r rfl rfl (fun hc=> ?_) (fun hc=> ?_)))))
   all_goals (refine ZaO ?_)
   all_goals
    first
    | (refine zct ?_
       all_goals (refine Zas ?_)
       all_goals (refine ⟨_,rfl,?_,hS.sp⟩;(repeat (first|rw [if_pos (by omega)]|rw [if_neg (by omega)]));done))
    | (refine zcf ?_
       all_goals refine zsk ?_)
   all_goals (refine Zbs ?_;refine zf0 ?_;refine zl hS ?_;refine zL ?_;refine ZaB ?_)
   refine zoL hS [1,44,45] (fun A LL ρ' w'=>∃(j:Nat),Has ρ' A∧Has ρ' [(46, .int .i64 j)]∧(j≤l.length)∧(Tys.wrong 8 l regs=Tys.wrong 8 (l.drop j) regs)∧St cx w' (LL)) (fun ρ' _=> (l.length - iv (ρ' 46)).toNat) ?_ ?_
   · exact ⟨0,zh,zh,(by omega),by simp,hS.sp⟩
   rintro ρ w1 ⟨j,hA,hρ,hj,hd,hS⟩;obtain ⟨ρ,rfl⟩:=env2 hA hρ
   all_goals (refine ZaI ?_)
   refine Qq rfl (fun hc=> ?_) (fun hc=> ?_)
   · skip
     all_goals (refine Zbf ?_;refine zi ?_;intro b1 o1 cs1 x1 hat1 hx1 he1;obtain ⟨vl1,rfl,hl1⟩:=Qr he1;refine ZaP ?_;intro p6 w1 hS;refine zsn hS ?_;intro w1 hS;have hS:=hS.ns;refine ZaD ?_;refine zv hS ?_;refine zm ?_;refine zR2 (c:=ih _ (List.mem_of_getElem? (by assumption)) (by assumption) hS) (h:=?_);rintro v1 w1 ⟨rfl,hS⟩;refine ZaL ?_)
     all_goals (first|(refine Q1D ?_)|(refine Q1M ?_)|(refine QI rfl rfl (fun hc=> ?_) (fun hc=> ?_)))
     all_goals (refine zn ?_)
     all_goals
      first
      | (refine zct ?_
         all_goals (refine Zbq ?_)
         all_goals (first|(refine ⟨_,rfl,?_,hS.sp⟩;(repeat (first|rw [if_pos (by omega)]|rw [if_neg (by omega)]));done)|(refine ⟨_,rfl,?_,hS.sp⟩;((repeat (first|rw [if_pos (by omega)]|rw [if_neg (by omega)]));rw [hd,Qb hx1,Tys.wrong,if_pos (by assumption)]);done)))
      | (refine zcf ?_
         all_goals refine zsk ?_)
     all_goals (refine Q10 ?_;refine zad ?_;refine Zad ?_;exact ⟨⟨j+1,zh,zh,(by omega),by rw [hd,Qb hx1,Tys.wrong,if_neg (by omega)],hS.sp⟩,Qv (by omega)⟩)
   · skip
     all_goals (refine ZbL ?_;(first|(refine ⟨_,rfl,?_,hS.sp⟩;(repeat (first|rw [if_pos (by omega)]|rw [if_neg (by omega)]));done)|(refine ⟨_,rfl,?_,hS.sp⟩;((repeat (first|rw [if_pos (by omega)]|rw [if_neg (by omega)]));rw [hd,Qb hx1,Tys.wrong,if_pos (by assumption)]);done)|(refine ⟨_,rfl,?_,hS.sp⟩;((repeat (first|rw [if_pos (by omega)]|rw [if_neg (by omega)]));rw [List.eq_nil_of_length_eq_zero (l:=l) (by omega),Tys.wrong]);done)|(refine ⟨_,rfl,?_,hS.sp⟩;((repeat (first|rw [if_pos (by omega)]|rw [if_neg (by omega)]));rw [hd,List.drop_of_length_le (by omega),Tys.wrong]);done)))
theorem QcZ {t:Ty}{cx:Cx}{w:World}{L:List Res}{cs:List Value}{regs:Int}(ht:tyR.at cx cs t) (hS:St cx w L):
 Rets Tryz.prog QbV [.agg ⟨cs⟩, .int .i64 regs] w fun v w'=> v= .int .i64 (t.fault regs)∧St cx w' L:=by
 obtain ⟨v,rfl,hl⟩:=Qr ht
 unfold Ty.fault
 all_goals refine lgo tyD Tryz.func159 ?_
 all_goals (refine Zat ?_;intro p2 w1 hS;refine ZaF ?_;refine Zaa ?_;refine zv hS ?_)
 all_goals (refine zR2 (c:=deep_c t ht (by omega) hS) (h:=?_);rintro v1 w1 ⟨rfl,hS⟩;cases hg:t.deepB 4)
 all_goals (refine Zbm ?_)
 all_goals
  first
  | (refine zct ?_
     all_goals (refine Zas ?_)
     all_goals (refine ⟨_,rfl,?_,hS.sp⟩;(rfl);done))
  | (refine zcf ?_
     all_goals refine zsk ?_)
 all_goals (refine Zaa ?_;refine zv hS ?_;refine zm ?_;refine zR2 (c:=wrong_c t ht hS) (h:=?_);rintro v1 w1 ⟨rfl,hS⟩;refine Zap ?_;refine ⟨_,rfl,?_,hS.sp⟩;(rfl);done)
end Go.Proofs.YteflkifmgnpbhaaGreat
namespace Go.Proofs.YteflkifmgnpbhaaGreat
open Go.Lir
set_option maxRecDepth 100000
theorem el_T22:Q1A Tryz.prog 22=some (95,4,80,[(.int .i64 0),(.slice none 0 0),(.slice none 0 0),(.slice none 0 0)]):=by kernel_rfl
theorem u_T22:∃e2,Tryz.prog.underlying 22=some (.slice e2):=⟨95,by kernel_rfl⟩
theorem Q4e:Q1A Tryz.prog 25=some (2,1,8,[(.int .i64 0)]):=by kernel_rfl
theorem Q8U:∃e2,Tryz.prog.underlying 25=some (.slice e2):=⟨2,by kernel_rfl⟩
theorem el_T53:Q1A Tryz.prog 53=some (110,5,72,[(.int .i64 0),(.int .i64 0),(.int .i64 0),(.slice none 0 0),(.slice none 0 0)]):=by kernel_rfl
theorem u_T53:∃e2,Tryz.prog.underlying 53=some (.slice e2):=⟨110,by kernel_rfl⟩
theorem el_T64:Q1A Tryz.prog 64=some (138,4,48,[(.int .i64 0),(.int .i64 0),(.int .i64 0),(.slice none 0 0)]):=by kernel_rfl
theorem u_T64:∃e2,Tryz.prog.underlying 64=some (.slice e2):=⟨138,by kernel_rfl⟩
theorem Q5o:Q1A Tryz.prog 68=some (3,1,8,[(.int .i64 0)]):=by kernel_rfl
theorem Q9F:∃e2,Tryz.prog.underlying 68=some (.slice e2):=⟨3,by kernel_rfl⟩
theorem el_T85:Q1A Tryz.prog 85=some (84,8,96,[(.int .i64 0),(.int .i64 0),(.int .i64 0),(.int .i64 0),(.int .i64 0),(.int .i64 0),(.slice none 0 0),(.slice none 0 0)]):=by kernel_rfl
theorem u_T85:∃e2,Tryz.prog.underlying 85=some (.slice e2):=⟨84,by kernel_rfl⟩
theorem Q6c:Q1A Tryz.prog 86=some (115,3,40,[(.int .i64 0),(.int .i64 0),(.slice none 0 0)]):=by kernel_rfl
theorem QaS:∃e2,Tryz.prog.underlying 86=some (.slice e2):=⟨115,by kernel_rfl⟩
theorem el_T93:Q1A Tryz.prog 93=some (92,12,208,[(.int .i64 0),(.slice none 0 0),(.slice none 0 0),(.int .i64 0),(.int .i64 0),(.int .i64 0),(.slice none 0 0),(.slice none 0 0),(.int .i64 0),(.slice none 0 0),(.slice none 0 0),(.slice none 0 0)]):=by kernel_rfl
theorem u_T93:∃e2,Tryz.prog.underlying 93=some (.slice e2):=⟨92,by kernel_rfl⟩
theorem QcO:Q1A Tryz.prog 146=some (4,1,1,[(.bool false)]):=by kernel_rfl
theorem u_T146:∃e2,Tryz.prog.underlying 146=some (.slice e2):=⟨4,by kernel_rfl⟩
end Go.Proofs.YteflkifmgnpbhaaGreat
namespace Go.Proofs.YteflkifmgnpbhaaGreat
open Go.Lir
set_option maxHeartbeats 1000000
attribute [local irreducible] LC.wp Q0 Qk Qh retQ Qt LO.wp Q4 Calls
set_option linter.unusedSimpArgs false
set_option linter.unusedVariables false
theorem Qdn {l:List Ty}(hlen:l.length≤100000) (ih:∀x∈l,∀{cx:Cx}{w:World}{L:List Res}{cs:List Value},tyR.at cx cs x→St cx w L→Rets Tryz.prog Q7d [.agg ⟨cs⟩] w fun u w'=>∃c' ds,u= .agg ⟨ds⟩∧cx.Le c'∧tyR.at c' ds x∧St c' w' L)
 {cx:Cx}{w:World}{L:List Res}{v:Value}(hl:tyR.sl cx v l) (hS:St cx w L):Rets Tryz.prog Q6d [v] w fun u w'=>∃c',cx.Le c'∧tyR.sl c' u l∧St c' w' L:=by
 all_goals refine lgo tyD Tryz.func109 ?_
 all_goals (refine Zaf ?_;refine ZaQ ?_;refine zL ?_;refine ZaB ?_)
 refine zoL hS [6,7] (fun A LL ρ' w'=>∃(c1:Cx) (j:Nat) (u:Value) (css:List (List Value)),Has ρ' A∧Has ρ' [(3,u),(8, .int .i64 j)]∧(cx.Le c1)∧(j≤l.length)∧(tyR.ls c1 css (l.take j))∧(oneC u=true)∧St c1 w' (sl 115 3 u css::LL)) (fun ρ' _=> (l.length - iv (ρ' 8)).toNat) ?_ ?_
 · exact ⟨cx,0, .slice none 0 0,[],zh,zh,St.refl hS,(by omega),Rep.LR.nil _ _ _,rfl,by have hS:=hS.nil (T:=115) (es:=3);exact hS⟩
 rintro ρ w1 ⟨c1,j,u,css,hA,hρ,hle,hj,hls,hu,hS⟩;obtain ⟨ρ,rfl⟩:=env2 hA hρ;have hl:=Rep.SR.up hl hle
 all_goals (refine ZaI ?_)
 refine Qq rfl (fun hc=> ?_) (fun hc=> ?_)
 · skip
   all_goals (refine Zbf ?_;refine zi ?_;intro b1 o1 cs1 x1 hat1 hx1 he1;obtain ⟨vl1,rfl,hl1⟩:=Qr he1;refine ZaP ?_;intro p5 w1 hS;refine zsn hS ?_;intro w1 hS;have hS:=hS.ns;refine ZaJ ?_;refine zv hS ?_;refine zR1 (c:=ih _ (List.mem_of_getElem? hx1) he1 hS) (h:=?_);rintro v1 w1 ⟨c2,ds,rfl,hle2,hd,hS⟩;obtain ⟨v2,rfl,hv2⟩:=Qr hd;have hls:=Rep.LR.up hls hle2;refine zB1 hS [_,_,_] ?_;intro b1 w1 hS;refine za Q6c QaS hS ?_;intro vp1 w1 css1 hls1 hv1 hS;have hS:=hS.ns;refine Zad ?_;refine Q10 ?_;refine zad ?_;refine Zad ?_;exact ⟨⟨c2,j+1,_,_,zh,zh,hle.trans hle2,(by omega),by rw [Q2H hx1];assumption,by assumption,hS.sp⟩,Qv (by omega)⟩)
 · skip
   all_goals (refine zex ?_;refine Zbq ?_;obtain ⟨c3,hle3,hS,hl3⟩:=St.freezeL (r:=tyR) (l:=l) (T:=115) (es:=3) (v:=u) (css:=css) (L:=L) hS.sp (by rw [List.take_of_length_le (by omega)] at hls;exact hls) rfl (by omega);exact ⟨_,rfl,c3,hle.trans hle3,hl3,hS⟩)
theorem pown_c:∀(t:Ty),t.Short→∀{cx:Cx}{w:World}{L:List Res}{cs:List Value},tyR.at cx cs t→St cx w L→
 Rets Tryz.prog Q7d [.agg ⟨cs⟩] w fun u w'=>∃c' ds,u= .agg ⟨ds⟩∧cx.Le c'∧tyR.at c' ds t∧St c' w' L:=by
 intro t
 induction t using Ty.ind with
 | h k r l ih=>
   intro hs cx w L cs ht hS
   obtain ⟨v,rfl,hl⟩:=Qr ht
   simp only [Ty.kind,Ty.r,Ty.l] at hl ht ⊢
   obtain ⟨hlen,hsub⟩:=hs.parts
   all_goals refine lgo tyD Tryz.func166 ?_
   all_goals (refine Zat ?_;intro p1 w1 hS;refine Qg hS ?_;intro p2 w1 hS;refine ZaD ?_;refine zf0 ?_;refine zl hS ?_;refine zf0 ?_;refine zl hS ?_;refine zb2 [_,_,_] ?_;refine Qg hS ?_;intro p3 w1 hS;refine zsn hS ?_;intro w1 hS;have hS:=hS.ns;refine ZaD ?_;refine zf0 ?_;refine zl hS ?_;refine zR1 (c:=Qdn hlen (fun x hx=> ih x hx (hsub x hx)) hl hS) (h:=?_);rintro v1 w1 ⟨c1,hle,hl1,hS⟩;obtain ⟨a1,n1,rfl⟩:=Rep.SR.shape hl1;refine zf0 ?_;refine zst hS ?_;intro w1 hS;have hS:=hS.ns;refine ZaD ?_;refine zv hS ?_;refine zsn hS ?_;intro w1 hS;have hS:=hS.ns;refine ZaS ?_;refine Q1z vw (Q9 (n:=3) (by kernel_rfl) (by kernel_rfl) (hS.blkAt fd) (by rfl) (by rfl)) ?_;exact ⟨_,rfl,c1,_,rfl,hle,Q2R hl1,hS.sp⟩)
theorem Q4r {l:List Ty}(hlen:l.length≤100000) (hs:∀x∈l,x.Short){cx:Cx}{w:World}{L:List Res}{v:Value}(hl:tyR.sl cx v l) (hS:St cx w L):Rets Tryz.prog Q6d [v] w fun u w'=>∃c',cx.Le c'∧tyR.sl c' u l∧St c' w' L:=
 Qdn hlen (fun x hx=> pown_c x (hs x hx)) hl hS
end Go.Proofs.YteflkifmgnpbhaaGreat
namespace Go.Proofs.YteflkifmgnpbhaaGreat
open Go.Lir
set_option maxHeartbeats 1000000
attribute [local irreducible] LC.wp Q0 Qk Qh retQ Qt LO.wp Q4 Calls
set_option linter.unusedSimpArgs false
set_option linter.unusedVariables false
theorem eqfT_c {l:List Ty}{f:FuncId}(hf:Q3G Tryz.prog f=true){m:List Ty}{cx:Cx}{w:World}{L:List Res}{v v2:Value}
 (hcall:∀x∈l,∀y∈m,∀{w:World}{L:List Res}{cs ds:List Value},tyR.at cx cs x→tyR.at cx ds y→St cx w L→Rets Tryz.prog f [.agg ⟨cs⟩, .agg ⟨ds⟩] w fun u w'=> u= .bool (decide (x=y))∧St cx w' L)
 (hl:tyR.sl cx v l) (hm:tyR.sl cx v2 m) (hS:St cx w L):Rets Tryz.prog Q1h [v,v2, .func (.func f) #[] #[]] w fun u w'=> u= .bool (decide (l=m))∧St cx w' L:=by
 have hlen:=hl.len
 all_goals refine lgo tyD Tryz.func162 ?_
 all_goals (refine ZaQ ?_;refine zL ?_;refine zm ?_;refine zL ?_)
 all_goals (first|(refine Q1D ?_)|(refine Q1M ?_)|(refine QI rfl rfl (fun hc=> ?_) (fun hc=> ?_)))
 all_goals (refine zn ?_)
 all_goals
  first
  | (refine zct ?_
     all_goals (refine Zas ?_)
     all_goals (refine ⟨_,rfl,?_,hS.sp⟩;rw [decide_eq_false];exact fun e=> absurd (congrArg List.length e) (by omega);done))
  | (refine zcf ?_
     all_goals refine zsk ?_)
 all_goals (refine Zak ?_;refine zL ?_;refine ZaB ?_)
 refine zoL hS [1,2,15,16] (fun A LL ρ' w'=>∃(j:Nat),Has ρ' A∧Has ρ' [(17, .int .i64 j)]∧(j≤l.length)∧(l.length=m.length)∧(l=m↔l.drop j=m.drop j)∧St cx w' (LL)) (fun ρ' _=> (l.length - iv (ρ' 17)).toNat) ?_ ?_
 · exact ⟨0,zh,zh,(by omega),(by omega),by simp,hS.sp⟩
 rintro ρ w1 ⟨j,hA,hρ,hj,hlm,hd,hS⟩;obtain ⟨ρ,rfl⟩:=env2 hA hρ
 all_goals (refine ZaI ?_)
 refine Qq rfl (fun hc=> ?_) (fun hc=> ?_)
 · skip
   all_goals (refine Zbp ?_;refine zi ?_;intro b1 o1 cs1 x1 hat1 hx1 he1;obtain ⟨vl1,rfl,hl1⟩:=Qr he1;refine ZaP ?_;intro p8 w1 hS;refine zm ?_;refine zsn hS ?_;intro w1 hS;have hS:=hS.ns;refine Zaz ?_;refine zm ?_;refine zi ?_;intro b2 o2 cs2 x2 hat2 hx2 he2;obtain ⟨vl2,rfl,hl2⟩:=Qr he2;refine ZaP ?_;intro p9 w1 hS;refine zsn hS ?_;intro w1 hS;have hS:=hS.ns;refine Zaz ?_;refine zv hS ?_;refine zv hS ?_)
   all_goals (refine Qf4 rfl hf (by rfl) (hcall _ (List.mem_of_getElem? hx1) _ (List.mem_of_getElem? hx2) he1 he2 hS) ?_;rintro v1 w1 ⟨rfl,hS⟩;(cases hdec:decide (x1=x2));have hg:=of_decide_eq_false hdec;rotate_left;have hg:=of_decide_eq_true hdec;all_goals skip)
   all_goals (refine Zbm ?_)
   all_goals
    first
    | (refine zct ?_
       all_goals (refine Zas ?_)
       all_goals (first|(refine ⟨_,rfl,?_,hS.sp⟩;rw [decide_eq_false];exact fun e=> absurd (congrArg List.length e) (by omega);done)|(refine ⟨_,rfl,?_,hS.sp⟩;rw [decide_eq_false];rw [hd,Qb hx1,Qb hx2];simp [hg];done)))
    | (refine zcf ?_
       all_goals refine zsk ?_)
   all_goals (refine Q10 ?_;refine zad ?_;refine Zad ?_;exact ⟨⟨j+1,zh,zh,(by omega),(by omega),by rw [hd,Qb hx1,Qb hx2,hg];simp,hS.sp⟩,Qv (by omega)⟩)
 · skip
   all_goals (refine ZbL ?_;(first|(refine ⟨_,rfl,?_,hS.sp⟩;rw [decide_eq_false];exact fun e=> absurd (congrArg List.length e) (by omega);done)|(refine ⟨_,rfl,?_,hS.sp⟩;rw [decide_eq_false];rw [hd,Qb hx1,Qb hx2];simp [hg];done)|(refine ⟨_,rfl,?_,hS.sp⟩;rw [decide_eq_true];rw [hd,List.drop_of_length_le (by omega),List.drop_of_length_le (by omega)];done)))
theorem Q85:∀(t u:Ty){cx:Cx}{w:World}{L:List Res}{cs ds:List Value},tyR.at cx cs t→tyR.at cx ds u→St cx w L→
 Rets Tryz.prog QdQ [.agg ⟨cs⟩, .agg ⟨ds⟩] w fun v w'=> v= .bool (decide (t=u))∧St cx w' L:=by
 intro t
 induction t using Ty.ind with
 | h k r l ih=>
   rintro ⟨k2,r2,m⟩ cx w L cs ds ht hu hS
   obtain ⟨v,rfl,hl⟩:=Qr ht
   obtain ⟨v2,rfl,hm⟩:=Qr hu
   simp only [Ty.kind,Ty.r,Ty.l,Ty.mk.injEq] at hl hm ht hu ⊢
   all_goals refine lgo tyD Tryz.func163 ?_
   all_goals (refine Zat ?_;intro p2 w1 hS;refine zb hS ?_;intro p3 w1 hS;refine Zad ?_;refine Zaa ?_;refine zf0 ?_;refine zl hS ?_;refine zf0 ?_;refine zl hS ?_)
   all_goals (first|(refine Ql ?_)|(refine Qo ?_)|(refine Q8 rfl rfl (fun hc=> ?_) (fun hc=> ?_)))
   all_goals (refine ZaN ?_;refine Zan ?_)
   all_goals (first|refine zgn ?_|(refine zgy ?_;(first|(refine Ql ?_)|(refine Qo ?_)|(refine Q8 rfl rfl (fun hc=> ?_) (fun hc=> ?_)))))
   all_goals (refine Yae ?_;refine ZaN ?_;refine Zan ?_;(first|refine zgn ?_|(refine zgy ?_;refine zR3 (c:=eqfT_c (by kernel_rfl) (fun x hx y _ {_ _ _ _} h1 h2 h3=> ih x hx y h1 h2 h3) hl hm hS) (h:=?_);rintro v1 w1 ⟨rfl,hS⟩));refine Yae ?_;refine Zap ?_;refine ⟨_,rfl,?_,hS.sp⟩;(simp [*]);done)
end Go.Proofs.YteflkifmgnpbhaaGreat
namespace Go.Proofs.YteflkifmgnpbhaaGreat
open Go.Lir
set_option maxHeartbeats 1000000
attribute [local irreducible] LC.wp Q0 Qk Qh retQ Qt LO.wp Q4 Calls
set_option linter.unusedSimpArgs false
set_option linter.unusedVariables false
theorem Q5Q {l:List Int}(hb:l.length≤1000000){cx:Cx}{w:World}{L:List Res}{v:Value}(hl:intR.sl cx v l) (hS:St cx w L):Rets Tryz.prog Q56 [v] w fun u w'=>∃c',cx.Le c'∧intR.sl c' u l∧St c' w' L:=by
 obtain ⟨a,c,hv⟩:=Rep.SR.shape hl
 cases a with
 | none=>
   have hl0:=Rep.SR.nil_of hl hv
   subst hl0
   subst hv
   all_goals refine lgo tyD Tryz.func111 ?_
   all_goals (refine ZaQ ?_;refine Q3u (e:=3) (by kernel_rfl) rfl rfl ?_;refine zn ?_)
   all_goals
    first
    | (refine zct ?_
       all_goals (refine Zas ?_)
       all_goals (exact ⟨_,rfl,cx,St.refl hS,Rep.SR.nil _ _ _,hS⟩))
   all_goals (refine Zaa ?_; fail "no law for buildSlice"; refine zm ?_; refine za Q5o Q9F hS ?_; intro vp1 w1 css1 hls1 hv1 hS; have hS := hS.ns; refine Zap ?_; exact ⟨_, rfl, cx, St.refl hS, Rep.SR.nil _ _ _, hS⟩)
 | some a=>
   have hn:intR.ls cx [] []:=Rep.LR.nil _ _ _
   all_goals refine lgo tyD Tryz.func111 ?_
   all_goals (refine ZaQ ?_;refine Q3u (e:=3) (by kernel_rfl) hv rfl ?_;refine zn ?_)
   all_goals refine zcf ?_
   all_goals (refine zsk ?_;refine Zaa ?_;refine Q7T Q5o ?_;intro v1 w1 hf1 hs1 hz1;have hS:=hS.new (r:=sl 3 1 v1 []) hs1 hf1 (fun b hb=> Nat.le_of_eq hb.symm);refine zm ?_;(first|(refine za Q5o Q9F hS ?_;intro vp1 w1 css1 hls1 hv1 hS;have hS:=hS.ns)|(refine zak Q5o Q9F hS ?_;intro vp1 w1 css1 hls1 hv1 hS;have hS:=hS.ns));refine Zap ?_;obtain ⟨c3,hle3,hS,hl3⟩:=St.freezeL (r:=intR) (l:=l) (T:=3) (es:=1) (L:=L) hS.sp hls1 rfl (by omega);exact ⟨_,rfl,c3,hle3,hl3,hS⟩)
theorem Qdm {x:To}(hb1:x.regs.length≤1000000) (hb2:x.args.length≤1000000){cx:Cx}{w:World}{L:List Res}{cs:List Value}(hx:toR.at cx cs x) (hS:St cx w L):Rets Tryz.prog Qep [.agg ⟨cs⟩] w fun u w'=>∃c' ds,u= .agg ⟨ds⟩∧cx.Le c'∧toR.at c' ds x∧St c' w' L:=by
 obtain ⟨v1,v2,rfl,h1,h2⟩:=Q6q hx
 all_goals refine lgo tyD Tryz.func110 ?_
 all_goals (refine Zat ?_;intro p1 w1 hS;refine Qg hS ?_;intro p2 w1 hS;refine Zal ?_;refine zC [(0,none),(1,none),(2,none),(3,none),(5,none),(6,none),(4,some (some [1,6])),(7,some (some [1])),(8,none),(9,some none)] ?_;have hS:=hS.drew;refine s_cq ?_;refine zf0 ?_;refine Zab ?_;refine zl hS ?_;refine Zab ?_;refine zf0 ?_;refine Zab ?_;refine zl hS ?_;refine Zab ?_;refine zf0 ?_;refine Zab ?_;refine zl hS ?_;refine Zaj ?_;refine zR1 (c:=Q5Q hb1 h1 hS) (h:=?_);rintro v1 w1 ⟨c1,hle,hl1,hS⟩;obtain ⟨a1,n1,rfl⟩:=Rep.SR.shape hl1;have h2:=Rep.SR.up h2 hle;refine Zay ?_;refine zR1 (c:=Q5Q hb2 h2 hS) (h:=?_);rintro v1 w1 ⟨c2,hle2,hl2,hS⟩;obtain ⟨a2,n2,rfl⟩:=Rep.SR.shape hl2;have hl1:=Rep.SR.up hl1 hle2;refine ZaH ?_;refine zb3 [_,_,_] ?_;refine Zau ?_;refine zsn hS ?_;intro w1 hS;have hS:=hS.ns;refine Zao ?_;refine zr ?_)
 all_goals (refine Q1z vw (Q9 (n:=3) (by kernel_rfl) (by kernel_rfl) (hS.blkAt fd) (by rfl) (by rfl)) ?_;exact ⟨_,rfl,c2,_,rfl,hle.trans hle2,⟨_,_,rfl,hl1,hl2⟩,hS.sp⟩)
end Go.Proofs.YteflkifmgnpbhaaGreat
namespace Go.Proofs.YteflkifmgnpbhaaGreat
open Go.Lir
set_option maxHeartbeats 1000000
attribute [local irreducible] LC.wp Q0 Qk Qh retQ Qt LO.wp Q4 Calls
set_option linter.unusedSimpArgs false
set_option linter.unusedVariables false
end Go.Proofs.YteflkifmgnpbhaaGreat
namespace Go.Proofs.YteflkifmgnpbhaaGreat
open Go.Lir
set_option maxHeartbeats 1000000
attribute [local irreducible] LC.wp Q0 Qk Qh retQ Qt LO.wp Q4 Calls
set_option linter.unusedSimpArgs false
set_option linter.unusedVariables false
variable {cx:Cx}{w:World}{L:List Res}{i:Nat}
abbrev jdg (b:Nat) (vf:Value) (g:Flt) (at':Int):Res:=blk b 173 [vf, .int .i64 g.1, .int .i64 g.2, .int .i64 at']
theorem Q26 {is:Bool}{c:Int}{vf:Value}{g:Flt}{at':Int}{b:Nat}(hc0:is=true→c≠0) (hS:St cx w L) (hi:nth L i=some (jdg b vf g at')):
 Rets Tryz.prog Q8M [.pointer (some ⟨b,0,none⟩), .bool is, .int .i64 c] w fun u w'=> u= .tuple #[]∧St cx w' (L.set i (jdg b vf (orF g (mkF (if is=true then c else 0) at')) at')):=by
 have hS:=hS.out hi
 cases is with
 | false=>
   have e:orF g (mkF (if false=true then c else 0) at')=g:=Qe5 rfl
   rw [e]
   all_goals refine lgo tyD Tryz.func103 ?_
   all_goals (refine ZaX ?_;refine zgn ?_;refine zgn ?_;refine zgn ?_;refine zgn ?_;refine zgn ?_)
   all_goals (refine zgn ?_)
   all_goals (refine ZaO ?_)
   all_goals
    first
    | (refine zct ?_
       all_goals (refine Zae ?_;refine zm ?_;refine ZaA ?_;refine zf0 ?_;refine zl hS ?_;refine zb2 [_,_] ?_;refine znc ?_;refine zf0 ?_;refine zsn hS ?_;intro w1 hS;have hS:=hS.ns)
       all_goals refine zn ?_)
    | (refine zcf ?_
       all_goals refine zsk ?_)
   all_goals (refine Qz ?_;exact ⟨_,rfl,rfl,St.back hS hi⟩)
 | true=>
   have hc0:=hc0 rfl
   by_cases h0:g.1=0
   · have e:orF g (mkF (if true=true then c else 0) at')=(c,at'):=by rw [if_pos rfl,mkF_c hc0];unfold orF;rw [if_pos ⟨h0,hc0⟩]
     rw [e]
     all_goals refine lgo tyD Tryz.func103 ?_
     all_goals (refine Zac ?_;refine Zam ?_;refine ZaV ?_;refine Yah ?_;refine Yac ?_)
     all_goals (refine Yaz ?_)
     all_goals (refine zpt ?_;refine zn ?_)
     all_goals refine zct ?_
     all_goals (refine Zae ?_;refine zm ?_;refine ZaA ?_;refine zf0 ?_;refine zl hS ?_;refine zb2 [_,_] ?_;refine znc ?_;refine zf0 ?_;(first|(refine zsn hS ?_;intro w1 hS;have hS:=hS.ns)|(refine zsm hS ?_;intro w1 hS;have hS:=hS.ns));refine Zbc ?_;exact ⟨_,rfl,rfl,St.back hS hi⟩)
   · rw [Qcn h0]
     all_goals refine lgo tyD Tryz.func103 ?_
     all_goals (refine Zac ?_;refine Zam ?_;refine ZaV ?_;refine Yah ?_;refine Yac ?_)
     all_goals (refine Ybb ?_)
     all_goals (refine zpt ?_;refine zn ?_)
     all_goals refine zcf ?_
     all_goals (refine zsk ?_;refine Qz ?_;exact ⟨_,rfl,rfl,St.back hS hi⟩)
theorem uindex_c {s:List UInt8}{c:Nat}{v:Value}(hK:u8R.sl cx v s) (hS:St cx w L):Rets Tryz.prog Q4f [v, .int .u8 c] w fun u w'=>∃r:Int,u= .int .i64 r∧(0≤r↔(s.any fun b=> decide (b.toNat=c))=true)∧St cx w' L:=by
 have hlen:=hK.len
 all_goals refine lgo tyD Tryz.func265 ?_
 all_goals (refine ZaQ ?_;refine zL ?_;refine ZaB ?_)
 refine zoL hS [0,1,7] (fun A LL ρ' w'=>∃(j:Nat),Has ρ' A∧Has ρ' [(8, .int .i64 j)]∧(j≤s.length)∧((s.any fun b=> decide (b.toNat=c))=((s.drop j).any fun b=> decide (b.toNat=c)))∧St cx w' (LL)) (fun ρ' _=> (s.length - iv (ρ' 8)).toNat) ?_ ?_
 · exact ⟨0,zh,zh,(by omega),by simp,hS.sp⟩
 rintro ρ w1 ⟨j,hA,hρ,hj,hd,hS⟩;obtain ⟨ρ,rfl⟩:=env2 hA hρ
 all_goals (refine ZaI ?_)
 refine Qq rfl (fun hc=> ?_) (fun hc=> ?_)
 · skip
   all_goals (refine Zbp ?_;refine ZaL ?_;refine ZaT ?_;refine zi ?_;intro b1 o1 cs1 x1 hat1 hx1 he1;(first|(obtain rfl:=QY he1)|(obtain rfl:=u8R_out he1));refine Yat ?_)
   all_goals (first|(refine Ql ?_)|(refine Qo ?_)|(refine Q8 rfl rfl (fun hc=> ?_) (fun hc=> ?_)))
   all_goals (refine zn ?_)
   all_goals
    first
    | (refine zct ?_
       all_goals (refine Zbq ?_)
       all_goals (exact ⟨_,rfl,j,rfl,by rw [hd,Qb hx1,List.any_cons,decide_eq_true (by omega),Bool.true_or];simp,hS.sp⟩))
    | (refine zcf ?_
       all_goals refine zsk ?_)
   all_goals (refine Q10 ?_;refine zad ?_;refine Zad ?_;exact ⟨⟨j+1,zh,zh,(by omega),by rw [hd,Qb hx1,List.any_cons,decide_eq_false (by omega),Bool.false_or],hS.sp⟩,Qv (by omega)⟩)
 · skip
   all_goals (refine ZbL ?_;(first|(exact ⟨_,rfl,j,rfl,by rw [hd,Qb hx1,List.any_cons,decide_eq_true (by omega),Bool.true_or];simp,hS.sp⟩)|(exact ⟨_,rfl, -1,rfl,by rw [hd,List.drop_of_length_le (by omega)];simp,hS.sp⟩)))
theorem QbS {s:List UInt8}{c:Nat}{v:Value}(hK:u8R.sl cx v s) (hS:St cx w L):Rets Tryz.prog Q3t [v, .int .u8 c] w fun u w'=> u= .bool (s.any fun b=> decide (b.toNat=c))∧St cx w' L:=by
 all_goals refine lgo tyD Tryz.func252 ?_
 all_goals (refine Zaf ?_;refine ZaX ?_;refine zR2 (c:=uindex_c hK hS) (h:=?_);rintro v1 w1 ⟨r,rfl,hr,hS⟩)
 all_goals (first|(refine Q2n ?_)|(refine Q2Z ?_)|(refine Q1r rfl rfl (fun hc=> ?_) (fun hc=> ?_)))
 all_goals (refine Zap ?_)
 all_goals (refine ⟨_,rfl,?_,hS.sp⟩;(cases hb:(s.any fun b=> decide (b.toNat=c)) <;> simp_all);done)
theorem Q7I {s:ByteArray}{c:Nat}(hs:s.size≤1000000) (hS:St cx w L):Rets Tryz.prog Qgn [.string s, .int .u8 c] w fun u w'=> u= .bool (Q1b s c)∧St cx w' L:=by
 have hle:=St.refl hS
 all_goals refine lgo tyD Tryz.func214 ?_
 all_goals (refine ZbA ?_;refine s_bytes (e:=5) (by kernel_rfl) (by kernel_rfl) (by kernel_rfl) hS vw ?_;intro v1 w1 hS;obtain ⟨c1,hle2,hS,hk1⟩:=St.freezeL (r:=u8R) hS (u8R_ls _) rfl (by rw [Array.length_toList];show s.size≤140737488355328;omega);refine zm ?_;refine zR2 (c:=QbS hk1 hS) (h:=?_);rintro v1 w1 ⟨rfl,hS⟩;refine Zap ?_;exact ⟨_,rfl,rfl,St.weak hS.sp hle2⟩)
theorem has_c {op:Int}(hS:St cx w L):Rets Tryz.prog code_has [.int .i64 op] w fun u w'=> u= .string (hasF op)∧St cx w' L:=by
 by_cases hb:op < 1∨14 < op
 · have e:hasF op=⟨#[]⟩:=by unfold hasF;rw [if_pos hb]
   rw [e]
   all_goals refine lgo tyD Tryz.func213 ?_
   all_goals (refine ZaQ ?_)
   all_goals (first|(refine Q15 ?_)|(refine Q1c ?_)|(refine Qu rfl rfl (fun hc=> ?_) (fun hc=> ?_)))
   all_goals (refine Zam ?_)
   all_goals (refine Yax ?_)
   all_goals (refine ZaO ?_)
   all_goals refine zct ?_
   all_goals (refine Zas ?_;refine ⟨_,rfl,?_,hS.sp⟩;(rfl);done)
 · have hu:(hasTab.map Value.string)[op.toNat]?=some (.string (hasF op)):=by
    rcases op_cases (op:=op) (by omega) (by omega) with rfl|rfl|rfl|rfl|rfl|rfl|rfl|rfl|rfl|rfl|rfl|rfl|rfl|rfl <;> rfl
   generalize hasF op=s at hu ⊢
   all_goals refine lgo tyD Tryz.func213 ?_
   all_goals (refine ZaQ ?_)
   all_goals (refine Yau ?_)
   all_goals (refine Zam ?_)
   all_goals (refine Yao ?_)
   all_goals (refine ZaO ?_)
   all_goals refine zcf ?_
   all_goals (refine zsk ?_;refine Zaa ?_;refine Qfd (cs:=[_,_,_,_,_,_,_,_,_,_,_,_,_,_,_]) vw vw vw vw vw vw vw vw vw vw vw vw vw vw vw (by rfl) ?_;refine zm ?_;refine s_idxv (n:=15) (e:=9) (by kernel_rfl) (by kernel_rfl) (by kernel_rfl) vw vw (by omega) (by omega) hu ?_;refine Zap ?_;refine ⟨_,rfl,?_,hS.sp⟩;(rfl);done)
theorem Qg9 (op:Int):(hasF op).size≤1000000:=by
 by_cases hb:op < 1∨14 < op
 · unfold hasF;rw [if_pos hb];decide
 · rcases op_cases (op:=op) (by omega) (by omega) with rfl|rfl|rfl|rfl|rfl|rfl|rfl|rfl|rfl|rfl|rfl|rfl|rfl|rfl <;> decide
theorem ins_end {g:Flt}{at':Int}{n:Nat}{x:Ins}{q:Bool}{c3:Int}(hq:q=true↔(((((((Q1b (hasF x.op) 97=false∧x.a≠0)∨(Q1b (hasF x.op) 98=false∧x.b≠0))∨(Q1b (hasF x.op) 99=false∧x.c≠0))∨(Q1b (hasF x.op) 107=false∧x.k≠0))∨(Q1b (hasF x.op) 110=false∧x.n≠0))∨(Q1b (hasF x.op) 103=false∧0 < x.regs.length))∨(Q1b (hasF x.op) 114=false∧0 < x.args.length))) (h3:c3=Q1k n x):
 orF (orF (orF g (mkF (if x.op < 1∨14 < x.op then 3 else 0) at')) (mkF (if q=true then 4 else 0) at')) (mkF c3 at')=orF g (mkF (QC n x) at'):=by
 rw [Q2q,Q2q]
 congr 2
 subst h3
 unfold QC
 by_cases hb:x.op < 1∨14 < x.op
 · rw [if_pos hb,if_pos hb];rfl
 · rw [if_neg hb,if_neg hb]
   obtain ⟨h1,h2,h3,h4,h5,h6,h7⟩:=with_all x.op hb
   rw [h1,h2,h3,h4,h5,h6,h7] at hq
   simp only [or_assoc] at hq
   by_cases ho:x.odd
   · rw [if_pos ho,if_pos (hq.2 ho)];rfl
   · rw [if_neg ho,if_neg fun h=> ho (hq.1 h)];rfl
theorem Q6B {a b:Int}(h:a≠0):orC a b=a:=if_pos h
theorem Q5w (b:Int):orC 0 b=b:=rfl
section
attribute [local irreducible] orF mkF orC Q1k QC Q1K Q1I
set_option maxHeartbeats 1000000 in
theorem ins_c {x :Ins}{n:List Fun}{vf:Value}{g:Flt}{at':Int}{b:Nat}{cs:List Value}(hx:insR.at cx cs x) (hf:funcR.sl cx vf n) (hS:St cx w L) (hi:nth L i=some (jdg b vf g at')):
 Rets Tryz.prog Q98 [.pointer (some ⟨b,0,none⟩), .agg ⟨cs⟩] w fun u w'=> u= .tuple #[]∧St cx w' (L.set i (jdg b vf (orF g (mkF (QC n.length x) at')) at')):=by
 have hS:=hS.out hi
 obtain ⟨vr,va,rfl,hr,ha⟩:=QZ hx
 have hlr:=hr.len
 have hla:=ha.len
 have hln:=hf.len
 have hsz:=Qg9 x.op
 all_goals refine lgo tyD Tryz.func164 ?_
 all_goals (refine Zat ?_;intro p3 w1 hS;refine zn ?_)
 refine zM [0,3] (fun A ρ' w'=> Has ρ' A∧Has ρ' []∧St cx w' (blk p3 84 [.int .i64 x.op, .int .i64 x.a, .int .i64 x.b, .int .i64 x.c, .int .i64 x.k, .int .i64 x.n,vr,va]::jdg b vf (orF g (mkF (if x.op < 1∨14 < x.op then 3 else 0) at')) at'::L.eraseIdx i)) ?_ ?_
 · skip
   all_goals (refine Zae ?_;refine zf0 ?_;refine zl hS ?_)
   all_goals (first|(refine Q15 ?_)|(refine Q1c ?_)|(refine Qu rfl rfl (fun hc=> ?_) (fun hc=> ?_)))
   all_goals (refine ZaN ?_)
   all_goals (first|refine zgn ?_|(refine zgy ?_;(first|(refine Q17 ?_)|(refine Q1a ?_)|(refine Qs rfl rfl (fun hc=> ?_) (fun hc=> ?_)))))
   all_goals (refine Yae ?_;refine zR3 (c:=Q26 (by intro _;decide) hS fd) (h:=?_);rintro v1 w1 ⟨rfl,hS⟩;simp only [List.set_cons_zero,List.set_cons_succ,if_true,Bool.false_eq_true,if_false] at hS;refine zn ?_;exact ⟨zh,zh,by first|(rw [if_pos (by omega)];exact hS.sp)|(rw [if_neg (by omega)];exact hS.sp)⟩)
 rintro ρ w1 ⟨hA,hρ,hS⟩;obtain ⟨ρ,rfl⟩:=env2 hA hρ
 all_goals (refine Zaa ?_;refine zf0 ?_;refine zl hS ?_;refine zR1 (c:=has_c hS) (h:=?_);rintro v1 w1 ⟨rfl,hS⟩;refine Zad ?_;generalize hh:hasF x.op=h at*;refine Zaa ?_)
 refine zKL hS 9 [0,3,4] (fun A LL ρ' w'=>∃(q1:Bool),Has ρ' A∧Has ρ' [(18, .pointer (some ⟨b,0,none⟩)),(26, .bool q1)]∧(q1=true↔(Q1b h 97=false∧x.a≠0))∧St cx w' (LL)) ?_ ?_
 · skip
   all_goals (refine ZaT ?_;refine zR2 (c:=Q7I hsz hS) (h:=?_);rintro v1 w1 ⟨rfl,hS⟩)
   all_goals (cases ha1:Q1b h 97)
   all_goals (refine znt ?_;refine ZaN ?_)
   all_goals (first|refine zgn ?_|(refine zgy ?_;(first|(refine Q1D ?_)|(refine Q1M ?_)|(refine QI rfl rfl (fun hc=> ?_) (fun hc=> ?_)))))
   all_goals (refine Yae ?_;refine ZaM ?_)
   all_goals (first|(exact ⟨_,zh,zh,by exact ⟨fun _=> ⟨(by first|rfl|assumption),by omega⟩,fun _=> rfl⟩,hS.sp⟩)|(exact ⟨_,zh,zh,by exact ⟨fun h=> Bool.noConfusion h,fun h=> by obtain ⟨h1,h2⟩:=h;first|(exfalso;omega)|(simp_all;done)⟩,hS.sp⟩))
 rintro ρ w1 ⟨q1,hA,hρ,hq1,hS⟩;obtain ⟨ρ,rfl⟩:=env2 hA hρ
 refine zKL hS 10 [0,3,4,18] (fun A LL ρ' w'=>∃(q2:Bool),Has ρ' A∧Has ρ' [(36, .bool q2)]∧(q2=true↔((Q1b h 97=false∧x.a≠0)∨(Q1b h 98=false∧x.b≠0)))∧St cx w' (LL)) ?_ ?_
 · skip
   all_goals (cases q1)
   all_goals (refine Zam ?_;(first|refine zgn ?_|(refine zgy ?_;refine zR2 (c:=Q7I hsz hS) (h:=?_);rintro v1 w1 ⟨rfl,hS⟩)))
   all_goals (cases ha2:Q1b h 98)
   all_goals (refine Yak ?_;refine ZbM ?_)
   all_goals (first|refine zgn ?_|(refine zgy ?_;(first|(refine Q1D ?_)|(refine Q1M ?_)|(refine QI rfl rfl (fun hc=> ?_) (fun hc=> ?_)))))
   all_goals (refine Yal ?_;refine Yae ?_;refine ZaM ?_)
   all_goals (first|(exact ⟨_,zh,zh,by exact ⟨fun _=> .inl (hq1.1 rfl),fun _=> rfl⟩,hS.sp⟩)|(exact ⟨_,zh,zh,by exact ⟨fun _=> .inr ⟨(by first|rfl|assumption),by omega⟩,fun _=> rfl⟩,hS.sp⟩)|(exact ⟨_,zh,zh,by exact ⟨fun h=> Bool.noConfusion h,fun h=> h.elim (fun h=> hq1.2 h) (fun h=> by obtain ⟨h1,h2⟩:=h;first|(exfalso;omega)|(simp_all;done))⟩,hS.sp⟩))
 rintro ρ w1 ⟨q2,hA,hρ,hq2,hS⟩;obtain ⟨ρ,rfl⟩:=env2 hA hρ
 refine zKL hS 10 [0,3,4,18] (fun A LL ρ' w'=>∃(q3:Bool),Has ρ' A∧Has ρ' [(46, .bool q3)]∧(q3=true↔(((Q1b h 97=false∧x.a≠0)∨(Q1b h 98=false∧x.b≠0))∨(Q1b h 99=false∧x.c≠0)))∧St cx w' (LL)) ?_ ?_
 · skip
   all_goals (cases q2)
   all_goals (refine Zam ?_;(first|refine zgn ?_|(refine zgy ?_;refine zR2 (c:=Q7I hsz hS) (h:=?_);rintro v1 w1 ⟨rfl,hS⟩)))
   all_goals (cases ha3:Q1b h 99)
   all_goals (refine Yak ?_;refine ZbM ?_)
   all_goals (first|refine zgn ?_|(refine zgy ?_;(first|(refine Q1D ?_)|(refine Q1M ?_)|(refine QI rfl rfl (fun hc=> ?_) (fun hc=> ?_)))))
   all_goals (refine Yal ?_;refine Yae ?_;refine ZaM ?_)
   all_goals (first|(exact ⟨_,zh,zh,by exact ⟨fun _=> .inl (hq2.1 rfl),fun _=> rfl⟩,hS.sp⟩)|(exact ⟨_,zh,zh,by exact ⟨fun _=> .inr ⟨(by first|rfl|assumption),by omega⟩,fun _=> rfl⟩,hS.sp⟩)|(exact ⟨_,zh,zh,by exact ⟨fun h=> Bool.noConfusion h,fun h=> h.elim (fun h=> hq2.2 h) (fun h=> by obtain ⟨h1,h2⟩:=h;first|(exfalso;omega)|(simp_all;done))⟩,hS.sp⟩))
 rintro ρ w1 ⟨q3,hA,hρ,hq3,hS⟩;obtain ⟨ρ,rfl⟩:=env2 hA hρ
 refine zKL hS 10 [0,3,4,18] (fun A LL ρ' w'=>∃(q4:Bool),Has ρ' A∧Has ρ' [(56, .bool q4)]∧(q4=true↔((((Q1b h 97=false∧x.a≠0)∨(Q1b h 98=false∧x.b≠0))∨(Q1b h 99=false∧x.c≠0))∨(Q1b h 107=false∧x.k≠0)))∧St cx w' (LL)) ?_ ?_
 · skip
   all_goals (cases q3)
   all_goals (refine Zam ?_;(first|refine zgn ?_|(refine zgy ?_;refine zR2 (c:=Q7I hsz hS) (h:=?_);rintro v1 w1 ⟨rfl,hS⟩)))
   all_goals (cases ha4:Q1b h 107)
   all_goals (refine Yak ?_;refine ZbM ?_)
   all_goals (first|refine zgn ?_|(refine zgy ?_;(first|(refine Q1D ?_)|(refine Q1M ?_)|(refine QI rfl rfl (fun hc=> ?_) (fun hc=> ?_)))))
   all_goals (refine Yal ?_;refine Yae ?_;refine ZaM ?_)
   all_goals (first|(exact ⟨_,zh,zh,by exact ⟨fun _=> .inl (hq3.1 rfl),fun _=> rfl⟩,hS.sp⟩)|(exact ⟨_,zh,zh,by exact ⟨fun _=> .inr ⟨(by first|rfl|assumption),by omega⟩,fun _=> rfl⟩,hS.sp⟩)|(exact ⟨_,zh,zh,by exact ⟨fun h=> Bool.noConfusion h,fun h=> h.elim (fun h=> hq3.2 h) (fun h=> by obtain ⟨h1,h2⟩:=h;first|(exfalso;omega)|(simp_all;done))⟩,hS.sp⟩))
 rintro ρ w1 ⟨q4,hA,hρ,hq4,hS⟩;obtain ⟨ρ,rfl⟩:=env2 hA hρ
 refine zKL hS 10 [0,3,4,18] (fun A LL ρ' w'=>∃(q5:Bool),Has ρ' A∧Has ρ' [(66, .bool q5)]∧(q5=true↔(((((Q1b h 97=false∧x.a≠0)∨(Q1b h 98=false∧x.b≠0))∨(Q1b h 99=false∧x.c≠0))∨(Q1b h 107=false∧x.k≠0))∨(Q1b h 110=false∧x.n≠0)))∧St cx w' (LL)) ?_ ?_
 · skip
   all_goals (cases q4)
   all_goals (refine Zam ?_;(first|refine zgn ?_|(refine zgy ?_;refine zR2 (c:=Q7I hsz hS) (h:=?_);rintro v1 w1 ⟨rfl,hS⟩)))
   all_goals (cases ha5:Q1b h 110)
   all_goals (refine Yak ?_;refine ZbM ?_)
   all_goals (first|refine zgn ?_|(refine zgy ?_;(first|(refine Q1D ?_)|(refine Q1M ?_)|(refine QI rfl rfl (fun hc=> ?_) (fun hc=> ?_)))))
   all_goals (refine Yal ?_;refine Yae ?_;refine ZaM ?_)
   all_goals (first|(exact ⟨_,zh,zh,by exact ⟨fun _=> .inl (hq4.1 rfl),fun _=> rfl⟩,hS.sp⟩)|(exact ⟨_,zh,zh,by exact ⟨fun _=> .inr ⟨(by first|rfl|assumption),by omega⟩,fun _=> rfl⟩,hS.sp⟩)|(exact ⟨_,zh,zh,by exact ⟨fun h=> Bool.noConfusion h,fun h=> h.elim (fun h=> hq4.2 h) (fun h=> by obtain ⟨h1,h2⟩:=h;first|(exfalso;omega)|(simp_all;done))⟩,hS.sp⟩))
 rintro ρ w1 ⟨q5,hA,hρ,hq5,hS⟩;obtain ⟨ρ,rfl⟩:=env2 hA hρ
 refine zKL hS 11 [0,3,4,18] (fun A LL ρ' w'=>∃(q6:Bool),Has ρ' A∧Has ρ' [(77, .bool q6)]∧(q6=true↔((((((Q1b h 97=false∧x.a≠0)∨(Q1b h 98=false∧x.b≠0))∨(Q1b h 99=false∧x.c≠0))∨(Q1b h 107=false∧x.k≠0))∨(Q1b h 110=false∧x.n≠0))∨(Q1b h 103=false∧0 < x.regs.length)))∧St cx w' (LL)) ?_ ?_
 · skip
   all_goals (cases q5)
   all_goals (refine Zam ?_;(first|refine zgn ?_|(refine zgy ?_;refine zR2 (c:=Q7I hsz hS) (h:=?_);rintro v1 w1 ⟨rfl,hS⟩)))
   all_goals (cases ha6:Q1b h 103)
   all_goals (refine Yak ?_;refine ZbM ?_;refine Yaj ?_)
   all_goals (first|refine zgn ?_|(refine zgy ?_;(first|(refine Q17 ?_)|(refine Q1a ?_)|(refine Qs rfl rfl (fun hc=> ?_) (fun hc=> ?_)))))
   all_goals (refine Yal ?_;refine Yae ?_;refine ZaM ?_)
   all_goals (first|(exact ⟨_,zh,zh,by exact ⟨fun _=> .inl (hq5.1 rfl),fun _=> rfl⟩,hS.sp⟩)|(exact ⟨_,zh,zh,by exact ⟨fun _=> .inr ⟨(by first|rfl|assumption),by omega⟩,fun _=> rfl⟩,hS.sp⟩)|(exact ⟨_,zh,zh,by exact ⟨fun h=> Bool.noConfusion h,fun h=> h.elim (fun h=> hq5.2 h) (fun h=> by obtain ⟨h1,h2⟩:=h;first|(exfalso;omega)|(simp_all;done))⟩,hS.sp⟩))
 rintro ρ w1 ⟨q6,hA,hρ,hq6,hS⟩;obtain ⟨ρ,rfl⟩:=env2 hA hρ
 refine zKL hS 11 [0,3,18] (fun A LL ρ' w'=>∃(q7:Bool),Has ρ' A∧Has ρ' [(88, .bool q7)]∧(q7=true↔(((((((Q1b h 97=false∧x.a≠0)∨(Q1b h 98=false∧x.b≠0))∨(Q1b h 99=false∧x.c≠0))∨(Q1b h 107=false∧x.k≠0))∨(Q1b h 110=false∧x.n≠0))∨(Q1b h 103=false∧0 < x.regs.length))∨(Q1b h 114=false∧0 < x.args.length)))∧St cx w' (LL)) ?_ ?_
 · skip
   all_goals (cases q6)
   all_goals (refine Zam ?_;(first|refine zgn ?_|(refine zgy ?_;refine zR2 (c:=Q7I hsz hS) (h:=?_);rintro v1 w1 ⟨rfl,hS⟩)))
   all_goals (cases ha7:Q1b h 114)
   all_goals (refine Yak ?_;refine ZbM ?_;refine Yaj ?_)
   all_goals (first|refine zgn ?_|(refine zgy ?_;(first|(refine Q17 ?_)|(refine Q1a ?_)|(refine Qs rfl rfl (fun hc=> ?_) (fun hc=> ?_)))))
   all_goals (refine Yal ?_;refine Yae ?_;refine ZaM ?_)
   all_goals (first|(exact ⟨_,zh,zh,by exact ⟨fun _=> .inl (hq6.1 rfl),fun _=> rfl⟩,hS.sp⟩)|(exact ⟨_,zh,zh,by exact ⟨fun _=> .inr ⟨(by first|rfl|assumption),by omega⟩,fun _=> rfl⟩,hS.sp⟩)|(exact ⟨_,zh,zh,by exact ⟨fun h=> Bool.noConfusion h,fun h=> h.elim (fun h=> hq6.2 h) (fun h=> by obtain ⟨h1,h2⟩:=h;first|(exfalso;omega)|(simp_all;done))⟩,hS.sp⟩))
 rintro ρ w1 ⟨q7,hA,hρ,hq7,hS⟩;obtain ⟨ρ,rfl⟩:=env2 hA hρ
 all_goals (refine zR3 (c:=Q26 (by intro _;decide) hS fd) (h:=?_);rintro v1 w1 ⟨rfl,hS⟩;simp only [List.set_cons_zero,List.set_cons_succ,if_true,Bool.false_eq_true,if_false] at hS;refine Zal ?_;clear hq1 hq2 hq3 hq4 hq5 hq6;have hq:=hq7;clear hq7;refine Q10 ?_;refine zf0 ?_;refine zl hS ?_;refine zn ?_;refine Zby ?_)
 all_goals (first|(refine Ql ?_)|(refine Qo ?_)|(refine Q8 rfl rfl (fun hc=> ?_) (fun hc=> ?_)))
 all_goals (refine Zad ?_)
 all_goals
  first
  | (refine zct ?_
     all_goals (refine Zae ?_;refine zf0 ?_;refine zl hS ?_)
     all_goals (first|(refine Q15 ?_)|(refine Q1c ?_)|(refine Qu rfl rfl (fun hc=> ?_) (fun hc=> ?_)))
     all_goals (refine ZaN ?_)
     all_goals (first|refine zgn ?_|(refine zgy ?_;(first|(refine Q17 ?_)|(refine Q1a ?_)|(refine Qs rfl rfl (fun hc=> ?_) (fun hc=> ?_)))))
     all_goals (refine Yae ?_;refine zR3 (c:=Q26 (by intro _;decide) hS fd) (h:=?_);rintro v1 w1 ⟨rfl,hS⟩;simp only [List.set_cons_zero,List.set_cons_succ,if_true,Bool.false_eq_true,if_false] at hS)
     all_goals refine zn ?_)
  | (refine zcf ?_
     all_goals (refine Zaa ?_)
     all_goals (first|(refine Ql ?_)|(refine Qo ?_)|(refine Q8 rfl rfl (fun hc=> ?_) (fun hc=> ?_)))
     all_goals (refine Zad ?_)
     all_goals
      first
      | (refine zct ?_
         all_goals (refine Zae ?_;refine zf0 ?_;refine zl hS ?_;refine zL ?_)
         all_goals (first|(refine Q17 ?_)|(refine Q1a ?_)|(refine Qs rfl rfl (fun hc=> ?_) (fun hc=> ?_)))
         all_goals (refine zR3 (c:=Q26 (by intro _;decide) hS fd) (h:=?_);rintro v1 w1 ⟨rfl,hS⟩;simp only [List.set_cons_zero,List.set_cons_succ,if_true,Bool.false_eq_true,if_false] at hS)
         all_goals refine zn ?_)
      | (refine zcf ?_
         all_goals (refine Zbs ?_)
         all_goals (first|(refine Ql ?_)|(refine Qo ?_)|(refine Q8 rfl rfl (fun hc=> ?_) (fun hc=> ?_)))
         all_goals (refine Zad ?_)
         all_goals
          first
          | (refine zct ?_
             all_goals refine zsk ?_)
          | (refine zcf ?_
             all_goals (refine Q10 ?_)
             all_goals (first|(refine Ql ?_)|(refine Qo ?_)|(refine Q8 rfl rfl (fun hc=> ?_) (fun hc=> ?_)))
             all_goals (refine zm ?_)
             all_goals refine zn ?_)
         all_goals
          first
          | (refine zct ?_
             all_goals (refine Zae ?_;refine zf0 ?_;refine zl hS ?_)
             all_goals (first|(refine Q15 ?_)|(refine Q1c ?_)|(refine Qu rfl rfl (fun hc=> ?_) (fun hc=> ?_)))
             all_goals (refine ZaN ?_)
             all_goals (first|refine zgn ?_|(refine zgy ?_;(first|(refine Q2n ?_)|(refine Q2Z ?_)|(refine Q1r rfl rfl (fun hc=> ?_) (fun hc=> ?_)))))
             all_goals (refine Yae ?_;refine zR3 (c:=Q26 (by intro _;decide) hS fd) (h:=?_);rintro v1 w1 ⟨rfl,hS⟩;simp only [List.set_cons_zero,List.set_cons_succ,if_true,Bool.false_eq_true,if_false] at hS)
             all_goals refine zn ?_)
          | (refine zcf ?_
             all_goals (refine Zaa ?_)
             all_goals (first|(refine Ql ?_)|(refine Qo ?_)|(refine Q8 rfl rfl (fun hc=> ?_) (fun hc=> ?_)))
             all_goals (refine Zad ?_)
             all_goals
              first
              | (refine zct ?_
                 all_goals (refine QB ?_;refine zD (ci 16 [15]) ?_;have hS:=hS.drew;refine zm ?_;refine zf0 ?_;refine zl hS ?_)
                 all_goals (first|(refine Q15 ?_)|(refine Q1c ?_)|(refine Qu rfl rfl (fun hc=> ?_) (fun hc=> ?_)))
                 all_goals (refine ZaN ?_;refine Yaa ?_;refine ZaV ?_;refine Zan ?_;refine Yaj ?_)
                 all_goals (first|refine zgn ?_|(refine zgy ?_;(first|(refine Q2n ?_)|(refine Q2Z ?_)|(refine Q1r rfl rfl (fun hc=> ?_) (fun hc=> ?_)))))
                 all_goals (refine Yae ?_;refine zR3 (c:=Q26 (by intro _;decide) hS fd) (h:=?_);rintro v1 w1 ⟨rfl,hS⟩;simp only [List.set_cons_zero,List.set_cons_succ,if_true,Bool.false_eq_true,if_false] at hS;refine ZaJ ?_;refine zf0 ?_;refine zl hS ?_;refine zL ?_)
                 all_goals (first|(refine Q17 ?_)|(refine Q1a ?_)|(refine Qs rfl rfl (fun hc=> ?_) (fun hc=> ?_)))
                 all_goals (refine ZaN ?_;refine Yaj ?_)
                 all_goals (first|refine zgn ?_|(refine zgy ?_;(first|(refine Q17 ?_)|(refine Q1a ?_)|(refine Qs rfl rfl (fun hc=> ?_) (fun hc=> ?_)))))
                 all_goals (refine Yae ?_;refine zR3 (c:=Q26 (by intro _;decide) hS fd) (h:=?_);rintro v1 w1 ⟨rfl,hS⟩;simp only [List.set_cons_zero,List.set_cons_succ,if_true,Bool.false_eq_true,if_false] at hS)
                 all_goals refine zn ?_)
              | (refine zcf ?_
                 all_goals refine zsk ?_))))
 all_goals (refine Qz ?_; refine ⟨_, rfl, rfl, ?_⟩; subst hh; rw [← ins_end (c3 := Q1k n.length x) hq rfl]; clear hq hx hr ha hf hsz; have hS := hS.drop; refine St.back ?_ hi; first | (rw [show Q1k n.length x = 0 from (by unfold Q1k; (repeat (first | rw [if_pos (by omega)] | rw [if_neg (by omega)])))]; first | (rw [mkF_0, Qe5 rfl]; exact hS) | exact hS | (rw [Q2q, Q5w] at hS; exact hS)) | (rw [show Q1k n.length x = 1 from (by unfold Q1k; (repeat (first | rw [if_pos (by omega)] | rw [if_neg (by omega)])))]; first | exact hS | (rw [Q2q, Q6B (by decide)] at hS; exact hS)) | (rw [show Q1k n.length x = 2 from (by unfold Q1k; (repeat (first | rw [if_pos (by omega)] | rw [if_neg (by omega)])))]; first | exact hS | (rw [Q2q, Q5w] at hS; exact hS)) | (trace_state; fail "end"))
theorem to_c {x:Fun}{t:To}{is:Bool}{vf:Value}{g:Flt}{at':Int}{b:Nat}{cs ds:List Value}(hx:funcR.at cx cs x) (ht:toR.at cx ds t) (hS:St cx w L) (hi:nth L i=some (jdg b vf g at')):
 Rets Tryz.prog QaE [.pointer (some ⟨b,0,none⟩), .agg ⟨cs⟩, .agg ⟨ds⟩, .bool is] w fun u w'=> u= .tuple #[]∧St cx w' (L.set i (jdg b vf (orF g (mkF (Q1K x.blocks.length t is) at')) at')):=by
 have hS:=hS.out hi
 obtain ⟨vp,vr,vb,rfl,hp,hr,hb⟩:=QG hx
 obtain ⟨v1,v2,rfl,h1,h2⟩:=Q6q ht
 have hlb:=hb.len
 have hl1:=h1.len
 have hl2:=h2.len
 cases is with
 | false=>
   all_goals refine lgo tyD Tryz.func215 ?_
   all_goals (refine Zat ?_;intro p5 w1 hS;refine zb hS ?_;intro p6 w1 hS;refine zn ?_;refine Zak ?_;refine Zbm ?_)
   all_goals refine zct ?_
   all_goals (refine Zac ?_;refine zf0 ?_;refine zl hS ?_)
   all_goals (first|(refine Q1D ?_)|(refine Q1M ?_)|(refine QI rfl rfl (fun hc=> ?_) (fun hc=> ?_)))
   all_goals (refine ZaN ?_;refine Yaj ?_)
   all_goals (first|refine zgn ?_|(refine zgy ?_;(first|(refine Q17 ?_)|(refine Q1a ?_)|(refine Qs rfl rfl (fun hc=> ?_) (fun hc=> ?_)))))
   all_goals (refine Yae ?_;refine ZaN ?_;refine Yaj ?_)
   all_goals (first|refine zgn ?_|(refine zgy ?_;(first|(refine Q17 ?_)|(refine Q1a ?_)|(refine Qs rfl rfl (fun hc=> ?_) (fun hc=> ?_)))))
   all_goals (refine Yae ?_;refine zR3 (c:=Q26 (by intro _;decide) hS fd) (h:=?_);rintro v1 w1 ⟨rfl,hS⟩;simp only [List.set_cons_zero,List.set_cons_succ,if_true,Bool.false_eq_true,if_false] at hS;refine ZaS ?_;refine Qbd ?_;refine ⟨_,rfl,rfl,?_⟩;have hS:=hS.drop.drop;refine St.back ?_ hi;first|(rw [show Q1K x.blocks.length t false=4 from (by unfold Q1K;rw [if_pos rfl,if_pos (by omega)])];exact hS)|(rw [show Q1K x.blocks.length t false=0 from (by unfold Q1K;rw [if_pos rfl,if_neg (by omega)])];exact hS))
 | true=>
   all_goals refine lgo tyD Tryz.func215 ?_
   all_goals (refine Zat ?_;intro p5 w1 hS;refine zb hS ?_;intro p6 w1 hS;refine zn ?_;refine Zak ?_;refine Zbm ?_)
   all_goals refine zcf ?_
   all_goals (refine zsk ?_;refine Zac ?_;refine zf0 ?_;refine zl hS ?_)
   all_goals (first|(refine Q15 ?_)|(refine Q1c ?_)|(refine Qu rfl rfl (fun hc=> ?_) (fun hc=> ?_)))
   all_goals (refine ZaN ?_;refine Zan ?_;refine Yaj ?_)
   all_goals (first|refine zgn ?_|(refine zgy ?_;(first|(refine Q2n ?_)|(refine Q2Z ?_)|(refine Q1r rfl rfl (fun hc=> ?_) (fun hc=> ?_)))))
   all_goals (refine Yae ?_;refine zR3 (c:=Q26 (by intro _;decide) hS fd) (h:=?_);rintro v1 w1 ⟨rfl,hS⟩;simp only [List.set_cons_zero,List.set_cons_succ,if_true,Bool.false_eq_true,if_false] at hS;refine ZaJ ?_;refine zf0 ?_;refine zl hS ?_;refine zL ?_)
   all_goals (first|(refine Q17 ?_)|(refine Q1a ?_)|(refine Qs rfl rfl (fun hc=> ?_) (fun hc=> ?_)))
   all_goals (refine ZaN ?_;refine Yaj ?_)
   all_goals (first|refine zgn ?_|(refine zgy ?_;(first|(refine Q17 ?_)|(refine Q1a ?_)|(refine Qs rfl rfl (fun hc=> ?_) (fun hc=> ?_)))))
   all_goals (refine Yae ?_;refine zR3 (c:=Q26 (by intro _;decide) hS fd) (h:=?_);rintro v1 w1 ⟨rfl,hS⟩;simp only [List.set_cons_zero,List.set_cons_succ,if_true,Bool.false_eq_true,if_false] at hS;refine Zbc ?_;refine ⟨_,rfl,rfl,?_⟩;have hS:=hS.drop.drop;rw [Q2q] at hS;refine St.back ?_ hi;first|(rw [show Q1K x.blocks.length t true=1 from (by unfold Q1K;rw [if_neg Bool.noConfusion,if_pos (by omega)])];rw [Q6B (by decide)] at hS;exact hS)|(rw [show Q1K x.blocks.length t true=2 from (by unfold Q1K;rw [if_neg Bool.noConfusion,if_neg (by omega),if_pos (by omega)])];rw [Q5w] at hS;exact hS)|(rw [show Q1K x.blocks.length t true=0 from (by unfold Q1K;rw [if_neg Bool.noConfusion,if_neg (by omega),if_neg (by omega)])];rw [Q5w] at hS;exact hS))
theorem end_sum {g:Flt}{at':Int}{n:Nat}{e:Tail}:orF (orF (orF (orF (orF g (mkF (if e.op < 1∨3 < e.op then 3 else 0) at')) (mkF (if e.op≠2∧e.a≠0∨e.op≠3∧0 < e.args.length then 4 else 0) at')) (mkF (if 8 < e.args.length then 2 else 0) at')) (mkF (Q1K n e.yes (decide (e.op≠3))) at')) (mkF (Q1K n e.no (decide (e.op=2))) at')=orF g (mkF (Q1I n e) at'):=by
 rw [Q2q,Q2q,Q2q,Q2q]
 congr 2
 unfold Q1I
 split
 · simp only [Q6B (show (3:Int)≠0 by decide)]
 · rw [Q5w]
   split
   · simp only [Q6B (show (4:Int)≠0 by decide)]
   · rw [Q5w]
     split
     · simp only [Q6B (show (2:Int)≠0 by decide)]
     · rw [Q5w]
theorem end_c {x:Fun}{e:Tail}{vf:Value}{g:Flt}{at':Int}{b:Nat}{cs ds:List Value}(hx:funcR.at cx cs x) (he:endR.at cx ds e) (hS:St cx w L) (hi:nth L i=some (jdg b vf g at')):
 Rets Tryz.prog Q99 [.pointer (some ⟨b,0,none⟩), .agg ⟨cs⟩, .agg ⟨ds⟩] w fun u w'=> u= .tuple #[]∧St cx w' (L.set i (jdg b vf (orF g (mkF (Q1I x.blocks.length e) at')) at')):=by
 have hS:=hS.out hi
 obtain ⟨vp,vr,vb,rfl,hp,hr,hb⟩:=QG hx
 obtain ⟨v1,v2,v3,v4,v5,rfl,h1,h2,h3,h4,h5⟩:=Q22 he
 have hl5:=h5.len
 all_goals refine lgo tyD Tryz.func165 ?_
 all_goals (refine Zat ?_;intro p4 w1 hS;refine zb hS ?_;intro p5 w1 hS;refine zn ?_)
 refine zM [0,4,5] (fun A ρ' w'=> Has ρ' A∧Has ρ' []∧St cx w' (blk p5 90 [.int .i64 e.op, .int .i64 e.a, .int .i64 e.yes.block,v1,v2, .int .i64 e.no.block,v3,v4,v5]::blk p4 95 [.int .i64 x.regs,vp,vr,vb]::jdg b vf (orF g (mkF (if e.op < 1∨3 < e.op then 3 else 0) at')) at'::L.eraseIdx i)) ?_ ?_
 · skip
   all_goals (refine Zae ?_;refine zf0 ?_;refine zl hS ?_)
   all_goals (first|(refine Q15 ?_)|(refine Q1c ?_)|(refine Qu rfl rfl (fun hc=> ?_) (fun hc=> ?_)))
   all_goals (refine ZaN ?_)
   all_goals (first|refine zgn ?_|(refine zgy ?_;(first|(refine Q17 ?_)|(refine Q1a ?_)|(refine Qs rfl rfl (fun hc=> ?_) (fun hc=> ?_)))))
   all_goals (refine Yae ?_;refine zR3 (c:=Q26 (by intro _;decide) hS fd) (h:=?_);rintro v1 w1 ⟨rfl,hS⟩;simp only [List.set_cons_zero,List.set_cons_succ,if_true,Bool.false_eq_true,if_false] at hS;refine zn ?_;exact ⟨zh,zh,by first|(rw [if_pos (by omega)];exact hS.sp)|(rw [if_neg (by omega)];exact hS.sp)⟩)
 rintro ρ w1 ⟨hA,hρ,hS⟩;obtain ⟨ρ,rfl⟩:=env2 hA hρ
 refine zM [0,4,5] (fun A ρ' w'=> Has ρ' A∧Has ρ' []∧St cx w' (blk p5 90 [.int .i64 e.op, .int .i64 e.a, .int .i64 e.yes.block,v1,v2, .int .i64 e.no.block,v3,v4,v5]::blk p4 95 [.int .i64 x.regs,vp,vr,vb]::jdg b vf (orF (orF g (mkF (if e.op < 1∨3 < e.op then 3 else 0) at')) (mkF (if e.op≠2∧e.a≠0∨e.op≠3∧0 < e.args.length then 4 else 0) at')) at'::L.eraseIdx i)) ?_ ?_
 · skip
   all_goals (refine Zae ?_;refine zf0 ?_;refine zl hS ?_)
   all_goals (first|(refine Q1D ?_)|(refine Q1M ?_)|(refine QI rfl rfl (fun hc=> ?_) (fun hc=> ?_)))
   all_goals (refine ZaN ?_)
   all_goals (first|refine zgn ?_|(refine zgy ?_;(first|(refine Q1D ?_)|(refine Q1M ?_)|(refine QI rfl rfl (fun hc=> ?_) (fun hc=> ?_)))))
   all_goals (refine Yae ?_;refine ZaN ?_)
   all_goals (first|refine zgn ?_|(refine zgy ?_;(first|(refine Q1D ?_)|(refine Q1M ?_)|(refine QI rfl rfl (fun hc=> ?_) (fun hc=> ?_)))))
   all_goals (refine ZbM ?_;refine Yaj ?_)
   all_goals (first|refine zgn ?_|(refine zgy ?_;(first|(refine Q17 ?_)|(refine Q1a ?_)|(refine Qs rfl rfl (fun hc=> ?_) (fun hc=> ?_)))))
   all_goals (refine Yal ?_;refine Yae ?_;refine zR3 (c:=Q26 (by intro _;decide) hS fd) (h:=?_);rintro v1 w1 ⟨rfl,hS⟩;simp only [List.set_cons_zero,List.set_cons_succ,if_true,Bool.false_eq_true,if_false] at hS;refine zn ?_;exact ⟨zh,zh,by first|(rw [if_pos (c:=e.op≠2∧e.a≠0∨e.op≠3∧0 < e.args.length) (by omega)];exact hS.sp)|(rw [if_neg (c:=e.op≠2∧e.a≠0∨e.op≠3∧0 < e.args.length) (by omega)];exact hS.sp)⟩)
 rintro ρ w1 ⟨hA,hρ,hS⟩;obtain ⟨ρ,rfl⟩:=env2 hA hρ
 refine zM [0,4,5] (fun A ρ' w'=> Has ρ' A∧Has ρ' []∧St cx w' (blk p5 90 [.int .i64 e.op, .int .i64 e.a, .int .i64 e.yes.block,v1,v2, .int .i64 e.no.block,v3,v4,v5]::blk p4 95 [.int .i64 x.regs,vp,vr,vb]::jdg b vf (orF (orF (orF g (mkF (if e.op < 1∨3 < e.op then 3 else 0) at')) (mkF (if e.op≠2∧e.a≠0∨e.op≠3∧0 < e.args.length then 4 else 0) at')) (mkF (if 8 < e.args.length then 2 else 0) at')) at'::L.eraseIdx i)) ?_ ?_
 · skip
   all_goals (refine Zae ?_;refine zf0 ?_;refine zl hS ?_;refine zL ?_)
   all_goals (first|(refine Q17 ?_)|(refine Q1a ?_)|(refine Qs rfl rfl (fun hc=> ?_) (fun hc=> ?_)))
   all_goals (refine zR3 (c:=Q26 (by intro _;decide) hS fd) (h:=?_);rintro v1 w1 ⟨rfl,hS⟩;simp only [List.set_cons_zero,List.set_cons_succ,if_true,Bool.false_eq_true,if_false] at hS;refine zn ?_;exact ⟨zh,zh,by first|(rw [if_pos (c:=8 < e.args.length) (by omega)];exact hS.sp)|(rw [if_neg (c:=8 < e.args.length) (by omega)];exact hS.sp)⟩)
 rintro ρ w1 ⟨hA,hρ,hS⟩;obtain ⟨ρ,rfl⟩:=env2 hA hρ
 all_goals (refine Zac ?_;refine zv hS ?_;refine zf0 ?_;refine zv hS ?_;refine zf0 ?_;refine zl hS ?_;refine Q4n rfl rfl ?_;refine zR4 (c:=to_c (t:=e.yes) hx ⟨_,_,rfl,h1,h2⟩ hS fd) (h:=?_);rintro v1 w1 ⟨rfl,hS⟩;have hS:=hS.ns;refine ZaJ ?_;refine zv hS ?_;refine zf0 ?_;refine zv hS ?_;refine zf0 ?_;refine zl hS ?_;refine Q9V rfl rfl ?_;refine zR4 (c:=to_c (t:=e.no) hx ⟨_,_,rfl,h3,h4⟩ hS fd) (h:=?_);rintro v1 w1 ⟨rfl,hS⟩;have hS:=hS.ns;refine Zbc ?_;refine ⟨_,rfl,rfl,?_⟩;rw [end_sum] at hS;exact St.back hS.drop.drop hi)
end
end Go.Proofs.YteflkifmgnpbhaaGreat
namespace Go.Proofs.YteflkifmgnpbhaaGreat
open Go.Lir
set_option maxHeartbeats 1000000
attribute [local irreducible] LC.wp Q0 Qk Qh retQ Qt LO.wp Q4 Calls
set_option linter.unusedSimpArgs false
set_option linter.unusedVariables false
structure RFV where
 f:Nat
 b:Nat
 i:Nat
 vv:Value
 vals:List Int
def RFV.abs (x:RFV):RFrm:=⟨x.f,x.b,x.i,x.vals⟩
def RFV.cells (x:RFV):List Value:=[.int .i64 x.f, .int .i64 x.b, .int .i64 x.i,x.vv]
def RFV.res (x:RFV):Res:=sl 2 1 x.vv (x.vals.map Qj)
structure RC where
 ep:Value
 fn:Value
 lv:Value
 iv:Value
 e:Int
 bv:Value
 ov:Value
 fu:Int
 mo:Int
 dn:Bool
@[reducible] def RC.cells (x:RC):List Value:=[x.ep,x.fn,x.lv,x.iv, .int .i64 x.e,x.bv,x.ov, .int .i64 x.fu, .int .i64 x.mo, .bool x.dn]
@[reducible] def Q35 (fr:List RFV) (g:RFV):List (List Value):=fr.map RFV.cells++[g.cells]
theorem Qa (fr:List RFV) (g:RFV):(Q35 fr g).length=fr.length+1:=by simp
theorem Qe (fr:List RFV) (g:RFV):(Q35 fr g)[fr.length]?=some g.cells:=by
 rw [List.getElem?_append_right (by simp)];simp
theorem Qb6 {fr:List RFV}{g g':RFV}{j:Nat}{u:Value}(h:g.cells.set j u=g'.cells):(Q35 fr g).set fr.length (g.cells.set j u)=Q35 fr g':=by
 rw [h]
 unfold Q35
 rw [List.set_append_right _ _ (by simp)];simp
@[reducible] def rL (p:Nat) (c:RC) (fr:List RFV) (g:RFV) (L:List Res):List Res:=blk p 66 c.cells::sl 138 4 c.lv (Q35 fr g)::sl 2 1 g.vv (g.vals.map Qj)::big RFV.res fr::L
@[reducible] def Q8W (e:Int):Value:= .iface 139 (.int .i64 e)
variable {cx:Cx}{w:World}{L:List Res}{p:Nat}{c:RC}{fr:List RFV}{g:RFV}
theorem Q3W {e:Int}(hS:St cx w L):Rets Tryz.prog Qdj [.bool false, .int .i64 e] w fun u w'=> u= .tuple #[]∧St cx w' L:=by
 all_goals refine lgo tyD Tryz.func81 ?_
 all_goals (refine Zaf ?_)
 all_goals refine zcf ?_
 all_goals (refine zsk ?_;refine Qz ?_;exact ⟨_,rfl,rfl,hS.sp⟩)
theorem Q3V {e:Int}(hS:St cx w L):Fins Tryz.prog Qdj [.bool true, .int .i64 e] w (fun _ _=> False) (fun u w'=> u=Q8W e∧St cx w' L):=by
 unfold Fins
 all_goals refine lgo tyD Tryz.func81 ?_
 all_goals (refine Zaf ?_)
 all_goals refine zct ?_
 all_goals (refine Zae ?_;refine zki ?_;refine Q9T rfl ?_;(repeat (refine Yba ?_));refine Qc ?_;exact .inr ⟨_,rfl,rfl,hS.sp⟩)
theorem Q5e (hf:fr.length≤1000) (hS:St cx w (rL p c fr g L)):Rets Tryz.prog Q80 [.pointer (some ⟨p,0,none⟩)] w fun u w'=>∃b o,u= .pointer (some ⟨b,o,none⟩)∧ElP c.lv (fr.length+1) 4 fr.length b o∧St cx w' (rL p c fr g L):=by
 all_goals refine lgo tyD Tryz.func82 ?_
 all_goals (refine Zaf ?_;refine QB ?_;refine zD (ci 12 [11]) ?_;have hS:=hS.drew;refine ZaA ?_;refine zf0 ?_;refine zl hS ?_;refine ZaA ?_;refine zf0 ?_;refine zl hS ?_;refine QQ hS vw fd (Qa fr g) ?_;refine zsu ?_;rw [show ((fr.length+1:Nat):Int) - 1=fr.length by omega];refine Q4c hS vw rfl fd (by rw [Qa];omega) ?_;rw [Qa];intro b1 o1 hel;refine Zap ?_;exact ⟨_,rfl,b1,o1,rfl,hel,hS.sp⟩)
theorem RFrm.val_in {g:RFrm}{k v:Int}(h:g.val k=some v):0≤k∧k.toNat < g.vals.length∧g.vals[k.toNat]?=some v:=by
 unfold RFrm.val at h
 by_cases h0:k < 0
 · rw [if_pos h0] at h;cases h
 · rw [if_neg h0] at h;exact ⟨by omega,(List.getElem?_eq_some_iff.mp h).1,h⟩
theorem Q2z {k v:Int}(hf:fr.length≤1000) (hS:St cx w (rL p c fr g L)) (hg:g.abs.val k=some v):Rets Tryz.prog Q7Z [.pointer (some ⟨p,0,none⟩), .int .i64 k] w fun u w'=> u= .int .i64 v∧St cx w' (rL p c fr g L):=by
 obtain ⟨h0,hl,hv⟩:=RFrm.val_in hg
 all_goals refine lgo tyD Tryz.func135 ?_
 all_goals (refine ZbA ?_;refine zR1 (c:=Q5e hf hS) (h:=?_);rintro v1 w1 ⟨b1,o1,rfl,hel,hS⟩;refine ZaU ?_;refine Q6 hS hel rfl fd (Qa fr g) (Qe fr g) rfl ?_;refine zm ?_;refine Q6v hS vw rfl fd (by omega) (by rw [List.length_map];show k < (g.vals.length:Int);have:k.toNat < g.vals.length:=hl;omega) ?_;rw [List.length_map];intro b2 o2 hel2;refine Qy hS hel2 rfl fd (List.length_map _) (show (g.vals.map Qj)[k.toNat]?=some (Qj v) by rw [List.getElem?_map];rw [show g.vals[k.toNat]?=some v from hv];rfl) rfl ?_;refine Zap ?_;exact ⟨_,rfl,rfl,hS.sp⟩)
end Go.Proofs.YteflkifmgnpbhaaGreat
namespace Go.Proofs.YteflkifmgnpbhaaGreat
open Go.Lir
theorem Qe2 {g:RFrm}{l:List Int}{q:Nat}{k v:Int}{out:List Int}(hd:g.args l=(g.args (l.drop q)).map fun r=> out++r) (hx:l[q]?=some k) (hv:g.val k=some v):g.args l=(g.args (l.drop (q+1))).map fun r=> (out++[v])++r:=by
 rw [hd,Qb hx,RFrm.args,hv]
 cases g.args (l.drop (q+1)) with
 | none=> rfl
 | some r=> simp
theorem Qfr {g:RFrm}{l:List Int}{q:Nat}{out:List Int}(hd:g.args l=(g.args (l.drop q)).map fun r=> out++r) (hq:l.length≤q):g.args l=some out:=by
 rw [hd,List.drop_of_length_le hq,RFrm.args];simp
theorem rargs_0 {g:RFrm}{l:List Int}:g.args l=(g.args (l.drop 0)).map fun r=> []++r:=by
 rw [List.drop_zero];cases g.args l <;> rfl
theorem Qbb {g:RFrm}{k:Int}:∀{l:List Int}{vs:List Int},g.args l=some vs→∀{q:Nat},l[q]?=some k→∃v,g.val k=some v
 | [],_,_,_,h=> by simp at h
 | a ::l,vs,h,q,hq=> by
   rw [RFrm.args] at h
   cases ha:g.val a with
   | none=> rw [ha] at h;cases h
   | some v=>
     rw [ha] at h
     cases hl:g.args l with
     | none=> rw [hl] at h;cases h
     | some r=>
       cases q with
       | zero=> simp at hq;subst hq;exact ⟨v,ha⟩
       | succ q=> exact Qbb hl (q:=q) (by simpa using hq)
end Go.Proofs.YteflkifmgnpbhaaGreat
namespace Go.Proofs.YteflkifmgnpbhaaGreat
open Go.Lir
set_option maxHeartbeats 1000000
attribute [local irreducible] LC.wp Q0 Qk Qh retQ Qt LO.wp Q4 Calls
set_option linter.unusedSimpArgs false
set_option linter.unusedVariables false
variable {cx:Cx}{w:World}{L:List Res}{p:Nat}{c:RC}{fr:List RFV}{g:RFV}
attribute [local irreducible] RFrm.val RFrm.args
theorem Q8p (l:List Int):∀c∈l.map Qj,∀u∈c,oneC u=true:=by
 intro c hc u hu;obtain ⟨v,_,rfl⟩:=List.mem_map.1 hc;simp [Qj] at hu;rcases hu with rfl;rfl
def RFV.push (g:RFV) (tv:Value) (vs:List Int):RFV:=⟨g.f,g.b,g.i,tv,g.vals++vs⟩
theorem Q5f {j:Nat}{v2:Value}{vs:List Int}(hf:fr.length≤1000) (hn:g.vals.length+vs.length≤1000000) (hS:St cx w (rL p c fr g L)) (hj:nth L j=some (sl 2 1 v2 (vs.map Qj))):
 Rets Tryz.prog Q81 [.pointer (some ⟨p,0,none⟩),v2] w fun u w'=>∃tv,u= .tuple #[]∧St cx w' (rL p c fr (g.push tv vs) L):=by
 all_goals refine lgo tyD Tryz.func133 ?_
 all_goals (refine Zae ?_;refine zR1 (c:=Q5e hf hS) (h:=?_);rintro v1 w1 ⟨b1,o1,rfl,hel1,hS⟩;refine zm ?_;refine zR1 (c:=Q5e hf hS) (h:=?_);rintro v2 w1 ⟨b2,o2,rfl,hel2,hS⟩;refine ZaU ?_;refine Q6 hS hel2 rfl fd (Qa fr g) (Qe fr g) rfl ?_;refine zm ?_;refine Q1T Q4e (.inl Q8U) hS vw vw (i:=2) rfl (hS.srcS (i:=j+4) hj (Q8p vs)) (by rw [List.length_map,List.length_map];omega) ?_;intro v7 w7 hS;have hS:=hS.ns;have ho7:=hS.oneC (i:=2) rfl;rw [←List.map_append] at hS;refine ZaU ?_;refine Q1s hS hel1 rfl vw fd (Qa fr g) (Qe fr g) (by omega) ho7 (Qb6 (g':=g.push v7 vs) rfl) ?_;intro w8 hS;have hS:=hS.ns;refine Zbc ?_;exact ⟨_,rfl,v7,rfl,hS.sp⟩)
theorem Q5u {l:List Int}{vs:List Int}{v1:Value}(hl1:l.length≤100000) (hf:fr.length≤1000) (hl:intR.sl cx v1 l) (hv:g.abs.args l=some vs) (hS:St cx w (rL p c fr g L)):Rets Tryz.prog Q7k [.pointer (some ⟨p,0,none⟩),v1] w
 fun u w'=> vs.length=l.length∧oneC u=true∧St cx w' (rL p c fr g (sl 2 1 u (vs.map Qj)::L)):=by
 have hlen:=hl.len
 all_goals refine lgo tyD Tryz.func143 ?_
 all_goals (refine Zaf ?_;refine ZaQ ?_;refine zL ?_;refine ZaB ?_;have hS:St cx _ (rL p c fr g (sl 2 1 (.slice none 0 0) (([]:List Int).map Qj)::L)):=(by have hS:=hS.nil (T:=2) (es:=1);exact hS.sp))
 refine zo [0,8,9] (fun A ρ' w'=>∃(q:Nat) (vo:Value) (out:List Int),Has ρ' A∧Has ρ' [(5,vo),(10, .int .i64 q)]∧(q≤l.length)∧(out.length=q)∧(oneC vo=true)∧(g.abs.args l=(g.abs.args (l.drop q)).map fun r=> out++r)∧St cx w' (rL p c fr g (sl 2 1 vo (out.map Qj)::L))) (fun ρ' _=> (l.length - iv (ρ' 10)).toNat) ?_ ?_
 · exact ⟨0, .slice none 0 0,[],zh,zh,(by omega),rfl,rfl,rargs_0,hS.sp⟩
 rintro ρ w1 ⟨q,vo,out,hA,hρ,hq,hol,hvo,hd,hS⟩;obtain ⟨ρ,rfl⟩:=env2 hA hρ
 all_goals (refine ZaI ?_)
 refine Qq rfl (fun hc=> ?_) (fun hc=> ?_)
 · skip
   all_goals (refine Zbf ?_;refine zi ?_;intro b1 o1 cs1 x1 hat1 hx1 he1;obtain rfl:=QY he1;refine Yat ?_;refine Zad ?_;refine Zae ?_;refine ZaT ?_;obtain ⟨n1,hn1⟩:=Qbb hv hx1;refine zR2 (c:=Q2z hf hS hn1) (h:=?_);rintro v2 w2 ⟨rfl,hS⟩;refine zB1 hS [_] ?_;intro b1 w1 hS;refine Q1T Q4e (.inl Q8U) hS vw vw (i:=5) rfl (hS.srcB (i:=0) rfl (by rfl) (by simp [oneC])) (by rw [List.length_map];simp only [List.length_cons,List.length_nil];omega) ?_;intro v7 w7 hS;have hS:=hS.ns;have ho7:=hS.oneC (i:=5) rfl;refine Zad ?_;refine Q10 ?_;refine zad ?_;refine Zad ?_;exact ⟨⟨q+1,v7,out++[n1],zh,zh,(by omega),by rw [List.length_append,hol];rfl,ho7,Qe2 hd hx1 hn1,by rw [List.map_append];exact hS.sp⟩,Qv (by omega)⟩)
 · skip
   all_goals (refine zex ?_;refine Zbq ?_)
   all_goals (have e9:=Qfr hd (by omega);rw [hv] at e9;cases e9;exact ⟨_,rfl,by omega,hvo,hS.sp⟩)
end Go.Proofs.YteflkifmgnpbhaaGreat
namespace Go.Proofs.YteflkifmgnpbhaaGreat
open Go.Lir
set_option maxHeartbeats 1000000
attribute [local irreducible] LC.wp Q0 Qk Qh retQ Qt LO.wp Q4 Calls
set_option linter.unusedSimpArgs false
set_option linter.unusedVariables false
@[reducible] def rS (p:Nat) (c:RC) (fr:List RFV) (g:RFV) (s:EstS) (out:List Int) (L:List Res):List Res:=rL p c fr g (estX c.ep s::sl 2 1 c.ov (out.map Qj)::L)
variable {cx:Cx}{w:World}{L:List Res}{p:Nat}{c:RC}{fr:List RFV}{g:RFV}{s:EstS}{out:List Int}
attribute [local irreducible] RFrm.val RFrm.args
theorem Q9X {b:Nat}{pp:Value}{cs:List Value}{q:PoolS}(k:Int) (hb:c.ep= .pointer (some ⟨b,0,none⟩)) (hS:St cx w (rL p c fr g (blk b 73 (pp::cs)::Q1B pp q::L))):Rets Tryz.prog Q7j [.pointer (some ⟨p,0,none⟩), .int .i64 k] w fun u w'=> u= .int .i64 (q.word k)∧St cx w' (rL p c fr g (blk b 73 (pp::cs)::Q1B pp q::L)):=by
 obtain ⟨ep,fn,lv,iv,e,bv,ov,fu,mo,dn⟩:=c
 obtain rfl:ep=_:=hb
 all_goals refine lgo tyD Tryz.func139 ?_
 all_goals (refine ZbE ?_;refine zf0 ?_;refine zl hS ?_;refine znc ?_;refine zf0 ?_;refine zl hS ?_;refine zm ?_;refine zR2 (c:=load_x (s:=q) k hS fd) (h:=?_);rintro v1 w1 ⟨rfl,hS⟩;refine zm ?_;refine Zba ?_;refine zm ?_;refine ZaL ?_;refine Zap ?_;exact ⟨_,rfl,rfl,hS.sp⟩)
theorem rget_c (r n:Int) (hS:St cx w (rS p c fr g s out L)):Fins Tryz.prog Q83 [.pointer (some ⟨p,0,none⟩), .int .i64 r, .int .i64 n] w
 (fun u w'=> s.code r n≠14∧u= .int .i64 (s.getV r n)∧St cx w' (rS p c fr g (s.get r n) out L)) (fun u w'=> s.code r n=14∧u=Q8W 6∧St cx w' (rS p c fr g (s.get r n) out L)):=by
 unfold Fins
 all_goals refine lgo tyD Tryz.func198 ?_
 all_goals (refine ZbE ?_;refine zf0 ?_;refine zl hS ?_;refine ZaT ?_;refine zR3 (c:=eget_c (e:=c.ep) (s:=s) r n hS fd) (h:=?_);rintro v1 w1 ⟨rfl,hS⟩;have hS:=hS.ns;refine zm ?_;refine Zba ?_;refine zm ?_;refine ZaL ?_)
 all_goals (first|(refine Ql ?_)|(refine Qo ?_)|(refine Q8 rfl rfl (fun hc=> ?_) (fun hc=> ?_)))
 all_goals (first|(refine zR2 (c:=Q3W hS) (h:=?_);rintro v1 w1 ⟨rfl,hS⟩)|(refine zE2 (c:=Q3V hS) (p:=by rintro v9 w9 ⟨rfl,hS⟩;(repeat (first|refine Q2 ?_|refine Q3 ?_|refine fun _=> ?_));refine Qc ?_;refine .inr ⟨_,rfl,?_⟩;first|(exact ⟨by omega,rfl,hS.sp⟩)) (h:=fun _ _ h=> h.elim)))
 all_goals (refine Zaz ?_;refine Zap ?_;exact .inl ⟨_,rfl,by omega,rfl,hS.sp⟩)
end Go.Proofs.YteflkifmgnpbhaaGreat
namespace Go.Proofs.YteflkifmgnpbhaaGreat
open Go.Lir
set_option maxHeartbeats 1000000
attribute [local irreducible] LC.wp Q0 Qk Qh retQ Qt LO.wp Q4 Calls
set_option linter.unusedSimpArgs false
set_option linter.unusedVariables false
variable {cx:Cx}{w:World}{L:List Res}{p:Nat}{c:RC}{fr:List RFV}{g:RFV}{s:EstS}{out:List Int}
attribute [local irreducible] RFrm.val RFrm.args EstS.get EstS.getV EstS.code EstS.word EstS.store
theorem rat_o {b:Nat}{pp:Value}{ds:List Value}{q:PoolS}{x:Ins}{cs:List Value}{a k:Int}(hb:c.ep= .pointer (some ⟨b,0,none⟩)) (hx:insR.at cx cs x) (hf:fr.length≤1000) (ha:g.abs.val x.a=some a) (hk:g.abs.val x.b=some k) (hS:St cx w (rL p c fr g (blk b 73 (pp::ds)::Q1B pp q::L))):Fins Tryz.prog Q8Z [.pointer (some ⟨p,0,none⟩), .agg ⟨cs⟩] w
 (fun u w'=>¬(k < 0∨q.word a≤k)∧u= .int .i64 (wr (wr (a+1)+k))∧St cx w' (rL p c fr g (blk b 73 (pp::ds)::Q1B pp q::L))) (fun u w'=> (k < 0∨q.word a≤k)∧u=Q8W 2∧St cx w' (rL p c fr g (blk b 73 (pp::ds)::Q1B pp q::L))):=by
 obtain ⟨vr,va,rfl,hr,ha1⟩:=QZ hx
 unfold Fins
 all_goals refine lgo tyD Tryz.func142 ?_
 all_goals (refine Zat ?_;intro p3 w1 hS;refine ZaF ?_;refine zC [(0,none),(1,none),(2,none),(4,none),(5,none),(6,none),(3,some (some [6])),(7,some none),(8,none),(9,some none)] ?_;have hS:=hS.drew;refine Zax ?_;refine zf0 ?_;refine Zab ?_;refine zl hS ?_;refine Zaq ?_;refine zf0 ?_;refine Zab ?_;refine zl hS ?_;refine Zaj ?_)
 all_goals (refine zR2 (c:=Q2z hf (show St cx _ (rL p c fr g _) from hS.sp) ha) (h:=?_);rintro v1 w1 ⟨rfl,hS⟩)
 all_goals (refine ZaC ?_)
 all_goals (first|(refine zR2 (c:=Q2z hf (show St cx _ (rL p c fr g _) from hS.sp) ha) (h:=?_);rintro v1 w1 ⟨rfl,hS⟩)|(refine zR2 (c:=Q2z hf (show St cx _ (rL p c fr g _) from hS.sp) hk) (h:=?_);rintro v2 w2 ⟨rfl,hS⟩))
 all_goals (refine ZbK ?_;refine Zau ?_;refine Zbo ?_)
 all_goals (first|(refine Q15 ?_)|(refine Q1c ?_)|(refine Qu rfl rfl (fun hc=> ?_) (fun hc=> ?_)))
 all_goals (refine Zbl ?_;refine Yaa ?_;(first|refine zgn ?_|(refine zgy ?_;refine zR2 (c:=Q9X (q:=q) a hb (show St cx _ (rL p c fr g (blk b 73 (pp::ds)::Q1B pp q::_)) from hS.sp)) (h:=?_);rintro v3 w3 ⟨rfl,hS⟩)))
 all_goals (first|refine zgn ?_|(refine zgy ?_;(first|(refine Q2n ?_)|(refine Q2Z ?_)|(refine Q1r rfl rfl (fun hc=> ?_) (fun hc=> ?_)))))
 all_goals (refine Yae ?_)
 all_goals (first|(refine zR2 (c:=Q3W hS) (h:=?_);rintro v1 w1 ⟨rfl,hS⟩)|(refine zE2 (c:=Q3V hS) (p:=by rintro v9 w9 ⟨rfl,hS⟩;(repeat (first|refine Q2 ?_|refine Q3 ?_|refine fun _=> ?_));refine Qc ?_;refine .inr ⟨_,rfl,?_⟩;first|(exact ⟨by omega,rfl,hS.sp⟩)) (h:=fun _ _ h=> h.elim)))
 all_goals (refine Zaz ?_;refine Ybc ?_;refine zm ?_;refine Ybc ?_;refine Zap ?_;exact .inl ⟨_,rfl,by omega,rfl,hS.sp⟩)
end Go.Proofs.YteflkifmgnpbhaaGreat
namespace Go.Proofs.YteflkifmgnpbhaaGreat
open Go.Lir
set_option maxHeartbeats 1000000
attribute [local irreducible] LC.wp Q0 Qk Qh retQ Qt LO.wp Q4 Calls
set_option linter.unusedSimpArgs false
set_option linter.unusedVariables false
variable {cx:Cx}{w:World}{L:List Res}{p:Nat}{c:RC}{fr:List RFV}{g:RFV}{s:EstS}{out:List Int}
theorem EstS.rok_store {s:EstS}(h:s.Ok) (k x:Int):(s.store k x).Ok:=⟨h.len,h.off,h.used,h.tk.store k x,PoolS.ok_store h.pok k x,by show (s.p.store k x).n≤64;rw [PoolS.n_store];exact h.n64⟩
theorem EstO.rstore {e:Value}{s:EstS}{b:Nat}{rv:List RegV}(h:EstO e s b rv) (k x:Int):EstO e (s.store k x) b rv:=⟨h.he,h.hr,EstS.rok_store h.ok k x⟩
theorem Q50 {e:Value}{s:EstS}{b:Nat}{pp:Value}{rv:List RegV}{k x:Int}(h:EstO e s b rv) (hS:St cx w (blk b 73 (pp::Q1o rv)::Q1B pp (s.p.store k x)::big RegV.res rv::L)):St cx w (estX e (s.store k x)::L):=QW (s:=s.store k x) (h.rstore k x) hS
attribute [local irreducible] RFrm.val RFrm.args EstS.get EstS.getV EstS.code EstS.word EstS.store
theorem rarray_c {x:Ins}{cs:List Value}{a n:Int}(hx:insR.at cx cs x) (hf:fr.length≤1000) (hn:g.vals.length≤900000) (ha:g.abs.val x.a=some a) (hk:g.abs.val x.b=some n) (hS:St cx w (rS p c fr g s out L)):Fins Tryz.prog Q6A [.pointer (some ⟨p,0,none⟩), .agg ⟨cs⟩] w
 (fun u w'=>¬(n < 0∨15 < n)∧s.code a (1+n)≠14∧u= .tuple #[]∧∃tv,St cx w' (rS p c fr (g.push tv [s.getV a (1+n)]) ((s.get a (1+n)).store (s.getV a (1+n)) n) out L))
 (fun u w'=> (n < 0∨15 < n)∧u=Q8W 3∧St cx w' (rS p c fr g s out L)∨¬(n < 0∨15 < n)∧s.code a (1+n)=14∧u=Q8W 6∧St cx w' (rS p c fr g (s.get a (1+n)) out L)):=by
 obtain ⟨vr,va,rfl,hr,ha1⟩:=QZ hx
 obtain ⟨ep,fn,lv,iv,e,bv,ov,fu,mo,dn⟩:=c
 unfold Fins
 all_goals refine lgo tyD Tryz.func141 ?_
 all_goals (refine Zat ?_;intro p3 w1 hS;refine Zaz ?_;refine zf0 ?_;refine zl hS ?_;refine zR2 (c:=Q2z hf (show St cx _ (rL p _ fr g _) from hS.sp) hk) (h:=?_);rintro v1 w1 ⟨rfl,hS⟩;refine ZaL ?_)
 all_goals (first|(refine Q15 ?_)|(refine Q1c ?_)|(refine Qu rfl rfl (fun hc=> ?_) (fun hc=> ?_)))
 all_goals (refine Zam ?_)
 all_goals (first|refine zgn ?_|(refine zgy ?_;(first|(refine Q17 ?_)|(refine Q1a ?_)|(refine Qs rfl rfl (fun hc=> ?_) (fun hc=> ?_)))))
 all_goals (refine Yae ?_)
 all_goals (first|(refine zR2 (c:=Q3W hS) (h:=?_);rintro v1 w1 ⟨rfl,hS⟩)|(refine zE2 (c:=Q3V hS) (p:=by rintro v9 w9 ⟨rfl,hS⟩;(repeat (first|refine Q2 ?_|refine Q3 ?_|refine fun _=> ?_));refine Qc ?_;refine .inr ⟨_,rfl,?_⟩;first|(exact .inl ⟨by omega,rfl,hS.sp⟩)) (h:=fun _ _ h=> h.elim)))
 all_goals (refine Zaz ?_;refine zm ?_;refine zf0 ?_;refine zl hS ?_;refine zR2 (c:=Q2z hf (show St cx _ (rL p _ fr g _) from hS.sp) ha) (h:=?_);rintro v1 w1 ⟨rfl,hS⟩;refine zm ?_;refine zad ?_;refine zE3 (c:=rget_c (s:=s) (out:=out) a (1+n) (show St cx _ (rS p _ fr g s out _) from hS.sp)) (p:=by rintro u9 w9 ⟨h14,rfl,hS⟩;(repeat (first|refine Q2 ?_|refine Q3 ?_|refine fun _=> ?_));refine Qc ?_;refine .inr ⟨_,rfl,?_⟩;exact .inr ⟨by omega,h14,rfl,hS.sp⟩) (h:=?_);rintro u1 w2 ⟨h14,rfl,hS⟩;refine ZaF ?_;obtain ⟨b9,pp,rv,ho,hS⟩:=Q21 (hS.out (i:=4) rfl);obtain rfl:=ho.he;refine Zbt ?_;refine zf0 ?_;refine zl hS ?_;refine znc ?_;refine zf0 ?_;refine zl hS ?_;refine ZaT ?_;refine zR3 (c:=Q9J (s:=(s.get a (1+n)).p) (s.getV a (1+n)) n hS nth1) (h:=?_);rintro v1 w1 ⟨rfl,hS⟩;have hS:=hS.ns;have hS:=Q50 ho hS;have hS:=hS.ns;refine ZaJ ?_;refine zm ?_;refine zB1 hS [_] ?_;intro b1 w1 hS;have hS:=St.slOf (T:=2) (es:=1) (css:=[s.getV a (1+n)].map Qj) hS rfl (by simp [Qj]) rfl;have hS:St cx _ (rL p _ fr g (sl 2 1 (.slice (some ⟨b1,0,none⟩) 1 1) ([s.getV a (1+n)].map Qj)::_)):=hS.sp;refine zR2 (c:=Q5f (j:=0) hf (by simp only [List.length_cons,List.length_nil];omega) hS rfl) (h:=?_);rintro u1 w1 ⟨tv,rfl,hS⟩)
 all_goals (refine Zbc ?_;exact .inl ⟨_,rfl,by omega,h14,rfl,tv,hS.sp⟩)
end Go.Proofs.YteflkifmgnpbhaaGreat
namespace Go.Proofs.YteflkifmgnpbhaaGreat
open Go.Lir
set_option maxHeartbeats 1000000
attribute [local irreducible] LC.wp Q0 Qk Qh retQ Qt LO.wp Q4 Calls
set_option linter.unusedSimpArgs false
set_option linter.unusedVariables false
variable {cx:Cx}{w:World}{L:List Res}{p:Nat}{c:RC}{fr:List RFV}{g:RFV}{s:EstS}{out:List Int}
theorem EstS.stores_0 {s:EstS}{a:Int}{l:List Int}:s.stores a (l.take 0)=s:=rfl
attribute [local irreducible] RFrm.val RFrm.args EstS.get EstS.getV EstS.code EstS.word EstS.store EstS.stores
theorem rtuple_c {x:Ins}{cs:List Value}{a n:Int}{vs:List Int}(hx:insR.at cx cs x) (h8:x.args.length≤100) (hN:n=max (x.args.length:Int) 1) (hf:fr.length≤1000) (hn:g.vals.length≤900000) (ha:g.abs.val x.a=some a) (hv:g.abs.args x.args=some vs) (hS:St cx w (rS p c fr g s out L)):Fins Tryz.prog Q6z [.pointer (some ⟨p,0,none⟩), .agg ⟨cs⟩] w
 (fun u w'=> s.code a n≠14∧u= .tuple #[]∧∃tv,St cx w' (rS p c fr (g.push tv [s.getV a n]) ((s.get a n).stores (s.getV a n) vs) out L))
 (fun u w'=> s.code a n=14∧u=Q8W 6∧St cx w' (rS p c fr g (s.get a n) out L)):=by
 obtain ⟨vr,va,rfl,hr,ha1⟩:=QZ hx
 obtain ⟨ep,f1,l1,i1,e1,b2,o2,f2,m2,d2⟩:=c
 have hsg:=fun (w:World) (L:List Res) (hS:St cx w (rS p ⟨ep,f1,l1,i1,e1,b2,o2,f2,m2,d2⟩ fr g s out L))=> rget_c a n hS
 rw [hN] at hsg
 unfold Fins
 all_goals refine lgo tyD Tryz.func138 ?_
 all_goals (refine Zat ?_;intro p3 w1 hS;refine Zal ?_;refine zC [(0,none),(1,none),(2,none),(3,none),(5,none),(6,none),(7,none),(8,none),(4,some (some [6])),(9,some none),(10,some none)] ?_;have hS:=hS.drew;refine Zbg ?_;refine zf0 ?_;refine Zab ?_;refine zl hS ?_;refine Zab ?_;refine zf0 ?_;refine Zab ?_;refine zl hS ?_;refine Zab ?_;refine zL ?_;refine Zab ?_;refine s_max rfl rfl ?_;refine Zaj ?_;refine zR2 (c:=Q2z hf (show St cx _ (rL p _ fr g _) from hS.sp) ha) (h:=?_);rintro v1 w1 ⟨rfl,hS⟩;refine ZaC ?_;refine zE3 (c:=hsg _ _ (show St cx _ (rS p _ fr g s out _) from hS.sp)) (p:=by rintro u9 w9 ⟨h14,rfl,hS⟩;(repeat (first|refine Q2 ?_|refine Q3 ?_|refine fun _=> ?_));refine Qc ?_;refine .inr ⟨_,rfl,?_⟩;rw [←hN] at h14 hS;exact ⟨h14,rfl,hS.sp⟩) (h:=?_);rintro u1 w2 ⟨h14,rfl,hS⟩;rw [←hN] at h14 hS ⊢;refine Zau ?_;refine Zbh ?_)
 all_goals (refine Zak ?_;refine zf0 ?_;refine zl hS ?_;refine zR2 (c:=Q5u (by omega) hf ha1 hv (show St cx _ (rL p _ fr g _) from hS.sp)) (h:=?_);rintro v2 w2 ⟨hvl,ho2,hS⟩;refine Yas ?_;refine ZaB ?_)
 refine zo [0,4,20,21] (fun A ρ' w'=>∃(q:Nat),Has ρ' A∧Has ρ' [(22, .int .i64 q)]∧(q≤vs.length)∧St cx w' (rS p ⟨ep,f1,l1,i1,e1,b2,o2,f2,m2,d2⟩ fr g ((s.get a n).stores (s.getV a n) (vs.take q)) out (sl 2 1 v2 (vs.map Qj)::blk p3 84 [.int .i64 x.op, .int .i64 x.a, .int .i64 x.b, .int .i64 x.c, .int .i64 x.k, .int .i64 x.n,vr,va]::L))) (fun ρ' _=> (vs.length - iv (ρ' 22)).toNat) ?_ ?_
 · exact ⟨0,zh,zh,(by omega),by rw [EstS.stores_0];exact hS.sp⟩
 rintro ρ w1 ⟨q,hA,hρ,hq,hS⟩;obtain ⟨ρ,rfl⟩:=env2 hA hρ
 all_goals (refine ZaI ?_)
 refine Qq rfl (fun hc=> ?_) (fun hc=> ?_)
 · skip
   all_goals (refine ZaE ?_;refine QB ?_;have hlt:q < vs.length:=(by omega);have hvq:vs[q]?=some (vs.getD q 0):=(by rw [List.getD_eq_getElem?_getD,List.getElem?_eq_getElem hlt];rfl);refine Zae ?_;refine Q4c hS vw rfl fd (by rw [List.length_map];omega) ?_;rw [List.length_map];intro b2 o2 hel2;refine Qy hS hel2 rfl fd (List.length_map _) (show (vs.map Qj)[q]?=some (Qj (vs.getD q 0)) by rw [List.getElem?_map,hvq];rfl) rfl ?_;refine zm ?_;refine Zad ?_;obtain ⟨b9,pp,rv,ho,hS⟩:=Q21 (hS.out (i:=4) rfl);obtain rfl:=ho.he;refine Zbt ?_;refine zf0 ?_;refine zl hS ?_;refine znc ?_;refine zf0 ?_;refine zl hS ?_;refine ZaT ?_;refine Ybc ?_;refine zm ?_;refine zR3 (c:=Q9J (s:=((s.get a n).stores (s.getV a n) (vs.take q)).p) (wr (s.getV a n+q)) (vs.getD q 0) hS nth1) (h:=?_);rintro v1 w1 ⟨rfl,hS⟩;have hS:=hS.ns;have hS:=Q50 ho hS;rw [←EstS.stores_take hvq] at hS;refine Zbi ?_)
   all_goals (refine zad ?_;refine Zad ?_;exact ⟨⟨q+1,zh,zh,(by omega),hS.sp⟩,Qv (by omega)⟩)
 · skip
   all_goals (refine zex ?_;refine Zae ?_;refine zm ?_;refine zB1 hS [_] ?_;intro b1 w1 hS;rw [List.take_of_length_le (by omega)] at hS;have hS:=St.slOf (T:=2) (es:=1) (css:=[s.getV a n].map Qj) hS rfl (by simp [Qj]) rfl;have hS:St cx _ (rL p _ fr g (sl 2 1 (.slice (some ⟨b1,0,none⟩) 1 1) ([s.getV a n].map Qj)::_)):=hS.sp;refine zR2 (c:=Q5f (j:=0) hf (by simp only [List.length_cons,List.length_nil];omega) hS rfl) (h:=?_);rintro u1 w1 ⟨tv,rfl,hS⟩;refine Zbc ?_;exact .inl ⟨_,rfl,h14,rfl,tv,hS.sp⟩)
end Go.Proofs.YteflkifmgnpbhaaGreat
namespace Go.Proofs.YteflkifmgnpbhaaGreat
open Go.Lir
set_option maxHeartbeats 1000000
attribute [local irreducible] LC.wp Q0 Qk Qh retQ Qt LO.wp Q4 Calls
set_option linter.unusedSimpArgs false
set_option linter.unusedVariables false
variable {cx:Cx}{w:World}{L:List Res}{p:Nat}{c:RC}{fr:List RFV}{g:RFV}{s:EstS}{out:List Int}
attribute [local irreducible] RFrm.val RFrm.args EstS.get EstS.getV EstS.code EstS.word EstS.store EstS.stores
@[reducible] def RC.did (c:RC) (bv:Value):RC:=⟨c.ep,c.fn,c.lv,c.iv,c.e,bv,c.ov,c.fu,c.mo,true⟩
theorem rend_d {e:Tail}{cs:List Value}{vs:List Int}(hx:endR.at cx cs e) (h3:e.op=3) (h8:e.args.length≤100) (hv:g.abs.args e.args=some vs) (hS:St cx w (rS p c [] g s out L)):
 Rets Tryz.prog Q1F [.pointer (some ⟨p,0,none⟩), .agg ⟨cs⟩] w fun u w'=>∃bv,u= .tuple #[]∧oneC bv=true∧St cx w' (rS p (c.did bv) [] g s out (sl 2 1 bv (vs.map Qj)::L)):=by
 obtain ⟨v1,v2,v3,v4,v5,rfl,k1,k2,k3,k4,k5⟩:=Q22 hx
 have hf0:([]:List RFV).length≤1000:=by simp
 all_goals refine lgo tyD Tryz.func84 ?_
 all_goals (refine Zat ?_;intro p3 w1 hS;refine Zaz ?_;refine zR1 (c:=Q5e hf0 (show St cx _ (rL p c [] g _) from hS.sp)) (h:=?_);rintro v9 w1 ⟨b9,o9,rfl,hel,hS⟩;refine ZaB ?_;refine Zaa ?_;refine zf0 ?_;refine zl hS ?_)
 all_goals (refine Ql ?_)
 all_goals (refine Zam ?_;refine Zbv ?_;(first|refine zgn ?_|(refine zgy ?_;refine QQ hS vw fd (show (Q35 [] g).length=1 from rfl) ?_)))
 all_goals (refine Yaz ?_)
 all_goals (refine zpt ?_;refine Zad ?_)
 all_goals refine zct ?_
 all_goals (refine Zae ?_;refine ZaT ?_;refine zf0 ?_;refine zl hS ?_;refine zR2 (c:=Q5u (by omega) hf0 k5 hv (show St cx _ (rL p c [] g _) from hS.sp)) (h:=?_);rintro u2 w2 ⟨hvl,ho2,hS⟩;refine znc ?_;refine zf0 ?_;refine Yad ?_;refine zst hS ?_;intro w1 hS;have hS:=hS.ns;refine znc ?_;refine zf0 ?_;refine zst hS ?_;intro w1 hS;have hS:=hS.ns;refine Zbc ?_;exact ⟨_,rfl,u2,rfl,ho2,hS.sp⟩)
end Go.Proofs.YteflkifmgnpbhaaGreat
namespace Go.Proofs.YteflkifmgnpbhaaGreat
open Go.Lir
set_option maxHeartbeats 1000000
attribute [local irreducible] LC.wp Q0 Qk Qh retQ Qt LO.wp Q4 Calls
set_option linter.unusedSimpArgs false
set_option linter.unusedVariables false
variable {cx:Cx}{w:World}{L:List Res}{p:Nat}{c:RC}{fr:List RFV}{g:RFV}{s:EstS}{out:List Int}
attribute [local irreducible] RFrm.val RFrm.args EstS.get EstS.getV EstS.code EstS.word EstS.store EstS.stores
@[reducible] def RC.upd (c:RC) (lv iv ov:Value):RC:=⟨c.ep,c.fn,lv,iv,c.e,c.bv,ov,c.fu,c.mo,c.dn⟩
theorem Qfk {k:RFV}:((Q35 (fr++[k]) g).take (fr++[k]).length).drop 0=Q35 fr k:=by
 unfold Q35
 rw [List.drop_zero,List.take_append_of_le_length (by simp),List.take_of_length_le (by simp),List.map_append];rfl
theorem rbig_k {k:RFV}(hS:St cx w (big RFV.res (fr++[k])::L)):St cx w (sl 2 1 k.vv (k.vals.map Qj)::big RFV.res fr::L):=by
 have h1:=hS.bigOut (i:=0) (k:=fr.length) (x:=k) rfl (by simp)
 have h2:(fr++[k]).eraseIdx fr.length=fr:=by rw [List.eraseIdx_append_of_length_le (Nat.le_refl _)];simp
 rw [List.set_cons_zero,h2] at h1
 exact h1
theorem rend_k {e:Tail}{cs:List Value}{vs:List Int}{k:RFV}(hx:endR.at cx cs e) (h3:e.op=3) (h8:e.args.length≤100) (hv:g.abs.args e.args=some vs) (hf:fr.length≤900) (hn:k.vals.length≤900000) (hS:St cx w (rS p c (fr++[k]) g s out L)):
 Rets Tryz.prog Q1F [.pointer (some ⟨p,0,none⟩), .agg ⟨cs⟩] w fun u w'=>∃lv tv,u= .tuple #[]∧St cx w' (rS p (c.upd lv c.iv c.ov) fr (k.push tv vs) s out L):=by
 obtain ⟨v1,v2,v3,v4,v5,rfl,k1,k2,k3,k4,k5⟩:=Q22 hx
 have hl1:(fr++[k]).length=fr.length+1:=by simp
 have hf0:(fr++[k]).length≤1000:=by omega
 all_goals refine lgo tyD Tryz.func84 ?_
 all_goals (refine Zat ?_;intro p3 w1 hS;refine Zaz ?_;refine zR1 (c:=Q5e hf0 (show St cx _ (rL p c (fr++[k]) g _) from hS.sp)) (h:=?_);rintro v9 w1 ⟨b9,o9,rfl,hel,hS⟩;refine ZaB ?_;refine Zaa ?_;refine zf0 ?_;refine zl hS ?_)
 all_goals (refine Ql ?_)
 all_goals (refine Zam ?_;refine Zbv ?_;(first|refine zgn ?_|(refine zgy ?_;refine QQ (n:=fr.length+2) hS vw fd (by rw [Qa];omega) ?_)))
 all_goals (refine Ybb ?_)
 all_goals (refine zpt ?_;refine Zad ?_)
 all_goals refine zcf ?_
 all_goals (refine Zaa ?_;refine zf0 ?_;refine zl hS ?_)
 all_goals (refine Ql ?_)
 all_goals (refine Zad ?_)
 all_goals refine zct ?_
 all_goals (refine Zac ?_;refine zf0 ?_;refine zl hS ?_;refine zR2 (c:=Q5u (by omega) hf0 k5 hv (show St cx _ (rL p c (fr++[k]) g _) from hS.sp)) (h:=?_);rintro u2 w2 ⟨hvl,ho2,hS⟩;obtain ⟨a2,n2,rfl⟩:=hS.shape (i:=4) rfl;refine ZaF ?_;refine zD (ci 15 [14]) ?_;have hS:=hS.drew;refine zm ?_;refine ZaA ?_;refine zf0 ?_;refine zl hS ?_;refine ZaA ?_;refine zf0 ?_;refine zl hS ?_;refine QQ (n:=fr.length+2) hS vw fd (by rw [Qa];omega) ?_;refine zsu ?_;rw [show ((fr.length+2:Nat):Int) - 1=(((fr++[k]).length:Nat):Int) by omega];refine s_subE (l':=0) (h':=(fr++[k]).length) hS vw (i:=1) rfl rfl ⟨_,rfl⟩ rfl (by rw [Qa];omega) (by omega) ?_;intro v7 hS;rw [Qfk] at hS;have hS:=hS.ns;have ho7:=hS.oneC (i:=1) rfl)
 all_goals (refine znc ?_;refine zf0 ?_;refine zst hS ?_;intro w1 hS;have hS:=hS.ns;refine ZaJ ?_;refine zm ?_;have hS:=rbig_k (fr:=fr) (k:=k) (L:=blk p 66 _::sl 138 4 v7 (Q35 fr k)::sl 2 1 (.slice a2 _ n2) _::estX c.ep s::sl 2 1 c.ov (out.map Qj)::L) hS.sp;have hS:St cx _ (rL p (c.upd v7 c.iv c.ov) fr k (sl 2 1 (.slice a2 (vs.map Qj).length n2) (vs.map Qj)::estX c.ep s::sl 2 1 c.ov (out.map Qj)::L)):=hS.sp;refine zR2 (c:=Q5f (j:=0) (vs:=vs) (by omega) (by omega) hS rfl) (h:=?_);rintro u1 w1 ⟨tv,rfl,hS⟩;refine Zbc ?_;exact ⟨_,rfl,v7,tv,rfl,hS.sp⟩)
end Go.Proofs.YteflkifmgnpbhaaGreat
namespace Go.Proofs.YteflkifmgnpbhaaGreat
open Go.Lir
set_option maxHeartbeats 1000000
attribute [local irreducible] LC.wp Q0 Qk Qh retQ Qt LO.wp Q4 Calls
set_option linter.unusedSimpArgs false
set_option linter.unusedVariables false
variable {cx:Cx}{w:World}{L:List Res}{p:Nat}{c:RC}{fr:List RFV}{g:RFV}{s:EstS}{out:List Int}
attribute [local irreducible] RFrm.val RFrm.args EstS.get EstS.getV EstS.code EstS.word EstS.store EstS.stores
theorem Q6y {g':RFV}:(Q35 fr g).set fr.length g'.cells=Q35 fr g':=by
 unfold Q35
 rw [List.set_append_right _ _ (by simp)];simp
theorem rend_n {e:Tail}{cs:List Value}{vs:List Int}(hx:endR.at cx cs e) (h2:e.op=2) (ha:g.abs.val e.a=some 0) (h8:e.no.args.length≤100) (hb0:0≤e.no.block) (hv:g.abs.args e.no.args=some vs) (hf:fr.length≤1000) (hS:St cx w (rS p c fr g s out L)):
 Rets Tryz.prog Q1F [.pointer (some ⟨p,0,none⟩), .agg ⟨cs⟩] w fun u w'=>∃vv,u= .tuple #[]∧St cx w' (rS p c fr ⟨g.f,e.no.block.toNat,0,vv,vs⟩ s out L):=by
 obtain ⟨v1,v2,v3,v4,v5,rfl,k1,k2,k3,k4,k5⟩:=Q22 hx
 all_goals refine lgo tyD Tryz.func84 ?_
 all_goals (refine Zat ?_;intro p3 w1 hS;refine Zaz ?_;refine zR1 (c:=Q5e hf (show St cx _ (rL p c fr g _) from hS.sp)) (h:=?_);rintro v9 w1 ⟨b9,o9,rfl,hel,hS⟩;refine ZaB ?_;refine Zaa ?_;refine zf0 ?_;(first|(refine Qy hS hel rfl fd (Qa fr g) (Qe fr g) rfl ?_)|(refine zl hS ?_)))
 all_goals (refine Yap ?_)
 all_goals (refine zm ?_;refine zgn ?_;refine zgn ?_;refine zgn ?_;refine zgn ?_;refine zgn ?_)
 all_goals (refine zgn ?_)
 all_goals (refine Yae ?_;refine Zad ?_)
 all_goals refine zcf ?_
 all_goals (refine Zaa ?_;refine zf0 ?_;(first|(refine Qy hS hel rfl fd (Qa fr g) (Qe fr g) rfl ?_)|(refine zl hS ?_)))
 all_goals (refine Yap ?_)
 all_goals (refine Zad ?_)
 all_goals refine zcf ?_
 all_goals (refine Zaa ?_;refine zf0 ?_;(first|(refine Qy hS hel rfl fd (Qa fr g) (Qe fr g) rfl ?_)|(refine zl hS ?_)))
 all_goals (refine Ql ?_)
 all_goals (refine Zam ?_;refine Yab ?_;(first|refine zgn ?_|(refine zgy ?_;(first|(refine Qy hS hel rfl fd (Qa fr g) (Qe fr g) rfl ?_)|(refine zl hS ?_))));(first|refine zgn ?_|(refine zgy ?_;refine zR2 (c:=Q2z hf (show St cx _ (rL p c fr g _) from hS.sp) ha) (h:=?_);rintro v7 w7 ⟨rfl,hS⟩)))
 all_goals (refine Yaz ?_)
 all_goals (refine zpt ?_;refine Zad ?_)
 all_goals refine zct ?_
 all_goals (refine zC [(0,none),(1,none),(2,none),(3,none),(4,none),(5,none),(6,none),(7,none),(8,none),(9,none),(10,none),(11,none),(12,some (some [4,7])),(13,none),(14,none),(15,some none)] ?_;have hS:=hS.drew;refine Zbg ?_;refine Zbw ?_;refine Qy hS hel rfl fd (Qa fr g) (Qe fr g) rfl ?_;refine Zab ?_;refine zf0 ?_;refine Zbb ?_;(first|(refine Qy hS hel rfl fd (Qa fr g) (Qe fr g) rfl ?_)|(refine zl hS ?_));refine Zaq ?_;refine zf0 ?_;refine Zbb ?_;(first|(refine Qy hS hel rfl fd (Qa fr g) (Qe fr g) rfl ?_)|(refine zl hS ?_));refine zt ?_)
 all_goals (refine Q4g ?_;refine zR2 (c:=Q5u (by omega) hf k4 hv (show St cx _ (rL p c fr g _) from hS.sp)) (h:=?_);rintro u2 w2 ⟨hvl,ho2,hS⟩;obtain ⟨a2,n2,rfl⟩:=hS.shape (i:=4) rfl;refine zt ?_;refine ⟨List.forall_mem_cons.2 ⟨(by (exact Qm hS hel rfl fd (Qa fr g) (Qe fr g) rfl)),List.forall_mem_cons.2 ⟨(by first|(exact Qm hS hel rfl fd (Qa fr g) (Qe fr g) rfl)|(exact QL hS rfl fd rfl)),fun _ h=> (List.not_mem_nil h).elim⟩⟩,?_⟩;refine s_cq ?_;refine zb3 [_,_,_,_] ?_;refine Zab ?_;refine znc ?_;refine Zau ?_;refine Q2W (css':=Q35 fr ⟨g.f,e.no.block.toNat,0, .slice a2 (vs.map Qj).length n2,vs⟩) hS hel rfl vw (by rfl) fd (Qa fr g) (Qe fr g) rfl (by simp [oneC,ho2]) (by rw [show Value.int .i64 e.no.block= .int .i64 ((e.no.block.toNat:Nat):Int) by rw [Int.toNat_of_nonneg hb0]];exact Q6y (g':=⟨g.f,e.no.block.toNat,0, .slice a2 (vs.map Qj).length n2,vs⟩)) ?_;intro w8 hS;have hS:=hS.ns;refine Zao ?_)
 all_goals (refine Qz ?_;exact ⟨_,rfl,_,rfl,hS.sp⟩)
theorem rend_y {e:Tail}{cs:List Value}{vs:List Int}{n:Int}(hx:endR.at cx cs e) (h2:e.op=2) (h0:n≠0) (ha:g.abs.val e.a=some n) (h8:e.yes.args.length≤100) (hb0:0≤e.yes.block) (hv:g.abs.args e.yes.args=some vs) (hf:fr.length≤1000) (hS:St cx w (rS p c fr g s out L)):
 Rets Tryz.prog Q1F [.pointer (some ⟨p,0,none⟩), .agg ⟨cs⟩] w fun u w'=>∃vv,u= .tuple #[]∧St cx w' (rS p c fr ⟨g.f,e.yes.block.toNat,0,vv,vs⟩ s out L):=by
 obtain ⟨v1,v2,v3,v4,v5,rfl,k1,k2,k3,k4,k5⟩:=Q22 hx
 all_goals refine lgo tyD Tryz.func84 ?_
 all_goals (refine Zat ?_;intro p3 w1 hS;refine Zaz ?_;refine zR1 (c:=Q5e hf (show St cx _ (rL p c fr g _) from hS.sp)) (h:=?_);rintro v9 w1 ⟨b9,o9,rfl,hel,hS⟩;refine ZaB ?_;refine Zaa ?_;refine zf0 ?_;(first|(refine Qy hS hel rfl fd (Qa fr g) (Qe fr g) rfl ?_)|(refine zl hS ?_)))
 all_goals (refine Yap ?_)
 all_goals (refine zm ?_;refine zgn ?_;refine zgn ?_;refine zgn ?_;refine zgn ?_;refine zgn ?_)
 all_goals (refine zgn ?_)
 all_goals (refine Yae ?_;refine Zad ?_)
 all_goals refine zcf ?_
 all_goals (refine Zaa ?_;refine zf0 ?_;(first|(refine Qy hS hel rfl fd (Qa fr g) (Qe fr g) rfl ?_)|(refine zl hS ?_)))
 all_goals (refine Yap ?_)
 all_goals (refine Zad ?_)
 all_goals refine zcf ?_
 all_goals (refine Zaa ?_;refine zf0 ?_;(first|(refine Qy hS hel rfl fd (Qa fr g) (Qe fr g) rfl ?_)|(refine zl hS ?_)))
 all_goals (refine Ql ?_)
 all_goals (refine Zam ?_;refine Yab ?_;(first|refine zgn ?_|(refine zgy ?_;(first|(refine Qy hS hel rfl fd (Qa fr g) (Qe fr g) rfl ?_)|(refine zl hS ?_))));(first|refine zgn ?_|(refine zgy ?_;refine zR2 (c:=Q2z hf (show St cx _ (rL p c fr g _) from hS.sp) ha) (h:=?_);rintro v7 w7 ⟨rfl,hS⟩)))
 all_goals (refine Ybb ?_)
 all_goals (refine zpt ?_;refine Zad ?_)
 all_goals refine zcf ?_
 all_goals (refine zC [(0,none),(1,none),(2,none),(3,none),(4,none),(5,none),(6,none),(7,none),(8,none),(9,none),(10,none),(11,none),(12,some (some [4,7])),(13,none),(14,none),(15,some none)] ?_;have hS:=hS.drew;refine Zbg ?_;refine Zbw ?_;refine Qy hS hel rfl fd (Qa fr g) (Qe fr g) rfl ?_;refine Zab ?_;refine zf0 ?_;refine Zbb ?_;(first|(refine Qy hS hel rfl fd (Qa fr g) (Qe fr g) rfl ?_)|(refine zl hS ?_));refine Zaq ?_;refine zf0 ?_;refine Zbb ?_;(first|(refine Qy hS hel rfl fd (Qa fr g) (Qe fr g) rfl ?_)|(refine zl hS ?_));refine zt ?_)
 all_goals (refine Q4g ?_;refine zR2 (c:=Q5u (by omega) hf k2 hv (show St cx _ (rL p c fr g _) from hS.sp)) (h:=?_);rintro u2 w2 ⟨hvl,ho2,hS⟩;obtain ⟨a2,n2,rfl⟩:=hS.shape (i:=4) rfl;refine zt ?_;refine ⟨List.forall_mem_cons.2 ⟨(by (exact Qm hS hel rfl fd (Qa fr g) (Qe fr g) rfl)),List.forall_mem_cons.2 ⟨(by first|(exact Qm hS hel rfl fd (Qa fr g) (Qe fr g) rfl)|(exact QL hS rfl fd rfl)),fun _ h=> (List.not_mem_nil h).elim⟩⟩,?_⟩;refine s_cq ?_;refine zb3 [_,_,_,_] ?_;refine Zab ?_;refine znc ?_;refine Zau ?_;refine Q2W (css':=Q35 fr ⟨g.f,e.yes.block.toNat,0, .slice a2 (vs.map Qj).length n2,vs⟩) hS hel rfl vw (by rfl) fd (Qa fr g) (Qe fr g) rfl (by simp [oneC,ho2]) (by rw [show Value.int .i64 e.yes.block= .int .i64 ((e.yes.block.toNat:Nat):Int) by rw [Int.toNat_of_nonneg hb0]];exact Q6y (g':=⟨g.f,e.yes.block.toNat,0, .slice a2 (vs.map Qj).length n2,vs⟩)) ?_;intro w8 hS;have hS:=hS.ns;refine Zao ?_)
 all_goals (refine Qz ?_;exact ⟨_,rfl,_,rfl,hS.sp⟩)
theorem rend_j {e:Tail}{cs:List Value}{vs:List Int}(hx:endR.at cx cs e) (h2:e.op≠2) (h3:e.op≠3) (h8:e.yes.args.length≤100) (hb0:0≤e.yes.block) (hv:g.abs.args e.yes.args=some vs) (hf:fr.length≤1000) (hS:St cx w (rS p c fr g s out L)):
 Rets Tryz.prog Q1F [.pointer (some ⟨p,0,none⟩), .agg ⟨cs⟩] w fun u w'=>∃vv,u= .tuple #[]∧St cx w' (rS p c fr ⟨g.f,e.yes.block.toNat,0,vv,vs⟩ s out L):=by
 obtain ⟨v1,v2,v3,v4,v5,rfl,k1,k2,k3,k4,k5⟩:=Q22 hx
 all_goals refine lgo tyD Tryz.func84 ?_
 all_goals (refine Zat ?_;intro p3 w1 hS;refine Zaz ?_;refine zR1 (c:=Q5e hf (show St cx _ (rL p c fr g _) from hS.sp)) (h:=?_);rintro v9 w1 ⟨b9,o9,rfl,hel,hS⟩;refine ZaB ?_;refine Zaa ?_;refine zf0 ?_;(first|(refine Qy hS hel rfl fd (Qa fr g) (Qe fr g) rfl ?_)|(refine zl hS ?_)))
 all_goals (refine Yap ?_)
 all_goals (refine zm ?_;refine zgn ?_;refine zgn ?_;refine zgn ?_;refine zgn ?_;refine zgn ?_)
 all_goals (refine zgn ?_)
 all_goals (refine Yae ?_;refine Zad ?_)
 all_goals refine zcf ?_
 all_goals (refine Zaa ?_;refine zf0 ?_;(first|(refine Qy hS hel rfl fd (Qa fr g) (Qe fr g) rfl ?_)|(refine zl hS ?_)))
 all_goals (refine Yap ?_)
 all_goals (refine Zad ?_)
 all_goals refine zcf ?_
 all_goals (refine Zaa ?_;refine zf0 ?_;(first|(refine Qy hS hel rfl fd (Qa fr g) (Qe fr g) rfl ?_)|(refine zl hS ?_)))
 all_goals (refine Yap ?_)
 all_goals (refine zm ?_;refine zgn ?_;refine zgn ?_;refine zgn ?_;refine zgn ?_)
 all_goals (refine zgn ?_)
 all_goals (refine Yae ?_;refine Zad ?_)
 all_goals refine zcf ?_
 all_goals (refine zC [(0,none),(1,none),(2,none),(3,none),(4,none),(5,none),(6,none),(7,none),(8,none),(9,none),(10,none),(11,none),(12,some (some [4,7])),(13,none),(14,none),(15,some none)] ?_;have hS:=hS.drew;refine Zbg ?_;refine Zbw ?_;refine Qy hS hel rfl fd (Qa fr g) (Qe fr g) rfl ?_;refine Zab ?_;refine zf0 ?_;refine Zbb ?_;(first|(refine Qy hS hel rfl fd (Qa fr g) (Qe fr g) rfl ?_)|(refine zl hS ?_));refine Zaq ?_;refine zf0 ?_;refine Zbb ?_;(first|(refine Qy hS hel rfl fd (Qa fr g) (Qe fr g) rfl ?_)|(refine zl hS ?_));refine zt ?_)
 all_goals (refine Q4g ?_;refine zR2 (c:=Q5u (by omega) hf k2 hv (show St cx _ (rL p c fr g _) from hS.sp)) (h:=?_);rintro u2 w2 ⟨hvl,ho2,hS⟩;obtain ⟨a2,n2,rfl⟩:=hS.shape (i:=4) rfl;refine zt ?_;refine ⟨List.forall_mem_cons.2 ⟨(by (exact Qm hS hel rfl fd (Qa fr g) (Qe fr g) rfl)),List.forall_mem_cons.2 ⟨(by first|(exact Qm hS hel rfl fd (Qa fr g) (Qe fr g) rfl)|(exact QL hS rfl fd rfl)),fun _ h=> (List.not_mem_nil h).elim⟩⟩,?_⟩;refine s_cq ?_;refine zb3 [_,_,_,_] ?_;refine Zab ?_;refine znc ?_;refine Zau ?_;refine Q2W (css':=Q35 fr ⟨g.f,e.yes.block.toNat,0, .slice a2 (vs.map Qj).length n2,vs⟩) hS hel rfl vw (by rfl) fd (Qa fr g) (Qe fr g) rfl (by simp [oneC,ho2]) (by rw [show Value.int .i64 e.yes.block= .int .i64 ((e.yes.block.toNat:Nat):Int) by rw [Int.toNat_of_nonneg hb0]];exact Q6y (g':=⟨g.f,e.yes.block.toNat,0, .slice a2 (vs.map Qj).length n2,vs⟩)) ?_;intro w8 hS;have hS:=hS.ns;refine Zao ?_)
 all_goals (refine Qz ?_;exact ⟨_,rfl,_,rfl,hS.sp⟩)
end Go.Proofs.YteflkifmgnpbhaaGreat
namespace Go.Proofs.YteflkifmgnpbhaaGreat
open Go.Lir
set_option maxHeartbeats 1000000
attribute [local irreducible] LC.wp Q0 Qk Qh retQ Qt LO.wp Q4 Calls
set_option linter.unusedSimpArgs false
set_option linter.unusedVariables false
theorem QeJ (b:Bool) (w:World):Rets Tryz.prog QcT [.bool b] w fun v w'=> v= .int .i64 (if b then 1 else 0)∧w'=w:=by
 cases b
 all_goals
  all_goals refine lgo tyD Tryz.func195 ?_
  all_goals (refine Zaf ?_;refine QB ?_;refine Zaf ?_)
  all_goals
   first
   | (refine zct ?_
      all_goals (refine Zas ?_)
      all_goals (exact ⟨_,rfl,rfl,rfl⟩))
   | (refine zcf ?_
      all_goals (refine zsk ?_))
  all_goals (refine Zas ?_;exact ⟨_,rfl,rfl,rfl⟩)
theorem QdG (a b:Int) (w:World):Rets Tryz.prog QbO [.int .i64 a, .int .i64 b] w fun v w'=> v= .tuple #[.int .i64 (divF a b).1, .bool (divF a b).2]∧w'=w:=by
 all_goals refine lgo tyD Tryz.func194 ?_
 all_goals (refine Zac ?_;refine ZaF ?_;refine Zaf ?_;refine Zby ?_)
 all_goals (first|(refine Ql ?_)|(refine Qo ?_)|(refine Q8 rfl rfl (fun hc=> ?_) (fun hc=> ?_)))
 all_goals (refine Zad ?_)
 all_goals
  first
  | (refine zct ?_
     all_goals (refine Zac ?_;refine ZaZ ?_)
     all_goals (exact ⟨_,rfl,by simp [divF, *],rfl⟩))
  | (refine zcf ?_
     all_goals (refine Zaa ?_)
     all_goals (first|(refine Ql ?_)|(refine Qo ?_)|(refine Q8 rfl rfl (fun hc=> ?_) (fun hc=> ?_)))
     all_goals (refine Zad ?_)
     all_goals
      first
      | (refine zct ?_
         all_goals (refine Zac ?_;refine s_neg rfl ?_;refine Zbz ?_)
         all_goals (exact ⟨_,rfl,by simp [divF, *],rfl⟩))
      | (refine zcf ?_
         all_goals (refine zsk ?_)))
 all_goals (refine ZaX ?_;refine s_quo rfl rfl (by omega) ?_;refine Zbz ?_;exact ⟨_,rfl,by simp [divF, *],rfl⟩)
set_option maxHeartbeats 1000000 in
theorem op_c (k a b : Int) (w :World):Rets Tryz.prog QdK [.int .i64 k, .int .i64 a, .int .i64 b] w fun v w'=> v= .tuple #[.int .i64 (opF k a b).1, .bool (opF k a b).2]∧w'=w:=by
 cases hd:(divF a b).2
 all_goals
  all_goals refine lgo tyD Tryz.func134 ?_
  all_goals (refine Zac ?_;refine ZaF ?_;refine Zaf ?_;refine Zby ?_)
  all_goals (first|(refine Ql ?_)|(refine Qo ?_)|(refine Q8 rfl rfl (fun hc=> ?_) (fun hc=> ?_)))
  all_goals (refine Zad ?_)
  all_goals
   first
   | (refine zct ?_
      all_goals (refine ZaX ?_;refine Q9j rfl rfl ?_;refine Zbz ?_)
      all_goals (exact ⟨_,rfl,by simp [opF, *],rfl⟩))
   | (refine zcf ?_
      all_goals (refine Zaa ?_)
      all_goals (first|(refine Ql ?_)|(refine Qo ?_)|(refine Q8 rfl rfl (fun hc=> ?_) (fun hc=> ?_)))
      all_goals (refine Zad ?_)
      all_goals
       first
       | (refine zct ?_
          all_goals (refine ZaX ?_;(first|(refine Q9j rfl rfl ?_)|(refine Q9M rfl rfl ?_));refine Zbz ?_)
          all_goals (exact ⟨_,rfl,by simp [opF, *],rfl⟩))
       | (refine zcf ?_
          all_goals (refine Zaa ?_)
          all_goals (first|(refine Ql ?_)|(refine Qo ?_)|(refine Q8 rfl rfl (fun hc=> ?_) (fun hc=> ?_)))
          all_goals (refine Zad ?_)
          all_goals
           first
           | (refine zct ?_
              all_goals (refine ZaX ?_;(first|(refine Q9j rfl rfl ?_)|(refine Q9M rfl rfl ?_)|(refine s_mulw rfl rfl ?_));refine Zbz ?_)
              all_goals (exact ⟨_,rfl,by simp [opF, *],rfl⟩))
           | (refine zcf ?_
              all_goals (refine Zaa ?_)
              all_goals (first|(refine Ql ?_)|(refine Qo ?_)|(refine Q8 rfl rfl (fun hc=> ?_) (fun hc=> ?_)))
              all_goals (refine Zad ?_)
              all_goals
               first
               | (refine zct ?_
                  all_goals (refine ZaX ?_;refine Q3C rfl (QdG _ _ _) ?_;rw [hd];rintro _ _ ⟨rfl,rfl⟩;refine Zba ?_;refine Zbz ?_)
                  all_goals (exact ⟨_,rfl,by simp [opF, *],rfl⟩))
               | (refine zcf ?_
                  all_goals (refine Zaa ?_)
                  all_goals (first|(refine Ql ?_)|(refine Qo ?_)|(refine Q8 rfl rfl (fun hc=> ?_) (fun hc=> ?_)))
                  all_goals (refine Zad ?_)
                  all_goals
                   first
                   | (refine zct ?_
                      all_goals (refine ZaX ?_;refine Q3C rfl (QdG _ _ _) ?_;rw [hd];rintro _ _ ⟨rfl,rfl⟩;refine zm ?_;refine Zba ?_;refine zm ?_;refine Zbj ?_;refine Zbm ?_)
                      all_goals
                       first
                       | (refine zct ?_
                          all_goals (refine Zac ?_;refine ZaZ ?_)
                          all_goals (exact ⟨_,rfl,by simp [opF, *],rfl⟩))
                       | (refine zcf ?_
                          all_goals (refine zsk ?_))
                      all_goals (refine Zac ?_;refine ZaT ?_;(first|(refine Q9j rfl rfl ?_)|(refine Q9M rfl rfl ?_)|(refine s_mulw rfl rfl ?_));(first|(refine Q9j rfl rfl ?_)|(refine Q9M rfl rfl ?_));refine Zbz ?_)
                      all_goals (exact ⟨_,rfl,by simp [opF, *],rfl⟩))
                   | (refine zcf ?_
                      all_goals (refine Zaa ?_)
                      all_goals (first|(refine Ql ?_)|(refine Qo ?_)|(refine Q8 rfl rfl (fun hc=> ?_) (fun hc=> ?_)))
                      all_goals (refine Zad ?_)
                      all_goals
                       first
                       | (refine zct ?_
                          all_goals (refine ZaX ?_)
                          all_goals (first|(refine Q15 ?_)|(refine Q1c ?_)|(refine Qu rfl rfl (fun hc=> ?_) (fun hc=> ?_)))
                          all_goals (refine Q3C rfl (QeJ _ _) ?_;rintro _ _ ⟨rfl,rfl⟩;refine Zbz ?_)
                          all_goals (exact ⟨_,rfl,by simp [opF, *],rfl⟩))
                       | (refine zcf ?_
                          all_goals (refine Zaa ?_)
                          all_goals (first|(refine Ql ?_)|(refine Qo ?_)|(refine Q8 rfl rfl (fun hc=> ?_) (fun hc=> ?_)))
                          all_goals (refine Zad ?_)
                          all_goals
                           first
                           | (refine zct ?_
                              all_goals (refine ZaX ?_)
                              all_goals (first|(refine Ql ?_)|(refine Qo ?_)|(refine Q8 rfl rfl (fun hc=> ?_) (fun hc=> ?_)))
                              all_goals (refine Q3C rfl (QeJ _ _) ?_;rintro _ _ ⟨rfl,rfl⟩;refine Zbz ?_)
                              all_goals (exact ⟨_,rfl,by simp [opF, *],rfl⟩))
                           | (refine zcf ?_
                              all_goals (refine Zaa ?_)
                              all_goals (first|(refine Ql ?_)|(refine Qo ?_)|(refine Q8 rfl rfl (fun hc=> ?_) (fun hc=> ?_)))
                              all_goals (refine Zad ?_)
                              all_goals
                               first
                               | (refine zct ?_
                                  all_goals (refine ZaX ?_;refine s_and rfl rfl ?_;refine Zbz ?_)
                                  all_goals (exact ⟨_,rfl,by simp [opF, *],rfl⟩))
                               | (refine zcf ?_
                                  all_goals (refine Zaa ?_)
                                  all_goals (first|(refine Ql ?_)|(refine Qo ?_)|(refine Q8 rfl rfl (fun hc=> ?_) (fun hc=> ?_)))
                                  all_goals (refine Zad ?_)
                                  all_goals
                                   first
                                   | (refine zct ?_
                                      all_goals (refine ZaX ?_;refine s_xor rfl rfl ?_;refine Zbz ?_)
                                      all_goals (exact ⟨_,rfl,by simp [opF, *],rfl⟩))
                                   | (refine zcf ?_
                                      all_goals (refine zsk ?_))))))))))
  all_goals (refine Zac ?_;refine ZaZ ?_;exact ⟨_,rfl,by simp [opF, *],rfl⟩)
theorem op_s {cx:Cx}{w:World}{L:List Res}{k a b:Int}(hS:St cx w L):Rets Tryz.prog QdK [.int .i64 k, .int .i64 a, .int .i64 b] w fun v w'=> v= .tuple #[.int .i64 (opF k a b).1, .bool (opF k a b).2]∧St cx w' L:=
 (op_c k a b w).mono fun _ _ ⟨h1,h2⟩=> ⟨h1,by rw [h2];exact hS⟩
end Go.Proofs.YteflkifmgnpbhaaGreat
namespace Go.Proofs.YteflkifmgnpbhaaGreat
open Go.Lir
set_option maxHeartbeats 1000000
attribute [local irreducible] LC.wp Q0 Qk Qh retQ Qt LO.wp Q4 Calls
set_option linter.unusedSimpArgs false
set_option linter.unusedVariables false
theorem Q11 {α:Type}{o:Option α}{f:α→RStp}(h:Q1t o f≠ .crash):∃a,o=some a∧Q1t o f=f a:=by
 cases o with
 | none=> exact absurd rfl h
 | some a=> exact ⟨a,rfl,rfl⟩
section
variable {m:Module}{s:RS}{x:Ins}
theorem xr_1 (h:x.op=1):s.ins m x= .go (s.put [x.n]):=by unfold RS.ins;rw [if_pos h]
theorem xr_2 (h:x.op=2):s.ins m x=Q1t (s.g.val x.a) fun a=> Q1t (s.g.val x.b) fun b=> if (opF x.k a b).2=false then .halt 1 else .go (s.put [(opF x.k a b).1]):=by unfold RS.ins;rw [if_neg (by omega),if_pos h]
theorem xr_3 (h:x.op=3):s.ins m x=if s.e.openV < 0 then .halt 6 else .go ((s.es s.e.open).put [s.e.openV]):=by unfold RS.ins;rw [if_neg (by omega),if_neg (by omega),if_pos h]
theorem xr_4 (h:x.op=4):s.ins m x=Q1t (s.g.val x.a) fun a=> .go (s.es (s.e.shut a)):=by unfold RS.ins;rw [if_neg (by omega),if_neg (by omega),if_neg (by omega),if_pos h]
theorem xr_5 (h:x.op=5):s.ins m x=Q1t (s.g.val x.a) fun a=> Q1t (s.g.args x.args) fun l=> s.gotR a (max (x.args.length:Int) 1) fun e at_=> .go ((s.es (e.stores at_ l)).put [at_]):=by unfold RS.ins;rw [if_neg (by omega),if_neg (by omega),if_neg (by omega),if_neg (by omega),if_pos h]
theorem xr_6 (h:x.op=6):s.ins m x=Q1t (s.g.val x.a) fun a=> .go (s.put [s.e.word (wr (a+x.k))]):=by unfold RS.ins;rw [if_neg (by omega),if_neg (by omega),if_neg (by omega),if_neg (by omega),if_neg (by omega),if_pos h]
theorem xr_7 (h:x.op=7):s.ins m x=Q1t (s.g.val x.a) fun a=> Q1t (s.g.val x.b) fun b=> .go (s.es (s.e.store (wr (a+x.k)) b)):=by unfold RS.ins;rw [if_neg (by omega),if_neg (by omega),if_neg (by omega),if_neg (by omega),if_neg (by omega),if_neg (by omega),if_pos h]
theorem xr_8 (h:x.op=8):s.ins m x=Q1t (s.g.val x.a) fun a=> Q1t (s.g.val x.b) fun n=> if n < 0∨15 < n then .halt 3 else s.gotR a (1+n) fun e at_=> .go ((s.es (e.store at_ n)).put [at_]):=by unfold RS.ins;rw [if_neg (by omega),if_neg (by omega),if_neg (by omega),if_neg (by omega),if_neg (by omega),if_neg (by omega),if_neg (by omega),if_pos h]
theorem xr_9 (h:x.op=9):s.ins m x=Q1t (s.g.val x.a) fun a=> Q1t (s.g.val x.b) fun k=> s.atR a k fun q=> .go (s.put [s.e.word q]):=by unfold RS.ins;rw [if_neg (by omega),if_neg (by omega),if_neg (by omega),if_neg (by omega),if_neg (by omega),if_neg (by omega),if_neg (by omega),if_neg (by omega),if_pos h]
theorem xr_10 (h:x.op=10):s.ins m x=Q1t (s.g.val x.a) fun a=> Q1t (s.g.val x.b) fun k=> Q1t (s.g.val x.c) fun c=> s.atR a k fun q=> .go (s.es (s.e.store q c)):=by unfold RS.ins;rw [if_neg (by omega),if_neg (by omega),if_neg (by omega),if_neg (by omega),if_neg (by omega),if_neg (by omega),if_neg (by omega),if_neg (by omega),if_neg (by omega),if_pos h]
theorem xr_11 (h:x.op=11):s.ins m x=Q1t (s.g.val x.a) fun a=> .go (s.put [s.e.word a]):=by unfold RS.ins;rw [if_neg (by omega),if_neg (by omega),if_neg (by omega),if_neg (by omega),if_neg (by omega),if_neg (by omega),if_neg (by omega),if_neg (by omega),if_neg (by omega),if_neg (by omega),if_pos h]
theorem xr_12 (h:x.op=12):s.ins m x=s.inR:=by unfold RS.ins;rw [if_neg (by omega),if_neg (by omega),if_neg (by omega),if_neg (by omega),if_neg (by omega),if_neg (by omega),if_neg (by omega),if_neg (by omega),if_neg (by omega),if_neg (by omega),if_neg (by omega),if_pos h]
theorem xr_13 (h:x.op=13):s.ins m x=Q1t (s.g.val x.a) fun n=> s.outR n:=by unfold RS.ins;rw [if_neg (by omega),if_neg (by omega),if_neg (by omega),if_neg (by omega),if_neg (by omega),if_neg (by omega),if_neg (by omega),if_neg (by omega),if_neg (by omega),if_neg (by omega),if_neg (by omega),if_neg (by omega),if_pos h]
theorem xr_14 (h:x.op=14):s.ins m x=Q1t (s.g.args x.args) fun vs=> s.callR x.k vs:=by unfold RS.ins;rw [if_neg (by omega),if_neg (by omega),if_neg (by omega),if_neg (by omega),if_neg (by omega),if_neg (by omega),if_neg (by omega),if_neg (by omega),if_neg (by omega),if_neg (by omega),if_neg (by omega),if_neg (by omega),if_neg (by omega)]
theorem got_14 {r n:Int}{k:EstS→Int→RStp}(h:s.e.code r n=14):s.gotR r n k= .halt 6:=if_pos h
theorem got_s {r n:Int}{k:EstS→Int→RStp}(h:s.e.code r n≠14):s.gotR r n k=k (s.e.get r n) (s.e.getV r n):=if_neg h
theorem at_2 {a k:Int}{c:Int→RStp}(h:k < 0∨s.e.p.word a≤k):s.atR a k c= .halt 2:=if_pos h
theorem at_s {a k:Int}{c:Int→RStp}(h:¬(k < 0∨s.e.p.word a≤k)):s.atR a k c=c (wr (wr (a+1)+k)):=if_neg h
theorem rin_0 (e:s.inp=[]):s.inR= .halt 4:=by unfold RS.inR;rw [e]
theorem rin_s {n:Int}{r:List Int}(e:s.inp=n::r):s.inR= .go ((⟨s.e,s.g,s.st,r,s.out,s.fuel⟩:RS).put [n]):=by unfold RS.inR;rw [e]
theorem rout_0 {n:Int}(e:s.out.length=2000):s.outR n= .halt 8:=if_pos e
theorem rout_s {n:Int}(e:s.out.length≠2000):s.outR n= .go ⟨s.e,s.g,s.st,s.inp,s.out++[n],s.fuel⟩:=if_neg e
theorem rcall_0 {k:Int}{vs:List Int}(e:s.st.length+1=40):s.callR k vs= .halt 5:=if_pos e
theorem rcall_s {k:Int}{vs:List Int}(e:s.st.length+1≠40):s.callR k vs= .go ⟨s.e,⟨k.toNat,0,0,vs⟩,s.g::s.st,s.inp,s.out,s.fuel⟩:=if_neg e
end
variable {cx:Cx}{w:World}{L:List Res}{p:Nat}{c:RC}{fr:List RFV}{g:RFV}{s:EstS}{out inp:List Int}{fu:Nat}{m:Module}
def rsOf (s:EstS) (g:RFV) (fr:List RFV) (inp out:List Int) (fu:Nat):RS:=⟨s,g.abs,(fr.map RFV.abs).reverse,inp,out,fu⟩
def RGo (p:Nat) (c:RC) (fu:Nat) (X:RStp) (cx:Cx) (L:List Res) (u:Value) (w':World):Prop:=
 ∃lv i1 ov fr' g' s' inp' out',X= .go (rsOf s' g' fr' inp' out' fu)∧intR.sl cx i1 inp'∧u= .tuple #[]∧St cx w' (rS p (c.upd lv i1 ov) fr' g' s' out' L)
def RBad (p:Nat) (c:RC) (s:EstS) (out:List Int) (X:RStp) (cx:Cx) (L:List Res) (u:Value) (w':World):Prop:=
 ∃e,X= .halt e∧u=Q8W e∧∃fr' g',St cx w' (rS p c fr' g' s out L)
def RFV.nx (g:RFV):RFV:=⟨g.f,g.b,g.i+1,g.vv,g.vals⟩
theorem Qed {l:List Int}{n:Int}:l.map Qj++[[.int .i64 n]]=(l++[n]).map Qj:=by rw [List.map_append];rfl
theorem QdZ {k:RFV}:Q35 fr g++[k.cells]=Q35 (fr++[g]) k:=by unfold Q35;rw [List.map_append];rfl
theorem rbig_in {k:RFV}(h:St cx w (sl 2 1 k.vv (k.vals.map Qj)::big RFV.res fr::L)):St cx w (big RFV.res (fr++[k])::L):=by
 have h1:St cx w (fr.map RFV.res++(RFV.res k::L)):=h.mv1.list
 have h2:St cx w ((fr++[k]).map RFV.res++L):=by simpa using h1
 exact h2.list'
theorem Qa7 (h:s.openV < 0):s.open=s:=by
 unfold EstS.openV at h
 unfold EstS.open
 split at h
 · omega
 · rename_i hl;exact if_neg hl
theorem Qb5 {g':RFV}:rsOf s g' (fr++[g]) inp out fu=⟨s,g'.abs,g.abs::(fr.map RFV.abs).reverse,inp,out,fu⟩:=by unfold rsOf;simp
attribute [local irreducible] RFrm.val RFrm.args EstS.get EstS.getV EstS.code PoolS.word EstS.store EstS.stores EstS.open EstS.openV EstS.shut RS.ins opF
theorem rwins_c {x : Ins} {cs : List Value} (hx : insR.at cx cs x) (hi:intR.sl cx c.iv inp) (hop:1≤x.op∧x.op≤14) (hk:x.op=14→0≤x.k) (h8:x.args.length≤100) (hgi:g.i≤1000) (hf:fr.length≤900) (hn:g.vals.length≤800000) (hol:out.length≤2000) (hX0:(rsOf s g.nx fr inp out fu).ins m x≠ .crash) (hS:St cx w (rS p c fr g s out L)):
 Fins Tryz.prog Q82 [.pointer (some ⟨p,0,none⟩), .agg ⟨cs⟩] w (RGo p c fu ((rsOf s g.nx fr inp out fu).ins m x) cx L) (RBad p c s out ((rsOf s g.nx fr inp out fu).ins m x) cx L):=by
 obtain ⟨vr,va,rfl,hr,ha1⟩:=QZ hx
 obtain ⟨ep,f1,lv,i1,e1,bv,ov,f2,mo,dn⟩:=c
 have hil:=hi.len
 unfold Fins
 all_goals refine lgo tyD Tryz.func83 ?_
 all_goals (refine Zat ?_;intro p3 w1 hS;refine Zal ?_;have hS:St cx _ (rS p ⟨ep,f1,lv,i1,e1,bv,ov,f2,mo,dn⟩ fr g s out (blk p3 84 [.int .i64 x.op, .int .i64 x.a, .int .i64 x.b, .int .i64 x.c, .int .i64 x.k, .int .i64 x.n,vr,va]::L)):=hS.sp;refine Zae ?_;refine zR1 (c:=Q5e (by omega) hS) (h:=?_);rintro v1 w1 ⟨b9,o9,rfl,hel,hS⟩;refine ZaU ?_;refine Q6 hS hel rfl fd (Qa fr g) (Qe fr g) rfl ?_;refine zad ?_;rw [show ((g.i:Int)+1)=((g.i+1:Nat):Int) by omega];refine ZaU ?_;refine Q1s hS hel rfl vw fd (Qa fr g) (Qe fr g) (by omega) rfl (Qb6 (g':=g.nx) rfl) ?_;intro w8 hS;have hS:=hS.ns;have hS:St cx _ (rS p ⟨ep,f1,lv,i1,e1,bv,ov,f2,mo,dn⟩ fr g.nx s out (blk p3 84 [.int .i64 x.op, .int .i64 x.a, .int .i64 x.b, .int .i64 x.c, .int .i64 x.k, .int .i64 x.n,vr,va]::L)):=hS.sp;refine ZaD ?_;refine zf0 ?_;refine zl hS ?_;refine zn ?_;refine Zby ?_)
 all_goals (first|(refine Ql ?_)|(refine Qo ?_)|(refine Q8 rfl rfl (fun hc=> ?_) (fun hc=> ?_)))
 all_goals (refine Zad ?_)
 all_goals
  first
  | (refine zct ?_
     all_goals (have hX:=xr_1 (m:=m) (s:=rsOf s g.nx fr inp out fu) (x:=x) (by omega);refine Zae ?_;refine zf0 ?_;refine zl hS ?_;refine zB1 hS [_] ?_;intro b1 w1 hS;have hS:=St.slOf (T:=2) (es:=1) (css:=[x.n].map Qj) hS rfl (by simp [Qj]) rfl;have hS:St cx _ (rL p _ fr g.nx (sl 2 1 (.slice (some ⟨b1,0,none⟩) 1 1) ([x.n].map Qj)::_)):=hS.sp;refine zR2 (c:=Q5f (j:=0) (by omega) (by show g.vals.length+1≤1000000;omega) hS rfl) (h:=?_);rintro u1 w1 ⟨tv,rfl,hS⟩;refine zn ?_)
     all_goals (have hG:RGo p ⟨ep,f1,lv,i1,e1,bv,ov,f2,mo,dn⟩ fu ((rsOf s g.nx fr inp out fu).ins m x) cx L (.tuple #[]) w1:=⟨lv,i1,ov,fr,g.nx.push tv [x.n],s,inp,out,hX,hi,rfl,hS.sp⟩))
  | (refine zcf ?_
     all_goals (refine Zaa ?_)
     all_goals (first|(refine Ql ?_)|(refine Qo ?_)|(refine Q8 rfl rfl (fun hc=> ?_) (fun hc=> ?_)))
     all_goals (refine Zad ?_)
     all_goals
      first
      | (refine zct ?_
         all_goals (refine QB ?_;have hX:=xr_2 (m:=m) (s:=rsOf s g.nx fr inp out fu) (x:=x) (by omega);rw [hX] at hX0;obtain ⟨na,hna,eX⟩:=Q11 hX0;rw [eX] at hX0;have hX:=hX.trans eX;obtain ⟨nb,hnb,eX⟩:=Q11 hX0;rw [eX] at hX0;have hX:=hX.trans eX;refine zC [(0,none),(1,none),(2,none),(3,none),(4,none),(6,none),(7,none),(8,none),(5,some (some [1,8])),(9,some (some [1])),(10,some none),(11,none),(12,none),(13,none),(14,none),(15,some none)] ?_;have hS:=hS.drew;refine s_cq ?_;refine zf0 ?_;refine Zab ?_;refine zl hS ?_;refine Zaq ?_;refine zf0 ?_;refine Zab ?_;refine zl hS ?_;refine Zaq ?_;refine zf0 ?_;refine Zab ?_;refine zl hS ?_;refine Zaj ?_;refine zR2 (c:=Q2z (by omega) (show St cx _ (rL p _ fr g.nx _) from hS.sp) hna) (h:=?_);rintro v1 w1 ⟨rfl,hS⟩;refine Zay ?_;refine zR2 (c:=Q2z (by omega) (show St cx _ (rL p _ fr g.nx _) from hS.sp) hnb) (h:=?_);rintro v1 w1 ⟨rfl,hS⟩)
         all_goals (refine ZaC ?_)
         all_goals (refine zR3 (c:=op_s hS) (h:=?_);rintro v1 w1 ⟨rfl,hS⟩;cases hd:(opF x.k na nb).2)
         all_goals (refine Zaq ?_;refine Zbk ?_;refine Zbk ?_;refine zm ?_;refine Zau ?_;refine Zbo ?_;refine znt ?_)
         all_goals (first|(refine zR2 (c:=Q3W hS) (h:=?_);rintro v1 w1 ⟨rfl,hS⟩)|(refine zE2 (c:=Q3V hS) (p:=by rintro v9 w9 ⟨rfl,hS⟩;(repeat (first|refine Q2 ?_|refine Q3 ?_|refine fun _=> ?_));refine Qc ?_;refine .inr ⟨_,rfl,?_⟩;exact ⟨1,hX.trans (if_pos hd),rfl,fr,g.nx,hS.sp⟩) (h:=fun _ _ h=> h.elim)))
         all_goals (refine ZaJ ?_;refine zm ?_;refine zB1 hS [_] ?_;intro b1 w1 hS;have hS:=St.slOf (T:=2) (es:=1) (css:=[(opF x.k na nb).1].map Qj) hS rfl (by simp [Qj]) rfl;have hS:St cx _ (rL p _ fr g.nx (sl 2 1 (.slice (some ⟨b1,0,none⟩) 1 1) ([(opF x.k na nb).1].map Qj)::_)):=hS.sp;refine zR2 (c:=Q5f (j:=0) (by omega) (by show g.vals.length+1≤1000000;omega) hS rfl) (h:=?_);rintro u1 w1 ⟨tv,rfl,hS⟩;refine zn ?_)
         all_goals (have hG:RGo p ⟨ep,f1,lv,i1,e1,bv,ov,f2,mo,dn⟩ fu ((rsOf s g.nx fr inp out fu).ins m x) cx L (.tuple #[]) w1:=⟨lv,i1,ov,fr,g.nx.push tv [(opF x.k na nb).1],s,inp,out,hX.trans (if_neg (by rw [hd];decide)),hi,rfl,hS.sp⟩))
      | (refine zcf ?_
         all_goals (refine Zaa ?_)
         all_goals (first|(refine Ql ?_)|(refine Qo ?_)|(refine Q8 rfl rfl (fun hc=> ?_) (fun hc=> ?_)))
         all_goals (refine Zad ?_)
         all_goals
          first
          | (refine zct ?_
             all_goals (refine QB ?_;have hX:=xr_3 (m:=m) (s:=rsOf s g.nx fr inp out fu) (x:=x) (by omega);refine Zbt ?_;refine zf0 ?_;refine zl hS ?_;refine zR1 (c:=eopen_c (e:=ep) (s:=s) hS fd) (h:=?_);rintro v1 w1 ⟨rfl,hS⟩;have hS:=hS.ns;refine ZaL ?_)
             all_goals (first|(refine Q15 ?_)|(refine Q1c ?_)|(refine Qu rfl rfl (fun hc=> ?_) (fun hc=> ?_)))
             all_goals (first|(refine zR2 (c:=Q3W hS) (h:=?_);rintro v1 w1 ⟨rfl,hS⟩)|(refine zE2 (c:=Q3V hS) (p:=by rintro v9 w9 ⟨rfl,hS⟩;(repeat (first|refine Q2 ?_|refine Q3 ?_|refine fun _=> ?_));refine Qc ?_;refine .inr ⟨_,rfl,?_⟩;first|(exact ⟨6,hX.trans (if_pos (show s.openV < 0 by omega)),rfl,fr,g.nx,(by rw [Qa7 (show s.openV < 0 by omega)] at hS;exact hS.sp)⟩)) (h:=fun _ _ h=> h.elim)))
             all_goals (refine ZaJ ?_;refine zm ?_;refine zB1 hS [_] ?_;intro b1 w1 hS;have hS:=St.slOf (T:=2) (es:=1) (css:=[s.openV].map Qj) hS rfl (by simp [Qj]) rfl;have hS:St cx _ (rL p _ fr g.nx (sl 2 1 (.slice (some ⟨b1,0,none⟩) 1 1) ([s.openV].map Qj)::_)):=hS.sp;refine zR2 (c:=Q5f (j:=0) (by omega) (by show g.vals.length+1≤1000000;omega) hS rfl) (h:=?_);rintro u1 w1 ⟨tv,rfl,hS⟩;refine zn ?_)
             all_goals (have hG:RGo p ⟨ep,f1,lv,i1,e1,bv,ov,f2,mo,dn⟩ fu ((rsOf s g.nx fr inp out fu).ins m x) cx L (.tuple #[]) w1:=⟨lv,i1,ov,fr,g.nx.push tv [s.openV],s.open,inp,out,hX.trans (if_neg (show¬s.openV < 0 by omega)),hi,rfl,hS.sp⟩))
          | (refine zcf ?_
             all_goals (refine Zaa ?_)
             all_goals (first|(refine Ql ?_)|(refine Qo ?_)|(refine Q8 rfl rfl (fun hc=> ?_) (fun hc=> ?_)))
             all_goals (refine Zad ?_)
             all_goals
              first
              | (refine zct ?_
                 all_goals (have hX:=xr_4 (m:=m) (s:=rsOf s g.nx fr inp out fu) (x:=x) (by omega);rw [hX] at hX0;obtain ⟨a,ha,eX⟩:=Q11 hX0;rw [eX] at hX0;have hX:=hX.trans eX;refine zC [(0,none),(1,none),(2,none),(3,none),(4,none),(5,none),(6,none),(7,some (some [3])),(8,some none)] ?_;have hS:=hS.drew;refine ZaW ?_;refine zf0 ?_;refine Zab ?_;refine zl hS ?_;refine Zaq ?_;refine zf0 ?_;refine Zab ?_;refine zl hS ?_;refine Zaj ?_;refine zR2 (c:=Q2z (by omega) (show St cx _ (rL p _ fr g.nx _) from hS.sp) ha) (h:=?_);rintro v1 w1 ⟨rfl,hS⟩;refine ZaC ?_;refine zR2 (c:=eshut_c (e:=ep) (s:=s) a hS fd) (h:=?_);rintro v1 w1 ⟨rfl,hS⟩;have hS:=hS.ns;refine Zao ?_)
                 all_goals (have hG:RGo p ⟨ep,f1,lv,i1,e1,bv,ov,f2,mo,dn⟩ fu ((rsOf s g.nx fr inp out fu).ins m x) cx L (.tuple #[]) w1:=⟨lv,i1,ov,fr,g.nx,s.shut a,inp,out,hX,hi,rfl,hS.sp⟩))
              | (refine zcf ?_
                 all_goals (refine Zaa ?_)
                 all_goals (first|(refine Ql ?_)|(refine Qo ?_)|(refine Q8 rfl rfl (fun hc=> ?_) (fun hc=> ?_)))
                 all_goals (refine Zad ?_)
                 all_goals
                  first
                  | (refine zct ?_
                     all_goals (have hX:=xr_5 (m:=m) (s:=rsOf s g.nx fr inp out fu) (x:=x) (by omega);rw [hX] at hX0;obtain ⟨a,ha,eX⟩:=Q11 hX0;rw [eX] at hX0;have hX:=hX.trans eX;obtain ⟨vs,hvs,eX⟩:=Q11 hX0;rw [eX] at hX0;have hX:=hX.trans eX;refine Zae ?_;refine zv hS ?_;refine zE2 (c:=rtuple_c (s:=s) (out:=out) (x:=x) hx h8 rfl (by omega) (by show g.vals.length≤900000;omega) ha hvs (show St cx _ (rS p ⟨ep,f1,lv,i1,e1,bv,ov,f2,mo,dn⟩ fr g.nx s out _) from hS.sp)) (p:=by rintro u9 w9 ⟨h14,rfl,hS⟩;(repeat (first|refine Q2 ?_|refine Q3 ?_|refine fun _=> ?_));refine Qc ?_;refine .inr ⟨_,rfl,?_⟩;rw [(Q8z (by omega)).1] at hS;exact ⟨6,hX.trans (got_14 h14),rfl,fr,g.nx,hS.sp⟩) (h:=?_);rintro u1 w1 ⟨h14,rfl,tv,hS⟩;refine zn ?_)
                     all_goals (have hG:RGo p ⟨ep,f1,lv,i1,e1,bv,ov,f2,mo,dn⟩ fu ((rsOf s g.nx fr inp out fu).ins m x) cx L (.tuple #[]) w1:=⟨lv,i1,ov,fr,g.nx.push tv [s.getV a (max (x.args.length:Int) 1)],((s.get a (max (x.args.length:Int) 1)).stores (s.getV a (max (x.args.length:Int) 1)) vs),inp,out,hX.trans (got_s h14),hi,rfl,hS.sp⟩))
                  | (refine zcf ?_
                     all_goals (refine Zaa ?_)
                     all_goals (first|(refine Ql ?_)|(refine Qo ?_)|(refine Q8 rfl rfl (fun hc=> ?_) (fun hc=> ?_)))
                     all_goals (refine Zad ?_)
                     all_goals
                      first
                      | (refine zct ?_
                         all_goals (have hX:=xr_6 (m:=m) (s:=rsOf s g.nx fr inp out fu) (x:=x) (by omega);rw [hX] at hX0;obtain ⟨a,ha,eX⟩:=Q11 hX0;rw [eX] at hX0;have hX:=hX.trans eX;obtain ⟨b5,pp,rv,ho,hS⟩:=Q21 (hS.out (i:=4) rfl);obtain rfl:=ho.he;refine zC [(0,none),(1,none),(2,none),(3,none),(4,none),(6,none),(7,none),(5,some (some [7])),(8,none),(9,some (some [])),(10,some (some [])),(11,some none)] ?_;have hS:=hS.drew;refine Zbg ?_;refine Zag ?_;refine zf0 ?_;refine Zab ?_;refine zl hS ?_;refine Zab ?_;refine zf0 ?_;refine Zab ?_;refine zl hS ?_;refine Zaj ?_;refine zR2 (c:=Q2z (by omega) (show St cx _ (rL p _ fr g.nx _) from hS.sp) ha) (h:=?_);rintro v1 w1 ⟨rfl,hS⟩;refine ZaH ?_;refine Ybc ?_;refine Zaj ?_;refine zR2 (c:=Q9X (q:=s.p) (wr (a+x.k)) rfl (show St cx _ (rL p _ fr g.nx (blk b5 73 (pp::Q1o rv)::Q1B pp s.p::_)) from hS.sp)) (h:=?_);rintro v1 w1 ⟨rfl,hS⟩)
                         all_goals (refine Zay ?_;refine zB1 hS [_] ?_;intro b1 w1 hS;refine ZaC ?_;have hS:=St.slOf (T:=2) (es:=1) (css:=[s.p.word (wr (a+x.k))].map Qj) hS rfl (by simp [Qj]) rfl;have hS:St cx _ (rL p _ fr g.nx (sl 2 1 (.slice (some ⟨b1,0,none⟩) 1 1) ([s.p.word (wr (a+x.k))].map Qj)::_)):=hS.sp;refine zR2 (c:=Q5f (j:=0) (by omega) (by show g.vals.length+1≤1000000;omega) hS rfl) (h:=?_);rintro u1 w1 ⟨tv,rfl,hS⟩;refine Zao ?_)
                         all_goals (have hG:RGo p ⟨.pointer (some ⟨b5,0,none⟩),f1,lv,i1,e1,bv,ov,f2,mo,dn⟩ fu ((rsOf s g.nx fr inp out fu).ins m x) cx L (.tuple #[]) w1:=by have hS:=QW ho (show St cx _ (blk b5 73 (pp::Q1o rv)::Q1B pp s.p::big RegV.res rv::_) from hS.sp);exact ⟨lv,i1,ov,fr,g.nx.push tv [s.p.word (wr (a+x.k))],s,inp,out,hX,hi,rfl,hS.sp⟩))
                      | (refine zcf ?_
                         all_goals (refine Zaa ?_)
                         all_goals (first|(refine Ql ?_)|(refine Qo ?_)|(refine Q8 rfl rfl (fun hc=> ?_) (fun hc=> ?_)))
                         all_goals (refine Zad ?_)
                         all_goals
                          first
                          | (refine zct ?_
                             all_goals (have hX:=xr_7 (m:=m) (s:=rsOf s g.nx fr inp out fu) (x:=x) (by omega);rw [hX] at hX0;obtain ⟨a,ha,eX⟩:=Q11 hX0;rw [eX] at hX0;have hX:=hX.trans eX;obtain ⟨b0,hb0,eX⟩:=Q11 hX0;rw [eX] at hX0;have hX:=hX.trans eX;obtain ⟨b5,pp,rv,ho,hS⟩:=Q21 (hS.out (i:=4) rfl);obtain rfl:=ho.he;refine zC [(0,none),(1,none),(2,none),(3,none),(4,none),(5,none),(6,none),(7,none),(8,none),(9,none),(11,none),(12,none),(14,none),(15,none),(16,none),(10,some (some [3,6,12,16])),(13,none),(17,some (some [3,6,12])),(18,some none)] ?_;have hS:=hS.drew;refine ZaW ?_;refine zf0 ?_;refine Zab ?_;refine zl hS ?_;refine Zab ?_;refine Zaw ?_;refine zf0 ?_;refine Zab ?_;refine zl hS ?_;refine Zaq ?_;refine zf0 ?_;refine Zab ?_;refine zl hS ?_)
                             all_goals (refine Zab ?_;refine zf0 ?_;refine Zab ?_;refine zl hS ?_;refine Zaq ?_;refine zf0 ?_;refine Zab ?_;refine zl hS ?_;refine Zaj ?_;refine zR2 (c:=Q2z (by omega) (show St cx _ (rL p _ fr g.nx _) from hS.sp) ha) (h:=?_);rintro v1 w1 ⟨rfl,hS⟩;refine ZaH ?_;refine Ybc ?_;refine Zaj ?_;refine zR2 (c:=Q2z (by omega) (show St cx _ (rL p _ fr g.nx _) from hS.sp) hb0) (h:=?_);rintro v1 w1 ⟨rfl,hS⟩;refine ZaC ?_;refine zR3 (c:=Q9J (s:=s.p) (wr (a+x.k)) b0 hS fd) (h:=?_);rintro v1 w1 ⟨rfl,hS⟩;have hS:=hS.ns;refine Zao ?_)
                             all_goals (have hG:RGo p ⟨.pointer (some ⟨b5,0,none⟩),f1,lv,i1,e1,bv,ov,f2,mo,dn⟩ fu ((rsOf s g.nx fr inp out fu).ins m x) cx L (.tuple #[]) w1:=by have hS:=Q50 ho (show St cx _ (blk b5 73 (pp::Q1o rv)::Q1B pp _::big RegV.res rv::_) from hS.sp);exact ⟨lv,i1,ov,fr,g.nx,(s.store (wr (a+x.k)) b0),inp,out,hX,hi,rfl,hS.sp⟩))
                          | (refine zcf ?_
                             all_goals (refine Zaa ?_)
                             all_goals (first|(refine Ql ?_)|(refine Qo ?_)|(refine Q8 rfl rfl (fun hc=> ?_) (fun hc=> ?_)))
                             all_goals (refine Zad ?_)
                             all_goals
                              first
                              | (refine zct ?_
                                 all_goals (have hX:=xr_8 (m:=m) (s:=rsOf s g.nx fr inp out fu) (x:=x) (by omega);rw [hX] at hX0;obtain ⟨a,ha,eX⟩:=Q11 hX0;rw [eX] at hX0;have hX:=hX.trans eX;obtain ⟨n,hna,eX⟩:=Q11 hX0;rw [eX] at hX0;have hX:=hX.trans eX;refine Zae ?_;refine zv hS ?_)
                                 all_goals (refine zE2 (c:=rarray_c (s:=s) (out:=out) (x:=x) hx (by omega) (by show g.vals.length≤900000;omega) ha hna (show St cx _ (rS p ⟨ep,f1,lv,i1,e1,bv,ov,f2,mo,dn⟩ fr g.nx s out _) from hS.sp)) (p:=by rintro u9 w9 hB;(repeat (first|refine Q2 ?_|refine Q3 ?_|refine fun _=> ?_));refine Qc ?_;refine .inr ⟨_,rfl,?_⟩;(rcases hB with ⟨hnn,rfl,hS⟩|⟨hnn,h14,rfl,hS⟩;exact ⟨3,hX.trans (if_pos hnn),rfl,fr,g.nx,hS.sp⟩;rw [(Q8z (by omega)).1] at hS;exact ⟨6,hX.trans ((if_neg hnn).trans (got_14 h14)),rfl,fr,g.nx,hS.sp⟩)) (h:=?_);rintro u1 w1 ⟨hnn,h14,rfl,tv,hS⟩)
                                 all_goals (refine zn ?_)
                                 all_goals (have hG:RGo p ⟨ep,f1,lv,i1,e1,bv,ov,f2,mo,dn⟩ fu ((rsOf s g.nx fr inp out fu).ins m x) cx L (.tuple #[]) w1:=⟨lv,i1,ov,fr,g.nx.push tv [s.getV a (1+n)],((s.get a (1+n)).store (s.getV a (1+n)) n),inp,out,hX.trans ((if_neg hnn).trans (got_s h14)),hi,rfl,hS.sp⟩))
                              | (refine zcf ?_
                                 all_goals (refine Zaa ?_)
                                 all_goals (first|(refine Ql ?_)|(refine Qo ?_)|(refine Q8 rfl rfl (fun hc=> ?_) (fun hc=> ?_)))
                                 all_goals (refine Zad ?_)
                                 all_goals
                                  first
                                  | (refine zct ?_
                                     all_goals (have hX:=xr_9 (m:=m) (s:=rsOf s g.nx fr inp out fu) (x:=x) (by omega);rw [hX] at hX0;obtain ⟨a,ha,eX⟩:=Q11 hX0;rw [eX] at hX0;have hX:=hX.trans eX;obtain ⟨k,hkk,eX⟩:=Q11 hX0;rw [eX] at hX0;have hX:=hX.trans eX;obtain ⟨b5,pp,rv,ho,hS⟩:=Q21 (hS.out (i:=4) rfl);obtain rfl:=ho.he;refine Zae ?_;refine ZaT ?_;refine zv hS ?_;refine zE2 (c:=rat_o (q:=s.p) (x:=x) rfl hx (by omega) ha hkk (show St cx _ (rL p _ fr g.nx (blk b5 73 (pp::Q1o rv)::Q1B pp s.p::_)) from hS.sp)) (p:=by rintro u9 w9 ⟨hb9,rfl,hS⟩;(repeat (first|refine Q2 ?_|refine Q3 ?_|refine fun _=> ?_));refine Qc ?_;refine .inr ⟨_,rfl,?_⟩;have hS:=QW ho (show St cx _ (blk b5 73 (pp::Q1o rv)::Q1B pp s.p::big RegV.res rv::_) from hS.sp);exact ⟨2,hX.trans (at_2 hb9),rfl,fr,g.nx,hS.sp⟩) (h:=?_);rintro u1 w2 ⟨hnb,rfl,hS⟩;refine zR2 (c:=Q9X (q:=s.p) (wr (wr (a+1)+k)) rfl (show St cx _ (rL p _ fr g.nx (blk b5 73 (pp::Q1o rv)::Q1B pp s.p::_)) from hS.sp)) (h:=?_);rintro v1 w1 ⟨rfl,hS⟩;refine zB1 hS [_] ?_;intro b1 w1 hS;have hS:=St.slOf (T:=2) (es:=1) (css:=[s.p.word (wr (wr (a+1)+k))].map Qj) hS rfl (by simp [Qj]) rfl;have hS:St cx _ (rL p _ fr g.nx (sl 2 1 (.slice (some ⟨b1,0,none⟩) 1 1) ([s.p.word (wr (wr (a+1)+k))].map Qj)::_)):=hS.sp;refine zR2 (c:=Q5f (j:=0) (by omega) (by show g.vals.length+1≤1000000;omega) hS rfl) (h:=?_);rintro u1 w1 ⟨tv,rfl,hS⟩)
                                     all_goals (refine zn ?_)
                                     all_goals (have hG:RGo p ⟨.pointer (some ⟨b5,0,none⟩),f1,lv,i1,e1,bv,ov,f2,mo,dn⟩ fu ((rsOf s g.nx fr inp out fu).ins m x) cx L (.tuple #[]) w1:=by have hS:=QW ho (show St cx _ (blk b5 73 (pp::Q1o rv)::Q1B pp s.p::big RegV.res rv::_) from hS.sp);exact ⟨lv,i1,ov,fr,g.nx.push tv [s.p.word (wr (wr (a+1)+k))],s,inp,out,hX.trans (at_s hnb),hi,rfl,hS.sp⟩))
                                  | (refine zcf ?_
                                     all_goals (refine Zaa ?_)
                                     all_goals (first|(refine Ql ?_)|(refine Qo ?_)|(refine Q8 rfl rfl (fun hc=> ?_) (fun hc=> ?_)))
                                     all_goals (refine Zad ?_)
                                     all_goals
                                      first
                                      | (refine zct ?_
                                         all_goals (have hX:=xr_10 (m:=m) (s:=rsOf s g.nx fr inp out fu) (x:=x) (by omega);rw [hX] at hX0;obtain ⟨a,ha,eX⟩:=Q11 hX0;rw [eX] at hX0;have hX:=hX.trans eX;obtain ⟨k,hkk,eX⟩:=Q11 hX0;rw [eX] at hX0;have hX:=hX.trans eX;obtain ⟨y,hy,eX⟩:=Q11 hX0;rw [eX] at hX0;have hX:=hX.trans eX;obtain ⟨b5,pp,rv,ho,hS⟩:=Q21 (hS.out (i:=4) rfl);obtain rfl:=ho.he;refine zC [(0,none),(1,none),(2,none),(3,none),(4,none),(5,none),(6,none),(7,none),(8,none),(10,none),(11,none),(12,none),(9,some (some [3,6,12])),(13,some (some [3,6])),(14,some none)] ?_;have hS:=hS.drew;refine ZaW ?_;refine zf0 ?_;refine Zab ?_;refine zl hS ?_;refine Zab ?_;refine Zaw ?_;refine zf0 ?_;refine Zab ?_;refine zl hS ?_;refine Zaq ?_;refine zv hS ?_;refine ZbK ?_;refine zt ?_)
                                         all_goals (refine s_cq ?_;refine zf0 ?_;refine Zab ?_;refine zl hS ?_;refine Zaj ?_;refine zE2 (c:=rat_o (q:=s.p) (x:=x) rfl hx (by omega) ha hkk (show St cx _ (rL p _ fr g.nx (blk b5 73 (pp::Q1o rv)::Q1B pp s.p::_)) from hS.sp)) (p:=by rintro u9 w9 ⟨hb9,rfl,hS⟩;(repeat (first|refine Q2 ?_|refine Q3 ?_|refine fun _=> ?_));refine Qc ?_;refine .inr ⟨_,rfl,?_⟩;have hS:=QW ho (show St cx _ (blk b5 73 (pp::Q1o rv)::Q1B pp s.p::big RegV.res rv::_) from hS.sp);exact ⟨2,hX.trans (at_2 hb9),rfl,fr,g.nx,hS.sp⟩) (h:=?_);rintro u1 w2 ⟨hnb,rfl,hS⟩;refine Zay ?_;refine zR2 (c:=Q2z (by omega) (show St cx _ (rL p _ fr g.nx _) from hS.sp) hy) (h:=?_);rintro v1 w1 ⟨rfl,hS⟩;refine ZaC ?_;refine zR3 (c:=Q9J (s:=s.p) (wr (wr (a+1)+k)) y hS fd) (h:=?_);rintro v1 w1 ⟨rfl,hS⟩;have hS:=hS.ns;refine Zao ?_)
                                         all_goals (have hG:RGo p ⟨.pointer (some ⟨b5,0,none⟩),f1,lv,i1,e1,bv,ov,f2,mo,dn⟩ fu ((rsOf s g.nx fr inp out fu).ins m x) cx L (.tuple #[]) w1:=by have hS:=Q50 ho (show St cx _ (blk b5 73 (pp::Q1o rv)::Q1B pp _::big RegV.res rv::_) from hS.sp);exact ⟨lv,i1,ov,fr,g.nx,(s.store (wr (wr (a+1)+k)) y),inp,out,hX.trans (at_s hnb),hi,rfl,hS.sp⟩))
                                      | (refine zcf ?_
                                         all_goals (refine Zaa ?_)
                                         all_goals (first|(refine Ql ?_)|(refine Qo ?_)|(refine Q8 rfl rfl (fun hc=> ?_) (fun hc=> ?_)))
                                         all_goals (refine Zad ?_)
                                         all_goals
                                          first
                                          | (refine zct ?_
                                             all_goals (have hX:=xr_11 (m:=m) (s:=rsOf s g.nx fr inp out fu) (x:=x) (by omega);rw [hX] at hX0;obtain ⟨a,ha,eX⟩:=Q11 hX0;rw [eX] at hX0;have hX:=hX.trans eX;obtain ⟨b5,pp,rv,ho,hS⟩:=Q21 (hS.out (i:=4) rfl);obtain rfl:=ho.he;refine Zae ?_;refine ZaT ?_;refine zf0 ?_;refine zl hS ?_;refine zR2 (c:=Q2z (by omega) (show St cx _ (rL p _ fr g.nx _) from hS.sp) ha) (h:=?_);rintro v1 w1 ⟨rfl,hS⟩;refine zR2 (c:=Q9X (q:=s.p) (a) rfl (show St cx _ (rL p _ fr g.nx (blk b5 73 (pp::Q1o rv)::Q1B pp s.p::_)) from hS.sp)) (h:=?_);rintro v1 w1 ⟨rfl,hS⟩;refine zB1 hS [_] ?_;intro b1 w1 hS;have hS:=St.slOf (T:=2) (es:=1) (css:=[s.p.word a].map Qj) hS rfl (by simp [Qj]) rfl;have hS:St cx _ (rL p _ fr g.nx (sl 2 1 (.slice (some ⟨b1,0,none⟩) 1 1) ([s.p.word a].map Qj)::_)):=hS.sp;refine zR2 (c:=Q5f (j:=0) (by omega) (by show g.vals.length+1≤1000000;omega) hS rfl) (h:=?_);rintro u1 w1 ⟨tv,rfl,hS⟩;refine zn ?_)
                                             all_goals (have hG:RGo p ⟨.pointer (some ⟨b5,0,none⟩),f1,lv,i1,e1,bv,ov,f2,mo,dn⟩ fu ((rsOf s g.nx fr inp out fu).ins m x) cx L (.tuple #[]) w1:=by have hS:=QW ho (show St cx _ (blk b5 73 (pp::Q1o rv)::Q1B pp s.p::big RegV.res rv::_) from hS.sp);exact ⟨lv,i1,ov,fr,g.nx.push tv [s.p.word a],s,inp,out,hX,hi,rfl,hS.sp⟩))
                                          | (refine zcf ?_
                                             all_goals (refine Zaa ?_)
                                             all_goals (first|(refine Ql ?_)|(refine Qo ?_)|(refine Q8 rfl rfl (fun hc=> ?_) (fun hc=> ?_)))
                                             all_goals (refine Zad ?_)
                                             all_goals
                                              first
                                              | (refine zct ?_
                                                 all_goals (refine QB ?_;have hX:=xr_12 (m:=m) (s:=rsOf s g.nx fr inp out fu) (x:=x) (by omega);obtain ⟨av,nv,hiv⟩:=Rep.SR.shape hi;refine Zbt ?_;refine zf0 ?_;refine zl hS ?_;refine Qf6 vw hi ?_)
                                                 all_goals (first|(refine Ql ?_)|(refine Qo ?_)|(refine Q8 rfl rfl (fun hc=> ?_) (fun hc=> ?_)))
                                                 all_goals (first|(refine zR2 (c:=Q3W hS) (h:=?_);rintro v1 w1 ⟨rfl,hS⟩)|(refine zE2 (c:=Q3V hS) (p:=by rintro v9 w9 ⟨rfl,hS⟩;(repeat (first|refine Q2 ?_|refine Q3 ?_|refine fun _=> ?_));refine Qc ?_;refine .inr ⟨_,rfl,?_⟩;first|(first|exact ⟨6,hX.trans (if_pos (show s.openV < 0 by omega)),rfl,fr,g.nx,(by rw [Qa7 (show s.openV < 0 by omega)] at hS;exact hS.sp)⟩|exact ⟨4,hX.trans (rin_0 (List.length_eq_zero_iff.1 (by show inp.length=0;omega))),rfl,fr,g.nx,hS.sp⟩)) (h:=fun _ _ h=> h.elim)))
                                                 all_goals (refine Zal ?_;obtain ⟨n0,r0,hir⟩:∃n0 r0,inp=n0::r0:=List.exists_cons_of_length_pos (by omega);refine Zae ?_;refine ZaA ?_;refine zf0 ?_;refine zl hS ?_)
                                                 all_goals (refine Q6u (m:=0) vw rfl hi rfl (by omega) ?_;intro b8 o8 cs8 x8 hat8 hx8 he8;rw [hir,List.getElem?_cons_zero] at hx8;cases hx8;obtain rfl:=QY he8)
                                                 all_goals (refine Yat ?_;refine zB1 hS [_] ?_;intro b1 w1 hS;have hS:=St.slOf (T:=2) (es:=1) (css:=[n0].map Qj) hS rfl (by simp [Qj]) rfl;have hS:St cx _ (rL p _ fr g.nx (sl 2 1 (.slice (some ⟨b1,0,none⟩) 1 1) ([n0].map Qj)::_)):=hS.sp;refine zR2 (c:=Q5f (j:=0) (by omega) (by show g.vals.length+1≤1000000;omega) hS rfl) (h:=?_);rintro u1 w1 ⟨tv,rfl,hS⟩;refine ZaJ ?_;refine ZaA ?_;refine zf0 ?_;refine zl hS ?_;refine QeY (l':=1) (h':=inp.length) vw hi rfl rfl rfl ⟨_,rfl⟩ (by omega) (by omega) ?_;intro v7 hk7;have hk7:intR.sl cx v7 r0:=(by rw [hir] at hk7;simpa using hk7);obtain ⟨a7,n7,rfl⟩:=Rep.SR.shape hk7;refine znc ?_;refine zf0 ?_;refine zst hS ?_;intro w1 hS;have hS:=hS.ns;refine zn ?_)
                                                 all_goals (have hG:RGo p ⟨ep,f1,lv,i1,e1,bv,ov,f2,mo,dn⟩ fu ((rsOf s g.nx fr inp out fu).ins m x) cx L (.tuple #[]) w1:=⟨lv,_,ov,fr,g.nx.push tv [n0],s,r0,out,hX.trans (rin_s hir),hk7,rfl,hS.sp⟩))
                                              | (refine zcf ?_
                                                 all_goals (refine Zaa ?_)
                                                 all_goals (first|(refine Ql ?_)|(refine Qo ?_)|(refine Q8 rfl rfl (fun hc=> ?_) (fun hc=> ?_)))
                                                 all_goals (refine Zad ?_)
                                                 all_goals
                                                  first
                                                  | (refine zct ?_
                                                     all_goals (refine QB ?_;have hX:=xr_13 (m:=m) (s:=rsOf s g.nx fr inp out fu) (x:=x) (by omega);rw [hX] at hX0;obtain ⟨n,hnn,eX⟩:=Q11 hX0;rw [eX] at hX0;have hX:=hX.trans eX;refine Zbt ?_;refine zf0 ?_;refine Yad ?_;refine zl hS ?_;refine QQ (n:=out.length) hS vw fd (List.length_map _) ?_)
                                                     all_goals (first|(refine Ql ?_)|(refine Qo ?_)|(refine Q8 rfl rfl (fun hc=> ?_) (fun hc=> ?_)))
                                                     all_goals (first|(refine zR2 (c:=Q3W hS) (h:=?_);rintro v1 w1 ⟨rfl,hS⟩)|(refine zE2 (c:=Q3V hS) (p:=by rintro v9 w9 ⟨rfl,hS⟩;(repeat (first|refine Q2 ?_|refine Q3 ?_|refine fun _=> ?_));refine Qc ?_;refine .inr ⟨_,rfl,?_⟩;first|(first|exact ⟨6,hX.trans (if_pos (show s.openV < 0 by omega)),rfl,fr,g.nx,(by rw [Qa7 (show s.openV < 0 by omega)] at hS;exact hS.sp)⟩|exact ⟨4,hX.trans (rin_0 (List.length_eq_zero_iff.1 (by show inp.length=0;omega))),rfl,fr,g.nx,hS.sp⟩|exact ⟨8,hX.trans (rout_0 (by show out.length=2000;omega)),rfl,fr,g.nx,hS.sp⟩)) (h:=fun _ _ h=> h.elim)))
                                                     all_goals (refine zn ?_;refine zC [(0,none),(1,none),(2,none),(3,none),(4,none),(5,none),(6,none),(7,none),(8,none),(9,some (some [5])),(10,some (some [5])),(11,some (some [])),(12,none),(13,none),(14,none),(15,some none)] ?_;have hS:=hS.drew;refine Zbg ?_;refine Zaw ?_;refine zf0 ?_;refine Zbb ?_;refine zl hS ?_;refine Zaq ?_;refine zf0 ?_;refine Zab ?_;refine zl hS ?_;refine Zaj ?_;refine zR2 (c:=Q2z (by omega) (show St cx _ (rL p _ fr g.nx _) from hS.sp) hnn) (h:=?_);rintro v1 w1 ⟨rfl,hS⟩;refine Zay ?_;refine zB1 hS [_] ?_;intro b1 w1 hS;refine Zay ?_;refine Q1T Q4e (.inl Q8U) hS vw vw (v:=ov) (css:=out.map Qj) fd (hS.srcB fd (by rfl) (by simp [oneC])) (by rw [List.length_map];simp only [List.length_cons,List.length_nil];omega) ?_;intro v7 w7 hS;have hS:=hS.ns;have ho7:=hS.oneC (v:=v7) (css:=out.map Qj++[[.int .i64 n]]) fd;rw [Qed] at hS)
                                                     all_goals (refine ZaH ?_;refine Zaw ?_;refine zf0 ?_;refine Zab ?_;refine Yad ?_;refine Zau ?_;refine zst hS ?_;intro w1 hS;have hS:=hS.ns;refine Zao ?_)
                                                     all_goals (have hG:RGo p ⟨ep,f1,lv,i1,e1,bv,ov,f2,mo,dn⟩ fu ((rsOf s g.nx fr inp out fu).ins m x) cx L (.tuple #[]) w1:=⟨lv,i1,v7,fr,g.nx,s,inp,out++[n],hX.trans (rout_s (by show out.length≠2000;omega)),hi,rfl,hS.sp⟩))
                                                  | (refine zcf ?_
                                                     all_goals (refine Zaa ?_)
                                                     all_goals (refine Ql ?_)
                                                     all_goals (refine Zad ?_)
                                                     all_goals
                                                      first
                                                      | (refine zct ?_
                                                         all_goals (refine QB ?_;have hX:=xr_14 (m:=m) (s:=rsOf s g.nx fr inp out fu) (x:=x) (by omega);rw [hX] at hX0;obtain ⟨vs,hvs,eX⟩:=Q11 hX0;rw [eX] at hX0;have hX:=hX.trans eX;refine Zbt ?_;refine zf0 ?_;refine zl hS ?_;refine QQ (n:=fr.length+1) hS vw fd (Qa fr g.nx) ?_)
                                                         all_goals (first|(refine Ql ?_)|(refine Qo ?_)|(refine Q8 rfl rfl (fun hc=> ?_) (fun hc=> ?_)))
                                                         all_goals (first|(refine zR2 (c:=Q3W hS) (h:=?_);rintro v1 w1 ⟨rfl,hS⟩)|(refine zE2 (c:=Q3V hS) (p:=by rintro v9 w9 ⟨rfl,hS⟩;(repeat (first|refine Q2 ?_|refine Q3 ?_|refine fun _=> ?_));refine Qc ?_;refine .inr ⟨_,rfl,?_⟩;first|(first|exact ⟨6,hX.trans (if_pos (show s.openV < 0 by omega)),rfl,fr,g.nx,(by rw [Qa7 (show s.openV < 0 by omega)] at hS;exact hS.sp)⟩|exact ⟨4,hX.trans (rin_0 (List.length_eq_zero_iff.1 (by show inp.length=0;omega))),rfl,fr,g.nx,hS.sp⟩|exact ⟨8,hX.trans (rout_0 (by show out.length=2000;omega)),rfl,fr,g.nx,hS.sp⟩|exact ⟨5,hX.trans (rcall_0 (by show (fr.map RFV.abs).reverse.length+1=40;rw [List.length_reverse,List.length_map];omega)),rfl,fr,g.nx,hS.sp⟩)) (h:=fun _ _ h=> h.elim)))
                                                         all_goals (refine zn ?_;refine zC [(0,none),(1,none),(2,none),(3,none),(4,none),(5,none),(6,none),(7,none),(8,none),(9,none),(10,some (some [4,6])),(11,none),(12,some (some [4])),(13,some (some [])),(14,none),(15,none),(16,some none)] ?_;have hS:=hS.drew;refine Zbg ?_;refine Zaw ?_;refine zf0 ?_;refine Zab ?_;refine zl hS ?_;refine Zab ?_;refine zf0 ?_;refine Zab ?_;refine zl hS ?_;refine Zaq ?_;refine zf0 ?_;refine Zab ?_;refine zl hS ?_;refine Zaj ?_;refine zR2 (c:=Q5u (by omega) (by omega) ha1 hvs (show St cx _ (rL p _ fr g.nx _) from hS.sp)) (h:=?_);rintro v2 w2 ⟨hvl,ho2,hS⟩;obtain ⟨a2,n2,rfl⟩:=hS.shape (i:=4) rfl;refine ZaH ?_;refine zb2 [_,_,_,_] ?_)
                                                         all_goals (refine Zaj ?_;refine zB1 hS [_,_,_,_] ?_;intro b1 w1 hS;refine Zay ?_;refine Q1T el_T64 (.inl u_T64) hS vw vw (v:=lv) (css:=Q35 fr g.nx) fd (hS.srcB fd (by rfl) (by simp [oneC])) (by rw [Qa];simp only [List.length_cons,List.length_nil];omega) ?_;intro v7 w7 hS;have hS:=hS.ns;have ho7:=hS.oneC (v:=v7) fd;refine ZaH ?_;refine Zaw ?_;refine zf0 ?_;refine Zau ?_;refine zst hS ?_;intro w1 hS;have hS:=hS.ns;refine Zao ?_)
                                                         all_goals (have hG:RGo p ⟨ep,f1,lv,i1,e1,bv,ov,f2,mo,dn⟩ fu ((rsOf s g.nx fr inp out fu).ins m x) cx L (.tuple #[]) w1:=(by rw [show Value.int .i64 x.k= .int .i64 ((x.k.toNat:Nat):Int) by rw [Int.toNat_of_nonneg (hk (by omega))]] at hS;have e9:Q35 fr g.nx++[[.int .i64 ((x.k.toNat:Nat):Int), .int .i64 0, .int .i64 0, .slice a2 (vs.map Qj).length n2]]=Q35 (fr++[g.nx]) ⟨x.k.toNat,0,0, .slice a2 (vs.map Qj).length n2,vs⟩:=QdZ (k:=⟨x.k.toNat,0,0, .slice a2 (vs.map Qj).length n2,vs⟩);rw [e9] at hS;have hS:=rbig_in (k:=g.nx) (fr:=fr) (L:=_) (show St cx _ (sl 2 1 g.nx.vv (g.nx.vals.map Qj)::big RFV.res fr::_) from hS.sp);exact ⟨v7,i1,ov,fr++[g.nx],⟨x.k.toNat,0,0, .slice a2 (vs.map Qj).length n2,vs⟩,s,inp,out,(hX.trans (rcall_s (by show (fr.map RFV.abs).reverse.length+1≠40;rw [List.length_reverse,List.length_map];omega))).trans (by rw [Qb5];rfl),hi,rfl,hS.sp⟩))))))))))))))))
 all_goals (refine Qz ?_;exact .inl ⟨_,rfl,hG⟩)
end Go.Proofs.YteflkifmgnpbhaaGreat
namespace Go.Proofs.YteflkifmgnpbhaaGreat
open Go.Lir
set_option maxHeartbeats 1000000
attribute [local irreducible] LC.wp Q0 Qk Qh retQ Qt LO.wp Q4 Calls
set_option linter.unusedSimpArgs false
set_option linter.unusedVariables false
structure HT where
 Tv:TypeId
 Tt:TypeId
 Tr:TypeId
 Th:TypeId
structure ThgV where
 array:Bool
 lv:Value
 l:List Val
def ThgV.abs (t:ThgV):Thg:=⟨t.array,t.l⟩
def ThgV.cells (t:ThgV):List Value:=[.bool t.array,t.lv]
def ThgV.res (H:HT) (t:ThgV):Res:=sl H.Tv 4 t.lv (t.l.map Val.cells)
structure RgnV where
 there:Bool
 lv:Value
 l:List ThgV
 pages:Int
 used:Int
def RgnV.abs (r:RgnV):Rgn:=⟨r.there,r.l.map ThgV.abs,r.pages,r.used⟩
def RgnV.cells (r:RgnV):List Value:=[.bool r.there,r.lv, .int .i64 r.pages, .int .i64 r.used]
def RgnV.res (H:HT) (r:RgnV):Res:=star (sl H.Tt 2 r.lv (r.l.map ThgV.cells)) (big (ThgV.res H) r.l)
def RgnV.nil:RgnV:=⟨false, .slice none 0 0,[],0,0⟩
structure HpO (N:Nat) (s:HpS) (rv:List RgnV):Prop where
 hr:rv.map RgnV.abs=s.l
 ok:s.Ok N
section
variable {cx:Cx}{w:World}{L:List Res}{H:HT}
theorem QO {x y:Res}{rv:List RgnV}{k:Nat}{r:RgnV}(hS:St cx w (x::y::big (RgnV.res H) rv::L)) (hr:rv[k]?=some r):St cx w (sl H.Tt 2 r.lv (r.l.map ThgV.cells)::big (ThgV.res H) r.l::x::y::big (RgnV.res H) (rv.eraseIdx k)::L):=
 St.star (hS.bigOut nth2 hr)
theorem Qfl {x y:Res}{rv:List RgnV}{k:Nat}{r:RgnV}(hk:k < rv.length) (hS:St cx w (sl H.Tt 2 r.lv (r.l.map ThgV.cells)::big (ThgV.res H) r.l::x::y::big (RgnV.res H) (rv.eraseIdx k)::L)):St cx w (x::y::big (RgnV.res H) (rv.set k r)::L):=
 St.bigIn (f:=RgnV.res H) (x':=r) hS.star' nth2 hk
theorem Q6r {x:Res}{l:List ThgV}{k:Nat}{t:ThgV}(hS:St cx w (x::big (ThgV.res H) l::L)) (ht:l[k]?=some t):St cx w (sl H.Tv 4 t.lv (t.l.map Val.cells)::x::big (ThgV.res H) (l.eraseIdx k)::L):=hS.bigOut nth1 ht
theorem thg_in {x:Res}{l:List ThgV}{k:Nat}{t:ThgV}(hk:k < l.length) (hS:St cx w (sl H.Tv 4 t.lv (t.l.map Val.cells)::x::big (ThgV.res H) (l.eraseIdx k)::L)):St cx w (x::big (ThgV.res H) (l.set k t)::L):=St.bigIn (f:=ThgV.res H) (x':=t) hS nth1 hk
theorem St.big_push {α:Type}{f:α→Res}{l:List α}{x:α}(h:St cx w (f x::big f l::L)):St cx w (big f (l++[x])::L):=by
 have h1:St cx w (l.map f++(f x::L)):=h.mv1.list
 have h2:St cx w ((l++[x]).map f++L):=by simpa using h1
 exact h2.list'
theorem St.big_nil {α:Type}(f:α→Res) (h:St cx w L):St cx w (big f []::L):=h.emp (r:=Go.Lir.emp) fun _ h=> h
theorem St.rot1 {a b c d:Res}(h:St cx w (a::b::c::d::L)):St cx w (b::c::d::a::L):=St.mv3 (St.mv3 (St.mv3 h))
theorem St.rot2 {a e b c d:Res}(h:St cx w (a::e::b::c::d::L)):St cx w (b::c::d::a::e::L):=St.mv4 (St.mv4 (St.mv4 h))
theorem St.rot3 {a e f b c d:Res}(h:St cx w (a::e::f::b::c::d::L)):St cx w (b::c::d::a::e::f::L):=St.mv5 (St.mv5 (St.mv5 h))
theorem big_same {α:Type}{f:α→Res}{l:List α}{k:Nat}{x y:α}(h:l[k]?=some x) (he:f y=f x):big f (l.set k y)=big f l:=by
 unfold big;rw [List.map_set,he,Q4S (by rw [List.getElem?_map,h];rfl)]
theorem QX {rv:List RgnV}{m:Nat}{r:RgnV}(h:rv[m]?=some r):(rv.map RgnV.cells)[m]?=some r.cells:=by rw [List.getElem?_map,h];rfl
theorem rcset {rv:List RgnV}{m:Nat}{r':RgnV}:(rv.map RgnV.cells).set m r'.cells=(rv.set m r').map RgnV.cells:=List.map_set.symm
theorem Qb9 {rv:List RgnV}{m j:Nat}{r r':RgnV}{u:Value}(h:r.cells.set j u=r'.cells):(rv.map RgnV.cells).set m (r.cells.set j u)=(rv.set m r').map RgnV.cells:=by rw [h];exact rcset
theorem Q3P {tv:List ThgV}{m:Nat}{t:ThgV}(h:tv[m]?=some t):(tv.map ThgV.cells)[m]?=some t.cells:=by rw [List.getElem?_map,h];rfl
theorem vcget {l:List Val}{m:Nat}(h:m < l.length):(l.map Val.cells)[m]?=some (l.getD m Val.zero).cells:=Q16 Val.cells l Val.zero h
theorem Q1Y {rv:List RgnV}{m:Nat}{r:RgnV}(h:m < rv.length):(rv.set m r)[m]?=some r:=by simp [h]
theorem HpO.len {N:Nat}{s:HpS}{rv:List RgnV}(h:HpO N s rv):rv.length=s.l.length:=by rw [←h.hr,List.length_map]
theorem HpO.at_ {N:Nat}{s:HpS}{rv:List RgnV}(h:HpO N s rv){k:Nat}(hk:k < rv.length):∃r,rv[k]?=some r∧s.reg k=r.abs∧s.l[k]?=some r.abs:=by
 refine ⟨rv[k],List.getElem?_eq_getElem hk,?_,?_⟩
 · unfold HpS.reg
   rw [if_pos (by omega),Int.toNat_natCast,←h.hr,List.getD_eq_getElem?_getD,List.getElem?_map,List.getElem?_eq_getElem hk];rfl
 · rw [←h.hr,List.getElem?_map,List.getElem?_eq_getElem hk];rfl
theorem HpO.out {N:Nat}{s:HpS}{rv:List RgnV}(h:HpO N s rv){k:Int}(hk:k < 0∨(rv.length:Int)≤k):s.has k=false:=by
 have hl:=h.len
 unfold HpS.has HpS.reg
 split
 · rw [List.getD_eq_getElem?_getD,List.getElem?_eq_none (by omega)];rfl
 · rfl
theorem HpO.has_in {N:Nat}{s:HpS}{rv:List RgnV}(h:HpO N s rv){k:Int}(hk:s.has k=true):∃m:Nat,k=m∧m < rv.length:=by
 by_cases hc:k < 0∨(rv.length:Int)≤k
 · rw [h.out hc] at hk;cases hk
 · exact ⟨k.toNat,by omega,by omega⟩
theorem HpO.rng {N:Nat}{s:HpS}{rv:List RgnV}(h:HpO N s rv){k:Nat}{r:RgnV}(hr:rv[k]?=some r):r.l.length≤N∧(∀t∈r.l,t.l.length≤1000)∧0≤r.pages∧0≤r.used∧r.used≤1000∧(r.there=false→r.l.length=0∧r.pages=0):=by
 have hm:r.abs∈s.l:=by rw [←h.hr];exact List.mem_map.2 ⟨r,List.mem_of_getElem? hr,rfl⟩
 obtain ⟨h1,h2,h3,h4,h5,h6⟩:=h.ok.each _ hm
 refine ⟨by simpa [RgnV.abs] using h1,fun t ht=> h2 t.abs (List.mem_map.2 ⟨t,ht,rfl⟩),h3,h4,h5,fun hf=> ?_⟩
 have:=h6 hf
 simp only [RgnV.abs,Rgn.none,Rgn.mk.injEq,List.map_eq_nil_iff] at this
 exact ⟨by rw [this.2.1];rfl,this.2.2.1⟩
end
end Go.Proofs.YteflkifmgnpbhaaGreat
namespace Go.Proofs.YteflkifmgnpbhaaGreat
open Go.Lir
set_option maxHeartbeats 1000000
attribute [local irreducible] LC.wp Q0 Qk Qh retQ Qt LO.wp Q4 Calls
set_option linter.unusedSimpArgs false
set_option linter.unusedVariables false
def H0:HT:=⟨224,272,267,127⟩
abbrev Q66 (b:Nat) (lv:Value) (left live:Int) (rv:List RgnV) (L:List Res):List Res:=blk b 127 [lv, .int .i64 left, .int .i64 live]::sl 267 4 lv (rv.map RgnV.cells)::big (RgnV.res H0) rv::L
def Q1P (N:Nat) (h:Value) (s:HpS):Res:=Res.ex fun x:Nat×Value×List RgnV=> Res.pure (h= .pointer (some ⟨x.1,0,none⟩)∧HpO N s x.2.2) (Q5q [blk x.1 127 [x.2.1, .int .i64 s.left, .int .i64 s.live],sl 267 4 x.2.1 (x.2.2.map RgnV.cells),big (RgnV.res H0) x.2.2])
variable {cx:Cx}{w:World}{L:List Res}{i:Nat}{N:Nat}{h:Value}{s:HpS}
theorem Qby (hS:St cx w (Q1P N h s::L)):∃b lv rv,h= .pointer (some ⟨b,0,none⟩)∧HpO N s rv∧St cx w (Q66 b lv s.left s.live rv L):=by
 obtain ⟨⟨b,lv,rv⟩,h⟩:=hS.ex
 obtain ⟨⟨h0,h1⟩,h2⟩:=h.pure
 exact ⟨b,lv,rv,h0,h1,h2.list⟩
theorem Qn {b:Nat}{lv:Value}{rv:List RgnV}(ho:HpO N s rv) (hS:St cx w (Q66 b lv s.left s.live rv L)):St cx w (Q1P N (.pointer (some ⟨b,0,none⟩)) s::L):=
 St.ex' (b,lv,rv) (St.pure' ⟨rfl,ho⟩ (St.list' hS))
theorem Q45 (hS:St cx w L){b:Nat}(hi:nth L i=some (Q1P N (.pointer (some ⟨b,0,none⟩)) s)):∃lv rv,HpO N s rv∧St cx w (Q66 b lv s.left s.live rv (L.eraseIdx i)):=by
 obtain ⟨b',lv,rv,he,ho,h⟩:=Qby (hS.out hi)
 cases he
 exact ⟨lv,rv,ho,h⟩
theorem Q20 (hS:St cx w L) (hi:nth L i=some (Q1P N h s)):s.Ok N∧∃b,h= .pointer (some ⟨b,0,none⟩):=by
 obtain ⟨b,lv,rv,he,ho,_⟩:=Qby (hS.out hi);exact ⟨ho.ok,b,he⟩

variable {b:Nat}{lv:Value}{left live:Int}{rv:List RgnV}
theorem Q8q (k:Int) (ho:HpO N s rv) (hS:St cx w (Q66 b lv left live rv L)):Rets Tryz.prog Qap [.pointer (some ⟨b,0,none⟩), .int .i64 k] w fun v w'=> v= .bool (s.has k)∧St cx w' (Q66 b lv left live rv L):=by
 rcases (show (k < 0∨(rv.length:Int)≤k)∨∃m:Nat,k=m∧m < rv.length by (by_cases h:k < 0∨(rv.length:Int)≤k;(exact .inl h);exact .inr ⟨k.toNat,by omega,by omega⟩)) with hk|⟨m,rfl,hm⟩
 · have e0:=ho.out hk
   all_goals refine lgo tyD Tryz.func216 ?_
   all_goals (refine ZbA ?_)
   all_goals (first|(refine Q2n ?_)|(refine Q2Z ?_)|(refine Q1r rfl rfl (fun hc=> ?_) (fun hc=> ?_)))
   all_goals (refine Zbl ?_;refine Zbv ?_;refine Yan ?_)
   all_goals (refine Yav ?_)
   all_goals (refine ZbJ ?_;refine zgn ?_;refine zgn ?_;refine zgn ?_;refine zgn ?_;refine zgn ?_;refine zgn ?_;refine zgn ?_;refine zgn ?_;refine Yae ?_;refine Zap ?_;exact ⟨_,rfl,by rw [e0],hS⟩)
 · obtain ⟨r,hr,hrs,_⟩:=ho.at_ hm
   have e0:s.has m=r.there:=by unfold HpS.has;rw [hrs];rfl
   all_goals refine lgo tyD Tryz.func216 ?_
   all_goals (refine ZbA ?_)
   all_goals (refine Q2n ?_)
   all_goals (refine Zbl ?_;refine ZaV ?_;(first|refine zgn ?_|(refine zgy ?_;(first|(refine Q6 hS (by assumption) rfl fd (by exact List.length_map _) (QX hr) rfl ?_)|(refine zl hS ?_))));refine Yan ?_)
   all_goals (first|refine zgn ?_|(refine zgy ?_;refine Q15 ?_))
   all_goals (refine zpt ?_;refine Zam ?_;refine ZaV ?_;(first|refine zgn ?_|(refine zgy ?_;(first|(refine Q6 hS (by assumption) rfl fd (by exact List.length_map _) (QX hr) rfl ?_)|(refine zl hS ?_))));refine Yaa ?_;(first|refine zgn ?_|(refine zgy ?_;(first|(refine Yam ?_;intro b1 o1 cs1 x1 hat1 hx1 he1;obtain ⟨vp1,vr1,vb1,rfl,hp1,hr1,hb1⟩:=QG he1)|(refine zie hS ?_;intro b1 o1 hel1))));refine Yah ?_;(first|refine zgn ?_|(refine zgy ?_;refine Q6 hS (by assumption) rfl fd (by first|exact List.length_map _|rfl) (QX hr) rfl ?_));refine zpt ?_;refine Zap ?_;exact ⟨_,rfl,by rw [e0],hS⟩)
def ThgAt (rv:List RgnV) (k t:Nat) (th:ThgV) (v:Value):Prop:=∃r b o,rv[k]?=some r∧r.l[t]?=some th∧v= .pointer (some ⟨b,o,none⟩)∧ElP r.lv r.l.length 2 t b o
theorem HpO.thg {k t:Nat}{r:RgnV}{th:ThgV}(ho:HpO N s rv) (hr:rv[k]?=some r) (ht:r.l[t]?=some th):s.thg k t=th.abs:=by
 obtain ⟨r',h1,h2,_⟩:=ho.at_ (List.getElem?_eq_some_iff.1 hr).1
 rw [hr] at h1;cases h1
 unfold HpS.thg;rw [h2]
 show (r.l.map ThgV.abs).getD t _=_
 rw [List.getD_eq_getElem?_getD,List.getElem?_map,ht];rfl
theorem hat_c (v:Val) (ho:HpO N s rv) (hS:St cx w (Q66 b lv left live rv L)):Rets Tryz.prog Qbz [.pointer (some ⟨b,0,none⟩),v.v] w fun u w'=> St cx w' (Q66 b lv left live rv L)∧(s.at_ v=none∧u= .pointer none∨∃k t th,s.at_ v=some (k,t)∧ThgAt rv k t th u):=by
 by_cases hv:v.kind=3∨v.kind=4
 · cases hh:s.has v.region with
   | false=>
     have e0:s.at_ v=none:=by unfold HpS.at_;rw [if_neg (by rw [hh];simp)]
     all_goals refine lgo tyD Tryz.func219 ?_
     all_goals (refine Zaa ?_;refine Q23 hS vw (by rfl) ?_;intro b3 w1 hS;simp only [Val.cells] at hS;refine ZbC ?_;refine zD (ci 35 [12,34]) ?_;have hS:=hS.drew;refine zf0 ?_;refine zl hS ?_)
     all_goals (first|(refine Q1D ?_)|(refine Q1M ?_)|(refine QI rfl rfl (fun hc=> ?_) (fun hc=> ?_)))
     all_goals (refine ZaN ?_)
     all_goals (refine Yaw ?_)
     all_goals (refine Zbr ?_;refine Zan ?_;(first|refine zgn ?_|(refine zgy ?_;refine zR2 (c:=Q8q _ ho (St.rot1 hS)) (h:=?_);rintro v1 w1 ⟨rfl,hS⟩;rw [hh]));refine Yak ?_;refine ZbJ ?_;refine zgn ?_;refine zgn ?_)
     all_goals (refine zgn ?_)
     all_goals (refine zpt ?_;refine zm ?_;refine zgn ?_;refine zgn ?_;refine zgn ?_;refine zgn ?_;refine zgn ?_;refine zgn ?_;refine zgn ?_;refine zgn ?_;refine zgn ?_;refine zgn ?_)
     all_goals (refine zgn ?_;refine zgn ?_)
     all_goals (refine zgn ?_)
     all_goals (refine zpt ?_;refine zn ?_)
     all_goals refine zct ?_
     all_goals (refine Zas ?_;exact ⟨_,rfl,hS.sp, .inl ⟨e0,rfl⟩⟩)
   | true=>
     obtain ⟨vk,vr,vt,vn⟩:=v
     have hv':vk=3∨vk=4:=hv
     obtain ⟨m,rfl,hm⟩:=ho.has_in hh
     obtain ⟨r,hr,hrs,_⟩:=ho.at_ hm
     have hrl:(s.reg (m:Int)).l.length=r.l.length:=by rw [hrs];exact List.length_map _
     have hrn:=(ho.rng hr).1
     have hmt:(m:Int).toNat=m:=by omega
     by_cases ht:0≤vt∧vt < r.l.length
     · obtain ⟨t,rfl⟩:=Int.eq_ofNat_of_zero_le ht.1
       have htt:(t:Int).toNat=t:=by omega
       obtain ⟨th,hth⟩:∃th,r.l[t]?=some th:=⟨_,List.getElem?_eq_getElem (by omega)⟩
       have hthg:=ho.thg hr hth
       have e1:s.at_ ⟨vk,m,t,vn⟩=if th.array=decide (vk=4) then some (m,t) else none:=by
        unfold HpS.at_
        simp only [hmt,htt,hthg,hh,hrl]
        by_cases ha:th.array=decide (vk=4)
        · rw [if_pos ⟨hv',trivial,ht.1,ht.2,ha⟩,if_pos ha]
        · rw [if_neg (fun h=> ha h.2.2.2.2),if_neg ha]
       all_goals refine lgo tyD Tryz.func219 ?_
       all_goals (refine Zaa ?_;refine Q23 hS vw (by rfl) ?_;intro b3 w1 hS;simp only [Val.cells] at hS;refine ZbC ?_;refine zD (ci 35 [12,34]) ?_;have hS:=hS.drew;refine zf0 ?_;(first|(refine Q6 hS (by assumption) rfl fd (by exact List.length_map _) (QX hr) rfl ?_)|(refine Q6 (QO (H:=H0) hS hr) (by assumption) rfl nth0 (by exact List.length_map _) (Q3P hth) rfl ?_)|(refine zl hS ?_)))
       all_goals (first|(refine Q1D ?_)|(refine Q1M ?_)|(refine QI rfl rfl (fun hc=> ?_) (fun hc=> ?_)))
       all_goals (refine zm ?_;refine Yab ?_;(first|refine zgn ?_|(refine zgy ?_;(first|(refine Q6 hS (by assumption) rfl fd (by exact List.length_map _) (QX hr) rfl ?_)|(refine Q6 (QO (H:=H0) hS hr) (by assumption) rfl nth0 (by exact List.length_map _) (Q3P hth) rfl ?_)|(refine zl hS ?_)))))
       all_goals (refine Yaw ?_)
       all_goals (refine Zbr ?_;refine Yab ?_;(first|refine zgn ?_|(refine zgy ?_;(first|(refine Q6 hS (by assumption) rfl fd (by exact List.length_map _) (QX hr) rfl ?_)|(refine Q6 (QO (H:=H0) hS hr) (by assumption) rfl nth0 (by exact List.length_map _) (Q3P hth) rfl ?_)|(refine zl hS ?_))));(first|refine zgn ?_|(refine zgy ?_;refine zR2 (c:=Q8q _ ho (St.rot1 hS)) (h:=?_);rintro v1 w1 ⟨rfl,hS⟩;rw [hh]));refine Yak ?_;refine ZbJ ?_;refine Yab ?_;(first|refine zgn ?_|(refine zgy ?_;(first|(refine Q6 hS (by assumption) rfl fd (by exact List.length_map _) (QX hr) rfl ?_)|(refine Q6 (QO (H:=H0) hS hr) (by assumption) rfl nth0 (by exact List.length_map _) (Q3P hth) rfl ?_)|(refine zl hS ?_)))))
       all_goals (refine Yav ?_)
       all_goals (refine ZbJ ?_;refine Yab ?_;(first|refine zgn ?_|(refine zgy ?_;(first|(refine Q6 hS (by assumption) rfl fd (by exact List.length_map _) (QX hr) rfl ?_)|(refine Q6 (QO (H:=H0) hS hr) (by assumption) rfl nth0 (by exact List.length_map _) (Q3P hth) rfl ?_)|(refine zl hS ?_))));refine Yaa ?_;refine ZaV ?_;(first|refine zgn ?_|(refine zgy ?_;(first|(refine Q6 hS (by assumption) rfl fd (by exact List.length_map _) (QX hr) rfl ?_)|(refine Q6 (QO (H:=H0) hS hr) (by assumption) rfl nth0 (by exact List.length_map _) (Q3P hth) rfl ?_)|(refine zl hS ?_))));refine Yab ?_;(first|refine zgn ?_|(refine zgy ?_;(first|(refine Q6 hS (by assumption) rfl fd (by exact List.length_map _) (QX hr) rfl ?_)|(refine Q6 (QO (H:=H0) hS hr) (by assumption) rfl nth0 (by exact List.length_map _) (Q3P hth) rfl ?_)|(refine zl hS ?_)))))
       all_goals ((first|refine zgn ?_|(refine zgy ?_;(first|(refine Q4c (QO (H:=H0) hS hr) vw rfl nth0 (by first|omega|(simp only [List.length_map,List.length_append,List.length_cons,List.length_nil,List.length_set,List.length_replicate];omega)|(simp;done)|(simp;omega)) ?_;rw [List.length_map];intro b5 o5 hel5)|(refine Yam ?_;intro b1 o1 cs1 x1 hat1 hx1 he1;obtain ⟨vp1,vr1,vb1,rfl,hp1,hr1,hb1⟩:=QG he1)|(refine zie hS ?_;intro b1 o1 hel1))));refine Yah ?_;(first|refine zgn ?_|(refine zgy ?_;refine Q6 hS (by assumption) rfl fd (by first|exact List.length_map _|rfl) (QX hr) rfl ?_));(first|(refine zgn ?_)|(refine zgy ?_;refine QQ (QO (H:=H0) hS hr) vw nth0 (by exact List.length_map _) ?_)))
       all_goals (refine Yay ?_)
       all_goals (refine ZaO ?_)
       all_goals
        first
        | (refine zct ?_
           all_goals (refine Zas ?_)
           all_goals (exact ⟨_,rfl,hS.sp, .inl ⟨by rw [e1];simp [hta,hk4],rfl⟩⟩))
        | (refine zcf ?_
           all_goals refine zsk ?_)
       all_goals (refine QB ?_;have hS:St cx _ (Q66 b lv left live rv _):=(by exact hS);refine zD (ci 13 [12]) ?_;have hS:=hS.drew;refine ZaA ?_;refine zf0 ?_;(first|(refine Q6 hS (by assumption) rfl fd (by first|exact List.length_map _|rfl) (QX hr) rfl ?_)|(refine Q6 (QO (H:=H0) hS hr) (by assumption) rfl nth0 (by exact List.length_map _) (Q3P hth) rfl ?_)|(refine zl hS ?_));refine zf0 ?_;(first|(refine Q6 hS (by assumption) rfl fd (by first|exact List.length_map _|rfl) (QX hr) rfl ?_)|(refine Q6 (QO (H:=H0) hS hr) (by assumption) rfl nth0 (by exact List.length_map _) (Q3P hth) rfl ?_)|(refine zl hS ?_));(first|(refine Q4c (QO (H:=H0) hS hr) vw rfl nth0 (by first|omega|(simp only [List.length_map,List.length_append,List.length_cons,List.length_nil,List.length_set,List.length_replicate];omega)|(simp;done)|(simp;omega)) ?_;rw [List.length_map];intro b5 o5 hel5)|(refine Yam ?_;intro b2 o2 cs2 x2 hat2 hx2 he2;obtain ⟨vp2,vr2,vb2,rfl,hp2,hr2,hb2⟩:=QG he2)|(refine zie hS ?_;intro b2 o2 hel2));refine Yad ?_;refine Q6 hS (by assumption) rfl fd (by first|exact List.length_map _|rfl) (QX hr) rfl ?_)
       all_goals (refine zf0 ?_;(first|(refine Q6 hS (by assumption) rfl fd (by first|exact List.length_map _|rfl) (QX hr) rfl ?_)|(refine Q6 (QO (H:=H0) hS hr) (by assumption) rfl nth0 (by exact List.length_map _) (Q3P hth) rfl ?_)|(refine zl hS ?_));refine Q4c (QO (H:=H0) hS hr) vw rfl nth0 (by first|omega|(simp only [List.length_map,List.length_append,List.length_cons,List.length_nil,List.length_set,List.length_replicate];omega)) ?_;rw [List.length_map];intro b5 o5 hel5;refine ZbC ?_;refine zD (ci 8 [7]) ?_;have hS:=hS.drew;refine Zbd ?_;(first|(refine Q6 hS (by assumption) rfl fd (by exact List.length_map _) (QX hr) rfl ?_)|(refine Q6 (QO (H:=H0) hS hr) (by assumption) rfl nth0 (by exact List.length_map _) (Q3P hth) rfl ?_));refine zf0 ?_;(first|(refine Q6 hS (by assumption) rfl fd (by first|exact List.length_map _|rfl) (QX hr) rfl ?_)|(refine Q6 (QO (H:=H0) hS hr) (by assumption) rfl nth0 (by exact List.length_map _) (Q3P hth) rfl ?_)|(refine zl hS ?_)))
       all_goals (cases hta:th.array <;> by_cases hk4:vk=4 <;> first|(refine Qf8 rfl rfl hk4 ?_)|(refine Qf9 rfl rfl hk4 ?_))
       all_goals ((first|refine Qff (by kernel_rfl) rfl rfl rfl ?_|refine s_bne (by kernel_rfl) rfl rfl ?_);refine zn ?_)
       all_goals
        first
        | (refine zct ?_
           all_goals (refine Zas ?_)
           all_goals (exact ⟨_,rfl,hS.sp, .inl ⟨by rw [e1];simp [hta,hk4],rfl⟩⟩))
        | (refine zcf ?_
           all_goals refine zsk ?_)
       all_goals (refine Zbq ?_;(first|exact ⟨_,rfl,hS.sp, .inl ⟨by rw [e1];simp [hta,hk4],rfl⟩⟩|exact ⟨_,rfl,hS.sp, .inr ⟨m,t,th,by rw [e1];simp [hta,hk4],r,b5,o5,hr,hth,rfl,hel5⟩⟩))
     · have e0:s.at_ ⟨vk,m,vt,vn⟩=none:=by unfold HpS.at_;rw [if_neg fun h=> ht ⟨h.2.2.1,by have:=h.2.2.2.1;simp only [hrl] at this;exact this⟩]
       all_goals refine lgo tyD Tryz.func219 ?_
       all_goals (refine Zaa ?_;refine Q23 hS vw (by rfl) ?_;intro b3 w1 hS;simp only [Val.cells] at hS;refine ZbC ?_;refine zD (ci 35 [12,34]) ?_;have hS:=hS.drew;refine zf0 ?_;(first|(refine Q6 hS (by assumption) rfl fd (by exact List.length_map _) (QX hr) rfl ?_)|(refine zl hS ?_)))
       all_goals (first|(refine Q1D ?_)|(refine Q1M ?_)|(refine QI rfl rfl (fun hc=> ?_) (fun hc=> ?_)))
       all_goals (refine zm ?_;refine Yab ?_;(first|refine zgn ?_|(refine zgy ?_;(first|(refine Q6 hS (by assumption) rfl fd (by exact List.length_map _) (QX hr) rfl ?_)|(refine zl hS ?_)))))
       all_goals (refine Yaw ?_)
       all_goals (refine Zbr ?_;refine Yab ?_;(first|refine zgn ?_|(refine zgy ?_;(first|(refine Q6 hS (by assumption) rfl fd (by exact List.length_map _) (QX hr) rfl ?_)|(refine zl hS ?_))));(first|refine zgn ?_|(refine zgy ?_;refine zR2 (c:=Q8q _ ho (St.rot1 hS)) (h:=?_);rintro v1 w1 ⟨rfl,hS⟩;rw [hh]));refine Yak ?_;refine ZbJ ?_;refine Yab ?_;(first|refine zgn ?_|(refine zgy ?_;(first|(refine Q6 hS (by assumption) rfl fd (by exact List.length_map _) (QX hr) rfl ?_)|(refine zl hS ?_)))))
       all_goals (first|refine zgn ?_|(refine zgy ?_;(first|(refine Q15 ?_)|(refine Q1c ?_)|(refine Qu rfl rfl (fun hc=> ?_) (fun hc=> ?_)))))
       all_goals (refine ZbJ ?_;refine Yab ?_;(first|refine zgn ?_|(refine zgy ?_;(first|(refine Q6 hS (by assumption) rfl fd (by exact List.length_map _) (QX hr) rfl ?_)|(refine zl hS ?_))));refine Yaa ?_;refine ZaV ?_;(first|refine zgn ?_|(refine zgy ?_;(first|(refine Q6 hS (by assumption) rfl fd (by exact List.length_map _) (QX hr) rfl ?_)|(refine zl hS ?_))));refine Yab ?_;(first|refine zgn ?_|(refine zgy ?_;(first|(refine Q6 hS (by assumption) rfl fd (by exact List.length_map _) (QX hr) rfl ?_)|(refine zl hS ?_))));(first|refine zgn ?_|(refine zgy ?_;(first|(refine Yam ?_;intro b1 o1 cs1 x1 hat1 hx1 he1;obtain ⟨vp1,vr1,vb1,rfl,hp1,hr1,hb1⟩:=QG he1)|(refine zie hS ?_;intro b1 o1 hel1)))))
       all_goals (refine Yah ?_;(first|refine zgn ?_|(refine zgy ?_;refine Q6 hS (by assumption) rfl fd (by first|exact List.length_map _|rfl) (QX hr) rfl ?_));(first|refine zgn ?_|(refine zgy ?_;refine QQ (QO (H:=H0) hS hr) vw nth0 (by exact List.length_map _) ?_)))
       all_goals (first|refine zgn ?_|(refine zgy ?_;refine Q2n ?_))
       all_goals (refine ZaO ?_)
       all_goals refine zct ?_
       all_goals (refine Zas ?_;exact ⟨_,rfl,hS.sp, .inl ⟨e0,rfl⟩⟩)
 · have e0:s.at_ v=none:=by unfold HpS.at_;rw [if_neg fun h=> hv h.1]
   all_goals refine lgo tyD Tryz.func219 ?_
   all_goals (refine Zaa ?_;refine Q23 hS vw (by rfl) ?_;intro b3 w1 hS;simp only [Val.cells] at hS;refine ZbC ?_;refine zD (ci 35 [12,34]) ?_;have hS:=hS.drew;refine zf0 ?_;refine zl hS ?_)
   all_goals (refine Q1D ?_)
   all_goals (refine ZaN ?_)
   all_goals (first|refine zgn ?_|(refine zgy ?_;refine Q1D ?_))
   all_goals (refine zpt ?_;refine zm ?_;refine zgn ?_;refine zgn ?_;refine zgn ?_;refine zgn ?_;refine zgn ?_;refine zpt ?_;refine zm ?_;refine zgn ?_;refine zgn ?_)
   all_goals (refine zgn ?_)
   all_goals (refine zpt ?_;refine zm ?_;refine zgn ?_;refine zgn ?_;refine zgn ?_;refine zgn ?_;refine zgn ?_;refine zgn ?_;refine zgn ?_;refine zgn ?_;refine zgn ?_;refine zgn ?_)
   all_goals (refine zgn ?_;refine zgn ?_)
   all_goals (refine zgn ?_)
   all_goals (refine zpt ?_;refine zn ?_)
   all_goals refine zct ?_
   all_goals (refine Zas ?_;exact ⟨_,rfl,hS.sp, .inl ⟨e0,rfl⟩⟩)
def RgnV.roomV (r:RgnV) (n:Int):RgnV:=if r.abs.more n then ⟨r.there,r.lv,r.l,r.pages+1,n⟩ else ⟨r.there,r.lv,r.l,r.pages,r.used+n⟩
theorem roomV_abs {r:RgnV}{n:Int}:(r.roomV n).abs=r.abs.room n∧(r.roomV n).lv=r.lv∧(r.roomV n).l=r.l:=by
 unfold RgnV.roomV Rgn.room;split <;> exact ⟨rfl,rfl,rfl⟩
theorem RgnV.more_iff {r:RgnV}{n:Int}:r.abs.more n=true↔(r.pages=0∨16 < r.used+n):=decide_eq_true_iff
theorem hroom_c {k b1 o1:Nat}{r:RgnV}{n:Int}(hn:1≤n∧n≤1000) (hel:ElP lv rv.length 4 k b1 o1) (hr:rv[k]?=some r) (hl:0≤left∧left≤1000) (hp:0≤r.pages∧r.pages≤1000) (hu:0≤r.used∧r.used≤1000) (hS:St cx w (Q66 b lv left live rv L)):
 Rets Tryz.prog Q94 [.pointer (some ⟨b,0,none⟩), .pointer (some ⟨b1,o1,none⟩), .int .i64 n] w fun v w'=>
  v= .int .i64 14∧r.abs.more n=true∧left=0∧St cx w' (Q66 b lv left live rv L)∨
  v= .int .i64 0∧¬(r.abs.more n=true∧left=0)∧St cx w' (Q66 b lv (if r.abs.more n then left - 1 else left) live (rv.set k (r.roomV n)) L):=by
 have hk:=(List.getElem?_eq_some_iff.1 hr).1
 have hlm:(rv.map RgnV.cells).length=rv.length:=List.length_map _
 have hls:∀r',((rv.set k r').map RgnV.cells).length=rv.length:=fun r'=> by rw [List.length_map,List.length_set]
 have hbig:big (RgnV.res H0) (rv.set k (r.roomV n))=big (RgnV.res H0) rv:=big_same hr (by unfold RgnV.res;rw [roomV_abs.2.1,roomV_abs.2.2])
 by_cases hmo:r.abs.more n=true
 · have hmo':=RgnV.more_iff.1 hmo
   by_cases h0:left=0
   · skip
     all_goals refine lgo tyD Tryz.func253 ?_
     all_goals (refine ZaQ ?_;refine ZaU ?_;refine Q6 hS hel rfl fd hlm (QX hr) rfl ?_)
     all_goals (first|(refine Ql ?_)|(refine Qo ?_)|(refine Q8 rfl rfl (fun hc=> ?_) (fun hc=> ?_)))
     all_goals (refine Zam ?_;refine Yaf ?_;refine Yah ?_;(first|refine zgn ?_|(refine zgy ?_;refine Q6 hS hel rfl fd hlm (QX hr) rfl ?_));refine Yaa ?_;(first|refine zgn ?_|(refine zgy ?_;refine zad ?_)))
     all_goals (refine Yax ?_)
     all_goals (refine ZaO ?_)
     all_goals refine zct ?_
     all_goals (refine Zak ?_;refine znc ?_;refine zf0 ?_;(first|(refine Q6 hS hel rfl fd hlm (QX hr) rfl ?_)|(refine zl hS ?_)))
     all_goals (refine Ql ?_)
     all_goals (refine zn ?_)
     all_goals refine zct ?_
     all_goals (refine Zas ?_;exact ⟨_,rfl, .inl ⟨rfl,hmo,h0,hS⟩⟩)
   · have e1:r.roomV n=⟨r.there,r.lv,r.l,r.pages+1,0+n⟩:=by unfold RgnV.roomV;rw [if_pos hmo,Int.zero_add]
     all_goals refine lgo tyD Tryz.func253 ?_
     all_goals (refine ZaQ ?_;refine ZaU ?_;refine Q6 hS hel rfl fd hlm (QX hr) rfl ?_)
     all_goals (first|(refine Ql ?_)|(refine Qo ?_)|(refine Q8 rfl rfl (fun hc=> ?_) (fun hc=> ?_)))
     all_goals (refine Zam ?_;refine Yaf ?_;refine Yah ?_;(first|refine zgn ?_|(refine zgy ?_;refine Q6 hS hel rfl fd hlm (QX hr) rfl ?_));refine Yaa ?_;(first|refine zgn ?_|(refine zgy ?_;refine zad ?_)))
     all_goals (refine Yax ?_)
     all_goals (refine ZaO ?_)
     all_goals refine zct ?_
     all_goals (refine Zak ?_;refine znc ?_;refine zf0 ?_;(first|(refine Q6 hS hel rfl fd hlm (QX hr) rfl ?_)|(refine zl hS ?_)))
     all_goals (refine Yap ?_)
     all_goals (refine zn ?_)
     all_goals refine zcf ?_
     all_goals (refine zsk ?_;refine ZaR ?_;refine zf0 ?_;(first|(refine Q6 hS hel rfl fd hlm (QX hr) rfl ?_)|(refine zl hS ?_));refine zsu ?_;refine znc ?_;refine zf0 ?_;refine zst hS ?_;intro w1 hS;have hS:=hS.ns;refine Zaz ?_;refine ZaU ?_;refine Q6 hS hel rfl fd hlm (QX hr) rfl ?_;refine zad ?_;refine ZaU ?_;refine Q1s hS hel rfl vw fd hlm (QX hr) (by omega) (by rfl) (Qb9 (r':=⟨r.there,r.lv,r.l,r.pages+1,r.used⟩) rfl) ?_;intro w8 hS;have hS:=hS.ns;refine ZaJ ?_;refine ZaU ?_;refine Q1s hS hel rfl vw fd (hls _) (QX (Q1Y (r:=⟨r.there,r.lv,r.l,r.pages+1,r.used⟩) (by omega))) (by omega) (by rfl) (Qb9 (r':=⟨r.there,r.lv,r.l,r.pages+1,0⟩) rfl) ?_;intro w8 hS;have hS:=hS.ns;rw [List.set_set] at hS)
     all_goals (refine Zaz ?_;refine ZaU ?_;refine Q6 (j:=3) (u:= .int .i64 0) hS hel rfl fd (hls _) (QX (Q1Y (r:=⟨r.there,r.lv,r.l,r.pages+1,0⟩) (by omega))) rfl ?_;refine zm ?_;refine zad ?_;refine ZaU ?_;refine Q1s hS hel rfl vw fd (hls _) (QX (Q1Y (r:=⟨r.there,r.lv,r.l,r.pages+1,0⟩) (by omega))) (by omega) (by rfl) (Qb9 (r':=⟨r.there,r.lv,r.l,r.pages+1,0+n⟩) rfl) ?_;intro w8 hS;have hS:=hS.ns;rw [List.set_set] at hS;refine zn ?_;refine Zas ?_)
     all_goals (exact ⟨_,rfl, .inr ⟨rfl,fun h=> h0 h.2,by rw [if_pos hmo];unfold Q66;rw [hbig,e1];exact hS⟩⟩)
 · have hmo':¬(r.pages=0∨16 < r.used+n):=fun h=> hmo (RgnV.more_iff.2 h)
   have e1:r.roomV n=⟨r.there,r.lv,r.l,r.pages,r.used+n⟩:=by unfold RgnV.roomV;rw [if_neg hmo]
   all_goals refine lgo tyD Tryz.func253 ?_
   all_goals (refine ZaQ ?_;refine ZaU ?_;refine Q6 hS hel rfl fd hlm (QX hr) rfl ?_)
   all_goals (refine Yap ?_)
   all_goals (refine Zam ?_;refine Yaf ?_;refine Yah ?_;(first|refine zgn ?_|(refine zgy ?_;refine Q6 hS hel rfl fd hlm (QX hr) rfl ?_));refine Yaa ?_;(first|refine zgn ?_|(refine zgy ?_;refine zad ?_)))
   all_goals (refine Yao ?_)
   all_goals (refine ZaO ?_)
   all_goals refine zcf ?_
   all_goals (refine zsk ?_;refine ZaR ?_;refine Yad ?_;refine Q6 hS hel rfl fd hlm (QX hr) rfl ?_;refine zm ?_;refine zad ?_;refine ZaU ?_;refine Q1s hS hel rfl vw fd hlm (QX hr) (by omega) (by rfl) (Qb9 (r':=⟨r.there,r.lv,r.l,r.pages,r.used+n⟩) rfl) ?_;intro w8 hS;have hS:=hS.ns;refine zn ?_;refine Zas ?_)
   all_goals (exact ⟨_,rfl, .inr ⟨rfl,fun h=> hmo h.1,by rw [if_neg hmo];unfold Q66;rw [hbig,e1];exact hS⟩⟩)
end Go.Proofs.YteflkifmgnpbhaaGreat
