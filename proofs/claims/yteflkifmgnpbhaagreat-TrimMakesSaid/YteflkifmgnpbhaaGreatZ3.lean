/- Lemmas of the proof, part 3: what the functions of the program do (contracts), and what follows. -/
import Derived.Test.YteflkifmgnpbhaaGreatZ2
import Derived.Test.YteflkifmgnpbhaaGreatZ1
import Derived.Lib.Strings
import Derived.Test.YteflkifmgnpbhaaGreatProg
namespace Go.Lir
variable {P:Program}{l:List GO}{Q:QT}{ρ:Env}{w:World}
theorem s_sidxA {d:Nat}{x i:Operand}{s:ByteArray}{k:IntKind}{n:Int}(hx:ρ.ev x= .string s) (hi:ρ.ev i= .int k n) (h0:0≤n) (hn:n.toNat<s.size) (h:∀b:UInt8,b.toNat<256→Q0 P l Q (upd ρ d (.int .u8 b.toNat)) w):Q0 P (⟨none, .sidx d x i⟩::l) Q ρ w:=
 s_sidx hx hi h0 (getElem?_pos s _ hn) (h _ (UInt8.toNat_lt _))
end Go.Lir
namespace Go.Proofs.YteflkifmgnpbhaaGreat
open Go.Lir
set_option maxHeartbeats 1000000
attribute [local irreducible] LC.wp Q0 QB QH retQ Q1k LO.wp Qh Calls
set_option linter.unusedSimpArgs false
set_option linter.unusedVariables false
variable {cx:Cx}{w:World}{L:List Res}
theorem Qax {l:List Int}{x:Int}{v:Value}(hl:intR.sl cx v l) (hn:l.length≤1000000) (hS:St cx w L):Rets Tryz.prog Q2x [v, .int .i64 x] w fun u w'=>u= .int .i64 (Q7A 0 l x)∧St cx w' L:=by
 all_goals refine lgo tyD Tryz.func89 ?_
 all_goals (refine Zbx ?_;refine Zbi ?_)
 refine zoL hS [0,1,7] (fun A LL ρ' w'=>∃(j:Nat),Has ρ' A∧Has ρ' [(8, .int .i64 j)]∧(j≤l.length)∧(Q7A 0 l x=Q7A j (l.drop j) x)∧St cx w' (LL)) (fun ρ' _=>(l.length - iv (ρ' 8)).toNat) ?_ ?_
 · exact ⟨0,zh,zh,(by omega),rfl,hS.sp⟩
 rintro ρ w1 ⟨j,hA,hρ,hj,hd,hS⟩;obtain ⟨ρ,rfl⟩:=env2 hA hρ
 all_goals (refine ZaV ?_)
 refine Q5 rfl (fun hc=>?_) (fun hc=>?_)
 · skip
   all_goals (refine Zar ?_;refine Zbm ?_;refine ZaG ?_;refine ZaX ?_;intro b1 o1 cs1 x1 hat1 hx1 he1;obtain rfl:=Qt he1;refine Yan ?_)
   all_goals (first|(refine Qp ?_)|(refine Qu ?_)|(refine Q7 rfl rfl (fun hc=>?_) (fun hc=>?_)))
   all_goals (refine zn ?_;rw [Q1 hx1,Q7A] at hd)
   all_goals
    first
    | (refine zct ?_
       all_goals (refine Zbk ?_)
       all_goals (refine ⟨_,rfl,?_,hS.sp⟩;rw [hd,if_pos (by omega)];done))
    | (refine zcf ?_
       all_goals refine zsk ?_)
   all_goals (refine ZaP ?_;exact ⟨⟨j+1,zh,zh,(by omega),by rw [hd,if_neg (by omega)],hS.sp⟩,Q4 (by omega)⟩)
 · skip
   all_goals (refine ZbG ?_;(first|(refine ⟨_,rfl,?_,hS.sp⟩;rw [hd,if_pos (by omega)];done)|(refine ⟨_,rfl,?_,hS.sp⟩;rw [hd,List.drop_of_length_le (by omega),Q7A];done)))
theorem QbW {ks:List Bool}{k:Nat}{v:Value}(hk:k≤ks.length) (hn:ks.length≤1000000) (hS:St cx w L){i:Nat}(hi:nth L i=some (sl 4 1 v (ks.map Qi))):Rets Tryz.prog Q80 [v, .int .i64 k] w fun u w'=>u= .int .i64 (num ks k)∧St cx w' L:=by
 have hnl:∀j,num ks j≤j:=fun j=>num_le
 all_goals refine lgo tyD Tryz.func90 ?_
 all_goals (refine Zaf ?_;refine Zaf ?_;refine ZaI ?_)
 refine zoL hS [0,1] (fun A LL ρ' w'=>∃(j n:Nat),Has ρ' A∧Has ρ' [(5, .int .i64 n),(6, .int .i64 j)]∧(j≤k)∧(n=num ks j)∧St cx w' (LL)) (fun ρ' _=>(k - iv (ρ' 6)).toNat) ?_ ?_
 · exact ⟨0,0,zh,zh,(by omega),rfl,hS.sp⟩
 rintro ρ w1 ⟨j,n,hA,hρ,hj,hm,hS⟩;obtain ⟨ρ,rfl⟩:=env2 hA hρ
 all_goals (refine Zbr ?_;refine Zaj ?_)
 refine Q5 rfl (fun hc=>?_) (fun hc=>?_)
 · skip
   all_goals (refine Zbq ?_;obtain ⟨b1,hb1⟩:∃x,ks[j]?=some x:=⟨_,List.getElem?_eq_getElem (by omega)⟩;have hsn:=num_snoc hb1;have hbl:=hnl j;refine Zbc ?_;refine QY (m:=j) hS rfl rfl hi (by simp;omega) ?_;intro b8 o8 hl8;refine QI (j:=0) hS hl8 rfl hi rfl (by rw [List.getElem?_map,hb1];rfl) rfl ?_;refine zn ?_)
   refine Q5O rfl (fun hc=>?_) (fun hc=>?_)
   · skip
     all_goals (rw [if_pos hc] at hsn;refine Zax ?_;refine Zax ?_;exact ⟨⟨j+1,n+1,zh,zh,(by omega),by omega,hS.sp⟩,Q4 (by omega)⟩)
   · skip
     all_goals (rw [if_neg (by simpa using hc)] at hsn;refine zsk ?_;refine Zax ?_;(first|(exact ⟨⟨j+1,n+1,zh,zh,(by omega),by omega,hS.sp⟩,Q4 (by omega)⟩)|(exact ⟨⟨j+1,n,zh,zh,(by omega),by omega,hS.sp⟩,Q4 (by omega)⟩)))
 · skip
   all_goals (refine Zco ?_;refine ⟨_,rfl,?_,hS.sp⟩;rw [hm,show j=k by omega];done)
theorem isnan_c (x:Int) (hS:St cx w L):Rets Tryz.prog Q8D [.int .i64 x] w fun u w'=>u= .bool false∧St cx w' L:=by
 all_goals refine lgo tyD Tryz.func260 ?_
 all_goals (refine Zaf ?_;refine ZaG ?_)
 all_goals (first|(refine Qy ?_)|(refine Qz ?_))
 all_goals (refine ZaB ?_;refine ⟨_,rfl,?_,hS.sp⟩;(simp);done)
theorem less_c (x y:Int) (hS:St cx w L):Rets Tryz.prog Q9E [.int .i64 x, .int .i64 y] w fun u w'=>u= .bool (decide (x<y))∧St cx w' L:=by
 all_goals refine lgo tyD Tryz.func232 ?_
 all_goals (refine ZbQ ?_;refine zR1 (c:=isnan_c _ hS) (h:=?_);rintro v1 w1 ⟨rfl,hS⟩;refine zm ?_;refine zgn ?_;refine zgn ?_;refine zgn ?_;refine Yad ?_;refine Zbb ?_;refine Yac ?_)
 all_goals (first|refine zgn ?_|(refine zgy ?_;(first|(refine Q1f ?_)|(refine Q1g ?_)|(refine Qr rfl rfl (fun hc=>?_) (fun hc=>?_)))))
 all_goals (refine Yad ?_;refine ZaB ?_;(first|(refine ⟨_,rfl,?_,hS.sp⟩;rw [decide_eq_true hc];done)|(refine ⟨_,rfl,?_,hS.sp⟩;rw [decide_eq_false hc];done)))
theorem insort_c {l:List Int}{v:Value}(hn:l.length≤1000000) (hS:St cx w (sl 3 1 v (l.map QX)::L)):
 Rets Tryz.prog Q2h [v, .int .i64 0, .int .i64 l.length] w fun _ w'=>∃l',Ord l' l'.length l'.length∧(Dif l→Dif l')∧(∀z,z∈l'↔z∈l)∧l'.length=l.length∧St cx w' (sl 3 1 v (l'.map QX)::L):=by
 all_goals refine lgo tyD Tryz.func226 ?_
 all_goals (refine Zae ?_;refine Zap ?_;refine Q3F ?_)
 refine zo [0,1,2] (fun A ρ' w'=>∃(i:Nat) (l1:List Int),Has ρ' A∧Has ρ' [(6, .int .i64 i)]∧(1≤i)∧(i≤l.length∨i=1)∧(l1.length=l.length)∧(i≤l.length→Ord l1 i i)∧(Dif l→Dif l1)∧(∀z,z∈l1↔z∈l)∧St cx w' (sl 3 1 v (l1.map QX)::L)) (fun ρ' _=>(l.length - iv (ρ' 6)).toNat) ?_ ?_
 · exact ⟨1,l,zh,zh,(by omega),(by omega),rfl,(fun _=>Ord.one),id,(fun _=>Iff.rfl),hS.sp⟩
 rintro ρ w1 ⟨i,l1,hA,hρ,hj,hile,hl1,ho,hd,hm,hS⟩;obtain ⟨ρ,rfl⟩:=env2 hA hρ
 all_goals (refine Zbr ?_;refine Zaj ?_)
 refine Q5 rfl (fun hc=>?_) (fun hc=>?_)
 · skip
   all_goals (refine Zar ?_;refine Zae ?_;refine ZaD ?_)
   refine zo [0,1,2,6] (fun A ρ' w'=>∃(j:Nat) (l2:List Int),Has ρ' A∧Has ρ' [(7, .int .i64 j)]∧(j≤i)∧(l2.length=l.length)∧(Ord l2 (i+1) j)∧(Dif l→Dif l2)∧(∀z,z∈l2↔z∈l)∧St cx w' (sl 3 1 v (l2.map QX)::L)) (fun ρ' _=>(iv (ρ' 7)).toNat) ?_ ?_
   · exact ⟨i,l1,zh,zh,(by omega),hl1,Ord.begin (ho (by omega)),hd,hm,hS.sp⟩
   rintro ρ w1 ⟨j,l2,hA,hρ,hji,hl2,ho2,hd2,hm2,hS⟩;obtain ⟨ρ,rfl⟩:=env2 hA hρ;obtain ⟨xa,hxa⟩:∃x,l2[j]?=some x:=⟨_,List.getElem?_eq_getElem (by omega)⟩;obtain ⟨xb,hxb⟩:∃x,l2[j - 1]?=some x:=⟨_,List.getElem?_eq_getElem (by omega)⟩
   all_goals (refine ZaS ?_;refine zD (ci 15 [13,14]) ?_;have hS:=hS.drew;refine ZbV ?_)
   all_goals (first|(refine QL ?_)|(refine QO ?_)|(refine Qd rfl rfl (fun hc=>?_) (fun hc=>?_)))
   all_goals (refine Zbb ?_;refine Yac ?_;(first|refine zgn ?_|(refine zgy ?_;refine QY (m:=j) hS vw rfl fd (by rw [List.length_map];omega) ?_;intro b8 o8 hl8));(first|refine zgn ?_|(refine zgy ?_;refine QI (j:=0) hS hl8 rfl fd rfl (by rw [List.getElem?_map,hxa];rfl) rfl ?_));refine Yac ?_;refine Yac ?_;(first|refine zgn ?_|(refine zgy ?_;refine zsu ?_));(first|refine zgn ?_|(refine zgy ?_;rw [show (j:Int) - 1=((j - 1:Nat):Int) by omega];refine QY (m:=j - 1) hS vw rfl fd (by rw [List.length_map];omega) ?_;intro b9 o9 hl9));(first|refine zgn ?_|(refine zgy ?_;refine QI (j:=0) hS hl9 rfl fd rfl (by rw [List.getElem?_map,hxb];rfl) rfl ?_)))
   all_goals (first|refine zgn ?_|(refine zgy ?_;refine zR2 (c:=less_c xa xb hS) (h:=?_);rintro v1 w1 ⟨rfl,hS⟩;(cases hdec:decide (xa<xb));have hg:=of_decide_eq_false hdec;rotate_left;have hg:=of_decide_eq_true hdec;all_goals skip))
   all_goals (refine ZaK ?_)
   all_goals
    first
    | (refine zcf ?_
       all_goals (refine Zca ?_)
       all_goals (exact ⟨⟨i+1,l2,zh,zh,(by omega),(by omega),hl2,(fun _=>if h0:j=0 then by subst h0;exact ho2.top else ho2.stop (by omega) hxb hxa (by omega)),hd2,hm2,hS.sp⟩,Q4 (by omega)⟩))
    | (refine zct ?_
       all_goals (refine Zar ?_;refine zC [(0,none),(1,none),(2,none),(3,none),(4,none),(5,none),(6,none),(7,none),(8,none),(9,none),(10,none),(11,none),(12,none),(13,none),(14,none),(15,some (some [])),(16,none),(17,some none)] ?_;have hS:=hS.drew;refine Zbv ?_;refine Zaz ?_;refine Zaz ?_;refine Zaz ?_;refine zsu ?_;refine ZbX ?_;refine Zaz ?_;refine zsu ?_;refine Zac ?_;rw [show (j:Int) - 1=((j - 1:Nat):Int) by omega];refine QY (m:=j - 1) hS vw rfl fd (by rw [List.length_map];omega) ?_;intro b9 o9 hl9;refine Zac ?_;refine QI (j:=0) hS hl9 rfl fd rfl (by rw [List.getElem?_map,hxb];rfl) rfl ?_;refine ZbX ?_;refine Zaz ?_;refine QY (m:=j) hS vw rfl fd (by rw [List.length_map];omega) ?_;intro b8 o8 hl8;refine Zac ?_;refine QI (j:=0) hS hl8 rfl fd rfl (by rw [List.getElem?_map,hxa];rfl) rfl ?_;refine Zac ?_;refine QY (m:=j) hS vw rfl fd (by rw [List.length_map];omega) ?_;intro b7 o7 hl7)
       all_goals (refine Zat ?_;refine Q1m (j:=0) (css':=(l2.set j xb).map QX) hS hl7 rfl vw fd rfl (by rw [List.getElem?_map,hxa];rfl) (by decide) rfl (by rw [List.map_set];rfl) ?_;intro w7 hS;have hS:=hS.ns;refine ZaM ?_;refine QY (m:=j - 1) hS vw rfl fd (by rw [List.length_map,List.length_set];omega) ?_;intro b6 o6 hl6;refine ZaE ?_;refine Q1m (j:=0) (css':=((l2.set j xb).set (j - 1) xa).map QX) hS hl6 rfl vw fd rfl (by rw [List.getElem?_map,List.getElem?_set_ne (by omega),hxb];rfl) (by decide) rfl (by simp only [List.map_set];rfl) ?_;intro w6 hS;have hS:=hS.ns;refine ZaA ?_;refine Zag ?_;refine zsu ?_;rw [show (j:Int) - 1=((j - 1:Nat):Int) by omega];refine Zab ?_)
       all_goals (exact ⟨⟨j - 1,((l2.set j xb).set (j - 1) xa),zh,zh,(by omega),(by simp only [List.length_set];exact hl2),ho2.swap (by omega) (by omega) hxb hxa (by omega),(fun h=>(hd2 h).swap (by omega) hxb hxa),(fun z=>(swap_mem hxb hxa (by omega) z).trans (hm2 z)),hS.sp⟩,(by show ((j - 1:Nat):Int).toNat<(j:Int).toNat;omega)⟩))
 · skip
   all_goals (refine zex ?_)
   all_goals (refine Q17 ?_;exact ⟨_,rfl,l1,(by rw [hl1];rcases Nat.eq_zero_or_pos l.length with h0|h0;rw [h0];exact Ord.nil;rw [show l.length=i by omega];exact ho (by omega)),hd,hm,hl1,hS.sp⟩)
set_option maxRecDepth 100000 in
theorem len64_c {n:Nat}(hn:n≤12) (hS:St cx w L):Rets Tryz.prog Q6J [.int .u64 n] w fun u w'=>(∃k,u= .int .i64 k)∧St cx w' L:=by
 all_goals refine lgo tyD Tryz.func236 ?_
 all_goals (refine Zbx ?_)
 all_goals (first|(refine Q2b ?_)|(refine Q2c ?_))
 all_goals (refine zn ?_)
 all_goals refine zcf ?_
 all_goals (refine zsk ?_;refine Zan ?_)
 all_goals (first|(refine Q2b ?_)|(refine Q2c ?_))
 all_goals (refine zn ?_)
 all_goals refine zcf ?_
 all_goals (refine zsk ?_;refine Zan ?_)
 all_goals (first|(refine Q2b ?_)|(refine Q2c ?_))
 all_goals (refine zn ?_)
 all_goals refine zcf ?_
 all_goals (refine zsk ?_;refine ZaG ?_;refine QcO rfl ?_;rw [u8_nat,show n % 256=n from Nat.mod_eq_of_lt (by omega)];refine s_sidxA (n:=(n:Int)) rfl rfl (by omega) (Nat.lt_of_lt_of_eq (show (n:Int).toNat<256 by omega) (by kernel_rfl)) ?_;intro b9 hb9;refine s_conv64 rfl (by omega) (by omega) ?_;refine Zap ?_;refine Zai ?_;exact ⟨_,rfl,⟨_,rfl⟩,hS.sp⟩)
theorem len_c {n:Nat}(hn:n≤12) (hS:St cx w L):Rets Tryz.prog Q8l [.int .u64 n] w fun u w'=>(∃k,u= .int .i64 k)∧St cx w' L:=by
 all_goals refine lgo tyD Tryz.func201 ?_
 all_goals (refine Zaf ?_;refine QJ ?_)
 all_goals
  first
  | (refine zct ?_
     all_goals (refine Zae ?_; refine QcO rfl ?_; fail "no contract of Q6K"; refine ZaB ?_)
     all_goals (exact ⟨_,rfl,⟨_,rfl⟩,hS.sp⟩))
  | (refine zcf ?_
     all_goals refine zsk ?_)
 all_goals (refine Zae ?_;refine zR1 (c:=len64_c hn hS) (h:=?_);rintro v1 w1 ⟨⟨k9,rfl⟩,hS⟩;refine ZaB ?_;exact ⟨_,rfl,⟨_,rfl⟩,hS.sp⟩)
theorem pdq_c {l:List Int}{v:Value}{k:Int}(hn:l.length≤12) (hS:St cx w (sl 3 1 v (l.map QX)::L)):
 Rets Tryz.prog Q2X [v, .int .i64 0, .int .i64 l.length, .int .i64 k] w fun _ w'=>∃l',Ord l' l'.length l'.length∧(Dif l→Dif l')∧(∀z,z∈l'↔z∈l)∧l'.length=l.length∧St cx w' (sl 3 1 v (l'.map QX)::L):=by
 all_goals refine lgo tyD Tryz.func200 ?_
 all_goals (refine Zaf ?_;refine Zay ?_)
 refine zo [0] (fun A ρ' w'=>Has ρ' A∧Has ρ' [(1, .int .i64 0),(2, .int .i64 l.length),(3, .int .i64 k),(8, .bool true),(9, .bool true)]∧St cx w' (sl 3 1 v (l.map QX)::L)) (fun _ _=>0) ?_ ?_
 · exact ⟨zh,zh,hS.sp⟩
 rintro ρ w1 ⟨hA,hρ,hS⟩;obtain ⟨ρ,rfl⟩:=env2 hA hρ
 all_goals (refine Q3F ?_;refine ZaG ?_;refine zsu ?_;refine Zab ?_;refine Zan ?_)
 all_goals (refine zleqt ?_)
 all_goals (refine zn ?_)
 all_goals refine zct ?_
 all_goals (refine ZaG ?_;refine zm ?_;refine zR3 (c:=insort_c (by omega) hS) (h:=?_);rintro v1 w1 ⟨l',ho',hd',hm',hl',hS⟩;refine ZaY ?_;refine q_ret0 ?_;exact ⟨_,rfl,l',ho',hd',hm',hl',hS.sp⟩)
end Go.Proofs.YteflkifmgnpbhaaGreat
namespace Go.Lir
set_option linter.unusedVariables false
structure Val where
 kind:Int
 region:Int
 thing:Int
 n:Int
deriving DecidableEq
def Val.cells (v:Val):List Value:=[.int .i64 v.kind, .int .i64 v.region, .int .i64 v.thing, .int .i64 v.n]
def Val.v (v:Val):Value:= .agg ⟨v.cells⟩
def Val.zero:Val:=⟨0,0,0,0⟩
structure Thg where
 array:Bool
 l:List Val
structure Rgn where
 there:Bool
 l:List Thg
 pages:Int
 used:Int
def Rgn.none:Rgn:=⟨false,[],0,0⟩
structure HpS where
 l:List Rgn
 left:Int
def HpS.reg (s:HpS) (k:Int):Rgn:=if 0≤k then s.l.getD k.toNat Rgn.none else Rgn.none
def HpS.has (s:HpS) (k:Int):Bool:=(s.reg k).there
def HpS.live (s:HpS):Nat:=s.l.countP fun r=>r.there
def HpS.full (s:HpS):Bool:=decide (s.live=16)
def HpS.open (s:HpS):HpS:=if s.full then s else ⟨s.l++[⟨true,[],0,0⟩],s.left⟩
def HpS.openV (s:HpS):Val:=if s.full then Val.zero else ⟨2,s.l.length,0,0⟩
def HpS.can (s:HpS) (v:Val):Bool:=decide (v.kind=2) && s.has v.region
def HpS.shut (s:HpS) (v:Val):HpS:=if s.can v then ⟨s.l.set v.region.toNat Rgn.none,s.left+(s.reg v.region).pages⟩ else s
def Rgn.more (r:Rgn) (n:Int):Bool:=decide (r.pages=0∨16<r.used+n)
def Rgn.room (r:Rgn) (n:Int):Rgn:=if r.more n then ⟨r.there,r.l,r.pages+1,n⟩ else ⟨r.there,r.l,r.pages,r.used+n⟩
def Rgn.push (r:Rgn) (t:Thg):Rgn:=⟨r.there,r.l++[t],r.pages,r.used⟩
def HpS.code (s:HpS) (v:Val) (n:Int):Int:=if !s.can v then 20 else if (s.reg v.region).more n∧s.left=0 then 14 else 0
def HpS.put (s:HpS) (v:Val) (n:Int) (t:Thg):HpS:=if s.code v n=0 then ⟨s.l.set v.region.toNat (((s.reg v.region).room n).push t),if (s.reg v.region).more n then s.left - 1 else s.left⟩ else s
def HpS.putV (s:HpS) (v:Val) (kind n:Int):Val:=if s.code v n=0 then ⟨kind,v.region,(s.reg v.region).l.length,0⟩ else Val.zero
def HpS.thg (s:HpS) (k t:Nat):Thg:=(s.reg k).l.getD t ⟨false,[]⟩
def HpS.at_ (s:HpS) (v:Val):Option (Nat×Nat):=
 if (v.kind=3∨v.kind=4)∧s.has v.region=true∧0≤v.thing∧v.thing<(s.reg v.region).l.length∧(s.thg v.region.toNat v.thing.toNat).array=decide (v.kind=4) then some (v.region.toNat,v.thing.toNat) else none
def HpS.get (s:HpS) (v:Val) (k:Int):Val×Int:=match s.at_ v with
 | none=>(Val.zero,20)
 | some (r,t)=>if 0≤k∧k<(s.thg r t).l.length then ((s.thg r t).l.getD k.toNat Val.zero,0) else (Val.zero,1)
def HpS.setC (s:HpS) (v:Val) (k:Int) (x:Val):Int:=match s.at_ v with
 | none=>20
 | some (r,t)=>if (s.thg r t).array=true∧x.kind≠1 then 20 else if 0≤k∧k<(s.thg r t).l.length then 0 else 1
def Rgn.upd (r:Rgn) (t:Nat) (x:Thg):Rgn:=⟨r.there,r.l.set t x,r.pages,r.used⟩
def Thg.upd (t:Thg) (k:Nat) (x:Val):Thg:=⟨t.array,t.l.set k x⟩
def HpS.set (s:HpS) (v:Val) (k:Int) (x:Val):HpS:=match s.at_ v with
 | none=>s
 | some (r,t)=>if s.setC v k x=0 then ⟨s.l.set r ((s.reg r).upd t ((s.thg r t).upd k.toNat x)),s.left⟩ else s
def HpS.len (s:HpS) (v:Val):Int×Int:=match s.at_ v with
 | none=>(0,20)
 | some (r,t)=>((s.thg r t).l.length,0)
def words (l:List Val):Int:=if l.length=0 then 1 else l.length
def HpS.tuple (s:HpS) (v:Val) (l:List Val):HpS:=s.put v (words l) ⟨false,l⟩
def noughts (n:Int):List Val:=List.replicate n.toNat ⟨1,0,0,0⟩
def HpS.arrC (s:HpS) (v:Val) (n:Int):Int:=if n<0∨15<n then 1 else s.code v (n+1)
def HpS.arr (s:HpS) (v:Val) (n:Int):HpS:=if n<0∨15<n then s else s.put v (n+1) ⟨true,noughts n⟩
def HpS.arrV (s:HpS) (v:Val) (n:Int):Val:=if n<0∨15<n then Val.zero else s.putV v 4 (n+1)

structure HpS.Ok (N:Nat) (s:HpS):Prop where
 len:s.l.length≤N
 each:∀r∈s.l,r.l.length≤N∧(∀t∈r.l,t.l.length≤1000)∧0≤r.pages∧0≤r.used∧r.used≤1000∧(r.there=false→r=Rgn.none)
 left:0≤s.left
 sum:s.left+(s.l.map Rgn.pages).sum≤1000
 live:s.live≤16

theorem sum_perm {l l':List Int}(h:l.Perm l'):l.sum=l'.sum:=by
 induction h with
 | nil=>rfl
 | cons x _ ih=>rw [List.sum_cons,List.sum_cons,ih]
 | swap x y l=>simp only [List.sum_cons];omega
 | trans _ _ h1 h2=>rw [h1,h2]
theorem Q7I {l:List Int}(h:∀x∈l,0≤x):0≤l.sum:=by
 induction l with
 | nil=>simp
 | cons x l ih=>rw [List.sum_cons];have:=h x (by simp);have:=ih fun y hy=>h y (by simp [hy]);omega
theorem Q9v {α:Type}:∀{l:List α}{k:Nat}{x:α},l[k]?=some x→l.Perm (x::l.eraseIdx k)
 | [],_,_,h=>by simp at h
 | y::l,0,x,h=>by simp at h;subst h;exact .refl _
 | y::l,k+1,x,h=>((Q9v (l:=l) (by simpa using h)).cons y).trans (.swap _ _ _)
theorem HpS.Ok.pages {N:Nat}{s:HpS}(h:s.Ok N):s.left≤1000∧∀r∈s.l,r.pages+s.left≤1000:=by
 have h1:=h.sum
 have h2:=Q7I (l:=s.l.map Rgn.pages) (by intro x hx;obtain ⟨r,hr,rfl⟩:=List.mem_map.1 hx;exact (h.each r hr).2.2.1)
 have h3:=h.left
 refine ⟨by omega,fun r hr=>?_⟩
 obtain ⟨k,hk⟩:=List.mem_iff_getElem?.1 hr
 have h4:=sum_perm ((Q9v hk).map Rgn.pages)
 rw [List.map_cons,List.sum_cons] at h4
 have h5:=Q7I (l:=(s.l.eraseIdx k).map Rgn.pages) (by intro x hx;obtain ⟨r,hr,rfl⟩:=List.mem_map.1 hx;exact (h.each r (List.mem_of_mem_eraseIdx hr)).2.2.1)
 omega
theorem HpS.Ok.mono {N M:Nat}{s:HpS}(h:s.Ok N) (hm:N≤M):s.Ok M:=⟨by have:=h.len;omega,fun r hr=>by obtain ⟨h1,h2⟩:=h.each r hr;exact ⟨by omega,h2⟩,h.left,h.sum,h.live⟩
end Go.Lir
namespace Go.Lir
abbrev wr (n:Int):Int:=IntKind.i64.wrap n
def divF (a b:Int):Int×Bool:=if b=0 then (0,false) else if b=-1 then (wr (0 - a),true) else (wr (a.tdiv b),true)
def opF (k a b:Int):Int×Bool:=
 if k=1 then (wr (a+b),true) else if k=2 then (wr (a - b),true) else if k=3 then (wr (a*b),true)
 else if k=4 then divF a b else if k=5 then (if (divF a b).2 then (wr (a - wr ((divF a b).1*b)),true) else (0,false))
 else if k=6 then (if a<b then 1 else 0,true) else if k=7 then (if a=b then 1 else 0,true) else if k=8 then (bitI .and .i64 a b,true) else if k=9 then (bitI .xor .i64 a b,true) else (0,false)
end Go.Lir
namespace Go.Lir
set_option linter.unusedVariables false
structure Frm where
 f:Nat
 b:Nat
 i:Nat
 vals:List Val
 regs:List Int
structure MS where
 h:HpS
 g:Frm
 st:List Frm
 inp:List Int
 out:List Int
 fuel:Nat
inductive Stp where
 | go (s:MS)
 | halt (e:Int)
 | done (l:List Int)
 | lost
def Q2A {α:Type}(x:Option α) (f:α→Stp):Stp:=match x with
 | none=> .lost
 | some a=>f a
abbrev intV (n:Int):Val:=⟨1,0,0,n⟩
def Frm.val (g:Frm) (k:Int):Option Val:=if k<0 then none else g.vals[k.toNat]?
def Frm.num (g:Frm) (k:Int):Option Int:=match g.val k with
 | none=>none
 | some v=>if v.kind=1 then some v.n else none
def Frm.args (g:Frm):List Int→Option (List Val)
 | []=>some []
 | k::l=>match g.val k,g.args l with
   | some v,some vs=>some (v::vs)
   | _,_=>none
def Frm.reg (g:Frm) (k:Int):Option Int:=if k<0 then none else g.regs[k.toNat]?
def Frm.rgs (g:Frm):List Int→Option (List Int)
 | []=>some []
 | k::l=>match g.reg k,g.rgs l with
   | some v,some vs=>some (v::vs)
   | _,_=>none
def MS.put (s:MS) (vs:List Val):MS:=⟨s.h,⟨s.g.f,s.g.b,s.g.i,s.g.vals++vs,s.g.regs⟩,s.st,s.inp,s.out,s.fuel⟩
def MS.hp (s:MS) (h:HpS):MS:=⟨h,s.g,s.st,s.inp,s.out,s.fuel⟩
def MS.fr (s:MS) (g:Frm):MS:=⟨s.h,g,s.st,s.inp,s.out,s.fuel⟩
def MS.made (s:MS) (e:Int) (h:HpS) (v:Val):Stp:=if e=14 then .halt 6 else if e≠0 then .lost else .go ((s.hp h).put [v])
def Qdb (v:Val) (e:Int) (k:Stp):Stp:=if v.kind≠4 then .lost else if e=1 then .halt 2 else if e≠0 then .lost else k
def MS.newR (s:MS):Stp:=if s.h.full=true then .halt 6 else .go ((⟨s.h.open,⟨s.g.f,s.g.b,s.g.i,s.g.vals,s.g.regs++[s.h.openV.region]⟩,s.st,s.inp,s.out,s.fuel⟩:MS).put [s.h.openV])
def MS.inS (s:MS):Stp:=match s.inp with
 | []=> .halt 4
 | n::r=> .go ((⟨s.h,s.g,s.st,r,s.out,s.fuel⟩:MS).put [intV n])
def MS.outS (s:MS) (n:Int):Stp:=if s.out.length=2000 then .halt 8 else .go ⟨s.h,s.g,s.st,s.inp,s.out++[n],s.fuel⟩
def MS.call (m:Module) (s:MS) (x:Ins):Stp:=match m.funcs[x.k.toNat]? with
 | none=> .lost
 | some g=>Q2A (s.g.rgs x.regs) fun rs=>Q2A (s.g.args x.args) fun vs=>
   if (rs.length:Int)≠g.regs∨vs.length≠g.params.length then .lost else if s.st.length+1=40 then .halt 5 else .go ⟨s.h,⟨x.k.toNat,0,0,vs,rs⟩,s.g::s.st,s.inp,s.out,s.fuel⟩
def MS.ins (m:Module) (s:MS) (x:Ins):Stp:=
 if x.op=1 then .go (s.put [intV x.n])
 else if x.op=2 then Q2A (s.g.num x.a) fun a=>Q2A (s.g.num x.b) fun b=>if (opF x.k a b).2=false then .halt 1 else .go (s.put [intV (opF x.k a b).1])
 else if x.op=3 then s.newR
 else if x.op=4 then Q2A (s.g.val x.a) fun v=>if s.h.can v=false then .lost else .go (s.hp (s.h.shut v))
 else if x.op=5 then Q2A (s.g.val x.a) fun v=>Q2A (s.g.args x.args) fun l=>s.made (s.h.code v (words l)) (s.h.tuple v l) (s.h.putV v 3 (words l))
 else if x.op=6 then Q2A (s.g.val x.a) fun v=>if v.kind≠3 then .lost else if (s.h.get v x.k).2≠0 then .lost else .go (s.put [(s.h.get v x.k).1])
 else if x.op=7 then Q2A (s.g.val x.a) fun v=>if v.kind≠3 then .lost else Q2A (s.g.val x.b) fun y=>if s.h.setC v x.k y≠0 then .lost else .go (s.hp (s.h.set v x.k y))
 else if x.op=8 then Q2A (s.g.val x.a) fun v=>Q2A (s.g.num x.b) fun n=>if n<0∨15<n then .halt 3 else s.made (s.h.arrC v n) (s.h.arr v n) (s.h.arrV v n)
 else if x.op=9 then Q2A (s.g.val x.a) fun v=>Q2A (s.g.num x.b) fun n=>Qdb v (s.h.get v n).2 (.go (s.put [(s.h.get v n).1]))
 else if x.op=10 then Q2A (s.g.val x.a) fun v=>Q2A (s.g.num x.b) fun n=>Q2A (s.g.num x.c) fun c=>Qdb v (s.h.setC v n (intV c)) (.go (s.hp (s.h.set v n (intV c))))
 else if x.op=11 then Q2A (s.g.val x.a) fun v=>Qdb v (s.h.len v).2 (.go (s.put [intV (s.h.len v).1]))
 else if x.op=12 then s.inS
 else if x.op=13 then Q2A (s.g.num x.a) fun n=>s.outS n
 else s.call m x
def MS.to (f:Fun) (s:MS) (t:To):Stp:=match f.blocks[t.block.toNat]? with
 | none=> .lost
 | some b=>Q2A (s.g.rgs t.regs) fun rs=>Q2A (s.g.args t.args) fun vs=>
   if (rs.length:Int)≠b.regs∨vs.length≠b.params.length then .lost else .go (s.fr ⟨s.g.f,t.block.toNat,0,vs,rs⟩)
def intsV:List Val→Option (List Int)
 | []=>some []
 | v::l=>match intsV l with
   | none=>none
   | some ns=>if v.kind=1 then some (v.n::ns) else none
def MS.ret (f:Fun) (s:MS) (e:Tail):Stp:=Q2A (s.g.args e.args) fun vs=>if vs.length≠f.results.length then .lost else match s.st with
 | c::st=> .go ((⟨s.h,c,st,s.inp,s.out,s.fuel⟩:MS).put vs)
 | []=>match intsV vs with
   | none=> .lost
   | some ns=> .done ns
def MS.fin (f:Fun) (s:MS) (e:Tail):Stp:=
 if e.op=1 then s.to f e.yes
 else if e.op=2 then Q2A (s.g.num e.a) fun n=>if n≠0 then s.to f e.yes else s.to f e.no
 else s.ret f e
def MS.next (s:MS):MS:=s.fr ⟨s.g.f,s.g.b,s.g.i+1,s.g.vals,s.g.regs⟩
def MS.one (m:Module) (s:MS):Stp:=match m.funcs[s.g.f]? with
 | none=> .lost
 | some f=>match f.blocks[s.g.b]? with
   | none=> .lost
   | some b=>match b.code[s.g.i]? with
     | some x=>s.next.ins m x
     | none=>s.fin f b.fin
def MS.place (m:Module) (s:MS):Int:=match m.funcs[s.g.f]? with
 | none=>0
 | some f=>match f.blocks[s.g.b]? with
   | none=>0
   | some b=>if s.g.i<b.code.length then Q45 s.g.f s.g.b s.g.i else Q4J s.g.f s.g.b
def MS.tick (s:MS):MS:=⟨s.h,s.g,s.st,s.inp,s.out,s.fuel+1⟩
inductive Run where
 | on (s:MS)
 | over (s:MS) (e:Int) (back:List Int)
 | stuck (f:Flt)
def Run.of (m:Module) (s:MS):Stp→Run
 | .go s'=> .on s'
 | .halt e=> .over s.tick e []
 | .done l=> .over s.tick 0 l
 | .lost=> .stuck (20,s.place m)
def Run.step (m:Module) (most:Nat):Run→Run
 | .on s=>if s.fuel=most then .over s 7 [] else .of m s (s.tick.one m)
 | r=>r
def Run.steps (m:Module) (most:Nat):Nat→Run→Run
 | 0,r=>r
 | k+1,r=>Run.steps m most k (r.step m most)
def MS.start (inp:List Int) (pages:Int):MS:=⟨⟨[],pages⟩,⟨0,0,0,[],[]⟩,[],inp,[],0⟩
structure Oc where
 e:Int
 back:List Int
 out:List Int
 fuel:Int
def Run.all (m:Module) (inp:List Int) (most:Nat) (pages:Int):Run:=Run.steps m most (most+1) (.on (MS.start inp pages))
end Go.Lir
namespace Go.Lir
set_option linter.unusedVariables false
def hasB (l:List Bool) (r:Int):Bool:=decide (0≤r) && decide (r<l.length) && l.getD r.toNat false

def Q1e (l:List Bool) (n:Nat):List Int:=((List.range n).filter fun j=>l.getD j false).map Int.ofNat
def Q1o (l:List Bool):List Int:=Q1e l l.length
theorem Q3q (l:List Bool) (n:Nat):Q1e l (n+1)=Q1e l n++if l.getD n false then [(n:Int)] else []:=by
 unfold Q1e
 rw [List.range_succ,List.filter_append,List.map_append]
 congr 1
 by_cases h:l.getD n false=true
 · rw [if_pos h,List.filter_cons_of_pos (by simpa using h)];rfl
 · rw [if_neg h,List.filter_cons_of_neg (by simpa using h)];rfl
theorem Q5E (l:List Bool) (n:Nat):(Q1e l n).length≤n:=by
 unfold Q1e
 rw [List.length_map]
 exact Nat.le_trans (List.length_filter_le _ _) (by simp)

def Q1c (l:List Bool) (seen:List Int):List Int→Int
 | []=>if seen.length<(Q1o l).length then 12 else 0
 | x::xs=>if hasB l x then if x∈seen then 13 else Q1c l (seen++[x]) xs else 10
def Q4z (l:List Bool) (ys:List Int):List Bool:=(List.range l.length).map fun (j:Nat)=>decide ((j:Int)∈ys)
theorem Qcz (l:List Bool) (ys:List Int):(Q4z l ys).length=l.length:=by simp [Q4z]
theorem Qcy (l:List Bool):Q4z l []=List.replicate l.length false:=by
 apply List.ext_getElem<;>simp [Q4z]
theorem QcA {l:List Bool}{ys:List Int}{r:Int}(h0:0≤r) (h1:r<l.length):(Q4z l ys).getD r.toNat false=decide (r∈ys):=by
 have:r.toNat<l.length:=by omega
 simp [Q4z,List.getD_eq_getElem?_getD,List.getElem?_map,List.getElem?_range this,Int.toNat_of_nonneg h0]
theorem Qcx {l:List Bool}{ys:List Int}{r:Int}(h0:0≤r):(Q4z l ys).set r.toNat true=Q4z l (ys++[r]):=by
 apply List.ext_getElem?
 intro j
 simp only [Q4z,List.getElem?_set,List.getElem?_map,List.length_map,List.length_range]
 by_cases hj:j<l.length
 · simp only [List.getElem?_range hj,Option.map_some]
   by_cases he:r.toNat=j
   · subst he;simp [hj,Int.toNat_of_nonneg h0]
   · have:(j:Int)≠r:=by omega
     simp [he,this]
 · have h2:(List.range l.length)[j]?=none:=by simp;omega
   simp only [h2,Option.map_none]
   by_cases he:r.toNat=j
   · subst he;simp [hj]
   · simp [he]
theorem Q4g {l:List Bool}{r:Int}(h:hasB l r=true):0≤r∧r<l.length∧l.getD r.toNat false=true:=by
 simp only [hasB,Bool.and_eq_true,decide_eq_true_eq] at h;exact ⟨h.1.1,h.1.2,h.2⟩

def Q2Z (l:List Bool) (xs0 seen:List Int):List Int→Int
 | []=>if∀y∈Q1o l,y∈xs0 then 0 else 12
 | x::xs=>if hasB l x then if x∈seen then 13 else Q2Z l xs0 (seen++[x]) xs else 10


theorem mem_heldL {l:List Bool}{x:Int}:x∈Q1o l↔hasB l x=true:=by
 simp only [Q1o,Q1e,List.mem_map,List.mem_filter,List.mem_range,hasB,Bool.and_eq_true,decide_eq_true_eq]
 constructor
 · rintro ⟨j,⟨h1,h2⟩,rfl⟩
   exact ⟨⟨by simp,by simpa using h1⟩,by simpa using h2⟩
 · rintro ⟨⟨h0,h1⟩,h2⟩
   exact ⟨x.toNat,⟨by omega,h2⟩,by simp;omega⟩
theorem Qan (l:List Bool):(Q1o l).Nodup:=by
 unfold Q1o Q1e
 unfold List.Nodup
 rw [List.pairwise_map]
 refine List.Pairwise.imp ?_ (List.Pairwise.filter _ (List.nodup_range (n:=l.length)))
 intro a b h e;exact h (Int.ofNat.inj e)
theorem Q93 (l:List Bool) (xs:List Int):∀(rest seen:List Int),seen++rest=xs→seen.Nodup→(∀y∈seen,hasB l y=true)→Q1c l seen rest=Q2Z l xs seen rest:=by
 intro rest
 induction rest with
 | nil=>
   intro seen he hn hs
   rw [List.append_nil] at he;subst he
   simp only [Q1c,Q2Z]
   have h1:seen.length≤(Q1o l).length:=Q3O hn fun y hy=>mem_heldL.2 (hs y hy)
   by_cases h:∀y∈Q1o l,y∈seen
   · have:=Q3O (Qan l) h
     rw [if_pos h,if_neg (by omega)]
   · rw [if_neg h,if_pos]
     simp only [Classical.not_forall] at h
     obtain ⟨y,hy,hn'⟩:=h
     have:=Q3O (a:=y::seen) (b:=Q1o l) (List.nodup_cons.2 ⟨hn',hn⟩) (by
      intro z hz
      rcases List.mem_cons.1 hz with rfl|hz
      · exact hy
      · exact mem_heldL.2 (hs z hz))
     simp only [List.length_cons] at this;omega
 | cons x rest ih=>
   intro seen he hn hs
   simp only [Q1c,Q2Z]
   by_cases h1:hasB l x=true
   · rw [if_pos h1,if_pos h1]
     by_cases h2:x∈seen
     · rw [if_pos h2,if_pos h2]
     · rw [if_neg h2,if_neg h2]
       refine ih (seen++[x]) (by rw [List.append_assoc];exact he) ?_ ?_
       · rw [List.nodup_append]
         exact ⟨hn,by simp,fun a ha b hb e=>by simp at hb;subst hb;subst e;exact h2 ha⟩
       · intro y hy
         rcases List.mem_append.1 hy with hy|hy
         · exact hs y hy
         · simp at hy;subst hy;exact h1
   · rw [if_neg h1,if_neg h1]
theorem Qda (l:List Bool) (xs:List Int):Q1c l [] xs=Q2Z l xs [] xs:=Q93 l xs xs [] rfl List.nodup_nil (by simp)
end Go.Lir
namespace Go.Lir
set_option linter.unusedVariables false
structure JS where
 h:List Bool
 l:List Ty
deriving instance DecidableEq for JS
def jval (s:JS) (k:Int):Except Int Ty:=if k<0 then .error 1 else match s.l[k.toNat]? with
 | none=> .error 1
 | some t=> .ok t
def ebind {α β:Type}(x:Except Int α) (f:α→Except Int β):Except Int β:=match x with
 | .error e=> .error e
 | .ok a=>f a
theorem Qf {α β:Type}{x:Except Int α}{f:α→Except Int β}{e:Int}(h:x= .error e):ebind x f= .error e:=by rw [h];rfl
theorem Q2 {α β:Type}{x:Except Int α}{f:α→Except Int β}{a:α}(h:x= .ok a):ebind x f=f a:=by rw [h];rfl
theorem Q8 {α β:Type}{x:Except Int α}{f:α→Except Int β}{b:β}(h:ebind x f= .ok b):∃a,x= .ok a∧f a= .ok b:=by
 cases x with
 | error e=>cases h
 | ok a=>exact ⟨a,rfl,h⟩
def jkind (s:JS) (k kind:Int):Except Int Ty:=ebind (jval s k) fun t=>if t.kind≠kind then .error 9 else .ok t
def jat (s:JS) (k kind:Int):Except Int Ty:=ebind (jkind s k kind) fun t=>if hasB s.h t.r=false then .error 10 else .ok t
def jput (s:JS) (t:Ty):Except Int JS:=if s.l.length=80 then .error 2 else .ok ⟨s.h,s.l++[t]⟩
def Q1K (s:JS) (regs:List Int):List Int→List Ty→Except Int Unit
 | k::l,u::want=>ebind (jval s k) fun t=>match u.ren regs with
   | none=> .error 9
   | some u'=>if t≠u' then .error 9 else Q1K s regs l want
 | _,_=> .ok ()
def Q3U (s:JS) (l:List Int) (want:List Ty) (regs:List Int):Except Int Unit:=if l.length≠want.length then .error 2 else Q1K s regs l want
def Q27 (t:Ty) (k:Int):Except Int Ty:=match t.l[k.toNat]? with
 | none=> .error 9
 | some u=> .ok u
def Q1V (h:List Bool) (p:List Int):List Int→Except Int Unit
 | []=> .ok ()
 | r::l=>if hasB h r=false then .error 10 else if r∈p then .error 13 else Q1V h (p++[r]) l
def renT (to:List Int) (t:Ty):Ty:=(t.ren to).getD (.mk 0 0 [])
def Q67 (m:Module) (s:JS) (x:Ins):Except Int JS:=match m.funcs[x.k.toNat]? with
 | none=> .error 1
 | some g=>if (x.regs.length:Int)≠g.regs then .error 2 else ebind (Q1V s.h [] x.regs) fun _=>ebind (Q3U s x.args g.params x.regs) fun _=>
   if 80<s.l.length+g.results.length then .error 2 else .ok ⟨s.h,s.l++g.results.map (renT x.regs)⟩
def jfields (s:JS):List Int→Except Int (List Ty)
 | []=> .ok []
 | k::l=>ebind (jval s k) fun t=>ebind (jfields s l) fun ts=> .ok (t::ts)
def number:Ty:= .mk 1 0 []
def Q4t (s:JS) (x:Ins):Except Int JS:=ebind (jat s x.a 2) fun t=>ebind (jfields s x.args) fun ts=>
 if (Ty.mk 3 t.r ts).fault s.h.length≠0 then .error 19 else jput s (.mk 3 t.r ts)
def jins (m:Module) (f:Fun) (s:JS) (x:Ins):Except Int JS:=
 if x.op=1∨x.op=12 then jput s number
 else if x.op=2 then ebind (jkind s x.a 1) fun _=>ebind (jkind s x.b 1) fun _=>jput s number
 else if x.op=3 then (if s.h.length=16∨s.l.length=80 then .error 2 else .ok ⟨s.h++[true],s.l++[.mk 2 s.h.length []]⟩)
 else if x.op=4 then ebind (jat s x.a 2) fun t=>if t.r<f.regs then .error 11 else .ok ⟨s.h.set t.r.toNat false,s.l⟩
 else if x.op=5 then Q4t s x
 else if x.op=6 then ebind (jat s x.a 3) fun t=>ebind (Q27 t x.k) fun u=>jput s u
 else if x.op=7 then ebind (jat s x.a 3) fun t=>ebind (Q27 t x.k) fun u=>ebind (jval s x.b) fun v=>if u≠v then .error 9 else .ok s
 else if x.op=8 then ebind (jat s x.a 2) fun t=>ebind (jkind s x.b 1) fun _=>jput s (.mk 4 t.r [])
 else if x.op=9 then ebind (jat s x.a 4) fun _=>ebind (jkind s x.b 1) fun _=>jput s number
 else if x.op=10 then ebind (jat s x.a 4) fun _=>ebind (jkind s x.b 1) fun _=>ebind (jkind s x.c 1) fun _=> .ok s
 else if x.op=11 then ebind (jat s x.a 4) fun _=>jput s number
 else if x.op=13 then ebind (jkind s x.a 1) fun _=> .ok s
 else Q67 m s x
def jIns (m:Module) (f:Fun) (s:JS) (x:Ins):Int×JS:=if Qm m.funcs.length x≠0 then (Qm m.funcs.length x,s) else match jins m f s x with
 | .error c=>(c,s)
 | .ok s'=>(0,s')
def Q2L (l:List Int) (n:Nat):Bool:=(List.range n).all fun i=>decide (l[i]?=some (i:Int))
def jto (f:Fun) (s:JS) (t:To):Except Int Unit:=match f.blocks[t.block.toNat]? with
 | none=> .error 1
 | some b=>if (t.regs.length:Int)≠b.regs then .error 2 else if Q2L t.regs f.regs.toNat=false then .error 11 else
   if Q1c s.h [] t.regs≠0 then .error (Q1c s.h [] t.regs) else Q3U s t.args b.params t.regs
def upTo (n:Nat):List Int:=(List.range n).map Int.ofNat
def jend (f:Fun) (s:JS) (e:Tail):Except Int Unit:=
 if e.op=1 then jto f s e.yes
 else if e.op=2 then ebind (jkind s e.a 1) fun _=>ebind (jto f s e.yes) fun _=>jto f s e.no
 else ebind (Q3U s e.args f.results (upTo f.regs.toNat)) fun _=>if f.regs<(Q1o s.h).length then .error 12 else .ok ()
def jEnd (f:Fun) (s:JS) (e:Tail):Int:=if Q10 f.blocks.length e≠0 then Q10 f.blocks.length e else match jend f s e with
 | .error c=>c
 | .ok _=>0
def Q1H (y:Block):JS:=⟨List.replicate (min y.regs 16).toNat true,y.params⟩

theorem Qas {s:JS}{k:Int}{t:Ty}(h:jval s k= .ok t):0≤k∧s.l[k.toNat]?=some t:=by
 unfold jval at h
 split at h
 · cases h
 · rename_i h0
   split at h
   · cases h
   · rename_i u hu;cases h;exact ⟨by omega,hu⟩
theorem Q3R {s:JS}{k:Int}(h:k<0∨(s.l.length:Int)≤k):jval s k= .error 1:=by
 unfold jval
 by_cases h0:k<0
 · rw [if_pos h0]
 · rw [if_neg h0,List.getElem?_eq_none (by omega)]
theorem Q2W {s:JS}{k:Int}{t:Ty}(h0:0≤k) (h:s.l[k.toNat]?=some t):jval s k= .ok t:=by
 unfold jval
 rw [if_neg (by omega),h]
theorem jkind_ok {s:JS}{k kind:Int}{t:Ty}(h:jkind s k kind= .ok t):0≤k∧s.l[k.toNat]?=some t∧t.kind=kind:=by
 obtain ⟨u,h1,h2⟩:=Q8 h
 split at h2
 · cases h2
 · rename_i hk;cases h2;have:=Qas h1;exact ⟨this.1,this.2,Classical.not_not.1 hk⟩
theorem Q5S {s:JS}{k kind:Int}{t:Ty}(h:jat s k kind= .ok t):0≤k∧s.l[k.toNat]?=some t∧t.kind=kind∧hasB s.h t.r=true:=by
 obtain ⟨u,h1,h2⟩:=Q8 h
 split at h2
 · cases h2
 · rename_i hk;cases h2;have:=jkind_ok h1;exact ⟨this.1,this.2.1,this.2.2,by simpa using hk⟩
theorem Qau {s s':JS}{t:Ty}(h:jput s t= .ok s'):s.l.length≠80∧s'.h=s.h∧s'.l=s.l++[t]:=by
 unfold jput at h
 split at h
 · cases h
 · rename_i hk;cases h;exact ⟨hk,rfl,rfl⟩
structure JStep (x:Ins) (s s':JS):Prop where
 len:s.l.length≤80→s'.l.length≤80
 pre:∃more,s'.l=s.l++more∧(x.op≠14→more.length≤1)∧(x.op=3→more.length=1)∧(x.op=4→more=[])
 new:x.op=3→s'.h=s.h++[true]∧s.h.length≠16
 free:x.op=4→∃t,0≤x.a∧s.l[x.a.toNat]?=some t∧t.kind=2∧hasB s.h t.r=true∧s'.h=s.h.set t.r.toNat false
 else_:x.op≠3→x.op≠4→s'.h=s.h
theorem Q2N {x:Ins}{s s':JS}{t:Ty}(h:jput s t= .ok s') (h3:x.op≠3) (h4:x.op≠4):JStep x s s':=by
 obtain ⟨h1,h2,h5⟩:=Qau h
 refine ⟨fun hl=>by rw [h5,List.length_append];simp only [List.length_cons,List.length_nil];omega,⟨[t],h5,fun _=>by simp,fun h=>absurd h h3,fun h=>absurd h h4⟩,fun h=>absurd h h3,fun h=>absurd h h4,fun _ _=>h2⟩
theorem Q5A {x:Ins}{s:JS}(h3:x.op≠3) (h4:x.op≠4):JStep x s s:=
 ⟨fun hl=>hl,⟨[],by simp,fun _=>by simp,fun h=>absurd h h3,fun h=>absurd h h4⟩,fun h=>absurd h h3,fun h=>absurd h h4,fun _ _=>rfl⟩
theorem Qdo {m:Module}{f:Fun}{s s':JS}{x:Ins}(hop:1≤x.op∧x.op≤14) (h:jins m f s x= .ok s'):JStep x s s':=by
 unfold jins at h
 by_cases h1:x.op=1∨x.op=12
 · rw [if_pos h1] at h;exact Q2N h (by omega) (by omega)
 rw [if_neg h1] at h
 by_cases h2:x.op=2
 · rw [if_pos h2] at h;obtain ⟨_,_,h⟩:=Q8 h;obtain ⟨_,_,h⟩:=Q8 h;exact Q2N h (by omega) (by omega)
 rw [if_neg h2] at h
 by_cases hc:x.op=3
 · rw [if_pos hc] at h
   by_cases hn:s.h.length=16∨s.l.length=80
   · rw [if_pos hn] at h;cases h
   · rw [if_neg hn] at h
     cases h
     exact ⟨fun hl=>by simp only [List.length_append,List.length_cons,List.length_nil];omega,⟨[_],rfl,fun _=>by simp,fun _=>rfl,fun h=>by omega⟩,fun _=>⟨rfl,by omega⟩,fun h=>by omega,fun h=>absurd hc h⟩
 rw [if_neg hc] at h
 by_cases hc4:x.op=4
 · rw [if_pos hc4] at h
   obtain ⟨t,h1,h⟩:=Q8 h
   by_cases hk:t.r<f.regs
   · rw [if_pos hk] at h;cases h
   · rw [if_neg hk] at h
     cases h
     obtain ⟨a1,a2,a3,a4⟩:=Q5S h1
     exact ⟨fun hl=>hl,⟨[],by simp,fun _=>by simp,fun h=>by omega,fun _=>rfl⟩,fun h=>by omega,fun _=>⟨t,a1,a2,a3,a4,rfl⟩,fun _ h=>absurd hc4 h⟩
 rw [if_neg hc4] at h
 by_cases h5:x.op=5
 · rw [if_pos h5] at h
   unfold Q4t at h
   obtain ⟨t,_,h⟩:=Q8 h;obtain ⟨ts,_,h⟩:=Q8 h
   by_cases hk:(Ty.mk 3 t.r ts).fault s.h.length≠0
   · rw [if_pos hk] at h;cases h
   · rw [if_neg hk] at h;exact Q2N h (by omega) (by omega)
 rw [if_neg h5] at h
 by_cases h6:x.op=6
 · rw [if_pos h6] at h;obtain ⟨_,_,h⟩:=Q8 h;obtain ⟨_,_,h⟩:=Q8 h;exact Q2N h (by omega) (by omega)
 rw [if_neg h6] at h
 by_cases h7:x.op=7
 · rw [if_pos h7] at h
   obtain ⟨_,_,h⟩:=Q8 h;obtain ⟨u,_,h⟩:=Q8 h;obtain ⟨v,_,h⟩:=Q8 h
   by_cases hk:u≠v
   · rw [if_pos hk] at h;cases h
   · rw [if_neg hk] at h;cases h;exact Q5A (by omega) (by omega)
 rw [if_neg h7] at h
 by_cases h8:x.op=8
 · rw [if_pos h8] at h;obtain ⟨_,_,h⟩:=Q8 h;obtain ⟨_,_,h⟩:=Q8 h;exact Q2N h (by omega) (by omega)
 rw [if_neg h8] at h
 by_cases h9:x.op=9
 · rw [if_pos h9] at h;obtain ⟨_,_,h⟩:=Q8 h;obtain ⟨_,_,h⟩:=Q8 h;exact Q2N h (by omega) (by omega)
 rw [if_neg h9] at h
 by_cases h10:x.op=10
 · rw [if_pos h10] at h;obtain ⟨_,_,h⟩:=Q8 h;obtain ⟨_,_,h⟩:=Q8 h;obtain ⟨_,_,h⟩:=Q8 h;cases h;exact Q5A (by omega) (by omega)
 rw [if_neg h10] at h
 by_cases h11:x.op=11
 · rw [if_pos h11] at h;obtain ⟨_,_,h⟩:=Q8 h;exact Q2N h (by omega) (by omega)
 rw [if_neg h11] at h
 by_cases h13:x.op=13
 · rw [if_pos h13] at h;obtain ⟨_,_,h⟩:=Q8 h;cases h;exact Q5A (by omega) (by omega)
 rw [if_neg h13] at h
 unfold Q67 at h
 split at h
 · cases h
 · rename_i g hg
   by_cases hr:(x.regs.length:Int)≠g.regs
   · rw [if_pos hr] at h;cases h
   · rw [if_neg hr] at h
     obtain ⟨_,_,h⟩:=Q8 h;obtain ⟨_,_,h⟩:=Q8 h
     by_cases hn:80<s.l.length+g.results.length
     · rw [if_pos hn] at h;cases h
     · rw [if_neg hn] at h
       cases h
       exact ⟨fun hl=>by rw [List.length_append,List.length_map];omega,⟨_,rfl,fun h=>by omega,fun h=>by omega,fun h=>by omega⟩,fun h=>by omega,fun h=>by omega,fun _ _=>rfl⟩
theorem Q36 {n:Nat}{x:Ins}(h:Qm n x=0):1≤x.op∧x.op≤14:=by
 unfold Qm at h
 split at h
 · cases h
 · omega
section
variable {s:JS}{regs l:List Int}{want:List Ty}{k:Nat}{x c:Int}{u u' t:Ty}
theorem Q8p (hx:l[k]?=some x) (hu:want[k]?=some u) (h:jval s x= .error c):Q1K s regs (l.drop k) (want.drop k)= .error c:=by
 rw [Q1 hx,Q1 hu,Q1K,Qf h]
theorem Q72 (hx:l[k]?=some x) (hu:want[k]?=some u) (h:jval s x= .ok t) (hn:u.ren regs=none):Q1K s regs (l.drop k) (want.drop k)= .error 9:=by
 rw [Q1 hx,Q1 hu,Q1K,Q2 h,hn]
theorem Q73 (hx:l[k]?=some x) (hu:want[k]?=some u) (h:jval s x= .ok t) (hn:u.ren regs=some u') (hd:t≠u'):Q1K s regs (l.drop k) (want.drop k)= .error 9:=by
 rw [Q1 hx,Q1 hu,Q1K,Q2 h,hn];exact if_pos hd
theorem Qdr (hx:l[k]?=some x) (hu:want[k]?=some u) (h:jval s x= .ok t) (hn:u.ren regs=some u') (hd:t=u'):Q1K s regs (l.drop k) (want.drop k)=Q1K s regs (l.drop (k+1)) (want.drop (k+1)):=by
 rw [Q1 hx,Q1 hu,Q1K,Q2 h,hn];exact if_neg (fun h=>h hd)
theorem Qdq (h:l.length≤k):Q1K s regs (l.drop k) (want.drop k)= .ok ():=by
 rw [List.drop_of_length_le h,Q1K]
 intro k l u w h;cases h
end
section
variable {m:Module}{f:Fun}{s:JS}{x:Ins}
theorem Q5R (h:x.op=1∨x.op=12):jins m f s x=(jput s number):=by
 unfold jins;rw [if_pos (by omega)]
theorem Q6X (h:x.op=2):jins m f s x=(ebind (jkind s x.a 1) fun _=>ebind (jkind s x.b 1) fun _=>jput s number):=by
 unfold jins;rw [if_neg (by omega),if_pos (by omega)]
theorem Q9i (h:x.op=3):jins m f s x=(if s.h.length=16∨s.l.length=80 then .error 2 else .ok ⟨s.h++[true],s.l++[.mk 2 s.h.length []]⟩):=by
 unfold jins;rw [if_neg (by omega),if_neg (by omega),if_pos (by omega)]
theorem Q7R (h:x.op=4):jins m f s x=(ebind (jat s x.a 2) fun t=>if t.r<f.regs then .error 11 else .ok ⟨s.h.set t.r.toNat false,s.l⟩):=by
 unfold jins;rw [if_neg (by omega),if_neg (by omega),if_neg (by omega),if_pos (by omega)]
theorem Q9h (h:x.op=5):jins m f s x=(Q4t s x):=by
 unfold jins;rw [if_neg (by omega),if_neg (by omega),if_neg (by omega),if_neg (by omega),if_pos (by omega)]
theorem Q6W (h:x.op=6):jins m f s x=(ebind (jat s x.a 3) fun t=>ebind (Q27 t x.k) fun u=>jput s u):=by
 unfold jins;rw [if_neg (by omega),if_neg (by omega),if_neg (by omega),if_neg (by omega),if_neg (by omega),if_pos (by omega)]
theorem Q2e (h:x.op=7):jins m f s x=(ebind (jat s x.a 3) fun t=>ebind (Q27 t x.k) fun u=>ebind (jval s x.b) fun v=>if u≠v then .error 9 else .ok s):=by
 unfold jins;rw [if_neg (by omega),if_neg (by omega),if_neg (by omega),if_neg (by omega),if_neg (by omega),if_neg (by omega),if_pos (by omega)]
theorem Q6V (h:x.op=8):jins m f s x=(ebind (jat s x.a 2) fun t=>ebind (jkind s x.b 1) fun _=>jput s (.mk 4 t.r [])):=by
 unfold jins;rw [if_neg (by omega),if_neg (by omega),if_neg (by omega),if_neg (by omega),if_neg (by omega),if_neg (by omega),if_neg (by omega),if_pos (by omega)]
theorem Q6U (h:x.op=9):jins m f s x=(ebind (jat s x.a 4) fun _=>ebind (jkind s x.b 1) fun _=>jput s number):=by
 unfold jins;rw [if_neg (by omega),if_neg (by omega),if_neg (by omega),if_neg (by omega),if_neg (by omega),if_neg (by omega),if_neg (by omega),if_neg (by omega),if_pos (by omega)]
theorem Q4C (h:x.op=10):jins m f s x=(ebind (jat s x.a 4) fun _=>ebind (jkind s x.b 1) fun _=>ebind (jkind s x.c 1) fun _=> .ok s):=by
 unfold jins;rw [if_neg (by omega),if_neg (by omega),if_neg (by omega),if_neg (by omega),if_neg (by omega),if_neg (by omega),if_neg (by omega),if_neg (by omega),if_neg (by omega),if_pos (by omega)]
theorem Q5B (h:x.op=11):jins m f s x=(ebind (jat s x.a 4) fun _=>jput s number):=by
 unfold jins;rw [if_neg (by omega),if_neg (by omega),if_neg (by omega),if_neg (by omega),if_neg (by omega),if_neg (by omega),if_neg (by omega),if_neg (by omega),if_neg (by omega),if_neg (by omega),if_pos (by omega)]
theorem Q6Z (h:x.op=13):jins m f s x=(ebind (jkind s x.a 1) fun _=> .ok s):=by
 unfold jins;rw [if_neg (by omega),if_neg (by omega),if_neg (by omega),if_neg (by omega),if_neg (by omega),if_neg (by omega),if_neg (by omega),if_neg (by omega),if_neg (by omega),if_neg (by omega),if_neg (by omega),if_pos (by omega)]
theorem Q6Y (h:x.op=14):jins m f s x=(Q67 m s x):=by
 unfold jins;rw [if_neg (by omega),if_neg (by omega),if_neg (by omega),if_neg (by omega),if_neg (by omega),if_neg (by omega),if_neg (by omega),if_neg (by omega),if_neg (by omega),if_neg (by omega),if_neg (by omega),if_neg (by omega)]
theorem Q3o {t:Ty}(h:s.l.length≠80):jput s t= .ok ⟨s.h,s.l++[t]⟩:=if_neg h
theorem Q4B {t:Ty}(h:s.l.length=80):jput s t= .error 2:=if_pos h
theorem Q9l {q:Nat}{k c:Int}{ts:List Ty}(hx:x.args[q]?=some k) (hd:jfields s x.args=ebind (jfields s (x.args.drop q)) fun l=> .ok (ts++l)) (h:jval s k= .error c):jfields s x.args= .error c:=by
 rw [hd,Q1 hx,jfields,Qf h];rfl
theorem Q9k {q:Nat}{k:Int}{t:Ty}{ts:List Ty}(hx:x.args[q]?=some k) (hd:jfields s x.args=ebind (jfields s (x.args.drop q)) fun l=> .ok (ts++l)) (h:jval s k= .ok t):jfields s x.args=ebind (jfields s (x.args.drop (q+1))) fun l=> .ok ((ts++[t])++l):=by
 rw [hd,Q1 hx,jfields,Q2 h]
 cases jfields s (x.args.drop (q+1)) with
 | error c=>rfl
 | ok l=>simp [ebind]
theorem Q9j {q:Nat}{ts:List Ty}(hd:jfields s x.args=ebind (jfields s (x.args.drop q)) fun l=> .ok (ts++l)) (h:x.args.length≤q):jfields s x.args= .ok ts:=by
 rw [hd,List.drop_of_length_le h,jfields];simp [ebind]
end
theorem kept_s (l:List Int) (n:Nat):Q2L l (n+1)=(Q2L l n && decide (l[n]?=some (n:Int))):=by
 unfold Q2L;rw [List.range_succ,List.all_append];simp
theorem Q8m {l:List Int}{n q:Nat}(hq:q<n) (h:l[q]?≠some (q:Int)):Q2L l n=false:=by
 unfold Q2L
 rw [List.all_eq_false]
 exact ⟨q,List.mem_range.2 hq,by simpa using h⟩
theorem QaP (n:Nat):upTo (n+1)=upTo n++[(n:Int)]:=by unfold upTo;rw [List.range_succ,List.map_append];rfl
section
variable {f:Fun}{s:JS}{t:To}{b:Block}{e:Tail}
theorem Qdl (hb:f.blocks[t.block.toNat]?=some b) (h:(t.regs.length:Int)≠b.regs):jto f s t= .error 2:=by unfold jto;rw [hb];exact if_pos h
theorem Qbh (hb:f.blocks[t.block.toNat]?=some b) (h:¬(t.regs.length:Int)≠b.regs) (h2:Q2L t.regs f.regs.toNat=false):jto f s t= .error 11:=by unfold jto;rw [hb];simp only;rw [if_neg h,if_pos h2]
theorem jto_p (hb:f.blocks[t.block.toNat]?=some b) (h:¬(t.regs.length:Int)≠b.regs) (h2:Q2L t.regs f.regs.toNat=true) (h3:Q1c s.h [] t.regs≠0):jto f s t= .error (Q1c s.h [] t.regs):=by unfold jto;rw [hb];simp only;rw [if_neg h,if_neg (by rw [h2];decide),if_pos h3]
theorem jto_a (hb:f.blocks[t.block.toNat]?=some b) (h:¬(t.regs.length:Int)≠b.regs) (h2:Q2L t.regs f.regs.toNat=true) (h3:Q1c s.h [] t.regs=0):jto f s t=Q3U s t.args b.params t.regs:=by unfold jto;rw [hb];simp only;rw [if_neg h,if_neg (by rw [h2];decide),if_neg (fun h=>h h3)]
theorem Qdp (h:e.op=1):jend f s e=jto f s e.yes:=by unfold jend;rw [if_pos h]
theorem Q70 (h:e.op=2):jend f s e=ebind (jkind s e.a 1) fun _=>ebind (jto f s e.yes) fun _=>jto f s e.no:=by unfold jend;rw [if_neg (by omega),if_pos h]
theorem Q7T (h:e.op=3):jend f s e=ebind (Q3U s e.args f.results (upTo f.regs.toNat)) fun _=>if f.regs<(Q1o s.h).length then .error 12 else .ok ():=by unfold jend;rw [if_neg (by omega),if_neg (by omega)]
theorem Q4O {n:Nat}(h:Q1n n t true=0):0≤t.block∧t.block<n:=by
 unfold Q1n at h
 simp at h;omega
theorem Q2C {n:Nat}(h:Q10 n e=0):1≤e.op∧e.op≤3∧Q1n n e.yes (decide (e.op≠3))=0∧Q1n n e.no (decide (e.op=2))=0:=by
 unfold Q10 at h
 split at h
 · cases h
 · split at h
   · cases h
   · split at h
     · cases h
     · unfold orC at h
       split at h
       · rename_i h1;exact absurd h h1
       · rename_i h1;exact ⟨by omega,by omega,Classical.not_not.1 h1,h⟩
end
def NZ {α:Type}(x:Except Int α):Prop:=∀c,x= .error c→c≠0
theorem NZ.e {α:Type}{c:Int}(h:c≠0):NZ (.error c:Except Int α):=fun _ h'=>by cases h';exact h
theorem NZ.o {α:Type}(a:α):NZ (.ok a:Except Int α):=fun _ h'=>by cases h'
theorem NZ.bind {α β:Type}{x:Except Int α}{f:α→Except Int β}(h1:NZ x) (h2:∀a,x= .ok a→NZ (f a)):NZ (ebind x f):=by
 cases x with
 | error e=>exact fun c h=>by cases h;exact h1 _ rfl
 | ok a=>exact h2 a rfl
theorem NZ.ite {α:Type}{p:Prop} [Decidable p] {a b:Except Int α}(h1:NZ a) (h2:NZ b):NZ (if p then a else b):=by
 split
 · exact h1
 · exact h2
theorem Q6O (s:JS) (k:Int):NZ (jval s k):=by
 unfold jval
 split
 · exact .e (by decide)
 · split
   · exact .e (by decide)
   · exact .o _
theorem Q2o (s:JS) (k kind:Int):NZ (jkind s k kind):=by
 refine .bind (Q6O s k) fun t _=>?_
 split
 · exact .e (by decide)
 · exact .o _
theorem Q71 (s:JS) (k kind:Int):NZ (jat s k kind):=by
 refine .bind (Q2o s k kind) fun t _=>?_
 split
 · exact .e (by decide)
 · exact .o _
theorem jput_nz (s:JS) (t:Ty):NZ (jput s t):=by
 unfold jput
 split
 · exact .e (by decide)
 · exact .o _
theorem Q9o (s:JS) (regs:List Int):∀(l:List Int) (want:List Ty),NZ (Q1K s regs l want)
 | [],[]=>by unfold Q1K;exact .o _
 | [],_::_=>by unfold Q1K;exact .o _
 | _::_,[]=>by unfold Q1K;exact .o _
 | k ::l,u::want=>by
   unfold Q1K
   refine .bind (Q6O s k) fun t _=>?_
   split
   · exact .e (by decide)
   · split
     · exact .e (by decide)
     · exact Q9o s regs l want
theorem Q4X (s:JS) (l:List Int) (want:List Ty) (regs:List Int):NZ (Q3U s l want regs):=by
 unfold Q3U
 split
 · exact .e (by decide)
 · exact Q9o s regs l want
theorem Q9n (t:Ty) (k:Int):NZ (Q27 t k):=by
 unfold Q27
 split
 · exact .e (by decide)
 · exact .o _
theorem Q8o (h:List Bool):∀(l p:List Int),NZ (Q1V h p l)
 | [],_=>by unfold Q1V;exact .o _
 | r ::l,p=>by
   unfold Q1V
   split
   · exact .e (by decide)
   · split
     · exact .e (by decide)
     · exact Q8o h l _
theorem Q5C (s:JS):∀(l:List Int),NZ (jfields s l)
 | []=>by unfold jfields;exact .o _
 | k::l=>by
   unfold jfields
   exact .bind (Q6O s k) fun _ _=> .bind (Q5C s l) fun _ _=> .o _
theorem jcall_nz (m:Module) (s:JS) (x:Ins):NZ (Q67 m s x):=by
 unfold Q67
 split
 · exact .e (by decide)
 · split
   · exact .e (by decide)
   · refine .bind (Q8o _ _ _) fun _ _=> .bind (Q4X _ _ _ _) fun _ _=>?_
     split
     · exact .e (by decide)
     · exact .o _
theorem jins_nz (m:Module) (f:Fun) (s:JS) (x:Ins):NZ (jins m f s x):=by
 unfold jins Q4t
 repeat' (first|exact jput_nz _ _|exact jcall_nz _ _ _|exact .o _|exact .e (by decide)|refine .bind (Q2o _ _ _) fun _ _=>?_|refine .bind (Q71 _ _ _) fun _ _=>?_|refine .bind (Q9n _ _) fun _ _=>?_|refine .bind (Q6O _ _) fun _ _=>?_|refine .bind (Q5C _ _) fun _ _=>?_|refine .ite ?_ ?_)
theorem Qds {m:Module}{f:Fun}{s:JS}{x:Ins}(h:(jIns m f s x).1=0):Qm m.funcs.length x=0∧jins m f s x= .ok (jIns m f s x).2:=by
 unfold jIns at h ⊢
 split at h
 · rename_i hf;exact absurd h hf
 · rename_i hf
   rw [if_neg hf]
   refine ⟨Classical.not_not.1 hf,?_⟩
   cases hj:jins m f s x with
   | error c=>rw [hj] at h;exact absurd h (jins_nz m f s x c hj)
   | ok s'=>rfl
theorem Qdt {m:Module}{f:Fun}{s:JS}{x:Ins}(h:(jIns m f s x).1≠0):(jIns m f s x).2=s:=by
 unfold jIns at h ⊢
 split
 · rfl
 · rename_i hf
   rw [if_neg hf] at h
   cases hj:jins m f s x with
   | error c=>rfl
   | ok s'=>rw [hj] at h;exact absurd rfl h
end Go.Lir
namespace Go.Lir
set_option linter.unusedVariables false
theorem Q4q {a b:Flt}(h:(orF a b).1=0):a.1=0∧b.1=0:=by
 unfold orF at h
 split at h
 · rename_i hc;exact absurd h hc.2
 · rename_i hc
   refine ⟨h,?_⟩
   exact Classical.byContradiction fun hb=>hc ⟨h,hb⟩
theorem Q55 {n f b:Nat}:∀{l:List Ins}{i:Nat},(QN n f b i l).1=0→∀x∈l,Qm n x=0
 | [],_,_,x,hx=>by cases hx
 | y::l,i,h,x,hx=>by
   rw [QN] at h
   obtain ⟨h1,h2⟩:=Q4q h
   rw [Q1u] at h1
   rcases List.mem_cons.1 hx with rfl|hx
   · exact h1
   · exact Q55 h2 x hx
theorem Q44 {n f:Nat}{x:Fun}:∀{l:List Block}{b0:Nat},(QE n f x b0 l).1=0→∀(b:Nat) (y:Block),l[b]?=some y→(QD n f x (b0+b) y).1=0
 | [],_,_,b,y,hy=>by cases hy
 | z::l,b0,h,b,y,hy=>by
   rw [QE] at h
   obtain ⟨h1,h2⟩:=Q4q h
   cases b with
   | zero=>rw [List.getElem?_cons_zero] at hy;cases hy;exact h1
   | succ b=>rw [List.getElem?_cons_succ] at hy;rw [show b0+(b+1)=b0+1+b by omega];exact Q44 h2 b y hy
theorem Q3r {n:Nat}:∀{l:List Fun}{f0:Nat},(Q18 n f0 l).1=0→∀(f:Nat) (x:Fun),l[f]?=some x→(Q1B n (f0+f) x).1=0
 | [],_,_,b,y,hy=>by cases hy
 | z::l,b0,h,b,y,hy=>by
   rw [Q18] at h
   obtain ⟨h1,h2⟩:=Q4q h
   cases b with
   | zero=>rw [List.getElem?_cons_zero] at hy;cases hy;exact h1
   | succ b=>rw [List.getElem?_cons_succ] at hy;rw [show b0+(b+1)=b0+1+b by omega];exact Q3r h2 b y hy
theorem Q9C {m:Module}(h:m.fault.1=0):1≤m.funcs.length∧m.funcs.length≤8:=by
 have h1:=(Q4q h).1
 rw [Q1u] at h1
 split at h1
 · cases h1
 · omega
theorem Q2R {m:Module}(h:m.fault.1=0){f:Nat}{x:Fun}(hx:m.funcs[f]?=some x):Qs f x=0:=by
 have h1:=Q3r (Q4q h).2 f x hx
 rw [Nat.zero_add] at h1
 have h2:=(Q4q h1).1
 rwa [Q1u] at h2
theorem Q2k {m:Module}(h:m.fault.1=0){f b:Nat}{x:Fun}{y:Block}(hx:m.funcs[f]?=some x) (hy:x.blocks[b]?=some y):Qk x b y=0∧(∀i∈y.code,Qm m.funcs.length i=0)∧Q10 x.blocks.length y.fin=0:=by
 have h1:=Q3r (Q4q h).2 f x hx
 have h2:=Q44 (Q4q h1).2 b y hy
 obtain ⟨h3,h4⟩:=Q4q h2
 obtain ⟨h5,h6⟩:=Q4q h4
 rw [Q1u] at h3 h6
 rw [Nat.zero_add] at h3
 exact ⟨h3,Q55 h5,h6⟩
theorem Q4H {x:Fun}{b:Nat}{y:Block}(h:Qk x b y=0):x.regs≤y.regs∧y.regs≤16∧Qg y.params y.regs=0∧(b=0→y.regs=x.regs∧y.params=x.params)∧y.code.length≤40:=by
 unfold Qk at h
 split at h
 · cases h
 · rename_i h1
   split at h
   · rename_i h2;exact absurd h h2
   · rename_i h2
     split at h
     · cases h
     · rename_i h3
       split at h
       · cases h
       · refine ⟨by omega,by omega,Classical.not_not.1 h2,fun hb=>?_,by omega⟩
         refine ⟨Classical.byContradiction fun hr=>h3 ⟨hb, .inl hr⟩,Classical.byContradiction fun hr=>h3 ⟨hb, .inr hr⟩⟩
theorem Q1Z {f:Nat}{x:Fun}(h:Qs f x=0):0≤x.regs∧x.regs≤6∧Qg x.params x.regs=0∧Qg x.results x.regs=0∧1≤x.blocks.length∧x.blocks.length≤12:=by
 unfold Qs at h
 split at h
 · cases h
 · rename_i h1
   split at h
   · rename_i h2;exact absurd h h2
   · rename_i h2
     split at h
     · rename_i h3;exact absurd h h3
     · rename_i h3
       split at h
       · cases h
       · exact ⟨by omega,by omega,Classical.not_not.1 h2,Classical.not_not.1 h3,by omega,by omega⟩
theorem Q97 {l:List Ty}{r:Int}(h:Qg l r=0):l.length≤8:=by
 unfold Qg at h
 split at h
 · cases h
 · omega
theorem orC_z {a b:Int}(h:orC a b=0):a=0∧b=0:=by
 unfold orC at h
 split at h
 · rename_i h1;exact absurd h h1
 · rename_i h1;exact ⟨Classical.not_not.1 h1,h⟩
theorem Q6r {r:Int}:∀{l:List Ty},Q1S r l=0→∀t∈l,t.fault r=0
 | [],_,t,ht=>by cases ht
 | x::l,h,t,ht=>by
   rw [Q1S] at h
   obtain ⟨h1,h2⟩:=orC_z h
   rcases List.mem_cons.1 ht with rfl|ht
   · exact h1
   · exact Q6r h2 t ht
theorem Q5Q {l:List Ty}{r:Int}(h:Qg l r=0):∀t∈l,t.fault r=0:=by
 unfold Qg at h
 split at h
 · cases h
 · exact Q6r h
theorem Ty.ren_short:∀(t:Ty){to:List Int}{u:Ty},t.Short→t.ren to=some u→u.Short:=by
 intro t
 induction t using Ty.ind with
 | h k r l ih =>
   intro to u hs h
   obtain ⟨hl,hp⟩:=hs.parts
   rw [Ty.ren] at h
   split at h
   · cases h
   · split at h
     · cases h
     · rename_i m hm
       cases h
       have key:∀(l:List Ty) (m:List Ty),(∀x∈l,x.Short∧∀{u:Ty},x.Short→x.ren to=some u→u.Short)→Tys.ren l to=some m→m.length=l.length∧∀y∈m,y.Short:=by
        intro l
        induction l with
        | nil=>intro m _ h;rw [Tys.ren] at h;cases h;exact ⟨rfl,by simp⟩
        | cons x l ihl=>
          intro m hx h
          rw [Tys.ren] at h
          cases h1:x.ren to with
          | none=>rw [h1] at h;cases h
          | some y=>
            rw [h1] at h
            cases h2:Tys.ren l to with
            | none=>rw [h2] at h;cases h
            | some m2=>
              rw [h2] at h
              simp only [Option.some.injEq] at h
              subst h
              obtain ⟨h3,h4⟩:=ihl m2 (fun z hz=>hx z (List.mem_cons_of_mem _ hz)) h2
              refine ⟨by simp [h3],fun z hz=>?_⟩
              rcases List.mem_cons.1 hz with rfl|hz
              · obtain ⟨h5,h6⟩:=hx x (List.mem_cons_self ..);exact h6 h5 h1
              · exact h4 z hz
       obtain ⟨h3,h4⟩:=key l m (fun x hx=>⟨hp x hx,fun hs h=>ih x hx hs h⟩) hm
       exact .mk (by omega) h4
theorem Ty.Short.part {t:Ty}(h:t.Short):∀u∈t.l,u.Short:=by
 obtain ⟨k,r,l⟩:=t
 exact h.parts.2
theorem QbO {t:Ty}{to:List Int}(h:t.Short):(renT to t).Short:=by
 unfold renT
 cases hn:t.ren to with
 | none=>exact .mk (by decide) (by simp)
 | some u=>exact Ty.ren_short t h hn
structure JGood (s:JS):Prop where
 n:s.l.length≤80
 h:s.h.length≤16
 s:∀t∈s.l,t.Short
theorem JGood.get {s:JS}(hg:JGood s){k:Int}{t:Ty}(h:jval s k= .ok t):t.Short:=hg.s t (List.mem_of_getElem? (Qas h).2)
theorem JGood.put {s s':JS}{t:Ty}(hg:JGood s) (ht:t.Short) (h:jput s t= .ok s'):JGood s':=by
 obtain ⟨h1,h2,h3⟩:=Qau h
 refine ⟨by rw [h3,List.length_append];have:=hg.n;simp only [List.length_cons,List.length_nil];omega,by rw [h2];exact hg.h,fun u hu=>?_⟩
 rw [h3] at hu
 rcases List.mem_append.1 hu with hu|hu
 · exact hg.s u hu
 · simp at hu;subst hu;exact ht
theorem Q6v {k r:Int}:(Ty.mk k r []).Short:= .mk (by decide) (by simp)
theorem Q3T {s:JS}(hg:JGood s):∀{l:List Int}{ts:List Ty},jfields s l= .ok ts→ts.length=l.length∧∀t∈ts,t.Short
 | [],ts,h=>by rw [jfields] at h;cases h;exact ⟨rfl,by simp⟩
 | k::l,ts,h=>by
   rw [jfields] at h
   obtain ⟨t,h1,h⟩:=Q8 h
   obtain ⟨us,h2,h⟩:=Q8 h
   cases h
   obtain ⟨h3,h4⟩:=Q3T hg h2
   refine ⟨by simp [h3],fun u hu=>?_⟩
   rcases List.mem_cons.1 hu with rfl|hu
   · exact hg.get h1
   · exact h4 u hu
theorem jat_val {s:JS}{k kd:Int}{t:Ty}(h:jat s k kd= .ok t):jval s k= .ok t:=by have:=Q5S h;exact Q2W this.1 this.2.1
theorem Q9m {t u:Ty}{k:Int}(h:Q27 t k= .ok u):t.l[k.toNat]?=some u:=by
 unfold Q27 at h
 split at h
 · cases h
 · rename_i v hv;cases h;exact hv
theorem Q9g {m:Module}{f:Fun}{s s':JS}{x:Ins}(hm:m.Short) (hg:JGood s) (hF:Qm m.funcs.length x=0) (h:jins m f s x= .ok s'):JGood s':=by
 have hop:=Q36 hF
 have hst:=Qdo hop h
 have hn:s'.l.length≤80:=hst.len hg.n
 by_cases h3:x.op=3
 · rw [Q9i h3] at h
   split at h
   · cases h
   · rename_i hc
     cases h
     refine ⟨hn,by have:=hg.h;simp only [List.length_append,List.length_cons,List.length_nil];omega,fun u hu=>?_⟩
     rcases List.mem_append.1 hu with hu|hu
     · exact hg.s u hu
     · simp at hu;subst hu;exact Q6v
 by_cases h4:x.op=4
 · rw [Q7R h4] at h
   obtain ⟨t,h1,h⟩:=Q8 h
   split at h
   · cases h
   · cases h;exact ⟨hn,by rw [List.length_set];exact hg.h,hg.s⟩
 rcases op_cases (op:=x.op) (by omega) (by omega) with e|e|e|e|e|e|e|e|e|e|e|e|e|e
 · rw [Q5R (by omega)] at h;exact hg.put Q6v h
 · rw [Q6X (by omega)] at h;obtain ⟨_,_,h⟩:=Q8 h;obtain ⟨_,_,h⟩:=Q8 h;exact hg.put Q6v h
 · exact absurd e h3
 · exact absurd e h4
 · rw [Q9h (by omega)] at h
   unfold Q4t at h
   obtain ⟨t,_,h⟩:=Q8 h;obtain ⟨ts,h2,h⟩:=Q8 h
   split at h
   · cases h
   · obtain ⟨h5,h6⟩:=Q3T hg h2
     have hal:x.args.length≤8:=by
      unfold Qm Q14 at hF
      simp [e] at hF;omega
     exact hg.put (.mk (by omega) h6) h
 · rw [Q6W (by omega)] at h;obtain ⟨t,h1,h⟩:=Q8 h;obtain ⟨u,h2,h⟩:=Q8 h
   exact hg.put (Ty.Short.part (hg.get (jat_val h1)) u (List.mem_of_getElem? (Q9m h2))) h
 · rw [Q2e (by omega)] at h;obtain ⟨_,_,h⟩:=Q8 h;obtain ⟨_,_,h⟩:=Q8 h;obtain ⟨_,_,h⟩:=Q8 h
   split at h
   · cases h
   · cases h;exact hg
 · rw [Q6V (by omega)] at h;obtain ⟨_,_,h⟩:=Q8 h;obtain ⟨_,_,h⟩:=Q8 h;exact hg.put Q6v h
 · rw [Q6U (by omega)] at h;obtain ⟨_,_,h⟩:=Q8 h;obtain ⟨_,_,h⟩:=Q8 h;exact hg.put Q6v h
 · rw [Q4C (by omega)] at h;obtain ⟨_,_,h⟩:=Q8 h;obtain ⟨_,_,h⟩:=Q8 h;obtain ⟨_,_,h⟩:=Q8 h;cases h;exact hg
 · rw [Q5B (by omega)] at h;obtain ⟨_,_,h⟩:=Q8 h;exact hg.put Q6v h
 · rw [Q5R (by omega)] at h;exact hg.put Q6v h
 · rw [Q6Z (by omega)] at h;obtain ⟨_,_,h⟩:=Q8 h;cases h;exact hg
 · rw [Q6Y (by omega)] at h
   unfold Q67 at h
   split at h
   · cases h
   · rename_i g hgf
     split at h
     · cases h
     · obtain ⟨_,_,h⟩:=Q8 h;obtain ⟨_,_,h⟩:=Q8 h
       split at h
       · cases h
       · cases h
         refine ⟨hn,hg.h,fun u hu=>?_⟩
         rcases List.mem_append.1 hu with hu|hu
         · exact hg.s u hu
         · obtain ⟨t,ht,rfl⟩:=List.mem_map.1 hu
           exact QbO ((hm.2 g (List.mem_of_getElem? hgf)).2.1.2 t ht)
theorem Qdu {m:Module}{f:Fun}{s:JS}{x:Ins}(hm:m.Short) (hg:JGood s):JGood (jIns m f s x).2:=by
 by_cases h:(jIns m f s x).1=0
 · obtain ⟨h1,h2⟩:=Qds h;exact Q9g hm hg h1 h2
 · rw [Qdt h];exact hg
theorem Q74 {m:Module}(hm:m.Short) (hF:m.fault.1=0){f b:Nat}{x:Fun}{y:Block}(hx:m.funcs[f]?=some x) (hy:x.blocks[b]?=some y):JGood (Q1H y):=by
 have h1:=Q4H (Q2k hF hx hy).1
 have h2:=Q97 h1.2.2.1
 refine ⟨by unfold Q1H;simp only;omega,by unfold Q1H;simp only [List.length_replicate];omega,?_⟩
 exact ((hm.2 x (List.mem_of_getElem? hx)).2.2.2 y (List.mem_of_getElem? hy)).1.2
theorem Q9e {h:List Bool}:∀{l p:List Int},Q1V h p l= .ok ()→∀r∈l,hasB h r=true
 | [],_,_,r,hr=>by cases hr
 | x ::l,p,hd,r,hr=>by
   rw [Q1V] at hd
   split at hd
   · cases hd
   · rename_i h1
     split at hd
     · cases hd
     · rcases List.mem_cons.1 hr with rfl|hr
       · simpa using h1
       · exact Q9e hd r hr
theorem jat_gone {s:JS}{k kd:Int}{t:Ty}(h0:0≤k) (h:s.l[k.toNat]?=some t) (hk:t.kind=kd) (hh:hasB s.h t.r=false):jat s k kd= .error 10:=by
 unfold jat jkind
 rw [Q2 (Q2W h0 h),if_neg (fun h=>h hk),Q2 rfl,if_pos hh]
end Go.Lir
namespace Go.Lir
set_option linter.unusedVariables false
theorem Q75 {n:Nat}{x:Ins}(h:Qm n x=0):Q14 n x=0:=by
 unfold Qm at h
 split at h
 · cases h
 · split at h
   · cases h
   · exact h
theorem insF_k {n:Nat}{x:Ins}(h:Qm n x=0) (ho:x.op=14):0≤x.k∧x.k<n:=by
 have hk:=Q75 h
 unfold Q14 at hk
 rw [if_neg (by omega),if_neg (by omega),if_neg (by omega),if_pos ho] at hk
 split at hk
 · cases hk
 · omega
theorem insF_t {n:Nat}{x:Ins}(h:Qm n x=0) (ho:x.op=5):x.args.length≤8:=by
 have hk:=Q75 h
 unfold Q14 at hk
 rw [if_neg (by omega),if_pos ho] at hk
 split at hk
 · cases hk
 · omega
theorem ins_len {n:Nat}{x:Ins}(h:Qm n x=0):x.regs.length≤16∧x.args.length≤8:=by
 have hk:=Q75 h
 have ho:¬x.odd:=by
  unfold Qm at h
  split at h
  · cases h
  · split at h
    · cases h
    · assumption
 unfold Ins.odd at ho
 by_cases h14:x.op=14
 · unfold Q14 at hk
   rw [if_neg (by omega),if_neg (by omega),if_neg (by omega),if_pos h14] at hk
   split at hk
   · cases hk
   · split at hk
     · cases hk
     · omega
 · have g1:fG x.op=false:=by unfold fG;exact decide_eq_false h14
   have r0:¬0<x.regs.length:=fun hh=>ho (.inr (.inr (.inr (.inr (.inr (.inl ⟨g1,hh⟩))))))
   by_cases h5:x.op=5
   · exact ⟨by omega,insF_t h h5⟩
   · have g2:fR x.op=false:=by unfold fR;exact decide_eq_false (by omega)
     have a0:¬0<x.args.length:=fun hh=>ho (.inr (.inr (.inr (.inr (.inr (.inr ⟨g2,hh⟩))))))
     exact ⟨by omega,by omega⟩
theorem to_len {n:Nat}{t:To}(h:Q1n n t true=0):t.regs.length≤16∧t.args.length≤8:=by
 unfold Q1n at h
 rw [if_neg (by decide)] at h
 split at h
 · cases h
 · split at h
   · cases h
   · omega
theorem fin_len {n:Nat}{e:Tail}(h:Q10 n e=0):e.args.length≤8:=by
 unfold Q10 at h
 split at h
 · cases h
 · split at h
   · cases h
   · split at h
     · cases h
     · omega
theorem Q59 {g:Frm}:∀{l:List Int}{vs:List Val},g.args l=some vs→vs.length=l.length
 | [],_,h=>by cases h;rfl
 | k ::l,vs,h=>by
   rw [Frm.args] at h
   split at h
   · rename_i v vs' h1 h2
     cases h
     rw [List.length_cons,List.length_cons,Q59 h2]
   · cases h
theorem Qaf {g:Frm}:∀{l:List Int}{vs:List Int},g.rgs l=some vs→vs.length=l.length
 | [],_,h=>by cases h;rfl
 | k ::l,vs,h=>by
   rw [Frm.rgs] at h
   split at h
   · rename_i v vs' h1 h2
     cases h
     rw [List.length_cons,List.length_cons,Qaf h2]
   · cases h
theorem Q9r:∀{l:List Val}{ns:List Int},intsV l=some ns→ns.length=l.length
 | [],_,h=>by cases h;rfl
 | v ::l,ns,h=>by
   rw [intsV] at h
   split at h
   · cases h
   · rename_i ns' h1
     split at h
     · cases h
       rw [List.length_cons,List.length_cons,Q9r h1]
     · cases h
def Stp.All (P:MS→Prop):Stp→Prop
 | .go s=>P s
 | .done l=>l.length≤8
 | _=>True
theorem Stp.all_bind {α:Type}{P:MS→Prop}{x:Option α}{f:α→Stp}(h:∀a,x=some a→(f a).All P):(Q2A x f).All P:=by
 cases x with
 | none=>exact trivial
 | some a=>exact h a rfl
theorem Stp.all_if {P:MS→Prop}{c:Prop} [Decidable c] {a b:Stp}(h1:c→a.All P) (h2:¬c→b.All P):(if c then a else b).All P:=by
 by_cases hc:c
 · rw [if_pos hc];exact h1 hc
 · rw [if_neg hc];exact h2 hc
def FrB (m:Module) (k:Nat) (g:Frm):Prop:=∃f b,m.funcs[g.f]?=some f∧f.blocks[g.b]?=some b∧g.i≤b.code.length∧g.vals.length≤8+8*k∧g.regs.length≤16+k
structure Bnd (m:Module) (k:Nat) (s:MS):Prop where
 cur:FrB m k s.g
 st:∀x∈s.st,FrB m k x
 sl:s.st.length≤39
 out:s.out.length≤2000
section
variable {m:Module}{k:Nat}{s:MS}
theorem FrB.up {g:Frm}(h:FrB m k g):FrB m (k+1) g:=by
 obtain ⟨f,b,h1,h2,h3,h4,h5⟩:=h
 exact ⟨f,b,h1,h2,h3,by omega,by omega⟩
theorem FrB.more {g:Frm}(h:FrB m k g){vs:List Val}{rs:List Int}(hv:vs.length≤8) (hr:rs.length≤1):FrB m (k+1) ⟨g.f,g.b,g.i,g.vals++vs,g.regs++rs⟩:=by
 obtain ⟨f,b,h1,h2,h3,h4,h5⟩:=h
 refine ⟨f,b,h1,h2,h3,?_,?_⟩
 · show (g.vals++vs).length≤_;rw [List.length_append];omega
 · show (g.regs++rs).length≤_;rw [List.length_append];omega
theorem Bnd.up (h:Bnd m k s):Bnd m (k+1) s:=⟨h.cur.up,fun x hx=>(h.st x hx).up,h.sl,h.out⟩
theorem Bnd.put (h:Bnd m k s){vs:List Val}(hv:vs.length≤8):Bnd m (k+1) (s.put vs):=by
 refine ⟨?_,fun x hx=>(h.st x hx).up,h.sl,h.out⟩
 have:=h.cur.more (rs:=[]) hv (by simp)
 rw [List.append_nil] at this
 exact this
theorem Bnd.hp (h:Bnd m k s) (q:HpS):Bnd m k (s.hp q):=⟨h.cur,h.st,h.sl,h.out⟩
theorem Bnd.made (h:Bnd m k s){e:Int}{q:HpS}{v:Val}:(s.made e q v).All (Bnd m (k+1)):=by
 unfold MS.made
 exact Stp.all_if (fun _=>trivial) fun _=>Stp.all_if (fun _=>trivial) fun _=>(h.hp q).put (by simp)
theorem Q8G {P:MS→Prop}{v:Val}{e:Int}{r:Stp}(h:r.All P):(Qdb v e r).All P:=by
 unfold Qdb
 exact Stp.all_if (fun _=>trivial) fun _=>Stp.all_if (fun _=>trivial) fun _=>Stp.all_if (fun _=>trivial) fun _=>h
theorem Bnd.ins (h:Bnd m k s) (hM:m.fault.1=0){x:Ins}(hx:Qm m.funcs.length x=0):(s.ins m x).All (Bnd m (k+1)):=by
 obtain ⟨q1,q2⟩:=ins_len hx
 have h1:∀(v:Val) (t:MS),Bnd m k t→(Stp.go (t.put [v])).All (Bnd m (k+1)):=fun v t ht=>ht.put (by simp)
 have h2:∀(q:HpS),(Stp.go (s.hp q)).All (Bnd m (k+1)):=fun q=>(h.hp q).up
 unfold MS.ins
 refine Stp.all_if (fun _=>h1 _ _ h) fun _=>Stp.all_if (fun _=>Stp.all_bind fun a _=>Stp.all_bind fun b _=>Stp.all_if (fun _=>trivial) fun _=>h1 _ _ h) fun _=>Stp.all_if (fun _=>?_) fun _=>
  Stp.all_if (fun _=>Stp.all_bind fun v _=>Stp.all_if (fun _=>trivial) fun _=>h2 _) fun _=>Stp.all_if (fun _=>Stp.all_bind fun v _=>Stp.all_bind fun l _=>h.made) fun _=>
  Stp.all_if (fun _=>Stp.all_bind fun v _=>Stp.all_if (fun _=>trivial) fun _=>Stp.all_if (fun _=>trivial) fun _=>h1 _ _ h) fun _=>
  Stp.all_if (fun _=>Stp.all_bind fun v _=>Stp.all_if (fun _=>trivial) fun _=>Stp.all_bind fun y _=>Stp.all_if (fun _=>trivial) fun _=>h2 _) fun _=>
  Stp.all_if (fun _=>Stp.all_bind fun v _=>Stp.all_bind fun n _=>Stp.all_if (fun _=>trivial) fun _=>h.made) fun _=>
  Stp.all_if (fun _=>Stp.all_bind fun v _=>Stp.all_bind fun n _=>Q8G (h1 _ _ h)) fun _=>
  Stp.all_if (fun _=>Stp.all_bind fun v _=>Stp.all_bind fun n _=>Stp.all_bind fun c _=>Q8G (h2 _)) fun _=>
  Stp.all_if (fun _=>Stp.all_bind fun v _=>Q8G (h1 _ _ h)) fun _=>Stp.all_if (fun _=>?_) fun _=>Stp.all_if (fun _=>Stp.all_bind fun n _=>?_) fun _=>?_
 · unfold MS.newR
   refine Stp.all_if (fun _=>trivial) fun _=>?_
   refine ⟨?_,fun x hx=>(h.st x hx).up,h.sl,h.out⟩
   exact h.cur.more (vs:=[_]) (rs:=[_]) (by simp) (by simp)
 · unfold MS.inS
   split
   · exact trivial
   · exact h1 _ _ ⟨h.cur,h.st,h.sl,h.out⟩
 · unfold MS.outS
   refine Stp.all_if (fun _=>trivial) fun hn=>?_
   refine ⟨h.cur.up,fun x hx=>(h.st x hx).up,h.sl,?_⟩
   have:=h.out
   show (s.out++[n]).length≤2000
   rw [List.length_append]
   simp only [List.length_cons,List.length_nil]
   omega
 · unfold MS.call
   split
   · exact trivial
   · rename_i g hg
     refine Stp.all_bind fun rs hr=>Stp.all_bind fun vs hv=>Stp.all_if (fun _=>trivial) fun _=>Stp.all_if (fun _=>trivial) fun hl=>?_
     have hb:=(Q1Z (Q2R hM hg)).2.2.2.2.1
     obtain ⟨b,hb⟩:∃b,g.blocks[0]?=some b:=⟨_,List.getElem?_eq_getElem (by omega)⟩
     refine ⟨⟨g,b,hg,hb,Nat.zero_le _,?_,?_⟩,?_,?_,h.out⟩
     · show vs.length≤_;rw [Q59 hv];omega
     · show rs.length≤_;rw [Qaf hr];omega
     · intro y hy
       rcases List.mem_cons.1 hy with rfl|hy
       · exact h.cur.up
       · exact (h.st y hy).up
     · have:=h.sl
       show (s.g::s.st).length≤39
       rw [List.length_cons];omega
theorem Bnd.to (h:Bnd m k s){f:Fun}(hf:m.funcs[s.g.f]?=some f){t:To}(ht:Q1n f.blocks.length t true=0):(s.to f t).All (Bnd m (k+1)):=by
 obtain ⟨q1,q2⟩:=to_len ht
 unfold MS.to
 split
 · exact trivial
 · rename_i b hb
   refine Stp.all_bind fun rs hr=>Stp.all_bind fun vs hv=>Stp.all_if (fun _=>trivial) fun _=>?_
   refine ⟨⟨f,b,hf,hb,Nat.zero_le _,?_,?_⟩,fun x hx=>(h.st x hx).up,h.sl,h.out⟩
   · show vs.length≤_;rw [Q59 hv];omega
   · show rs.length≤_;rw [Qaf hr];omega
theorem Bnd.fin (h:Bnd m k s){f:Fun}(hf:m.funcs[s.g.f]?=some f){e:Tail}(he:Q10 f.blocks.length e=0):(s.fin f e).All (Bnd m (k+1)):=by
 obtain ⟨q1,q2,q3,q4⟩:=Q2C he
 have q5:=fin_len he
 unfold MS.fin
 refine Stp.all_if (fun e1=>?_) fun n1=>Stp.all_if (fun e2=>Stp.all_bind fun n _=>Stp.all_if (fun _=>?_) fun _=>?_) fun n2=>?_
 · rw [decide_eq_true (by omega)] at q3;exact h.to hf q3
 · rw [decide_eq_true (by omega)] at q3;exact h.to hf q3
 · rw [decide_eq_true (by omega)] at q4;exact h.to hf q4
 · unfold MS.ret
   refine Stp.all_bind fun vs hv=>Stp.all_if (fun _=>trivial) fun _=>?_
   split
   · rename_i c st hst
     have hc:=h.st c (by rw [hst];exact List.mem_cons_self)
     have h8:vs.length≤8:=by rw [Q59 hv];omega
     refine Bnd.put (s:=⟨s.h,c,st,s.inp,s.out,s.fuel⟩) ⟨hc,fun x hx=>h.st x (by rw [hst];exact List.mem_cons_of_mem _ hx),?_,h.out⟩ h8
     have:=h.sl
     rw [hst,List.length_cons] at this
     show st.length≤39
     omega
   · split
     · exact trivial
     · rename_i ns hns
       show ns.length≤8
       rw [Q9r hns,Q59 hv];omega
theorem Bnd.one (h:Bnd m k s) (hM:m.fault.1=0):(s.one m).All (Bnd m (k+1)):=by
 obtain ⟨f,b,hf,hb,hi,hv,hr⟩:=h.cur
 obtain ⟨-,q1,q2⟩:=Q2k hM hf hb
 unfold MS.one
 rw [hf];dsimp only;rw [hb];dsimp only
 cases hx:b.code[s.g.i]? with
 | none=>exact h.fin hf q2
 | some x=>
   have hlt:=(List.getElem?_eq_some_iff.1 hx).1
   refine Bnd.ins (s:=s.next) ⟨⟨f,b,hf,hb,?_,hv,hr⟩,h.st,h.sl,h.out⟩ hM (q1 x (List.mem_of_getElem? hx))
   show s.g.i+1≤_
   omega
theorem Bnd.start (hM:m.fault.1=0) (inp:List Int) (pages:Int):Bnd m 0 (MS.start inp pages):=by
 have hl:=Q9C hM
 obtain ⟨f,hf⟩:∃f,m.funcs[0]?=some f:=⟨_,List.getElem?_eq_getElem (by omega)⟩
 have hb:=(Q1Z (Q2R hM hf)).2.2.2.2.1
 obtain ⟨b,hb⟩:∃b,f.blocks[0]?=some b:=⟨_,List.getElem?_eq_getElem (by omega)⟩
 exact ⟨⟨f,b,hf,hb,Nat.zero_le _,Nat.zero_le _,Nat.zero_le _⟩,fun x hx=>(by cases hx),Nat.zero_le _,Nat.zero_le _⟩
end
end Go.Lir
namespace Go.Lir
def Q2K (e:Tail):List Nat:=if e.op=1 then [e.yes.block.toNat] else if e.op=2 then [e.yes.block.toNat,e.no.block.toNat] else []
def bAdj (l:List Block) (k:Nat):List Nat:=match l[k]? with
 | some y=>Q2K y.fin
 | none=>[]
def numT (ks:List Bool) (t:To):To:={t with block:=num ks t.block.toNat}
def renE (ks:List Bool) (e:Tail):Tail:={e with yes:=if e.op≠3 then numT ks e.yes else e.yes,no:=if e.op=2 then numT ks e.no else e.no}
def renB (ks:List Bool) (y:Block):Block:={y with fin:=renE ks y.fin}
def Q2M (l:List Block):List Bool:=Q2s (bAdj l) l.length
def Q7t (l:List Block):List Block:=(pick (Q2M l) l).map (renB (Q2M l))
def Fun.trim (f:Fun):Fun:={f with blocks:=Q7t f.blocks}
def Q1M (l:List Ins):List Nat:=(l.filter fun x=>decide (x.op=14)).map fun x=>x.k.toNat
def Q1y (l:List Block):List Nat:=l.flatMap fun y=>Q1M y.code
def fAdj (l:List Fun) (k:Nat):List Nat:=match l[k]? with
 | some f=>Q1y f.blocks
 | none=>[]
def renI (ks:List Bool) (x:Ins):Ins:=if x.op=14 then {x with k:=num ks x.k.toNat} else x
def renC (ks:List Bool) (y:Block):Block:={y with code:=y.code.map (renI ks)}
def renF (ks:List Bool) (f:Fun):Fun:={f with blocks:=f.blocks.map (renC ks)}
def keepF (l:List Fun):List Bool:=Q2s (fAdj l) l.length
def trimF (l:List Fun):List Fun:=(pick (keepF l) l).map (renF (keepF l))
def Module.trim (m:Module):Module:=⟨trimF (m.funcs.map Fun.trim)⟩
structure FOk (l:List Block):Prop where
 one:1≤l.length
 few:l.length≤12
 op:∀y∈l,1≤y.fin.op∧y.fin.op≤3
 yes:∀y∈l,y.fin.op≠3→0≤y.fin.yes.block∧y.fin.yes.block.toNat<l.length
 no:∀y∈l,y.fin.op=2→0≤y.fin.no.block∧y.fin.no.block.toNat<l.length
section
variable {l:List Block}{b k:Nat}{y:Block}
theorem Q4I (h:l[b]?=some y):bAdj l b=Q2K y.fin:=by unfold bAdj;rw [h]
theorem Qdj (e:Tail):(Q2K e).length≤2:=by unfold Q2K;split;(simp only [List.length_cons,List.length_nil];omega);split<;>simp only [List.length_cons,List.length_nil]<;>omega
theorem bAdj_few (b:Nat):(bAdj l b).length≤2:=by unfold bAdj;split;exact Qdj _;exact Nat.zero_le _
theorem FOk.lt (h:FOk l):∀b<l.length,∀k∈bAdj l b,k<l.length:=by
 intro b hb k hk
 have hy:=List.getElem?_eq_getElem hb
 have hm:=List.getElem_mem hb
 rw [Q4I hy] at hk
 unfold Q2K at hk
 split at hk
 · next h1=>
   rw [List.mem_singleton] at hk;subst hk
   exact (h.yes _ hm (by omega)).2
 · split at hk
   · next h2=>
     rcases List.mem_cons.1 hk with rfl|hk
     · exact (h.yes _ hm (by omega)).2
     · rw [List.mem_singleton] at hk;subst hk
       exact (h.no _ hm h2).2
   · cases hk
theorem Q9b:(Q2M l).length=l.length:=Q7Q
theorem FOk.keep (h:FOk l) (k:Nat):(Q2M l)[k]?=some true↔Come (bAdj l) k:=Q4e h.lt h.one k
theorem FOk.yes_kept (h:FOk l) (hy:l[b]?=some y) (hb:(Q2M l)[b]?=some true) (ho:y.fin.op≠3):(Q2M l)[y.fin.yes.block.toNat]?=some true:=by
 rw [h.keep] at hb ⊢
 refine .next hb ?_
 rw [Q4I hy]
 have:=h.op y (List.mem_of_getElem? hy)
 unfold Q2K
 by_cases h1:y.fin.op=1
 · rw [if_pos h1];exact List.mem_singleton.2 rfl
 · rw [if_neg h1,if_pos (by omega)];exact List.mem_cons_self ..
theorem FOk.no_kept (h:FOk l) (hy:l[b]?=some y) (hb:(Q2M l)[b]?=some true) (ho:y.fin.op=2):(Q2M l)[y.fin.no.block.toNat]?=some true:=by
 rw [h.keep] at hb ⊢
 refine .next hb ?_
 rw [Q4I hy]
 unfold Q2K
 rw [if_neg (by omega),if_pos ho];simp
end
theorem Q8R {n:Nat}{t:To}(h:Q1n n t true=0):0≤t.block∧t.block.toNat<n:=by
 have:=Q4O h
 omega
theorem fok_of {m:Module}(hF:m.fault.1=0){f:Nat}{x:Fun}(hx:m.funcs[f]?=some x):FOk x.blocks:=by
 have hp:=Q1Z (Q2R hF hx)
 have key:∀y∈x.blocks,Q10 x.blocks.length y.fin=0:=fun y hy=>by
  obtain ⟨b,hb⟩:=List.mem_iff_getElem?.1 hy
  exact (Q2k hF hx hb).2.2
 refine ⟨hp.2.2.2.2.1,hp.2.2.2.2.2,fun y hy=>?_,fun y hy ho=>?_,fun y hy ho=>?_⟩
 · have:=Q2C (key y hy);exact ⟨this.1,this.2.1⟩
 · have:=Q2C (key y hy);rw [show decide (y.fin.op≠3)=true from decide_eq_true ho] at this;exact Q8R this.2.2.1
 · have:=Q2C (key y hy);rw [show decide (y.fin.op=2)=true from decide_eq_true ho] at this;exact Q8R this.2.2.2
structure MOk (l:List Fun):Prop where
 one:1≤l.length
 few:l.length≤8
 blk:∀f∈l,FOk f.blocks
 call:∀f∈l,∀y∈f.blocks,∀x∈y.code,x.op=14→0≤x.k∧x.k.toNat<l.length
theorem mok_of {m:Module}(hF:m.fault.1=0):MOk m.funcs:=by
 have hl:=Q9C hF
 refine ⟨hl.1,hl.2,fun f hf=>?_,fun f hf y hy x hx ho=>?_⟩
 · obtain ⟨k,hk⟩:=List.mem_iff_getElem?.1 hf
   exact fok_of hF hk
 · obtain ⟨k,hk⟩:=List.mem_iff_getElem?.1 hf
   obtain ⟨b,hb⟩:=List.mem_iff_getElem?.1 hy
   have:=insF_k ((Q2k hF hk hb).2.1 x hx) ho
   omega
theorem Q8y {l:List Fun}{k:Nat}{f:Fun}(h:l[k]?=some f):fAdj l k=Q1y f.blocks:=by unfold fAdj;rw [h]
theorem Qch {l:List Ins}{k:Nat}:k∈Q1M l↔∃x∈l,x.op=14∧x.k.toNat=k:=by
 unfold Q1M
 rw [List.mem_map]
 constructor
 · rintro ⟨x,hx,rfl⟩
   rw [List.mem_filter] at hx
   exact ⟨x,hx.1,of_decide_eq_true hx.2,rfl⟩
 · rintro ⟨x,hx,ho,rfl⟩
   exact ⟨x,List.mem_filter.2 ⟨hx,decide_eq_true ho⟩,rfl⟩
theorem Q7Z {l:List Block}{k:Nat}:k∈Q1y l↔∃y∈l,∃x∈y.code,x.op=14∧x.k.toNat=k:=by
 unfold Q1y
 rw [List.mem_flatMap]
 exact exists_congr fun y=>and_congr_right fun _=>Qch
theorem Q3v {l:List Ins}{k:Nat}{x:Ins}(h:l[k]?=some x):Q1M (l.take (k+1))=Q1M (l.take k)++(if x.op=14 then [x.k.toNat] else []):=by
 unfold Q1M
 rw [List.take_add_one,h,List.filter_append,List.map_append]
 congr 1
 by_cases ho:x.op=14
 · simp [ho]
 · simp [ho]
theorem Q4G {l:List Block}{k:Nat}{y:Block}(h:l[k]?=some y):Q1y (l.take (k+1))=Q1y (l.take k)++Q1M y.code:=by
 unfold Q1y
 rw [List.take_add_one,h,List.flatMap_append]
 simp
theorem Q5H {l:List Ins}:(Q1M l).length≤l.length:=by
 unfold Q1M
 rw [List.length_map]
 exact List.length_filter_le _ _
theorem Q5I:∀{l:List Block},(∀y∈l,y.code.length≤100000)→(Q1y l).length≤l.length*100000
 | [],_=>Nat.le_refl _
 | y::l,h=>by
   have ih:=Q5I (l:=l) fun z hz=>h z (List.mem_cons_of_mem _ hz)
   have h1:=h y (List.mem_cons_self ..)
   have h2:=Q5H (l:=y.code)
   show (List.flatMap (fun y=>Q1M y.code) (y::l)).length≤_
   rw [List.flatMap_cons,List.length_append,List.length_cons]
   have:(List.flatMap (fun y=>Q1M y.code) l).length=(Q1y l).length:=rfl
   omega
theorem Q9a {l:List Fun}:(keepF l).length=l.length:=Q7Q
def CallsOk (l:List Fun):Prop:=∀f∈l,∀y∈f.blocks,∀x∈y.code,x.op=14→0≤x.k∧x.k.toNat<l.length
section
variable {l:List Fun}
theorem CallsOk.lt (h:CallsOk l):∀b<l.length,∀k∈fAdj l b,k<l.length:=by
 intro b hb k hk
 rw [Q8y (List.getElem?_eq_getElem hb),Q7Z] at hk
 obtain ⟨y,hy,x,hx,ho,rfl⟩:=hk
 exact (h _ (List.getElem_mem hb) y hy x hx ho).2
theorem CallsOk.kept (h:CallsOk l) (h0:0<l.length){k:Nat}{f:Fun}{y:Block}{x:Ins}(hf:l[k]?=some f) (hk:(keepF l)[k]?=some true) (hy:y∈f.blocks) (hx:x∈y.code) (ho:x.op=14):(keepF l)[x.k.toNat]?=some true:=by
 have key:=Q4e h.lt h0
 refine (key _).2 (.next ((key _).1 hk) ?_)
 rw [Q8y hf,Q7Z]
 exact ⟨y,hy,x,hx,ho,rfl⟩
end
theorem QbF {l:List Block}{y:Block}(h:y∈Q7t l):∃z∈l,y.code=z.code:=by
 unfold Q7t at h
 obtain ⟨z,hz,rfl⟩:=List.mem_map.1 h
 exact ⟨z,Q3l _ _ hz,rfl⟩
theorem MOk.calls {l:List Fun}(h:MOk l):CallsOk (l.map Fun.trim):=by
 intro f hf y hy x hx ho
 obtain ⟨g,hg,rfl⟩:=List.mem_map.1 hf
 obtain ⟨z,hz,e⟩:=QbF hy
 rw [List.length_map]
 exact h.call g hg z hz x (e ▸ hx) ho
theorem fAdj_few {l:List Fun}(h:∀f∈l,f.Short) (h2:∀f∈l,f.blocks.length≤12) (b:Nat):(fAdj l b).length≤1200000:=by
 unfold fAdj
 split
 · next f hf=>
   have hm:=List.mem_of_getElem? hf
   have:=Q5I (l:=f.blocks) fun y hy=>((h f hm).2.2.2 y hy).2.1
   have:=h2 f hm
   omega
 · exact Nat.zero_le _
theorem QaS {f:Fun}(h:f.blocks.length≤12):f.trim.blocks.length≤12:=by
 show (Q7t f.blocks).length≤_
 unfold Q7t
 rw [List.length_map]
 exact Nat.le_trans (Q2n _ _) h
theorem QbR {ks:List Bool}{y:Block}(h:y.Short):(renB ks y).Short:=by
 refine ⟨h.1,h.2.1,h.2.2.1,?_⟩
 have:=h.2.2.2
 refine ⟨?_,?_,this.2.2⟩
 · show To.Short (if y.fin.op≠3 then numT ks y.fin.yes else y.fin.yes)
   split
   · exact this.1
   · exact this.1
 · show To.Short (if y.fin.op=2 then numT ks y.fin.no else y.fin.no)
   split
   · exact this.2.1
   · exact this.2.1
theorem trim_short {f:Fun}(h:f.Short):f.trim.Short:=by
 refine ⟨h.1,h.2.1,?_,fun y hy=>?_⟩
 · show (Q7t f.blocks).length≤_
   unfold Q7t
   rw [List.length_map]
   exact Nat.le_trans (Q2n _ _) h.2.2.1
 · have hy:y∈Q7t f.blocks:=hy
   unfold Q7t at hy
   obtain ⟨z,hz,rfl⟩:=List.mem_map.1 hy
   exact QbR (h.2.2.2 z (Q3l _ _ hz))
theorem QbP {ks:List Bool}{x:Ins}(h:x.Short):(renI ks x).Short:=by
 unfold renI;split
 · exact h
 · exact h
theorem QbQ {ks:List Bool}{f:Fun}(h:f.Short):(renF ks f).Short:=by
 refine ⟨h.1,h.2.1,by show (f.blocks.map _).length≤_;rw [List.length_map];exact h.2.2.1,fun y hy=>?_⟩
 obtain ⟨z,hz,rfl⟩:=List.mem_map.1 (show y∈f.blocks.map (renC ks) from hy)
 have h1:=h.2.2.2 z hz
 refine ⟨h1.1,by show (z.code.map _).length≤_;rw [List.length_map];exact h1.2.1,fun i hi=>?_,h1.2.2.2⟩
 obtain ⟨x,hx,rfl⟩:=List.mem_map.1 (show i∈z.code.map (renI ks) from hi)
 exact QbP (h1.2.2.1 x hx)
theorem Module.trim_short {m:Module}(h:m.Short):m.trim.Short:=by
 unfold Module.trim trimF
 refine ⟨?_,fun f hf=>?_⟩
 · show ((pick _ _).map _).length≤_
   rw [List.length_map]
   exact Nat.le_trans (Q2n _ _) (by rw [List.length_map];exact h.1)
 · obtain ⟨g,hg,rfl⟩:=List.mem_map.1 (show f∈(pick _ _).map _ from hf)
   obtain ⟨f0,hf0,rfl⟩:=List.mem_map.1 (Q3l _ _ hg)
   exact QbQ (Go.Lir.trim_short (h.2 f0 hf0))
end Go.Lir
namespace Go.Proofs.YteflkifmgnpbhaaGreat
open Go.Lir
set_option maxHeartbeats 1000000
attribute [local irreducible] LC.wp Q0 QB QH retQ Q1k LO.wp Qh Calls
set_option linter.unusedSimpArgs false
set_option linter.unusedVariables false
structure HT where
 Tv:TypeId
 Tt:TypeId
 Tr:TypeId
 Th:TypeId
structure ThgV where
 array:Bool
 lv:Value
 l:List Val
def ThgV.abs (t:ThgV):Thg:=⟨t.array,t.l⟩
def ThgV.cells (t:ThgV):List Value:=[.bool t.array,t.lv]
def ThgV.res (H:HT) (t:ThgV):Res:=sl H.Tv 4 t.lv (t.l.map Val.cells)
structure RgnV where
 there:Bool
 lv:Value
 l:List ThgV
 pages:Int
 used:Int
def RgnV.abs (r:RgnV):Rgn:=⟨r.there,r.l.map ThgV.abs,r.pages,r.used⟩
def RgnV.cells (r:RgnV):List Value:=[.bool r.there,r.lv, .int .i64 r.pages, .int .i64 r.used]
def RgnV.res (H:HT) (r:RgnV):Res:=star (sl H.Tt 2 r.lv (r.l.map ThgV.cells)) (big (ThgV.res H) r.l)
def RgnV.nil:RgnV:=⟨false, .slice none 0 0,[],0,0⟩
structure HpO (N:Nat) (s:HpS) (rv:List RgnV):Prop where
 hr:rv.map RgnV.abs=s.l
 ok:s.Ok N
section
variable {cx:Cx}{w:World}{L:List Res}{H:HT}
theorem St.big_push {α:Type}{f:α→Res}{l:List α}{x:α}(h:St cx w (f x::big f l::L)):St cx w (big f (l++[x])::L):=by
 have h1:St cx w (l.map f++(f x::L)):=h.mv1.list
 have h2:St cx w ((l++[x]).map f++L):=by simpa using h1
 exact h2.list'
theorem St.big_nil {α:Type}(f:α→Res) (h:St cx w L):St cx w (big f []::L):=h.emp (r:=Go.Lir.emp) fun _ h=>h
theorem HpO.len {N:Nat}{s:HpS}{rv:List RgnV}(h:HpO N s rv):rv.length=s.l.length:=by rw [←h.hr,List.length_map]
theorem HpO.at_ {N:Nat}{s:HpS}{rv:List RgnV}(h:HpO N s rv){k:Nat}(hk:k<rv.length):∃r,rv[k]?=some r∧s.reg k=r.abs∧s.l[k]?=some r.abs:=by
 refine ⟨rv[k],List.getElem?_eq_getElem hk,?_,?_⟩
 · unfold HpS.reg
   rw [if_pos (by omega),Int.toNat_natCast,←h.hr,List.getD_eq_getElem?_getD,List.getElem?_map,List.getElem?_eq_getElem hk];rfl
 · rw [←h.hr,List.getElem?_map,List.getElem?_eq_getElem hk];rfl
theorem HpO.out {N:Nat}{s:HpS}{rv:List RgnV}(h:HpO N s rv){k:Int}(hk:k<0∨(rv.length:Int)≤k):s.has k=false:=by
 have hl:=h.len
 unfold HpS.has HpS.reg
 split
 · rw [List.getD_eq_getElem?_getD,List.getElem?_eq_none (by omega)];rfl
 · rfl
end
end Go.Proofs.YteflkifmgnpbhaaGreat
namespace Go.Lir
theorem St.lent {c:Cx}{w:World}{L:List Res}{r:Res}(h:St c w (r::L)):∃c' F,c.Le c'∧St c' w L∧r.A c'.H0 F∧(∀b,F b→c'.K b)∧∀{w':World}{L':List Res},St c' w' L'→St c w' (r::L'):=by
 obtain ⟨ok,F,⟨F1,F2,h1,h2,h3,h4⟩,hd⟩:=h
 have hle:c.Le ⟨c.base,fun b=>c.K b∨F1 b,w.heap⟩:=⟨rfl,fun b hb=>⟨.inl hb,ok.same b hb⟩,ok.size,ok.lt⟩
 refine ⟨⟨c.base,fun b=>c.K b∨F1 b,w.heap⟩,F1,hle,⟨⟨ok.os,ok.tape,ok.output,Nat.le_refl _,fun b hb=>hb.elim (fun hb=>Nat.lt_of_lt_of_le (ok.lt b hb) ok.size) (r.lt h1 b),fun b _=>rfl⟩,F2,h2,?_⟩,h1,fun b hb=> .inr hb,?_⟩
 · rintro b hb (hk|hk)
   · exact hd b ((h4 b).2 (.inr hb)) hk
   · exact h3 b hk hb
 · intro w' L' hS
   have hw:=hS.weak hle
   obtain ⟨ok',F',hF',hd'⟩:=hS
   refine ⟨hw.1,fun b=>F1 b∨F' b,⟨F1,F',r.loc h1 fun b hb _=>ok'.same b (.inr hb),hF',fun b hb hb'=>hd' b hb' (.inr hb),fun b=>Iff.rfl⟩,?_⟩
   rintro b (hb|hb) hk
   · exact hd b ((h4 b).2 (.inl hb)) hk
   · exact hd' b hb (.inl hk)
theorem St.lend {α:Type}{r:Rep α}{c:Cx}{w:World}{L:List Res}{T:TypeId}{es:Nat}{v:Value}{css:List (List Value)}{l:List α}(h:St c w (sl T es v css::L)) (hl:r.ls c css l) (hes:r.es=es) (hm:l.length≤140737488355328):
 ∃c',c.Le c'∧St c' w L∧r.sl c' v l∧∀{w':World}{L':List Res},St c' w' L'→St c w' (sl T es v css::L'):=by
 subst hes
 obtain ⟨c',F,h1,h2,h3,h4,h5⟩:=h.lent
 exact ⟨c',h1,h2,⟨css,SlR.mono (Sl.toR h3) fun b _ hb=>h4 b hb,hl.up h1,hm⟩,h5⟩
end Go.Lir
namespace Go.Lir
structure BlkH where
 b:Block
 v:Value
 q:Nat
structure FunH where
 regs:Int
 params:List Ty
 results:List Ty
 blocks:List BlkH
def FunH.to (f:FunH):Fun:=⟨f.regs,f.params,f.results,f.blocks.map (·.b)⟩
def blkhR:Rep BlkH where
 es:=12
 pos:=by decide
 R:=fun H K cs x=>∃vp ce,cs= .int .i64 x.b.regs::vp::x.v::ce∧tyR.SR H K vp x.b.params∧oneC x.v=true∧endR.R H K ce x.b.fin
 len:=by rintro _ _ _ _ ⟨_,ce,rfl,_,_,h⟩;have:=endR.len h;simp [this,endR]
 one:=by
  rintro _ _ _ _ ⟨_,ce,rfl,h1,h2,h3⟩ u hu
  simp at hu
  rcases hu with rfl|rfl|rfl|hu
  · rfl
  · exact h1.oneC
  · exact h2
  · exact endR.one h3 u hu
 turn:=by rintro _ _ _ _ _ _ ⟨_,_,rfl,h1,h2,h3⟩ hs;exact ⟨_,_,rfl,h1.turn hs,h2,endR.turn h3 hs⟩
def funhR:Rep FunH where
 es:=4
 pos:=by decide
 R:=fun H K cs x=>∃vp vr vb,cs=[.int .i64 x.regs,vp,vr,vb]∧tyR.SR H K vp x.params∧tyR.SR H K vr x.results∧blkhR.SR H K vb x.blocks
 len:=by rintro _ _ _ _ ⟨_,_,_,rfl,_⟩;rfl
 one:=by
  rintro _ _ _ _ ⟨_,_,_,rfl,h1,h2,h3⟩ u hu
  simp at hu
  rcases hu with rfl|rfl|rfl|rfl<;>first|rfl|exact h1.oneC|exact h2.oneC|exact h3.oneC
 turn:=by rintro _ _ _ _ _ _ ⟨_,_,_,rfl,h1,h2,h3⟩ hs;exact ⟨_,_,_,rfl,h1.turn hs,h2.turn hs,h3.turn hs⟩
theorem Q1x {c:Cx}{cs:List Value}{x:BlkH}(h:blkhR.at c cs x):∃vp v1 v2 v3 v4 v5,cs=[.int .i64 x.b.regs,vp,x.v, .int .i64 x.b.fin.op, .int .i64 x.b.fin.a, .int .i64 x.b.fin.yes.block,v1,v2, .int .i64 x.b.fin.no.block,v3,v4,v5]∧tyR.sl c vp x.b.params∧oneC x.v=true∧intR.sl c v1 x.b.fin.yes.regs∧intR.sl c v2 x.b.fin.yes.args∧intR.sl c v3 x.b.fin.no.regs∧intR.sl c v4 x.b.fin.no.args∧intR.sl c v5 x.b.fin.args:=by
 obtain ⟨vp,ce,rfl,h1,h2,v1,v2,v3,v4,v5,rfl,h3⟩:=h
 exact ⟨vp,v1,v2,v3,v4,v5,rfl,h1,h2,h3⟩
theorem Q8F {c:Cx}{x:BlkH}{vp v1 v2 v3 v4 v5:Value}(h1:tyR.sl c vp x.b.params) (h2:oneC x.v=true) (h3:intR.sl c v1 x.b.fin.yes.regs) (h4:intR.sl c v2 x.b.fin.yes.args) (h5:intR.sl c v3 x.b.fin.no.regs) (h6:intR.sl c v4 x.b.fin.no.args) (h7:intR.sl c v5 x.b.fin.args):
 blkhR.at c [.int .i64 x.b.regs,vp,x.v, .int .i64 x.b.fin.op, .int .i64 x.b.fin.a, .int .i64 x.b.fin.yes.block,v1,v2, .int .i64 x.b.fin.no.block,v3,v4,v5] x:=⟨vp,_,rfl,h1,h2,v1,v2,v3,v4,v5,rfl,h3,h4,h5,h6,h7⟩
theorem Q39 {c:Cx}{cs:List Value}{x:FunH}(h:funhR.at c cs x):∃vp vr vb,cs=[.int .i64 x.regs,vp,vr,vb]∧tyR.sl c vp x.params∧tyR.sl c vr x.results∧blkhR.sl c vb x.blocks:=h
abbrev Q22 (TI:TypeId) (ps:List (Value×List (List Value))):Res:=big (fun p:Value×List (List Value)=>sl TI 8 p.1 p.2) ps
def Cods (c:Cx) (ps:List (Value×List (List Value))) (cods:List (List Ins)):Prop:=ps.length=cods.length∧∀(q:Nat) (l:List Ins),cods[q]?=some l→l.length≤100000∧∃p,ps[q]?=some p∧insR.ls c p.2 l
def Hd (ps:List (Value×List (List Value))) (y:BlkH):Prop:=(ps.map Prod.fst)[y.q]?=some y.v
def BlkH.cur (cods:List (List Ins)) (y:BlkH):Block:={y.b with code:=cods.getD y.q []}
def FunH.cur (cods:List (List Ins)) (f:FunH):Fun:=⟨f.regs,f.params,f.results,f.blocks.map (·.cur cods)⟩
section
variable {c c':Cx}{ps:List (Value×List (List Value))}{cods:List (List Ins)}{w:World}{L:List Res}{TI:TypeId}
theorem Cods.up (h:Cods c ps cods) (hle:c.Le c'):Cods c' ps cods:=⟨h.1,fun q l hl=>by obtain ⟨h0,p,h1,h2⟩:=h.2 q l hl;exact ⟨h0,p,h1,h2.up hle⟩⟩
theorem Cods.nil:Cods c [] []:=⟨rfl,fun q l h=>by simp at h⟩
theorem Cods.push {v:Value}{css:List (List Value)}{l:List Ins}(h:Cods c ps cods) (hl:insR.ls c css l) (hn:l.length≤100000):Cods c (ps++[(v,css)]) (cods++[l]):=by
 refine ⟨by simp [h.1],fun q k hk=>?_⟩
 rcases Nat.lt_or_ge q cods.length with hq|hq
 · rw [List.getElem?_append_left hq] at hk
   obtain ⟨h0,p,h1,h2⟩:=h.2 q k hk
   exact ⟨h0,p,by rw [List.getElem?_append_left (by rw [h.1];exact hq)];exact h1,h2⟩
 · have hlt:=(List.getElem?_eq_some_iff.1 hk).1
   simp at hlt
   obtain rfl:q=cods.length:=by omega
   rw [List.getElem?_append_right (Nat.le_refl _),Nat.sub_self] at hk
   simp at hk;subst hk
   exact ⟨hn,(v,css),by rw [←h.1,List.getElem?_append_right (Nat.le_refl _),Nat.sub_self];rfl,hl⟩
theorem Hd.push {y:BlkH}{p:Value×List (List Value)}(h:Hd ps y):Hd (ps++[p]) y:=by
 unfold Hd at h ⊢
 rw [List.map_append,List.getElem?_append_left (List.getElem?_eq_some_iff.1 h).1];exact h
theorem Hd.new {b:Block}{v:Value}{css:List (List Value)}:Hd (ps++[(v,css)]) ⟨b,v,ps.length⟩:=by
 unfold Hd
 rw [List.map_append,List.getElem?_append_right (by simp)]
 simp
theorem Hd.set {y:BlkH}{q:Nat}{v:Value}{css:List (List Value)}(h:Hd ps y) (hv:(ps.map Prod.fst)[q]?=some v):Hd (ps.set q (v,css)) y:=by
 unfold Hd at h ⊢
 rw [List.map_set]
 show ((ps.map Prod.fst).set q v)[y.q]?=_
 rw [List.getElem?_set]
 split
 · next e => subst e;rw [hv] at h;split
             · exact h
             · next hn=>exact absurd (List.getElem?_eq_some_iff.1 hv).1 hn
 · exact h
theorem Hd.at_ {y:BlkH}(h:Hd ps y) (hc:Cods c ps cods){l:List Ins}(hl:cods[y.q]?=some l):∃css,ps[y.q]?=some (y.v,css)∧insR.ls c css l∧l.length≤100000:=by
 obtain ⟨h0,⟨v,css⟩,h1,h2⟩:=hc.2 _ _ hl
 unfold Hd at h
 rw [List.getElem?_map,h1] at h
 have h:v=y.v:=by simpa using h
 subst h
 exact ⟨css,h1,h2,h0⟩
theorem Cods.set {q:Nat}{v:Value}{css:List (List Value)}{l:List Ins}(h:Cods c ps cods) (hl:insR.ls c css l) (hn:l.length≤100000):Cods c (ps.set q (v,css)) (cods.set q l):=by
 refine ⟨by simp [h.1],fun k x hx=>?_⟩
 rw [List.getElem?_set] at hx ⊢
 by_cases he:q=k
 · rw [if_pos he] at hx ⊢
   rw [h.1]
   split at hx
   · next hq=>cases hx;exact ⟨hn,_,by rw [if_pos hq],hl⟩
   · cases hx
 · rw [if_neg he] at hx ⊢
   exact h.2 k x hx
theorem Qbv {α:Type}{f:α→Res}{H:Heap}:∀{l:List α}{F:Nat→Prop}{k:Nat}{x:α},(big f l).A H F→l[k]?=some x→∃G,(f x).A H G∧∀b,G b→F b
 | [],_,_,_,_,h=>by simp at h
 | y ::l,F,k,x,⟨F1,F2,h1,h2,_,h4⟩,hx=>by
   cases k with
   | zero=>simp at hx;subst hx;exact ⟨F1,h1,fun b hb=>(h4 b).2 (.inl hb)⟩
   | succ k=>
     obtain ⟨G,hG,hs⟩:=Qbv (l:=l) h2 (by simpa using hx)
     exact ⟨G,hG,fun b hb=>(h4 b).2 (.inr (hs b hb))⟩
theorem Qcb (hS:St c w (Q22 TI ps::L)) (hc:Cods c ps cods):∃c',c.Le c'∧St c' w L∧(∀(q:Nat) (l:List Ins) (p:Value×List (List Value)),cods[q]?=some l→ps[q]?=some p→insR.sl c' p.1 l)∧∀{w':World}{L':List Res},St c' w' L'→St c w' (Q22 TI ps::L'):=by
 obtain ⟨c',F,h1,h2,h3,h4,h5⟩:=hS.lent
 refine ⟨c',h1,h2,fun q l p hl hp=>?_,h5⟩
 obtain ⟨h0,p',hp',hls⟩:=hc.2 q l hl
 rw [hp] at hp';cases hp'
 obtain ⟨G,hG,hsub⟩:=Qbv h3 hp
 exact ⟨p.2,SlR.mono (Sl.toR hG) fun b _ hb=>h4 b (hsub b hb),hls.up h1,by omega⟩
structure Stor (c:Cx) (ps:List (Value×List (List Value))) (ys:List BlkH):Prop where
 cods:Cods c ps (ys.map (·.b.code))
 hd:∀y∈ys,Hd ps y
 qs:ys.map (·.q)=List.range ps.length
theorem Stor.nil:Stor c [] []:=⟨Cods.nil,fun _ h=>(List.not_mem_nil h).elim,rfl⟩
theorem Stor.up {ys:List BlkH}(h:Stor c ps ys) (hle:c.Le c'):Stor c' ps ys:=⟨h.cods.up hle,h.hd,h.qs⟩
theorem Stor.push {ys:List BlkH}{b:Block}{v:Value}{css:List (List Value)}(h:Stor c ps ys) (hl:insR.ls c css b.code) (hn:b.code.length≤100000):Stor c (ps++[(v,css)]) (ys++[⟨b,v,ps.length⟩]):=by
 refine ⟨?_,fun y hy=>?_,?_⟩
 · rw [List.map_append];exact h.cods.push hl hn
 · rcases List.mem_append.1 hy with hy|hy
   · exact (h.hd y hy).push
   · rw [List.mem_singleton] at hy;subst hy;exact Hd.new
 · rw [List.map_append,h.qs,List.length_append]
   show _=List.range (ps.length+1)
   rw [List.range_succ];rfl
theorem Stor.nodup {ys:List BlkH}(h:Stor c ps ys):(ys.map (·.q)).Nodup:=by rw [h.qs];exact List.nodup_range
theorem Stor.code {ys:List BlkH}(h:Stor c ps ys){y:BlkH}(hy:y∈ys):(ys.map (·.b.code))[y.q]?=some y.b.code:=by
 obtain ⟨i,hi⟩:=List.mem_iff_getElem?.1 hy
 have h1:(ys.map (·.q))[i]?=some y.q:=by rw [List.getElem?_map,hi];rfl
 rw [h.qs] at h1
 have h2:=(List.getElem?_eq_some_iff.1 h1).2
 rw [List.getElem_range] at h2
 subst h2
 rw [List.getElem?_map,hi];rfl
def putC (f:Ins→Ins) (cods:List (List Ins)) (y:BlkH):List (List Ins):=cods.set y.q (y.b.code.map f)
def putL (f:Ins→Ins) (cods:List (List Ins)) (ys:List BlkH):List (List Ins):=ys.foldl (putC f) cods
theorem Q92 {f:Ins→Ins}{ys:List BlkH}{y:BlkH}:putL f cods (ys++[y])=putC f (putL f cods ys) y:=by unfold putL;rw [List.foldl_append];rfl
theorem Qaj {f:Ins→Ins}:∀{ys:List BlkH}{cods:List (List Ins)}{q:Nat},q∉ys.map (·.q)→(putL f cods ys)[q]?=cods[q]?
 | [],_,_,_=>rfl
 | y::ys,cods,q,h=>by
   rw [List.map_cons,List.mem_cons,not_or] at h
   show (putL f (putC f cods y) ys)[q]?=_
   rw [Qaj h.2]
   unfold putC
   rw [List.getElem?_set_ne (Ne.symm h.1)]
theorem Qb5 {f:Ins→Ins}:∀{ys:List BlkH}{cods:List (List Ins)}{y:BlkH},(ys.map (·.q)).Nodup→y∈ys→y.q<cods.length→(putL f cods ys)[y.q]?=some (y.b.code.map f)
 | z ::ys,cods,y,hn,hy,hq=>by
   rw [List.map_cons,List.nodup_cons] at hn
   show (putL f (putC f cods z) ys)[y.q]?=_
   rcases List.mem_cons.1 hy with rfl|hy
   · rw [Qaj hn.1]
     unfold putC
     rw [List.getElem?_set_self hq]
   · exact Qb5 hn.2 hy (by unfold putC;rw [List.length_set];exact hq)
end
end Go.Lir
namespace Go.Proofs.YteflkifmgnpbhaaGreat
open Go.Lir
set_option maxHeartbeats 1000000
attribute [local irreducible] LC.wp Q0 QB QH retQ Q1k LO.wp Qh Calls
set_option linter.unusedSimpArgs false
set_option linter.unusedVariables false
theorem u64_few {n:Nat}(h:n≤100000):IntKind.u64.wrap (n:Int)=(n:Int):=by
 unfold IntKind.wrap
 simp [IntKind.bits,IntKind.signed];omega
variable {cx:Cx}{w:World}{L:List Res}
theorem sort_c {l:List Int}{v:Value}(hn:l.length≤12) (hS:St cx w (sl 3 1 v (l.map QX)::L)):
 Rets Tryz.prog Q4y [v] w fun _ w'=>∃l',Ord l' l'.length l'.length∧(Dif l→Dif l')∧(∀z,z∈l'↔z∈l)∧l'.length=l.length∧St cx w' (sl 3 1 v (l'.map QX)::L):=by
 all_goals refine lgo tyD Tryz.func146 ?_
 all_goals (refine Zae ?_;refine QcM hS rfl fd ?_;rw [List.length_map];refine Zab ?_;refine Zbc ?_;refine zm ?_;refine QcO rfl ?_;rw [u64_few (n:=l.length) (by omega)];refine zR1 (c:=len_c hn hS) (h:=?_);rintro v1 w1 ⟨⟨k9,rfl⟩,hS⟩;refine zR4 (c:=pdq_c hn hS) (h:=?_);rintro v1 w1 ⟨l',ho',hd',hm',hl',hS⟩;refine zn ?_;refine Q17 ?_;exact ⟨_,rfl,l',ho',hd',hm',hl',hS.sp⟩)
theorem Q8q {c:Cx}(l:List Int):intR.ls c (l.map QX) l:=⟨by simp,fun m x hx=>⟨QX x,by rw [List.getElem?_map,hx];rfl,rfl⟩⟩
theorem Q9B:∀l:List Int,(l.map QX).flatten=l.map fun x=>Value.int .i64 x
 | []=>rfl
 | x::l=>by rw [List.map_cons,List.flatten_cons,Q9B l];rfl
theorem Q7b {b n:Nat}{T:TypeId}{l:List Int}{cs:List Value}(hS:St cx w (blk b T cs::L)) (hc:cs=l.map fun x=>Value.int .i64 x) (hn:l.length=n) (hm:n≤100000):∃c',cx.Le c'∧St c' w L∧intR.sl c' (.slice (some ⟨b,0,none⟩) n n) l:=by
 subst hc hn
 have hS:=St.slOf (es:=1) (n:=l.length) (css:=l.map QX) hS (Q9B l) (by intro c hc;obtain ⟨x,_,rfl⟩:=List.mem_map.1 hc;rfl) (by simp)
 obtain ⟨c3,h1,h2,h3⟩:=St.freezeL (r:=intR) hS (Q8q l) rfl (by omega)
 exact ⟨c3,h1,h2,h3⟩
theorem leads_c {y:BlkH}{cs:List Value}(ho:1≤y.b.fin.op∧y.b.fin.op≤3) (h1:y.b.fin.op≠3→0≤y.b.fin.yes.block) (h2:y.b.fin.op=2→0≤y.b.fin.no.block) (hy:blkhR.at cx cs y) (hS:St cx w L):Rets Tryz.prog QbB [.agg ⟨cs⟩] w fun u w'=>∃c',cx.Le c'∧intR.sl c' u ((Q2K y.b.fin).map fun k:Nat=>(k:Int))∧St c' w' L:=by
 obtain ⟨vp,v1,v2,v3,v4,v5,rfl,g1,g2,g3,g4,g5,g6,g7⟩:=Q1x hy
 all_goals refine lgo tyD Tryz.func145 ?_
 all_goals (refine Zaw ?_;intro p1 w1 hS;refine Zab ?_;refine Zbt ?_;refine ZbF ?_;refine zl hS ?_;refine Zcu ?_;refine Zaa ?_)
 all_goals (first|(refine Qp ?_)|(refine Qu ?_)|(refine Q7 rfl rfl (fun hc=>?_) (fun hc=>?_)))
 all_goals (refine Zab ?_)
 all_goals
  first
  | (refine zcf ?_
     all_goals (refine Zaa ?_)
     all_goals (first|(refine Qp ?_)|(refine Qu ?_)|(refine Q7 rfl rfl (fun hc=>?_) (fun hc=>?_)))
     all_goals (refine Zab ?_)
     all_goals
      first
      | (refine zcf ?_
         all_goals refine zsk ?_)
      | (refine zct ?_
         all_goals (refine Zaa ?_;refine ZbF ?_;refine ZbK ?_;refine ZbF ?_;refine ZbK ?_;refine zB2 hS [_,_] ?_;intro b1 w1 hS;refine ZaB ?_)
         all_goals (first|(have e:Q2K y.b.fin=[y.b.fin.yes.block.toNat]:=(by unfold Q2K;rw [if_pos (by omega)]);obtain ⟨c3,hle3,hS,hl3⟩:=Q7b (l:=[y.b.fin.yes.block]) hS rfl rfl (by simp);exact ⟨_,rfl,c3,hle3,(by rw [e];simp only [List.map_cons,List.map_nil];rw [Int.toNat_of_nonneg (h1 (by omega))];exact hl3),hS.sp⟩)|(have e:Q2K y.b.fin=[y.b.fin.yes.block.toNat,y.b.fin.no.block.toNat]:=(by unfold Q2K;rw [if_neg (by omega),if_pos (by omega)]);obtain ⟨c3,hle3,hS,hl3⟩:=Q7b (l:=[y.b.fin.yes.block,y.b.fin.no.block]) hS rfl rfl (by simp);exact ⟨_,rfl,c3,hle3,(by rw [e];simp only [List.map_cons,List.map_nil];rw [Int.toNat_of_nonneg (h1 (by omega)),Int.toNat_of_nonneg (h2 (by omega))];exact hl3),hS.sp⟩))))
  | (refine zct ?_
     all_goals (refine Zaa ?_;refine ZbF ?_;refine ZbK ?_;refine zB1 hS [_] ?_;intro b1 w1 hS;refine ZaB ?_)
     all_goals (have e:Q2K y.b.fin=[y.b.fin.yes.block.toNat]:=(by unfold Q2K;rw [if_pos (by omega)]);obtain ⟨c3,hle3,hS,hl3⟩:=Q7b (l:=[y.b.fin.yes.block]) hS rfl rfl (by simp);exact ⟨_,rfl,c3,hle3,(by rw [e];simp only [List.map_cons,List.map_nil];rw [Int.toNat_of_nonneg (h1 (by omega))];exact hl3),hS.sp⟩))
 all_goals (refine Zas ?_;(first|(have e:Q2K y.b.fin=[y.b.fin.yes.block.toNat]:=(by unfold Q2K;rw [if_pos (by omega)]);obtain ⟨c3,hle3,hS,hl3⟩:=Q7b (l:=[y.b.fin.yes.block]) hS rfl rfl (by simp);exact ⟨_,rfl,c3,hle3,(by rw [e];simp only [List.map_cons,List.map_nil];rw [Int.toNat_of_nonneg (h1 (by omega))];exact hl3),hS.sp⟩)|(have e:Q2K y.b.fin=[y.b.fin.yes.block.toNat,y.b.fin.no.block.toNat]:=(by unfold Q2K;rw [if_neg (by omega),if_pos (by omega)]);obtain ⟨c3,hle3,hS,hl3⟩:=Q7b (l:=[y.b.fin.yes.block,y.b.fin.no.block]) hS rfl rfl (by simp);exact ⟨_,rfl,c3,hle3,(by rw [e];simp only [List.map_cons,List.map_nil];rw [Int.toNat_of_nonneg (h1 (by omega)),Int.toNat_of_nonneg (h2 (by omega))];exact hl3),hS.sp⟩)|(have e:Q2K y.b.fin=[]:=(by unfold Q2K;rw [if_neg (by omega),if_neg (by omega)]);exact ⟨_,rfl,cx,St.refl hS,(by rw [e];exact Rep.SR.nil _ _ _),hS.sp⟩)))
def slen (v:Value):Nat:=match v with
 | .slice _ n _=>n
 | _=>0
theorem St.slen {c:Cx}{i T es:Nat}{v:Value}{css:List (List Value)}(hS:St c w L) (hi:nth L i=some (sl T es v css)):slen v=css.length:=by
 obtain ⟨F,hr,_⟩:=hS.step hi
 obtain ⟨a,n,rfl⟩:=Sl.shape hr
 rfl
def NextC (P:Program) (g:FuncId) (cap:List Value) (adj:Nat→List Nat) (n:Nat) (cx:Cx) (r:Res):Prop:=
 ∀(k:Nat){c:Cx}{w:World}{M:List Res}{i:Nat},cx.Le c→k<n→nth M i=some r→St c w M→Rets P g ([.int .i64 k]++cap) w fun u w'=>∃c',c.Le c'∧intR.sl c' u ((adj k).map fun k:Nat=>(k:Int))∧St c' w' M
theorem walk_c {n:Nat}{adj:Nat→List Nat}{g:FuncId}{cap:List Value}{D:Nat}{r:Res}(h0:0<n) (h12:n≤12) (ha:∀b<n,∀k∈adj b,k<n) (hD:∀b,(adj b).length≤D) (hDm:D≤100000000) (hg:Q2z Tryz.prog g=true) (hn:NextC Tryz.prog g cap adj n cx r) (hS:St cx w (r::L)):
 Rets Tryz.prog Qcu [.int .i64 n, .func (.func g) #[] ⟨cap⟩] w fun u w'=>∃c',cx.Le c'∧St c' w' (sl 3 1 u (((idxs (Q2s adj n)).map fun k:Nat=>(k:Int)).map QX)::r::L):=by
 have hmul:n*(D+1)≤12*(D+1):=Nat.mul_le_mul_right _ h12
 all_goals refine lgo tyD Tryz.func86 ?_
 all_goals (refine ZbQ ?_;refine Q87 Q3Z hS rfl rfl (by omega) (by omega) ?_;intro vs w1 hS;rw [Int.toNat_natCast,show List.replicate n [Value.bool false]=(List.replicate n false).map Qi by rw [List.map_replicate];rfl] at hS;refine Zab ?_;refine Zaa ?_;refine zB1 hS [_] ?_;intro b1 w1 hS;refine Zab ?_;refine Zaf ?_;refine Zal ?_;have hS:=St.slOf (es:=1) (n:=1) (css:=[(0:Int)].map QX) hS rfl (by intro c hc;simp at hc;subst hc;rfl) rfl;have hS:=hS.nil (T:=3) (es:=1))
 refine zo [1] (fun A ρ' w'=>∃(k0:Cx) (seen:List Bool) (todo out:List Int) (vs vt vo:Value),Has ρ' A∧Has ρ' [(5,vs),(6,vt),(7,vo)]∧(cx.Le k0)∧(WI adj n seen todo out)∧((n - out.length)*(D+1)+todo.length≤n*(D+1)+1)∧St k0 w' (sl 4 1 vs (seen.map Qi)::sl 3 1 vt (todo.map QX)::sl 3 1 vo (out.map QX)::r::L)) (fun ρ' _=>(n - slen (ρ' 7))*(D+1)+slen (ρ' 6)) ?_ ?_
 · exact ⟨cx,List.replicate n false,[0],[],vs,_, .slice none 0 0,zh,zh,St.refl hS,WI.begin h0,(by simp),hS.sp⟩
 rintro ρ w1 ⟨k0,seen,todo,out,vs,vt,vo,hA,hρ,hle2,hW,hsz,hS⟩;obtain ⟨ρ,rfl⟩:=env2 hA hρ;have hL0:=hle2;have hslt:=St.slen hS (i:=1) rfl;have hslo:=St.slen hS (i:=2) rfl;have hW1:=hW.le;rw [List.length_map] at hslt hslo;have hlsn:=hW.len
 all_goals (refine Zan ?_;refine QcM hS rfl (i:=1) rfl ?_;rw [List.length_map];refine Q5j rfl rfl ?_;refine zn ?_)
 refine Q5 rfl (fun hc=>?_) (fun hc=>?_)
 · skip
   all_goals (refine zsk ?_;refine Q3F ?_;refine QJ ?_)
   all_goals (rcases todo with _|⟨z,t⟩;(exfalso;simp at hc);obtain ⟨k,rfl,hkn,hks⟩:=hW.head ha h0;obtain ⟨bv,hbv⟩:∃b,seen[k]?=some b:=⟨_,List.getElem?_eq_getElem hks⟩;have hlt1:((k:Int)::t).length=t.length+1:=rfl)
   all_goals (refine Zag ?_;refine QY (m:=0) hS rfl rfl (i:=1) rfl (by simp) ?_;intro b8 o8 hl8;refine QI (j:=0) hS hl8 rfl (i:=1) rfl rfl rfl rfl ?_;refine ZaW ?_;refine s_subE (l':=1) (h':=(((k:Int)::t).map QX).length) hS rfl (i:=1) rfl rfl rfl ⟨_,rfl⟩ (Nat.le_refl _) (by simp) ?_;intro v7 hS;rw [List.take_length] at hS;have hS:St k0 _ (sl 4 1 vs (seen.map Qi)::sl 3 1 v7 (t.map QX)::sl 3 1 vo (out.map QX)::r::L):=hS;have hS:=hS.ns;refine Zab ?_;refine ZaG ?_;refine QY (m:=k) hS rfl rfl (i:=0) rfl (by rw [List.length_map];omega) ?_;intro b9 o9 hl9)
   all_goals (refine QI (j:=0) hS hl9 rfl (i:=0) rfl rfl (by rw [List.getElem?_map,hbv];rfl) rfl ?_;cases bv)
   all_goals (refine Zbo ?_)
   all_goals
    first
    | (refine zct ?_
       all_goals (refine QJ ?_;have hWn:=hW.take hbv;have h9:=hWn.le;rw [List.length_append,List.length_singleton] at h9;obtain ⟨e9,he9⟩:∃e,n - out.length=e+1:=⟨n - out.length - 1,by omega⟩;have hmul9:=Nat.succ_mul e9 (D+1);rw [←Nat.add_one,←he9] at hmul9;refine Zbc ?_;refine QY (m:=k) hS rfl rfl (i:=0) rfl (by rw [List.length_map];omega) ?_;intro b9 o9 hl9;refine Q1m (j:=0) (css':=(seen.set k true).map Qi) hS hl9 rfl rfl (i:=0) rfl rfl (by rw [List.getElem?_map,hbv];rfl) (by decide) rfl (by rw [List.map_set];rfl) ?_;intro w9 hS;have hS:=hS.ns;refine zn ?_;refine ZaG ?_;refine zB1 hS [_] ?_;intro b1 w1 hS;refine Q3G Q3a (.inl Q61) hS vw vw fd (hS.srcB1 fd rfl) (by simp;omega) ?_;intro vp w2 hS;have hS:=hS.ns;rw [show out.map QX++[[Value.int .i64 k]]=(out++[(k:Int)]).map QX by rw [List.map_append];rfl] at hS;refine Zab ?_;refine Zbc ?_;refine zm ?_)
       all_goals (refine s_retsvc rfl hg rfl (hn k (i:=4) (by assumption) hkn rfl hS) ?_;rintro v1 w1 ⟨c3,hle2,hl3,hS⟩;(try have hL0:=hL0.trans hle2))
       all_goals (have hDk:=hD k;refine Q3G Q3a (.inl Q61) hS vw vw fd (hl3.ints.src hS Qdy) (by simp;omega) ?_;intro vq w3 hS;have hS:=hS.ns;rw [←List.map_append] at hS;refine zm ?_)
       all_goals refine zn ?_)
    | (refine zcf ?_
       all_goals refine zsk ?_)
   all_goals ((first|(exact ⟨⟨_,seen,t,out,vs,v7,vo,zh,zh,hL0,hW.skip hbv,(by omega),hS.sp⟩,(by (have h7:=St.slen hS (v:=v7) (i:=1) rfl;rw [List.length_map] at h7;show (n - slen vo)*(D+1)+slen v7<(n - slen vo)*(D+1)+slen vt;omega))⟩)|(exact ⟨⟨_,seen.set k true,_,_,vs,vq,vp,zh,zh,hL0,hWn,(by have hDk:=hD k;rw [List.length_append,List.length_append,List.length_map,List.length_singleton,show n - (out.length+1)=e9 by omega];omega),hS.sp⟩,(by first|(have h7:=St.slen hS (v:=v7) (i:=1) rfl;rw [List.length_map] at h7;show (n - slen vo)*(D+1)+slen v7<(n - slen vo)*(D+1)+slen vt;omega)|(have hq:=St.slen hS (v:=vq) fd;have hp:=St.slen hS (v:=vp) fd;have hDk:=hD k;rw [List.length_map,List.length_append,List.length_map] at hq;rw [List.length_map,List.length_append,List.length_singleton] at hp;show (n - slen vp)*(D+1)+slen vq<(n - slen vo)*(D+1)+slen vt;rw [hp,hq,hslo,hslt,show n - (out.length+1)=e9 by omega];omega))⟩)))
 · skip
   all_goals (refine zex ?_;refine Zae ?_)
   all_goals (obtain rfl:todo=[]:=(by cases todo with|nil=>rfl|cons z t=>exfalso;simp at hc);refine zR1 (c:=sort_c (by omega) hS.drop.drop) (h:=?_);rintro v1 w1 ⟨l',ho',hd',hm',hl',hS⟩)
   all_goals (refine zn ?_;refine Zbk ?_;exact ⟨_,rfl,k0,hL0,(by rw [←hW.sorted ha h0 ho' (hd' hW.dif) hm'];exact hS)⟩)
end Go.Proofs.YteflkifmgnpbhaaGreat
namespace Go.Lir
def renH (ks:List Bool) (y:BlkH):BlkH:={y with b:=renB ks y.b}
def FunH.trim (f:FunH):FunH:={f with blocks:=(pick (Q2M (f.blocks.map (·.b))) f.blocks).map (renH (Q2M (f.blocks.map (·.b))))}
theorem FunH.trim_to (f:FunH):f.trim.to=f.to.trim:=by
 unfold FunH.trim FunH.to Fun.trim Q7t
 simp only [List.map_map,Q8h]
 rfl
theorem Q7N {c:Cx}{x:BlkH}{ks:List Bool}{vp v1 v2 v3 v4 v5:Value}{ny nn:Int}(h1:tyR.sl c vp x.b.params) (h2:oneC x.v=true) (h3:intR.sl c v1 x.b.fin.yes.regs) (h4:intR.sl c v2 x.b.fin.yes.args) (h5:intR.sl c v3 x.b.fin.no.regs) (h6:intR.sl c v4 x.b.fin.no.args) (h7:intR.sl c v5 x.b.fin.args)
 (hy:ny=if x.b.fin.op≠3 then (num ks x.b.fin.yes.block.toNat:Int) else x.b.fin.yes.block) (hn:nn=if x.b.fin.op=2 then (num ks x.b.fin.no.block.toNat:Int) else x.b.fin.no.block):
 blkhR.at c [.int .i64 x.b.regs,vp,x.v, .int .i64 x.b.fin.op, .int .i64 x.b.fin.a, .int .i64 ny,v1,v2, .int .i64 nn,v3,v4,v5] (renH ks x):=by
 obtain ⟨⟨r,p,co,⟨op,a,yes,no,args⟩⟩,v,q⟩:=x
 subst hy hn
 have e:renH ks ⟨⟨r,p,co,⟨op,a,yes,no,args⟩⟩,v,q⟩=⟨⟨r,p,co,⟨op,a,⟨if op≠3 then (num ks yes.block.toNat:Int) else yes.block,yes.regs,yes.args⟩,⟨if op=2 then (num ks no.block.toNat:Int) else no.block,no.regs,no.args⟩,args⟩⟩,v,q⟩:=by
  unfold renH renB renE numT
  by_cases h3:op≠3<;>by_cases h2:op=2<;>simp [h3,h2]
 rw [e]
 exact Q8F (x:=⟨⟨r,p,co,⟨op,a,⟨if op≠3 then (num ks yes.block.toNat:Int) else yes.block,yes.regs,yes.args⟩,⟨if op=2 then (num ks no.block.toNat:Int) else no.block,no.regs,no.args⟩,args⟩⟩,v,q⟩) h1 h2 h3 h4 h5 h6 h7
end Go.Lir
namespace Go.Proofs.YteflkifmgnpbhaaGreat
open Go.Lir
set_option maxHeartbeats 1000000
attribute [local irreducible] LC.wp Q0 QB QH retQ Q1k LO.wp Qh Calls
set_option linter.unusedSimpArgs false
set_option linter.unusedVariables false
attribute [local irreducible] Q2M Q2s pick idxs
variable {cx:Cx}{w:World}{L:List Res}
theorem next1_c {f:FunH}{p:Nat}{vp vr vb:Value}(hok:FOk (f.blocks.map (·.b))) (hb:blkhR.sl cx vb f.blocks):NextC Tryz.prog Q4N [.pointer (some ⟨p,0,none⟩)] (bAdj (f.blocks.map (·.b))) f.blocks.length cx (blk p 95 [.int .i64 f.regs,vp,vr,vb]):=by
 intro k cx w L i hle hk hi hS
 have hb:=hb.up hle
 show Rets Tryz.prog Q4N [.int .i64 k, .pointer (some ⟨p,0,none⟩)] w _
 all_goals refine lgo tyD Tryz.func144 ?_
 all_goals (refine Zaf ?_;refine Zaa ?_;refine zf0 ?_;refine Q5i hS rfl hi rfl ?_;refine zm ?_;refine Q11 (m:=k) vw rfl hb rfl hk ?_;intro b1 o1 cs1 x1 hat1 hx1 he1;have he9:=he1;obtain ⟨w1,w2,w3,w4,w5,w6,rfl, -⟩:=Q1x he1;refine Yaf ?_)
 all_goals (have hx9:(f.blocks.map (·.b))[k]?=some x1.b:=(by rw [List.getElem?_map,hx1];rfl);have hm9:=List.mem_of_getElem? hx9;refine zR1 (c:=leads_c (hok.op _ hm9) (fun h=>(hok.yes _ hm9 h).1) (fun h=>(hok.no _ hm9 h).1) he9 hS) (h:=?_);rintro v1 w1 ⟨c3,hle3,hl3,hS⟩)
 all_goals (refine ZaB ?_;exact ⟨_,rfl,c3,hle3,(by rw [Q4I hx9];exact hl3),hS.sp⟩)
theorem blocks_c {f:FunH}{cs:List Value}(hok:FOk (f.blocks.map (·.b))) (hf:funhR.at cx cs f) (hS:St cx w L):Rets Tryz.prog Q9X [.agg ⟨cs⟩] w fun u w'=>∃c' ds,u= .agg ⟨ds⟩∧cx.Le c'∧funhR.at c' ds f.trim∧St c' w' L:=by
 obtain ⟨vp,vr,vb,rfl,hp,hr,hb⟩:=Q39 hf
 obtain ⟨a0,n0,rfl⟩:=Rep.SR.shape hb
 have hone:=hok.one
 have ovp:=hp.oneC
 have ovr:=hr.oneC
 have hfew:=hok.few
 rw [List.length_map] at hone hfew
 have hkl:(Q2M (f.blocks.map (·.b))).length=f.blocks.length:=by rw [Q9b,List.length_map]
 have hil:=Qbi hkl
 have hpl:=Q2n (Q2M (f.blocks.map (·.b))) f.blocks
 have hle:=St.refl hS
 have ekb:Q2s (bAdj (f.blocks.map (·.b))) f.blocks.length=Q2M (f.blocks.map (·.b)):=by unfold Q2M;rw [List.length_map]
 generalize hKs:Q2M (f.blocks.map (·.b))=Ks at*
 generalize hI:idxs Ks=I at*
 have hZ:f.trim.blocks=(pick Ks f.blocks).map (renH Ks):=by unfold FunH.trim;rw [hKs]
 have hZl:f.trim.blocks.length=I.length:=by rw [hZ,List.length_map,hil]
 have hsort:∀k,k∈I↔Ks[k]?=some true:=fun k=>by rw [←hI];exact Q8r Ks k
 all_goals refine lgo tyD Tryz.func85 ?_
 all_goals (refine Zaw ?_;intro p1 w1 hS;refine Qb hS ?_;intro p2 w1 hS;refine ZbP ?_;refine zL ?_;refine Q8V ?_)
 all_goals (refine zR2 (c:=walk_c (n:=f.blocks.length) (D:=2) (adj:=bAdj (f.blocks.map (·.b))) (by omega) hfew (by have:=hok.lt;rw [List.length_map] at this;exact this) bAdj_few (by decide) (by kernel_rfl) (next1_c hok hb) (hS.out fd)) (h:=?_);rintro v1 w1 ⟨c1,hle2,hS⟩;(try have hle:=hle.trans hle2);(try have hf:=hf.up hle2);(try have hp:=hp.up hle2);(try have hr:=hr.up hle2);(try have hb:=hb.up hle2);rw [ekb,hI] at hS;obtain ⟨c2,hle2,hS2,hl⟩:=St.freezeL (r:=intR) hS (Q8q _) rfl (by simp;omega);(try have hle:=hle.trans hle2);(try have hf:=hf.up hle2);(try have hp:=hp.up hle2);(try have hr:=hr.up hle2);(try have hb:=hb.up hle2);obtain ⟨a5,n5,e5⟩:=Rep.SR.shape hl;rw [List.length_map] at e5;subst e5;have hS:St c2 _ (blk p1 95 [.int .i64 f.regs,vp,vr, .slice a0 f.blocks.length n0]::blk p2 95 [.int .i64 0, .slice none 0 0, .slice none 0 0, .slice none 0 0]::L):=hS2)
 all_goals (refine Zab ?_;refine ZaF ?_;refine Qb hS ?_;intro p4 w1 hS;refine zsn hS ?_;intro w1 hS;have hS:=hS.ns;refine zn ?_;refine Zaa ?_;refine Zbf ?_;intro w1 hS;have hS:=hS.ns;refine zn ?_;refine Zan ?_;refine Zbi ?_)
 refine zo [1,2,3,4,15,16] (fun A ρ' w'=>∃(k0:Cx) (j:Nat) (ub:Value) (css:List (List Value)),Has ρ' A∧Has ρ' [(17, .int .i64 j)]∧(c2.Le k0)∧(j≤I.length)∧(blkhR.ls k0 css (f.trim.blocks.take j))∧(oneC ub=true)∧St k0 w' (sl 92 12 ub css::blk p4 95 [.int .i64 f.regs,vp,vr,ub]::blk p1 95 [.int .i64 f.regs,vp,vr, .slice a0 f.blocks.length n0]::blk p2 95 [.int .i64 0, .slice none 0 0, .slice none 0 0, .slice none 0 0]::L)) (fun ρ' _=>(I.length - iv (ρ' 17)).toNat) ?_ ?_
 · exact ⟨c2,0, .slice none 0 0,[],zh,zh,St.refl hS,(by omega),Rep.LR.nil _ _ _,rfl,by have hS:=hS.nil (T:=92) (es:=12);exact hS.sp⟩
 rintro ρ w1 ⟨k0,j,ub,css,hA,hρ,hle2,hj,hls,hub,hS⟩;obtain ⟨ρ,rfl⟩:=env2 hA hρ;have hL0:=hle2;(try have hle:=hle.trans hle2);(try have hl:=hl.up hle2);(try have hf:=hf.up hle2);(try have hp:=hp.up hle2);(try have hr:=hr.up hle2);(try have hb:=hb.up hle2);have hoo:=And.intro ovr hub;have hoo2:=And.intro ovp hoo
 all_goals (refine ZaV ?_)
 refine Q5 rfl (fun hc=>?_) (fun hc=>?_)
 · skip
   all_goals (refine ZbT ?_;intro b1 o1 cs1 x1 hat1 hx1 he1;obtain rfl:=Qt he1;refine Yan ?_;refine Zab ?_)
   all_goals (obtain ⟨k,hk,rfl⟩:∃k:Nat,I[j]?=some k∧(k:Int)=x1:=(by rw [List.getElem?_map] at hx1;cases e:I[j]? with|none=>rw [e] at hx1;cases hx1|some k=>rw [e] at hx1;exact ⟨k,rfl,by simpa using hx1⟩);have hj9:=(List.getElem?_eq_some_iff.1 hk).1;have hkt:=(hsort k).1 (List.mem_of_getElem? hk);have hkn:=(List.getElem?_eq_some_iff.1 hkt).1)
   all_goals (refine Zao ?_;refine zm ?_;refine Q11 (m:=k) vw rfl hb rfl (by omega) ?_;intro b2 o2 cs2 x2 hat2 hx2 he2;obtain ⟨vp2,ve21,ve22,ve23,ve24,ve25,rfl,hp2,ho2,he21,he22,he23,he24,he25⟩:=Q1x he2;have hx9:(f.blocks.map (·.b))[k]?=some x2.b:=(by rw [List.getElem?_map,hx2];rfl);have hm9:=List.mem_of_getElem? hx9;have hzj:f.trim.blocks[j]?=some (renH Ks x2):=(by rw [hZ,List.getElem?_map,Qd9 hkl (by rw [hI];exact hk),hx2];rfl);rw [←hKs] at hkt;have hyk:=hok.yes_kept hx9 hkt;have hnk:=hok.no_kept hx9 hkt;rw [hKs] at hyk hnk;have hy0:=hok.yes _ hm9;have hn0:=hok.no _ hm9;refine ZaC ?_;intro p7 w1 hS;refine zsn hS ?_;intro w1 hS;have hS:=hS.ns;refine Zbe ?_;refine Zaa ?_;refine ZbF ?_;refine zl hS ?_)
   all_goals (first|(refine Qy ?_)|(refine Qz ?_)|(refine Qa rfl rfl (fun hc=>?_) (fun hc=>?_)))
   all_goals (refine zn ?_)
   all_goals
    first
    | (refine zcf ?_
       all_goals (have h31:=hc)
       all_goals refine zsk ?_)
    | (refine zct ?_
       all_goals (have h31:=hc;refine Zag ?_;refine ZbF ?_;refine ZbK ?_;have hfy:=Q7d (hyk (by omega));rw [hI,Int.toNat_of_nonneg (hy0 (by omega)).1] at hfy;refine zR2 (c:=Qax hl (by rw [List.length_map];omega) hS) (h:=?_);rintro v1 w1 ⟨rfl,hS⟩;rw [hfy];refine ZbF ?_;refine Yae ?_;refine zst hS ?_;intro w1 hS;have hS:=hS.ns)
       all_goals refine zn ?_)
   all_goals (refine Zbt ?_;refine ZbF ?_;refine zl hS ?_)
   all_goals (first|(refine Qp ?_)|(refine Qu ?_)|(refine Q7 rfl rfl (fun hc=>?_) (fun hc=>?_)))
   all_goals (refine zn ?_)
   all_goals
    first
    | (refine zct ?_
       all_goals (have h22:=hc;refine Zag ?_;refine ZbF ?_;refine ZbK ?_;have hfn:=Q7d (hnk (by omega));rw [hI,Int.toNat_of_nonneg (hn0 (by omega)).1] at hfn;refine zR2 (c:=Qax hl (by rw [List.length_map];omega) hS) (h:=?_);rintro v1 w1 ⟨rfl,hS⟩;rw [hfn];refine ZbF ?_;refine Yae ?_;refine zst hS ?_;intro w1 hS;have hS:=hS.ns)
       all_goals refine zn ?_)
    | (refine zcf ?_
       all_goals (have h22:=hc)
       all_goals refine zsk ?_)
   all_goals ((first|(have hk9:=Q7N (c:=k0) (x:=x2) (ks:=Ks) (ny:=(num Ks x2.b.fin.yes.block.toNat:Int)) (nn:=(num Ks x2.b.fin.no.block.toNat:Int)) hp2 ho2 he21 he22 he23 he24 he25 (if_pos h31).symm (if_pos h22).symm)|(have hk9:=Q7N (c:=k0) (x:=x2) (ks:=Ks) (ny:=(num Ks x2.b.fin.yes.block.toNat:Int)) (nn:=x2.b.fin.no.block) hp2 ho2 he21 he22 he23 he24 he25 (if_pos h31).symm (if_neg h22).symm)|(have hk9:=Q7N (c:=k0) (x:=x2) (ks:=Ks) (ny:=x2.b.fin.yes.block) (nn:=x2.b.fin.no.block) hp2 ho2 he21 he22 he23 he24 he25 (if_neg h31).symm (if_neg (show¬x2.b.fin.op=2 by omega)).symm));refine ZbA ?_;refine zB1 hS [_,_,_,_,_,_,_,_,_,_,_,_] ?_;intro b1 w1 hS;refine za Q7h Q9T hS ?_;intro vp1 w1 css1 hls1 hv1 hS;have hS:=hS.ns;refine Zbf ?_;intro w1 hS;have hS:=hS.ns;refine ZbO ?_;exact ⟨⟨_,j+1,_,_,zh,zh,hL0,(by omega),(by rw [Qq hzj];assumption),by assumption,hS.sp⟩,Q4 (by omega)⟩)
 · skip
   all_goals (refine zex ?_;refine ZaF ?_;refine zsn hS ?_;intro w1 hS;have hS:=hS.ns;refine ZaY ?_;refine QK vw (Q3 (n:=4) (by kernel_rfl) (by kernel_rfl) (hS.blkAt fd) (by rfl) (by rfl)) ?_)
   all_goals (rw [List.length_map] at hc;obtain ⟨c6,hle2,hS,hk6⟩:=St.freezeL (r:=blkhR) (l:=f.trim.blocks) hS (by rw [List.take_of_length_le (by omega)] at hls;exact hls) rfl (by omega);(try have hle:=hle.trans hle2);(try have hL0:=hL0.trans hle2);(try have hl:=hl.up hle2);(try have hf:=hf.up hle2);(try have hls:=hls.up hle2);(try have hp:=hp.up hle2);(try have hr:=hr.up hle2);(try have hb:=hb.up hle2);exact ⟨_,rfl,c6,_,rfl,hle,⟨_,_,_,rfl,hp,hr,hk6⟩,hS.sp⟩)
end Go.Proofs.YteflkifmgnpbhaaGreat
namespace Go.Proofs.YteflkifmgnpbhaaGreat
open Go.Lir
set_option maxHeartbeats 1000000
attribute [local irreducible] LC.wp Q0 QB QH retQ Q1k LO.wp Qh Calls
set_option linter.unusedSimpArgs false
set_option linter.unusedVariables false
theorem QcV {x:Module}(hsm:x.Short){cx:Cx}{w:World}{L:List Res}{cs:List Value}(hx:modR.at cx cs x) (hS:St cx w L):Rets Tryz.prog Q7p [.agg ⟨cs⟩] w fun u w'=>∃c' ds,u= .agg ⟨ds⟩∧cx.Le c'∧modR.at c' ds x∧St c' w' L:=by
 obtain ⟨vf,rfl,hf⟩:=QP hx
 obtain ⟨l⟩:=x
 have hf:funcR.sl cx vf l:=hf
 have hsl:l.length≤100000:=hsm.1
 have hsm:∀f∈l,f.Short:=hsm.2
 have hle:=St.refl hS
 refine lgo tyD Tryz.func19 ?_;refine Zaw ?_;intro p1 w1 hS;refine Qb hS ?_;(intro p2 w1 hS);refine zn ?_;refine Zbz ?_;(intro p3 w1 hS);refine zn ?_;refine ZaI ?_
 refine zo [1,2,3] (fun A ρ' w'=>∃(k0:Cx) (j:Nat) (u:Value) (css:List (List Value)),Has ρ' A∧Has ρ' [(4, .int .i64 j)]∧(cx.Le k0)∧(j≤l.length)∧(funcR.ls k0 css (l.take j))∧(oneC u=true)∧St k0 w' (sl 95 4 u css::blk p3 24 [u]::blk p2 24 [.slice none 0 0]::blk p1 24 [vf]::L)) (fun ρ' _=>(l.length - iv (ρ' 4)).toNat) ?_ ?_
 · exact ⟨cx,0, .slice none 0 0,[],zh,zh,St.refl hS,(by omega),Rep.LR.nil _ _ _,rfl,by have hS:=hS.nil (T:=95) (es:=4);exact hS⟩
 rintro ρ w1 ⟨k0,j,u,css,hA,hρ,hle2,hj,hls,hu,hS⟩;obtain ⟨ρ,rfl⟩:=env2 hA hρ;have hL0:=hle2;(try have hle:=hle.trans hle2);(try have hf:=hf.up hle2)
 refine Zbl ?_
 refine Q5 rfl (fun hc=>?_) (fun hc=>?_)
 · skip
   refine ZbZ ?_;intro b1 o1 cs1 x1 hat1 hx1 he1;obtain ⟨vp1,vr1,vb1,rfl,hp1,hr1,hb1⟩:=Qo he1;refine ZaC ?_;intro p5 w1 hS;refine zsn hS ?_;intro w1 hS;have hS:=hS.ns;refine zn ?_;have hsh:=hsm x1 (List.mem_of_getElem? hx1);have hlb:=hsh.2.2.1
   have hJ6:=St.refl hS
   refine zML hS [1,2,3,4,5] (fun A LL ρ' w'=>∃(k6:Cx) (a1 a2:Option Addr) (n1 n2 p6:Nat),Has ρ' A∧Has ρ' [(6, .pointer (some ⟨p6,0,none⟩))]∧(k0.Le k6)∧(tyR.sl k6 (.slice a1 x1.params.length n1) x1.params)∧(tyR.sl k6 (.slice a2 x1.results.length n2) x1.results)∧St k6 w' (blk p6 95 [.int .i64 x1.regs, .slice a1 x1.params.length n1, .slice a2 x1.results.length n2, .slice none 0 0]::LL)) ?_ ?_
   · skip
     refine Q1F 4 9 (by kernel_rfl) ?_ ?_
     · skip
       refine Q1F 7 9 (by kernel_rfl) ?_ ?_
       · skip
         refine zC [(0,none),(1,none),(2,none),(3,none),(5,none),(6,none),(4,some (some [1,6])),(7,some (some [1])),(8,none),(9,some (some [1])),(10,some none)] ?_;have hS:=hS.drew;refine Zcq ?_;refine zR1 (c:=Q1P hsh.1.1 hsh.1.2 hp1 hS) (h:=?_);rintro v1 w1 ⟨c1,hle2,hk1,hS⟩;obtain ⟨a1,n1,rfl⟩:=Rep.SR.shape hk1;(try have hJ6:=hJ6.trans hle2);(try have hr1:=hr1.up hle2);refine ZaH ?_;refine zR1 (c:=Q1P hsh.2.1.1 hsh.2.1.2 hr1 hS) (h:=?_);rintro v1 w1 ⟨c2,hle2,hk2,hS⟩;obtain ⟨a2,n2,rfl⟩:=Rep.SR.shape hk2;(try have hJ6:=hJ6.trans hle2);(try have hk1:=hk1.up hle2);refine ZaM ?_;refine zb3 [_,_,_,_] ?_;refine ZaO ?_;intro p6 w1 hS;refine ZaZ ?_;refine zsn hS ?_;intro w1 hS;have hS:=hS.ns;refine ZaA ?_;(exact ⟨_,a1,a2,n1,n2,p6,zh,zh,hJ6,by assumption,by assumption,hS.sp⟩)
       · skip
         refine zC [(0,none),(1,none),(2,none),(3,none),(5,none),(6,none),(4,some (some [1,6])),(9,some (some [1,6])),(7,some (some [1])),(8,none),(10,some none)] ?_;have hS:=hS.drew;refine Zcq ?_;refine zR1 (c:=Q1P hsh.1.1 hsh.1.2 hp1 hS) (h:=?_);rintro v1 w1 ⟨c1,hle2,hk1,hS⟩;obtain ⟨a1,n1,rfl⟩:=Rep.SR.shape hk1;(try have hJ6:=hJ6.trans hle2);(try have hr1:=hr1.up hle2);refine ZaH ?_;refine Qb hS ?_;intro p6 w1 hS;refine ZaH ?_;refine zR1 (c:=Q1P hsh.2.1.1 hsh.2.1.2 hr1 hS) (h:=?_);rintro v1 w1 ⟨c2,hle2,hk2,hS⟩;obtain ⟨a2,n2,rfl⟩:=Rep.SR.shape hk2;(try have hJ6:=hJ6.trans hle2);(try have hk1:=hk1.up hle2);refine ZaM ?_;refine zb3 [_,_,_,_] ?_;refine ZaE ?_;refine zsn hS ?_;intro w1 hS;have hS:=hS.ns;refine ZaA ?_;(exact ⟨_,a1,a2,n1,n2,p6,zh,zh,hJ6,by assumption,by assumption,hS.sp⟩)
     · skip
       refine zC [(0,none),(1,none),(2,none),(3,none),(5,none),(6,none),(9,some (some [1,3,6])),(4,some (some [1,6])),(7,some (some [1])),(8,none),(10,some none)] ?_;have hS:=hS.drew;refine Zby ?_;refine Zam ?_;refine ZaO ?_;intro p6 w1 hS;refine ZaH ?_;refine zR1 (c:=Q1P hsh.1.1 hsh.1.2 hp1 hS) (h:=?_);rintro v1 w1 ⟨c1,hle2,hk1,hS⟩;obtain ⟨a1,n1,rfl⟩:=Rep.SR.shape hk1;(try have hJ6:=hJ6.trans hle2);(try have hr1:=hr1.up hle2);refine ZaH ?_;refine zR1 (c:=Q1P hsh.2.1.1 hsh.2.1.2 hr1 hS) (h:=?_);rintro v1 w1 ⟨c2,hle2,hk2,hS⟩;obtain ⟨a2,n2,rfl⟩:=Rep.SR.shape hk2;(try have hJ6:=hJ6.trans hle2);(try have hk1:=hk1.up hle2);refine ZaM ?_;refine zb3 [_,_,_,_] ?_;refine ZaE ?_;refine zsn hS ?_;intro w1 hS;have hS:=hS.ns;refine ZaA ?_;(exact ⟨_,a1,a2,n1,n2,p6,zh,zh,hJ6,by assumption,by assumption,hS.sp⟩)
   rintro ρ w1 ⟨k6,a1,a2,n1,n2,p6,hA,hρ,hle2,hk1,hk2,hS⟩;obtain ⟨ρ,rfl⟩:=env2 hA hρ;(try have hle:=hle.trans hle2);(try have hL0:=hL0.trans hle2);(try have hJ6:=hJ6.trans hle2);(try have hf:=hf.up hle2);(try have hp1:=hp1.up hle2);(try have hr1:=hr1.up hle2);(try have hb1:=hb1.up hle2);(try have he1:=he1.up hle2);(try have hls:=hls.up hle2)
   refine ZaI ?_
   refine zo [1,2,3,4,5,6] (fun A ρ' w'=>∃(k1:Cx) (i:Nat) (ub:Value) (cssB:List (List Value)),Has ρ' A∧Has ρ' [(7, .int .i64 i)]∧(k6.Le k1)∧(i≤x1.blocks.length)∧(blockR.ls k1 cssB (x1.blocks.take i))∧(oneC ub=true)∧St k1 w' (sl 92 12 ub cssB::blk p6 95 [.int .i64 x1.regs, .slice a1 x1.params.length n1, .slice a2 x1.results.length n2,ub]::blk p5 95 [.int .i64 x1.regs,vp1,vr1,vb1]::sl 95 4 u css::blk p3 24 [u]::blk p2 24 [.slice none 0 0]::blk p1 24 [vf]::L)) (fun ρ' _=>(x1.blocks.length - iv (ρ' 7)).toNat) ?_ ?_
   · exact ⟨k6,0, .slice none 0 0,[],zh,zh,St.refl hS,(by omega),Rep.LR.nil _ _ _,rfl,by have hS:=hS.nil (T:=92) (es:=12);exact hS.sp⟩
   rintro ρ w1 ⟨k1,i,ub,cssB,hA,hρ,hle2,hi,hlsB,hub,hS⟩;obtain ⟨ρ,rfl⟩:=env2 hA hρ;have hL1:=hle2;(try have hle:=hle.trans hle2);(try have hL0:=hL0.trans hle2);(try have hJ6:=hJ6.trans hle2);(try have hf:=hf.up hle2);(try have hk1:=hk1.up hle2);(try have hk2:=hk2.up hle2);(try have hp1:=hp1.up hle2);(try have hr1:=hr1.up hle2);(try have hb1:=hb1.up hle2);(try have he1:=he1.up hle2);(try have hls:=hls.up hle2)
   refine Zbl ?_
   refine Q5 rfl (fun hc=>?_) (fun hc=>?_)
   · skip
     refine ZbZ ?_;intro b2 o2 cs2 x2 hat2 hx2 he2;obtain ⟨vp2,vc2,ve21,ve22,ve23,ve24,ve25,rfl,hp2,hc2,he21,he22,he23,he24,he25⟩:=QC he2;refine ZaC ?_;intro p8 w1 hS;refine zsn hS ?_;intro w1 hS;have hS:=hS.ns;refine zn ?_;have hsb:=hsh.2.2.2 x2 (List.mem_of_getElem? hx2);have hlc:=hsb.2.1
     have hJ10:=St.refl hS
     refine zML hS [1,2,3,4,5,6,7,8] (fun A LL ρ' w'=>∃(k10:Cx) (a3:Option Addr) (n3 p9:Nat),Has ρ' A∧Has ρ' [(9, .pointer (some ⟨p9,0,none⟩))]∧(k1.Le k10)∧(tyR.sl k10 (.slice a3 x2.params.length n3) x2.params)∧St k10 w' (blk p9 92 [.int .i64 x2.regs, .slice a3 x2.params.length n3, .slice none 0 0, .int .i64 0, .int .i64 0, .int .i64 0, .slice none 0 0, .slice none 0 0, .int .i64 0, .slice none 0 0, .slice none 0 0, .slice none 0 0]::LL)) ?_ ?_
     · skip
       refine Q1F 4 6 (by kernel_rfl) ?_ ?_
       · skip
         refine zC [(0,none),(1,none),(2,none),(3,none),(4,some (some [1])),(5,none),(6,some (some [1])),(7,some none)] ?_;have hS:=hS.drew;refine ZaR ?_;refine Zbn ?_;refine zR1 (c:=Q1P hsb.1.1 hsb.1.2 hp2 hS) (h:=?_);rintro v1 w1 ⟨c3,hle2,hk3,hS⟩;obtain ⟨a3,n3,rfl⟩:=Rep.SR.shape hk3;(try have hJ10:=hJ10.trans hle2);refine ZaM ?_;refine zb2 [_,_,_,_,_,_,_,_,_,_,_,_] ?_;refine ZaO ?_;intro p9 w1 hS;refine ZaZ ?_;refine zsn hS ?_;intro w1 hS;have hS:=hS.ns;refine ZaA ?_;(exact ⟨_,a3,n3,p9,zh,zh,hJ10,by assumption,hS.sp⟩)
       · skip
         refine zC [(0,none),(1,none),(2,none),(3,none),(6,some (some [1,3])),(4,some (some [1])),(5,none),(7,some none)] ?_;have hS:=hS.drew;refine ZaR ?_;refine Zam ?_;refine ZaO ?_;intro p9 w1 hS;refine ZaH ?_;refine zR1 (c:=Q1P hsb.1.1 hsb.1.2 hp2 hS) (h:=?_);rintro v1 w1 ⟨c3,hle2,hk3,hS⟩;obtain ⟨a3,n3,rfl⟩:=Rep.SR.shape hk3;(try have hJ10:=hJ10.trans hle2);refine ZaM ?_;refine zb2 [_,_,_,_,_,_,_,_,_,_,_,_] ?_;refine ZaE ?_;refine zsn hS ?_;intro w1 hS;have hS:=hS.ns;refine ZaA ?_;(exact ⟨_,a3,n3,p9,zh,zh,hJ10,by assumption,hS.sp⟩)
     rintro ρ w1 ⟨k10,a3,n3,p9,hA,hρ,hle2,hk3,hS⟩;obtain ⟨ρ,rfl⟩:=env2 hA hρ;(try have hle:=hle.trans hle2);(try have hL0:=hL0.trans hle2);(try have hL1:=hL1.trans hle2);(try have hJ6:=hJ6.trans hle2);(try have hJ10:=hJ10.trans hle2);(try have hf:=hf.up hle2);(try have hk1:=hk1.up hle2);(try have hk2:=hk2.up hle2);(try have hp1:=hp1.up hle2);(try have hr1:=hr1.up hle2);(try have hb1:=hb1.up hle2);(try have hp2:=hp2.up hle2);(try have hc2:=hc2.up hle2);(try have he21:=he21.up hle2);(try have he22:=he22.up hle2);(try have he23:=he23.up hle2);(try have he24:=he24.up hle2);(try have he25:=he25.up hle2);(try have he1:=he1.up hle2);(try have he2:=he2.up hle2);(try have hls:=hls.up hle2);(try have hlsB:=hlsB.up hle2)
     refine ZaI ?_
     refine zo [1,2,3,4,5,6,7,8,9] (fun A ρ' w'=>∃(k2:Cx) (k:Nat) (uc:Value) (cssC:List (List Value)),Has ρ' A∧Has ρ' [(10, .int .i64 k)]∧(k10.Le k2)∧(k≤x2.code.length)∧(insR.ls k2 cssC (x2.code.take k))∧(oneC uc=true)∧St k2 w' (sl 84 8 uc cssC::blk p9 92 [.int .i64 x2.regs, .slice a3 x2.params.length n3,uc, .int .i64 0, .int .i64 0, .int .i64 0, .slice none 0 0, .slice none 0 0, .int .i64 0, .slice none 0 0, .slice none 0 0, .slice none 0 0]::blk p8 92 [.int .i64 x2.regs,vp2,vc2, .int .i64 x2.fin.op, .int .i64 x2.fin.a, .int .i64 x2.fin.yes.block,ve21,ve22, .int .i64 x2.fin.no.block,ve23,ve24,ve25]::sl 92 12 ub cssB::blk p6 95 [.int .i64 x1.regs, .slice a1 x1.params.length n1, .slice a2 x1.results.length n2,ub]::blk p5 95 [.int .i64 x1.regs,vp1,vr1,vb1]::sl 95 4 u css::blk p3 24 [u]::blk p2 24 [.slice none 0 0]::blk p1 24 [vf]::L)) (fun ρ' _=>(x2.code.length - iv (ρ' 10)).toNat) ?_ ?_
     · exact ⟨k10,0, .slice none 0 0,[],zh,zh,St.refl hS,(by omega),Rep.LR.nil _ _ _,rfl,by have hS:=hS.nil (T:=84) (es:=8);exact hS.sp⟩
     rintro ρ w1 ⟨k2,k,uc,cssC,hA,hρ,hle2,hkk,hlsC,huc,hS⟩;obtain ⟨ρ,rfl⟩:=env2 hA hρ;have hL2:=hle2;(try have hle:=hle.trans hle2);(try have hL0:=hL0.trans hle2);(try have hL1:=hL1.trans hle2);(try have hJ6:=hJ6.trans hle2);(try have hJ10:=hJ10.trans hle2);(try have hf:=hf.up hle2);(try have hk1:=hk1.up hle2);(try have hk2:=hk2.up hle2);(try have hk3:=hk3.up hle2);(try have hp1:=hp1.up hle2);(try have hr1:=hr1.up hle2);(try have hb1:=hb1.up hle2);(try have hp2:=hp2.up hle2);(try have hc2:=hc2.up hle2);(try have he21:=he21.up hle2);(try have he22:=he22.up hle2);(try have he23:=he23.up hle2);(try have he24:=he24.up hle2);(try have he25:=he25.up hle2);(try have he1:=he1.up hle2);(try have he2:=he2.up hle2);(try have hls:=hls.up hle2);(try have hlsB:=hlsB.up hle2)
     refine Zbl ?_
     refine Q5 rfl (fun hc=>?_) (fun hc=>?_)
     · skip
       refine ZbZ ?_;intro b3 o3 cs3 x3 hat3 hx3 he3;obtain ⟨vr3,va3,rfl,hr3,ha3⟩:=QG he3;refine ZaC ?_;intro p11 w1 hS;refine zsn hS ?_;intro w1 hS;have hS:=hS.ns;refine Zbe ?_;have hsi:=hsb.2.2.1 x3 (List.mem_of_getElem? hx3);refine zC [(0,none),(1,none),(3,none),(4,none),(2,some (some [4])),(6,none),(5,some (some [])),(7,some none),(8,none),(9,some none)] ?_;have hS:=hS.drew;refine ZaR ?_;refine Zbn ?_;refine zR1 (c:=Q20 (by have:=hsi.1;omega) hr3 hS) (h:=?_);rintro v1 w1 ⟨c4,hle2,hk4,hS⟩;obtain ⟨a4,n4,rfl⟩:=Rep.SR.shape hk4;(try have hL2:=hL2.trans hle2);(try have ha3:=ha3.up hle2);(try have hlsC:=hlsC.up hle2);refine ZaM ?_;refine zf0 ?_;refine Zat ?_;refine zR1 (c:=Q20 (by have:=hsi.2;omega) ha3 hS) (h:=?_);rintro v1 w1 ⟨c5,hle2,hk5,hS⟩;obtain ⟨a5,n5,rfl⟩:=Rep.SR.shape hk5;(try have hL2:=hL2.trans hle2);(try have hk4:=hk4.up hle2);(try have hlsC:=hlsC.up hle2);refine ZaZ ?_;refine zst hS ?_;intro w1 hS;have hS:=hS.ns;refine Zch ?_;refine ZaE ?_;refine zst hS ?_;intro w1 hS;have hS:=hS.ns;refine ZaA ?_;have hk9:insR.at c5 _ x3:=⟨_,_,rfl,hk4,hk5⟩;refine ZbA ?_;refine zB1 hS [_,_,_,_,_,_,_,_] ?_;intro b1 w1 hS;refine za Qbq u_T85 hS ?_;intro vp1 w1 css1 hls1 hv1 hS;have hS:=hS.ns;refine Zbf ?_;intro w1 hS;have hS:=hS.ns;refine Zcj ?_;(exact ⟨⟨_,k+1,_,_,zh,zh,hL2,(by omega),by rw [Qq hx3];assumption,by assumption,hS.sp⟩,Q4 (by omega)⟩)
     · skip
       refine zex ?_;obtain ⟨c6,hle2,hS,hk6⟩:=St.freezeL (r:=insR) (l:=x2.code) hS (by rw [List.take_of_length_le (by omega)] at hlsC;exact hlsC) rfl (by have:=hsb.2.1;omega);obtain ⟨a6,n6,rfl⟩:=Rep.SR.shape hk6;(try have hL1:=hL1.trans hle2);(try have hk3:=hk3.up hle2);(try have he21:=he21.up hle2);(try have he22:=he22.up hle2);(try have he23:=he23.up hle2);(try have he24:=he24.up hle2);(try have he25:=he25.up hle2);(try have hlsB:=hlsB.up hle2);refine QJ ?_;refine zC [(0,none),(1,none),(2,none),(3,none),(4,none),(5,none),(6,none),(7,none),(8,none),(10,none),(11,none),(12,none),(14,none),(15,none),(16,none),(9,some (some [2,5,12,16])),(13,some (some [2,5,16])),(17,some (some [2,5])),(18,none),(19,none),(20,some none)] ?_;have hS:=hS.drew;refine s_cq ?_;refine Zah ?_;refine Zbh ?_;refine zl hS ?_;refine ZbR ?_;refine zl hS ?_;refine ZbR ?_;refine zv hS ?_;refine ZbR ?_;refine zv hS ?_;refine ZbR ?_;refine zl hS ?_;refine Zat ?_;refine zR1 (c:=Q6e (x:=x2.fin.yes) (by have:=hsb.2.2.2.1.1;omega) (by have:=hsb.2.2.2.1.2;omega) ⟨_,_,rfl,he21,he22⟩ hS) (h:=?_);rintro v1 w1 ⟨c7,ds,rfl,hle2,hk7,hS⟩;obtain ⟨y1,y2,rfl,hy1,hy2⟩:=Q1N hk7;obtain ⟨a7,n7,rfl⟩:=Rep.SR.shape hy1;obtain ⟨a8,n8,rfl⟩:=Rep.SR.shape hy2;(try have hL1:=hL1.trans hle2);(try have hk3:=hk3.up hle2);(try have hk6:=hk6.up hle2);(try have he23:=he23.up hle2);(try have he24:=he24.up hle2);(try have he25:=he25.up hle2);(try have hlsB:=hlsB.up hle2);refine ZaH ?_;refine zR1 (c:=Q6e (x:=x2.fin.no) (by have:=hsb.2.2.2.2.1.1;omega) (by have:=hsb.2.2.2.2.1.2;omega) ⟨_,_,rfl,he23,he24⟩ hS) (h:=?_);rintro v1 w1 ⟨c8,ds,rfl,hle2,hk8,hS⟩;obtain ⟨z1,z2,rfl,hz1,hz2⟩:=Q1N hk8;obtain ⟨a9,n9,rfl⟩:=Rep.SR.shape hz1;obtain ⟨a10,n10,rfl⟩:=Rep.SR.shape hz2;(try have hL1:=hL1.trans hle2);(try have hk3:=hk3.up hle2);(try have hk6:=hk6.up hle2);(try have he25:=he25.up hle2);(try have hy1:=hy1.up hle2);(try have hy2:=hy2.up hle2);(try have hlsB:=hlsB.up hle2);refine ZaH ?_;refine zR1 (c:=Q20 (by have:=hsb.2.2.2.2.2;omega) he25 hS) (h:=?_);rintro v1 w1 ⟨c9,hle2,hw1,hS⟩;obtain ⟨a11,n11,rfl⟩:=Rep.SR.shape hw1;(try have hL1:=hL1.trans hle2);(try have hk3:=hk3.up hle2);(try have hk6:=hk6.up hle2);(try have hy1:=hy1.up hle2);(try have hy2:=hy2.up hle2);(try have hz1:=hz1.up hle2);(try have hz2:=hz2.up hle2);(try have hlsB:=hlsB.up hle2);refine ZaM ?_;refine zb5 [_,_,_,_,_,_,_,_,_] ?_;refine Zch ?_;refine ZaE ?_;(first|(refine zsn hS ?_;intro w1 hS;have hS:=hS.ns)|(refine zsm hS ?_;intro w1 hS;have hS:=hS.ns));refine ZaA ?_;have hk9:blockR.at c9 _ x2:=Q3b (x:=x2) hk3 hk6 hy1 hy2 hz1 hz2 hw1;refine ZbA ?_;refine zB1 hS [_,_,_,_,_,_,_,_,_,_,_,_] ?_;intro b1 w1 hS;refine za Q7h Q9T hS ?_;intro vp2 w2 css2 hls2 hv2 hS;have hS:=hS.ns;refine Zbf ?_;intro w1 hS;have hS:=hS.ns;refine Zcj ?_;(exact ⟨⟨_,i+1,_,_,zh,zh,hL1,(by omega),by rw [Qq hx2];assumption,by assumption,hS.sp⟩,Q4 (by omega)⟩)
   · skip
     refine zex ?_;obtain ⟨c10,hle2,hS,hk6⟩:=St.freezeL (r:=blockR) (l:=x1.blocks) hS (by rw [List.take_of_length_le (by omega)] at hlsB;exact hlsB) rfl (by have:=hsh.2.2.1;omega);obtain ⟨a6,n6,rfl⟩:=Rep.SR.shape hk6;(try have hL0:=hL0.trans hle2);(try have hk1:=hk1.up hle2);(try have hk2:=hk2.up hle2);(try have hls:=hls.up hle2);have hk9:funcR.at c10 _ x1:=⟨_,_,_,rfl,hk1,hk2,hk6⟩;refine ZbA ?_;refine zB1 hS [_,_,_,_] ?_;intro b1 w1 hS;refine za Q7i Q9U hS ?_;intro vp3 w3 css3 hls3 hv3 hS;have hS:=hS.ns;refine Zbf ?_;intro w1 hS;have hS:=hS.ns;refine Zcj ?_;(exact ⟨⟨_,j+1,_,_,zh,zh,hL0,(by omega),by rw [Qq hx1];assumption,by assumption,hS.sp⟩,Q4 (by omega)⟩)
 · skip
   refine zex ?_;obtain ⟨c11,hle2,hS,hk6⟩:=St.freezeL (r:=funcR) (l:=l) hS (by rw [List.take_of_length_le (by omega)] at hls;exact hls) rfl (by omega);obtain ⟨a6,n6,rfl⟩:=Rep.SR.shape hk6;(try have hle:=hle.trans hle2);refine ZaF ?_;refine zsn hS ?_;intro w1 hS;have hS:=hS.ns;refine ZaY ?_;refine QK vw (Q3 (n:=1) (by kernel_rfl) (by kernel_rfl) (hS.blkAt fd) (by rfl) (by rfl)) ?_;(exact ⟨_,rfl,c11,_,rfl,hle,⟨_,rfl,hk6⟩,hS.sp⟩)
theorem Qd7 {x:Module}(hsm:x.Short){cx:Cx}{w:World}{L:List Res}{cs:List Value}(hx:modR.at cx cs x) (hS:St cx w L):Rets Tryz.prog Qbr [.agg ⟨cs⟩] w fun u w'=>∃c' ds,u= .agg ⟨ds⟩∧cx.Le c'∧modR.at c' ds x∧St c' w' L:=by
 obtain ⟨vf,rfl,hf⟩:=QP hx
 obtain ⟨l⟩:=x
 have hf:funcR.sl cx vf l:=hf
 have hsl:l.length≤100000:=hsm.1
 have hsm:∀f∈l,f.Short:=hsm.2
 have hle:=St.refl hS
 refine lgo tyD Tryz.func64 ?_;refine Zaw ?_;intro p1 w1 hS;refine Qb hS ?_;(intro p2 w1 hS);refine zn ?_;refine Zbz ?_;(intro p3 w1 hS);refine zn ?_;refine Zci ?_
 refine zo [2,3,13,14] (fun A ρ' w'=>∃(k0:Cx) (j:Nat) (u:Value) (css:List (List Value)),Has ρ' A∧Has ρ' [(15, .int .i64 j)]∧(cx.Le k0)∧(j≤l.length)∧(funcR.ls k0 css (l.take j))∧(oneC u=true)∧St k0 w' (sl 95 4 u css::blk p3 24 [u]::blk p2 24 [.slice none 0 0]::blk p1 24 [vf]::L)) (fun ρ' _=>(l.length - iv (ρ' 15)).toNat) ?_ ?_
 · exact ⟨cx,0, .slice none 0 0,[],zh,zh,St.refl hS,(by omega),Rep.LR.nil _ _ _,rfl,by have hS:=hS.nil (T:=95) (es:=4);exact hS⟩
 rintro ρ w1 ⟨k0,j,u,css,hA,hρ,hle2,hj,hls,hu,hS⟩;obtain ⟨ρ,rfl⟩:=env2 hA hρ;have hL0:=hle2;(try have hle:=hle.trans hle2);(try have hf:=hf.up hle2)
 refine ZaV ?_
 refine Q5 rfl (fun hc=>?_) (fun hc=>?_)
 · skip
   refine ZbT ?_;intro b1 o1 cs1 x1 hat1 hx1 he1;obtain ⟨vp1,vr1,vb1,rfl,hp1,hr1,hb1⟩:=Qo he1;refine ZaC ?_;intro p5 w1 hS;refine zsn hS ?_;intro w1 hS;have hS:=hS.ns;refine zn ?_;have hsh:=hsm x1 (List.mem_of_getElem? hx1);have hlb:=hsh.2.2.1
   have hJ6:=St.refl hS
   refine zML hS [2,3,5,13,14,15] (fun A LL ρ' w'=>∃(k6:Cx) (a1 a2:Option Addr) (n1 n2 p6:Nat),Has ρ' A∧Has ρ' [(6, .pointer (some ⟨p6,0,none⟩))]∧(k0.Le k6)∧(tyR.sl k6 (.slice a1 x1.params.length n1) x1.params)∧(tyR.sl k6 (.slice a2 x1.results.length n2) x1.results)∧St k6 w' (blk p6 95 [.int .i64 x1.regs, .slice a1 x1.params.length n1, .slice a2 x1.results.length n2, .slice none 0 0]::LL)) ?_ ?_
   · skip
     refine Q1F 4 9 (by kernel_rfl) ?_ ?_
     · skip
       refine Q1F 7 9 (by kernel_rfl) ?_ ?_
       · skip
         refine zC [(0,none),(1,none),(2,none),(3,none),(5,none),(6,none),(4,some (some [1,6])),(7,some (some [1])),(8,none),(9,some (some [1])),(10,some none)] ?_;have hS:=hS.drew;refine Zcq ?_;refine zR1 (c:=Q1Q hsh.1.1 hsh.1.2 hp1 hS) (h:=?_);rintro v1 w1 ⟨c1,hle2,hk1,hS⟩;obtain ⟨a1,n1,rfl⟩:=Rep.SR.shape hk1;(try have hJ6:=hJ6.trans hle2);(try have hr1:=hr1.up hle2);refine ZaH ?_;refine zR1 (c:=Q1Q hsh.2.1.1 hsh.2.1.2 hr1 hS) (h:=?_);rintro v1 w1 ⟨c2,hle2,hk2,hS⟩;obtain ⟨a2,n2,rfl⟩:=Rep.SR.shape hk2;(try have hJ6:=hJ6.trans hle2);(try have hk1:=hk1.up hle2);refine ZaM ?_;refine zb3 [_,_,_,_] ?_;refine ZaO ?_;intro p6 w1 hS;refine ZaZ ?_;refine zsn hS ?_;intro w1 hS;have hS:=hS.ns;refine ZaA ?_;(exact ⟨_,a1,a2,n1,n2,p6,zh,zh,hJ6,by assumption,by assumption,hS.sp⟩)
       · skip
         refine zC [(0,none),(1,none),(2,none),(3,none),(5,none),(6,none),(4,some (some [1,6])),(9,some (some [1,6])),(7,some (some [1])),(8,none),(10,some none)] ?_;have hS:=hS.drew;refine Zcq ?_;refine zR1 (c:=Q1Q hsh.1.1 hsh.1.2 hp1 hS) (h:=?_);rintro v1 w1 ⟨c1,hle2,hk1,hS⟩;obtain ⟨a1,n1,rfl⟩:=Rep.SR.shape hk1;(try have hJ6:=hJ6.trans hle2);(try have hr1:=hr1.up hle2);refine ZaH ?_;refine Qb hS ?_;intro p6 w1 hS;refine ZaH ?_;refine zR1 (c:=Q1Q hsh.2.1.1 hsh.2.1.2 hr1 hS) (h:=?_);rintro v1 w1 ⟨c2,hle2,hk2,hS⟩;obtain ⟨a2,n2,rfl⟩:=Rep.SR.shape hk2;(try have hJ6:=hJ6.trans hle2);(try have hk1:=hk1.up hle2);refine ZaM ?_;refine zb3 [_,_,_,_] ?_;refine ZaE ?_;refine zsn hS ?_;intro w1 hS;have hS:=hS.ns;refine ZaA ?_;(exact ⟨_,a1,a2,n1,n2,p6,zh,zh,hJ6,by assumption,by assumption,hS.sp⟩)
     · skip
       refine zC [(0,none),(1,none),(2,none),(3,none),(5,none),(6,none),(9,some (some [1,3,6])),(4,some (some [1,6])),(7,some (some [1])),(8,none),(10,some none)] ?_;have hS:=hS.drew;refine Zby ?_;refine Zam ?_;refine ZaO ?_;intro p6 w1 hS;refine ZaH ?_;refine zR1 (c:=Q1Q hsh.1.1 hsh.1.2 hp1 hS) (h:=?_);rintro v1 w1 ⟨c1,hle2,hk1,hS⟩;obtain ⟨a1,n1,rfl⟩:=Rep.SR.shape hk1;(try have hJ6:=hJ6.trans hle2);(try have hr1:=hr1.up hle2);refine ZaH ?_;refine zR1 (c:=Q1Q hsh.2.1.1 hsh.2.1.2 hr1 hS) (h:=?_);rintro v1 w1 ⟨c2,hle2,hk2,hS⟩;obtain ⟨a2,n2,rfl⟩:=Rep.SR.shape hk2;(try have hJ6:=hJ6.trans hle2);(try have hk1:=hk1.up hle2);refine ZaM ?_;refine zb3 [_,_,_,_] ?_;refine ZaE ?_;refine zsn hS ?_;intro w1 hS;have hS:=hS.ns;refine ZaA ?_;(exact ⟨_,a1,a2,n1,n2,p6,zh,zh,hJ6,by assumption,by assumption,hS.sp⟩)
   rintro ρ w1 ⟨k6,a1,a2,n1,n2,p6,hA,hρ,hle2,hk1,hk2,hS⟩;obtain ⟨ρ,rfl⟩:=env2 hA hρ;(try have hle:=hle.trans hle2);(try have hL0:=hL0.trans hle2);(try have hJ6:=hJ6.trans hle2);(try have hf:=hf.up hle2);(try have hp1:=hp1.up hle2);(try have hr1:=hr1.up hle2);(try have hb1:=hb1.up hle2);(try have he1:=he1.up hle2);(try have hls:=hls.up hle2)
   refine Zci ?_
   refine zo [2,3,6,13,14,15,29,30] (fun A ρ' w'=>∃(k1:Cx) (i:Nat) (ub:Value) (cssB:List (List Value)),Has ρ' A∧Has ρ' [(31, .int .i64 i)]∧(k6.Le k1)∧(i≤x1.blocks.length)∧(blockR.ls k1 cssB (x1.blocks.take i))∧(oneC ub=true)∧St k1 w' (sl 92 12 ub cssB::blk p6 95 [.int .i64 x1.regs, .slice a1 x1.params.length n1, .slice a2 x1.results.length n2,ub]::blk p5 95 [.int .i64 x1.regs,vp1,vr1,vb1]::sl 95 4 u css::blk p3 24 [u]::blk p2 24 [.slice none 0 0]::blk p1 24 [vf]::L)) (fun ρ' _=>(x1.blocks.length - iv (ρ' 31)).toNat) ?_ ?_
   · exact ⟨k6,0, .slice none 0 0,[],zh,zh,St.refl hS,(by omega),Rep.LR.nil _ _ _,rfl,by have hS:=hS.nil (T:=92) (es:=12);exact hS.sp⟩
   rintro ρ w1 ⟨k1,i,ub,cssB,hA,hρ,hle2,hi,hlsB,hub,hS⟩;obtain ⟨ρ,rfl⟩:=env2 hA hρ;have hL1:=hle2;(try have hle:=hle.trans hle2);(try have hL0:=hL0.trans hle2);(try have hJ6:=hJ6.trans hle2);(try have hf:=hf.up hle2);(try have hk1:=hk1.up hle2);(try have hk2:=hk2.up hle2);(try have hp1:=hp1.up hle2);(try have hr1:=hr1.up hle2);(try have hb1:=hb1.up hle2);(try have he1:=he1.up hle2);(try have hls:=hls.up hle2)
   refine ZaV ?_
   refine Q5 rfl (fun hc=>?_) (fun hc=>?_)
   · skip
     refine ZbT ?_;intro b2 o2 cs2 x2 hat2 hx2 he2;obtain ⟨vp2,vc2,ve21,ve22,ve23,ve24,ve25,rfl,hp2,hc2,he21,he22,he23,he24,he25⟩:=QC he2;refine ZaC ?_;intro p8 w1 hS;refine zsn hS ?_;intro w1 hS;have hS:=hS.ns;refine zn ?_;have hsb:=hsh.2.2.2 x2 (List.mem_of_getElem? hx2);have hlc:=hsb.2.1
     have hJ10:=St.refl hS
     refine zML hS [2,3,6,8,13,14,15,29,30,31] (fun A LL ρ' w'=>∃(k10:Cx) (a3:Option Addr) (n3 p9:Nat),Has ρ' A∧Has ρ' [(9, .pointer (some ⟨p9,0,none⟩))]∧(k1.Le k10)∧(tyR.sl k10 (.slice a3 x2.params.length n3) x2.params)∧St k10 w' (blk p9 92 [.int .i64 x2.regs, .slice a3 x2.params.length n3, .slice none 0 0, .int .i64 x2.fin.op, .int .i64 x2.fin.a, .int .i64 x2.fin.yes.block,ve21,ve22, .int .i64 x2.fin.no.block,ve23,ve24,ve25]::LL)) ?_ ?_
     · skip
       obtain ⟨q1,m1,rfl⟩:=Rep.SR.shape he21;obtain ⟨q2,m2,rfl⟩:=Rep.SR.shape he22;obtain ⟨q3,m3,rfl⟩:=Rep.SR.shape he23;obtain ⟨q4,m4,rfl⟩:=Rep.SR.shape he24;obtain ⟨q5,m5,rfl⟩:=Rep.SR.shape he25
       refine Q1F 4 8 (by kernel_rfl) ?_ ?_
       · skip
         refine zC [(0,none),(1,none),(2,none),(3,none),(5,none),(6,none),(4,some (some [1,6])),(7,none),(8,some (some [1,6])),(9,some none)] ?_;have hS:=hS.drew;refine Zby ?_;refine Zah ?_;refine zv hS ?_;refine Zat ?_;refine zR1 (c:=Q1Q hsb.1.1 hsb.1.2 hp2 hS) (h:=?_);rintro v1 w1 ⟨c3,hle2,hk3,hS⟩;obtain ⟨a3,n3,rfl⟩:=Rep.SR.shape hk3;(try have hJ10:=hJ10.trans hle2);refine ZaM ?_;refine zb3 [_,_,_,_,_,_,_,_,_,_,_,_] ?_;refine ZaO ?_;intro p9 w1 hS;refine ZaZ ?_;refine zsn hS ?_;intro w1 hS;have hS:=hS.ns;refine ZaA ?_;(exact ⟨_,a3,n3,p9,zh,zh,hJ10,by assumption,hS.sp⟩)
       · skip
         refine zC [(0,none),(1,none),(2,none),(3,none),(5,none),(6,none),(8,some (some [1,3,6])),(4,some (some [1,6])),(7,none),(9,some none)] ?_;have hS:=hS.drew;refine Zby ?_;refine Zah ?_;refine zv hS ?_;refine ZaO ?_;intro p9 w1 hS;refine ZaH ?_;refine zR1 (c:=Q1Q hsb.1.1 hsb.1.2 hp2 hS) (h:=?_);rintro v1 w1 ⟨c3,hle2,hk3,hS⟩;obtain ⟨a3,n3,rfl⟩:=Rep.SR.shape hk3;(try have hJ10:=hJ10.trans hle2);refine ZaM ?_;refine zb3 [_,_,_,_,_,_,_,_,_,_,_,_] ?_;refine ZaE ?_;refine zsn hS ?_;intro w1 hS;have hS:=hS.ns;refine ZaA ?_;(exact ⟨_,a3,n3,p9,zh,zh,hJ10,by assumption,hS.sp⟩)
     rintro ρ w1 ⟨k10,a3,n3,p9,hA,hρ,hle2,hk3,hS⟩;obtain ⟨ρ,rfl⟩:=env2 hA hρ;(try have hle:=hle.trans hle2);(try have hL0:=hL0.trans hle2);(try have hL1:=hL1.trans hle2);(try have hJ6:=hJ6.trans hle2);(try have hJ10:=hJ10.trans hle2);(try have hf:=hf.up hle2);(try have hk1:=hk1.up hle2);(try have hk2:=hk2.up hle2);(try have hp1:=hp1.up hle2);(try have hr1:=hr1.up hle2);(try have hb1:=hb1.up hle2);(try have hp2:=hp2.up hle2);(try have hc2:=hc2.up hle2);(try have he21:=he21.up hle2);(try have he22:=he22.up hle2);(try have he23:=he23.up hle2);(try have he24:=he24.up hle2);(try have he25:=he25.up hle2);(try have he1:=he1.up hle2);(try have he2:=he2.up hle2);(try have hls:=hls.up hle2);(try have hlsB:=hlsB.up hle2)
     refine QJ ?_;refine zC [(0,none),(1,none),(2,none),(4,none),(5,none),(6,none),(8,none),(9,none),(10,none),(3,some (some [6,10])),(12,none),(13,none),(7,some (some [10])),(11,some (some [])),(14,some none),(15,none),(16,none),(17,some none),(18,none),(19,none),(20,some none)] ?_;have hS:=hS.drew;refine s_cq ?_;refine Zah ?_;refine Zbh ?_;refine zv hS ?_;refine ZbR ?_;refine zv hS ?_;refine ZbR ?_;refine zl hS ?_;refine Zat ?_;refine zR1 (c:=Q6h (x:=x2.fin.yes) (by have:=hsb.2.2.2.1.1;omega) (by have:=hsb.2.2.2.1.2;omega) ⟨_,_,rfl,he21,he22⟩ hS) (h:=?_);rintro v1 w1 ⟨c7,ds,rfl,hle2,hk7,hS⟩;obtain ⟨y1,y2,rfl,hy1,hy2⟩:=Q1N hk7;obtain ⟨a7,n7,rfl⟩:=Rep.SR.shape hy1;obtain ⟨a8,n8,rfl⟩:=Rep.SR.shape hy2;(try have hle:=hle.trans hle2);(try have hL0:=hL0.trans hle2);(try have hL1:=hL1.trans hle2);(try have hJ6:=hJ6.trans hle2);(try have hJ10:=hJ10.trans hle2);(try have hf:=hf.up hle2);(try have hk1:=hk1.up hle2);(try have hk2:=hk2.up hle2);(try have hk3:=hk3.up hle2);(try have hp1:=hp1.up hle2);(try have hr1:=hr1.up hle2);(try have hb1:=hb1.up hle2);(try have hp2:=hp2.up hle2);(try have hc2:=hc2.up hle2);(try have he21:=he21.up hle2);(try have he22:=he22.up hle2);(try have he23:=he23.up hle2);(try have he24:=he24.up hle2);(try have he25:=he25.up hle2);(try have he1:=he1.up hle2);(try have he2:=he2.up hle2);(try have hls:=hls.up hle2);(try have hlsB:=hlsB.up hle2);refine ZaM ?_;refine Zah ?_;refine Yae ?_;refine Zat ?_;refine zR1 (c:=Q6h (x:=x2.fin.no) (by have:=hsb.2.2.2.2.1.1;omega) (by have:=hsb.2.2.2.2.1.2;omega) ⟨_,_,rfl,he23,he24⟩ hS) (h:=?_);rintro v1 w1 ⟨c8,ds,rfl,hle2,hk8,hS⟩;obtain ⟨z1,z2,rfl,hz1,hz2⟩:=Q1N hk8;obtain ⟨a9,n9,rfl⟩:=Rep.SR.shape hz1;obtain ⟨a10,n10,rfl⟩:=Rep.SR.shape hz2;(try have hle:=hle.trans hle2);(try have hL0:=hL0.trans hle2);(try have hL1:=hL1.trans hle2);(try have hJ6:=hJ6.trans hle2);(try have hJ10:=hJ10.trans hle2);(try have hf:=hf.up hle2);(try have hk1:=hk1.up hle2);(try have hk2:=hk2.up hle2);(try have hk3:=hk3.up hle2);(try have hk7:=hk7.up hle2);(try have hp1:=hp1.up hle2);(try have hr1:=hr1.up hle2);(try have hb1:=hb1.up hle2);(try have hp2:=hp2.up hle2);(try have hc2:=hc2.up hle2);(try have he21:=he21.up hle2);(try have he22:=he22.up hle2);(try have he23:=he23.up hle2);(try have he24:=he24.up hle2);(try have he25:=he25.up hle2);(try have he1:=he1.up hle2);(try have he2:=he2.up hle2);(try have hls:=hls.up hle2);(try have hy1:=hy1.up hle2);(try have hy2:=hy2.up hle2);(try have hlsB:=hlsB.up hle2);refine ZaH ?_;refine zR1 (c:=Q2U (by have:=hsb.2.2.2.2.2;omega) he25 hS) (h:=?_);rintro v1 w1 ⟨c9,hle2,hw1,hS⟩;obtain ⟨a11,n11,rfl⟩:=Rep.SR.shape hw1;(try have hle:=hle.trans hle2);(try have hL0:=hL0.trans hle2);(try have hL1:=hL1.trans hle2);(try have hJ6:=hJ6.trans hle2);(try have hJ10:=hJ10.trans hle2);(try have hf:=hf.up hle2);(try have hk1:=hk1.up hle2);(try have hk2:=hk2.up hle2);(try have hk3:=hk3.up hle2);(try have hk7:=hk7.up hle2);(try have hk8:=hk8.up hle2);(try have hp1:=hp1.up hle2);(try have hr1:=hr1.up hle2);(try have hb1:=hb1.up hle2);(try have hp2:=hp2.up hle2);(try have hc2:=hc2.up hle2);(try have he21:=he21.up hle2);(try have he22:=he22.up hle2);(try have he23:=he23.up hle2);(try have he24:=he24.up hle2);(try have he25:=he25.up hle2);(try have he1:=he1.up hle2);(try have he2:=he2.up hle2);(try have hls:=hls.up hle2);(try have hy1:=hy1.up hle2);(try have hy2:=hy2.up hle2);(try have hz1:=hz1.up hle2);(try have hz2:=hz2.up hle2);(try have hlsB:=hlsB.up hle2);refine ZaZ ?_;(first|(refine zsn hS ?_;intro w1 hS;have hS:=hS.ns)|(refine zsm hS ?_;intro w1 hS;have hS:=hS.ns));refine Zbd ?_;refine Yae ?_;refine ZaE ?_;(first|(refine zsn hS ?_;intro w1 hS;have hS:=hS.ns)|(refine zsm hS ?_;intro w1 hS;have hS:=hS.ns));refine Zbd ?_;refine Yae ?_;refine ZaE ?_;refine zst hS ?_;intro w1 hS;have hS:=hS.ns;refine ZaA ?_;refine Zci ?_
     refine zo [2,3,6,9,13,14,15,29,30,31,62,63] (fun A ρ' w'=>∃(k2:Cx) (k:Nat) (uc:Value) (cssC:List (List Value)),Has ρ' A∧Has ρ' [(64, .int .i64 k)]∧(c9.Le k2)∧(k≤x2.code.length)∧(insR.ls k2 cssC (x2.code.take k))∧(oneC uc=true)∧St k2 w' (sl 84 8 uc cssC::blk p9 92 [.int .i64 x2.regs, .slice a3 x2.params.length n3,uc, .int .i64 x2.fin.op, .int .i64 x2.fin.a, .int .i64 x2.fin.yes.block, .slice a7 x2.fin.yes.regs.length n7, .slice a8 x2.fin.yes.args.length n8, .int .i64 x2.fin.no.block, .slice a9 x2.fin.no.regs.length n9, .slice a10 x2.fin.no.args.length n10, .slice a11 x2.fin.args.length n11]::blk p8 92 [.int .i64 x2.regs,vp2,vc2, .int .i64 x2.fin.op, .int .i64 x2.fin.a, .int .i64 x2.fin.yes.block,ve21,ve22, .int .i64 x2.fin.no.block,ve23,ve24,ve25]::sl 92 12 ub cssB::blk p6 95 [.int .i64 x1.regs, .slice a1 x1.params.length n1, .slice a2 x1.results.length n2,ub]::blk p5 95 [.int .i64 x1.regs,vp1,vr1,vb1]::sl 95 4 u css::blk p3 24 [u]::blk p2 24 [.slice none 0 0]::blk p1 24 [vf]::L)) (fun ρ' _=>(x2.code.length - iv (ρ' 64)).toNat) ?_ ?_
     · exact ⟨c9,0, .slice none 0 0,[],zh,zh,St.refl hS,(by omega),Rep.LR.nil _ _ _,rfl,by have hS:=hS.nil (T:=84) (es:=8);exact hS.sp⟩
     rintro ρ w1 ⟨k2,k,uc,cssC,hA,hρ,hle2,hkk,hlsC,huc,hS⟩;obtain ⟨ρ,rfl⟩:=env2 hA hρ;have hL2:=hle2;(try have hle:=hle.trans hle2);(try have hL0:=hL0.trans hle2);(try have hL1:=hL1.trans hle2);(try have hJ6:=hJ6.trans hle2);(try have hJ10:=hJ10.trans hle2);(try have hf:=hf.up hle2);(try have hk1:=hk1.up hle2);(try have hk2:=hk2.up hle2);(try have hk3:=hk3.up hle2);(try have hk7:=hk7.up hle2);(try have hk8:=hk8.up hle2);(try have hp1:=hp1.up hle2);(try have hr1:=hr1.up hle2);(try have hb1:=hb1.up hle2);(try have hp2:=hp2.up hle2);(try have hc2:=hc2.up hle2);(try have he21:=he21.up hle2);(try have he22:=he22.up hle2);(try have he23:=he23.up hle2);(try have he24:=he24.up hle2);(try have he25:=he25.up hle2);(try have he1:=he1.up hle2);(try have he2:=he2.up hle2);(try have hls:=hls.up hle2);(try have hy1:=hy1.up hle2);(try have hy2:=hy2.up hle2);(try have hz1:=hz1.up hle2);(try have hz2:=hz2.up hle2);(try have hw1:=hw1.up hle2);(try have hlsB:=hlsB.up hle2)
     refine ZaV ?_
     refine Q5 rfl (fun hc=>?_) (fun hc=>?_)
     · skip
       refine ZbT ?_;intro b3 o3 cs3 x3 hat3 hx3 he3;obtain ⟨vr3,va3,rfl,hr3,ha3⟩:=QG he3;refine ZaC ?_;intro p11 w1 hS;refine zsn hS ?_;intro w1 hS;have hS:=hS.ns;refine Zbe ?_;have hsi:=hsb.2.2.1 x3 (List.mem_of_getElem? hx3);refine zC [(0,none),(1,none),(3,none),(4,none),(2,some (some [4])),(6,none),(5,some (some [])),(7,some none),(8,none),(9,some none)] ?_;have hS:=hS.drew;refine ZaR ?_;refine Zbn ?_;refine zR1 (c:=Q2U (by have:=hsi.1;omega) hr3 hS) (h:=?_);rintro v1 w1 ⟨c4,hle2,hk4,hS⟩;obtain ⟨a4,n4,rfl⟩:=Rep.SR.shape hk4;(try have hL2:=hL2.trans hle2);(try have ha3:=ha3.up hle2);(try have hlsC:=hlsC.up hle2);refine ZaM ?_;refine zf0 ?_;refine Zat ?_;refine zR1 (c:=Q2U (by have:=hsi.2;omega) ha3 hS) (h:=?_);rintro v1 w1 ⟨c5,hle2,hk5,hS⟩;obtain ⟨a5,n5,rfl⟩:=Rep.SR.shape hk5;(try have hL2:=hL2.trans hle2);(try have hk4:=hk4.up hle2);(try have hlsC:=hlsC.up hle2);refine ZaZ ?_;refine zst hS ?_;intro w1 hS;have hS:=hS.ns;refine Zch ?_;refine ZaE ?_;refine zst hS ?_;intro w1 hS;have hS:=hS.ns;refine ZaA ?_;have hk9:insR.at c5 _ x3:=⟨_,_,rfl,hk4,hk5⟩;refine ZbA ?_;refine zB1 hS [_,_,_,_,_,_,_,_] ?_;intro b1 w1 hS;refine za Qbq u_T85 hS ?_;intro vp1 w1 css1 hls1 hv1 hS;have hS:=hS.ns;refine Zbf ?_;intro w1 hS;have hS:=hS.ns;refine ZbO ?_;(exact ⟨⟨_,k+1,_,_,zh,zh,hL2,(by omega),by rw [Qq hx3];assumption,by assumption,hS.sp⟩,Q4 (by omega)⟩)
     · skip
       refine zex ?_;obtain ⟨c6,hle2,hS,hk6⟩:=St.freezeL (r:=insR) (l:=x2.code) hS (by rw [List.take_of_length_le (by omega)] at hlsC;exact hlsC) rfl (by have:=hsb.2.1;omega);obtain ⟨a6,n6,rfl⟩:=Rep.SR.shape hk6;(try have hL1:=hL1.trans hle2);(try have hk3:=hk3.up hle2);(try have hy1:=hy1.up hle2);(try have hy2:=hy2.up hle2);(try have hz1:=hz1.up hle2);(try have hz2:=hz2.up hle2);(try have hw1:=hw1.up hle2);(try have hlsB:=hlsB.up hle2);have hk9:blockR.at c6 _ x2:=Q3b (x:=x2) hk3 hk6 hy1 hy2 hz1 hz2 hw1;refine ZbA ?_;refine zB1 hS [_,_,_,_,_,_,_,_,_,_,_,_] ?_;intro b1 w1 hS;refine za Q7h Q9T hS ?_;intro vp2 w2 css2 hls2 hv2 hS;have hS:=hS.ns;refine Zbf ?_;intro w1 hS;have hS:=hS.ns;refine ZbO ?_;(exact ⟨⟨_,i+1,_,_,zh,zh,hL1,(by omega),by rw [Qq hx2];assumption,by assumption,hS.sp⟩,Q4 (by omega)⟩)
   · skip
     refine zex ?_;obtain ⟨c10,hle2,hS,hk6⟩:=St.freezeL (r:=blockR) (l:=x1.blocks) hS (by rw [List.take_of_length_le (by omega)] at hlsB;exact hlsB) rfl (by have:=hsh.2.2.1;omega);obtain ⟨a6,n6,rfl⟩:=Rep.SR.shape hk6;(try have hL0:=hL0.trans hle2);(try have hk1:=hk1.up hle2);(try have hk2:=hk2.up hle2);(try have hls:=hls.up hle2);have hk9:funcR.at c10 _ x1:=⟨_,_,_,rfl,hk1,hk2,hk6⟩;refine ZbA ?_;refine zB1 hS [_,_,_,_] ?_;intro b1 w1 hS;refine za Q7i Q9U hS ?_;intro vp3 w3 css3 hls3 hv3 hS;have hS:=hS.ns;refine Zbf ?_;intro w1 hS;have hS:=hS.ns;refine ZbO ?_;(exact ⟨⟨_,j+1,_,_,zh,zh,hL0,(by omega),by rw [Qq hx1];assumption,by assumption,hS.sp⟩,Q4 (by omega)⟩)
 · skip
   refine zex ?_;obtain ⟨c11,hle2,hS,hk6⟩:=St.freezeL (r:=funcR) (l:=l) hS (by rw [List.take_of_length_le (by omega)] at hls;exact hls) rfl (by omega);obtain ⟨a6,n6,rfl⟩:=Rep.SR.shape hk6;(try have hle:=hle.trans hle2);refine ZaF ?_;refine zsn hS ?_;intro w1 hS;have hS:=hS.ns;refine ZaY ?_;refine QK vw (Q3 (n:=1) (by kernel_rfl) (by kernel_rfl) (hS.blkAt fd) (by rfl) (by rfl)) ?_;(exact ⟨_,rfl,c11,_,rfl,hle,⟨_,rfl,hk6⟩,hS.sp⟩)
end Go.Proofs.YteflkifmgnpbhaaGreat
namespace Go.Proofs.YteflkifmgnpbhaaGreat
open Go.Lir
set_option maxHeartbeats 1000000
attribute [local irreducible] LC.wp Q0 QB QH retQ Q1k LO.wp Qh Calls
set_option linter.unusedSimpArgs false
set_option linter.unusedVariables false
def OwnC (c:Cx) (l:List Fun) (css:List (List Value)) (fs:List FunH) (ps:List (Value×List (List Value))):Prop:=fs.map FunH.to=l∧funhR.ls c css fs∧Stor c ps (fs.flatMap (·.blocks))
theorem QbM {x:Module}(hsm:x.Short){cx:Cx}{w:World}{L:List Res}{cs:List Value}(hx:modR.at cx cs x) (hS:St cx w L):Rets Tryz.prog Q7p [.agg ⟨cs⟩] w fun u w'=>∃c' u0 css fs ps,u= .agg ⟨[u0]⟩∧cx.Le c'∧oneC u0=true∧OwnC c' x.funcs css fs ps∧St c' w' (sl 95 4 u0 css::Q22 84 ps::L):=by
 obtain ⟨vf,rfl,hf⟩:=QP hx
 obtain ⟨l⟩:=x
 have hf:funcR.sl cx vf l:=hf
 have hsl:l.length≤100000:=hsm.1
 have hsm:∀f∈l,f.Short:=hsm.2
 have hle:=St.refl hS
 have hS:=St.big_nil (fun p:Value×List (List Value)=>sl 84 8 p.1 p.2) hS
 all_goals refine lgo tyD Tryz.func19 ?_
 all_goals (refine Zaw ?_;intro p1 w1 hS;refine Qb hS ?_;intro p2 w1 hS;refine zn ?_;refine Zbz ?_;intro p3 w1 hS;refine zn ?_;refine ZaI ?_)
 refine zo [1,2,3] (fun A ρ' w'=>∃(k0:Cx) (j:Nat) (u:Value) (css:List (List Value)) (fs:List FunH) (ps:List (Value×List (List Value))),Has ρ' A∧Has ρ' [(4, .int .i64 j)]∧(cx.Le k0)∧(j≤l.length)∧(fs.map FunH.to=l.take j)∧(fs.length=j)∧(funhR.ls k0 css fs)∧(Stor k0 ps (fs.flatMap (·.blocks)))∧(oneC u=true)∧St k0 w' (sl 95 4 u css::blk p3 24 [u]::blk p2 24 [.slice none 0 0]::blk p1 24 [vf]::Q22 84 ps::L)) (fun ρ' _=>(l.length - iv (ρ' 4)).toNat) ?_ ?_
 · exact ⟨cx,0, .slice none 0 0,[],[],[],zh,zh,St.refl hS,(by omega),rfl,rfl,Rep.LR.nil _ _ _,Stor.nil,rfl,by have hS:=hS.nil (T:=95) (es:=4);exact hS.sp⟩
 rintro ρ w1 ⟨k0,j,u,css,fs,ps,hA,hρ,hle2,hj,hfs,hfl,hls,hst,hu,hS⟩;obtain ⟨ρ,rfl⟩:=env2 hA hρ;have hL0:=hle2;(try have hle:=hle.trans hle2);(try have hf:=hf.up hle2)
 all_goals (refine Zbl ?_)
 refine Q5 rfl (fun hc=>?_) (fun hc=>?_)
 · skip
   all_goals (refine ZbZ ?_;intro b1 o1 cs1 x1 hat1 hx1 he1;obtain ⟨vp1,vr1,vb1,rfl,hp1,hr1,hb1⟩:=Qo he1;refine ZaC ?_;intro p5 w1 hS;refine zsn hS ?_;intro w1 hS;have hS:=hS.ns;refine zn ?_;have hsh:=hsm x1 (List.mem_of_getElem? hx1);have hlb:=hsh.2.2.1)
   have hJ6:=St.refl hS
   refine zML hS [1,2,3,4,5] (fun A LL ρ' w'=>∃(k6:Cx) (a1 a2:Option Addr) (n1 n2 p6:Nat),Has ρ' A∧Has ρ' [(6, .pointer (some ⟨p6,0,none⟩))]∧(k0.Le k6)∧(tyR.sl k6 (.slice a1 x1.params.length n1) x1.params)∧(tyR.sl k6 (.slice a2 x1.results.length n2) x1.results)∧St k6 w' (blk p6 95 [.int .i64 x1.regs, .slice a1 x1.params.length n1, .slice a2 x1.results.length n2, .slice none 0 0]::LL)) ?_ ?_
   · skip
     refine Q1F 4 9 (by kernel_rfl) ?_ ?_
     · skip
       refine Q1F 7 9 (by kernel_rfl) ?_ ?_
       · skip
         all_goals (refine zC [(0,none),(1,none),(2,none),(3,none),(5,none),(6,none),(4,some (some [1,6])),(7,some (some [1])),(8,none),(9,some (some [1])),(10,some none)] ?_;have hS:=hS.drew;refine Zcq ?_)
         all_goals (refine zR1 (c:=Q1P hsh.1.1 hsh.1.2 hp1 hS) (h:=?_);rintro v1 w1 ⟨c1,hle2,hk1,hS⟩;obtain ⟨a1,n1,rfl⟩:=Rep.SR.shape hk1;(try have hle:=hle.trans hle2);(try have hL0:=hL0.trans hle2);(try have hJ6:=hJ6.trans hle2);(try have hf:=hf.up hle2);(try have hp1:=hp1.up hle2);(try have hr1:=hr1.up hle2);(try have hb1:=hb1.up hle2);(try have he1:=he1.up hle2);(try have hls:=hls.up hle2);(try have hst:=hst.up hle2))
         all_goals (refine ZaH ?_)
         all_goals (refine zR1 (c:=Q1P hsh.2.1.1 hsh.2.1.2 hr1 hS) (h:=?_);rintro v1 w1 ⟨c2,hle2,hk2,hS⟩;obtain ⟨a2,n2,rfl⟩:=Rep.SR.shape hk2;(try have hle:=hle.trans hle2);(try have hL0:=hL0.trans hle2);(try have hJ6:=hJ6.trans hle2);(try have hf:=hf.up hle2);(try have hk1:=hk1.up hle2);(try have hp1:=hp1.up hle2);(try have hr1:=hr1.up hle2);(try have hb1:=hb1.up hle2);(try have he1:=he1.up hle2);(try have hls:=hls.up hle2);(try have hst:=hst.up hle2))
         all_goals (refine ZaM ?_;refine zb3 [_,_,_,_] ?_;refine ZaO ?_;intro p6 w1 hS;refine ZaZ ?_;refine zsn hS ?_;intro w1 hS;have hS:=hS.ns;refine ZaA ?_;exact ⟨_,a1,a2,n1,n2,p6,zh,zh,hJ6,by assumption,by assumption,hS.sp⟩)
       · skip
         all_goals (refine zC [(0,none),(1,none),(2,none),(3,none),(5,none),(6,none),(4,some (some [1,6])),(9,some (some [1,6])),(7,some (some [1])),(8,none),(10,some none)] ?_;have hS:=hS.drew;refine Zcq ?_)
         all_goals (refine zR1 (c:=Q1P hsh.1.1 hsh.1.2 hp1 hS) (h:=?_);rintro v1 w1 ⟨c1,hle2,hk1,hS⟩;obtain ⟨a1,n1,rfl⟩:=Rep.SR.shape hk1;(try have hle:=hle.trans hle2);(try have hL0:=hL0.trans hle2);(try have hJ6:=hJ6.trans hle2);(try have hf:=hf.up hle2);(try have hp1:=hp1.up hle2);(try have hr1:=hr1.up hle2);(try have hb1:=hb1.up hle2);(try have he1:=he1.up hle2);(try have hls:=hls.up hle2);(try have hst:=hst.up hle2))
         all_goals (refine ZaH ?_;refine Qb hS ?_;intro p6 w1 hS;refine ZaH ?_)
         all_goals (refine zR1 (c:=Q1P hsh.2.1.1 hsh.2.1.2 hr1 hS) (h:=?_);rintro v1 w1 ⟨c2,hle2,hk2,hS⟩;obtain ⟨a2,n2,rfl⟩:=Rep.SR.shape hk2;(try have hle:=hle.trans hle2);(try have hL0:=hL0.trans hle2);(try have hJ6:=hJ6.trans hle2);(try have hf:=hf.up hle2);(try have hk1:=hk1.up hle2);(try have hp1:=hp1.up hle2);(try have hr1:=hr1.up hle2);(try have hb1:=hb1.up hle2);(try have he1:=he1.up hle2);(try have hls:=hls.up hle2);(try have hst:=hst.up hle2))
         all_goals (refine ZaM ?_;refine zb3 [_,_,_,_] ?_;refine ZaE ?_;refine zsn hS ?_;intro w1 hS;have hS:=hS.ns;refine ZaA ?_;exact ⟨_,a1,a2,n1,n2,p6,zh,zh,hJ6,by assumption,by assumption,hS.sp⟩)
     · skip
       all_goals (refine zC [(0,none),(1,none),(2,none),(3,none),(5,none),(6,none),(9,some (some [1,3,6])),(4,some (some [1,6])),(7,some (some [1])),(8,none),(10,some none)] ?_;have hS:=hS.drew;refine Zby ?_;refine Zam ?_;refine ZaO ?_;intro p6 w1 hS;refine ZaH ?_)
       all_goals (refine zR1 (c:=Q1P hsh.1.1 hsh.1.2 hp1 hS) (h:=?_);rintro v1 w1 ⟨c1,hle2,hk1,hS⟩;obtain ⟨a1,n1,rfl⟩:=Rep.SR.shape hk1;(try have hle:=hle.trans hle2);(try have hL0:=hL0.trans hle2);(try have hJ6:=hJ6.trans hle2);(try have hf:=hf.up hle2);(try have hp1:=hp1.up hle2);(try have hr1:=hr1.up hle2);(try have hb1:=hb1.up hle2);(try have he1:=he1.up hle2);(try have hls:=hls.up hle2);(try have hst:=hst.up hle2))
       all_goals (refine ZaH ?_)
       all_goals (refine zR1 (c:=Q1P hsh.2.1.1 hsh.2.1.2 hr1 hS) (h:=?_);rintro v1 w1 ⟨c2,hle2,hk2,hS⟩;obtain ⟨a2,n2,rfl⟩:=Rep.SR.shape hk2;(try have hle:=hle.trans hle2);(try have hL0:=hL0.trans hle2);(try have hJ6:=hJ6.trans hle2);(try have hf:=hf.up hle2);(try have hk1:=hk1.up hle2);(try have hp1:=hp1.up hle2);(try have hr1:=hr1.up hle2);(try have hb1:=hb1.up hle2);(try have he1:=he1.up hle2);(try have hls:=hls.up hle2);(try have hst:=hst.up hle2))
       all_goals (refine ZaM ?_;refine zb3 [_,_,_,_] ?_;refine ZaE ?_;refine zsn hS ?_;intro w1 hS;have hS:=hS.ns;refine ZaA ?_;exact ⟨_,a1,a2,n1,n2,p6,zh,zh,hJ6,by assumption,by assumption,hS.sp⟩)
   rintro ρ w1 ⟨k6,a1,a2,n1,n2,p6,hA,hρ,hle2,hk1,hk2,hS⟩;obtain ⟨ρ,rfl⟩:=env2 hA hρ;(try have hle:=hle.trans hle2);(try have hL0:=hL0.trans hle2);(try have hJ6:=hJ6.trans hle2);(try have hf:=hf.up hle2);(try have hp1:=hp1.up hle2);(try have hr1:=hr1.up hle2);(try have hb1:=hb1.up hle2);(try have he1:=he1.up hle2);(try have hls:=hls.up hle2);(try have hst:=hst.up hle2)
   all_goals (refine ZaI ?_)
   refine zo [1,2,3,4,5,6] (fun A ρ' w'=>∃(k1:Cx) (i:Nat) (ub:Value) (cssB:List (List Value)) (bs:List BlkH) (ps1:List (Value×List (List Value))),Has ρ' A∧Has ρ' [(7, .int .i64 i)]∧(k6.Le k1)∧(i≤x1.blocks.length)∧(bs.map (·.b)=x1.blocks.take i)∧(bs.length=i)∧(blkhR.ls k1 cssB bs)∧(Stor k1 ps1 (fs.flatMap (·.blocks)++bs))∧(oneC ub=true)∧St k1 w' (sl 92 12 ub cssB::blk p6 95 [.int .i64 x1.regs, .slice a1 x1.params.length n1, .slice a2 x1.results.length n2,ub]::blk p5 95 [.int .i64 x1.regs,vp1,vr1,vb1]::sl 95 4 u css::blk p3 24 [u]::blk p2 24 [.slice none 0 0]::blk p1 24 [vf]::Q22 84 ps1::L)) (fun ρ' _=>(x1.blocks.length - iv (ρ' 7)).toNat) ?_ ?_
   · exact ⟨k6,0, .slice none 0 0,[],[],ps,zh,zh,St.refl hS,(by omega),rfl,rfl,Rep.LR.nil _ _ _,(by rw [List.append_nil];exact hst),rfl,by have hS:=hS.nil (T:=92) (es:=12);exact hS.sp⟩
   rintro ρ w1 ⟨k1,i,ub,cssB,bs,ps1,hA,hρ,hle2,hi,hbs,hbl,hlsB,hstB,hub,hS⟩;obtain ⟨ρ,rfl⟩:=env2 hA hρ;have hL1:=hle2;(try have hle:=hle.trans hle2);(try have hL0:=hL0.trans hle2);(try have hJ6:=hJ6.trans hle2);(try have hf:=hf.up hle2);(try have hk1:=hk1.up hle2);(try have hk2:=hk2.up hle2);(try have hp1:=hp1.up hle2);(try have hr1:=hr1.up hle2);(try have hb1:=hb1.up hle2);(try have he1:=he1.up hle2);(try have hls:=hls.up hle2);(try have hst:=hst.up hle2)
   all_goals (refine Zbl ?_)
   refine Q5 rfl (fun hc=>?_) (fun hc=>?_)
   · skip
     all_goals (refine ZbZ ?_;intro b2 o2 cs2 x2 hat2 hx2 he2;obtain ⟨vp2,vc2,ve21,ve22,ve23,ve24,ve25,rfl,hp2,hc2,he21,he22,he23,he24,he25⟩:=QC he2;refine ZaC ?_;intro p8 w1 hS;refine zsn hS ?_;intro w1 hS;have hS:=hS.ns;refine zn ?_;have hsb:=hsh.2.2.2 x2 (List.mem_of_getElem? hx2);have hlc:=hsb.2.1)
     have hJ10:=St.refl hS
     refine zML hS [1,2,3,4,5,6,7,8] (fun A LL ρ' w'=>∃(k10:Cx) (a3:Option Addr) (n3 p9:Nat),Has ρ' A∧Has ρ' [(9, .pointer (some ⟨p9,0,none⟩))]∧(k1.Le k10)∧(tyR.sl k10 (.slice a3 x2.params.length n3) x2.params)∧St k10 w' (blk p9 92 [.int .i64 x2.regs, .slice a3 x2.params.length n3, .slice none 0 0, .int .i64 0, .int .i64 0, .int .i64 0, .slice none 0 0, .slice none 0 0, .int .i64 0, .slice none 0 0, .slice none 0 0, .slice none 0 0]::LL)) ?_ ?_
     · skip
       refine Q1F 4 6 (by kernel_rfl) ?_ ?_
       · skip
         all_goals (refine zC [(0,none),(1,none),(2,none),(3,none),(4,some (some [1])),(5,none),(6,some (some [1])),(7,some none)] ?_;have hS:=hS.drew;refine ZaR ?_;refine Zbn ?_)
         all_goals (refine zR1 (c:=Q1P hsb.1.1 hsb.1.2 hp2 hS) (h:=?_);rintro v1 w1 ⟨c3,hle2,hk3,hS⟩;obtain ⟨a3,n3,rfl⟩:=Rep.SR.shape hk3;(try have hle:=hle.trans hle2);(try have hL0:=hL0.trans hle2);(try have hL1:=hL1.trans hle2);(try have hJ6:=hJ6.trans hle2);(try have hJ10:=hJ10.trans hle2);(try have hf:=hf.up hle2);(try have hk1:=hk1.up hle2);(try have hk2:=hk2.up hle2);(try have hp1:=hp1.up hle2);(try have hr1:=hr1.up hle2);(try have hb1:=hb1.up hle2);(try have hp2:=hp2.up hle2);(try have hc2:=hc2.up hle2);(try have he21:=he21.up hle2);(try have he22:=he22.up hle2);(try have he23:=he23.up hle2);(try have he24:=he24.up hle2);(try have he25:=he25.up hle2);(try have he1:=he1.up hle2);(try have he2:=he2.up hle2);(try have hls:=hls.up hle2);(try have hlsB:=hlsB.up hle2);(try have hst:=hst.up hle2);(try have hstB:=hstB.up hle2))
         all_goals (refine ZaM ?_;refine zb2 [_,_,_,_,_,_,_,_,_,_,_,_] ?_;refine ZaO ?_;intro p9 w1 hS;refine ZaZ ?_;refine zsn hS ?_;intro w1 hS;have hS:=hS.ns;refine ZaA ?_;exact ⟨_,a3,n3,p9,zh,zh,hJ10,by assumption,hS.sp⟩)
       · skip
         all_goals (refine zC [(0,none),(1,none),(2,none),(3,none),(6,some (some [1,3])),(4,some (some [1])),(5,none),(7,some none)] ?_;have hS:=hS.drew;refine ZaR ?_;refine Zam ?_;refine ZaO ?_;intro p9 w1 hS;refine ZaH ?_)
         all_goals (refine zR1 (c:=Q1P hsb.1.1 hsb.1.2 hp2 hS) (h:=?_);rintro v1 w1 ⟨c3,hle2,hk3,hS⟩;obtain ⟨a3,n3,rfl⟩:=Rep.SR.shape hk3;(try have hle:=hle.trans hle2);(try have hL0:=hL0.trans hle2);(try have hL1:=hL1.trans hle2);(try have hJ6:=hJ6.trans hle2);(try have hJ10:=hJ10.trans hle2);(try have hf:=hf.up hle2);(try have hk1:=hk1.up hle2);(try have hk2:=hk2.up hle2);(try have hp1:=hp1.up hle2);(try have hr1:=hr1.up hle2);(try have hb1:=hb1.up hle2);(try have hp2:=hp2.up hle2);(try have hc2:=hc2.up hle2);(try have he21:=he21.up hle2);(try have he22:=he22.up hle2);(try have he23:=he23.up hle2);(try have he24:=he24.up hle2);(try have he25:=he25.up hle2);(try have he1:=he1.up hle2);(try have he2:=he2.up hle2);(try have hls:=hls.up hle2);(try have hlsB:=hlsB.up hle2);(try have hst:=hst.up hle2);(try have hstB:=hstB.up hle2))
         all_goals (refine ZaM ?_;refine zb2 [_,_,_,_,_,_,_,_,_,_,_,_] ?_;refine ZaE ?_;refine zsn hS ?_;intro w1 hS;have hS:=hS.ns;refine ZaA ?_;exact ⟨_,a3,n3,p9,zh,zh,hJ10,by assumption,hS.sp⟩)
     rintro ρ w1 ⟨k10,a3,n3,p9,hA,hρ,hle2,hk3,hS⟩;obtain ⟨ρ,rfl⟩:=env2 hA hρ;(try have hle:=hle.trans hle2);(try have hL0:=hL0.trans hle2);(try have hL1:=hL1.trans hle2);(try have hJ6:=hJ6.trans hle2);(try have hJ10:=hJ10.trans hle2);(try have hf:=hf.up hle2);(try have hk1:=hk1.up hle2);(try have hk2:=hk2.up hle2);(try have hp1:=hp1.up hle2);(try have hr1:=hr1.up hle2);(try have hb1:=hb1.up hle2);(try have hp2:=hp2.up hle2);(try have hc2:=hc2.up hle2);(try have he21:=he21.up hle2);(try have he22:=he22.up hle2);(try have he23:=he23.up hle2);(try have he24:=he24.up hle2);(try have he25:=he25.up hle2);(try have he1:=he1.up hle2);(try have he2:=he2.up hle2);(try have hls:=hls.up hle2);(try have hlsB:=hlsB.up hle2);(try have hst:=hst.up hle2);(try have hstB:=hstB.up hle2)
     all_goals (refine ZaI ?_)
     refine zo [1,2,3,4,5,6,7,8,9] (fun A ρ' w'=>∃(k2:Cx) (k:Nat) (uc:Value) (cssC:List (List Value)),Has ρ' A∧Has ρ' [(10, .int .i64 k)]∧(k10.Le k2)∧(k≤x2.code.length)∧(insR.ls k2 cssC (x2.code.take k))∧(oneC uc=true)∧St k2 w' (sl 84 8 uc cssC::blk p9 92 [.int .i64 x2.regs, .slice a3 x2.params.length n3,uc, .int .i64 0, .int .i64 0, .int .i64 0, .slice none 0 0, .slice none 0 0, .int .i64 0, .slice none 0 0, .slice none 0 0, .slice none 0 0]::blk p8 92 [.int .i64 x2.regs,vp2,vc2, .int .i64 x2.fin.op, .int .i64 x2.fin.a, .int .i64 x2.fin.yes.block,ve21,ve22, .int .i64 x2.fin.no.block,ve23,ve24,ve25]::sl 92 12 ub cssB::blk p6 95 [.int .i64 x1.regs, .slice a1 x1.params.length n1, .slice a2 x1.results.length n2,ub]::blk p5 95 [.int .i64 x1.regs,vp1,vr1,vb1]::sl 95 4 u css::blk p3 24 [u]::blk p2 24 [.slice none 0 0]::blk p1 24 [vf]::Q22 84 ps1::L)) (fun ρ' _=>(x2.code.length - iv (ρ' 10)).toNat) ?_ ?_
     · exact ⟨k10,0, .slice none 0 0,[],zh,zh,St.refl hS,(by omega),Rep.LR.nil _ _ _,rfl,by have hS:=hS.nil (T:=84) (es:=8);exact hS.sp⟩
     rintro ρ w1 ⟨k2,k,uc,cssC,hA,hρ,hle2,hkk,hlsC,huc,hS⟩;obtain ⟨ρ,rfl⟩:=env2 hA hρ;have hL2:=hle2;(try have hle:=hle.trans hle2);(try have hL0:=hL0.trans hle2);(try have hL1:=hL1.trans hle2);(try have hJ6:=hJ6.trans hle2);(try have hJ10:=hJ10.trans hle2);(try have hf:=hf.up hle2);(try have hk1:=hk1.up hle2);(try have hk2:=hk2.up hle2);(try have hk3:=hk3.up hle2);(try have hp1:=hp1.up hle2);(try have hr1:=hr1.up hle2);(try have hb1:=hb1.up hle2);(try have hp2:=hp2.up hle2);(try have hc2:=hc2.up hle2);(try have he21:=he21.up hle2);(try have he22:=he22.up hle2);(try have he23:=he23.up hle2);(try have he24:=he24.up hle2);(try have he25:=he25.up hle2);(try have he1:=he1.up hle2);(try have he2:=he2.up hle2);(try have hls:=hls.up hle2);(try have hlsB:=hlsB.up hle2);(try have hst:=hst.up hle2);(try have hstB:=hstB.up hle2)
     all_goals (refine Zbl ?_)
     refine Q5 rfl (fun hc=>?_) (fun hc=>?_)
     · skip
       all_goals (refine ZbZ ?_;intro b3 o3 cs3 x3 hat3 hx3 he3;obtain ⟨vr3,va3,rfl,hr3,ha3⟩:=QG he3;refine ZaC ?_;intro p11 w1 hS;refine zsn hS ?_;intro w1 hS;have hS:=hS.ns;refine Zbe ?_;have hsi:=hsb.2.2.1 x3 (List.mem_of_getElem? hx3);refine zC [(0,none),(1,none),(3,none),(4,none),(2,some (some [4])),(6,none),(5,some (some [])),(7,some none),(8,none),(9,some none)] ?_;have hS:=hS.drew;refine ZaR ?_;refine Zbn ?_)
       all_goals (refine zR1 (c:=Q20 (by have:=hsi.1;omega) hr3 hS) (h:=?_);rintro v1 w1 ⟨c4,hle2,hk4,hS⟩;obtain ⟨a4,n4,rfl⟩:=Rep.SR.shape hk4;(try have hle:=hle.trans hle2);(try have hL0:=hL0.trans hle2);(try have hL1:=hL1.trans hle2);(try have hL2:=hL2.trans hle2);(try have hJ6:=hJ6.trans hle2);(try have hJ10:=hJ10.trans hle2);(try have hf:=hf.up hle2);(try have hk1:=hk1.up hle2);(try have hk2:=hk2.up hle2);(try have hk3:=hk3.up hle2);(try have hp1:=hp1.up hle2);(try have hr1:=hr1.up hle2);(try have hb1:=hb1.up hle2);(try have hp2:=hp2.up hle2);(try have hc2:=hc2.up hle2);(try have he21:=he21.up hle2);(try have he22:=he22.up hle2);(try have he23:=he23.up hle2);(try have he24:=he24.up hle2);(try have he25:=he25.up hle2);(try have hr3:=hr3.up hle2);(try have ha3:=ha3.up hle2);(try have he1:=he1.up hle2);(try have he2:=he2.up hle2);(try have he3:=he3.up hle2);(try have hls:=hls.up hle2);(try have hlsB:=hlsB.up hle2);(try have hlsC:=hlsC.up hle2);(try have hst:=hst.up hle2);(try have hstB:=hstB.up hle2))
       all_goals (refine ZaM ?_;refine zf0 ?_;refine Zat ?_)
       all_goals (refine zR1 (c:=Q20 (by have:=hsi.2;omega) ha3 hS) (h:=?_);rintro v1 w1 ⟨c5,hle2,hk5,hS⟩;obtain ⟨a5,n5,rfl⟩:=Rep.SR.shape hk5;(try have hle:=hle.trans hle2);(try have hL0:=hL0.trans hle2);(try have hL1:=hL1.trans hle2);(try have hL2:=hL2.trans hle2);(try have hJ6:=hJ6.trans hle2);(try have hJ10:=hJ10.trans hle2);(try have hf:=hf.up hle2);(try have hk1:=hk1.up hle2);(try have hk2:=hk2.up hle2);(try have hk3:=hk3.up hle2);(try have hk4:=hk4.up hle2);(try have hp1:=hp1.up hle2);(try have hr1:=hr1.up hle2);(try have hb1:=hb1.up hle2);(try have hp2:=hp2.up hle2);(try have hc2:=hc2.up hle2);(try have he21:=he21.up hle2);(try have he22:=he22.up hle2);(try have he23:=he23.up hle2);(try have he24:=he24.up hle2);(try have he25:=he25.up hle2);(try have hr3:=hr3.up hle2);(try have ha3:=ha3.up hle2);(try have he1:=he1.up hle2);(try have he2:=he2.up hle2);(try have he3:=he3.up hle2);(try have hls:=hls.up hle2);(try have hlsB:=hlsB.up hle2);(try have hlsC:=hlsC.up hle2);(try have hst:=hst.up hle2);(try have hstB:=hstB.up hle2))
       all_goals (refine ZaZ ?_;refine zst hS ?_;intro w1 hS;have hS:=hS.ns;refine Zch ?_;refine ZaE ?_;refine zst hS ?_;intro w1 hS;have hS:=hS.ns;refine ZaA ?_;have hk9:insR.at c5 _ x3:=⟨_,_,rfl,hk4,hk5⟩;refine ZbA ?_;refine zB1 hS [_,_,_,_,_,_,_,_] ?_;intro b1 w1 hS;refine za Qbq u_T85 hS ?_;intro vp1 w1 css1 hls1 hv1 hS;have hS:=hS.ns;refine Zbf ?_;intro w1 hS;have hS:=hS.ns;refine Zcj ?_;exact ⟨⟨_,k+1,_,_,zh,zh,hL2,(by omega),by rw [Qq hx3];assumption,by assumption,hS.sp⟩,Q4 (by omega)⟩)
     · skip
       all_goals (refine zex ?_;rw [List.take_of_length_le (by omega)] at hlsC;have hstC:=hstB.push (b:=x2) (v:=uc) hlsC (by have:=hsb.2.1;omega);have hS:=St.big_push (x:=(uc,cssC)) (f:=fun p:Value×List (List Value)=>sl 84 8 p.1 p.2) (St.mv1 (hS.out (r:=Q22 84 ps1) fd));simp only [List.eraseIdx_cons_zero,List.eraseIdx_cons_succ] at hS;refine QJ ?_;refine zC [(0,none),(1,none),(2,none),(3,none),(4,none),(5,none),(6,none),(7,none),(8,none),(10,none),(11,none),(12,none),(14,none),(15,none),(16,none),(9,some (some [2,5,12,16])),(13,some (some [2,5,16])),(17,some (some [2,5])),(18,none),(19,none),(20,some none)] ?_;have hS:=hS.drew;refine s_cq ?_;refine Zah ?_;refine Zbh ?_;refine zl hS ?_;refine ZbR ?_;refine zl hS ?_;refine ZbR ?_;refine zv hS ?_;refine zt ?_)
       all_goals (refine s_cq ?_;refine Zah ?_;refine Zbh ?_;refine zv hS ?_;refine ZbR ?_;refine zl hS ?_;refine Zat ?_)
       all_goals (refine zR1 (c:=Q6e (x:=x2.fin.yes) (by have:=hsb.2.2.2.1.1;omega) (by have:=hsb.2.2.2.1.2;omega) ⟨_,_,rfl,he21,he22⟩ hS) (h:=?_);rintro v1 w1 ⟨c7,ds,rfl,hle2,hk7,hS⟩;obtain ⟨y1,y2,rfl,hy1,hy2⟩:=Q1N hk7;obtain ⟨a7,n7,rfl⟩:=Rep.SR.shape hy1;obtain ⟨a8,n8,rfl⟩:=Rep.SR.shape hy2;(try have hle:=hle.trans hle2);(try have hL0:=hL0.trans hle2);(try have hL1:=hL1.trans hle2);(try have hL2:=hL2.trans hle2);(try have hJ6:=hJ6.trans hle2);(try have hJ10:=hJ10.trans hle2);(try have hf:=hf.up hle2);(try have hk1:=hk1.up hle2);(try have hk2:=hk2.up hle2);(try have hk3:=hk3.up hle2);(try have hp1:=hp1.up hle2);(try have hr1:=hr1.up hle2);(try have hb1:=hb1.up hle2);(try have hp2:=hp2.up hle2);(try have hc2:=hc2.up hle2);(try have he21:=he21.up hle2);(try have he22:=he22.up hle2);(try have he23:=he23.up hle2);(try have he24:=he24.up hle2);(try have he25:=he25.up hle2);(try have he1:=he1.up hle2);(try have he2:=he2.up hle2);(try have hls:=hls.up hle2);(try have hlsB:=hlsB.up hle2);(try have hlsC:=hlsC.up hle2);(try have hst:=hst.up hle2);(try have hstB:=hstB.up hle2);(try have hstC:=hstC.up hle2))
       all_goals (refine ZaH ?_)
       all_goals (refine zR1 (c:=Q6e (x:=x2.fin.no) (by have:=hsb.2.2.2.2.1.1;omega) (by have:=hsb.2.2.2.2.1.2;omega) ⟨_,_,rfl,he23,he24⟩ hS) (h:=?_);rintro v1 w1 ⟨c8,ds,rfl,hle2,hk8,hS⟩;obtain ⟨z1,z2,rfl,hz1,hz2⟩:=Q1N hk8;obtain ⟨a9,n9,rfl⟩:=Rep.SR.shape hz1;obtain ⟨a10,n10,rfl⟩:=Rep.SR.shape hz2;(try have hle:=hle.trans hle2);(try have hL0:=hL0.trans hle2);(try have hL1:=hL1.trans hle2);(try have hL2:=hL2.trans hle2);(try have hJ6:=hJ6.trans hle2);(try have hJ10:=hJ10.trans hle2);(try have hf:=hf.up hle2);(try have hk1:=hk1.up hle2);(try have hk2:=hk2.up hle2);(try have hk3:=hk3.up hle2);(try have hk7:=hk7.up hle2);(try have hp1:=hp1.up hle2);(try have hr1:=hr1.up hle2);(try have hb1:=hb1.up hle2);(try have hp2:=hp2.up hle2);(try have hc2:=hc2.up hle2);(try have he21:=he21.up hle2);(try have he22:=he22.up hle2);(try have he23:=he23.up hle2);(try have he24:=he24.up hle2);(try have he25:=he25.up hle2);(try have he1:=he1.up hle2);(try have he2:=he2.up hle2);(try have hls:=hls.up hle2);(try have hy1:=hy1.up hle2);(try have hy2:=hy2.up hle2);(try have hlsB:=hlsB.up hle2);(try have hlsC:=hlsC.up hle2);(try have hst:=hst.up hle2);(try have hstB:=hstB.up hle2);(try have hstC:=hstC.up hle2))
       all_goals (refine ZaH ?_)
       all_goals (refine zR1 (c:=Q20 (by have:=hsb.2.2.2.2.2;omega) he25 hS) (h:=?_);rintro v1 w1 ⟨c9,hle2,hw1,hS⟩;obtain ⟨a11,n11,rfl⟩:=Rep.SR.shape hw1;(try have hle:=hle.trans hle2);(try have hL0:=hL0.trans hle2);(try have hL1:=hL1.trans hle2);(try have hL2:=hL2.trans hle2);(try have hJ6:=hJ6.trans hle2);(try have hJ10:=hJ10.trans hle2);(try have hf:=hf.up hle2);(try have hk1:=hk1.up hle2);(try have hk2:=hk2.up hle2);(try have hk3:=hk3.up hle2);(try have hk7:=hk7.up hle2);(try have hk8:=hk8.up hle2);(try have hp1:=hp1.up hle2);(try have hr1:=hr1.up hle2);(try have hb1:=hb1.up hle2);(try have hp2:=hp2.up hle2);(try have hc2:=hc2.up hle2);(try have he21:=he21.up hle2);(try have he22:=he22.up hle2);(try have he23:=he23.up hle2);(try have he24:=he24.up hle2);(try have he25:=he25.up hle2);(try have he1:=he1.up hle2);(try have he2:=he2.up hle2);(try have hls:=hls.up hle2);(try have hy1:=hy1.up hle2);(try have hy2:=hy2.up hle2);(try have hz1:=hz1.up hle2);(try have hz2:=hz2.up hle2);(try have hlsB:=hlsB.up hle2);(try have hlsC:=hlsC.up hle2);(try have hst:=hst.up hle2);(try have hstB:=hstB.up hle2);(try have hstC:=hstC.up hle2))
       all_goals (refine ZaM ?_;refine zb5 [_,_,_,_,_,_,_,_,_] ?_;refine Zch ?_;refine ZaE ?_;(first|(refine zsn hS ?_;intro w1 hS;have hS:=hS.ns)|(refine zsm hS ?_;intro w1 hS;have hS:=hS.ns));refine ZaA ?_;have hk9:blkhR.at c9 _ ⟨x2,uc,ps1.length⟩:=Q8F (x:=⟨x2,uc,ps1.length⟩) hk3 huc hy1 hy2 hz1 hz2 hw1;refine ZbA ?_;refine zB1 hS [_,_,_,_,_,_,_,_,_,_,_,_] ?_;intro b1 w1 hS;refine za Q7h Q9T hS ?_;intro vp2 w2 css2 hls2 hv2 hS;have hS:=hS.ns;refine Zbf ?_;intro w1 hS;have hS:=hS.ns;refine Zcj ?_;exact ⟨⟨_,i+1,_,_,bs++[⟨x2,uc,ps1.length⟩],ps1++[(uc,cssC)],zh,zh,hL1,(by omega),(by rw [List.map_append,hbs,Qq hx2];rfl),(by rw [List.length_append,hbl];rfl),by assumption,(by rw [←List.append_assoc];exact hstC),by assumption,hS.sp⟩,Q4 (by omega)⟩)
   · skip
     all_goals (refine zex ?_)
     all_goals (rw [List.take_of_length_le (by omega)] at hbs;obtain ⟨c10,hle2,hS,hk6⟩:=St.freezeL (r:=blkhR) (l:=bs) hS hlsB rfl (by have:=hsh.2.2.1;omega);obtain ⟨a6,n6,rfl⟩:=Rep.SR.shape hk6;(try have hle:=hle.trans hle2);(try have hL0:=hL0.trans hle2);(try have hL1:=hL1.trans hle2);(try have hJ6:=hJ6.trans hle2);(try have hf:=hf.up hle2);(try have hk1:=hk1.up hle2);(try have hk2:=hk2.up hle2);(try have hp1:=hp1.up hle2);(try have hr1:=hr1.up hle2);(try have hb1:=hb1.up hle2);(try have he1:=he1.up hle2);(try have hls:=hls.up hle2);(try have hlsB:=hlsB.up hle2);(try have hst:=hst.up hle2);(try have hstB:=hstB.up hle2))
     all_goals (have hk9:funhR.at c10 _ ⟨x1.regs,x1.params,x1.results,bs⟩:=⟨_,_,_,rfl,hk1,hk2,hk6⟩;refine ZbA ?_;refine zB1 hS [_,_,_,_] ?_;intro b1 w1 hS;refine za Q7i Q9U hS ?_;intro vp3 w3 css3 hls3 hv3 hS;have hS:=hS.ns;refine Zbf ?_;intro w1 hS;have hS:=hS.ns;refine Zcj ?_;exact ⟨⟨_,j+1,_,_,fs++[⟨x1.regs,x1.params,x1.results,bs⟩],ps1,zh,zh,hL0,(by omega),(by rw [List.map_append,hfs,Qq hx1];show _++[Fun.mk _ _ _ (bs.map (·.b))]=_;rw [hbs]),(by rw [List.length_append,hfl];rfl),by assumption,(by rw [List.flatMap_append,List.flatMap_cons,List.flatMap_nil,List.append_nil];exact hstB),by assumption,hS.sp⟩,Q4 (by omega)⟩)
 · skip
   all_goals (refine zex ?_;refine ZaF ?_;refine zsn hS ?_;intro w1 hS;have hS:=hS.ns;refine ZaY ?_;refine QK vw (Q3 (n:=1) (by kernel_rfl) (by kernel_rfl) (hS.blkAt fd) (by rfl) (by rfl)) ?_;exact ⟨_,rfl,k0,u,css,fs,ps,rfl,hle,hu,⟨(by rw [hfs,List.take_of_length_le (by omega)]),hls,hst⟩,hS.sp⟩)
theorem QbT {x:Module}(hsm:x.Short){cx:Cx}{w:World}{L:List Res}{cs:List Value}(hx:modR.at cx cs x) (hS:St cx w L):Rets Tryz.prog Qbr [.agg ⟨cs⟩] w fun u w'=>∃c' u0 css fs ps,u= .agg ⟨[u0]⟩∧cx.Le c'∧oneC u0=true∧OwnC c' x.funcs css fs ps∧St c' w' (sl 95 4 u0 css::Q22 84 ps::L):=by
 obtain ⟨vf,rfl,hf⟩:=QP hx
 obtain ⟨l⟩:=x
 have hf:funcR.sl cx vf l:=hf
 have hsl:l.length≤100000:=hsm.1
 have hsm:∀f∈l,f.Short:=hsm.2
 have hle:=St.refl hS
 have hS:=St.big_nil (fun p:Value×List (List Value)=>sl 84 8 p.1 p.2) hS
 all_goals refine lgo tyD Tryz.func64 ?_
 all_goals (refine Zaw ?_;intro p1 w1 hS;refine Qb hS ?_;intro p2 w1 hS;refine zn ?_;refine Zbz ?_;intro p3 w1 hS;refine zn ?_;refine Zci ?_)
 refine zo [2,3,13,14] (fun A ρ' w'=>∃(k0:Cx) (j:Nat) (u:Value) (css:List (List Value)) (fs:List FunH) (ps:List (Value×List (List Value))),Has ρ' A∧Has ρ' [(15, .int .i64 j)]∧(cx.Le k0)∧(j≤l.length)∧(fs.map FunH.to=l.take j)∧(fs.length=j)∧(funhR.ls k0 css fs)∧(Stor k0 ps (fs.flatMap (·.blocks)))∧(oneC u=true)∧St k0 w' (sl 95 4 u css::blk p3 24 [u]::blk p2 24 [.slice none 0 0]::blk p1 24 [vf]::Q22 84 ps::L)) (fun ρ' _=>(l.length - iv (ρ' 15)).toNat) ?_ ?_
 · exact ⟨cx,0, .slice none 0 0,[],[],[],zh,zh,St.refl hS,(by omega),rfl,rfl,Rep.LR.nil _ _ _,Stor.nil,rfl,by have hS:=hS.nil (T:=95) (es:=4);exact hS.sp⟩
 rintro ρ w1 ⟨k0,j,u,css,fs,ps,hA,hρ,hle2,hj,hfs,hfl,hls,hst,hu,hS⟩;obtain ⟨ρ,rfl⟩:=env2 hA hρ;have hL0:=hle2;(try have hle:=hle.trans hle2);(try have hf:=hf.up hle2)
 all_goals (refine ZaV ?_)
 refine Q5 rfl (fun hc=>?_) (fun hc=>?_)
 · skip
   all_goals (refine ZbT ?_;intro b1 o1 cs1 x1 hat1 hx1 he1;obtain ⟨vp1,vr1,vb1,rfl,hp1,hr1,hb1⟩:=Qo he1;refine ZaC ?_;intro p5 w1 hS;refine zsn hS ?_;intro w1 hS;have hS:=hS.ns;refine zn ?_;have hsh:=hsm x1 (List.mem_of_getElem? hx1);have hlb:=hsh.2.2.1)
   have hJ6:=St.refl hS
   refine zML hS [2,3,5,13,14,15] (fun A LL ρ' w'=>∃(k6:Cx) (a1 a2:Option Addr) (n1 n2 p6:Nat),Has ρ' A∧Has ρ' [(6, .pointer (some ⟨p6,0,none⟩))]∧(k0.Le k6)∧(tyR.sl k6 (.slice a1 x1.params.length n1) x1.params)∧(tyR.sl k6 (.slice a2 x1.results.length n2) x1.results)∧St k6 w' (blk p6 95 [.int .i64 x1.regs, .slice a1 x1.params.length n1, .slice a2 x1.results.length n2, .slice none 0 0]::LL)) ?_ ?_
   · skip
     refine Q1F 4 9 (by kernel_rfl) ?_ ?_
     · skip
       refine Q1F 7 9 (by kernel_rfl) ?_ ?_
       · skip
         all_goals (refine zC [(0,none),(1,none),(2,none),(3,none),(5,none),(6,none),(4,some (some [1,6])),(7,some (some [1])),(8,none),(9,some (some [1])),(10,some none)] ?_;have hS:=hS.drew;refine Zcq ?_)
         all_goals (refine zR1 (c:=Q1Q hsh.1.1 hsh.1.2 hp1 hS) (h:=?_);rintro v1 w1 ⟨c1,hle2,hk1,hS⟩;obtain ⟨a1,n1,rfl⟩:=Rep.SR.shape hk1;(try have hle:=hle.trans hle2);(try have hL0:=hL0.trans hle2);(try have hJ6:=hJ6.trans hle2);(try have hf:=hf.up hle2);(try have hp1:=hp1.up hle2);(try have hr1:=hr1.up hle2);(try have hb1:=hb1.up hle2);(try have he1:=he1.up hle2);(try have hls:=hls.up hle2);(try have hst:=hst.up hle2))
         all_goals (refine ZaH ?_)
         all_goals (refine zR1 (c:=Q1Q hsh.2.1.1 hsh.2.1.2 hr1 hS) (h:=?_);rintro v1 w1 ⟨c2,hle2,hk2,hS⟩;obtain ⟨a2,n2,rfl⟩:=Rep.SR.shape hk2;(try have hle:=hle.trans hle2);(try have hL0:=hL0.trans hle2);(try have hJ6:=hJ6.trans hle2);(try have hf:=hf.up hle2);(try have hk1:=hk1.up hle2);(try have hp1:=hp1.up hle2);(try have hr1:=hr1.up hle2);(try have hb1:=hb1.up hle2);(try have he1:=he1.up hle2);(try have hls:=hls.up hle2);(try have hst:=hst.up hle2))
         all_goals (refine ZaM ?_;refine zb3 [_,_,_,_] ?_;refine ZaO ?_;intro p6 w1 hS;refine ZaZ ?_;refine zsn hS ?_;intro w1 hS;have hS:=hS.ns;refine ZaA ?_;exact ⟨_,a1,a2,n1,n2,p6,zh,zh,hJ6,by assumption,by assumption,hS.sp⟩)
       · skip
         all_goals (refine zC [(0,none),(1,none),(2,none),(3,none),(5,none),(6,none),(4,some (some [1,6])),(9,some (some [1,6])),(7,some (some [1])),(8,none),(10,some none)] ?_;have hS:=hS.drew;refine Zcq ?_)
         all_goals (refine zR1 (c:=Q1Q hsh.1.1 hsh.1.2 hp1 hS) (h:=?_);rintro v1 w1 ⟨c1,hle2,hk1,hS⟩;obtain ⟨a1,n1,rfl⟩:=Rep.SR.shape hk1;(try have hle:=hle.trans hle2);(try have hL0:=hL0.trans hle2);(try have hJ6:=hJ6.trans hle2);(try have hf:=hf.up hle2);(try have hp1:=hp1.up hle2);(try have hr1:=hr1.up hle2);(try have hb1:=hb1.up hle2);(try have he1:=he1.up hle2);(try have hls:=hls.up hle2);(try have hst:=hst.up hle2))
         all_goals (refine ZaH ?_;refine Qb hS ?_;intro p6 w1 hS;refine ZaH ?_)
         all_goals (refine zR1 (c:=Q1Q hsh.2.1.1 hsh.2.1.2 hr1 hS) (h:=?_);rintro v1 w1 ⟨c2,hle2,hk2,hS⟩;obtain ⟨a2,n2,rfl⟩:=Rep.SR.shape hk2;(try have hle:=hle.trans hle2);(try have hL0:=hL0.trans hle2);(try have hJ6:=hJ6.trans hle2);(try have hf:=hf.up hle2);(try have hk1:=hk1.up hle2);(try have hp1:=hp1.up hle2);(try have hr1:=hr1.up hle2);(try have hb1:=hb1.up hle2);(try have he1:=he1.up hle2);(try have hls:=hls.up hle2);(try have hst:=hst.up hle2))
         all_goals (refine ZaM ?_;refine zb3 [_,_,_,_] ?_;refine ZaE ?_;refine zsn hS ?_;intro w1 hS;have hS:=hS.ns;refine ZaA ?_;exact ⟨_,a1,a2,n1,n2,p6,zh,zh,hJ6,by assumption,by assumption,hS.sp⟩)
     · skip
       all_goals (refine zC [(0,none),(1,none),(2,none),(3,none),(5,none),(6,none),(9,some (some [1,3,6])),(4,some (some [1,6])),(7,some (some [1])),(8,none),(10,some none)] ?_;have hS:=hS.drew;refine Zby ?_;refine Zam ?_;refine ZaO ?_;intro p6 w1 hS;refine ZaH ?_)
       all_goals (refine zR1 (c:=Q1Q hsh.1.1 hsh.1.2 hp1 hS) (h:=?_);rintro v1 w1 ⟨c1,hle2,hk1,hS⟩;obtain ⟨a1,n1,rfl⟩:=Rep.SR.shape hk1;(try have hle:=hle.trans hle2);(try have hL0:=hL0.trans hle2);(try have hJ6:=hJ6.trans hle2);(try have hf:=hf.up hle2);(try have hp1:=hp1.up hle2);(try have hr1:=hr1.up hle2);(try have hb1:=hb1.up hle2);(try have he1:=he1.up hle2);(try have hls:=hls.up hle2);(try have hst:=hst.up hle2))
       all_goals (refine ZaH ?_)
       all_goals (refine zR1 (c:=Q1Q hsh.2.1.1 hsh.2.1.2 hr1 hS) (h:=?_);rintro v1 w1 ⟨c2,hle2,hk2,hS⟩;obtain ⟨a2,n2,rfl⟩:=Rep.SR.shape hk2;(try have hle:=hle.trans hle2);(try have hL0:=hL0.trans hle2);(try have hJ6:=hJ6.trans hle2);(try have hf:=hf.up hle2);(try have hk1:=hk1.up hle2);(try have hp1:=hp1.up hle2);(try have hr1:=hr1.up hle2);(try have hb1:=hb1.up hle2);(try have he1:=he1.up hle2);(try have hls:=hls.up hle2);(try have hst:=hst.up hle2))
       all_goals (refine ZaM ?_;refine zb3 [_,_,_,_] ?_;refine ZaE ?_;refine zsn hS ?_;intro w1 hS;have hS:=hS.ns;refine ZaA ?_;exact ⟨_,a1,a2,n1,n2,p6,zh,zh,hJ6,by assumption,by assumption,hS.sp⟩)
   rintro ρ w1 ⟨k6,a1,a2,n1,n2,p6,hA,hρ,hle2,hk1,hk2,hS⟩;obtain ⟨ρ,rfl⟩:=env2 hA hρ;(try have hle:=hle.trans hle2);(try have hL0:=hL0.trans hle2);(try have hJ6:=hJ6.trans hle2);(try have hf:=hf.up hle2);(try have hp1:=hp1.up hle2);(try have hr1:=hr1.up hle2);(try have hb1:=hb1.up hle2);(try have he1:=he1.up hle2);(try have hls:=hls.up hle2);(try have hst:=hst.up hle2)
   all_goals (refine Zci ?_)
   refine zo [2,3,6,13,14,15,29,30] (fun A ρ' w'=>∃(k1:Cx) (i:Nat) (ub:Value) (cssB:List (List Value)) (bs:List BlkH) (ps1:List (Value×List (List Value))),Has ρ' A∧Has ρ' [(31, .int .i64 i)]∧(k6.Le k1)∧(i≤x1.blocks.length)∧(bs.map (·.b)=x1.blocks.take i)∧(bs.length=i)∧(blkhR.ls k1 cssB bs)∧(Stor k1 ps1 (fs.flatMap (·.blocks)++bs))∧(oneC ub=true)∧St k1 w' (sl 92 12 ub cssB::blk p6 95 [.int .i64 x1.regs, .slice a1 x1.params.length n1, .slice a2 x1.results.length n2,ub]::blk p5 95 [.int .i64 x1.regs,vp1,vr1,vb1]::sl 95 4 u css::blk p3 24 [u]::blk p2 24 [.slice none 0 0]::blk p1 24 [vf]::Q22 84 ps1::L)) (fun ρ' _=>(x1.blocks.length - iv (ρ' 31)).toNat) ?_ ?_
   · exact ⟨k6,0, .slice none 0 0,[],[],ps,zh,zh,St.refl hS,(by omega),rfl,rfl,Rep.LR.nil _ _ _,(by rw [List.append_nil];exact hst),rfl,by have hS:=hS.nil (T:=92) (es:=12);exact hS.sp⟩
   rintro ρ w1 ⟨k1,i,ub,cssB,bs,ps1,hA,hρ,hle2,hi,hbs,hbl,hlsB,hstB,hub,hS⟩;obtain ⟨ρ,rfl⟩:=env2 hA hρ;have hL1:=hle2;(try have hle:=hle.trans hle2);(try have hL0:=hL0.trans hle2);(try have hJ6:=hJ6.trans hle2);(try have hf:=hf.up hle2);(try have hk1:=hk1.up hle2);(try have hk2:=hk2.up hle2);(try have hp1:=hp1.up hle2);(try have hr1:=hr1.up hle2);(try have hb1:=hb1.up hle2);(try have he1:=he1.up hle2);(try have hls:=hls.up hle2);(try have hst:=hst.up hle2)
   all_goals (refine ZaV ?_)
   refine Q5 rfl (fun hc=>?_) (fun hc=>?_)
   · skip
     all_goals (refine ZbT ?_;intro b2 o2 cs2 x2 hat2 hx2 he2;obtain ⟨vp2,vc2,ve21,ve22,ve23,ve24,ve25,rfl,hp2,hc2,he21,he22,he23,he24,he25⟩:=QC he2;refine ZaC ?_;intro p8 w1 hS;refine zsn hS ?_;intro w1 hS;have hS:=hS.ns;refine zn ?_;have hsb:=hsh.2.2.2 x2 (List.mem_of_getElem? hx2);have hlc:=hsb.2.1)
     have hJ10:=St.refl hS
     refine zML hS [2,3,6,8,13,14,15,29,30,31] (fun A LL ρ' w'=>∃(k10:Cx) (a3:Option Addr) (n3 p9:Nat),Has ρ' A∧Has ρ' [(9, .pointer (some ⟨p9,0,none⟩))]∧(k1.Le k10)∧(tyR.sl k10 (.slice a3 x2.params.length n3) x2.params)∧St k10 w' (blk p9 92 [.int .i64 x2.regs, .slice a3 x2.params.length n3, .slice none 0 0, .int .i64 x2.fin.op, .int .i64 x2.fin.a, .int .i64 x2.fin.yes.block,ve21,ve22, .int .i64 x2.fin.no.block,ve23,ve24,ve25]::LL)) ?_ ?_
     · skip
       all_goals (obtain ⟨q1,m1,rfl⟩:=Rep.SR.shape he21;obtain ⟨q2,m2,rfl⟩:=Rep.SR.shape he22;obtain ⟨q3,m3,rfl⟩:=Rep.SR.shape he23;obtain ⟨q4,m4,rfl⟩:=Rep.SR.shape he24;obtain ⟨q5,m5,rfl⟩:=Rep.SR.shape he25)
       refine Q1F 4 8 (by kernel_rfl) ?_ ?_
       · skip
         all_goals (refine zC [(0,none),(1,none),(2,none),(3,none),(5,none),(6,none),(4,some (some [1,6])),(7,none),(8,some (some [1,6])),(9,some none)] ?_;have hS:=hS.drew;refine Zby ?_;refine Zah ?_;refine zv hS ?_;refine Zat ?_)
         all_goals (refine zR1 (c:=Q1Q hsb.1.1 hsb.1.2 hp2 hS) (h:=?_);rintro v1 w1 ⟨c3,hle2,hk3,hS⟩;obtain ⟨a3,n3,rfl⟩:=Rep.SR.shape hk3;(try have hle:=hle.trans hle2);(try have hL0:=hL0.trans hle2);(try have hL1:=hL1.trans hle2);(try have hJ6:=hJ6.trans hle2);(try have hJ10:=hJ10.trans hle2);(try have hf:=hf.up hle2);(try have hk1:=hk1.up hle2);(try have hk2:=hk2.up hle2);(try have hp1:=hp1.up hle2);(try have hr1:=hr1.up hle2);(try have hb1:=hb1.up hle2);(try have hp2:=hp2.up hle2);(try have hc2:=hc2.up hle2);(try have he21:=he21.up hle2);(try have he22:=he22.up hle2);(try have he23:=he23.up hle2);(try have he24:=he24.up hle2);(try have he25:=he25.up hle2);(try have he1:=he1.up hle2);(try have he2:=he2.up hle2);(try have hls:=hls.up hle2);(try have hlsB:=hlsB.up hle2);(try have hst:=hst.up hle2);(try have hstB:=hstB.up hle2))
         all_goals (refine ZaM ?_;refine zb3 [_,_,_,_,_,_,_,_,_,_,_,_] ?_;refine ZaO ?_;intro p9 w1 hS;refine ZaZ ?_;refine zsn hS ?_;intro w1 hS;have hS:=hS.ns;refine ZaA ?_;exact ⟨_,a3,n3,p9,zh,zh,hJ10,by assumption,hS.sp⟩)
       · skip
         all_goals (refine zC [(0,none),(1,none),(2,none),(3,none),(5,none),(6,none),(8,some (some [1,3,6])),(4,some (some [1,6])),(7,none),(9,some none)] ?_;have hS:=hS.drew;refine Zby ?_;refine Zah ?_;refine zv hS ?_;refine ZaO ?_;intro p9 w1 hS;refine ZaH ?_)
         all_goals (refine zR1 (c:=Q1Q hsb.1.1 hsb.1.2 hp2 hS) (h:=?_);rintro v1 w1 ⟨c3,hle2,hk3,hS⟩;obtain ⟨a3,n3,rfl⟩:=Rep.SR.shape hk3;(try have hle:=hle.trans hle2);(try have hL0:=hL0.trans hle2);(try have hL1:=hL1.trans hle2);(try have hJ6:=hJ6.trans hle2);(try have hJ10:=hJ10.trans hle2);(try have hf:=hf.up hle2);(try have hk1:=hk1.up hle2);(try have hk2:=hk2.up hle2);(try have hp1:=hp1.up hle2);(try have hr1:=hr1.up hle2);(try have hb1:=hb1.up hle2);(try have hp2:=hp2.up hle2);(try have hc2:=hc2.up hle2);(try have he21:=he21.up hle2);(try have he22:=he22.up hle2);(try have he23:=he23.up hle2);(try have he24:=he24.up hle2);(try have he25:=he25.up hle2);(try have he1:=he1.up hle2);(try have he2:=he2.up hle2);(try have hls:=hls.up hle2);(try have hlsB:=hlsB.up hle2);(try have hst:=hst.up hle2);(try have hstB:=hstB.up hle2))
         all_goals (refine ZaM ?_;refine zb3 [_,_,_,_,_,_,_,_,_,_,_,_] ?_;refine ZaE ?_;refine zsn hS ?_;intro w1 hS;have hS:=hS.ns;refine ZaA ?_;exact ⟨_,a3,n3,p9,zh,zh,hJ10,by assumption,hS.sp⟩)
     rintro ρ w1 ⟨k10,a3,n3,p9,hA,hρ,hle2,hk3,hS⟩;obtain ⟨ρ,rfl⟩:=env2 hA hρ;(try have hle:=hle.trans hle2);(try have hL0:=hL0.trans hle2);(try have hL1:=hL1.trans hle2);(try have hJ6:=hJ6.trans hle2);(try have hJ10:=hJ10.trans hle2);(try have hf:=hf.up hle2);(try have hk1:=hk1.up hle2);(try have hk2:=hk2.up hle2);(try have hp1:=hp1.up hle2);(try have hr1:=hr1.up hle2);(try have hb1:=hb1.up hle2);(try have hp2:=hp2.up hle2);(try have hc2:=hc2.up hle2);(try have he21:=he21.up hle2);(try have he22:=he22.up hle2);(try have he23:=he23.up hle2);(try have he24:=he24.up hle2);(try have he25:=he25.up hle2);(try have he1:=he1.up hle2);(try have he2:=he2.up hle2);(try have hls:=hls.up hle2);(try have hlsB:=hlsB.up hle2);(try have hst:=hst.up hle2);(try have hstB:=hstB.up hle2)
     all_goals (refine QJ ?_;refine zC [(0,none),(1,none),(2,none),(4,none),(5,none),(6,none),(8,none),(9,none),(10,none),(3,some (some [6,10])),(12,none),(13,none),(7,some (some [10])),(11,some (some [])),(14,some none),(15,none),(16,none),(17,some none),(18,none),(19,none),(20,some none)] ?_;have hS:=hS.drew;refine s_cq ?_;refine Zah ?_;refine Zbh ?_;refine zv hS ?_;refine ZbR ?_;refine zv hS ?_;refine ZbR ?_;refine zl hS ?_;refine Zat ?_)
     all_goals (refine zR1 (c:=Q6h (x:=x2.fin.yes) (by have:=hsb.2.2.2.1.1;omega) (by have:=hsb.2.2.2.1.2;omega) ⟨_,_,rfl,he21,he22⟩ hS) (h:=?_);rintro v1 w1 ⟨c7,ds,rfl,hle2,hk7,hS⟩;obtain ⟨y1,y2,rfl,hy1,hy2⟩:=Q1N hk7;obtain ⟨a7,n7,rfl⟩:=Rep.SR.shape hy1;obtain ⟨a8,n8,rfl⟩:=Rep.SR.shape hy2;(try have hle:=hle.trans hle2);(try have hL0:=hL0.trans hle2);(try have hL1:=hL1.trans hle2);(try have hJ6:=hJ6.trans hle2);(try have hJ10:=hJ10.trans hle2);(try have hf:=hf.up hle2);(try have hk1:=hk1.up hle2);(try have hk2:=hk2.up hle2);(try have hk3:=hk3.up hle2);(try have hp1:=hp1.up hle2);(try have hr1:=hr1.up hle2);(try have hb1:=hb1.up hle2);(try have hp2:=hp2.up hle2);(try have hc2:=hc2.up hle2);(try have he21:=he21.up hle2);(try have he22:=he22.up hle2);(try have he23:=he23.up hle2);(try have he24:=he24.up hle2);(try have he25:=he25.up hle2);(try have he1:=he1.up hle2);(try have he2:=he2.up hle2);(try have hls:=hls.up hle2);(try have hlsB:=hlsB.up hle2);(try have hst:=hst.up hle2);(try have hstB:=hstB.up hle2))
     all_goals (refine ZaM ?_;refine Zah ?_;refine Yae ?_;refine Zat ?_)
     all_goals (refine zR1 (c:=Q6h (x:=x2.fin.no) (by have:=hsb.2.2.2.2.1.1;omega) (by have:=hsb.2.2.2.2.1.2;omega) ⟨_,_,rfl,he23,he24⟩ hS) (h:=?_);rintro v1 w1 ⟨c8,ds,rfl,hle2,hk8,hS⟩;obtain ⟨z1,z2,rfl,hz1,hz2⟩:=Q1N hk8;obtain ⟨a9,n9,rfl⟩:=Rep.SR.shape hz1;obtain ⟨a10,n10,rfl⟩:=Rep.SR.shape hz2;(try have hle:=hle.trans hle2);(try have hL0:=hL0.trans hle2);(try have hL1:=hL1.trans hle2);(try have hJ6:=hJ6.trans hle2);(try have hJ10:=hJ10.trans hle2);(try have hf:=hf.up hle2);(try have hk1:=hk1.up hle2);(try have hk2:=hk2.up hle2);(try have hk3:=hk3.up hle2);(try have hk7:=hk7.up hle2);(try have hp1:=hp1.up hle2);(try have hr1:=hr1.up hle2);(try have hb1:=hb1.up hle2);(try have hp2:=hp2.up hle2);(try have hc2:=hc2.up hle2);(try have he21:=he21.up hle2);(try have he22:=he22.up hle2);(try have he23:=he23.up hle2);(try have he24:=he24.up hle2);(try have he25:=he25.up hle2);(try have he1:=he1.up hle2);(try have he2:=he2.up hle2);(try have hls:=hls.up hle2);(try have hy1:=hy1.up hle2);(try have hy2:=hy2.up hle2);(try have hlsB:=hlsB.up hle2);(try have hst:=hst.up hle2);(try have hstB:=hstB.up hle2))
     all_goals (refine ZaH ?_)
     all_goals (refine zR1 (c:=Q2U (by have:=hsb.2.2.2.2.2;omega) he25 hS) (h:=?_);rintro v1 w1 ⟨c9,hle2,hw1,hS⟩;obtain ⟨a11,n11,rfl⟩:=Rep.SR.shape hw1;(try have hle:=hle.trans hle2);(try have hL0:=hL0.trans hle2);(try have hL1:=hL1.trans hle2);(try have hJ6:=hJ6.trans hle2);(try have hJ10:=hJ10.trans hle2);(try have hf:=hf.up hle2);(try have hk1:=hk1.up hle2);(try have hk2:=hk2.up hle2);(try have hk3:=hk3.up hle2);(try have hk7:=hk7.up hle2);(try have hk8:=hk8.up hle2);(try have hp1:=hp1.up hle2);(try have hr1:=hr1.up hle2);(try have hb1:=hb1.up hle2);(try have hp2:=hp2.up hle2);(try have hc2:=hc2.up hle2);(try have he21:=he21.up hle2);(try have he22:=he22.up hle2);(try have he23:=he23.up hle2);(try have he24:=he24.up hle2);(try have he25:=he25.up hle2);(try have he1:=he1.up hle2);(try have he2:=he2.up hle2);(try have hls:=hls.up hle2);(try have hy1:=hy1.up hle2);(try have hy2:=hy2.up hle2);(try have hz1:=hz1.up hle2);(try have hz2:=hz2.up hle2);(try have hlsB:=hlsB.up hle2);(try have hst:=hst.up hle2);(try have hstB:=hstB.up hle2))
     all_goals (refine ZaZ ?_;(first|(refine zsn hS ?_;intro w1 hS;have hS:=hS.ns)|(refine zsm hS ?_;intro w1 hS;have hS:=hS.ns));refine Zbd ?_;refine Yae ?_;refine ZaE ?_;(first|(refine zsn hS ?_;intro w1 hS;have hS:=hS.ns)|(refine zsm hS ?_;intro w1 hS;have hS:=hS.ns));refine Zbd ?_;refine Yae ?_;refine ZaE ?_;refine zst hS ?_;intro w1 hS;have hS:=hS.ns;refine ZaA ?_;refine Zci ?_)
     refine zo [2,3,6,9,13,14,15,29,30,31,62,63] (fun A ρ' w'=>∃(k2:Cx) (k:Nat) (uc:Value) (cssC:List (List Value)),Has ρ' A∧Has ρ' [(64, .int .i64 k)]∧(c9.Le k2)∧(k≤x2.code.length)∧(insR.ls k2 cssC (x2.code.take k))∧(oneC uc=true)∧St k2 w' (sl 84 8 uc cssC::blk p9 92 [.int .i64 x2.regs, .slice a3 x2.params.length n3,uc, .int .i64 x2.fin.op, .int .i64 x2.fin.a, .int .i64 x2.fin.yes.block, .slice a7 x2.fin.yes.regs.length n7, .slice a8 x2.fin.yes.args.length n8, .int .i64 x2.fin.no.block, .slice a9 x2.fin.no.regs.length n9, .slice a10 x2.fin.no.args.length n10, .slice a11 x2.fin.args.length n11]::blk p8 92 [.int .i64 x2.regs,vp2,vc2, .int .i64 x2.fin.op, .int .i64 x2.fin.a, .int .i64 x2.fin.yes.block,ve21,ve22, .int .i64 x2.fin.no.block,ve23,ve24,ve25]::sl 92 12 ub cssB::blk p6 95 [.int .i64 x1.regs, .slice a1 x1.params.length n1, .slice a2 x1.results.length n2,ub]::blk p5 95 [.int .i64 x1.regs,vp1,vr1,vb1]::sl 95 4 u css::blk p3 24 [u]::blk p2 24 [.slice none 0 0]::blk p1 24 [vf]::Q22 84 ps1::L)) (fun ρ' _=>(x2.code.length - iv (ρ' 64)).toNat) ?_ ?_
     · exact ⟨c9,0, .slice none 0 0,[],zh,zh,St.refl hS,(by omega),Rep.LR.nil _ _ _,rfl,by have hS:=hS.nil (T:=84) (es:=8);exact hS.sp⟩
     rintro ρ w1 ⟨k2,k,uc,cssC,hA,hρ,hle2,hkk,hlsC,huc,hS⟩;obtain ⟨ρ,rfl⟩:=env2 hA hρ;have hL2:=hle2;(try have hle:=hle.trans hle2);(try have hL0:=hL0.trans hle2);(try have hL1:=hL1.trans hle2);(try have hJ6:=hJ6.trans hle2);(try have hJ10:=hJ10.trans hle2);(try have hf:=hf.up hle2);(try have hk1:=hk1.up hle2);(try have hk2:=hk2.up hle2);(try have hk3:=hk3.up hle2);(try have hk7:=hk7.up hle2);(try have hk8:=hk8.up hle2);(try have hp1:=hp1.up hle2);(try have hr1:=hr1.up hle2);(try have hb1:=hb1.up hle2);(try have hp2:=hp2.up hle2);(try have hc2:=hc2.up hle2);(try have he21:=he21.up hle2);(try have he22:=he22.up hle2);(try have he23:=he23.up hle2);(try have he24:=he24.up hle2);(try have he25:=he25.up hle2);(try have he1:=he1.up hle2);(try have he2:=he2.up hle2);(try have hls:=hls.up hle2);(try have hy1:=hy1.up hle2);(try have hy2:=hy2.up hle2);(try have hz1:=hz1.up hle2);(try have hz2:=hz2.up hle2);(try have hw1:=hw1.up hle2);(try have hlsB:=hlsB.up hle2);(try have hst:=hst.up hle2);(try have hstB:=hstB.up hle2)
     all_goals (refine ZaV ?_)
     refine Q5 rfl (fun hc=>?_) (fun hc=>?_)
     · skip
       all_goals (refine ZbT ?_;intro b3 o3 cs3 x3 hat3 hx3 he3;obtain ⟨vr3,va3,rfl,hr3,ha3⟩:=QG he3;refine ZaC ?_;intro p11 w1 hS;refine zsn hS ?_;intro w1 hS;have hS:=hS.ns;refine Zbe ?_;have hsi:=hsb.2.2.1 x3 (List.mem_of_getElem? hx3);refine zC [(0,none),(1,none),(3,none),(4,none),(2,some (some [4])),(6,none),(5,some (some [])),(7,some none),(8,none),(9,some none)] ?_;have hS:=hS.drew;refine ZaR ?_;refine Zbn ?_)
       all_goals (refine zR1 (c:=Q2U (by have:=hsi.1;omega) hr3 hS) (h:=?_);rintro v1 w1 ⟨c4,hle2,hk4,hS⟩;obtain ⟨a4,n4,rfl⟩:=Rep.SR.shape hk4;(try have hle:=hle.trans hle2);(try have hL0:=hL0.trans hle2);(try have hL1:=hL1.trans hle2);(try have hL2:=hL2.trans hle2);(try have hJ6:=hJ6.trans hle2);(try have hJ10:=hJ10.trans hle2);(try have hf:=hf.up hle2);(try have hk1:=hk1.up hle2);(try have hk2:=hk2.up hle2);(try have hk3:=hk3.up hle2);(try have hk7:=hk7.up hle2);(try have hk8:=hk8.up hle2);(try have hp1:=hp1.up hle2);(try have hr1:=hr1.up hle2);(try have hb1:=hb1.up hle2);(try have hp2:=hp2.up hle2);(try have hc2:=hc2.up hle2);(try have he21:=he21.up hle2);(try have he22:=he22.up hle2);(try have he23:=he23.up hle2);(try have he24:=he24.up hle2);(try have he25:=he25.up hle2);(try have hr3:=hr3.up hle2);(try have ha3:=ha3.up hle2);(try have he1:=he1.up hle2);(try have he2:=he2.up hle2);(try have he3:=he3.up hle2);(try have hls:=hls.up hle2);(try have hy1:=hy1.up hle2);(try have hy2:=hy2.up hle2);(try have hz1:=hz1.up hle2);(try have hz2:=hz2.up hle2);(try have hw1:=hw1.up hle2);(try have hlsB:=hlsB.up hle2);(try have hlsC:=hlsC.up hle2);(try have hst:=hst.up hle2);(try have hstB:=hstB.up hle2))
       all_goals (refine ZaM ?_;refine zf0 ?_;refine Zat ?_)
       all_goals (refine zR1 (c:=Q2U (by have:=hsi.2;omega) ha3 hS) (h:=?_);rintro v1 w1 ⟨c5,hle2,hk5,hS⟩;obtain ⟨a5,n5,rfl⟩:=Rep.SR.shape hk5;(try have hle:=hle.trans hle2);(try have hL0:=hL0.trans hle2);(try have hL1:=hL1.trans hle2);(try have hL2:=hL2.trans hle2);(try have hJ6:=hJ6.trans hle2);(try have hJ10:=hJ10.trans hle2);(try have hf:=hf.up hle2);(try have hk1:=hk1.up hle2);(try have hk2:=hk2.up hle2);(try have hk3:=hk3.up hle2);(try have hk4:=hk4.up hle2);(try have hk7:=hk7.up hle2);(try have hk8:=hk8.up hle2);(try have hp1:=hp1.up hle2);(try have hr1:=hr1.up hle2);(try have hb1:=hb1.up hle2);(try have hp2:=hp2.up hle2);(try have hc2:=hc2.up hle2);(try have he21:=he21.up hle2);(try have he22:=he22.up hle2);(try have he23:=he23.up hle2);(try have he24:=he24.up hle2);(try have he25:=he25.up hle2);(try have hr3:=hr3.up hle2);(try have ha3:=ha3.up hle2);(try have he1:=he1.up hle2);(try have he2:=he2.up hle2);(try have he3:=he3.up hle2);(try have hls:=hls.up hle2);(try have hy1:=hy1.up hle2);(try have hy2:=hy2.up hle2);(try have hz1:=hz1.up hle2);(try have hz2:=hz2.up hle2);(try have hw1:=hw1.up hle2);(try have hlsB:=hlsB.up hle2);(try have hlsC:=hlsC.up hle2);(try have hst:=hst.up hle2);(try have hstB:=hstB.up hle2))
       all_goals (refine ZaZ ?_;refine zst hS ?_;intro w1 hS;have hS:=hS.ns;refine Zch ?_;refine ZaE ?_;refine zst hS ?_;intro w1 hS;have hS:=hS.ns;refine ZaA ?_;have hk9:insR.at c5 _ x3:=⟨_,_,rfl,hk4,hk5⟩;refine ZbA ?_;refine zB1 hS [_,_,_,_,_,_,_,_] ?_;intro b1 w1 hS;refine za Qbq u_T85 hS ?_;intro vp1 w1 css1 hls1 hv1 hS;have hS:=hS.ns;refine Zbf ?_;intro w1 hS;have hS:=hS.ns;refine ZbO ?_;exact ⟨⟨_,k+1,_,_,zh,zh,hL2,(by omega),by rw [Qq hx3];assumption,by assumption,hS.sp⟩,Q4 (by omega)⟩)
     · skip
       all_goals (refine zex ?_;rw [List.take_of_length_le (by omega)] at hlsC;have hstC:=hstB.push (b:=x2) (v:=uc) hlsC (by have:=hsb.2.1;omega);have hS:=St.big_push (x:=(uc,cssC)) (f:=fun p:Value×List (List Value)=>sl 84 8 p.1 p.2) (St.mv1 (hS.out (r:=Q22 84 ps1) fd));simp only [List.eraseIdx_cons_zero,List.eraseIdx_cons_succ] at hS;have hk9:blkhR.at k2 _ ⟨x2,uc,ps1.length⟩:=Q8F (x:=⟨x2,uc,ps1.length⟩) hk3 huc hy1 hy2 hz1 hz2 hw1;refine ZbA ?_;refine zB1 hS [_,_,_,_,_,_,_,_,_,_,_,_] ?_;intro b1 w1 hS;refine za Q7h Q9T hS ?_;intro vp2 w2 css2 hls2 hv2 hS;have hS:=hS.ns;refine Zbf ?_;intro w1 hS;have hS:=hS.ns;refine ZbO ?_;exact ⟨⟨_,i+1,_,_,bs++[⟨x2,uc,ps1.length⟩],ps1++[(uc,cssC)],zh,zh,hL1,(by omega),(by rw [List.map_append,hbs,Qq hx2];rfl),(by rw [List.length_append,hbl];rfl),by assumption,(by rw [←List.append_assoc];exact hstC),by assumption,hS.sp⟩,Q4 (by omega)⟩)
   · skip
     all_goals (refine zex ?_)
     all_goals (rw [List.take_of_length_le (by omega)] at hbs;obtain ⟨c10,hle2,hS,hk6⟩:=St.freezeL (r:=blkhR) (l:=bs) hS hlsB rfl (by have:=hsh.2.2.1;omega);obtain ⟨a6,n6,rfl⟩:=Rep.SR.shape hk6;(try have hle:=hle.trans hle2);(try have hL0:=hL0.trans hle2);(try have hL1:=hL1.trans hle2);(try have hJ6:=hJ6.trans hle2);(try have hf:=hf.up hle2);(try have hk1:=hk1.up hle2);(try have hk2:=hk2.up hle2);(try have hp1:=hp1.up hle2);(try have hr1:=hr1.up hle2);(try have hb1:=hb1.up hle2);(try have he1:=he1.up hle2);(try have hls:=hls.up hle2);(try have hlsB:=hlsB.up hle2);(try have hst:=hst.up hle2);(try have hstB:=hstB.up hle2))
     all_goals (have hk9:funhR.at c10 _ ⟨x1.regs,x1.params,x1.results,bs⟩:=⟨_,_,_,rfl,hk1,hk2,hk6⟩;refine ZbA ?_;refine zB1 hS [_,_,_,_] ?_;intro b1 w1 hS;refine za Q7i Q9U hS ?_;intro vp3 w3 css3 hls3 hv3 hS;have hS:=hS.ns;refine Zbf ?_;intro w1 hS;have hS:=hS.ns;refine ZbO ?_;exact ⟨⟨_,j+1,_,_,fs++[⟨x1.regs,x1.params,x1.results,bs⟩],ps1,zh,zh,hL0,(by omega),(by rw [List.map_append,hfs,Qq hx1];show _++[Fun.mk _ _ _ (bs.map (·.b))]=_;rw [hbs]),(by rw [List.length_append,hfl];rfl),by assumption,(by rw [List.flatMap_append,List.flatMap_cons,List.flatMap_nil,List.append_nil];exact hstB),by assumption,hS.sp⟩,Q4 (by omega)⟩)
 · skip
   all_goals (refine zex ?_;refine ZaF ?_;refine zsn hS ?_;intro w1 hS;have hS:=hS.ns;refine ZaY ?_;refine QK vw (Q3 (n:=1) (by kernel_rfl) (by kernel_rfl) (hS.blkAt fd) (by rfl) (by rfl)) ?_;exact ⟨_,rfl,k0,u,css,fs,ps,rfl,hle,hu,⟨(by rw [hfs,List.take_of_length_le (by omega)]),hls,hst⟩,hS.sp⟩)
end Go.Proofs.YteflkifmgnpbhaaGreat
namespace Go.Proofs.YteflkifmgnpbhaaGreat
open Go.Lir
set_option maxHeartbeats 1000000
attribute [local irreducible] LC.wp Q0 QB QH retQ Q1k LO.wp Qh Calls
set_option linter.unusedSimpArgs false
set_option linter.unusedVariables false
attribute [local irreducible] Q2M keepF Q2s pick idxs Q1M Q1y
variable {cx:Cx}{w:World}{L:List Res}
theorem calls_c {f:Fun}{cs:List Value}(hsh:f.Short) (h12:f.blocks.length≤12) (hok:∀y∈f.blocks,∀x∈y.code,x.op=14→0≤x.k) (hf:funcR.at cx cs f) (hS:St cx w L):Rets Tryz.prog QbC [.agg ⟨cs⟩] w fun u w'=>∃c',cx.Le c'∧intR.sl c' u ((Q1y f.blocks).map fun k:Nat=>(k:Int))∧St c' w' L:=by
 obtain ⟨vp,vr,vb,rfl,hp,hr,hb⟩:=Qo hf
 obtain ⟨a0,n0,rfl⟩:=Rep.SR.shape hb
 have hlen:=hb.len
 have hcl:=Q5I (l:=f.blocks) fun y hy=>(hsh.2.2.2 y hy).2.1
 all_goals refine lgo tyD Tryz.func88 ?_
 all_goals (refine Zaw ?_;intro p1 w1 hS;refine Zab ?_;refine Zaf ?_;refine Zci ?_)
 refine zo [9,10] (fun A ρ' w'=>∃(i:Nat) (vo:Value),Has ρ' A∧Has ρ' [(3,vo),(11, .int .i64 i)]∧(i≤f.blocks.length)∧((Q1y (f.blocks.take i)).length≤i*100000)∧St cx w' (sl 3 1 vo (((Q1y (f.blocks.take i)).map fun k:Nat=>(k:Int)).map QX)::blk p1 95 [.int .i64 f.regs,vp,vr, .slice a0 f.blocks.length n0]::L)) (fun ρ' _=>(f.blocks.length - iv (ρ' 11)).toNat) ?_ ?_
 · exact ⟨0, .slice none 0 0,zh,zh,(by omega),(by rw [List.take_zero];unfold Q1y;exact Nat.le_refl _),by have hS:=hS.nil (T:=3) (es:=1);rw [List.take_zero,show Q1y []=[] by unfold Q1y;rfl];exact hS.sp⟩
 rintro ρ w1 ⟨i,vo,hA,hρ,hi,hsz,hS⟩;obtain ⟨ρ,rfl⟩:=env2 hA hρ
 all_goals (refine ZaV ?_)
 refine Q5 rfl (fun hc=>?_) (fun hc=>?_)
 · skip
   all_goals (refine ZbT ?_;intro b1 o1 cs1 x1 hat1 hx1 he1;obtain ⟨vp1,vc1,ve11,ve12,ve13,ve14,ve15,rfl,hp1,hc1,he11,he12,he13,he14,he15⟩:=QC he1;refine ZaC ?_;intro p5 w1 hS;refine zsn hS ?_;intro w1 hS;have hS:=hS.ns;refine zn ?_;have hm1:=List.mem_of_getElem? hx1;have hcx:=(hsh.2.2.2 x1 hm1).2.1;have hcm:=Q5H (l:=x1.code);refine Zao ?_;refine Zbi ?_)
   refine zo [9,10,11,16,17] (fun A ρ' w'=>∃(k:Nat) (vo:Value),Has ρ' A∧Has ρ' [(3,vo),(18, .int .i64 k)]∧(k≤x1.code.length)∧St cx w' (sl 3 1 vo (((Q1y (f.blocks.take i)++Q1M (x1.code.take k)).map fun k:Nat=>(k:Int)).map QX)::blk p1 95 [.int .i64 f.regs,vp,vr, .slice a0 f.blocks.length n0]::L)) (fun ρ' _=>(x1.code.length - iv (ρ' 18)).toNat) ?_ ?_
   · exact ⟨0,vo,zh,zh,(by omega),by rw [List.take_zero,show Q1M []=[] by unfold Q1M;rfl,List.append_nil];exact hS.sp⟩
   rintro ρ w1 ⟨k,vo,hA,hρ,hk,hS⟩;obtain ⟨ρ,rfl⟩:=env2 hA hρ
   all_goals (refine ZaV ?_)
   refine Q5 rfl (fun hc=>?_) (fun hc=>?_)
   · skip
     all_goals (refine ZbT ?_;intro b2 o2 cs2 x2 hat2 hx2 he2;obtain ⟨vr2,va2,rfl,hr2,ha2⟩:=QG he2;refine ZaC ?_;intro p7 w1 hS;refine zsn hS ?_;intro w1 hS;have hS:=hS.ns;refine ZbP ?_)
     all_goals (first|(refine Qp ?_)|(refine Qu ?_)|(refine Q7 rfl rfl (fun hc=>?_) (fun hc=>?_)))
     all_goals (refine zn ?_)
     all_goals
      first
      | (refine zcf ?_
         all_goals refine zsk ?_)
      | (refine zct ?_
         all_goals (refine ZbH ?_;refine zB1 hS [_] ?_;intro b1 w1 hS;have hxk:=hok x1 hm1 x2 (List.mem_of_getElem? hx2) (by omega);have hil:=Q5H (l:=x1.code.take k);rw [List.length_take] at hil;refine Q3G Q3a (.inl Q61) hS vw vw fd (hS.srcB1 fd rfl) (by simp;omega) ?_;intro vq w2 hS;have hS:=hS.ns;have e9:((Q1y (f.blocks.take i)++Q1M (x1.code.take k)).map fun k:Nat=>(k:Int)).map QX++[[Value.int .i64 x2.k]]=((Q1y (f.blocks.take i)++Q1M (x1.code.take (k+1))).map fun k:Nat=>(k:Int)).map QX:=(by rw [Q3v hx2,if_pos (by omega)];simp only [List.map_append,List.map_cons,List.map_nil,List.append_assoc];rw [Int.toNat_of_nonneg hxk];rfl);rw [e9] at hS;refine zm ?_)
         all_goals refine zn ?_)
     all_goals (refine ZaP ?_;(first|(exact ⟨⟨k+1,vq,zh,zh,(by omega),hS.sp⟩,Q4 (by omega)⟩)|(exact ⟨⟨k+1,vo,zh,zh,(by omega),by rw [Q3v hx2,if_neg (by omega),List.append_nil];exact hS.sp⟩,Q4 (by omega)⟩)))
   · skip
     all_goals (refine zex ?_;refine ZaP ?_;exact ⟨⟨i+1,vo,zh,zh,(by omega),(by rw [Q4G hx1,List.length_append];omega),by rw [Q4G hx1];rw [List.take_of_length_le (i:=k) (by omega)] at hS;exact hS.sp⟩,Q4 (by omega)⟩)
 · skip
   all_goals (refine Zco ?_;rw [List.take_of_length_le (by omega)] at hS;obtain ⟨c6,hle6,hS,hk6⟩:=St.freezeL (r:=intR) hS (Q8q _) rfl (by rw [List.length_map];omega);exact ⟨_,rfl,c6,hle6,hk6,hS.sp⟩)
theorem next2_c {m:List Fun}{n p:Nat}{vf:Value}(hsh:∀f∈m,f.Short) (h12:∀f∈m,f.blocks.length≤12) (hok:CallsOk m) (hf:funcR.sl cx vf m) (hn:n=m.length):NextC Tryz.prog Q6t [.pointer (some ⟨p,0,none⟩)] (fAdj m) n cx (blk p 24 [vf]):=by
 subst hn
 intro k cx w L i hle hk hi hS
 have hf:=hf.up hle
 show Rets Tryz.prog Q6t [.int .i64 k, .pointer (some ⟨p,0,none⟩)] w _
 all_goals refine lgo tyD Tryz.func87 ?_
 all_goals (refine Zaf ?_;refine Zaa ?_;refine zf0 ?_;refine Q5i hS rfl hi rfl ?_;refine zm ?_;refine Q11 (m:=k) vw rfl hf rfl hk ?_;intro b1 o1 cs1 x1 hat1 hx1 he1;have he9:=he1;obtain ⟨w1,w2,w3,rfl, -⟩:=Qo he1;refine Yaf ?_;have hm9:=List.mem_of_getElem? hx1;refine zR1 (c:=calls_c (hsh _ hm9) (h12 _ hm9) (fun y hy x hx ho=>(hok _ hm9 y hy x hx ho).1) he9 hS) (h:=?_);rintro v1 w1 ⟨c3,hle3,hl3,hS⟩;refine ZaB ?_;exact ⟨_,rfl,c3,hle3,(by rw [Q8y hx1];exact hl3),hS.sp⟩)
end Go.Proofs.YteflkifmgnpbhaaGreat
namespace Go.Lir
set_option linter.unusedVariables false
mutual
def Ty.nodes:Ty→Nat
 | .mk _ _ l=>1+Tys.nodes l
def Tys.nodes:List Ty→Nat
 | []=>0
 | x::l=>x.nodes+Tys.nodes l
end
mutual
theorem Ty.size_nodes:∀(t:Ty){n:Int},0≤t.size n→t.size n=n - t.nodes
 | .mk k r l,n,h=>by
   rw [Ty.size] at h ⊢
   rw [Tys.size_nodes l h,Ty.nodes]
   omega
theorem Tys.size_nodes:∀(l:List Ty){n:Int},0≤Tys.size l n→Tys.size l n=n - Tys.nodes l
 | [],n,h=>by rw [Tys.size,Tys.nodes];omega
 | x ::l,n,h=>by
   rw [Tys.size] at h ⊢
   by_cases hn:0≤n
   · rw [if_pos hn] at h ⊢
     have hx:0≤x.size n:=by
      rcases Int.lt_or_le (x.size n) 0 with h1|h1
      · rw [Tys.size_neg l h1] at h;omega
      · exact h1
     rw [Tys.size_nodes l h,Ty.size_nodes x hx,Tys.nodes]
     omega
   · rw [if_neg hn] at h;omega
end
theorem Ty.nodes_of_great {t:Ty}(h:t.great=false):t.nodes≤2000:=by
 unfold Ty.great at h
 simp at h
 have:=Ty.size_nodes t h
 omega
end Go.Lir
namespace Go.Lir
set_option linter.unusedVariables false
section
variable {P:Program}{l:List GO}{Q:QT}{ρ:Env}{w:World}
end
end Go.Lir
namespace Go.Lir
set_option linter.unusedVariables false
def Block.bts (b:Block):List UInt8:=Q3C b.regs++tysB b.params++Q3C b.code.length++b.code.flatMap Ins.bts++b.fin.bts
def Fun.bts (f:Fun):List UInt8:=Q3C f.regs++tysB f.params++tysB f.results++Q3C f.blocks.length++f.blocks.flatMap Block.bts
def Module.body (m:Module):List UInt8:=[67,72,1]++Q3C m.funcs.length++m.funcs.flatMap Fun.bts
def Ins.Few (x:Ins):Prop:=x.regs.length≤300∧x.args.length≤300
def To.Few (x:To):Prop:=x.regs.length≤300∧x.args.length≤300
def Tail.Few (x:Tail):Prop:=x.yes.Few∧x.no.Few∧x.args.length≤300
def Block.Few (b:Block):Prop:=Tys.great b.params=false∧b.code.length≤200∧(∀i∈b.code,i.Few)∧b.fin.Few
def Fun.Few (f:Fun):Prop:=Tys.great f.params=false∧Tys.great f.results=false∧f.blocks.length≤30∧∀b∈f.blocks,b.Few
def Module.Few (m:Module):Prop:=m.funcs.length≤20∧∀f∈m.funcs,f.Few
theorem Qbl {α:Type}{f:α→List UInt8}{c:Nat}:∀{l:List α},(∀x∈l,(f x).length≤c)→(l.flatMap f).length≤l.length*c
 | [],_=>by simp
 | x::l,h=>by
   have h1:=h x (List.mem_cons_self ..)
   have h2:=Qbl (l:=l) fun y hy=>h y (List.mem_cons_of_mem _ hy)
   rw [List.flatMap_cons,List.length_append,List.length_cons,Nat.succ_mul]
   omega
theorem Q9A {α:Type}{f:α→List UInt8}{c n:Nat}{l:List α}(h:∀x∈l,(f x).length≤c) (hn:l.length≤n):(l.flatMap f).length≤n*c:=
 Nat.le_trans (Qbl h) (Nat.mul_le_mul_right c hn)
mutual
theorem Ty.bts_len:∀(t:Ty),t.bts.length≤30*t.nodes
 | .mk k r l=>by
   have h1:=Tys.bts_len l
   have h2:=QW k
   have h3:=QW r
   have h4:=QW l.length
   rw [Ty.bts,Ty.nodes]
   simp only [List.length_append]
   split<;>split<;>simp only [List.length_append,List.length_nil]<;>omega
theorem Tys.bts_len:∀(l:List Ty),(Tys.bts l).length≤30*Tys.nodes l
 | []=>by simp [Tys.bts]
 | x::l=>by
   have h1:=Ty.bts_len x
   have h2:=Tys.bts_len l
   rw [Tys.bts,Tys.nodes,List.length_append]
   omega
end
theorem Tys.nodes_few:∀{l:List Ty},(∀x∈l,x.nodes≤2000)→Tys.nodes l≤2000*l.length
 | [],_=>by simp [Tys.nodes]
 | x::l,h=>by
   have h1:=h x (List.mem_cons_self ..)
   have h2:=Tys.nodes_few (l:=l) fun y hy=>h y (List.mem_cons_of_mem _ hy)
   rw [Tys.nodes,List.length_cons]
   omega
theorem Q85 {l:List Ty}(h:Tys.great l=false):(tysB l).length≤12000010:=by
 unfold Tys.great at h
 rw [Bool.or_eq_false_iff] at h
 have hl:l.length≤200:=by have:=of_decide_eq_false h.1;omega
 have h1:=Tys.bts_len l
 have h2:=Tys.nodes_few (l:=l) fun x hx=>Ty.nodes_of_great (by have:=List.any_eq_false.1 h.2 x hx;simpa using this)
 have h3:=QW l.length
 unfold tysB
 rw [List.length_append]
 omega
theorem Q3V {l:List Int}(h:l.length≤300):(Qaw l).length≤3010:=by
 have h1:=Q7O l
 have h2:=QW l.length
 unfold Qaw
 rw [List.length_append]
 omega
theorem To.bts_few {x:To}(h:x.Few):x.bts.length≤6030:=by
 have h1:=Q3V h.1
 have h2:=Q3V h.2
 have h3:=QW x.block
 unfold To.bts
 simp only [List.length_append]
 omega
theorem Tail.bts_few {x:Tail}(h:x.Few):x.bts.length≤13000:=by
 have h1:=To.bts_few h.1
 have h2:=To.bts_few h.2.1
 have h3:=Q3V h.2.2
 have h4:=QW x.op
 have h5:=QW x.a
 unfold Tail.bts
 rw [List.length_append]
 split
 · omega
 · split
   · simp only [List.length_append];omega
   · split
     · omega
     · simp only [List.length_nil];omega
theorem Ins.bts_few {x:Ins}(h:x.Few):x.bts.length≤6110:=by
 have h1:=Q3V h.1
 have h2:=Q3V h.2
 have h3:=QW x.op
 have h4:=QW x.n
 have ha:=QW x.a
 have hb:=QW x.b
 have hc:=QW x.c
 have hk:=QW x.k
 have h5:(regsB (Q7e x.op) 0 [x.a,x.b,x.c,x.k]).length≤40:=by
  simp only [regsB,List.length_append,List.length_nil]
  split<;>split<;>split<;>split<;>(try simp only [List.length_nil])<;>omega
 unfold Ins.bts
 simp only [List.length_append]
 split<;>split<;>split<;>(try simp only [List.length_nil])<;>omega
theorem Block.bts_few {b:Block}(h:b.Few):b.bts.length≤14000000:=by
 have h1:=Q85 h.1
 have h2:=Q9A (f:=Ins.bts) (c:=6110) (fun x hx=>Ins.bts_few (h.2.2.1 x hx)) h.2.1
 have h3:=Tail.bts_few h.2.2.2
 have h4:=QW b.regs
 have h5:=QW b.code.length
 unfold Block.bts
 simp only [List.length_append]
 omega
theorem Fun.bts_few {f:Fun}(h:f.Few):f.bts.length≤450000000:=by
 have h1:=Q85 h.1
 have h2:=Q85 h.2.1
 have h3:=Q9A (f:=Block.bts) (c:=14000000) (fun x hx=>Block.bts_few (h.2.2.2 x hx)) h.2.2.1
 have h4:=QW f.regs
 have h5:=QW f.blocks.length
 unfold Fun.bts
 simp only [List.length_append]
 omega
end Go.Lir
namespace Go.Lir
set_option linter.unusedVariables false
end Go.Lir
namespace Go.Lir
section
variable {P:Program}{l:List GO}{Q:QT}{ρ:Env}{w:World}
theorem Q8f {a b T T':Nat}{R:Ending→World→Prop}{p o p' o':Nat}{v v':Value}(ha:ρ a= .pointer (some ⟨p,o,none⟩)) (hv:Q8L P w ⟨p,o,none⟩ T v) (ha':ρ b= .pointer (some ⟨p',o',none⟩)) (hv':Q8L P w ⟨p',o',none⟩ T' v') (h:R (.returned (.tuple #[v,v'])) w):retQ P [.cell a T, .cell b T'] R .ret ρ w:=
 ⟨_,v,ha,hv,_,v',ha',hv',h⟩
end
end Go.Lir
namespace Go.Lir
section
variable {c c':Cx}{w:World}{L:List Res}{TI:TypeId}{ps:List (Value×List (List Value))}{cods:List (List Ins)}
def BlkH.as (g:BlkH→List Ins) (y:BlkH):Block:={y.b with code:=g y}
def FunH.as (g:BlkH→List Ins) (f:FunH):Fun:=⟨f.regs,f.params,f.results,f.blocks.map (BlkH.as g)⟩
theorem blk_as {g:BlkH→List Ins}{cs:List Value}{y:BlkH}(h:blkhR.at c cs y) (hle:c.Le c') (hk:insR.sl c' y.v (g y)):blockR.at c' cs (y.as g):=by
 obtain ⟨vp,ce,rfl,h1,h2,h3⟩:=h
 exact ⟨vp,y.v,ce,rfl,h1.turn hle.turn,hk,endR.turn h3 hle.turn⟩
theorem blks_as {g:BlkH→List Ins}{v:Value}{ys:List BlkH}(h:blkhR.sl c v ys) (hle:c.Le c') (hk:∀y∈ys,insR.sl c' y.v (g y)):blockR.sl c' v (ys.map (BlkH.as g)):=by
 obtain ⟨css,h1,h2,h3⟩:=h
 refine ⟨css,h1.turn hle.turn,⟨by rw [List.length_map];exact h2.1,fun m x hx=>?_⟩,by rw [List.length_map];exact h3⟩
 rw [List.getElem?_map] at hx
 cases e:ys[m]? with
 | none=>rw [e] at hx;cases hx
 | some y=>
   rw [e] at hx
   have hx:y.as g=x:=by simpa using hx
   subst hx
   obtain ⟨d,h4,h5⟩:=h2.2 m y e
   exact ⟨d,h4,blk_as h5 hle (hk y (List.mem_of_getElem? e))⟩
theorem fun_as {g:BlkH→List Ins}{cs:List Value}{f:FunH}(h:funhR.at c cs f) (hle:c.Le c') (hk:∀y∈f.blocks,insR.sl c' y.v (g y)):funcR.at c' cs (f.as g):=by
 obtain ⟨vp,vr,vb,rfl,h1,h2,h3⟩:=h
 exact ⟨vp,vr,vb,rfl,h1.turn hle.turn,h2.turn hle.turn,blks_as h3 hle hk⟩
theorem funs_as {g:BlkH→List Ins}{css:List (List Value)}{fs:List FunH}(h:funhR.ls c css fs) (hle:c.Le c') (hk:∀f∈fs,∀y∈f.blocks,insR.sl c' y.v (g y)):funcR.ls c' css (fs.map (FunH.as g)):=by
 refine ⟨by rw [List.length_map];exact h.1,fun m x hx=>?_⟩
 rw [List.getElem?_map] at hx
 cases e:fs[m]? with
 | none=>rw [e] at hx;cases hx
 | some f=>
   rw [e] at hx
   have hx:f.as g=x:=by simpa using hx
   subst hx
   obtain ⟨d,h4,h5⟩:=h.2 m f e
   exact ⟨d,h4,fun_as h5 hle (hk f (List.mem_of_getElem? e))⟩
theorem Q5c {g:BlkH→List Ins}{css:List (List Value)}{fs:List FunH}(hS:St c w (Q22 TI ps::L)) (hc:Cods c ps cods) (hh:∀f∈fs,∀y∈f.blocks,Hd ps y∧cods[y.q]?=some (g y)) (hf:funhR.ls c css fs):
 ∃c',c.Le c'∧St c' w L∧funcR.ls c' css (fs.map (FunH.as g))∧∀{w':World}{L':List Res},St c' w' L'→St c w' (Q22 TI ps::L'):=by
 obtain ⟨c',h1,h2,h3,h4⟩:=Qcb hS hc
 refine ⟨c',h1,h2,funs_as hf h1 fun f hf y hy=>?_,h4⟩
 obtain ⟨h5,h6⟩:=hh f hf y hy
 obtain ⟨cs,h7,_,_⟩:=h5.at_ hc h6
 exact h3 _ _ _ h6 h7
structure Begin (c:Cx) (ps:List (Value×List (List Value))) (cods:List (List Ins)) (fs:List FunH):Prop where
 cd:Cods c ps cods
 hd:∀f∈fs,∀y∈f.blocks,Hd ps y∧cods[y.q]?=some y.b.code
 nd:((fs.flatMap (·.blocks)).map (·.q)).Nodup
theorem Q4c {α:Type}:∀(ks:List Bool) (l:List α),(pick ks l).Sublist l
 | [],_=>by cases ‹List α› <;>exact List.nil_sublist _
 | _::_,[]=>List.Sublist.slnil
 | k::ks,x::l=>by
   simp only [pick]
   split
   · exact (Q4c ks l).cons_cons x
   · exact (Q4c ks l).cons x
theorem trim_qs (f:FunH):(f.trim.blocks.map (·.q)).Sublist (f.blocks.map (·.q)):=by
 unfold FunH.trim
 rw [List.map_map]
 exact (Q4c (Q2M (f.blocks.map (·.b))) f.blocks).map _
theorem QaR:∀fs:List FunH,(((fs.map FunH.trim).flatMap (·.blocks)).map (·.q)).Sublist ((fs.flatMap (·.blocks)).map (·.q))
 | []=>List.Sublist.slnil
 | f::fs=>by
   rw [List.map_cons,List.flatMap_cons,List.flatMap_cons,List.map_append,List.map_append]
   exact (trim_qs f).append (QaR fs)
theorem trim_blk {f:FunH}{y:BlkH}(h:y∈f.trim.blocks):∃z∈f.blocks,y.v=z.v∧y.q=z.q∧y.b.code=z.b.code:=by
 unfold FunH.trim at h
 obtain ⟨z,hz,rfl⟩:=List.mem_map.1 h
 exact ⟨z,Q3l _ _ hz,rfl,rfl,rfl⟩
theorem Begin.of {fs:List FunH}(h:Stor c ps (fs.flatMap (·.blocks))):Begin c ps ((fs.flatMap (·.blocks)).map (·.b.code)) (fs.map FunH.trim):=by
 refine ⟨h.cods,fun f hf y hy=>?_,(QaR fs).nodup h.nodup⟩
 obtain ⟨g,hg,rfl⟩:=List.mem_map.1 hf
 obtain ⟨z,hz,e1,e2,e3⟩:=trim_blk hy
 have hm:z∈fs.flatMap (·.blocks):=List.mem_flatMap.2 ⟨g,hg,hz⟩
 refine ⟨?_,by rw [e2,e3];exact h.code hm⟩
 have:=h.hd z hm
 unfold Hd at this ⊢
 rw [e1,e2];exact this
theorem Begin.up {fs:List FunH}(h:Begin c ps cods fs) (hle:c.Le c'):Begin c' ps cods fs:=⟨h.cd.up hle,h.hd,h.nd⟩
theorem Qbk {Z fs:List FunH}(hZ:Z.Sublist fs):(Z.flatMap (·.blocks)).Sublist (fs.flatMap (·.blocks)):=by
 induction hZ with
 | slnil=>exact List.Sublist.slnil
 | cons a _ ih=>rw [List.flatMap_cons];exact ih.trans (List.sublist_append_right _ _)
 | cons_cons a _ ih=>rw [List.flatMap_cons,List.flatMap_cons];exact (List.Sublist.refl _).append ih
theorem Begin.done {fs Z:List FunH}{ps':List (Value×List (List Value))}{f:Ins→Ins}(h:Begin c ps cods fs) (hZ:Z.Sublist fs) (hv:ps'.map Prod.fst=ps.map Prod.fst):∀F∈Z,∀y∈F.blocks,Hd ps' y∧(putL f cods (Z.flatMap (·.blocks)))[y.q]?=some (y.b.code.map f):=by
 intro F hF y hy
 have h1:=h.hd F (hZ.subset hF) y hy
 have hsub:((Z.flatMap (·.blocks)).map (·.q)).Sublist ((fs.flatMap (·.blocks)).map (·.q)):=(Qbk hZ).map _
 refine ⟨?_,Qb5 (hsub.nodup h.nd) (List.mem_flatMap.2 ⟨F,hF,hy⟩) (List.getElem?_eq_some_iff.1 h1.2).1⟩
 have:=h1.1
 unfold Hd at this ⊢
 rw [hv];exact this
theorem Begin.not {fs Z:List FunH}{F:FunH}{t b:Nat}{y:BlkH}{f:Ins→Ins}(h:Begin c ps cods fs) (hZ:Z.Sublist fs) (hF:Z[t]?=some F) (hy:F.blocks[b]?=some y):(putL f cods ((Z.take t).flatMap (·.blocks)++F.blocks.take b))[y.q]?=some y.b.code:=by
 have hFm:=List.mem_of_getElem? hF
 have h1:=h.hd F (hZ.subset hFm) y (List.mem_of_getElem? hy)
 rw [Qaj,h1.2]
 intro hq
 have hsub:((Z.flatMap (·.blocks)).map (·.q)).Sublist ((fs.flatMap (·.blocks)).map (·.q)):=(Qbk hZ).map _
 have hn:=hsub.nodup h.nd
 have e1:Z=Z.take t++F::Z.drop (t+1):=by rw [←Q1 hF,List.take_append_drop]
 have e2:F.blocks=F.blocks.take b++y::F.blocks.drop (b+1):=by rw [←Q1 hy,List.take_append_drop]
 rw [e1,List.flatMap_append,List.flatMap_cons,e2] at hn
 have e3:(List.flatMap (fun x=>x.blocks) (Z.take t)++(F.blocks.take b++y::F.blocks.drop (b+1)++List.flatMap (fun x=>x.blocks) (Z.drop (t+1))))=(List.flatMap (fun x=>x.blocks) (Z.take t)++F.blocks.take b)++y::(F.blocks.drop (b+1)++List.flatMap (fun x=>x.blocks) (Z.drop (t+1))):=by simp
 rw [e3,List.map_append,List.nodup_append] at hn
 exact hn.2.2 _ hq _ (List.mem_cons_self ..) rfl
end
theorem Qbc {α:Type}{a l:List α}{i:Nat}(h:a.length=l.length) (hi:i≤l.length):(a.take i++l.drop i)[i]?=l[i]?:=by
 have e:(a.take i).length=i:=by rw [List.length_take];omega
 rw [List.getElem?_append_right (by omega),e,Nat.sub_self,List.getElem?_drop];rfl
theorem Q8k {α:Type}{a l:List α}{i:Nat}{x:α}(h:a.length=l.length) (hx:a[i]?=some x):(a.take i++l.drop i).set i x=a.take (i+1)++l.drop (i+1):=by
 have hi:=(List.getElem?_eq_some_iff.1 hx).1
 have e:(a.take i).length=i:=by rw [List.length_take];omega
 rw [List.set_append_right _ _ (by omega),e,Nat.sub_self,Qq hx,List.append_assoc]
 obtain ⟨y,hy⟩:∃y,l[i]?=some y:=⟨_,List.getElem?_eq_getElem (by omega)⟩
 rw [Q1 hy];rfl
theorem Qbb {α:Type}{a l:List α}{i:Nat}(_h:a.length=l.length) (hx:a[i]?=l[i]?) (hi:i<l.length):a.take (i+1)++l.drop (i+1)=a.take i++l.drop i:=by
 obtain ⟨y,hy⟩:∃y,l[i]?=some y:=⟨_,List.getElem?_eq_getElem hi⟩
 rw [Qq (hx.trans hy),List.append_assoc,Q1 hy];rfl
theorem QdB {α β:Type}{l:List (α×β)}{q:Nat}{v:α}{x y:β}(h:l[q]?=some (v,x)):(l.set q (v,y)).map Prod.fst=l.map Prod.fst:=by
 apply List.ext_getElem?
 intro i
 rw [List.getElem?_map,List.getElem?_map,List.getElem?_set]
 split
 · next e => subst e;rw [h];split
             · rfl
             · next hn=>exact absurd (List.getElem?_eq_some_iff.1 h).1 hn
 · rfl
theorem cur_ren {ks:List Bool}(F:FunH):F.as (fun y=>y.b.code.map (renI ks))=renF ks F.to:=by
 unfold FunH.as renF FunH.to
 simp only [List.map_map]
 rfl
theorem Q9Y {fs:List FunH}{l:List Fun}(h:fs.map FunH.to=l):(pick (keepF (l.map Fun.trim)) (fs.map FunH.trim)).map (FunH.as fun y=>y.b.code.map (renI (keepF (l.map Fun.trim))))=trimF (l.map Fun.trim):=by
 have e:l.map Fun.trim=(fs.map FunH.trim).map FunH.to:=by
  rw [←h,List.map_map,List.map_map]
  exact List.map_congr_left fun f _=>(FunH.trim_to f).symm
 unfold trimF
 generalize keepF (l.map Fun.trim)=ks
 rw [e]
 generalize fs.map FunH.trim=gs
 rw [Q8h,List.map_map]
 exact List.map_congr_left fun f _=>cur_ren f
end Go.Lir
namespace Go.Proofs.YteflkifmgnpbhaaGreat
open Go.Lir

@[reducible] def Q9d:FuncId:=147
@[reducible] def Q6S:FuncId:=148
@[reducible] def Q6T:FuncId:=149
@[reducible] def held_New:FuncId:=202
@[reducible] def Q9c:FuncId:=205
@[reducible] def Q5y:FuncId:=206
@[reducible] def Q6Q:FuncId:=207
@[reducible] def Q5z:FuncId:=209
@[reducible] def Q6R:FuncId:=210
@[reducible] def Q4s:FuncId:=237
@[reducible] def Q6P:FuncId:=238
@[reducible] def Q64:FuncId:=239
@[reducible] def Q5u:FuncId:=240
@[reducible] def Q4Y:FuncId:=241
@[reducible] def Q4w:FuncId:=242
@[reducible] def Q7x:FuncId:=243
@[reducible] def Q4u:FuncId:=244
@[reducible] def Q5w:FuncId:=245
@[reducible] def Q5x:FuncId:=246
@[reducible] def Q5v:FuncId:=247
@[reducible] def Q65:FuncId:=248
@[reducible] def Q7w:FuncId:=249
@[reducible] def Q66:FuncId:=250
@[reducible] def Q4x:FuncId:=251
@[reducible] def Q4Z:FuncId:=261
@[reducible] def Q4v:FuncId:=264
end Go.Proofs.YteflkifmgnpbhaaGreat
namespace Go.Lir
section
variable {P:Program}{l:List GO}{Q:QT}{ρ:Env}{w:World}
def IntF (P : Program) (f : Field) (i : Nat) : Prop := f.name ≠ "_" ∧ (∃ k, P.underlying f.type = some (.int k)) ∧ f.offset = i ∧ Q2v P f.type = true
theorem Q3I (k:Nat){T:TypeId}{q:IntKind}{a b:Int}{kk:IntKind}{w0:World}(ht:P.underlying T=some (.int q)):(Op.equalIn (k+1) T (.int kk a) (.int kk b)).run P w0= .ok (a==b) w0:=by
 simp only [Op.equalIn,Sem.run_bind,Q6 P T _ w0 ht,Result.andThen_ok]
 simp [Sem.run_pure]
def intFB (P : Program) (f : Field) (i : Nat) : Bool := f.name != "_" && (match P.underlying f.type with | some (.int _) => true | _ => false) && f.offset == i && Q2v P f.type
theorem Qdv {f:Field}{i:Nat}(h:intFB P f i=true):IntF P f i:=by
 unfold intFB at h
 simp only [Bool.and_eq_true,bne_iff_ne,ne_eq,beq_iff_eq] at h
 obtain ⟨⟨⟨h1,h2⟩,h3⟩,h4⟩:=h
 refine ⟨h1,?_,h3,h4⟩
 split at h2
 · rename_i k hk;exact ⟨k,hk⟩
 · cases h2
end
end Go.Lir
namespace Go.Lir
section
variable {P:Program}{l:List GO}{Q:QT}{ρ:Env}{w:World}
theorem run_eq2 (k:Nat){T:TypeId}{f0 f1:Field}{a0 a1 b0 b1:Int}{w0:World}(ht:P.underlying T=some (.struct #[f0,f1])) (hh:P.stoodInHeld T=false)
 (h0:IntF P f0 0) (h1:IntF P f1 1):
 (Op.equalIn (k+2) T (.agg ⟨[.int .i64 a0, .int .i64 a1]⟩) (.agg ⟨[.int .i64 b0, .int .i64 b1]⟩)).run P w0= .ok (a0==b0 && a1==b1) w0:=by
 obtain ⟨n0,⟨q0,u0⟩,o0,s0⟩:=h0
 obtain ⟨n1,⟨q1,u1⟩,o1,s1⟩:=h1
 have hp:∀(T:TypeId) (cs:Array Value) (off:Nat) (v:Value) (w:World),Q2v P T=true→cs[off]?=some v→(part T cs off).run P w= .ok v w:=fun T cs off v w h hv=>Q8c P T cs off v w h hv
 unfold Op.equalIn
 simp only [Sem.run_bind,Q6 P T _ w0 ht,Result.andThen_ok]
 simp [hh,n0,n1,o0,o1,Q3I _ u0,Q3I _ u1,hp _ _ _ _ _ s0,hp _ _ _ _ _ s1]
 by_cases e0:a0=b0<;>by_cases e1:a1=b1<;>simp [e0,e1]
def Int2 (P:Program) (T:TypeId):Prop:=∃f0 f1:Field,P.underlying T=some (.struct #[f0,f1])∧P.stoodInHeld T=false∧P.eqGuardType P.depth T=false∧IntF P f0 0∧IntF P f1 1
def int2B (P:Program) (T:TypeId):Bool:=match P.underlying T with
 | some (.struct fs)=>match fs.toList with
   | [f0,f1]=> !P.stoodInHeld T && !P.eqGuardType P.depth T && intFB P f0 0 && intFB P f1 1
   | _=>false
 | _=>false
theorem int2_of {T:TypeId}(h:int2B P T=true):Int2 P T:=by
 unfold int2B at h
 split at h
 · rename_i fs hu
   split at h
   · rename_i f0 f1 hf
     simp only [Bool.and_eq_true,Bool.not_eq_true'] at h
     obtain ⟨⟨⟨h1,h2⟩,h3⟩,h4⟩:=h
     have:fs=#[f0,f1]:=by apply Array.ext';exact hf
     subst this
     exact ⟨f0,f1,hu,h1,h2,Qdv h3,Qdv h4⟩
   · cases h
 · cases h
theorem pair_dec (a0 a1 b0 b1:Int):(a0==b0 && a1==b1)=decide ((a0,a1)=(b0,b1)):=by
 rw [Bool.eq_iff_iff];simp
theorem s_eq2 {d:Nat}{T:TypeId}{x y:Operand}{a b:Int×Int}(hT:Int2 P T) (hx:ρ.ev x= .agg ⟨[.int .i64 a.1, .int .i64 a.2]⟩) (hy:ρ.ev y= .agg ⟨[.int .i64 b.1, .int .i64 b.2]⟩)
 (h:Q0 P l Q (upd ρ d (.bool (decide (a=b)))) w):Q0 P (⟨none, .bin d .eql T x y⟩::l) Q ρ w:=by
 obtain ⟨f0,f1,ht,hh,hg,h0,h1⟩:=hT
 exact ⟨.bool (decide (a=b)),fun w0=>by rw [hx,hy];simp only [Sem.run_bind,run_eqGuard_agg w0 .eql T x y _ _ hg,Result.andThen_ok,run_eql_struct,run_eq2 9998 ht hh h0 h1,pair_dec],h⟩
theorem s_eq2_t {d:Nat}{T:TypeId}{x y:Operand}{a:Int×Int}(hT:Int2 P T) (hx:ρ.ev x= .agg ⟨[.int .i64 a.1, .int .i64 a.2]⟩) (hy:ρ.ev y= .agg ⟨[.int .i64 a.1, .int .i64 a.2]⟩)
 (h:Q0 P l Q (upd ρ d (.bool true)) w):Q0 P (⟨none, .bin d .eql T x y⟩::l) Q ρ w:=s_eq2 hT hx hy (by rw [decide_eq_true rfl];exact h)
theorem St.freeze1 {α:Type}{r:Rep α}{c:Cx}{L:List Res}{T b:Nat}{cs:List Value}{x:α}(h:St c w (blk b T cs::L)) (hr:r.at c cs x):∃c',c.Le c'∧St c' w L∧r.sl c' (.slice (some ⟨b,0,none⟩) 1 1) [x]:=by
 have h1:St c w (sl T r.es (.slice (some ⟨b,0,none⟩) 1 1) [cs]::L):=h.slOf (css:=[cs]) (by simp) (by intro q hq;simp at hq;subst hq;exact r.len hr) rfl
 exact h1.freezeL (r:=r) ((Rep.LR.nil r _ _).push hr) rfl (by simp)
end
end Go.Lir
namespace Go.Proofs.YteflkifmgnpbhaaGreat
open Go.Lir
set_option maxHeartbeats 1000000
attribute [local irreducible] LC.wp Q0 QB QH retQ Q1k LO.wp Qh Calls
set_option linter.unusedSimpArgs false
set_option linter.unusedVariables false
attribute [local irreducible] hasB Q1o Q1c Q1e
variable {cx:Cx}{w:World}{L:List Res}
def Q8s (hp:Nat) (h:List Bool):Res:=Res.ex fun v=>star (blk hp 296 [v]) (sl 4 1 v (h.map Qi))
theorem Q37 {hp:Nat}{h:List Bool}(hS:St cx w (Q8s hp h::L)):∃v,St cx w (blk hp 296 [v]::sl 4 1 v (h.map Qi)::L):=by
 obtain ⟨v,hS⟩:=St.ex hS
 exact ⟨v,hS.star⟩
theorem Q2Q {hp:Nat}{h:List Bool}{v:Value}(hS:St cx w (blk hp 296 [v]::sl 4 1 v (h.map Qi)::L)):St cx w (Q8s hp h::L):=St.ex' v hS.star'
theorem has_u {hp:Nat}{h:List Bool}{v:Value}{r:Int}(hS:St cx w (blk hp 296 [v]::sl 4 1 v (h.map Qi)::L)):
 Rets Tryz.prog Q4Z [.pointer (some ⟨hp,0,none⟩), .int .i64 r] w fun u w'=>u= .bool (hasB h r)∧St cx w' (blk hp 296 [v]::sl 4 1 v (h.map Qi)::L):=by
 have hlen:(h.map Qi).length=h.length:=List.length_map _
 refine lgo tyD Tryz.func261 ?_;refine ZbQ ?_;first|(refine Q2b ?_)|(refine Q2c ?_)|(refine Q1a rfl rfl (fun hc=>?_) (fun hc=>?_))
 all_goals (refine Zbb ?_;refine Zcb ?_;refine Yaa ?_;(first|refine zgn ?_|(refine zgy ?_;(first|(refine Q1A hS hel1 rfl nth1 (Q1D Qi h false (by omega)) rfl ?_)|(refine zl hS ?_))));(first|refine zgn ?_|(refine zgy ?_;(first|(refine zL ?_)|(refine zLe hS ?_))));first|refine zgn ?_|(refine zgy ?_;(first|(refine Q1f ?_)|(refine Q1g ?_)|(refine Qr rfl rfl (fun hc=>?_) (fun hc=>?_)))))
 all_goals (refine Yad ?_;refine Zbb ?_;refine Yam ?_;refine Yaa ?_;(first|refine zgn ?_|(refine zgy ?_;(first|(refine Q1A hS hel1 rfl nth1 (Q1D Qi h false (by omega)) rfl ?_)|(refine zl hS ?_))));refine Yac ?_;(first|refine zgn ?_|(refine zgy ?_;(first|(refine Yao ?_;intro b1 o1 cs1 x1 hat1 hx1 he1;obtain rfl:=Qt he1)|(refine zie hS ?_;intro b1 o1 hel1)|(refine zij hS ?_;intro b1 o1 hel1))));(first|refine zgn ?_|(refine zgy ?_;(first|(refine Q1A hS hel1 rfl nth1 (Q1D Qi h false (by omega)) rfl ?_)|(refine zl hS ?_)|(refine zlk hS ?_)|(refine zlj hS ?_)|(refine zli hS ?_)|(refine zlb hS ?_))));refine Yad ?_;refine ZaB ?_;(first|(refine ⟨_,rfl,?_,hS.sp⟩;unfold hasB;simp [*];omega;done)|(refine ⟨_,rfl,?_,hS.sp⟩;unfold hasB;simp [*];done)))
theorem len_u {hp:Nat}{h:List Bool}{v:Value}(hS:St cx w (blk hp 296 [v]::sl 4 1 v (h.map Qi)::L)):
 Rets Tryz.prog Q4Y [.pointer (some ⟨hp,0,none⟩)] w fun u w'=>u= .int .i64 h.length∧St cx w' (blk hp 296 [v]::sl 4 1 v (h.map Qi)::L):=by
 have hlen:(h.map Qi).length=h.length:=List.length_map _
 refine lgo tyD Tryz.func241 ?_;refine ZbQ ?_;refine Zbj ?_;(first|(refine zL ?_)|(refine zLe hS ?_));refine ZaB ?_;(refine ⟨_,rfl,?_,hS.sp⟩;(rfl);done)
theorem list_u {hp:Nat}{h:List Bool}{v:Value}(hl:h.length≤16) (hS:St cx w (blk hp 296 [v]::sl 4 1 v (h.map Qi)::L)):
 Rets Tryz.prog Q4x [.pointer (some ⟨hp,0,none⟩)] w fun u w'=>∃c',cx.Le c'∧intR.sl c' u (Q1o h)∧St c' w' (blk hp 296 [v]::sl 4 1 v (h.map Qi)::L):=by
 have hlen:(h.map Qi).length=h.length:=List.length_map _
 refine lgo tyD Tryz.func251 ?_;refine Zaf ?_;refine Zbx ?_;refine ZaL ?_;(first|(refine Q1A hS (by assumption) rfl nth2 (Q1D Qi h false (by omega)) rfl ?_)|(refine zl hS ?_));(first|(refine zL ?_)|(refine zLe hS ?_));refine ZaD ?_;have hS:=St.nil (T:=3) (es:=1) hS
 refine zo [9,10] (fun A ρ' w'=>∃(j:Nat) (vo:Value) (co:List (List Value)),Has ρ' A∧Has ρ' [(11, .int .i64 j),(3,vo)]∧(j≤h.length)∧(intR.ls cx co (Q1e h j))∧St cx w' (sl 3 1 vo co::blk hp 296 [v]::sl 4 1 v (h.map Qi)::L)) (fun ρ' _=>(h.length - iv (ρ' 11)).toNat) ?_ ?_
 · exact ⟨0,_,[],zh,zh,(by omega),by unfold Q1e;exact Rep.LR.nil _ _ _,hS.sp⟩
 rintro ρ w1 ⟨j,vo,co,hA,hρ,hj,hls,hS⟩;obtain ⟨ρ,rfl⟩:=env2 hA hρ;have hll:=Q5E h j;have hsu:=Q3q h j
 refine ZaV ?_
 refine Q5 rfl (fun hc=>?_) (fun hc=>?_)
 · skip
   refine Zar ?_;refine Zae ?_;(first|(refine Yao ?_;intro b1 o1 cs1 x1 hat1 hx1 he1;obtain rfl:=Qt he1)|(refine zie hS ?_;intro b1 o1 hel1));(first|(refine Q1A hS (by assumption) rfl nth2 (Q1D Qi h false (by omega)) rfl ?_)|(refine zl hS ?_)|(refine zlk hS ?_)|(refine zlj hS ?_)|(refine zli hS ?_)|(refine zlb hS ?_));refine zm ?_;refine Zab ?_;refine Zaf ?_
   refine Q5O rfl (fun hc=>?_) (fun hc=>?_)
   · skip
     refine Zbc ?_;refine zB1 hS [_] ?_;intro b1 w1 hS;refine za Q3a Q61 hS ?_;intro vp1 w1 css1 hls1 hv1 hS;have hS:=hS.ns;refine Zab ?_;refine ZaP ?_;(exact ⟨⟨j+1,_,_,zh,zh,(by omega),by rw [hsu,if_pos (by assumption)];exact hls1,hS.sp⟩,Q4 (by omega)⟩)
   · skip
     refine zsk ?_;refine ZaP ?_;(first|(exact ⟨⟨j+1,_,_,zh,zh,(by omega),by rw [hsu,if_pos (by assumption)];exact hls1,hS.sp⟩,Q4 (by omega)⟩)|(exact ⟨⟨j+1,_,_,zh,zh,(by omega),by rw [hsu,if_neg (by rw [hc];decide),List.append_nil];exact hls,hS.sp⟩,Q4 (by omega)⟩))
 · skip
   refine Zco ?_;(refine ⟨_,rfl,?_⟩;obtain ⟨c',hle,hS',hk⟩:=St.freezeL (r:=intR) hS hls rfl (by omega);refine ⟨c',hle,?_,hS'⟩;rw [show j=h.length by omega] at hk;unfold Q1o;exact hk)
theorem open_u {hp:Nat}{h:List Bool}{v:Value}(hl:h.length<16) (hS:St cx w (blk hp 296 [v]::sl 4 1 v (h.map Qi)::L)):
 Rets Tryz.prog Q4w [.pointer (some ⟨hp,0,none⟩)] w fun u w'=>u= .int .i64 h.length∧∃v',St cx w' (blk hp 296 [v']::sl 4 1 v' ((h++[true]).map Qi)::L):=by
 have hlen:(h.map Qi).length=h.length:=List.length_map _
 refine lgo tyD Tryz.func242 ?_;refine Zbx ?_;refine Zbj ?_;(first|(refine zL ?_)|(refine zLe hS ?_));refine Yak ?_;refine zn ?_;refine Zcr ?_;refine ZaG ?_;refine Zbj ?_;refine zB1 hS [_] ?_;intro b1 w1 hS;refine Q3G Q3Z (.inl QaQ) hS vw vw fd (hS.srcB1 fd rfl) (by simp;omega) ?_;intro vp w2 hS;have hS:=hS.ns;rw [show h.map Qi++[[Value.bool true]]=(h++[true]).map Qi by simp [Qi]] at hS;refine ZaL ?_;refine zst hS ?_;intro w1 hS;have hS:=hS.ns;refine Zbe ?_;have hlen1:(h++[true]).length=h.length+1:=(by simp);refine Zag ?_;refine Zbj ?_;(first|(refine zL ?_)|(refine zLe hS ?_));refine zsu ?_;refine ZaB ?_;(exact ⟨_,rfl,(by congr 1;omega),_,hS.sp⟩)
theorem shut_u {hp:Nat}{h:List Bool}{v:Value}{r:Int}(hr:hasB h r=true) (hS:St cx w (blk hp 296 [v]::sl 4 1 v (h.map Qi)::L)):
 Rets Tryz.prog Q4u [.pointer (some ⟨hp,0,none⟩), .int .i64 r] w fun u w'=>u= .bool true∧St cx w' (blk hp 296 [v]::sl 4 1 v ((h.set r.toNat false).map Qi)::L):=by
 have hlen:(h.map Qi).length=h.length:=List.length_map _
 have hr':=Q4g hr
 refine lgo tyD Tryz.func244 ?_;refine Zaf ?_;refine ZaG ?_;refine Q5N rfl (has_u hS) ?_;rintro v1 w1 ⟨rfl,hS⟩;rw [hr];refine Zab ?_;refine QJ ?_;refine Zaf ?_;refine zct ?_;refine Zag ?_;refine Zbj ?_;refine zm ?_;(first|(refine Yao ?_;intro b1 o1 cs1 x1 hat1 hx1 he1;obtain rfl:=Qt he1)|(refine zie hS ?_;intro b1 o1 hel1)|(refine zij hS ?_;intro b1 o1 hel1));(first|(refine Q6b hS hel1 rfl vw nth1 (Q1D Qi h false (by omega)) rfl rfl ?_;intro w2 hS;have hS:=hS.ns;rw [show (Qi (h.getD r.toNat false)).set 0 (Value.bool false)=Qi false from rfl,map_set] at hS)|(refine zst hS ?_;intro w1 hS;have hS:=hS.ns)|(refine zsi hS ?_;intro w1 hS;have hS:=hS.ns)|(refine zsb hS ?_;intro w1 hS;have hS:=hS.ns));refine zn ?_;refine Zbk ?_;(refine ⟨_,rfl,?_,hS.sp⟩;(rfl);done)
theorem pass_u {hp:Nat}{h:List Bool}{v v2:Value}{xs:List Int}(hl:h.length≤16) (hx:intR.sl cx v2 xs) (hS:St cx w (blk hp 296 [v]::sl 4 1 v (h.map Qi)::L)):
 Rets Tryz.prog Q4v [.pointer (some ⟨hp,0,none⟩),v2] w fun u w'=>u= .int .i64 (Q1c h [] xs)∧∃c',cx.Le c'∧St c' w' (blk hp 296 [v]::sl 4 1 v (h.map Qi)::L):=by
 have hlen:(h.map Qi).length=h.length:=List.length_map _
 have hxl:=hx.len
 refine lgo tyD Tryz.func264 ?_;refine ZbQ ?_;refine ZaL ?_;(first|(refine Q1A hS hel2 rfl fd hgetS rfl ?_)|(refine zl hS ?_));(first|(refine zL ?_)|(refine zLe hS ?_));refine Q87 Q3Z hS rfl rfl (by omega) (by omega) ?_;intro v5 w1 hS;rw [Int.toNat_natCast] at hS;refine Zab ?_;refine ZaS ?_;have hS:St cx _ (sl 4 1 v5 ((Q4z h []).map Qi)::blk hp 296 [v]::sl 4 1 v (h.map Qi)::L):=(by rw [Qcy,List.map_replicate];exact hS);refine Zag ?_;refine Zbi ?_
 refine zo [0,1,5,14,15] (fun A ρ' w'=>∃(j:Nat),Has ρ' A∧Has ρ' [(16, .int .i64 j)]∧(j≤xs.length)∧(Q1c h [] xs=Q1c h (xs.take j) (xs.drop j))∧St cx w' (sl 4 1 v5 ((Q4z h (xs.take j)).map Qi)::blk hp 296 [v]::sl 4 1 v (h.map Qi)::L)) (fun ρ' _=>(xs.length - iv (ρ' 16)).toNat) ?_ ?_
 · exact ⟨0,zh,zh,(by omega),by rfl,hS.sp⟩
 rintro ρ w1 ⟨j,hA,hρ,hj,hgo,hS⟩;obtain ⟨ρ,rfl⟩:=env2 hA hρ;have hln:=Qcz h (xs.take j);have hlm:((Q4z h (xs.take j)).map Qi).length=h.length:=(by rw [List.length_map,hln])
 refine ZaV ?_
 refine Q5 rfl (fun hc=>?_) (fun hc=>?_)
 · skip
   refine ZbB ?_;refine zi ?_;intro b1 o1 cs1 x1 hat1 hx1 he1;obtain rfl:=Qt he1;(first|(refine Q1A hS hel2 rfl fd hgetS rfl ?_)|(refine zl hS ?_)|(refine zlk hS ?_));refine Zab ?_;refine ZaS ?_;rw [Q1 hx1,Q1c] at hgo;refine Zbc ?_;refine Q5N rfl (has_u (L:=sl 4 1 v5 ((Q4z h (xs.take j)).map Qi)::L) hS.sp) ?_;rintro v1 w1 ⟨rfl,hS⟩;refine Zbo ?_
   refine Q5O rfl (fun hc=>?_) (fun hc=>?_)
   · skip
     refine Zas ?_;(exact ⟨_,rfl,(by rw [hgo,if_neg (by simpa using hc)]),cx,St.refl hS,hS.sp⟩)
   · skip
     have hc1:hasB h x1=true:=(by simpa using hc);have hr:=Q4g hc1;rw [if_pos hc1] at hgo;have hsg:(Q4z h (xs.take j)).getD x1.toNat false=decide (x1∈xs.take j):=QcA (by omega) (by omega);have hgetS:=Q1D Qi (Q4z h (xs.take j)) false (m:=x1.toNat) (by omega);refine zsk ?_;refine Zbr ?_;(first|(refine Yao ?_;intro b2 o2 cs2 x2 hat2 hx2 he2;obtain rfl:=Qt he2)|(refine zie hS ?_;intro b2 o2 hel2)|(refine zij hS ?_;intro b2 o2 hel2));(first|(refine Q1A hS hel2 rfl fd hgetS rfl ?_)|(refine zl hS ?_)|(refine zlk hS ?_)|(refine zlj hS ?_)|(refine zli hS ?_)|(refine zlb hS ?_));refine zn ?_
     refine Q5O rfl (fun hc=>?_) (fun hc=>?_)
     · skip
       have hc2:x1∈xs.take j:=(by rw [hsg] at hc;exact of_decide_eq_true hc);rw [if_pos hc2] at hgo;refine Zas ?_;(first|(exact ⟨_,rfl,(by rw [hgo,if_neg (by simpa using hc)]),cx,St.refl hS,hS.sp⟩)|(exact ⟨_,rfl,hgo ▸ rfl,cx,St.refl hS,hS.sp⟩))
     · skip
       have hc2:x1∉xs.take j:=(by rw [hsg] at hc;exact of_decide_eq_false hc);rw [if_neg hc2] at hgo;refine zsk ?_;refine Zbc ?_;(first|(refine Yao ?_;intro b3 o3 cs3 x3 hat3 hx3 he3;obtain rfl:=Qt he3)|(refine zie hS ?_;intro b3 o3 hel3)|(refine zij hS ?_;intro b3 o3 hel3));(first|(refine zst hS ?_;intro w1 hS;have hS:=hS.ns)|(refine zsi hS ?_;intro w1 hS;have hS:=hS.ns)|(refine zsb hS ?_;intro w1 hS;have hS:=hS.ns));refine ZbO ?_;(exact ⟨⟨j+1,zh,zh,(by omega),by rw [hgo,Qq hx1],by rw [Qq hx1,←Qcx hr.1];exact hS.sp⟩,Q4 (by omega)⟩)
 · skip
   refine zex ?_;refine ZaS ?_;have hie:j=xs.length:=(by omega);subst hie;rw [List.take_length,List.drop_length,Q1c] at hgo;refine Zag ?_;refine zL ?_;refine zm ?_;refine Q5N rfl (list_u (L:=L) hl hS.sp) ?_;rintro v5 w5 ⟨c5,hle5,hk5,hS⟩;refine zL ?_;first|(refine Q1f ?_)|(refine Q1g ?_)|(refine Qr rfl rfl (fun hc=>?_) (fun hc=>?_))
   all_goals (refine zn ?_)
   all_goals
    first
    | (refine zct ?_
       refine Zas ?_
       first|(exact ⟨_,rfl,(by rw [hgo,if_neg (by simpa using hc)]),cx,St.refl hS,hS.sp⟩)|(exact ⟨_,rfl,hgo ▸ rfl,cx,St.refl hS,hS.sp⟩)|(exact ⟨_,rfl,(by rw [hgo,if_pos (by omega)]),c5,hle5,hS.sp⟩))
    | (refine zcf ?_
       refine zsk ?_)
   refine Zas ?_;(first|(exact ⟨_,rfl,(by rw [hgo,if_neg (by simpa using hc)]),cx,St.refl hS,hS.sp⟩)|(exact ⟨_,rfl,hgo ▸ rfl,cx,St.refl hS,hS.sp⟩)|(exact ⟨_,rfl,(by rw [hgo,if_pos (by omega)]),c5,hle5,hS.sp⟩)|(exact ⟨_,rfl,(by rw [hgo,if_neg (by omega)]),c5,hle5,hS.sp⟩))
theorem new_u {n:Int}(hS:St cx w L):Rets Tryz.prog held_New [.int .i64 n] w fun u w'=>∃hp v,u= .pointer (some ⟨hp,0,none⟩)∧St cx w' (blk hp 296 [v]::sl 4 1 v ((List.replicate (min n 16).toNat true).map Qi)::L):=by
 refine lgo tyD Tryz.func202 ?_;refine Zaf ?_;refine Zaa ?_;refine zb0 [_] ?_;refine zb hS ?_;intro p5 w1 hS;refine Zab ?_;refine Zan ?_;refine s_min rfl rfl ?_;refine ZaD ?_;have hS:=St.nil (T:=4) (es:=1) hS
 refine zo [3,7] (fun A ρ' w'=>∃(j:Nat) (v:Value),Has ρ' A∧Has ρ' [(8, .int .i64 j)]∧(j≤(min n 16).toNat)∧St cx w' (sl 4 1 v ((List.replicate j true).map Qi)::blk p5 296 [v]::L)) (fun ρ' _=>(min n 16 - iv (ρ' 8)).toNat) ?_ ?_
 · exact ⟨0,_,zh,zh,(by omega),hS.sp⟩
 rintro ρ w1 ⟨j,v,hA,hρ,hj,hS⟩;obtain ⟨ρ,rfl⟩:=env2 hA hρ
 refine ZaV ?_
 refine Q5 rfl (fun hc=>?_) (fun hc=>?_)
 · skip
   refine Zar ?_;refine Zbc ?_;refine Zbj ?_;refine zB1 hS [_] ?_;intro b1 w1 hS;refine Q3G Q3Z (.inl QaQ) hS vw vw fd (hS.srcB1 fd rfl) (by simp;omega) ?_;intro vp w2 hS;have hS:=hS.ns;rw [show (List.replicate j true).map Qi++[[Value.bool true]]=(List.replicate (j+1) true).map Qi by rw [List.replicate_succ',List.map_append];rfl] at hS;refine ZaL ?_;refine zst hS ?_;intro w1 hS;have hS:=hS.ns;refine ZbO ?_;(exact ⟨⟨j+1,_,zh,zh,(by omega),hS.sp⟩,Q4 (by omega)⟩)
 · skip
   refine Zco ?_;(exact ⟨_,rfl,_,v,rfl,(by rw [show (min n 16).toNat=j by omega];exact hS.sp)⟩)
end Go.Proofs.YteflkifmgnpbhaaGreat
