/- Lemmas of the proof, part 4: what the functions of the program do (contracts), and what follows. -/
import Derived.Test.YteflkifmgnpbhaaGreatZ2
import Derived.Test.YteflkifmgnpbhaaGreatZ3
import Derived.Test.YteflkifmgnpbhaaGreatZ1
namespace Go.Proofs.YteflkifmgnpbhaaGreat
open Go.Lir
set_option maxHeartbeats 1000000
attribute [local irreducible] LC.wp Q0 Qh Qc retQ Qw LO.wp Q3 Calls
set_option linter.unusedSimpArgs false
set_option linter.unusedVariables false
theorem Q12 {α:Type}{o:Option α}{f:α→RStp}(h:Q1x o f≠ .crash):∃a,o=some a∧Q1x o f=f a:=by
 cases o with
 | none=> exact absurd rfl h
 | some a=> exact ⟨a,rfl,rfl⟩
section
variable {m:Module}{s:RS}{x:Ins}
theorem xr_1 (h:x.op=1):s.ins m x= .go (s.put [x.n]):=by unfold RS.ins;rw [if_pos h]
theorem xr_2 (h:x.op=2):s.ins m x=Q1x (s.g.val x.a) fun a=> Q1x (s.g.val x.b) fun b=> if (opF x.k a b).2=false then .halt 1 else .go (s.put [(opF x.k a b).1]):=by unfold RS.ins;rw [if_neg (by omega),if_pos h]
theorem xr_3 (h:x.op=3):s.ins m x=if s.e.openV < 0 then .halt 6 else .go ((s.es s.e.open).put [s.e.openV]):=by unfold RS.ins;rw [if_neg (by omega),if_neg (by omega),if_pos h]
theorem xr_4 (h:x.op=4):s.ins m x=Q1x (s.g.val x.a) fun a=> .go (s.es (s.e.shut a)):=by unfold RS.ins;rw [if_neg (by omega),if_neg (by omega),if_neg (by omega),if_pos h]
theorem xr_5 (h:x.op=5):s.ins m x=Q1x (s.g.val x.a) fun a=> Q1x (s.g.args x.args) fun l=> s.gotR a (max (x.args.length:Int) 1) fun e at_=> .go ((s.es (e.stores at_ l)).put [at_]):=by unfold RS.ins;rw [if_neg (by omega),if_neg (by omega),if_neg (by omega),if_neg (by omega),if_pos h]
theorem xr_6 (h:x.op=6):s.ins m x=Q1x (s.g.val x.a) fun a=> .go (s.put [s.e.word (wr (a+x.k))]):=by unfold RS.ins;rw [if_neg (by omega),if_neg (by omega),if_neg (by omega),if_neg (by omega),if_neg (by omega),if_pos h]
theorem xr_7 (h:x.op=7):s.ins m x=Q1x (s.g.val x.a) fun a=> Q1x (s.g.val x.b) fun b=> .go (s.es (s.e.store (wr (a+x.k)) b)):=by unfold RS.ins;rw [if_neg (by omega),if_neg (by omega),if_neg (by omega),if_neg (by omega),if_neg (by omega),if_neg (by omega),if_pos h]
theorem xr_8 (h:x.op=8):s.ins m x=Q1x (s.g.val x.a) fun a=> Q1x (s.g.val x.b) fun n=> if n < 0∨15 < n then .halt 3 else s.gotR a (1+n) fun e at_=> .go ((s.es (e.store at_ n)).put [at_]):=by unfold RS.ins;rw [if_neg (by omega),if_neg (by omega),if_neg (by omega),if_neg (by omega),if_neg (by omega),if_neg (by omega),if_neg (by omega),if_pos h]
theorem xr_9 (h:x.op=9):s.ins m x=Q1x (s.g.val x.a) fun a=> Q1x (s.g.val x.b) fun k=> s.atR a k fun q=> .go (s.put [s.e.word q]):=by unfold RS.ins;rw [if_neg (by omega),if_neg (by omega),if_neg (by omega),if_neg (by omega),if_neg (by omega),if_neg (by omega),if_neg (by omega),if_neg (by omega),if_pos h]
theorem xr_10 (h:x.op=10):s.ins m x=Q1x (s.g.val x.a) fun a=> Q1x (s.g.val x.b) fun k=> Q1x (s.g.val x.c) fun c=> s.atR a k fun q=> .go (s.es (s.e.store q c)):=by unfold RS.ins;rw [if_neg (by omega),if_neg (by omega),if_neg (by omega),if_neg (by omega),if_neg (by omega),if_neg (by omega),if_neg (by omega),if_neg (by omega),if_neg (by omega),if_pos h]
theorem xr_11 (h:x.op=11):s.ins m x=Q1x (s.g.val x.a) fun a=> .go (s.put [s.e.word a]):=by unfold RS.ins;rw [if_neg (by omega),if_neg (by omega),if_neg (by omega),if_neg (by omega),if_neg (by omega),if_neg (by omega),if_neg (by omega),if_neg (by omega),if_neg (by omega),if_neg (by omega),if_pos h]
theorem xr_12 (h:x.op=12):s.ins m x=s.inR:=by unfold RS.ins;rw [if_neg (by omega),if_neg (by omega),if_neg (by omega),if_neg (by omega),if_neg (by omega),if_neg (by omega),if_neg (by omega),if_neg (by omega),if_neg (by omega),if_neg (by omega),if_neg (by omega),if_pos h]
theorem xr_13 (h:x.op=13):s.ins m x=Q1x (s.g.val x.a) fun n=> s.outR n:=by unfold RS.ins;rw [if_neg (by omega),if_neg (by omega),if_neg (by omega),if_neg (by omega),if_neg (by omega),if_neg (by omega),if_neg (by omega),if_neg (by omega),if_neg (by omega),if_neg (by omega),if_neg (by omega),if_neg (by omega),if_pos h]
theorem xr_14 (h:x.op=14):s.ins m x=Q1x (s.g.args x.args) fun vs=> s.callR x.k vs:=by unfold RS.ins;rw [if_neg (by omega),if_neg (by omega),if_neg (by omega),if_neg (by omega),if_neg (by omega),if_neg (by omega),if_neg (by omega),if_neg (by omega),if_neg (by omega),if_neg (by omega),if_neg (by omega),if_neg (by omega),if_neg (by omega)]
theorem got_14 {r n:Int}{k:EstS→Int→RStp}(h:s.e.code r n=14):s.gotR r n k= .halt 6:=if_pos h
theorem got_s {r n:Int}{k:EstS→Int→RStp}(h:s.e.code r n≠14):s.gotR r n k=k (s.e.get r n) (s.e.getV r n):=if_neg h
theorem at_2 {a k:Int}{c:Int→RStp}(h:k < 0∨s.e.p.word a≤k):s.atR a k c= .halt 2:=if_pos h
theorem at_s {a k:Int}{c:Int→RStp}(h:¬(k < 0∨s.e.p.word a≤k)):s.atR a k c=c (wr (wr (a+1)+k)):=if_neg h
theorem rin_0 (e:s.inp=[]):s.inR= .halt 4:=by unfold RS.inR;rw [e]
theorem rin_s {n:Int}{r:List Int}(e:s.inp=n::r):s.inR= .go ((⟨s.e,s.g,s.st,r,s.out,s.fuel⟩:RS).put [n]):=by unfold RS.inR;rw [e]
theorem rout_0 {n:Int}(e:s.out.length=2000):s.outR n= .halt 8:=if_pos e
theorem rout_s {n:Int}(e:s.out.length≠2000):s.outR n= .go ⟨s.e,s.g,s.st,s.inp,s.out++[n],s.fuel⟩:=if_neg e
theorem rcall_0 {k:Int}{vs:List Int}(e:s.st.length+1=40):s.callR k vs= .halt 5:=if_pos e
theorem rcall_s {k:Int}{vs:List Int}(e:s.st.length+1≠40):s.callR k vs= .go ⟨s.e,⟨k.toNat,0,0,vs⟩,s.g::s.st,s.inp,s.out,s.fuel⟩:=if_neg e
end
variable {cx:Cx}{w:World}{L:List Res}{p:Nat}{c:RC}{fr:List RFV}{g:RFV}{s:EstS}{out inp:List Int}{fu:Nat}{m:Module}
def rsOf (s:EstS) (g:RFV) (fr:List RFV) (inp out:List Int) (fu:Nat):RS:=⟨s,g.abs,(fr.map RFV.abs).reverse,inp,out,fu⟩
def RGo (p:Nat) (c:RC) (fu:Nat) (X:RStp) (cx:Cx) (L:List Res) (u:Value) (w':World):Prop:=
 ∃lv i1 ov fr' g' s' inp' out',X= .go (rsOf s' g' fr' inp' out' fu)∧intR.sl cx i1 inp'∧u= .tuple #[]∧St cx w' (rS p (c.upd lv i1 ov) fr' g' s' out' L)
def RBad (p:Nat) (c:RC) (s:EstS) (out:List Int) (X:RStp) (cx:Cx) (L:List Res) (u:Value) (w':World):Prop:=
 ∃e,X= .halt e∧u=Q8A e∧∃fr' g',St cx w' (rS p c fr' g' s out L)
def RFV.nx (g:RFV):RFV:=⟨g.f,g.b,g.i+1,g.vv,g.vals⟩
theorem QdR {l:List Int}{n:Int}:l.map Qj++[[.int .i64 n]]=(l++[n]).map Qj:=by rw [List.map_append];rfl
theorem Qdz {k:RFV}:Q35 fr g++[k.cells]=Q35 (fr++[g]) k:=by unfold Q35;rw [List.map_append];rfl
theorem rbig_in {k:RFV}(h:St cx w (sl 2 1 k.vv (k.vals.map Qj)::big RFV.res fr::L)):St cx w (big RFV.res (fr++[k])::L):=by
 have h1:St cx w (fr.map RFV.res++(RFV.res k::L)):=h.mv1.list
 have h2:St cx w ((fr++[k]).map RFV.res++L):=by simpa using h1
 exact h2.list'
theorem Q9C (h:s.openV < 0):s.open=s:=by
 unfold EstS.openV at h
 unfold EstS.open
 split at h
 · omega
 · rename_i hl;exact if_neg hl
theorem Qaw {g':RFV}:rsOf s g' (fr++[g]) inp out fu=⟨s,g'.abs,g.abs::(fr.map RFV.abs).reverse,inp,out,fu⟩:=by unfold rsOf;simp
attribute [local irreducible] RFrm.val RFrm.args EstS.get EstS.getV EstS.code PoolS.word EstS.store EstS.stores EstS.open EstS.openV EstS.shut RS.ins opF
theorem rwins_c {x : Ins} {cs : List Value} (hx : insR.at cx cs x) (hi:intR.sl cx c.iv inp) (hop:1≤x.op∧x.op≤14) (hk:x.op=14→0≤x.k) (h8:x.args.length≤100) (hgi:g.i≤1000) (hf:fr.length≤900) (hn:g.vals.length≤800000) (hol:out.length≤2000) (hX0:(rsOf s g.nx fr inp out fu).ins m x≠ .crash) (hS:St cx w (rS p c fr g s out L)):
 Fins Tryz.prog Q7I [.pointer (some ⟨p,0,none⟩), .agg ⟨cs⟩] w (RGo p c fu ((rsOf s g.nx fr inp out fu).ins m x) cx L) (RBad p c s out ((rsOf s g.nx fr inp out fu).ins m x) cx L):=by
 obtain ⟨vr,va,rfl,hr,ha1⟩:=Q1a hx
 obtain ⟨ep,f1,lv,i1,e1,bv,ov,f2,mo,dn⟩:=c
 have hil:=hi.len
 unfold Fins
 all_goals refine lgo tyD Tryz.func83 ?_
 all_goals (refine Zaq ?_;intro p3 w1 hS;refine ZaF ?_;have hS:St cx _ (rS p ⟨ep,f1,lv,i1,e1,bv,ov,f2,mo,dn⟩ fr g s out (blk p3 84 [.int .i64 x.op, .int .i64 x.a, .int .i64 x.b, .int .i64 x.c, .int .i64 x.k, .int .i64 x.n,vr,va]::L)):=hS.sp;refine Zag ?_;refine zR1 (c:=Q54 (by omega) hS) (h:=?_);rintro v1 w1 ⟨b9,o9,rfl,hel,hS⟩;refine Zar ?_;refine Q1 hS hel rfl fd (Q6 fr g) (Q9 fr g) rfl ?_;refine zad ?_;rw [show ((g.i:Int)+1)=((g.i+1:Nat):Int) by omega];refine Zar ?_;refine Q10 hS hel rfl vw fd (Q6 fr g) (Q9 fr g) (by omega) rfl (Qax (g':=g.nx) rfl) ?_;intro w8 hS;have hS:=hS.ns;have hS:St cx _ (rS p ⟨ep,f1,lv,i1,e1,bv,ov,f2,mo,dn⟩ fr g.nx s out (blk p3 84 [.int .i64 x.op, .int .i64 x.a, .int .i64 x.b, .int .i64 x.c, .int .i64 x.k, .int .i64 x.n,vr,va]::L)):=hS.sp;refine ZaE ?_;refine zf0 ?_;refine zl hS ?_;refine ZbJ ?_;refine Zaa ?_)
 all_goals (first|(refine Qi ?_)|(refine Qm ?_)|(refine Q5 rfl rfl (fun hc=> ?_) (fun hc=> ?_)))
 all_goals (refine Zad ?_)
 all_goals
  first
  | (refine zct ?_
     all_goals (have hX:=xr_1 (m:=m) (s:=rsOf s g.nx fr inp out fu) (x:=x) (by omega);refine Zag ?_;refine zf0 ?_;refine zl hS ?_;refine zB1 hS [_] ?_;intro b1 w1 hS;have hS:=St.slOf (T:=2) (es:=1) (css:=[x.n].map Qj) hS rfl (by simp [Qj]) rfl;have hS:St cx _ (rL p _ fr g.nx (sl 2 1 (.slice (some ⟨b1,0,none⟩) 1 1) ([x.n].map Qj)::_)):=hS.sp;refine zR2 (c:=Q55 (j:=0) (by omega) (by show g.vals.length+1≤1000000;omega) hS rfl) (h:=?_);rintro u1 w1 ⟨tv,rfl,hS⟩;refine zn ?_)
     all_goals (have hG:RGo p ⟨ep,f1,lv,i1,e1,bv,ov,f2,mo,dn⟩ fu ((rsOf s g.nx fr inp out fu).ins m x) cx L (.tuple #[]) w1:=⟨lv,i1,ov,fr,g.nx.push tv [x.n],s,inp,out,hX,hi,rfl,hS.sp⟩))
  | (refine zcf ?_
     all_goals (refine Zaa ?_)
     all_goals (first|(refine Qi ?_)|(refine Qm ?_)|(refine Q5 rfl rfl (fun hc=> ?_) (fun hc=> ?_)))
     all_goals (refine Zad ?_)
     all_goals
      first
      | (refine zct ?_
         all_goals (refine Qv ?_;have hX:=xr_2 (m:=m) (s:=rsOf s g.nx fr inp out fu) (x:=x) (by omega);rw [hX] at hX0;obtain ⟨na,hna,eX⟩:=Q12 hX0;rw [eX] at hX0;have hX:=hX.trans eX;obtain ⟨nb,hnb,eX⟩:=Q12 hX0;rw [eX] at hX0;have hX:=hX.trans eX;refine zC [(0,none),(1,none),(2,none),(3,none),(4,none),(6,none),(7,none),(8,none),(5,some (some [1,8])),(9,some (some [1])),(10,some none),(11,none),(12,none),(13,none),(14,none),(15,some none)] ?_;have hS:=hS.drew;refine s_cq ?_;refine zf0 ?_;refine Zac ?_;refine zl hS ?_;refine Zax ?_;refine zf0 ?_;refine Zac ?_;refine zl hS ?_;refine Zax ?_;refine zf0 ?_;refine Zac ?_;refine zl hS ?_;refine Zal ?_;refine zR2 (c:=Q2y (by omega) (show St cx _ (rL p _ fr g.nx _) from hS.sp) hna) (h:=?_);rintro v1 w1 ⟨rfl,hS⟩;refine Zbe ?_;refine zR2 (c:=Q2y (by omega) (show St cx _ (rL p _ fr g.nx _) from hS.sp) hnb) (h:=?_);rintro v1 w1 ⟨rfl,hS⟩)
         all_goals (refine ZaZ ?_)
         all_goals (refine zR3 (c:=op_s hS) (h:=?_);rintro v1 w1 ⟨rfl,hS⟩;cases hd:(opF x.k na nb).2)
         all_goals (refine Zax ?_;refine zxt ?_;refine Zac ?_;refine zxt ?_;refine Zac ?_;refine zm ?_;refine Zay ?_;refine ZbN ?_;refine Zab ?_;refine znt ?_)
         all_goals (first|(refine zR2 (c:=Q3X hS) (h:=?_);rintro v1 w1 ⟨rfl,hS⟩)|(refine zE2 (c:=Q3W hS) (p:=by rintro v9 w9 ⟨rfl,hS⟩;(repeat (first|refine Qe ?_|refine Qf ?_|refine fun _=> ?_));refine Qy ?_;refine .inr ⟨_,rfl,?_⟩;exact ⟨1,hX.trans (if_pos hd),rfl,fr,g.nx,hS.sp⟩) (h:=fun _ _ h=> h.elim)))
         all_goals (refine zn ?_;refine ZaI ?_;refine zB1 hS [_] ?_;intro b1 w1 hS;have hS:=St.slOf (T:=2) (es:=1) (css:=[(opF x.k na nb).1].map Qj) hS rfl (by simp [Qj]) rfl;have hS:St cx _ (rL p _ fr g.nx (sl 2 1 (.slice (some ⟨b1,0,none⟩) 1 1) ([(opF x.k na nb).1].map Qj)::_)):=hS.sp;refine zR2 (c:=Q55 (j:=0) (by omega) (by show g.vals.length+1≤1000000;omega) hS rfl) (h:=?_);rintro u1 w1 ⟨tv,rfl,hS⟩;refine zn ?_)
         all_goals (have hG:RGo p ⟨ep,f1,lv,i1,e1,bv,ov,f2,mo,dn⟩ fu ((rsOf s g.nx fr inp out fu).ins m x) cx L (.tuple #[]) w1:=⟨lv,i1,ov,fr,g.nx.push tv [(opF x.k na nb).1],s,inp,out,hX.trans (if_neg (by rw [hd];decide)),hi,rfl,hS.sp⟩))
      | (refine zcf ?_
         all_goals (refine Zaa ?_)
         all_goals (first|(refine Qi ?_)|(refine Qm ?_)|(refine Q5 rfl rfl (fun hc=> ?_) (fun hc=> ?_)))
         all_goals (refine Zad ?_)
         all_goals
          first
          | (refine zct ?_
             all_goals (refine Qv ?_;have hX:=xr_3 (m:=m) (s:=rsOf s g.nx fr inp out fu) (x:=x) (by omega);refine Zby ?_;refine zf0 ?_;refine zl hS ?_;refine zR1 (c:=eopen_c (e:=ep) (s:=s) hS fd) (h:=?_);rintro v1 w1 ⟨rfl,hS⟩;have hS:=hS.ns;refine ZaT ?_)
             all_goals (first|(refine Q1k ?_)|(refine Q1w ?_)|(refine QA rfl rfl (fun hc=> ?_) (fun hc=> ?_)))
             all_goals (first|(refine zR2 (c:=Q3X hS) (h:=?_);rintro v1 w1 ⟨rfl,hS⟩)|(refine zE2 (c:=Q3W hS) (p:=by rintro v9 w9 ⟨rfl,hS⟩;(repeat (first|refine Qe ?_|refine Qf ?_|refine fun _=> ?_));refine Qy ?_;refine .inr ⟨_,rfl,?_⟩;first|(exact ⟨6,hX.trans (if_pos (show s.openV < 0 by omega)),rfl,fr,g.nx,(by rw [Q9C (show s.openV < 0 by omega)] at hS;exact hS.sp)⟩)) (h:=fun _ _ h=> h.elim)))
             all_goals (refine zn ?_;refine ZaI ?_;refine zB1 hS [_] ?_;intro b1 w1 hS;have hS:=St.slOf (T:=2) (es:=1) (css:=[s.openV].map Qj) hS rfl (by simp [Qj]) rfl;have hS:St cx _ (rL p _ fr g.nx (sl 2 1 (.slice (some ⟨b1,0,none⟩) 1 1) ([s.openV].map Qj)::_)):=hS.sp;refine zR2 (c:=Q55 (j:=0) (by omega) (by show g.vals.length+1≤1000000;omega) hS rfl) (h:=?_);rintro u1 w1 ⟨tv,rfl,hS⟩;refine zn ?_)
             all_goals (have hG:RGo p ⟨ep,f1,lv,i1,e1,bv,ov,f2,mo,dn⟩ fu ((rsOf s g.nx fr inp out fu).ins m x) cx L (.tuple #[]) w1:=⟨lv,i1,ov,fr,g.nx.push tv [s.openV],s.open,inp,out,hX.trans (if_neg (show¬s.openV < 0 by omega)),hi,rfl,hS.sp⟩))
          | (refine zcf ?_
             all_goals (refine Zaa ?_)
             all_goals (first|(refine Qi ?_)|(refine Qm ?_)|(refine Q5 rfl rfl (fun hc=> ?_) (fun hc=> ?_)))
             all_goals (refine Zad ?_)
             all_goals
              first
              | (refine zct ?_
                 all_goals (have hX:=xr_4 (m:=m) (s:=rsOf s g.nx fr inp out fu) (x:=x) (by omega);rw [hX] at hX0;obtain ⟨a,ha,eX⟩:=Q12 hX0;rw [eX] at hX0;have hX:=hX.trans eX;refine zC [(0,none),(1,none),(2,none),(3,none),(4,none),(5,none),(6,none),(7,some (some [3])),(8,some none)] ?_;have hS:=hS.drew;refine Zbu ?_;refine zf0 ?_;refine Zac ?_;refine zl hS ?_;refine Zax ?_;refine zf0 ?_;refine Zac ?_;refine zl hS ?_;refine Zal ?_;refine zR2 (c:=Q2y (by omega) (show St cx _ (rL p _ fr g.nx _) from hS.sp) ha) (h:=?_);rintro v1 w1 ⟨rfl,hS⟩;refine ZaZ ?_;refine zR2 (c:=eshut_c (e:=ep) (s:=s) a hS fd) (h:=?_);rintro v1 w1 ⟨rfl,hS⟩;have hS:=hS.ns;refine Zav ?_)
                 all_goals (have hG:RGo p ⟨ep,f1,lv,i1,e1,bv,ov,f2,mo,dn⟩ fu ((rsOf s g.nx fr inp out fu).ins m x) cx L (.tuple #[]) w1:=⟨lv,i1,ov,fr,g.nx,s.shut a,inp,out,hX,hi,rfl,hS.sp⟩))
              | (refine zcf ?_
                 all_goals (refine Zaa ?_)
                 all_goals (first|(refine Qi ?_)|(refine Qm ?_)|(refine Q5 rfl rfl (fun hc=> ?_) (fun hc=> ?_)))
                 all_goals (refine Zad ?_)
                 all_goals
                  first
                  | (refine zct ?_
                     all_goals (have hX:=xr_5 (m:=m) (s:=rsOf s g.nx fr inp out fu) (x:=x) (by omega);rw [hX] at hX0;obtain ⟨a,ha,eX⟩:=Q12 hX0;rw [eX] at hX0;have hX:=hX.trans eX;obtain ⟨vs,hvs,eX⟩:=Q12 hX0;rw [eX] at hX0;have hX:=hX.trans eX;refine Zag ?_;refine zv hS ?_;refine zE2 (c:=rtuple_c (s:=s) (out:=out) (x:=x) hx h8 rfl (by omega) (by show g.vals.length≤900000;omega) ha hvs (show St cx _ (rS p ⟨ep,f1,lv,i1,e1,bv,ov,f2,mo,dn⟩ fr g.nx s out _) from hS.sp)) (p:=by rintro u9 w9 ⟨h14,rfl,hS⟩;(repeat (first|refine Qe ?_|refine Qf ?_|refine fun _=> ?_));refine Qy ?_;refine .inr ⟨_,rfl,?_⟩;rw [(Q8b (by omega)).1] at hS;exact ⟨6,hX.trans (got_14 h14),rfl,fr,g.nx,hS.sp⟩) (h:=?_);rintro u1 w1 ⟨h14,rfl,tv,hS⟩;refine zn ?_)
                     all_goals (have hG:RGo p ⟨ep,f1,lv,i1,e1,bv,ov,f2,mo,dn⟩ fu ((rsOf s g.nx fr inp out fu).ins m x) cx L (.tuple #[]) w1:=⟨lv,i1,ov,fr,g.nx.push tv [s.getV a (max (x.args.length:Int) 1)],((s.get a (max (x.args.length:Int) 1)).stores (s.getV a (max (x.args.length:Int) 1)) vs),inp,out,hX.trans (got_s h14),hi,rfl,hS.sp⟩))
                  | (refine zcf ?_
                     all_goals (refine Zaa ?_)
                     all_goals (first|(refine Qi ?_)|(refine Qm ?_)|(refine Q5 rfl rfl (fun hc=> ?_) (fun hc=> ?_)))
                     all_goals (refine Zad ?_)
                     all_goals
                      first
                      | (refine zct ?_
                         all_goals (have hX:=xr_6 (m:=m) (s:=rsOf s g.nx fr inp out fu) (x:=x) (by omega);rw [hX] at hX0;obtain ⟨a,ha,eX⟩:=Q12 hX0;rw [eX] at hX0;have hX:=hX.trans eX;obtain ⟨b5,pp,rv,ho,hS⟩:=Q1V (hS.out (i:=4) rfl);obtain rfl:=ho.he;refine zC [(0,none),(1,none),(2,none),(3,none),(4,none),(6,none),(7,none),(5,some (some [7])),(8,none),(9,some (some [])),(10,some (some [])),(11,some none)] ?_;have hS:=hS.drew;refine Zbf ?_;refine Zaj ?_;refine zf0 ?_;refine Zac ?_;refine zl hS ?_;refine Zac ?_;refine zf0 ?_;refine Zac ?_;refine zl hS ?_;refine Zal ?_;refine zR2 (c:=Q2y (by omega) (show St cx _ (rL p _ fr g.nx _) from hS.sp) ha) (h:=?_);rintro v1 w1 ⟨rfl,hS⟩;refine ZaS ?_;refine Ybd ?_;refine Zal ?_;refine zR2 (c:=Q9s (q:=s.p) (wr (a+x.k)) rfl (show St cx _ (rL p _ fr g.nx (blk b5 73 (pp::Q1n rv)::Q1C pp s.p::_)) from hS.sp)) (h:=?_);rintro v1 w1 ⟨rfl,hS⟩)
                         all_goals (refine Zbe ?_;refine zB1 hS [_] ?_;intro b1 w1 hS;refine ZaZ ?_;have hS:=St.slOf (T:=2) (es:=1) (css:=[s.p.word (wr (a+x.k))].map Qj) hS rfl (by simp [Qj]) rfl;have hS:St cx _ (rL p _ fr g.nx (sl 2 1 (.slice (some ⟨b1,0,none⟩) 1 1) ([s.p.word (wr (a+x.k))].map Qj)::_)):=hS.sp;refine zR2 (c:=Q55 (j:=0) (by omega) (by show g.vals.length+1≤1000000;omega) hS rfl) (h:=?_);rintro u1 w1 ⟨tv,rfl,hS⟩;refine Zav ?_)
                         all_goals (have hG:RGo p ⟨.pointer (some ⟨b5,0,none⟩),f1,lv,i1,e1,bv,ov,f2,mo,dn⟩ fu ((rsOf s g.nx fr inp out fu).ins m x) cx L (.tuple #[]) w1:=by have hS:=QW ho (show St cx _ (blk b5 73 (pp::Q1n rv)::Q1C pp s.p::big RegV.res rv::_) from hS.sp);exact ⟨lv,i1,ov,fr,g.nx.push tv [s.p.word (wr (a+x.k))],s,inp,out,hX,hi,rfl,hS.sp⟩))
                      | (refine zcf ?_
                         all_goals (refine Zaa ?_)
                         all_goals (first|(refine Qi ?_)|(refine Qm ?_)|(refine Q5 rfl rfl (fun hc=> ?_) (fun hc=> ?_)))
                         all_goals (refine Zad ?_)
                         all_goals
                          first
                          | (refine zct ?_
                             all_goals (have hX:=xr_7 (m:=m) (s:=rsOf s g.nx fr inp out fu) (x:=x) (by omega);rw [hX] at hX0;obtain ⟨a,ha,eX⟩:=Q12 hX0;rw [eX] at hX0;have hX:=hX.trans eX;obtain ⟨b0,hb0,eX⟩:=Q12 hX0;rw [eX] at hX0;have hX:=hX.trans eX;obtain ⟨b5,pp,rv,ho,hS⟩:=Q1V (hS.out (i:=4) rfl);obtain rfl:=ho.he;refine zC [(0,none),(1,none),(2,none),(3,none),(4,none),(5,none),(6,none),(7,none),(8,none),(9,none),(11,none),(12,none),(14,none),(15,none),(16,none),(10,some (some [3,6,12,16])),(13,none),(17,some (some [3,6,12])),(18,some none)] ?_;have hS:=hS.drew;refine Zbu ?_;refine zf0 ?_;refine Zac ?_;refine zl hS ?_;refine Zac ?_;refine Zaw ?_;refine zf0 ?_;refine Zac ?_;refine zl hS ?_;refine Zax ?_;refine zf0 ?_;refine Zac ?_;refine zl hS ?_)
                             all_goals (refine Zac ?_;refine zf0 ?_;refine Zac ?_;refine zl hS ?_;refine Zax ?_;refine zf0 ?_;refine Zac ?_;refine zl hS ?_;refine Zal ?_;refine zR2 (c:=Q2y (by omega) (show St cx _ (rL p _ fr g.nx _) from hS.sp) ha) (h:=?_);rintro v1 w1 ⟨rfl,hS⟩;refine ZaS ?_;refine Ybd ?_;refine Zal ?_;refine zR2 (c:=Q2y (by omega) (show St cx _ (rL p _ fr g.nx _) from hS.sp) hb0) (h:=?_);rintro v1 w1 ⟨rfl,hS⟩;refine ZaZ ?_;refine zR3 (c:=Q9f (s:=s.p) (wr (a+x.k)) b0 hS fd) (h:=?_);rintro v1 w1 ⟨rfl,hS⟩;have hS:=hS.ns;refine Zav ?_)
                             all_goals (have hG:RGo p ⟨.pointer (some ⟨b5,0,none⟩),f1,lv,i1,e1,bv,ov,f2,mo,dn⟩ fu ((rsOf s g.nx fr inp out fu).ins m x) cx L (.tuple #[]) w1:=by have hS:=Q4S ho (show St cx _ (blk b5 73 (pp::Q1n rv)::Q1C pp _::big RegV.res rv::_) from hS.sp);exact ⟨lv,i1,ov,fr,g.nx,(s.store (wr (a+x.k)) b0),inp,out,hX,hi,rfl,hS.sp⟩))
                          | (refine zcf ?_
                             all_goals (refine Zaa ?_)
                             all_goals (first|(refine Qi ?_)|(refine Qm ?_)|(refine Q5 rfl rfl (fun hc=> ?_) (fun hc=> ?_)))
                             all_goals (refine Zad ?_)
                             all_goals
                              first
                              | (refine zct ?_
                                 all_goals (have hX:=xr_8 (m:=m) (s:=rsOf s g.nx fr inp out fu) (x:=x) (by omega);rw [hX] at hX0;obtain ⟨a,ha,eX⟩:=Q12 hX0;rw [eX] at hX0;have hX:=hX.trans eX;obtain ⟨n,hna,eX⟩:=Q12 hX0;rw [eX] at hX0;have hX:=hX.trans eX;refine Zag ?_;refine zv hS ?_)
                                 all_goals (refine zE2 (c:=rarray_c (s:=s) (out:=out) (x:=x) hx (by omega) (by show g.vals.length≤900000;omega) ha hna (show St cx _ (rS p ⟨ep,f1,lv,i1,e1,bv,ov,f2,mo,dn⟩ fr g.nx s out _) from hS.sp)) (p:=by rintro u9 w9 hB;(repeat (first|refine Qe ?_|refine Qf ?_|refine fun _=> ?_));refine Qy ?_;refine .inr ⟨_,rfl,?_⟩;(rcases hB with ⟨hnn,rfl,hS⟩|⟨hnn,h14,rfl,hS⟩;exact ⟨3,hX.trans (if_pos hnn),rfl,fr,g.nx,hS.sp⟩;rw [(Q8b (by omega)).1] at hS;exact ⟨6,hX.trans ((if_neg hnn).trans (got_14 h14)),rfl,fr,g.nx,hS.sp⟩)) (h:=?_);rintro u1 w1 ⟨hnn,h14,rfl,tv,hS⟩)
                                 all_goals (refine zn ?_)
                                 all_goals (have hG:RGo p ⟨ep,f1,lv,i1,e1,bv,ov,f2,mo,dn⟩ fu ((rsOf s g.nx fr inp out fu).ins m x) cx L (.tuple #[]) w1:=⟨lv,i1,ov,fr,g.nx.push tv [s.getV a (1+n)],((s.get a (1+n)).store (s.getV a (1+n)) n),inp,out,hX.trans ((if_neg hnn).trans (got_s h14)),hi,rfl,hS.sp⟩))
                              | (refine zcf ?_
                                 all_goals (refine Zaa ?_)
                                 all_goals (first|(refine Qi ?_)|(refine Qm ?_)|(refine Q5 rfl rfl (fun hc=> ?_) (fun hc=> ?_)))
                                 all_goals (refine Zad ?_)
                                 all_goals
                                  first
                                  | (refine zct ?_
                                     all_goals (have hX:=xr_9 (m:=m) (s:=rsOf s g.nx fr inp out fu) (x:=x) (by omega);rw [hX] at hX0;obtain ⟨a,ha,eX⟩:=Q12 hX0;rw [eX] at hX0;have hX:=hX.trans eX;obtain ⟨k,hkk,eX⟩:=Q12 hX0;rw [eX] at hX0;have hX:=hX.trans eX;obtain ⟨b5,pp,rv,ho,hS⟩:=Q1V (hS.out (i:=4) rfl);obtain rfl:=ho.he;refine ZaI ?_;refine zm ?_;refine zv hS ?_;refine zE2 (c:=rat_o (q:=s.p) (x:=x) rfl hx (by omega) ha hkk (show St cx _ (rL p _ fr g.nx (blk b5 73 (pp::Q1n rv)::Q1C pp s.p::_)) from hS.sp)) (p:=by rintro u9 w9 ⟨hb9,rfl,hS⟩;(repeat (first|refine Qe ?_|refine Qf ?_|refine fun _=> ?_));refine Qy ?_;refine .inr ⟨_,rfl,?_⟩;have hS:=QW ho (show St cx _ (blk b5 73 (pp::Q1n rv)::Q1C pp s.p::big RegV.res rv::_) from hS.sp);exact ⟨2,hX.trans (at_2 hb9),rfl,fr,g.nx,hS.sp⟩) (h:=?_);rintro u1 w2 ⟨hnb,rfl,hS⟩;refine zR2 (c:=Q9s (q:=s.p) (wr (wr (a+1)+k)) rfl (show St cx _ (rL p _ fr g.nx (blk b5 73 (pp::Q1n rv)::Q1C pp s.p::_)) from hS.sp)) (h:=?_);rintro v1 w1 ⟨rfl,hS⟩;refine zB1 hS [_] ?_;intro b1 w1 hS;have hS:=St.slOf (T:=2) (es:=1) (css:=[s.p.word (wr (wr (a+1)+k))].map Qj) hS rfl (by simp [Qj]) rfl;have hS:St cx _ (rL p _ fr g.nx (sl 2 1 (.slice (some ⟨b1,0,none⟩) 1 1) ([s.p.word (wr (wr (a+1)+k))].map Qj)::_)):=hS.sp;refine zR2 (c:=Q55 (j:=0) (by omega) (by show g.vals.length+1≤1000000;omega) hS rfl) (h:=?_);rintro u1 w1 ⟨tv,rfl,hS⟩)
                                     all_goals (refine zn ?_)
                                     all_goals (have hG:RGo p ⟨.pointer (some ⟨b5,0,none⟩),f1,lv,i1,e1,bv,ov,f2,mo,dn⟩ fu ((rsOf s g.nx fr inp out fu).ins m x) cx L (.tuple #[]) w1:=by have hS:=QW ho (show St cx _ (blk b5 73 (pp::Q1n rv)::Q1C pp s.p::big RegV.res rv::_) from hS.sp);exact ⟨lv,i1,ov,fr,g.nx.push tv [s.p.word (wr (wr (a+1)+k))],s,inp,out,hX.trans (at_s hnb),hi,rfl,hS.sp⟩))
                                  | (refine zcf ?_
                                     all_goals (refine Zaa ?_)
                                     all_goals (first|(refine Qi ?_)|(refine Qm ?_)|(refine Q5 rfl rfl (fun hc=> ?_) (fun hc=> ?_)))
                                     all_goals (refine Zad ?_)
                                     all_goals
                                      first
                                      | (refine zct ?_
                                         all_goals (have hX:=xr_10 (m:=m) (s:=rsOf s g.nx fr inp out fu) (x:=x) (by omega);rw [hX] at hX0;obtain ⟨a,ha,eX⟩:=Q12 hX0;rw [eX] at hX0;have hX:=hX.trans eX;obtain ⟨k,hkk,eX⟩:=Q12 hX0;rw [eX] at hX0;have hX:=hX.trans eX;obtain ⟨y,hy,eX⟩:=Q12 hX0;rw [eX] at hX0;have hX:=hX.trans eX;obtain ⟨b5,pp,rv,ho,hS⟩:=Q1V (hS.out (i:=4) rfl);obtain rfl:=ho.he;refine zC [(0,none),(1,none),(2,none),(3,none),(4,none),(5,none),(6,none),(7,none),(8,none),(10,none),(11,none),(12,none),(9,some (some [3,6,12])),(13,some (some [3,6])),(14,some none)] ?_;have hS:=hS.drew;refine Zbu ?_;refine zf0 ?_;refine Zac ?_;refine zl hS ?_;refine Zac ?_;refine Zaw ?_;refine zf0 ?_;refine Zac ?_;refine zl hS ?_;refine Zax ?_;refine zv hS ?_;refine Zac ?_;refine zm ?_;refine zt ?_)
                                         all_goals (refine s_cq ?_;refine zf0 ?_;refine Zac ?_;refine zl hS ?_;refine Zal ?_;refine zE2 (c:=rat_o (q:=s.p) (x:=x) rfl hx (by omega) ha hkk (show St cx _ (rL p _ fr g.nx (blk b5 73 (pp::Q1n rv)::Q1C pp s.p::_)) from hS.sp)) (p:=by rintro u9 w9 ⟨hb9,rfl,hS⟩;(repeat (first|refine Qe ?_|refine Qf ?_|refine fun _=> ?_));refine Qy ?_;refine .inr ⟨_,rfl,?_⟩;have hS:=QW ho (show St cx _ (blk b5 73 (pp::Q1n rv)::Q1C pp s.p::big RegV.res rv::_) from hS.sp);exact ⟨2,hX.trans (at_2 hb9),rfl,fr,g.nx,hS.sp⟩) (h:=?_);rintro u1 w2 ⟨hnb,rfl,hS⟩;refine Zbe ?_;refine zR2 (c:=Q2y (by omega) (show St cx _ (rL p _ fr g.nx _) from hS.sp) hy) (h:=?_);rintro v1 w1 ⟨rfl,hS⟩;refine ZaZ ?_;refine zR3 (c:=Q9f (s:=s.p) (wr (wr (a+1)+k)) y hS fd) (h:=?_);rintro v1 w1 ⟨rfl,hS⟩;have hS:=hS.ns;refine Zav ?_)
                                         all_goals (have hG:RGo p ⟨.pointer (some ⟨b5,0,none⟩),f1,lv,i1,e1,bv,ov,f2,mo,dn⟩ fu ((rsOf s g.nx fr inp out fu).ins m x) cx L (.tuple #[]) w1:=by have hS:=Q4S ho (show St cx _ (blk b5 73 (pp::Q1n rv)::Q1C pp _::big RegV.res rv::_) from hS.sp);exact ⟨lv,i1,ov,fr,g.nx,(s.store (wr (wr (a+1)+k)) y),inp,out,hX.trans (at_s hnb),hi,rfl,hS.sp⟩))
                                      | (refine zcf ?_
                                         all_goals (refine Zaa ?_)
                                         all_goals (first|(refine Qi ?_)|(refine Qm ?_)|(refine Q5 rfl rfl (fun hc=> ?_) (fun hc=> ?_)))
                                         all_goals (refine Zad ?_)
                                         all_goals
                                          first
                                          | (refine zct ?_
                                             all_goals (have hX:=xr_11 (m:=m) (s:=rsOf s g.nx fr inp out fu) (x:=x) (by omega);rw [hX] at hX0;obtain ⟨a,ha,eX⟩:=Q12 hX0;rw [eX] at hX0;have hX:=hX.trans eX;obtain ⟨b5,pp,rv,ho,hS⟩:=Q1V (hS.out (i:=4) rfl);obtain rfl:=ho.he;refine ZaI ?_;refine zm ?_;refine zf0 ?_;refine zl hS ?_;refine zR2 (c:=Q2y (by omega) (show St cx _ (rL p _ fr g.nx _) from hS.sp) ha) (h:=?_);rintro v1 w1 ⟨rfl,hS⟩;refine zR2 (c:=Q9s (q:=s.p) (a) rfl (show St cx _ (rL p _ fr g.nx (blk b5 73 (pp::Q1n rv)::Q1C pp s.p::_)) from hS.sp)) (h:=?_);rintro v1 w1 ⟨rfl,hS⟩;refine zB1 hS [_] ?_;intro b1 w1 hS;have hS:=St.slOf (T:=2) (es:=1) (css:=[s.p.word a].map Qj) hS rfl (by simp [Qj]) rfl;have hS:St cx _ (rL p _ fr g.nx (sl 2 1 (.slice (some ⟨b1,0,none⟩) 1 1) ([s.p.word a].map Qj)::_)):=hS.sp;refine zR2 (c:=Q55 (j:=0) (by omega) (by show g.vals.length+1≤1000000;omega) hS rfl) (h:=?_);rintro u1 w1 ⟨tv,rfl,hS⟩;refine zn ?_)
                                             all_goals (have hG:RGo p ⟨.pointer (some ⟨b5,0,none⟩),f1,lv,i1,e1,bv,ov,f2,mo,dn⟩ fu ((rsOf s g.nx fr inp out fu).ins m x) cx L (.tuple #[]) w1:=by have hS:=QW ho (show St cx _ (blk b5 73 (pp::Q1n rv)::Q1C pp s.p::big RegV.res rv::_) from hS.sp);exact ⟨lv,i1,ov,fr,g.nx.push tv [s.p.word a],s,inp,out,hX,hi,rfl,hS.sp⟩))
                                          | (refine zcf ?_
                                             all_goals (refine Zaa ?_)
                                             all_goals (first|(refine Qi ?_)|(refine Qm ?_)|(refine Q5 rfl rfl (fun hc=> ?_) (fun hc=> ?_)))
                                             all_goals (refine Zad ?_)
                                             all_goals
                                              first
                                              | (refine zct ?_
                                                 all_goals (refine Qv ?_;have hX:=xr_12 (m:=m) (s:=rsOf s g.nx fr inp out fu) (x:=x) (by omega);obtain ⟨av,nv,hiv⟩:=Rep.SR.shape hi;refine Zby ?_;refine zf0 ?_;refine zl hS ?_;refine QeZ vw hi ?_)
                                                 all_goals (first|(refine Qi ?_)|(refine Qm ?_)|(refine Q5 rfl rfl (fun hc=> ?_) (fun hc=> ?_)))
                                                 all_goals (first|(refine zR2 (c:=Q3X hS) (h:=?_);rintro v1 w1 ⟨rfl,hS⟩)|(refine zE2 (c:=Q3W hS) (p:=by rintro v9 w9 ⟨rfl,hS⟩;(repeat (first|refine Qe ?_|refine Qf ?_|refine fun _=> ?_));refine Qy ?_;refine .inr ⟨_,rfl,?_⟩;first|(first|exact ⟨6,hX.trans (if_pos (show s.openV < 0 by omega)),rfl,fr,g.nx,(by rw [Q9C (show s.openV < 0 by omega)] at hS;exact hS.sp)⟩|exact ⟨4,hX.trans (rin_0 (List.length_eq_zero_iff.1 (by show inp.length=0;omega))),rfl,fr,g.nx,hS.sp⟩)) (h:=fun _ _ h=> h.elim)))
                                                 all_goals (refine ZaF ?_;obtain ⟨n0,r0,hir⟩:∃n0 r0,inp=n0::r0:=List.exists_cons_of_length_pos (by omega);refine ZaI ?_;refine znc ?_;refine zf0 ?_;refine zl hS ?_)
                                                 all_goals (refine Q68 (m:=0) vw rfl hi rfl (by omega) ?_;intro b8 o8 cs8 x8 hat8 hx8 he8;rw [hir,List.getElem?_cons_zero] at hx8;cases hx8;obtain rfl:=QQ he8)
                                                 all_goals (refine Yap ?_;refine zB1 hS [_] ?_;intro b1 w1 hS;have hS:=St.slOf (T:=2) (es:=1) (css:=[n0].map Qj) hS rfl (by simp [Qj]) rfl;have hS:St cx _ (rL p _ fr g.nx (sl 2 1 (.slice (some ⟨b1,0,none⟩) 1 1) ([n0].map Qj)::_)):=hS.sp;refine zR2 (c:=Q55 (j:=0) (by omega) (by show g.vals.length+1≤1000000;omega) hS rfl) (h:=?_);rintro u1 w1 ⟨tv,rfl,hS⟩;refine zn ?_;refine ZaI ?_;refine znc ?_;refine zf0 ?_;refine zl hS ?_;refine QeQ (l':=1) (h':=inp.length) vw hi rfl rfl rfl ⟨_,rfl⟩ (by omega) (by omega) ?_;intro v7 hk7;have hk7:intR.sl cx v7 r0:=(by rw [hir] at hk7;simpa using hk7);obtain ⟨a7,n7,rfl⟩:=Rep.SR.shape hk7;refine znc ?_;refine zf0 ?_;refine zst hS ?_;intro w1 hS;have hS:=hS.ns;refine zn ?_)
                                                 all_goals (have hG:RGo p ⟨ep,f1,lv,i1,e1,bv,ov,f2,mo,dn⟩ fu ((rsOf s g.nx fr inp out fu).ins m x) cx L (.tuple #[]) w1:=⟨lv,_,ov,fr,g.nx.push tv [n0],s,r0,out,hX.trans (rin_s hir),hk7,rfl,hS.sp⟩))
                                              | (refine zcf ?_
                                                 all_goals (refine Zaa ?_)
                                                 all_goals (first|(refine Qi ?_)|(refine Qm ?_)|(refine Q5 rfl rfl (fun hc=> ?_) (fun hc=> ?_)))
                                                 all_goals (refine Zad ?_)
                                                 all_goals
                                                  first
                                                  | (refine zct ?_
                                                     all_goals (refine Qv ?_;have hX:=xr_13 (m:=m) (s:=rsOf s g.nx fr inp out fu) (x:=x) (by omega);rw [hX] at hX0;obtain ⟨n,hnn,eX⟩:=Q12 hX0;rw [eX] at hX0;have hX:=hX.trans eX;refine Zby ?_;refine zf0 ?_;refine Yac ?_;refine zl hS ?_;refine QO (n:=out.length) hS vw fd (List.length_map _) ?_)
                                                     all_goals (first|(refine Qi ?_)|(refine Qm ?_)|(refine Q5 rfl rfl (fun hc=> ?_) (fun hc=> ?_)))
                                                     all_goals (first|(refine zR2 (c:=Q3X hS) (h:=?_);rintro v1 w1 ⟨rfl,hS⟩)|(refine zE2 (c:=Q3W hS) (p:=by rintro v9 w9 ⟨rfl,hS⟩;(repeat (first|refine Qe ?_|refine Qf ?_|refine fun _=> ?_));refine Qy ?_;refine .inr ⟨_,rfl,?_⟩;first|(first|exact ⟨6,hX.trans (if_pos (show s.openV < 0 by omega)),rfl,fr,g.nx,(by rw [Q9C (show s.openV < 0 by omega)] at hS;exact hS.sp)⟩|exact ⟨4,hX.trans (rin_0 (List.length_eq_zero_iff.1 (by show inp.length=0;omega))),rfl,fr,g.nx,hS.sp⟩|exact ⟨8,hX.trans (rout_0 (by show out.length=2000;omega)),rfl,fr,g.nx,hS.sp⟩)) (h:=fun _ _ h=> h.elim)))
                                                     all_goals (refine zn ?_;refine zC [(0,none),(1,none),(2,none),(3,none),(4,none),(5,none),(6,none),(7,none),(8,none),(9,some (some [5])),(10,some (some [5])),(11,some (some [])),(12,none),(13,none),(14,none),(15,some none)] ?_;have hS:=hS.drew;refine Zbf ?_;refine Zaw ?_;refine zf0 ?_;refine Zbj ?_;refine zl hS ?_;refine Zax ?_;refine zf0 ?_;refine Zac ?_;refine zl hS ?_;refine Zal ?_;refine zR2 (c:=Q2y (by omega) (show St cx _ (rL p _ fr g.nx _) from hS.sp) hnn) (h:=?_);rintro v1 w1 ⟨rfl,hS⟩;refine Zbe ?_;refine zB1 hS [_] ?_;intro b1 w1 hS;refine Zbe ?_;refine Q24 Q5R (.inl Qal) hS vw vw (v:=ov) (css:=out.map Qj) fd (hS.srcB fd (by rfl) (by simp [oneC])) (by rw [List.length_map];simp only [List.length_cons,List.length_nil];omega) ?_;intro v7 w7 hS;have hS:=hS.ns;have ho7:=hS.oneC (v:=v7) (css:=out.map Qj++[[.int .i64 n]]) fd;rw [QdR] at hS)
                                                     all_goals (refine ZaS ?_;refine Zaw ?_;refine zf0 ?_;refine Zac ?_;refine Yac ?_;refine Zay ?_;refine zst hS ?_;intro w1 hS;have hS:=hS.ns;refine Zav ?_)
                                                     all_goals (have hG:RGo p ⟨ep,f1,lv,i1,e1,bv,ov,f2,mo,dn⟩ fu ((rsOf s g.nx fr inp out fu).ins m x) cx L (.tuple #[]) w1:=⟨lv,i1,v7,fr,g.nx,s,inp,out++[n],hX.trans (rout_s (by show out.length≠2000;omega)),hi,rfl,hS.sp⟩))
                                                  | (refine zcf ?_
                                                     all_goals (refine Zaa ?_)
                                                     all_goals (refine Qi ?_)
                                                     all_goals (refine Zad ?_)
                                                     all_goals
                                                      first
                                                      | (refine zct ?_
                                                         all_goals (refine Qv ?_;have hX:=xr_14 (m:=m) (s:=rsOf s g.nx fr inp out fu) (x:=x) (by omega);rw [hX] at hX0;obtain ⟨vs,hvs,eX⟩:=Q12 hX0;rw [eX] at hX0;have hX:=hX.trans eX;refine Zby ?_;refine zf0 ?_;refine zl hS ?_;refine QO (n:=fr.length+1) hS vw fd (Q6 fr g.nx) ?_)
                                                         all_goals (first|(refine Qi ?_)|(refine Qm ?_)|(refine Q5 rfl rfl (fun hc=> ?_) (fun hc=> ?_)))
                                                         all_goals (first|(refine zR2 (c:=Q3X hS) (h:=?_);rintro v1 w1 ⟨rfl,hS⟩)|(refine zE2 (c:=Q3W hS) (p:=by rintro v9 w9 ⟨rfl,hS⟩;(repeat (first|refine Qe ?_|refine Qf ?_|refine fun _=> ?_));refine Qy ?_;refine .inr ⟨_,rfl,?_⟩;first|(first|exact ⟨6,hX.trans (if_pos (show s.openV < 0 by omega)),rfl,fr,g.nx,(by rw [Q9C (show s.openV < 0 by omega)] at hS;exact hS.sp)⟩|exact ⟨4,hX.trans (rin_0 (List.length_eq_zero_iff.1 (by show inp.length=0;omega))),rfl,fr,g.nx,hS.sp⟩|exact ⟨8,hX.trans (rout_0 (by show out.length=2000;omega)),rfl,fr,g.nx,hS.sp⟩|exact ⟨5,hX.trans (rcall_0 (by show (fr.map RFV.abs).reverse.length+1=40;rw [List.length_reverse,List.length_map];omega)),rfl,fr,g.nx,hS.sp⟩)) (h:=fun _ _ h=> h.elim)))
                                                         all_goals (refine zn ?_;refine zC [(0,none),(1,none),(2,none),(3,none),(4,none),(5,none),(6,none),(7,none),(8,none),(9,none),(10,some (some [4,6])),(11,none),(12,some (some [4])),(13,some (some [])),(14,none),(15,none),(16,some none)] ?_;have hS:=hS.drew;refine Zbf ?_;refine Zaw ?_;refine zf0 ?_;refine Zac ?_;refine zl hS ?_;refine Zac ?_;refine zf0 ?_;refine Zac ?_;refine zl hS ?_;refine Zax ?_;refine zf0 ?_;refine Zac ?_;refine zl hS ?_;refine Zal ?_;refine zR2 (c:=Q5j (by omega) (by omega) ha1 hvs (show St cx _ (rL p _ fr g.nx _) from hS.sp)) (h:=?_);rintro v2 w2 ⟨hvl,ho2,hS⟩;obtain ⟨a2,n2,rfl⟩:=hS.shape (i:=4) rfl;refine ZaS ?_;refine zb2 [_,_,_,_] ?_)
                                                         all_goals (refine Zal ?_;refine zB1 hS [_,_,_,_] ?_;intro b1 w1 hS;refine Zbe ?_;refine Q24 el_T64 (.inl u_T64) hS vw vw (v:=lv) (css:=Q35 fr g.nx) fd (hS.srcB fd (by rfl) (by simp [oneC])) (by rw [Q6];simp only [List.length_cons,List.length_nil];omega) ?_;intro v7 w7 hS;have hS:=hS.ns;have ho7:=hS.oneC (v:=v7) fd;refine ZaS ?_;refine Zaw ?_;refine zf0 ?_;refine Zay ?_;refine zst hS ?_;intro w1 hS;have hS:=hS.ns;refine Zav ?_)
                                                         all_goals (have hG:RGo p ⟨ep,f1,lv,i1,e1,bv,ov,f2,mo,dn⟩ fu ((rsOf s g.nx fr inp out fu).ins m x) cx L (.tuple #[]) w1:=(by rw [show Value.int .i64 x.k= .int .i64 ((x.k.toNat:Nat):Int) by rw [Int.toNat_of_nonneg (hk (by omega))]] at hS;have e9:Q35 fr g.nx++[[.int .i64 ((x.k.toNat:Nat):Int), .int .i64 0, .int .i64 0, .slice a2 (vs.map Qj).length n2]]=Q35 (fr++[g.nx]) ⟨x.k.toNat,0,0, .slice a2 (vs.map Qj).length n2,vs⟩:=Qdz (k:=⟨x.k.toNat,0,0, .slice a2 (vs.map Qj).length n2,vs⟩);rw [e9] at hS;have hS:=rbig_in (k:=g.nx) (fr:=fr) (L:=_) (show St cx _ (sl 2 1 g.nx.vv (g.nx.vals.map Qj)::big RFV.res fr::_) from hS.sp);exact ⟨v7,i1,ov,fr++[g.nx],⟨x.k.toNat,0,0, .slice a2 (vs.map Qj).length n2,vs⟩,s,inp,out,(hX.trans (rcall_s (by show (fr.map RFV.abs).reverse.length+1≠40;rw [List.length_reverse,List.length_map];omega))).trans (by rw [Qaw];rfl),hi,rfl,hS.sp⟩))))))))))))))))
 all_goals (refine Q19 ?_;exact .inl ⟨_,rfl,hG⟩)
end Go.Proofs.YteflkifmgnpbhaaGreat
namespace Go.Proofs.YteflkifmgnpbhaaGreat
open Go.Lir
set_option maxHeartbeats 1000000
attribute [local irreducible] LC.wp Q0 Qh Qc retQ Qw LO.wp Q3 Calls
set_option linter.unusedSimpArgs false
set_option linter.unusedVariables false
structure HT where
 Tv:TypeId
 Tt:TypeId
 Tr:TypeId
 Th:TypeId
structure ThgV where
 array:Bool
 lv:Value
 l:List Val
def ThgV.abs (t:ThgV):Thg:=⟨t.array,t.l⟩
def ThgV.cells (t:ThgV):List Value:=[.bool t.array,t.lv]
def ThgV.res (H:HT) (t:ThgV):Res:=sl H.Tv 4 t.lv (t.l.map Val.cells)
structure RgnV where
 there:Bool
 lv:Value
 l:List ThgV
 pages:Int
 used:Int
def RgnV.abs (r:RgnV):Rgn:=⟨r.there,r.l.map ThgV.abs,r.pages,r.used⟩
def RgnV.cells (r:RgnV):List Value:=[.bool r.there,r.lv, .int .i64 r.pages, .int .i64 r.used]
def RgnV.res (H:HT) (r:RgnV):Res:=star (sl H.Tt 2 r.lv (r.l.map ThgV.cells)) (big (ThgV.res H) r.l)
def RgnV.nil:RgnV:=⟨false, .slice none 0 0,[],0,0⟩
structure HpO (N:Nat) (s:HpS) (rv:List RgnV):Prop where
 hr:rv.map RgnV.abs=s.l
 ok:s.Ok N
section
variable {cx:Cx}{w:World}{L:List Res}{H:HT}
theorem QV {x y:Res}{rv:List RgnV}{k:Nat}{r:RgnV}(hS:St cx w (x::y::big (RgnV.res H) rv::L)) (hr:rv[k]?=some r):St cx w (sl H.Tt 2 r.lv (r.l.map ThgV.cells)::big (ThgV.res H) r.l::x::y::big (RgnV.res H) (rv.eraseIdx k)::L):=
 St.star (hS.bigOut nth2 hr)
theorem QcR {x y:Res}{rv:List RgnV}{k:Nat}{r:RgnV}(hk:k < rv.length) (hS:St cx w (sl H.Tt 2 r.lv (r.l.map ThgV.cells)::big (ThgV.res H) r.l::x::y::big (RgnV.res H) (rv.eraseIdx k)::L)):St cx w (x::y::big (RgnV.res H) (rv.set k r)::L):=
 St.bigIn (f:=RgnV.res H) (x':=r) hS.star' nth2 hk
theorem Q65 {x:Res}{l:List ThgV}{k:Nat}{t:ThgV}(hS:St cx w (x::big (ThgV.res H) l::L)) (ht:l[k]?=some t):St cx w (sl H.Tv 4 t.lv (t.l.map Val.cells)::x::big (ThgV.res H) (l.eraseIdx k)::L):=hS.bigOut nth1 ht
theorem thg_in {x:Res}{l:List ThgV}{k:Nat}{t:ThgV}(hk:k < l.length) (hS:St cx w (sl H.Tv 4 t.lv (t.l.map Val.cells)::x::big (ThgV.res H) (l.eraseIdx k)::L)):St cx w (x::big (ThgV.res H) (l.set k t)::L):=St.bigIn (f:=ThgV.res H) (x':=t) hS nth1 hk
theorem St.big_push {α:Type}{f:α→Res}{l:List α}{x:α}(h:St cx w (f x::big f l::L)):St cx w (big f (l++[x])::L):=by
 have h1:St cx w (l.map f++(f x::L)):=h.mv1.list
 have h2:St cx w ((l++[x]).map f++L):=by simpa using h1
 exact h2.list'
theorem St.big_nil {α:Type}(f:α→Res) (h:St cx w L):St cx w (big f []::L):=h.emp (r:=Go.Lir.emp) fun _ h=> h
theorem St.rot1 {a b c d:Res}(h:St cx w (a::b::c::d::L)):St cx w (b::c::d::a::L):=St.mv3 (St.mv3 (St.mv3 h))
theorem St.rot2 {a e b c d:Res}(h:St cx w (a::e::b::c::d::L)):St cx w (b::c::d::a::e::L):=St.mv4 (St.mv4 (St.mv4 h))
theorem St.rot3 {a e f b c d:Res}(h:St cx w (a::e::f::b::c::d::L)):St cx w (b::c::d::a::e::f::L):=St.mv5 (St.mv5 (St.mv5 h))
theorem big_same {α:Type}{f:α→Res}{l:List α}{k:Nat}{x y:α}(h:l[k]?=some x) (he:f y=f x):big f (l.set k y)=big f l:=by
 unfold big;rw [List.map_set,he,Q3S (by rw [List.getElem?_map,h];rfl)]
theorem QL {rv:List RgnV}{m:Nat}{r:RgnV}(h:rv[m]?=some r):(rv.map RgnV.cells)[m]?=some r.cells:=by rw [List.getElem?_map,h];rfl
theorem rcset {rv:List RgnV}{m:Nat}{r':RgnV}:(rv.map RgnV.cells).set m r'.cells=(rv.set m r').map RgnV.cells:=List.map_set.symm
theorem QcT {rv:List RgnV}{m j:Nat}{r r':RgnV}{u:Value}(h:r.cells.set j u=r'.cells):(rv.map RgnV.cells).set m (r.cells.set j u)=(rv.set m r').map RgnV.cells:=by rw [h];exact rcset
theorem Q3Q {tv:List ThgV}{m:Nat}{t:ThgV}(h:tv[m]?=some t):(tv.map ThgV.cells)[m]?=some t.cells:=by rw [List.getElem?_map,h];rfl
theorem vcget {l:List Val}{m:Nat}(h:m < l.length):(l.map Val.cells)[m]?=some (l.getD m Val.zero).cells:=Q17 Val.cells l Val.zero h
theorem Q1q {rv:List RgnV}{m:Nat}{r:RgnV}(h:m < rv.length):(rv.set m r)[m]?=some r:=by simp [h]
theorem HpO.len {N:Nat}{s:HpS}{rv:List RgnV}(h:HpO N s rv):rv.length=s.l.length:=by rw [←h.hr,List.length_map]
theorem HpO.at_ {N:Nat}{s:HpS}{rv:List RgnV}(h:HpO N s rv){k:Nat}(hk:k < rv.length):∃r,rv[k]?=some r∧s.reg k=r.abs∧s.l[k]?=some r.abs:=by
 refine ⟨rv[k],List.getElem?_eq_getElem hk,?_,?_⟩
 · unfold HpS.reg
   rw [if_pos (by omega),Int.toNat_natCast,←h.hr,List.getD_eq_getElem?_getD,List.getElem?_map,List.getElem?_eq_getElem hk];rfl
 · rw [←h.hr,List.getElem?_map,List.getElem?_eq_getElem hk];rfl
theorem HpO.out {N:Nat}{s:HpS}{rv:List RgnV}(h:HpO N s rv){k:Int}(hk:k < 0∨(rv.length:Int)≤k):s.has k=false:=by
 have hl:=h.len
 unfold HpS.has HpS.reg
 split
 · rw [List.getD_eq_getElem?_getD,List.getElem?_eq_none (by omega)];rfl
 · rfl
theorem HpO.has_in {N:Nat}{s:HpS}{rv:List RgnV}(h:HpO N s rv){k:Int}(hk:s.has k=true):∃m:Nat,k=m∧m < rv.length:=by
 by_cases hc:k < 0∨(rv.length:Int)≤k
 · rw [h.out hc] at hk;cases hk
 · exact ⟨k.toNat,by omega,by omega⟩
theorem HpO.rng {N:Nat}{s:HpS}{rv:List RgnV}(h:HpO N s rv){k:Nat}{r:RgnV}(hr:rv[k]?=some r):r.l.length≤N∧(∀t∈r.l,t.l.length≤1000)∧0≤r.pages∧0≤r.used∧r.used≤1000∧(r.there=false→r.l.length=0∧r.pages=0):=by
 have hm:r.abs∈s.l:=by rw [←h.hr];exact List.mem_map.2 ⟨r,List.mem_of_getElem? hr,rfl⟩
 obtain ⟨h1,h2,h3,h4,h5,h6⟩:=h.ok.each _ hm
 refine ⟨by simpa [RgnV.abs] using h1,fun t ht=> h2 t.abs (List.mem_map.2 ⟨t,ht,rfl⟩),h3,h4,h5,fun hf=> ?_⟩
 have:=h6 hf
 simp only [RgnV.abs,Rgn.none,Rgn.mk.injEq,List.map_eq_nil_iff] at this
 exact ⟨by rw [this.2.1];rfl,this.2.2.1⟩
end
end Go.Proofs.YteflkifmgnpbhaaGreat
namespace Go.Proofs.YteflkifmgnpbhaaGreat
open Go.Lir
set_option maxHeartbeats 1000000
attribute [local irreducible] LC.wp Q0 Qh Qc retQ Qw LO.wp Q3 Calls
set_option linter.unusedSimpArgs false
set_option linter.unusedVariables false
def H0:HT:=⟨224,272,267,127⟩
def heapX (N:Nat) (h:Value) (s:HpS):Res:=Res.ex fun x:Nat×Value×List RgnV=> Res.pure (h= .pointer (some ⟨x.1,0,none⟩)∧HpO N s x.2.2) (Q5g [blk x.1 127 [x.2.1, .int .i64 s.left, .int .i64 s.live],sl 267 4 x.2.1 (x.2.2.map RgnV.cells),big (RgnV.res H0) x.2.2])
variable {cx:Cx}{w:World}{L:List Res}{i:Nat}{N:Nat}{h:Value}{s:HpS}
variable {b:Nat}{lv:Value}{left live:Int}{rv:List RgnV}
def ThgAt (rv:List RgnV) (k t:Nat) (th:ThgV) (v:Value):Prop:=∃r b o,rv[k]?=some r∧r.l[t]?=some th∧v= .pointer (some ⟨b,o,none⟩)∧ElP r.lv r.l.length 2 t b o
theorem HpO.thg {k t:Nat}{r:RgnV}{th:ThgV}(ho:HpO N s rv) (hr:rv[k]?=some r) (ht:r.l[t]?=some th):s.thg k t=th.abs:=by
 obtain ⟨r',h1,h2,_⟩:=ho.at_ (List.getElem?_eq_some_iff.1 hr).1
 rw [hr] at h1;cases h1
 unfold HpS.thg;rw [h2]
 show (r.l.map ThgV.abs).getD t _=_
 rw [List.getD_eq_getElem?_getD,List.getElem?_map,ht];rfl
def RgnV.roomV (r:RgnV) (n:Int):RgnV:=if r.abs.more n then ⟨r.there,r.lv,r.l,r.pages+1,n⟩ else ⟨r.there,r.lv,r.l,r.pages,r.used+n⟩
theorem Qfj {r:RgnV}{n:Int}:(r.roomV n).abs=r.abs.room n∧(r.roomV n).lv=r.lv∧(r.roomV n).l=r.l:=by
 unfold RgnV.roomV Rgn.room;split <;> exact ⟨rfl,rfl,rfl⟩
theorem RgnV.more_iff {r:RgnV}{n:Int}:r.abs.more n=true↔(r.pages=0∨16 < r.used+n):=decide_eq_true_iff
end Go.Proofs.YteflkifmgnpbhaaGreat
namespace Go.Proofs.YteflkifmgnpbhaaGreat
open Go.Lir
set_option maxHeartbeats 1000000
attribute [local irreducible] LC.wp Q0 Qh Qc retQ Qw LO.wp Q3 Calls
set_option linter.unusedSimpArgs false
set_option linter.unusedVariables false
variable {cx:Cx}{w:World}{L:List Res}{i:Nat}{N:Nat}{h:Value}{s:HpS}
theorem Qgy {s:HpS}{v:Val}{n:Int}(hc:s.can v=false):s.code v n=20:=by unfold HpS.code;rw [hc];rfl
theorem QaE {s:HpS}{v:Val}{n:Int}(hc:s.code v n≠0) (kind:Int) (t:Thg):s.put v n t=s∧s.putV v kind n=Val.zero:=by unfold HpS.put HpS.putV;rw [if_neg hc,if_neg hc];exact ⟨rfl,rfl⟩
theorem one2 {a b:Value}(h1:oneC a=true) (h2:oneC b=true):∀u∈[a,b],oneC u=true:=by
 intro u hu;simp only [List.mem_cons,List.not_mem_nil,or_false] at hu;rcases hu with rfl|rfl;exact h1;exact h2
theorem Qev (l:List Val):∀c∈l.map Val.cells,∀u∈c,oneC u=true:=by
 intro c hc u hu;obtain ⟨v,_,rfl⟩:=List.mem_map.1 hc;simp [Val.cells] at hu;rcases hu with rfl|rfl|rfl|rfl <;> rfl

def Q7L (r:RgnV) (v:Value) (t:ThgV):RgnV:=⟨r.there,v,r.l++[t],r.pages,r.used⟩
theorem QaF {r:RgnV}{v:Value}{t:ThgV}:(Q7L r v t).abs=r.abs.push t.abs:=by simp [Q7L,RgnV.abs,Rgn.push]
theorem QgM {r:RgnV}:r.abs.l.length=r.l.length:=List.length_map _
theorem Qfw {s:HpS}{m:Nat}{vt vn n kind:Int}{t:Thg}{r:RgnV}(hc:s.code ⟨2,m,vt,vn⟩ n=0) (hsl:s.l[m]?=some r.abs) (hrs:s.reg m=r.abs):
 s.put ⟨2,m,vt,vn⟩ n t=⟨s.l.set m ((r.abs.room n).push t),if r.abs.more n then s.left - 1 else s.left⟩∧(s.put ⟨2,m,vt,vn⟩ n t).live=s.live∧s.putV ⟨2,m,vt,vn⟩ kind n=⟨kind,m,r.abs.l.length,0⟩:=by
 have e:s.put ⟨2,m,vt,vn⟩ n t=⟨s.l.set m ((r.abs.room n).push t),if r.abs.more n then s.left - 1 else s.left⟩:=by
  unfold HpS.put;rw [if_pos hc];simp only [hrs,Int.toNat_natCast]
 refine ⟨e,?_,?_⟩
 · rw [e]
   have h1:=Q4K (r':=(r.abs.room n).push t) hsl
   have h2:((r.abs.room n).push t).there=r.abs.there:=by unfold Rgn.room;split <;> rfl
   rw [h2] at h1
   show (s.l.set m _).countP (fun r=> r.there)=s.l.countP fun r=> r.there
   omega
 · unfold HpS.putV;rw [if_pos hc];simp only [hrs]
theorem shut_no {s:HpS}{v:Val}(h:s.can v=false):s.shut v=s:=by unfold HpS.shut;rw [h];rfl
theorem HpS.ok_new {n:Int}(hn:0≤n∧n≤1000):(⟨[],n⟩:HpS).Ok 0:=⟨Nat.le_refl _,by simp,hn.1,by simp;omega,by simp [HpS.live]⟩
theorem Q13 (v:Val):∀u∈v.cells,oneC u=true:=by simp [Val.cells,oneC]
theorem vcset {l:List Val}{k:Nat}{x:Val}:(l.map Val.cells).set k x.cells=(l.set k x).map Val.cells:=List.map_set.symm
theorem Q7v {s:HpS}{v:Val}{k:Int}{x:Val}(h:s.setC v k x≠0):s.set v k x=s:=by
 unfold HpS.set
 split
 · rfl
 · rw [if_neg h]
def upd2 (r:RgnV) (t:Nat) (th:ThgV) (k:Nat) (x:Val):RgnV:=⟨r.there,r.lv,r.l.set t ⟨th.array,th.lv,th.l.set k x⟩,r.pages,r.used⟩
theorem upd2_abs {r:RgnV}{t k:Nat}{th:ThgV}{x:Val}:(upd2 r t th k x).abs=r.abs.upd t (th.abs.upd k x):=by simp [upd2,RgnV.abs,Rgn.upd,List.map_set];rfl
theorem set_yes {s:HpS}{v:Val}{k:Int}{x:Val}{kr t:Nat}{r:RgnV}{th:ThgV}{rv:List RgnV}(ho:HpO N s rv) (hr:rv[kr]?=some r) (hth:r.l[t]?=some th) (e0:s.at_ v=some (kr,t)) (hc:s.setC v k x=0) (hk:k.toNat < th.l.length):
 s.set v k x=⟨s.l.set kr (r.abs.upd t (th.abs.upd k.toNat x)),s.left⟩∧(s.set v k x).live=s.live∧HpO N (s.set v k x) (rv.set kr (upd2 r t th k.toNat x)):=by
 obtain ⟨r',h1,h2,h3⟩:=ho.at_ (List.getElem?_eq_some_iff.1 hr).1
 rw [hr] at h1;cases h1
 have e:s.set v k x=⟨s.l.set kr (r.abs.upd t (th.abs.upd k.toNat x)),s.left⟩:=by
  unfold HpS.set;rw [e0];simp only [hc,if_true,h2,ho.thg hr hth]
 have hl:=Q4K (r':=r.abs.upd t (th.abs.upd k.toNat x)) h3
 have hth2:(r.abs.upd t (th.abs.upd k.toNat x)).there=r.abs.there:=rfl
 rw [hth2] at hl
 have hlive:(s.set v k x).live=s.live:=by
  rw [e];show (s.l.set kr _).countP (fun r=> r.there)=s.l.countP fun r=> r.there;omega
 obtain ⟨g1,g2,g3,g4,g5,g6⟩:=ho.rng hr
 refine ⟨e,hlive,⟨by rw [List.map_set,upd2_abs,ho.hr,e],?_⟩⟩
 rw [e]
 have hok:=ho.ok
 have hth3:r.there=true:=by
  cases hx:r.there with
  | true=> rfl
  | false=>
    have:=(g6 hx).1
    have:=(List.getElem?_eq_some_iff.1 hth).1
    omega
 refine HpS.ok_set hok h3 (Nat.le_refl _) hok.left rfl (by show s.live+_≤_;have:=hok.live;rw [hth2];omega) ⟨by simp [Rgn.upd,RgnV.abs];exact g1,fun y hy=> ?_,g3,g4,g5,fun hf=> by simp [Rgn.upd,RgnV.abs,hth3] at hf⟩
 rcases mem_set_or hy with rfl|hy
 · simp only [Thg.upd,List.length_set];exact g2 th (List.mem_of_getElem? hth)
 · obtain ⟨z,hz,rfl⟩:=List.mem_map.1 hy;exact g2 z hz
theorem Qes {l:List Val}(h:l.length≤1000):1≤QZ l∧QZ l≤1000:=by unfold QZ;split <;> omega
theorem QaJ {j:Nat}:(Q1R ((j:Int)+1))=Q1R j++[⟨1,0,0,0⟩]:=by
 unfold Q1R;rw [show ((j:Int)+1).toNat=j+1 by omega,Int.toNat_natCast,List.replicate_succ']
theorem QbW {n:Nat}:(Q1R n).length=n:=by simp [Q1R]
end Go.Proofs.YteflkifmgnpbhaaGreat
namespace Go.Proofs.YteflkifmgnpbhaaGreat
open Go.Lir
set_option maxHeartbeats 1000000
attribute [local irreducible] LC.wp Q0 Qh Qc retQ Qw LO.wp Q3 Calls
set_option linter.unusedSimpArgs false
set_option linter.unusedVariables false
structure FrmV where
 f:Nat
 b:Nat
 i:Nat
 vv:Value
 vals:List Val
 rv:Value
 regs:List Int
abbrev Qk (l:List Int):List (List Value):=l.map fun n=> [.int .i64 n]
def FrmV.abs (x:FrmV):Frm:=⟨x.f,x.b,x.i,x.vals,x.regs⟩
def FrmV.cells (x:FrmV):List Value:=[.int .i64 x.f, .int .i64 x.b, .int .i64 x.i,x.vv,x.rv]
def FrmV.res (x:FrmV):Res:=star (sl 224 4 x.vv (x.vals.map Val.cells)) (sl 3 1 x.rv (Qk x.regs))
structure MC where
 hp:Value
 fn:Value
 lv:Value
 iv:Value
 e:Int
 bv:Value
 ov:Value
 fu:Int
 mo:Int
 dn:Bool
 c:Int
 a:Int
@[reducible] def MC.cells (x:MC):List Value:=[x.hp,x.fn,x.lv,x.iv, .int .i64 x.e,x.bv,x.ov, .int .i64 x.fu, .int .i64 x.mo, .bool x.dn, .int .i64 x.c, .int .i64 x.a]
@[reducible] def Q2d (fr:List FrmV) (g:FrmV):List (List Value):=fr.map FrmV.cells++[g.cells]
theorem Qg (fr:List FrmV) (g:FrmV):(Q2d fr g).length=fr.length+1:=by simp
theorem Qo (fr:List FrmV) (g:FrmV):(Q2d fr g)[fr.length]?=some g.cells:=by
 rw [List.getElem?_append_right (by simp)];simp
theorem Q2T {fr:List FrmV}{g g':FrmV}{j:Nat}{u:Value}(h:g.cells.set j u=g'.cells):(Q2d fr g).set fr.length (g.cells.set j u)=Q2d fr g':=by
 rw [h]
 unfold Q2d
 rw [List.set_append_right _ _ (by simp)];simp
@[reducible] def mL (p:Nat) (c:MC) (fr:List FrmV) (g:FrmV) (L:List Res):List Res:=blk p 55 c.cells::sl 110 5 c.lv (Q2d fr g)::sl 224 4 g.vv (g.vals.map Val.cells)::sl 3 1 g.rv (Qk g.regs)::big FrmV.res fr::L
@[reducible] def stuckV:Value:= .iface 121 (.agg ⟨[]⟩)
@[reducible] def trapV (e:Int):Value:= .iface 122 (.int .i64 e)
variable {cx:Cx}{w:World}{L:List Res}{p:Nat}{c:MC}{fr:List FrmV}{g:FrmV}
end Go.Proofs.YteflkifmgnpbhaaGreat
namespace Go.Lir
theorem QgJ {g:Frm}{l:List Int}{q:Nat}{k:Int}{v:Val}{out:List Val}(hd:g.args l=(g.args (l.drop q)).map fun r=> out++r) (hx:l[q]?=some k) (hv:g.val k=some v):g.args l=(g.args (l.drop (q+1))).map fun r=> (out++[v])++r:=by
 rw [hd,Q7 hx,Frm.args,hv]
 cases g.args (l.drop (q+1)) with
 | none=> rfl
 | some r=> simp
theorem Qdl {g:Frm}{l:List Int}{q:Nat}{k:Int}{out:List Val}(hd:g.args l=(g.args (l.drop q)).map fun r=> out++r) (hx:l[q]?=some k) (hv:g.val k=none):g.args l=none:=by
 rw [hd,Q7 hx,Frm.args,hv];rfl
theorem args_end {g:Frm}{l:List Int}{q:Nat}{out:List Val}(hd:g.args l=(g.args (l.drop q)).map fun r=> out++r) (hq:l.length≤q):g.args l=some out:=by
 rw [hd,List.drop_of_length_le hq,Frm.args];simp
theorem args_0 {g:Frm}{l:List Int}:g.args l=(g.args (l.drop 0)).map fun r=> []++r:=by
 rw [List.drop_zero];cases g.args l <;> rfl
theorem rgs_step {g:Frm}{l:List Int}{q:Nat}{k v:Int}{out:List Int}(hd:g.rgs l=(g.rgs (l.drop q)).map fun r=> out++r) (hx:l[q]?=some k) (hv:g.reg k=some v):g.rgs l=(g.rgs (l.drop (q+1))).map fun r=> (out++[v])++r:=by
 rw [hd,Q7 hx,Frm.rgs,hv]
 cases g.rgs (l.drop (q+1)) with
 | none=> rfl
 | some r=> simp
theorem Qfl {g:Frm}{l:List Int}{q:Nat}{k:Int}{out:List Int}(hd:g.rgs l=(g.rgs (l.drop q)).map fun r=> out++r) (hx:l[q]?=some k) (hv:g.reg k=none):g.rgs l=none:=by
 rw [hd,Q7 hx,Frm.rgs,hv];rfl
theorem rgs_end {g:Frm}{l:List Int}{q:Nat}{out:List Int}(hd:g.rgs l=(g.rgs (l.drop q)).map fun r=> out++r) (hq:l.length≤q):g.rgs l=some out:=by
 rw [hd,List.drop_of_length_le hq,Frm.rgs];simp
theorem rgs_0 {g:Frm}{l:List Int}:g.rgs l=(g.rgs (l.drop 0)).map fun r=> []++r:=by
 rw [List.drop_zero];cases g.rgs l <;> rfl
theorem num_y {g:Frm}{k:Int}{v:Val}(h:g.val k=some v) (hk:v.kind=1):g.num k=some v.n:=by unfold Frm.num;rw [h];exact if_pos hk
theorem num_n {g:Frm}{k:Int}{v:Val}(h:g.val k=some v) (hk:v.kind≠1):g.num k=none:=by unfold Frm.num;rw [h];exact if_neg hk
theorem num_0 {g:Frm}{k:Int}(h:g.val k=none):g.num k=none:=by unfold Frm.num;rw [h]
theorem regf_y {g:Frm}{k v:Int}(h0:0≤k) (h:g.regs[k.toNat]?=some v):g.reg k=some v:=by unfold Frm.reg;rw [if_neg (by omega)];exact h
theorem regf_n {g:Frm}{k:Int}(h:k < 0∨(g.regs.length:Int)≤k):g.reg k=none:=by
 unfold Frm.reg
 by_cases h0:k < 0
 · rw [if_pos h0]
 · rw [if_neg h0];exact List.getElem?_eq_none (by omega)
end Go.Lir
namespace Go.Proofs.YteflkifmgnpbhaaGreat
open Go.Lir
set_option maxHeartbeats 1000000
attribute [local irreducible] LC.wp Q0 Qh Qc retQ Qw LO.wp Q3 Calls
set_option linter.unusedSimpArgs false
set_option linter.unusedVariables false
variable {cx:Cx}{w:World}{L:List Res}{p:Nat}{c:MC}{fr:List FrmV}{g:FrmV}
attribute [local irreducible] Frm.val Frm.num Frm.args Frm.rgs Frm.reg
def FrmV.push (g:FrmV) (tv:Value) (vs:List Val):FrmV:=⟨g.f,g.b,g.i,tv,g.vals++vs,g.rv,g.regs⟩
end Go.Proofs.YteflkifmgnpbhaaGreat
namespace Go.Proofs.YteflkifmgnpbhaaGreat
open Go.Lir
set_option maxHeartbeats 1000000
attribute [local irreducible] LC.wp Q0 Qh Qc retQ Qw LO.wp Q3 Calls
set_option linter.unusedSimpArgs false
set_option linter.unusedVariables false
variable {cx:Cx}{w:World}{L:List Res}{p:Nat}{c:MC}{fr:List FrmV}{g:FrmV}
attribute [local irreducible] Frm.val Frm.num Frm.args Frm.rgs Frm.reg
end Go.Proofs.YteflkifmgnpbhaaGreat
namespace Go.Proofs.YteflkifmgnpbhaaGreat
open Go.Lir
set_option maxHeartbeats 1000000
attribute [local irreducible] LC.wp Q0 Qh Qc retQ Qw LO.wp Q3 Calls
set_option linter.unusedSimpArgs false
set_option linter.unusedVariables false
variable {cx:Cx}{w:World}{L:List Res}{p N:Nat}{c:MC}{fr:List FrmV}{g:FrmV}{h:HpS}{out:List Int}
attribute [local irreducible] Frm.val Frm.num Frm.args Frm.rgs Frm.reg HpS.get HpS.set HpS.setC HpS.len HpS.code HpS.put HpS.putV HpS.open HpS.shut HpS.full HpS.openV HpS.can HpS.arr HpS.arrC HpS.arrV HpS.tuple
end Go.Proofs.YteflkifmgnpbhaaGreat
namespace Go.Proofs.YteflkifmgnpbhaaGreat
open Go.Lir
set_option maxHeartbeats 1000000
attribute [local irreducible] LC.wp Q0 Qh Qc retQ Qw LO.wp Q3 Calls
set_option linter.unusedSimpArgs false
set_option linter.unusedVariables false
@[reducible] def mS (p:Nat) (c:MC) (fr:List FrmV) (g:FrmV) (N:Nat) (h:HpS) (out:List Int) (L:List Res):List Res:=mL p c fr g (heapX N c.hp h::sl 2 1 c.ov (Qk out)::L)
def msOf (h:HpS) (g:FrmV) (fr:List FrmV) (inp out:List Int) (fu:Nat):MS:=⟨h,g.abs,(fr.map FrmV.abs).reverse,inp,out,fu⟩
@[reducible] def MC.upd (c:MC) (lv iv ov:Value):MC:=⟨c.hp,c.fn,lv,iv,c.e,c.bv,ov,c.fu,c.mo,c.dn,c.c,c.a⟩
def GoS (p:Nat) (c:MC) (N:Nat) (fu:Nat) (X:Stp) (cx:Cx) (L:List Res) (u:Value) (w':World):Prop:=
 ∃lv iv ov fr' g' N' h' inp' out',X= .go (msOf h' g' fr' inp' out' fu)∧intR.sl cx iv inp'∧N'≤N+1∧u= .tuple #[]∧St cx w' (mS p (c.upd lv iv ov) fr' g' N' h' out' L)
def BadS (p:Nat) (c:MC) (N:Nat) (h:HpS) (out:List Int) (X:Stp) (cx:Cx) (L:List Res) (u:Value) (w':World):Prop:=
 (X= .lost∧u=stuckV∧St cx w' (blk p 55 c.cells::L))∨(∃e,X= .halt e∧u=trapV e∧∃fr' g' N',N'≤N+1∧St cx w' (mS p c fr' g' N' h out L))
variable {cx:Cx}{w:World}{L:List Res}{p N:Nat}{c:MC}{fr:List FrmV}{g:FrmV}{h:HpS}{out inp:List Int}{fu:Nat}
attribute [local irreducible] Frm.val Frm.num Frm.args Frm.rgs Frm.reg HpS.get HpS.set HpS.setC HpS.len HpS.code HpS.putV HpS.open HpS.shut HpS.full HpS.openV HpS.can HpS.tuple
theorem Q7Q {s:MS}{e:Int}{v:Val}(he:e=14):s.made e h v= .halt 6:=if_pos he
theorem Q2p {s:MS}{e:Int}{v:Val}(he:e≠14) (h0:e≠0):s.made e h v= .lost:=by unfold MS.made;rw [if_neg he,if_pos h0]
theorem Q3r {s:MS}{e:Int}{v:Val}(he:e=0):s.made e h v= .go ((s.hp h).put [v]):=by unfold MS.made;rw [if_neg (by omega),if_neg (by omega)]
theorem arr_no {h:HpS}{v:Val}{n:Int}(e:h.arrC v n≠0):h.arr v n=h:=by
 unfold HpS.arrC at e
 unfold HpS.arr
 split
 · rfl
 · rename_i hn
   rw [if_neg hn] at e
   unfold HpS.put;exact if_neg e
attribute [local irreducible] HpS.arr HpS.arrC HpS.arrV
end Go.Proofs.YteflkifmgnpbhaaGreat
namespace Go.Proofs.YteflkifmgnpbhaaGreat
open Go.Lir
set_option maxHeartbeats 1000000
attribute [local irreducible] LC.wp Q0 Qh Qc retQ Qw LO.wp Q3 Calls
set_option linter.unusedSimpArgs false
set_option linter.unusedVariables false
variable {cx:Cx}{w:World}{L:List Res}{p N:Nat}{c:MC}{fr:List FrmV}{g:FrmV}{h:HpS}{out inp:List Int}{fu:Nat}{m:Module}
theorem QfH {g':FrmV}:msOf h g' (fr++[g]) inp out fu=⟨h,g'.abs,g.abs::(fr.map FrmV.abs).reverse,inp,out,fu⟩:=by unfold msOf;simp
theorem call_X {s:MS}{x:Ins}{gf:Fun}(hg:m.funcs[x.k.toNat]?=some gf):s.call m x=Q16 (s.g.rgs x.regs) fun rs=> Q16 (s.g.args x.args) fun vs=>
 if (rs.length:Int)≠gf.regs∨vs.length≠gf.params.length then .lost else if s.st.length+1=40 then .halt 5 else .go ⟨s.h,⟨x.k.toNat,0,0,vs,rs⟩,s.g::s.st,s.inp,s.out,s.fuel⟩:=by unfold MS.call;rw [hg]
theorem Qfh {g':FrmV}:Q2d fr g++[g'.cells]=Q2d (fr++[g]) g':=by simp [Q2d]
attribute [local irreducible] Frm.val Frm.num Frm.args Frm.rgs Frm.reg
end Go.Proofs.YteflkifmgnpbhaaGreat
namespace Go.Proofs.YteflkifmgnpbhaaGreat
open Go.Lir
set_option maxHeartbeats 1000000
attribute [local irreducible] LC.wp Q0 Qh Qc retQ Qw LO.wp Q3 Calls
set_option linter.unusedSimpArgs false
set_option linter.unusedVariables false
variable {cx:Cx}{w:World}{L:List Res}{p N:Nat}{c:MC}{fr:List FrmV}{g:FrmV}{h:HpS}{out inp:List Int}{fu:Nat}{m:Module}
theorem to_X {s:MS}{f:Fun}{t:To}{b:Block}(hb:f.blocks[t.block.toNat]?=some b):s.to f t=Q16 (s.g.rgs t.regs) fun rs=> Q16 (s.g.args t.args) fun vs=>
 if (rs.length:Int)≠b.regs∨vs.length≠b.params.length then .lost else .go (s.fr ⟨s.g.f,t.block.toNat,0,vs,rs⟩):=by unfold MS.to;rw [hb]
attribute [local irreducible] Frm.val Frm.num Frm.args Frm.rgs Frm.reg
end Go.Proofs.YteflkifmgnpbhaaGreat
namespace Go.Lir
theorem ret_l {s:MS}{f:Fun}{e:Tail}(h:s.g.args e.args=none):s.ret f e= .lost:=by unfold MS.ret;exact Q1D h
theorem ret_n {s:MS}{f:Fun}{e:Tail}{vs:List Val}(h:s.g.args e.args=some vs) (hl:vs.length≠f.results.length):s.ret f e= .lost:=by unfold MS.ret;rw [Qb h,if_pos hl]
theorem ret_k {s:MS}{f:Fun}{e:Tail}{vs:List Val}{c:Frm}{st:List Frm}(h:s.g.args e.args=some vs) (hl:vs.length=f.results.length) (hs:s.st=c::st):s.ret f e= .go ((⟨s.h,c,st,s.inp,s.out,s.fuel⟩:MS).put vs):=by
 unfold MS.ret;rw [Qb h,if_neg (fun hn=> hn hl),hs]
theorem ret_d {s:MS}{f:Fun}{e:Tail}{vs:List Val}{ns:List Int}(h:s.g.args e.args=some vs) (hl:vs.length=f.results.length) (hs:s.st=[]) (hn:intsV vs=some ns):s.ret f e= .done ns:=by
 unfold MS.ret;rw [Qb h,if_neg (fun hn=> hn hl),hs];dsimp only;rw [hn]
theorem ret_b {s:MS}{f:Fun}{e:Tail}{vs:List Val}(h:s.g.args e.args=some vs) (hl:vs.length=f.results.length) (hs:s.st=[]) (hn:intsV vs=none):s.ret f e= .lost:=by
 unfold MS.ret;rw [Qb h,if_neg (fun hn=> hn hl),hs];dsimp only;rw [hn]
theorem ints_y {v:Val}{l:List Val}(h:v.kind=1):intsV (v::l)=(intsV l).map fun r=> v.n::r:=by
 rw [intsV]
 cases intsV l with
 | none=> rfl
 | some ns=> exact if_pos h
theorem ints_n {v:Val}{l:List Val}(h:v.kind≠1):intsV (v::l)=none:=by
 rw [intsV]
 cases intsV l with
 | none=> rfl
 | some ns=> exact if_neg h
end Go.Lir
namespace Go.Proofs.YteflkifmgnpbhaaGreat
open Go.Lir
set_option maxHeartbeats 1000000
attribute [local irreducible] LC.wp Q0 Qh Qc retQ Qw LO.wp Q3 Calls
set_option linter.unusedSimpArgs false
set_option linter.unusedVariables false
variable {cx:Cx}{w:World}{L:List Res}{p N:Nat}{c:MC}{fr:List FrmV}{g:FrmV}{h:HpS}{out inp:List Int}{fu:Nat}{m:Module}
def DoneS (p:Nat) (c:MC) (N:Nat) (h:HpS) (out:List Int) (X:Stp) (cx:Cx) (L:List Res) (u:Value) (w':World):Prop:=
 ∃ns bv fr' g',X= .done ns∧u= .tuple #[]∧St cx w' (mS p ⟨c.hp,c.fn,c.lv,c.iv,c.e,bv,c.ov,c.fu,c.mo,true,c.c,c.a⟩ fr' g' N h out (sl 2 1 bv (Qk ns)::L))
attribute [local irreducible] Frm.val Frm.num Frm.args Frm.rgs Frm.reg intsV
theorem rows_cut {k:FrmV}:((Q2d (fr++[k]) g).take (fr++[k]).length).drop 0=Q2d fr k:=by
 unfold Q2d
 rw [List.drop_zero,List.take_append_of_le_length (by simp),List.take_of_length_le (by simp),List.map_append];rfl
end Go.Proofs.YteflkifmgnpbhaaGreat
namespace Go.Proofs.YteflkifmgnpbhaaGreat
open Go.Lir
set_option maxHeartbeats 1000000
attribute [local irreducible] LC.wp Q0 Qh Qc retQ Qw LO.wp Q3 Calls
set_option linter.unusedSimpArgs false
set_option linter.unusedVariables false
variable {cx:Cx}{w:World}{L:List Res}{p N:Nat}{c:MC}{fr:List FrmV}{g:FrmV}{h:HpS}{out inp:List Int}{fu:Nat}{m:Module}
def OkS (p:Nat) (c:MC) (N:Nat) (h:HpS) (out:List Int) (fu:Nat) (X:Stp) (cx:Cx) (L:List Res) (u:Value) (w':World):Prop:=GoS p c N fu X cx L u w'∨DoneS p c N h out X cx L u w'
theorem GoS.tup {X:Stp}{u:Value}(hG:GoS p c N fu X cx L u w):u= .tuple #[]∧GoS p c N fu X cx L u w:=⟨by obtain ⟨lv,iv,ov,fr',g',N',h',inp',out',_,_,_,hu,_⟩:=hG;exact hu,hG⟩
theorem GoS.drop {X:Stp}{u:Value}{r:Res}(hG:GoS p c N fu X cx (r::L) u w):GoS p c N fu X cx L u w:=by
 obtain ⟨lv,iv,ov,fr',g',N',h',inp',out',h1,h2,h3,h4,hS⟩:=hG
 exact ⟨lv,iv,ov,fr',g',N',h',inp',out',h1,h2,h3,h4,hS.sp⟩
theorem BadS.drop {X:Stp}{u:Value}{r:Res}(hB:BadS p c N h out X cx (r::L) u w):BadS p c N h out X cx L u w:=by
 rcases hB with ⟨h1,h2,hS⟩|⟨e,h1,h2,fr',g',N',h3,hS⟩
 · exact .inl ⟨h1,h2,hS.sp⟩
 · exact .inr ⟨e,h1,h2,fr',g',N',h3,hS.sp⟩
theorem DoneS.drop {X:Stp}{u:Value}{r:Res}(hD:DoneS p c N h out X cx (r::L) u w):DoneS p c N h out X cx L u w:=by
 obtain ⟨ns,bv,fr',g',h1,h2,hS⟩:=hD
 exact ⟨ns,bv,fr',g',h1,h2,hS.sp⟩
theorem GoS.ok {X:Stp}{u:Value}(hG:GoS p c N fu X cx L u w):OkS p c N h out fu X cx L u w:= .inl hG
theorem OkS.drop {X:Stp}{u:Value}{r:Res}(hG:OkS p c N h out fu X cx (r::L) u w):OkS p c N h out fu X cx L u w:=hG.elim (fun h=> .inl h.drop) (fun h=> .inr h.drop)
theorem OkS.tup {X:Stp}{u:Value}(hG:OkS p c N h out fu X cx L u w):u= .tuple #[]∧OkS p c N h out fu X cx L u w:=by
 refine ⟨?_,hG⟩
 rcases hG with h|⟨ns,bv,fr',g',h1,h2,hS⟩
 · exact h.tup.1
 · exact h2
def ToOK (f:Fun) (t:To):Prop:=(0≤t.block∧t.block < f.blocks.length)∧t.regs.length≤100∧t.args.length≤100
attribute [local irreducible] Frm.val Frm.num Frm.args Frm.rgs Frm.reg intsV MS.to MS.ret GoS BadS DoneS OkS
end Go.Proofs.YteflkifmgnpbhaaGreat
namespace Go.Lir
section
variable {m:Module}{s:MS}{x:Ins}
theorem xins_1 (h:x.op=1):s.ins m x= .go (s.put [intV x.n]):=by unfold MS.ins;rw [if_pos h]
theorem Qek (h:x.op=2):s.ins m x=Q16 (s.g.num x.a) fun a=> Q16 (s.g.num x.b) fun b=> if (opF x.k a b).2=false then .halt 1 else .go (s.put [intV (opF x.k a b).1]):=by unfold MS.ins;rw [if_neg (by omega),if_pos h]
theorem Qcw (h:x.op=3):s.ins m x=s.newR:=by unfold MS.ins;rw [if_neg (by omega),if_neg (by omega),if_pos h]
theorem Qej (h:x.op=4):s.ins m x=Q16 (s.g.val x.a) fun v=> if s.h.can v=false then .lost else .go (s.hp (s.h.shut v)):=by unfold MS.ins;rw [if_neg (by omega),if_neg (by omega),if_neg (by omega),if_pos h]
theorem Qei (h:x.op=5):s.ins m x=Q16 (s.g.val x.a) fun v=> Q16 (s.g.args x.args) fun l=> s.made (s.h.code v (QZ l)) (s.h.tuple v l) (s.h.putV v 3 (QZ l)):=by unfold MS.ins;rw [if_neg (by omega),if_neg (by omega),if_neg (by omega),if_neg (by omega),if_pos h]
theorem Qeh (h:x.op=6):s.ins m x=Q16 (s.g.val x.a) fun v=> if v.kind≠3 then .lost else if (s.h.get v x.k).2≠0 then .lost else .go (s.put [(s.h.get v x.k).1]):=by unfold MS.ins;rw [if_neg (by omega),if_neg (by omega),if_neg (by omega),if_neg (by omega),if_neg (by omega),if_pos h]
theorem Qcv (h:x.op=7):s.ins m x=Q16 (s.g.val x.a) fun v=> if v.kind≠3 then .lost else Q16 (s.g.val x.b) fun y=> if s.h.setC v x.k y≠0 then .lost else .go (s.hp (s.h.set v x.k y)):=by unfold MS.ins;rw [if_neg (by omega),if_neg (by omega),if_neg (by omega),if_neg (by omega),if_neg (by omega),if_neg (by omega),if_pos h]
theorem Qeg (h:x.op=9):s.ins m x=Q16 (s.g.val x.a) fun v=> Q16 (s.g.num x.b) fun n=> Q2A v (s.h.get v n).2 (.go (s.put [(s.h.get v n).1])):=by unfold MS.ins;rw [if_neg (by omega),if_neg (by omega),if_neg (by omega),if_neg (by omega),if_neg (by omega),if_neg (by omega),if_neg (by omega),if_neg (by omega),if_pos h]
theorem Qbq (h:x.op=10):s.ins m x=Q16 (s.g.val x.a) fun v=> Q16 (s.g.num x.b) fun n=> Q16 (s.g.num x.c) fun c=> Q2A v (s.h.setC v n (intV c)) (.go (s.hp (s.h.set v n (intV c)))):=by unfold MS.ins;rw [if_neg (by omega),if_neg (by omega),if_neg (by omega),if_neg (by omega),if_neg (by omega),if_neg (by omega),if_neg (by omega),if_neg (by omega),if_neg (by omega),if_pos h]
theorem Qem (h:x.op=11):s.ins m x=Q16 (s.g.val x.a) fun v=> Q2A v (s.h.len v).2 (.go (s.put [intV (s.h.len v).1])):=by unfold MS.ins;rw [if_neg (by omega),if_neg (by omega),if_neg (by omega),if_neg (by omega),if_neg (by omega),if_neg (by omega),if_neg (by omega),if_neg (by omega),if_neg (by omega),if_neg (by omega),if_pos h]
theorem Qel (h:x.op=12):s.ins m x=s.inS:=by unfold MS.ins;rw [if_neg (by omega),if_neg (by omega),if_neg (by omega),if_neg (by omega),if_neg (by omega),if_neg (by omega),if_neg (by omega),if_neg (by omega),if_neg (by omega),if_neg (by omega),if_neg (by omega),if_pos h]
theorem Qbp (h:x.op=13):s.ins m x=Q16 (s.g.num x.a) fun n=> s.outS n:=by unfold MS.ins;rw [if_neg (by omega),if_neg (by omega),if_neg (by omega),if_neg (by omega),if_neg (by omega),if_neg (by omega),if_neg (by omega),if_neg (by omega),if_neg (by omega),if_neg (by omega),if_neg (by omega),if_neg (by omega),if_pos h]
theorem xins_14 (h:x.op=14):s.ins m x=s.call m x:=by unfold MS.ins;rw [if_neg (by omega),if_neg (by omega),if_neg (by omega),if_neg (by omega),if_neg (by omega),if_neg (by omega),if_neg (by omega),if_neg (by omega),if_neg (by omega),if_neg (by omega),if_neg (by omega),if_neg (by omega),if_neg (by omega)]
theorem part_4 {v:Val}{e:Int}{k:Stp}(hv:v.kind≠4):Q2A v e k= .lost:=if_pos hv
theorem Q7O {v:Val}{e:Int}{k:Stp}(hv:v.kind=4) (he:e=1):Q2A v e k= .halt 2:=by unfold Q2A;rw [if_neg (by omega),if_pos he]
theorem Q3n {v:Val}{e:Int}{k:Stp}(he:v.kind=4→e≠1∧e≠0):Q2A v e k= .lost:=by
 unfold Q2A
 by_cases hv:v.kind=4
 · obtain ⟨h1,h2⟩:=he hv
   rw [if_neg (by omega),if_neg h1,if_pos h2]
 · rw [if_pos hv]
theorem Q1t {v:Val}{e:Int}{k:Stp}(hv:v.kind=4) (he:e=0):Q2A v e k=k:=by unfold Q2A;rw [if_neg (by omega),if_neg (by omega),if_neg (by omega)]
theorem Q9c {h:HpS}{v:Val}{l:List Val}(e:h.code v (QZ l)≠0):h.tuple v l=h:=by unfold HpS.tuple HpS.put;exact if_neg e
theorem open_no {h:HpS}(e:h.full=true):h.open=h:=by unfold HpS.open;exact if_pos e
theorem new_no (e:s.h.full=true):s.newR= .halt 6:=by unfold MS.newR;exact if_pos e
theorem QfD (e:s.h.full=false):s.newR= .go ((⟨s.h.open,⟨s.g.f,s.g.b,s.g.i,s.g.vals,s.g.regs++[s.h.openV.region]⟩,s.st,s.inp,s.out,s.fuel⟩:MS).put [s.h.openV]):=by unfold MS.newR;exact if_neg (by rw [e];decide)
theorem in_0 (e:s.inp=[]):s.inS= .halt 4:=by unfold MS.inS;rw [e]
theorem in_s {n:Int}{r:List Int}(e:s.inp=n::r):s.inS= .go ((⟨s.h,s.g,s.st,r,s.out,s.fuel⟩:MS).put [intV n]):=by unfold MS.inS;rw [e]
theorem out_0 {n:Int}(e:s.out.length=2000):s.outS n= .halt 8:=if_pos e
theorem out_s {n:Int}(e:s.out.length≠2000):s.outS n= .go ⟨s.h,s.g,s.st,s.inp,s.out++[n],s.fuel⟩:=if_neg e
end
end Go.Lir
namespace Go.Proofs.YteflkifmgnpbhaaGreat
open Go.Lir
set_option maxHeartbeats 1000000
attribute [local irreducible] LC.wp Q0 Qh Qc retQ Qw LO.wp Q3 Calls
set_option linter.unusedSimpArgs false
set_option linter.unusedVariables false
variable {cx:Cx}{w:World}{L:List Res}{p N:Nat}{c:MC}{fr:List FrmV}{g:FrmV}{h:HpS}{out inp:List Int}{fu:Nat}{m:Module}
def FrmV.nx (g:FrmV):FrmV:=⟨g.f,g.b,g.i+1,g.vv,g.vals,g.rv,g.regs⟩
section
variable {s:MS}{x:Ins}
end
attribute [local irreducible] Frm.val Frm.num Frm.args Frm.rgs Frm.reg intsV MS.ins MS.call HpS.get HpS.set HpS.setC HpS.len HpS.code HpS.put HpS.putV HpS.open HpS.shut HpS.full HpS.openV HpS.can HpS.tuple HpS.arr HpS.arrC HpS.arrV opF QZ
end Go.Proofs.YteflkifmgnpbhaaGreat
namespace Go.Proofs.YteflkifmgnpbhaaGreat
open Go.Lir
set_option maxHeartbeats 1000000
attribute [local irreducible] LC.wp Q0 Qh Qc retQ Qw LO.wp Q3 Calls
set_option linter.unusedSimpArgs false
set_option linter.unusedVariables false
variable {cx:Cx}{w:World}{L:List Res}
theorem QfC (f:Nat) (hf:f≤1000000) (hS:St cx w L):Rets Tryz.prog Qcl [.int .i64 f] w fun u w'=> u= .int .i64 (Q3j f)∧St cx w' L:=by
 unfold Q3j
 all_goals refine lgo tyD Tryz.func104 ?_
 all_goals (refine ZaV ?_;refine zmu ?_;refine zad ?_;refine Zai ?_;refine ⟨_,rfl,?_,hS.sp⟩;(rfl);done)
theorem QdF (f b:Nat) (hf:f≤1000000) (hb:b≤1000000) (hS:St cx w L):Rets Tryz.prog Qb9 [.int .i64 f, .int .i64 b] w fun u w'=> u= .int .i64 (Q3B f b)∧St cx w' L:=by
 unfold Q3B
 all_goals refine lgo tyD Tryz.func161 ?_
 all_goals (refine ZaV ?_;refine zmu ?_;refine zm ?_;refine zmu ?_;refine zad ?_;refine zad ?_;refine Zai ?_;refine ⟨_,rfl,?_,hS.sp⟩;(rfl);done)
theorem rEndAt_c (f b:Nat) (hf:f≤1000000) (hb:b≤1000000) (hS:St cx w L):Rets Tryz.prog R_AtEnd [.int .i64 f, .int .i64 b] w fun u w'=> u= .int .i64 (Q5v f b)∧St cx w' L:=by
 unfold Q5v
 all_goals refine lgo tyD Tryz.func57 ?_
 all_goals (refine ZaV ?_;refine zmu ?_;refine zm ?_;refine zmu ?_;refine zad ?_;refine zad ?_;refine Zai ?_;refine ⟨_,rfl,?_,hS.sp⟩;(first|rfl|(congr 1;omega));done)
theorem Qd1 (f b:Nat) (hf:f≤1000000) (hb:b≤1000000) (hS:St cx w L):Rets Tryz.prog Qe3 [.int .i64 f, .int .i64 b] w fun u w'=> u= .int .i64 (Q5v f b)∧St cx w' L:=by
 unfold Q5v
 all_goals refine lgo tyD Tryz.func116 ?_
 all_goals (refine ZaV ?_;refine zmu ?_;refine zm ?_;refine zmu ?_;refine zad ?_;refine zad ?_;refine Zai ?_;refine ⟨_,rfl,?_,hS.sp⟩;(rfl);done)
theorem rInsAt_c (f b i:Nat) (hf:f≤1000000) (hb:b≤1000000) (hi:i≤1000000) (hS:St cx w L):Rets Tryz.prog R_AtIns [.int .i64 f, .int .i64 b, .int .i64 i] w fun u w'=> u= .int .i64 (Q60 f b i)∧St cx w' L:=by
 unfold Q60
 all_goals refine lgo tyD Tryz.func55 ?_
 all_goals (refine ZaV ?_;refine zmu ?_;refine zm ?_;refine zmu ?_;refine zad ?_;refine zm ?_;refine zad ?_;refine Zai ?_;refine ⟨_,rfl,?_,hS.sp⟩;(first|rfl|(congr 1;omega));done)
theorem Qd0 (f b i:Nat) (hf:f≤1000000) (hb:b≤1000000) (hi:i≤1000000) (hS:St cx w L):Rets Tryz.prog Qe2 [.int .i64 f, .int .i64 b, .int .i64 i] w fun u w'=> u= .int .i64 (Q60 f b i)∧St cx w' L:=by
 unfold Q60
 all_goals refine lgo tyD Tryz.func115 ?_
 all_goals (refine ZaV ?_;refine zmu ?_;refine zm ?_;refine zmu ?_;refine zad ?_;refine zm ?_;refine zad ?_;refine Zai ?_;refine ⟨_,rfl,?_,hS.sp⟩;(rfl);done)
theorem rF_c {c a:Int}(hS:St cx w L):Rets Tryz.prog R_F [.int .i64 c, .int .i64 a] w fun u w'=> u= .agg ⟨[.int .i64 c, .int .i64 a]⟩∧St cx w' L:=by
 all_goals refine lgo tyD Tryz.func52 ?_
 all_goals (refine Zbv ?_;intro p4 w1 hS;refine zn ?_;refine Zas ?_;refine zb2 [_,_] ?_;refine zsn hS ?_;intro w1 hS;have hS:=hS.ns;refine Zbb ?_;refine Q25 vw (Qa (n:=2) (by kernel_rfl) (by kernel_rfl) (hS.blkAt fd) (by rfl) (by rfl)) ?_;refine ⟨_,rfl,?_,hS.sp⟩;(rfl);done)
end Go.Proofs.YteflkifmgnpbhaaGreat
namespace Go.Lir
theorem place_i {m:Module}{s:MS}{f:Fun}{b:Block}(hf:m.funcs[s.g.f]?=some f) (hb:f.blocks[s.g.b]?=some b) (h:s.g.i < b.code.length):s.place m=Q60 s.g.f s.g.b s.g.i:=by
 unfold MS.place;simp only [hf,hb];exact if_pos h
theorem place_e {m:Module}{s:MS}{f:Fun}{b:Block}(hf:m.funcs[s.g.f]?=some f) (hb:f.blocks[s.g.b]?=some b) (h:¬s.g.i < b.code.length):s.place m=Q5v s.g.f s.g.b:=by
 unfold MS.place;simp only [hf,hb];exact if_neg h
theorem one_i {m:Module}{s:MS}{f:Fun}{b:Block}{x:Ins}(hf:m.funcs[s.g.f]?=some f) (hb:f.blocks[s.g.b]?=some b) (h:b.code[s.g.i]?=some x):s.one m=s.next.ins m x:=by
 unfold MS.one;simp only [hf,hb,h]
theorem one_e {m:Module}{s:MS}{f:Fun}{b:Block}(hf:m.funcs[s.g.f]?=some f) (hb:f.blocks[s.g.b]?=some b) (h:b.code.length≤s.g.i):s.one m=s.fin f b.fin:=by
 unfold MS.one;simp only [hf,hb,List.getElem?_eq_none h]
end Go.Lir
namespace Go.Proofs.YteflkifmgnpbhaaGreat
open Go.Lir
set_option maxHeartbeats 1000000
attribute [local irreducible] LC.wp Q0 Qh Qc retQ Qw LO.wp Q3 Calls
set_option linter.unusedSimpArgs false
set_option linter.unusedVariables false
variable {cx:Cx}{w:World}{L:List Res}{p N:Nat}{c:MC}{fr:List FrmV}{g:FrmV}{h:HpS}{out inp:List Int}{fu:Nat}{m:Module}
@[reducible] def MC.tick (c:MC):MC:=⟨c.hp,c.fn,c.lv,c.iv,c.e,c.bv,c.ov,c.fu+1,c.mo,c.dn,c.c,c.a⟩
def Qec (m:Module) (x:Ins):Prop:=(1≤x.op∧x.op≤14)∧(x.op=14→0≤x.k∧x.k < m.funcs.length)∧x.regs.length≤100∧x.args.length≤100
def Qed (f:Fun) (e:Tail):Prop:=e.args.length≤100∧(1≤e.op∧e.op≤3)∧(e.op≠3→ToOK f e.yes)∧(e.op=2→ToOK f e.no)
attribute [local irreducible] Frm.val Frm.num Frm.args Frm.rgs Frm.reg MS.place Q60 Q5v
attribute [local irreducible] MS.ins MS.fin MS.one GoS BadS DoneS OkS
end Go.Proofs.YteflkifmgnpbhaaGreat
namespace Go.Proofs.YteflkifmgnpbhaaGreat
open Go.Lir
set_option maxHeartbeats 1000000
attribute [local irreducible] LC.wp Q0 Qh Qc retQ Qw LO.wp Q3 Calls
set_option linter.unusedSimpArgs false
set_option linter.unusedVariables false
attribute [local irreducible] orF mkF orC Q1m QE Q1O Q1M QP Q2v Q3h Q3j Q3B Q5v Q60
variable {cx:Cx}{w:World}{L:List Res}{i:Nat}
theorem fault_if (c:Int):(if decide (c≠0)=true then c else 0)=c:=by by_cases h:c=0 <;> simp [h]
theorem pins_c {x:Ins}{m:Module}{cs ds:List Value}(hm:modR.at cx cs m) (hx:insR.at cx ds x) (hS:St cx w L):Rets Tryz.prog code_Ins [.agg ⟨cs⟩, .agg ⟨ds⟩] w fun u w'=> u= .int .i64 (QE m.funcs.length x)∧St cx w' L:=by
 obtain ⟨vf,rfl,hf⟩:=Q21 hm
 obtain ⟨a0,n0,rfl⟩:=Rep.SR.shape hf
 have hx':=hx
 obtain ⟨vr,va,rfl,hr,ha⟩:=Q1a hx
 all_goals refine lgo tyD Tryz.func204 ?_
 all_goals (refine Zaq ?_;intro p2 w1 hS;refine zb hS ?_;intro p3 w1 hS;refine ZbO ?_;refine zv hS ?_;refine zb1 [_,_,_,_] ?_;refine zb hS ?_;intro p8 w1 hS;refine ZaT ?_;refine zv hS ?_;refine zR2 (c:=ins_c (g:=(0,0)) (at':=0) hx' hf hS nth0) (h:=?_);rintro v1 w1 ⟨rfl,hS⟩;simp only [List.set_cons_zero] at hS;rw [QdI (Q8F _ _)] at hS;simp only [jdg,Q40] at hS;refine ZaH ?_;refine znc ?_;refine zf0 ?_;refine Yac ?_;refine zl hS ?_;refine Zai ?_;refine ⟨_,rfl,?_,hS.sp⟩;(rfl);done)
theorem pend_c {x:Fun}{e:Tail}{cs ds:List Value}(hx:funcR.at cx cs x) (he:endR.at cx ds e) (hS:St cx w L):Rets Tryz.prog code_End [.agg ⟨cs⟩, .agg ⟨ds⟩] w fun u w'=> u= .int .i64 (Q1M x.blocks.length e)∧St cx w' L:=by
 have hx':=hx
 have he':=he
 obtain ⟨vp,vr,vb,rfl,hp,hr,hb⟩:=QM hx
 obtain ⟨v1,v2,v3,v4,v5,rfl,h1,h2,h3,h4,h5⟩:=Q22 he
 all_goals refine lgo tyD Tryz.func208 ?_
 all_goals (refine Zaq ?_;intro p2 w1 hS;refine zb hS ?_;intro p3 w1 hS;refine ZbO ?_;refine zb0 [_,_,_,_] ?_;refine zb hS ?_;intro p7 w1 hS;refine ZaT ?_;refine zv hS ?_;refine zv hS ?_;refine zR3 (c:=end_c (g:=(0,0)) (at':=0) hx' he' hS fd) (h:=?_);rintro v1 w1 ⟨rfl,hS⟩;have hS:=hS.ns;rw [QdI (Q8F _ _)] at hS;simp only [jdg,Q40] at hS;refine ZaH ?_;refine znc ?_;refine zf0 ?_;refine Yac ?_;refine zl hS ?_;refine Zai ?_;refine ⟨_,rfl,?_,hS.sp⟩;(rfl);done)
theorem QbP {l:List Ty}{regs:Int}{v vf:Value}{g:Flt}{at':Int}{b:Nat}(hl:tyR.sl cx v l) (hS:St cx w L) (hi:nth L i=some (jdg b vf g at')):
 Rets Tryz.prog Q8n [.pointer (some ⟨b,0,none⟩),v, .int .i64 regs] w fun u w'=> u= .tuple #[]∧St cx w' (L.set i (jdg b vf (orF g (mkF (QP l regs) at')) at')):=by
 have hS:=hS.out hi
 have hlen:=hl.len
 have e0:orF g (mkF (QP l regs) at')=orF g (mkF (orC (if 8 < l.length then 2 else 0) (Q3N regs l)) at'):=by
  congr 2
  unfold QP
  split
  · rw [Q6i (by decide)]
  · rw [Q5m]
 rw [e0]
 all_goals refine lgo tyD Tryz.func105 ?_
 refine zM [0,1,2] (fun A ρ' w'=> Has ρ' A∧Has ρ' []∧St cx w' (jdg b vf (orF g (mkF (if 8 < l.length then 2 else 0) at')) at'::L.eraseIdx i)) ?_ ?_
 · skip
   all_goals (refine ZaI ?_;refine zL ?_)
   all_goals (first|(refine Q1e ?_)|(refine Q1s ?_)|(refine Qx rfl rfl (fun hc=> ?_) (fun hc=> ?_)))
   all_goals (refine zR3 (c:=Q27 (by intro _;decide) hS fd) (h:=?_);rintro v1 w1 ⟨rfl,hS⟩;simp only [List.set_cons_zero,List.set_cons_succ,if_true,Bool.false_eq_true,if_false] at hS;refine zn ?_;exact ⟨zh,zh,by first|(rw [if_pos (by omega)];exact hS.sp)|(rw [if_neg (by omega)];exact hS.sp)⟩)
 rintro ρ w1 ⟨hA,hρ,hS⟩;obtain ⟨ρ,rfl⟩:=env2 hA hρ
 all_goals (refine Zab ?_;refine zL ?_;refine ZaB ?_)
 refine zo [0,2,14,15] (fun A ρ' w'=>∃(j:Nat) (h:Flt),Has ρ' A∧Has ρ' [(16, .int .i64 j)]∧(j≤l.length)∧(orF g (mkF (orC (if 8 < l.length then 2 else 0) (Q3N regs l)) at')=orF h (mkF (Q3N regs (l.drop j)) at'))∧St cx w' (jdg b vf h at'::L.eraseIdx i)) (fun ρ' _=> (l.length - iv (ρ' 16)).toNat) ?_ ?_
 · exact ⟨0,_,zh,zh,(by omega),by rw [List.drop_zero,Q2o],hS.sp⟩
 rintro ρ w1 ⟨j,h,hA,hρ,hj,hd,hS⟩;obtain ⟨ρ,rfl⟩:=env2 hA hρ
 all_goals (refine ZaQ ?_)
 refine Qn rfl (fun hc=> ?_) (fun hc=> ?_)
 · skip
   all_goals (refine Zbk ?_;refine zi ?_;intro b1 o1 cs1 x1 hat1 hx1 he1;obtain ⟨vl1,rfl,hl1⟩:=Qt he1;refine ZaP ?_;intro p7 w1 hS;refine zsn hS ?_;intro w1 hS;have hS:=hS.ns;refine ZaE ?_;refine zv hS ?_;refine zm ?_;refine zR2 (c:=Qcy (by assumption) hS) (h:=?_);rintro v1 w1 ⟨rfl,hS⟩;refine Zad ?_;refine ZaI ?_;refine Q4h rfl rfl ?_;refine zm ?_;refine zR3 (c:=Q27 (by intro h;exact of_decide_eq_true h) hS fd) (h:=?_);rintro v1 w1 ⟨rfl,hS⟩;simp only [List.set_cons_zero,List.set_cons_succ,fault_if] at hS;refine Zbq ?_;refine zad ?_;refine Zad ?_;exact ⟨⟨j+1,_,zh,zh,(by omega),by rw [hd,Q7 hx1,Q3N,←Q2o],hS.sp⟩,Qr (by omega)⟩)
 · skip
   all_goals (refine zex ?_;refine Q19 ?_;refine ⟨_,rfl,rfl,?_⟩;rw [hd,List.drop_of_length_le (by omega),Q3N,mkF_0,QdH rfl];exact St.back hS hi)
def fltV (g:Flt):Value:= .agg ⟨[.int .i64 g.1, .int .i64 g.2]⟩
theorem kindne_c {t:Ty}{cs:List Value}(ht:tyR.at cx cs t) (hS:St cx w L):Rets Tryz.prog Q4D [.agg ⟨cs⟩] w fun u w'=> u= .bool (decide (t.kind≠1))∧St cx w' L:=by
 obtain ⟨v,rfl,hl⟩:=Qt ht
 all_goals refine lgo tyD Tryz.func107 ?_
 all_goals (refine Zaq ?_;intro p1 w1 hS;refine ZbO ?_;refine zf0 ?_;refine zl hS ?_;refine Q4h rfl rfl ?_;refine Zai ?_;refine ⟨_,rfl,?_,hS.sp⟩;(rfl);done)
theorem pcont_c {l:List Ty}{v:Value}(hl:tyR.sl cx v l) (hS:St cx w L):Rets Tryz.prog Q28 [v, .func (.func Q4D) #[] #[]] w fun u w'=>∃q,u= .bool q∧(q=true↔∃t∈l,t.kind≠1)∧St cx w' L:=by
 have hlen:=hl.len
 have hidx:∀{w:World}{L:List Res},St cx w L→Rets Tryz.prog Q2k [v, .func (.func Q4D) #[] #[]] w fun u w'=>∃r:Int,u= .int .i64 r∧(0≤r↔∃t∈l,t.kind≠1)∧St cx w' L:=by
  intro w L hS
  all_goals refine lgo tyD Tryz.func160 ?_
  all_goals (refine Zba ?_;refine zL ?_;refine ZaB ?_)
  refine zoL hS [0,1,7] (fun A LL ρ' w'=>∃(j:Nat),Has ρ' A∧Has ρ' [(8, .int .i64 j)]∧(j≤l.length)∧(∀t∈l.take j,t.kind=1)∧St cx w' (LL)) (fun ρ' _=> (l.length - iv (ρ' 8)).toNat) ?_ ?_
  · exact ⟨0,zh,zh,(by omega),by simp,hS.sp⟩
  rintro ρ w1 ⟨j,hA,hρ,hj,hd,hS⟩;obtain ⟨ρ,rfl⟩:=env2 hA hρ
  all_goals (refine ZaQ ?_)
  refine Qn rfl (fun hc=> ?_) (fun hc=> ?_)
  · skip
    all_goals (refine ZbC ?_;refine Zad ?_;refine Zas ?_;refine zm ?_;refine zi ?_;intro b1 o1 cs1 x1 hat1 hx1 he1;obtain ⟨vl1,rfl,hl1⟩:=Qt he1;refine Yai ?_)
    all_goals (refine QeW rfl (by kernel_rfl) (by rfl) (kindne_c he1 hS) ?_;rintro v1 w1 ⟨rfl,hS⟩;(cases hdec:decide (x1.kind≠1));have hg:=of_decide_eq_false hdec;rotate_left;have hg:=of_decide_eq_true hdec;all_goals skip)
    all_goals (refine zn ?_)
    all_goals
     first
     | (refine zct ?_
        all_goals (refine Zbl ?_)
        all_goals (exact ⟨_,rfl,j,rfl,⟨fun _=> ⟨x1,List.mem_of_getElem? hx1,hg⟩,fun _=> by omega⟩,hS.sp⟩))
     | (refine zcf ?_
        all_goals refine zsk ?_)
    all_goals (refine Q1d ?_;refine zad ?_;refine Zad ?_;exact ⟨⟨j+1,zh,zh,(by omega),Q7l hd hx1 (Classical.not_not.1 hg),hS.sp⟩,Qr (by omega)⟩)
  · skip
    all_goals (refine ZbK ?_)
    all_goals (first|(exact ⟨_,rfl,j,rfl,⟨fun _=> ⟨x1,List.mem_of_getElem? hx1,hg⟩,fun _=> by omega⟩,hS.sp⟩)|(exact ⟨_,rfl, -1,rfl,⟨fun h=> by omega,fun ⟨t,ht,hk⟩=> absurd (Q7k hd (by omega) t ht) hk⟩,hS.sp⟩))
 all_goals refine lgo tyD Tryz.func106 ?_
 all_goals (refine Zaf ?_;refine Zas ?_;refine zR2 (c:=hidx hS) (h:=?_);rintro v1 w1 ⟨r,rfl,hr,hS⟩)
 all_goals (first|(refine Q2w ?_)|(refine Q3k ?_)|(refine Q1I rfl rfl (fun hc=> ?_) (fun hc=> ?_)))
 all_goals (refine Zai ?_)
 all_goals (first|(exact ⟨_,rfl,_,rfl,⟨fun _=> hr.1 (by omega),fun _=> rfl⟩,hS.sp⟩)|(exact ⟨_,rfl,_,rfl,⟨fun h=> Bool.noConfusion h,fun h=> by have:=hr.2 h;omega⟩,hS.sp⟩))
theorem QgH {g:Flt}{a:Int}{x:Fun}{b:Nat}{y:Block}{q:Bool}(hq:q=true↔(b=0∧(y.regs≠x.regs∨y.params≠x.params))):
 orF (orF (orF (orF g (mkF (if y.regs < x.regs∨16 < y.regs then 1 else 0) a)) (mkF (QP y.params y.regs) a)) (mkF (if q=true then 9 else 0) a)) (mkF (if 40 < y.code.length then 2 else 0) a)=orF g (mkF (Q2v x b y) a):=by
 rw [Q2o,Q2o,Q2o]
 congr 2
 unfold Q2v
 by_cases h0:y.regs < x.regs∨16 < y.regs
 · rw [if_pos h0,if_pos h0];simp only [Q6i (show (1:Int)≠0 by decide)]
 · rw [if_neg h0,if_neg h0,Q5m]
   by_cases h:QP y.params y.regs≠0
   · rw [if_pos h];simp only [Q6i h]
   · rw [if_neg h,Classical.not_not.1 h,Q5m]
     by_cases hb:b=0∧(y.regs≠x.regs∨y.params≠x.params)
     · rw [if_pos hb,if_pos (hq.2 hb)];simp only [Q6i (show (9:Int)≠0 by decide)]
     · rw [if_neg hb,if_neg (fun h=> hb (hq.1 h)),Q5m]
theorem pblock_c {fs:List Fun}{f b:Nat}{x:Fun}{y:Block}{vf:Value}{g:Flt}{a:Int}{p:Nat}(hxf:fs[f]?=some x) (hyb:x.blocks[b]?=some y) (hf0:f≤1000000) (hb0:b≤1000000) (hlc:y.code.length≤100000) (hf:funcR.sl cx vf fs) (hS:St cx w L) (hi:nth L i=some (jdg p vf g a)):
 Rets Tryz.prog Q76 [.pointer (some ⟨p,0,none⟩), .int .i64 f, .int .i64 b] w fun u w'=> u= .tuple #[]∧∃a',St cx w' (L.set i (jdg p vf (orF g (Q2C fs.length f x b y)) a')):=by
 have hflt:=(List.getElem?_eq_some_iff.1 hxf).1
 have hblt:=(List.getElem?_eq_some_iff.1 hyb).1
 have hS:=hS.out hi
 all_goals refine lgo tyD Tryz.func108 ?_
 all_goals (refine ZbG ?_;refine zf0 ?_;refine zf0 ?_;refine zl hS ?_;refine zm ?_;refine zi ?_;intro b1 o1 cs1 x1 hat1 hx1 he1;obtain ⟨vp1,vr1,vb1,rfl,hp1,hr1,hb1⟩:=QM he1;refine ZaP ?_;intro p6 w1 hS;refine zsn hS ?_;intro w1 hS;have hS:=hS.ns;refine zn ?_;have e1:x=x1:=Option.some.inj (hxf.symm.trans hx1);subst e1;refine Zaa ?_;refine zf0 ?_;refine zl hS ?_;refine zm ?_;refine zi ?_;intro b2 o2 cs2 x2 hat2 hx2 he2;obtain ⟨vp2,vc2,ve21,ve22,ve23,ve24,ve25,rfl,hp2,hc2,he21,he22,he23,he24,he25⟩:=Q23 he2;refine ZaP ?_;intro p7 w1 hS;refine zsn hS ?_;intro w1 hS;have hS:=hS.ns;refine zn ?_;have e2:y=x2:=Option.some.inj (hyb.symm.trans hx2);subst e2)
 refine zM [0,1,2,6,7] (fun A ρ' w'=> Has ρ' A∧Has ρ' []∧St cx w' (blk p7 92 [.int .i64 y.regs,vp2,vc2, .int .i64 y.fin.op, .int .i64 y.fin.a, .int .i64 y.fin.yes.block,ve21,ve22, .int .i64 y.fin.no.block,ve23,ve24,ve25]::blk p6 95 [.int .i64 x.regs,vp1,vr1,vb1]::jdg p vf g (Q3B f b)::L.eraseIdx i)) ?_ ?_
 · skip
   all_goals (refine ZaI ?_;refine zm ?_;refine zR2 (c:=QdF f b hf0 hb0 hS) (h:=?_);rintro v1 w1 ⟨rfl,hS⟩;refine znc ?_;refine zf0 ?_;refine zst hS ?_;intro w1 hS;have hS:=hS.ns;refine zn ?_;exact ⟨zh,zh,hS.sp⟩)
 rintro ρ w1 ⟨hA,hρ,hS⟩;obtain ⟨ρ,rfl⟩:=env2 hA hρ
 refine zM [0,1,2,6,7] (fun A ρ' w'=> Has ρ' A∧Has ρ' []∧St cx w' (blk p7 92 [.int .i64 y.regs,vp2,vc2, .int .i64 y.fin.op, .int .i64 y.fin.a, .int .i64 y.fin.yes.block,ve21,ve22, .int .i64 y.fin.no.block,ve23,ve24,ve25]::blk p6 95 [.int .i64 x.regs,vp1,vr1,vb1]::jdg p vf (orF g (mkF (if y.regs < x.regs∨16 < y.regs then 1 else 0) (Q3B f b))) (Q3B f b)::L.eraseIdx i)) ?_ ?_
 · skip
   all_goals (refine Zag ?_;refine zf0 ?_;refine zl hS ?_;refine zf0 ?_;refine zl hS ?_)
   all_goals (first|(refine Q1k ?_)|(refine Q1w ?_)|(refine QA rfl rfl (fun hc=> ?_) (fun hc=> ?_)))
   all_goals (refine ZaO ?_)
   all_goals (first|refine zgn ?_|(refine zgy ?_;(first|(refine Q1e ?_)|(refine Q1s ?_)|(refine Qx rfl rfl (fun hc=> ?_) (fun hc=> ?_)))))
   all_goals (refine Yae ?_;refine zR3 (c:=Q27 (g:=_) (by intro _;decide) hS fd) (h:=?_);rintro v1 w1 ⟨rfl,hS⟩;simp only [List.set_cons_zero,List.set_cons_succ,if_true,Bool.false_eq_true,if_false] at hS;refine zn ?_;exact ⟨zh,zh,by first|(rw [if_pos (by omega)];exact hS.sp)|(rw [if_neg (by omega)];exact hS.sp)⟩)
 rintro ρ w1 ⟨hA,hρ,hS⟩;obtain ⟨ρ,rfl⟩:=env2 hA hρ
 all_goals (refine Zab ?_;refine zf0 ?_;refine zl hS ?_;refine zf0 ?_;refine zl hS ?_;refine zR3 (c:=QbP hp2 hS fd) (h:=?_);rintro v1 w1 ⟨rfl,hS⟩;have hS:=hS.ns;refine ZaE ?_)
 refine zKL hS 18 [0,1,2,6,7] (fun A LL ρ' w'=>∃(q:Bool),Has ρ' A∧Has ρ' [(46, .pointer (some ⟨p,0,none⟩)),(63, .bool q)]∧(q=true↔(b=0∧(y.regs≠x.regs∨y.params≠x.params)))∧St cx w' (LL)) ?_ ?_
 · skip
   all_goals (refine Zbg ?_)
   all_goals (first|(refine Qi ?_)|(refine Qm ?_)|(refine Q5 rfl rfl (fun hc=> ?_) (fun hc=> ?_)))
   all_goals (refine ZaO ?_;refine Zap ?_)
   all_goals (first|refine zgn ?_|(refine zgy ?_;(first|(refine Q11 ?_)|(refine Q18 ?_)|(refine Qu rfl rfl (fun hc=> ?_) (fun hc=> ?_)))))
   all_goals (refine ZbP ?_;refine Zap ?_)
   all_goals (first|refine zgn ?_|(refine zgy ?_;refine zR3 (c:=eqfT_c (by kernel_rfl) (fun a _ b _ {_ _ _ _} h1 h2 h3=> Q7M a b h1 h2 h3) hp2 hp1 hS) (h:=?_);rintro v1 w1 ⟨rfl,hS⟩;(cases hdec:decide (y.params=x.params));have hg:=of_decide_eq_false hdec;rotate_left;have hg:=of_decide_eq_true hdec;all_goals skip))
   all_goals (refine Yak ?_;refine Yal ?_;refine Yae ?_;refine ZaK ?_)
   all_goals (first|(exact ⟨_,zh,zh,by exact ⟨fun _=> ⟨by omega, .inl (by assumption)⟩,fun _=> rfl⟩,hS.sp⟩)|(exact ⟨_,zh,zh,by exact ⟨fun _=> ⟨by omega, .inr (by assumption)⟩,fun _=> rfl⟩,hS.sp⟩)|(exact ⟨_,zh,zh,by exact ⟨fun h=> Bool.noConfusion h,fun h=> absurd h.1 (by omega)⟩,hS.sp⟩)|(exact ⟨_,zh,zh,by exact ⟨fun h=> Bool.noConfusion h,fun h=> h.2.elim (fun h=> absurd h (by assumption)) (fun h=> absurd (by assumption) h)⟩,hS.sp⟩))
 rintro ρ w1 ⟨q,hA,hρ,hq,hS⟩;obtain ⟨ρ,rfl⟩:=env2 hA hρ
 all_goals (refine zR3 (c:=Q27 (g:=_) (by intro _;decide) hS fd) (h:=?_);rintro v1 w1 ⟨rfl,hS⟩;simp only [List.set_cons_zero,List.set_cons_succ,if_true,Bool.false_eq_true,if_false] at hS;refine zn ?_)
 refine zM [0,1,2,6,7] (fun A ρ' w'=> Has ρ' A∧Has ρ' []∧St cx w' (blk p7 92 [.int .i64 y.regs,vp2,vc2, .int .i64 y.fin.op, .int .i64 y.fin.a, .int .i64 y.fin.yes.block,ve21,ve22, .int .i64 y.fin.no.block,ve23,ve24,ve25]::blk p6 95 [.int .i64 x.regs,vp1,vr1,vb1]::jdg p vf (orF g (mkF (Q2v x b y) (Q3B f b))) (Q3B f b)::L.eraseIdx i)) ?_ ?_
 · skip
   all_goals (refine Zag ?_;refine zf0 ?_;refine zl hS ?_;refine zL ?_)
   all_goals (first|(refine Q1e ?_)|(refine Q1s ?_)|(refine Qx rfl rfl (fun hc=> ?_) (fun hc=> ?_)))
   all_goals (refine zR3 (c:=Q27 (g:=_) (by intro _;decide) hS fd) (h:=?_);rintro v1 w1 ⟨rfl,hS⟩;simp only [List.set_cons_zero,List.set_cons_succ,if_true,Bool.false_eq_true,if_false] at hS;refine zn ?_;exact ⟨zh,zh,by rw [←QgH hq];first|(rw [if_pos (c:=40 < y.code.length) (by omega)];exact hS.sp)|(rw [if_neg (c:=40 < y.code.length) (by omega)];exact hS.sp)⟩)
 rintro ρ w1 ⟨hA,hρ,hS⟩;obtain ⟨ρ,rfl⟩:=env2 hA hρ
 all_goals (refine ZbA ?_)
 refine zo [0,1,2,6,7] (fun A ρ' w'=>∃(j:Nat) (h:Flt) (at2:Int),Has ρ' A∧Has ρ' [(8, .int .i64 j)]∧(j≤y.code.length)∧(orF (orF g (mkF (Q2v x b y) (Q3B f b))) (Q2e fs.length f b 0 y.code)=orF h (Q2e fs.length f b j (y.code.drop j)))∧St cx w' (blk p7 92 [.int .i64 y.regs,vp2,vc2, .int .i64 y.fin.op, .int .i64 y.fin.a, .int .i64 y.fin.yes.block,ve21,ve22, .int .i64 y.fin.no.block,ve23,ve24,ve25]::blk p6 95 [.int .i64 x.regs,vp1,vr1,vb1]::jdg p vf h at2::L.eraseIdx i)) (fun ρ' _=> (y.code.length - iv (ρ' 8)).toNat) ?_ ?_
 · exact ⟨0,_,_,zh,zh,(by omega),by rw [List.drop_zero],hS.sp⟩
 rintro ρ w1 ⟨j,h,at2,hA,hρ,hj,hd,hS⟩;obtain ⟨ρ,rfl⟩:=env2 hA hρ
 all_goals (refine Zah ?_;refine zf0 ?_;refine zl hS ?_;refine zL ?_)
 all_goals (first|(refine Q1k ?_)|(refine Q1w ?_)|(refine QA rfl rfl (fun hc=> ?_) (fun hc=> ?_)))
 all_goals (refine Zak ?_;refine Zbh ?_;refine Yag ?_;refine Yad ?_)
 all_goals (first|refine zgn ?_|(refine zgy ?_;(first|(refine Qi ?_)|(refine Qm ?_)|(refine Q5 rfl rfl (fun hc=> ?_) (fun hc=> ?_)))))
 all_goals (refine ZaL ?_)
 all_goals
  first
  | (refine zct ?_
     all_goals (refine ZaA ?_;refine Zas ?_;refine Zbg ?_;refine zR3 (c:=Qd0 f b j hf0 hb0 (by omega) hS) (h:=?_);rintro v1 w1 ⟨rfl,hS⟩;refine znc ?_;refine zf0 ?_;refine zst hS ?_;intro w1 hS;have hS:=hS.ns;refine zn ?_;have hS:St cx _ (blk p7 92 [.int .i64 y.regs,vp2,vc2, .int .i64 y.fin.op, .int .i64 y.fin.a, .int .i64 y.fin.yes.block,ve21,ve22, .int .i64 y.fin.no.block,ve23,ve24,ve25]::blk p6 95 [.int .i64 x.regs,vp1,vr1,vb1]::jdg p vf h (Q60 f b j)::L.eraseIdx i):=hS;refine Zag ?_;refine zf0 ?_;refine zl hS ?_;refine zm ?_;refine zi ?_;intro b3 o3 cs3 x3 hat3 hx3 he3;obtain ⟨vr3,va3,rfl,hr3,ha3⟩:=Q1a he3;refine Yai ?_;refine zR2 (c:=ins_c he3 hf hS fd) (h:=?_);rintro v1 w1 ⟨rfl,hS⟩;have hS:=hS.ns;refine Zbs ?_;refine zad ?_;refine Zad ?_)
     all_goals (exact ⟨⟨j+1,_,_,zh,zh,(by omega),by rw [hd,Q7 hx3,Q2e,Q39],hS.sp⟩,Qr (by omega)⟩))
  | (refine zcf ?_
     all_goals (refine zex ?_;(first|(rw [List.drop_of_length_le (by omega),Q2e,QdH (b:=(0,0)) rfl] at hd)|(rw [QbT (a:=h) (by assumption)] at hd));refine Zas ?_;refine zm ?_;refine zR2 (c:=Qd1 f b hf0 hb0 hS) (h:=?_);rintro v1 w1 ⟨rfl,hS⟩;refine znc ?_;refine zf0 ?_;refine zst hS ?_;intro w1 hS;have hS:=hS.ns;refine zn ?_;have hS:St cx _ (blk p7 92 [.int .i64 y.regs,vp2,vc2, .int .i64 y.fin.op, .int .i64 y.fin.a, .int .i64 y.fin.yes.block,ve21,ve22, .int .i64 y.fin.no.block,ve23,ve24,ve25]::blk p6 95 [.int .i64 x.regs,vp1,vr1,vb1]::jdg p vf h (Q5v f b)::L.eraseIdx i):=hS;refine Zag ?_;refine zv hS ?_;refine zf0 ?_;refine zv hS ?_;refine zR3 (c:=end_c (e:=y.fin) he1 ⟨_,_,_,_,_,rfl,he21,he22,he23,he24,he25⟩ hS fd) (h:=?_);rintro v1 w1 ⟨rfl,hS⟩;have hS:=hS.ns;refine zn ?_)
     all_goals (refine Q19 ?_;refine ⟨_,rfl,rfl,Q5v f b,?_⟩;have hS:=hS.drop.drop;rw [show orF g (Q2C fs.length f x b y)=orF h (mkF (Q1M x.blocks.length y.fin) (Q5v f b)) from (by unfold Q2C;rw [←Q39,←Q39,hd])];exact St.back hS hi))
theorem Qgm {g:Flt}{a:Int}{x:Fun}{f:Nat}{q:Bool}(hq:q=true↔(f=0∧(0 < x.regs∨0 < x.params.length∨∃t∈x.results,t.kind≠1))):
 orF (orF (orF (orF (orF g (mkF (if x.regs < 0∨6 < x.regs then 1 else 0) a)) (mkF (QP x.params x.regs) a)) (mkF (QP x.results x.regs) a)) (mkF (if x.blocks.length < 1∨12 < x.blocks.length then 2 else 0) a)) (mkF (if q=true then 18 else 0) a)=orF g (mkF (Q3h f x) a):=by
 rw [Q2o,Q2o,Q2o,Q2o]
 congr 2
 unfold Q3h
 by_cases h0:x.regs < 0∨6 < x.regs
 · rw [if_pos h0,if_pos h0];simp only [Q6i (show (1:Int)≠0 by decide)]
 · rw [if_neg h0,if_neg h0,Q5m]
   by_cases h:QP x.params x.regs≠0
   · rw [if_pos h];simp only [Q6i h]
   · rw [if_neg h,Classical.not_not.1 h,Q5m]
     by_cases h1:QP x.results x.regs≠0
     · rw [if_pos h1];simp only [Q6i h1]
     · rw [if_neg h1,Classical.not_not.1 h1,Q5m]
       by_cases h2:x.blocks.length < 1∨12 < x.blocks.length
       · rw [if_pos h2,if_pos h2];simp only [Q6i (show (2:Int)≠0 by decide)]
       · rw [if_neg h2,if_neg h2,Q5m]
         by_cases hb:f=0∧(0 < x.regs∨0 < x.params.length∨∃t∈x.results,t.kind≠1)
         · rw [if_pos hb,if_pos (hq.2 hb)]
         · rw [if_neg hb,if_neg (fun h=> hb (hq.1 h))]
theorem QcZ {m:Module}(hsh:m.Short){cs:List Value}(hm:modR.at cx cs m) (hS:St cx w L):
 Rets Tryz.prog Qe4 [.agg ⟨cs⟩] w fun u w'=> u=fltV m.fault∧St cx w' L:=by
 obtain ⟨vf,rfl,hf⟩:=Q21 hm
 have hsl:=hsh.1
 have hsf:=hsh.2
 obtain ⟨a0,n0,rfl⟩:=Rep.SR.shape hf
 generalize hvf:Value.slice a0 m.funcs.length n0=vf at*
 all_goals refine lgo tyD Tryz.func62 ?_
 all_goals (refine Zaq ?_;intro p1 w1 hS;refine Ql hS ?_;intro p2 w1 hS;refine ZaE ?_;refine zv hS ?_;refine Q5A (cs:=[vf, .int .i64 0, .int .i64 0, .int .i64 (-1)]) vw vw (by subst hvf;rfl) ?_;refine zb hS ?_;intro p9 w1 hS;refine Zad ?_)
 refine zM [1,2,3] (fun A ρ' w'=> Has ρ' A∧Has ρ' []∧St cx w' (jdg p9 vf (mkF (if m.funcs.length < 1∨8 < m.funcs.length then 2 else 0) (-1)) (-1)::blk p2 29 [.int .i64 0, .int .i64 0]::blk p1 24 [vf]::L)) ?_ ?_
 · skip
   all_goals (have hS:St cx _ (jdg p9 vf (0,0) (-1)::blk p2 29 [.int .i64 0, .int .i64 0]::blk p1 24 [vf]::L):=hS;refine Zag ?_;refine zf0 ?_;refine zl hS ?_;refine zL ?_)
   all_goals (first|(refine Qi ?_)|(refine Qm ?_)|(refine Q5 rfl rfl (fun hc=> ?_) (fun hc=> ?_)))
   all_goals (refine ZaO ?_;refine Yaj ?_)
   all_goals (first|refine zgn ?_|(refine zgy ?_;(first|(refine Q1e ?_)|(refine Q1s ?_)|(refine Qx rfl rfl (fun hc=> ?_) (fun hc=> ?_)))))
   all_goals (refine Yae ?_;refine zR3 (c:=Q27 (g:=_) (by intro _;decide) hS fd) (h:=?_);rintro v1 w1 ⟨rfl,hS⟩;simp only [List.set_cons_zero,List.set_cons_succ,if_true,Bool.false_eq_true,if_false] at hS;refine zn ?_;exact ⟨zh,zh,by rw [QdI (Q8F _ _)] at hS;first|(rw [if_pos (by omega)];exact hS.sp)|(rw [if_neg (by omega)];exact hS.sp)⟩)
 rintro ρ w1 ⟨hA,hρ,hS⟩;obtain ⟨ρ,rfl⟩:=env2 hA hρ
 all_goals (refine ZbA ?_)
 refine zo [1,2,3] (fun A ρ' w'=>∃(f:Nat) (h:Flt) (a:Int),Has ρ' A∧Has ρ' [(4, .int .i64 f)]∧(f≤m.funcs.length)∧(m.fault=orF h (Q2s m.funcs.length f (m.funcs.drop f)))∧St cx w' (jdg p9 vf h a::blk p2 29 [.int .i64 0, .int .i64 0]::blk p1 24 [vf]::L)) (fun ρ' _=> (m.funcs.length - iv (ρ' 4)).toNat) ?_ ?_
 · exact ⟨0,_,_,zh,zh,(by omega),by rw [List.drop_zero];rfl,hS.sp⟩
 rintro ρ w1 ⟨f,h,a,hA,hρ,hj,hd,hS⟩;obtain ⟨ρ,rfl⟩:=env2 hA hρ
 all_goals (refine Zah ?_;refine zf0 ?_;refine zl hS ?_;refine zL ?_)
 all_goals (first|(refine Q1k ?_)|(refine Q1w ?_)|(refine QA rfl rfl (fun hc=> ?_) (fun hc=> ?_)))
 all_goals (refine Zak ?_;refine Zbh ?_;refine Yag ?_;refine Yad ?_)
 all_goals (first|refine zgn ?_|(refine zgy ?_;(first|(refine Qi ?_)|(refine Qm ?_)|(refine Q5 rfl rfl (fun hc=> ?_) (fun hc=> ?_)))))
 all_goals (refine ZaL ?_)
 all_goals
  first
  | (refine zct ?_
     all_goals (refine Zbk ?_;refine zf0 ?_;refine zl hS ?_;refine zm ?_;refine zi ?_;intro b1 o1 cs1 x1 hat1 hx1 he1;obtain ⟨vp1,vr1,vb1,rfl,hp1,hr1,hb1⟩:=QM he1;refine ZaP ?_;intro p5 w1 hS;refine zsn hS ?_;intro w1 hS;have hS:=hS.ns;refine zn ?_;have hsx:=hsf x1 (List.mem_of_getElem? hx1);have hlb:=hsx.2.2.1;have hlp:=hp1.len;have hlr:=hr1.len;refine Zas ?_;refine zR1 (c:=QfC f (by omega) hS) (h:=?_);rintro v1 w1 ⟨rfl,hS⟩;refine znc ?_;refine zf0 ?_;refine zst hS ?_;intro w1 hS;have hS:=hS.ns;refine zn ?_)
     refine zM [1,2,3,4,5] (fun A ρ' w'=> Has ρ' A∧Has ρ' []∧St cx w' (blk p5 95 [.int .i64 x1.regs,vp1,vr1,vb1]::jdg p9 vf (orF h (mkF (if x1.regs < 0∨6 < x1.regs then 1 else 0) (Q3j f))) (Q3j f)::blk p2 29 [.int .i64 0, .int .i64 0]::blk p1 24 [vf]::L)) ?_ ?_
     · skip
       all_goals (have hS:St cx _ (blk p5 95 [.int .i64 x1.regs,vp1,vr1,vb1]::jdg p9 vf h (Q3j f)::blk p2 29 [.int .i64 0, .int .i64 0]::blk p1 24 [vf]::L):=hS;refine Zag ?_;refine zf0 ?_;refine zl hS ?_)
       all_goals (first|(refine Q1k ?_)|(refine Q1w ?_)|(refine QA rfl rfl (fun hc=> ?_) (fun hc=> ?_)))
       all_goals (refine ZaO ?_)
       all_goals (first|refine zgn ?_|(refine zgy ?_;(first|(refine Q1e ?_)|(refine Q1s ?_)|(refine Qx rfl rfl (fun hc=> ?_) (fun hc=> ?_)))))
       all_goals (refine Yae ?_;refine zR3 (c:=Q27 (g:=_) (by intro _;decide) hS fd) (h:=?_);rintro v1 w1 ⟨rfl,hS⟩;simp only [List.set_cons_zero,List.set_cons_succ,if_true,Bool.false_eq_true,if_false] at hS;refine zn ?_;exact ⟨zh,zh,by first|(rw [if_pos (by omega)];exact hS.sp)|(rw [if_neg (by omega)];exact hS.sp)⟩)
     rintro ρ w1 ⟨hA,hρ,hS⟩;obtain ⟨ρ,rfl⟩:=env2 hA hρ
     all_goals (refine Zab ?_;refine zf0 ?_;refine zl hS ?_;refine zf0 ?_;refine zl hS ?_;refine zR3 (c:=QbP hp1 hS fd) (h:=?_);rintro v1 w1 ⟨rfl,hS⟩;have hS:=hS.ns;refine ZaH ?_;refine zf0 ?_;refine zl hS ?_;refine zf0 ?_;refine zl hS ?_;refine zR3 (c:=QbP hr1 hS fd) (h:=?_);rintro v1 w1 ⟨rfl,hS⟩;have hS:=hS.ns;refine zn ?_)
     refine zM [1,2,3,4,5] (fun A ρ' w'=> Has ρ' A∧Has ρ' []∧St cx w' (blk p5 95 [.int .i64 x1.regs,vp1,vr1,vb1]::jdg p9 vf (orF (orF (orF (orF h (mkF (if x1.regs < 0∨6 < x1.regs then 1 else 0) (Q3j f))) (mkF (QP x1.params x1.regs) (Q3j f))) (mkF (QP x1.results x1.regs) (Q3j f))) (mkF (if x1.blocks.length < 1∨12 < x1.blocks.length then 2 else 0) (Q3j f))) (Q3j f)::blk p2 29 [.int .i64 0, .int .i64 0]::blk p1 24 [vf]::L)) ?_ ?_
     · skip
       all_goals (refine Zag ?_;refine zf0 ?_;refine zl hS ?_;refine zL ?_)
       all_goals (first|(refine Qi ?_)|(refine Qm ?_)|(refine Q5 rfl rfl (fun hc=> ?_) (fun hc=> ?_)))
       all_goals (refine ZaO ?_;refine Yaj ?_)
       all_goals (first|refine zgn ?_|(refine zgy ?_;(first|(refine Q1e ?_)|(refine Q1s ?_)|(refine Qx rfl rfl (fun hc=> ?_) (fun hc=> ?_)))))
       all_goals (refine Yae ?_;refine zR3 (c:=Q27 (g:=_) (by intro _;decide) hS fd) (h:=?_);rintro v1 w1 ⟨rfl,hS⟩;simp only [List.set_cons_zero,List.set_cons_succ,if_true,Bool.false_eq_true,if_false] at hS;refine zn ?_;exact ⟨zh,zh,by first|(rw [if_pos (c:=x1.blocks.length < 1∨12 < x1.blocks.length) (by omega)];exact hS.sp)|(rw [if_neg (c:=x1.blocks.length < 1∨12 < x1.blocks.length) (by omega)];exact hS.sp)⟩)
     rintro ρ w1 ⟨hA,hρ,hS⟩;obtain ⟨ρ,rfl⟩:=env2 hA hρ
     refine zM [1,2,3,4,5] (fun A ρ' w'=> Has ρ' A∧Has ρ' []∧St cx w' (blk p5 95 [.int .i64 x1.regs,vp1,vr1,vb1]::jdg p9 vf (orF h (mkF (Q3h f x1) (Q3j f))) (Q3j f)::blk p2 29 [.int .i64 0, .int .i64 0]::blk p1 24 [vf]::L)) ?_ ?_
     · skip
       all_goals (refine Q1d ?_)
       refine zKL hS 19 [1,2,3,4,5] (fun A LL ρ' w'=>∃(q:Bool),Has ρ' A∧Has ρ' [(81, .pointer (some ⟨p9,0,none⟩)),(99, .bool q)]∧(q=true↔(f=0∧(0 < x1.regs∨0 < x1.params.length∨∃t∈x1.results,t.kind≠1)))∧St cx w' (LL)) ?_ ?_
       · skip
         all_goals (refine Zbg ?_)
         all_goals (first|(refine Qi ?_)|(refine Qm ?_)|(refine Q5 rfl rfl (fun hc=> ?_) (fun hc=> ?_)))
         all_goals (refine ZaO ?_)
         all_goals (first|refine zgn ?_|(refine zgy ?_;(first|(refine Q1e ?_)|(refine Q1s ?_)|(refine Qx rfl rfl (fun hc=> ?_) (fun hc=> ?_)))))
         all_goals (refine ZbP ?_;refine Yaj ?_)
         all_goals (first|refine zgn ?_|(refine zgy ?_;(first|(refine Q1e ?_)|(refine Q1s ?_)|(refine Qx rfl rfl (fun hc=> ?_) (fun hc=> ?_)))))
         all_goals (refine Yal ?_;refine ZbP ?_)
         all_goals ((first|(refine zgn ?_)|(refine zgy ?_;refine zR2 (c:=pcont_c hr1 hS) (h:=?_);rintro v1 w1 ⟨qc,rfl,hqc,hS⟩;cases qc)))
         all_goals (refine Yal ?_;refine Yae ?_;refine ZaK ?_)
         all_goals (first|(exact ⟨_,zh,zh,by exact ⟨fun _=> ⟨by omega, .inl (by omega)⟩,fun _=> rfl⟩,hS.sp⟩)|(exact ⟨_,zh,zh,by exact ⟨fun _=> ⟨by omega, .inr (.inl (by omega))⟩,fun _=> rfl⟩,hS.sp⟩)|(exact ⟨_,zh,zh,by exact ⟨fun _=> ⟨by omega, .inr (.inr (hqc.1 rfl))⟩,fun _=> rfl⟩,hS.sp⟩)|(exact ⟨_,zh,zh,by exact ⟨fun h=> Bool.noConfusion h,fun h=> absurd h.1 (by omega)⟩,hS.sp⟩)|(exact ⟨_,zh,zh,by exact ⟨fun h=> Bool.noConfusion h,fun h=> h.2.elim (fun h=> by omega) (fun h=> h.elim (fun h=> by omega) (fun h=> Bool.noConfusion (hqc.2 h)))⟩,hS.sp⟩))
       rintro ρ w1 ⟨q,hA,hρ,hq,hS⟩;obtain ⟨ρ,rfl⟩:=env2 hA hρ
       all_goals (refine zR3 (c:=Q27 (g:=_) (by intro _;decide) hS fd) (h:=?_);rintro v1 w1 ⟨rfl,hS⟩;simp only [List.set_cons_zero,List.set_cons_succ,if_true,Bool.false_eq_true,if_false] at hS;refine zn ?_;exact ⟨zh,zh,by rw [←Qgm hq];exact hS.sp⟩)
     rintro ρ w1 ⟨hA,hρ,hS⟩;obtain ⟨ρ,rfl⟩:=env2 hA hρ
     all_goals (refine ZaW ?_)
     refine zo [1,2,3,4,5] (fun A ρ' w'=>∃(b:Nat) (h2:Flt) (a2:Int),Has ρ' A∧Has ρ' [(6, .int .i64 b)]∧(b≤x1.blocks.length)∧(orF (orF h (mkF (Q3h f x1) (Q3j f))) (Q1G m.funcs.length f x1 0 x1.blocks)=orF h2 (Q1G m.funcs.length f x1 b (x1.blocks.drop b)))∧St cx w' (blk p5 95 [.int .i64 x1.regs,vp1,vr1,vb1]::jdg p9 vf h2 a2::blk p2 29 [.int .i64 0, .int .i64 0]::blk p1 24 [vf]::L)) (fun ρ' _=> (x1.blocks.length - iv (ρ' 6)).toNat) ?_ ?_
     · exact ⟨0,_,_,zh,zh,(by omega),by rw [List.drop_zero],hS.sp⟩
     rintro ρ w1 ⟨b,h2,a2,hA,hρ,hb,hd2,hS⟩;obtain ⟨ρ,rfl⟩:=env2 hA hρ
     all_goals (refine Zah ?_;refine zf0 ?_;refine zl hS ?_;refine zL ?_)
     all_goals (first|(refine Q1k ?_)|(refine Q1w ?_)|(refine QA rfl rfl (fun hc=> ?_) (fun hc=> ?_)))
     all_goals (refine Zak ?_;refine Zbh ?_;refine Yag ?_;refine Yad ?_)
     all_goals (first|refine zgn ?_|(refine zgy ?_;(first|(refine Qi ?_)|(refine Qm ?_)|(refine Q5 rfl rfl (fun hc=> ?_) (fun hc=> ?_)))))
     all_goals (refine ZaL ?_)
     all_goals
      first
      | (refine zct ?_
         all_goals (refine ZaA ?_;obtain ⟨y,hy⟩:∃y,x1.blocks[b]?=some y:=⟨_,List.getElem?_eq_getElem (by omega)⟩;have hsy:=hsx.2.2.2 y (List.mem_of_getElem? hy);refine ZaI ?_;refine zm ?_;refine zR3 (c:=pblock_c hx1 hy (by omega) (by omega) hsy.2.1 hf hS fd) (h:=?_);rintro v1 w1 ⟨rfl,a3,hS⟩;have hS:=hS.ns;refine Zbs ?_;refine zad ?_;refine Zad ?_)
         all_goals (exact ⟨⟨b+1,_,_,zh,zh,(by omega),by rw [hd2,Q7 hy,Q1G,Q39],hS.sp⟩,Qr (by omega)⟩))
      | (refine zcf ?_
         all_goals (refine zex ?_;(first|(rw [List.drop_of_length_le (by omega),Q1G,QdH (b:=(0,0)) rfl] at hd2)|(rw [QbT (a:=h2) (by assumption)] at hd2));refine Zag ?_;refine zad ?_;refine Zad ?_)
         all_goals (exact ⟨⟨f+1,h2,a2,zh,zh,(by omega),by rw [hd,Q7 hx1,Q2s,←Q39,show orF h (Q7h m.funcs.length f x1)=h2 from (by unfold Q7h;rw [←Q39,hd2])],hS.sp⟩,Qr (by omega)⟩)))
  | (refine zcf ?_
     all_goals (refine zex ?_;(first|(rw [List.drop_of_length_le (by omega),Q2s,QdH (b:=(0,0)) rfl] at hd)|(rw [QbT (a:=h) (by assumption)] at hd));refine ZbG ?_;refine zf0 ?_;refine zv hS ?_;refine zsn hS ?_;intro w1 hS;have hS:=hS.ns;refine Zbb ?_;refine Q25 vw (Qa (n:=2) (by kernel_rfl) (by kernel_rfl) (hS.blkAt fd) (by rfl) (by rfl)) ?_)
     all_goals (refine ⟨_,rfl,?_,hS.sp⟩;rw [hd];rfl;done))
end Go.Proofs.YteflkifmgnpbhaaGreat
namespace Go.Lir
section
variable {P:Program}{Q:QT}{ρ:Env}{w:World}{l:List GO}
end
end Go.Lir
namespace Go.Proofs.YteflkifmgnpbhaaGreat
open Go.Lir
set_option maxHeartbeats 1000000
attribute [local irreducible] LC.wp Q0 Qh Qc retQ Qw LO.wp Q3 Calls
set_option linter.unusedSimpArgs false
set_option linter.unusedVariables false
variable {cx:Cx}{w:World}{L:List Res}{p N:Nat}{c:MC}{fr:List FrmV}{g:FrmV}{h:HpS}{out inp:List Int}{fu:Nat}{m:Module}
@[reducible] def MC.stk (c:MC) (a:Int):MC:=⟨c.hp,c.fn,c.lv,c.iv,c.e,c.bv,c.ov,c.fu,c.mo,c.dn,20,a⟩
@[reducible] def MC.over (c:MC) (e:Int):MC:=⟨c.hp,c.fn,c.lv,c.iv,e,c.bv,c.ov,c.fu,c.mo,true,c.c,c.a⟩
theorem OkS.form {X:Stp}{u:Value}(hG:OkS p c N h out fu X cx L u w):∃M,St cx w (M++L)∧∀w' L2,St cx w' (M++L2)→OkS p c N h out fu X cx L2 u w':=by
 rcases hG with ⟨lv,iv,ov,fr',g',N',h',inp',out',h1,h2,h3,h4,hS⟩|⟨ns,bv,fr',g',h1,h2,hS⟩
 · exact ⟨mS p (c.upd lv iv ov) fr' g' N' h' out' [],hS,fun w' L2 hS=> .inl ⟨lv,iv,ov,fr',g',N',h',inp',out',h1,h2,h3,h4,hS⟩⟩
 · exact ⟨_::_::_::_::_::_::_::_::[],hS,fun w' L2 hS=> .inr ⟨ns,bv,fr',g',h1,h2,hS⟩⟩
theorem St.app {M:List Res}(hS:St cx w (M++L)):St cx w (L++M):=hS.perm List.perm_append_comm
def StepS (m:Module) (p:Nat) (c:MC) (fr:List FrmV) (g:FrmV) (N:Nat) (h:HpS) (inp out:List Int) (fu:Nat) (cx:Cx) (L:List Res) (u:Value) (w':World):Prop:=
 (c.fu=c.mo∧u=fltV (0,0)∧St cx w' (mS p (c.over 7) fr g N h out L))∨(c.fu≠c.mo∧((u=fltV (0,0)∧OkS p c.tick N h out fu ((msOf h g fr inp out fu).one m) cx L (.tuple #[]) w')∨
   (∃e,(msOf h g fr inp out fu).one m= .halt e∧u=fltV (0,0)∧∃fr' g' N',N'≤N+1∧St cx w' (mS p (c.tick.over e) fr' g' N' h out L))∨
   ((msOf h g fr inp out fu).one m= .lost∧u=fltV (20,(msOf h g fr inp out fu).place m)∧St cx w' (blk p 55 (c.tick.stk ((msOf h g fr inp out fu).place m)).cells::L))))
attribute [local irreducible] MS.ins MS.fin MS.one MS.place GoS DoneS OkS
end Go.Proofs.YteflkifmgnpbhaaGreat
namespace Go.Proofs.YteflkifmgnpbhaaGreat
open Go.Lir
set_option maxHeartbeats 1000000
attribute [local irreducible] LC.wp Q0 Qh Qc retQ Qw LO.wp Q3 Calls
set_option linter.unusedSimpArgs false
set_option linter.unusedVariables false
variable {cx:Cx}{w:World}{L:List Res}{p:Nat}{c:RC}{fr:List RFV}{g:RFV}{s:EstS}{out inp:List Int}{fu:Nat}{m:Module}
def RDone (p:Nat) (c:RC) (s:EstS) (out:List Int) (X:RStp) (cx:Cx) (L:List Res) (u:Value) (w':World):Prop:=
 ∃ns bv fr' g',X= .done ns∧u= .tuple #[]∧St cx w' (rS p (c.did bv) fr' g' s out (sl 2 1 bv (ns.map Qj)::L))
def ROk (p:Nat) (c:RC) (s:EstS) (out:List Int) (fu:Nat) (X:RStp) (cx:Cx) (L:List Res) (u:Value) (w':World):Prop:=RGo p c fu X cx L u w'∨RDone p c s out X cx L u w'
theorem RGo.drop {X:RStp}{u:Value}{r:Res}(hG:RGo p c fu X cx (r::L) u w):RGo p c fu X cx L u w:=by
 obtain ⟨lv,i1,ov,fr',g',s',inp',out',h1,h2,h3,hS⟩:=hG
 exact ⟨lv,i1,ov,fr',g',s',inp',out',h1,h2,h3,hS.sp⟩
theorem RGo.ok {X:RStp}{u:Value}(hG:RGo p c fu X cx L u w):ROk p c s out fu X cx L u w:= .inl hG
theorem RBad.get {X:RStp}{u:Value}(hB:RBad p c s out X cx L u w):∃e,X= .halt e∧u=Q8A e∧∃fr' g',St cx w (rS p c fr' g' s out L):=hB
theorem RDone.drop {X:RStp}{u:Value}{r:Res}(hG:RDone p c s out X cx (r::L) u w):RDone p c s out X cx L u w:=by
 obtain ⟨ns,bv,fr',g',h1,h2,hS⟩:=hG
 exact ⟨ns,bv,fr',g',h1,h2,hS.sp⟩
theorem ROk.drop {X:RStp}{u:Value}{r:Res}(hG:ROk p c s out fu X cx (r::L) u w):ROk p c s out fu X cx L u w:=hG.elim (fun h=> .inl h.drop) (fun h=> .inr h.drop)
theorem ROk.tup {X:RStp}{u:Value}(hG:ROk p c s out fu X cx L u w):u= .tuple #[]∧ROk p c s out fu X cx L u w:=by
 refine ⟨?_,hG⟩
 rcases hG with ⟨_,_,_,_,_,_,_,_,_,_,h,_⟩|⟨_,_,_,_,_,h,_⟩
 · exact h
 · exact h
theorem ROk.form {X:RStp}{u:Value}(hG:ROk p c s out fu X cx L u w):∃M,St cx w (M++L)∧∀w' L2,St cx w' (M++L2)→ROk p c s out fu X cx L2 u w':=by
 rcases hG with ⟨lv,i1,ov,fr',g',s',inp',out',h1,h2,h3,hS⟩|⟨ns,bv,fr',g',h1,h2,hS⟩
 · exact ⟨rS p (c.upd lv i1 ov) fr' g' s' out' [],hS,fun w' L2 hS=> .inl ⟨lv,i1,ov,fr',g',s',inp',out',h1,h2,h3,hS⟩⟩
 · exact ⟨_::_::_::_::_::_::_::[],hS,fun w' L2 hS=> .inr ⟨ns,bv,fr',g',h1,h2,hS⟩⟩
attribute [local irreducible] RFrm.val RFrm.args EstS.get EstS.getV EstS.code EstS.word EstS.store EstS.stores RS.ins
theorem fin_3 {r:RS}{e:Tail}(h3:e.op=3):r.fin e=Q1x (r.g.args e.args) fun vs=> match r.st with
 | c::st=> .go ((⟨r.e,c,st,r.inp,r.out,r.fuel⟩:RS).put vs)
 | []=> .done vs:=if_pos h3
theorem fin_2 {r:RS}{e:Tail}(h2:e.op=2):r.fin e=Q1x (r.g.val e.a) fun n=> if n=0 then r.to e.no else r.to e.yes:=(if_neg (by omega)).trans (if_pos h2)
theorem fin_1 {r:RS}{e:Tail}(h3:e.op≠3) (h2:e.op≠2):r.fin e=r.to e.yes:=(if_neg h3).trans (if_neg h2)
theorem rto_s {r:RS}{t:To}{vs:List Int}(h:r.g.args t.args=some vs):r.to t= .go (r.fr ⟨r.g.f,t.block.toNat,0,vs⟩):=Q1v h
theorem Qff {r:RS}{t:To}(h:r.to t≠ .crash):∃vs,r.g.args t.args=some vs:=by obtain ⟨vs,hv,_⟩:=Q12 (o:=r.g.args t.args) h;exact ⟨vs,hv⟩
theorem rwend_c {e:Tail}{cs:List Value}(hx:endR.at cx cs e) (hi:intR.sl cx c.iv inp) (h8:e.args.length≤100) (hy:e.op≠3→0≤e.yes.block∧e.yes.args.length≤100) (hno:e.op=2→0≤e.no.block∧e.no.args.length≤100) (hf:fr.length≤900) (hfr:∀x∈fr,x.vals.length≤900000) (hX0:(rsOf s g fr inp out fu).fin e≠ .crash) (hS:St cx w (rS p c fr g s out L)):
 Rets Tryz.prog Q1K [.pointer (some ⟨p,0,none⟩), .agg ⟨cs⟩] w (ROk p c s out fu ((rsOf s g fr inp out fu).fin e) cx L):=by
 by_cases h3:e.op=3
 · rw [fin_3 h3] at hX0 ⊢
   obtain ⟨vs,hv,eX⟩:=Q12 hX0
   rw [eX]
   rcases List.eq_nil_or_concat fr with rfl|⟨fr0,k,hk⟩
   · refine (rend_d (s:=s) (out:=out) hx h3 h8 hv hS).mono ?_
     rintro u w' ⟨bv,rfl,ho,hS⟩
     exact .inr ⟨vs,bv,[],g,rfl,rfl,hS⟩
   · obtain rfl:fr=fr0++[k]:=by simpa using hk
     rw [List.length_append] at hf
     refine (rend_k (s:=s) (out:=out) hx h3 h8 hv (by omega) (hfr k (by simp)) hS).mono ?_
     rintro u w' ⟨lv,tv,rfl,hS⟩
     refine .inl ⟨lv,c.iv,c.ov,fr0,k.push tv vs,s,inp,out,?_,hi,rfl,hS⟩
     rw [Qaw];rfl
 · obtain ⟨y1,y2⟩:=hy h3
   by_cases h2:e.op=2
   · rw [fin_2 h2] at hX0 ⊢
     obtain ⟨n,hn,eX⟩:=Q12 hX0
     rw [eX] at hX0 ⊢
     by_cases h0:n=0
     · obtain ⟨n1,n2⟩:=hno h2
       rw [if_pos h0] at hX0 ⊢
       obtain ⟨vs,hv⟩:=Qff hX0
       subst h0
       refine (rend_n (s:=s) (out:=out) hx h2 hn n2 n1 hv (by omega) hS).mono ?_
       rintro u w' ⟨vv,rfl,hS⟩
       exact .inl ⟨c.lv,c.iv,c.ov,fr,⟨g.f,e.no.block.toNat,0,vv,vs⟩,s,inp,out,rto_s hv,hi,rfl,hS⟩
     · rw [if_neg h0] at hX0 ⊢
       obtain ⟨vs,hv⟩:=Qff hX0
       refine (rend_y (s:=s) (out:=out) hx h2 h0 hn y2 y1 hv (by omega) hS).mono ?_
       rintro u w' ⟨vv,rfl,hS⟩
       exact .inl ⟨c.lv,c.iv,c.ov,fr,⟨g.f,e.yes.block.toNat,0,vv,vs⟩,s,inp,out,rto_s hv,hi,rfl,hS⟩
   · rw [fin_1 h3 h2] at hX0 ⊢
     obtain ⟨vs,hv⟩:=Qff hX0
     refine (rend_j (s:=s) (out:=out) hx h2 h3 y2 y1 hv (by omega) hS).mono ?_
     rintro u w' ⟨vv,rfl,hS⟩
     exact .inl ⟨c.lv,c.iv,c.ov,fr,⟨g.f,e.yes.block.toNat,0,vv,vs⟩,s,inp,out,rto_s hv,hi,rfl,hS⟩
@[reducible] def RC.over (c:RC) (e:Int):RC:=⟨c.ep,c.fn,c.lv,c.iv,e,c.bv,c.ov,c.fu,c.mo,true⟩
@[reducible] def RC.tick (c:RC):RC:=⟨c.ep,c.fn,c.lv,c.iv,c.e,c.bv,c.ov,c.fu+1,c.mo,c.dn⟩
@[reducible] def capM (p1:Nat):List Value:=[.pointer (some ⟨p1,0,none⟩)]
@[reducible] def catM (p p1:Nat):Res:=blk p1 59 [.pointer (some ⟨p,0,none⟩)]
theorem rstep1_n {p1:Nat}(hS:St cx w (catM p p1::L)):Defs Tryz.prog Q3m (capM p1) .returning w fun u' w'=> u'= .returning∧St cx w' (catM p p1::L):=by
 unfold Defs
 all_goals refine lgr tyD Tryz.func80 ?_
 all_goals (refine r_seq ?_;refine r_sp ?_;refine zn ?_;refine Zad ?_;refine r_pl ?_;refine Zab ?_;refine QcJ (ms:=#[]) (by kernel_rfl) rfl ?_;refine zn ?_)
 all_goals refine zcf ?_
 all_goals (refine zsk ?_;refine QcW ?_;refine Q19 ?_;exact ⟨⟨_,rfl⟩,rfl,hS.sp⟩)
theorem QcN {p1:Nat}{e:Int}(hS:St cx w (catM p p1::blk p 66 c.cells::L)):Defs Tryz.prog Q3m (capM p1) (.panicking [{v:=Q8A e,recovered:=false}]) w fun u' w'=> u'= .panicking [{v:=Q8A e,recovered:=true}]∧St cx w' (catM p p1::blk p 66 (c.over e).cells::L):=by
 unfold Defs
 all_goals refine lgr tyD Tryz.func80 ?_
 all_goals (refine r_seq ?_;refine r_sp ?_;refine zn ?_;refine Zad ?_;refine r_pl ?_;refine Zab ?_;refine QcI (ms:=#[]) (by kernel_rfl) rfl ?_;refine zn ?_)
 all_goals refine zct ?_
 all_goals (refine Zab ?_;refine QcL (D:= .int .i64) (by kernel_rfl) (by intro m;exact TypeDesc.noConfusion) rfl ?_;refine ZbF ?_)
 all_goals refine zcf ?_
 all_goals (refine zsk ?_;refine Q1d ?_;refine zl hS ?_;refine zl hS ?_;refine Zbm ?_;refine zf0 ?_;refine zst hS ?_;intro w1 hS;have hS:=hS.ns;refine znc ?_;refine zf0 ?_;refine Yac ?_;refine zst hS ?_;intro w1 hS;have hS:=hS.ns;refine zn ?_;refine QcW ?_;refine Q19 ?_;exact ⟨⟨_,rfl⟩,rfl,hS.sp⟩)
end Go.Proofs.YteflkifmgnpbhaaGreat
namespace Go.Proofs.YteflkifmgnpbhaaGreat
open Go.Lir
set_option maxHeartbeats 1000000
attribute [local irreducible] LC.wp Q0 Qh Qc retQ Qw LO.wp Q3 Calls
set_option linter.unusedSimpArgs false
set_option linter.unusedVariables false
variable {cx:Cx}{w:World}{L:List Res}{p:Nat}{c:RC}{fr:List RFV}{g:RFV}{s:EstS}{out inp:List Int}{fu:Nat}{m:Module}
def QgN (m:Module) (p:Nat) (c:RC) (fr:List RFV) (g:RFV) (s:EstS) (inp out:List Int) (fu:Nat) (cx:Cx) (L:List Res) (u:Value) (w':World):Prop:=
 u = .tuple #[]∧((c.fu=c.mo∧St cx w' (rS p (c.over 7) fr g s out L))∨(c.fu≠c.mo∧(ROk p c.tick s out fu ((rsOf s g fr inp out fu).one m) cx L (.tuple #[]) w'∨
   ∃e,(rsOf s g fr inp out fu).one m= .halt e∧∃fr' g',St cx w' (rS p (c.tick.over e) fr' g' s out L))))
theorem rone_i {f:Fun}{b:Block}{x:Ins}(hf:m.funcs[g.f]?=some f) (hb:f.blocks[g.b]?=some b) (hx:b.code[g.i]?=some x):(rsOf s g fr inp out fu).one m=(rsOf s g.nx fr inp out fu).ins m x:=by
 unfold RS.one
 rw [show m.funcs[(rsOf s g fr inp out fu).g.f]?=some f from hf];simp only
 rw [show f.blocks[(rsOf s g fr inp out fu).g.b]?=some b from hb];simp only
 rw [show b.code[(rsOf s g fr inp out fu).g.i]?=some x from hx];rfl
theorem rone_e {f:Fun}{b:Block}(hf:m.funcs[g.f]?=some f) (hb:f.blocks[g.b]?=some b) (hx:b.code.length≤g.i):(rsOf s g fr inp out fu).one m=(rsOf s g fr inp out fu).fin b.fin:=by
 unfold RS.one
 rw [show m.funcs[(rsOf s g fr inp out fu).g.f]?=some f from hf];simp only
 rw [show f.blocks[(rsOf s g fr inp out fu).g.b]?=some b from hb];simp only
 rw [show b.code[(rsOf s g fr inp out fu).g.i]?=none from List.getElem?_eq_none hx]
attribute [local irreducible] RS.ins RS.fin RS.one RGo RBad ROk RDone
theorem rwstep_c {f:Fun}{b:Block}(hdn:c.dn=false) (hfn:funcR.sl cx c.fn m.funcs) (hi:intR.sl cx c.iv inp) (hfx:m.funcs[g.f]?=some f) (hbx:f.blocks[g.b]?=some b) (hci:∀x∈b.code,Qec m x) (hce:Qed f b.fin) (hgi:g.i≤1000) (hf:fr.length≤900) (hn:g.vals.length≤800000) (hfr:∀x∈fr,x.vals.length≤900000) (hol:out.length≤2000) (hfu:0≤c.fu∧c.fu≤10000000) (hX0:(rsOf s g fr inp out fu).one m≠ .crash) (hS:St cx w (rS p c fr g s out L)):
 Rets Tryz.prog Q2M [.pointer (some ⟨p,0,none⟩)] w (QgN m p c fr g s inp out fu cx L):=by
 have hgf:=(List.getElem?_eq_some_iff.1 hfx).1
 have hgb:=(List.getElem?_eq_some_iff.1 hbx).1
 unfold QgN
 all_goals refine lgd tyD Tryz.func37 ?_
 all_goals (refine Qcj ?_;refine d_pl ?_;refine Q1d ?_;refine zb hS ?_;intro p1 w1 hS;refine zn ?_;refine Qcj ?_;refine d_pl ?_;refine Zaa ?_;refine zl hS ?_;refine znc ?_;refine zf0 ?_;refine zl hS ?_;rw [hdn];refine zn ?_)
 all_goals refine zcf ?_
 all_goals (refine zsk ?_;refine Qcj ?_;refine d_sp ?_;refine QcG ?_;refine zn ?_;refine ⟨_,_,rfl,?_⟩;refine zn ?_;refine d_pl ?_;refine Qv ?_;refine zD (ci 11 [10]) ?_;have hS:=hS.drew;refine zl hS ?_;refine znc ?_;refine zf0 ?_;refine Yac ?_;refine zl hS ?_;refine zl hS ?_;refine znc ?_;refine zf0 ?_;refine zl hS ?_)
 all_goals (first|(refine Qi ?_)|(refine Qm ?_)|(refine Q5 rfl rfl (fun hc=> ?_) (fun hc=> ?_)))
 all_goals (first|(refine zR2 (c:=Q3X hS) (h:=?_);rintro v1 w1 ⟨rfl,hS⟩)|(refine zE2 (c:=Q3W hS) (p:=by rintro v9 w9 ⟨rfl,hS⟩;(repeat (first|refine Qe ?_|refine Qf ?_|refine fun _=> ?_));refine Qfv ?_;refine Q4r (by intro h;cases h) (by kernel_rfl) (QcN (c:=c) (show St cx _ (catM p p1::blk p 66 c.cells::_) from hS.sp)) ?_;rintro u' w' ⟨rfl,hS⟩;refine Q2W ?_;refine QaD ?_;exact ⟨_,rfl,rfl, .inl ⟨by omega,hS.sp⟩⟩) (h:=fun _ _ h=> h.elim)))
 all_goals (refine ZaF ?_;have hmo:c.fu≠c.mo:=(by omega);refine Q1d ?_;refine zl hS ?_;refine znc ?_;refine zf0 ?_;refine Yac ?_;refine zl hS ?_;refine zad ?_;refine znc ?_;refine zf0 ?_;refine Yac ?_;refine zst hS ?_;intro w1 hS;have hS:=hS.ns;refine ZaE ?_;refine zl hS ?_;have hS:St cx _ (rS p c.tick fr g s out (catM p p1::L)):=hS.sp;refine zR1 (c:=Q54 (by omega) hS) (h:=?_);rintro v1 w1 ⟨b9,o9,rfl,hel,hS⟩;refine Zaz ?_;refine zC [(0,none),(1,none),(2,none),(3,none),(4,none),(5,none),(6,none),(7,none),(8,none),(9,none),(10,none),(11,none),(12,none),(13,none),(14,none),(15,none),(16,none),(17,none),(18,some (some [0,4,8,11,15,17])),(19,some none)] ?_;have hS:=hS.drew;refine s_cq ?_;refine zl hS ?_)
 all_goals (refine Zac ?_;refine Zaw ?_;refine zf0 ?_;refine Zbj ?_;refine zl hS ?_;refine Zax ?_;refine ZbI ?_;refine Qs hS hel rfl fd (Q6 fr g) (Q9 fr g) rfl ?_;refine Zac ?_;refine zi ?_;intro b8 o8 cs8 x8 hat8 hx8 he8;obtain rfl:x8=f:=Option.some.inj (hx8.symm.trans hfx);obtain ⟨vp8,vr8,vb8,rfl,hp8,hr8,hb8⟩:=QM he8;refine Zbj ?_;refine Yaw ?_;refine Zax ?_;refine ZbI ?_;refine Q1 (j:=1) hS hel rfl fd (Q6 fr g) (Q9 fr g) rfl ?_;refine Zac ?_;refine zi ?_;intro b7 o7 cs7 x7 hat7 hx7 he7;obtain rfl:x7=b:=Option.some.inj (hx7.symm.trans hbx);obtain ⟨vp7,vc7,u1,u2,u3,u4,u5,rfl,hp7,hc7,hu1,hu2,hu3,hu4,hu5⟩:=Q23 he7)
 all_goals (refine Zac ?_;refine Yai ?_;refine ZaY ?_;intro p3 w1 hS;refine zt ?_;refine ⟨List.forall_mem_cons.2 ⟨(by first|(first|exact Qp hS hel rfl fd (Q6 fr g) (Q9 fr g) rfl|exact Qp (j:=0) hS hel rfl fd (Q6 fr g) (Q9 fr g) rfl|exact Qp (j:=1) hS hel rfl fd (Q6 fr g) (Q9 fr g) rfl|exact Qp (j:=2) hS hel rfl fd (Q6 fr g) (Q9 fr g) rfl)|(exact QK hS rfl fd rfl)),List.forall_mem_cons.2 ⟨(by first|(first|exact Qp hS hel rfl fd (Q6 fr g) (Q9 fr g) rfl|exact Qp (j:=0) hS hel rfl fd (Q6 fr g) (Q9 fr g) rfl|exact Qp (j:=1) hS hel rfl fd (Q6 fr g) (Q9 fr g) rfl|exact Qp (j:=2) hS hel rfl fd (Q6 fr g) (Q9 fr g) rfl)|(exact QK hS rfl fd rfl)),List.forall_mem_cons.2 ⟨(by (exact Qp hS hel rfl fd (Q6 fr g) (Q9 fr g) rfl)),List.forall_mem_cons.2 ⟨(by first|(first|exact Qp hS hel rfl fd (Q6 fr g) (Q9 fr g) rfl|exact Qp (j:=0) hS hel rfl fd (Q6 fr g) (Q9 fr g) rfl|exact Qp (j:=1) hS hel rfl fd (Q6 fr g) (Q9 fr g) rfl|exact Qp (j:=2) hS hel rfl fd (Q6 fr g) (Q9 fr g) rfl)|(exact QK hS rfl fd rfl)|(exact Q4A hS (by assumption) rfl rfl)|(exact Q4O hS (by assumption) rfl rfl)),List.forall_mem_cons.2 ⟨(by (exact Qp hS hel rfl fd (Q6 fr g) (Q9 fr g) rfl)),List.forall_mem_cons.2 ⟨(by first|(first|exact Qp hS hel rfl fd (Q6 fr g) (Q9 fr g) rfl|exact Qp (j:=0) hS hel rfl fd (Q6 fr g) (Q9 fr g) rfl|exact Qp (j:=1) hS hel rfl fd (Q6 fr g) (Q9 fr g) rfl|exact Qp (j:=2) hS hel rfl fd (Q6 fr g) (Q9 fr g) rfl)|(exact Q1Y hS rfl fd rfl rfl)|(exact Q2B hS (by assumption) rfl rfl rfl)),fun _ h=> (List.not_mem_nil h).elim⟩⟩⟩⟩⟩⟩,?_⟩)
 all_goals (refine s_cf ?_;refine zsn hS ?_;intro w1 hS;have hS:=hS.ns;refine Zav ?_;refine Qv ?_;refine zD (ci 8 [7]) ?_;have hS:=hS.drew;refine Zbd ?_;refine Q1 (j:=2) hS hel rfl fd (Q6 fr g) (Q9 fr g) rfl ?_;refine zf0 ?_;refine zl hS ?_;refine zL ?_)
 all_goals (first|(refine Q1k ?_)|(refine Q1w ?_)|(refine QA rfl rfl (fun hc=> ?_) (fun hc=> ?_)))
 all_goals (refine zn ?_)
 all_goals
  first
  | (refine zct ?_
     all_goals (refine zD (ci 10 [9]) ?_;have hS:=hS.drew;refine zl hS ?_;refine zf0 ?_;refine zl hS ?_;refine Zbd ?_;refine Q1 (j:=2) hS hel rfl fd (Q6 fr g) (Q9 fr g) rfl ?_;refine zi ?_;intro b6 o6 cs6 x6 hat6 hx6 he6;obtain ⟨vr6,va6,rfl,hr6,ha6⟩:=Q1a he6;have hX:=rone_i (s:=s) (fr:=fr) (inp:=inp) (out:=out) (fu:=fu) hfx hbx hx6;rw [hX] at hX0 ⊢;obtain ⟨q1,q2,q3,q4⟩:=hci _ (List.mem_of_getElem? hx6);refine Yai ?_)
     all_goals (refine zE2 (c:=rwins_c (c:=c.tick) (fu:=fu) (inp:=inp) he6 hi q1 (fun h=> (q2 h).1) q4 hgi hf hn hol hX0 (show St cx _ (rS p c.tick fr g s out _) from hS.sp)) (p:=by rintro v9 w9 hB;obtain ⟨e9,hh,rfl,fr',g',hS⟩:=RBad.get hB;(repeat (first|refine Qe ?_|refine Qf ?_|refine fun _=> ?_));refine Qfv ?_;refine Q4r (by intro h;cases h) (by kernel_rfl) (QcN (c:=c.tick) (show St cx _ (catM p p1::blk p 66 c.tick.cells::_) from hS.sp)) ?_;rintro u' w' ⟨rfl,hS⟩;refine Q2W ?_;refine QaD ?_;exact ⟨_,rfl,rfl, .inr ⟨hmo, .inr ⟨e9,hh,fr',g',hS.sp⟩⟩⟩) (h:=?_);rintro u7 w7 hG)
     all_goals (refine zn ?_)
     all_goals (have hG:ROk p c.tick s out fu ((rsOf s g.nx fr inp out fu).ins m x6) cx (catM p p1::L) u7 w7:=(RGo.ok hG).drop;obtain ⟨rfl,hG⟩:=hG.tup;obtain ⟨M,hS,hK⟩:=hG.form;have hS:St cx _ (catM p p1::(L++M)):=St.app hS))
  | (refine zcf ?_
     all_goals (have hX:=rone_e (s:=s) (fr:=fr) (inp:=inp) (out:=out) (fu:=fu) hfx hbx (by show x7.code.length≤g.i;omega);rw [hX] at hX0 ⊢;obtain ⟨q1,q2,q3,q4⟩:=hce;refine Q1d ?_;refine zl hS ?_;refine zf0 ?_;refine zv hS ?_)
     all_goals (refine zR2 (c:=rwend_c (c:=c.tick) (fu:=fu) (inp:=inp) (e:=x7.fin) ⟨_,_,_,_,_,rfl,hu1,hu2,hu3,hu4,hu5⟩ hi q1 (fun h=> ⟨(q3 h).1.1,(q3 h).2.2⟩) (fun h=> ⟨(q4 h).1.1,(q4 h).2.2⟩) hf hfr hX0 (show St cx _ (rS p c.tick fr g s out _) from hS.sp)) (h:=?_);rintro u7 w7 hG)
     all_goals (refine zn ?_)
     all_goals (have hG:ROk p c.tick s out fu ((rsOf s g fr inp out fu).fin x7.fin) cx (catM p p1::L) u7 w7:=hG.drop;obtain ⟨rfl,hG⟩:=hG.tup;obtain ⟨M,hS,hK⟩:=hG.form;have hS:St cx _ (catM p p1::(L++M)):=St.app hS))
 all_goals (refine q_endD ?_;refine Q4r (by intro h;cases h) (by kernel_rfl) (rstep1_n hS) ?_;rintro u1 w1 ⟨rfl,hS⟩;refine Q2W ?_;refine QaD ?_;exact ⟨_,rfl,rfl, .inr ⟨hmo, .inl (hK _ _ (St.app (L:=M) (M:=L) (show St cx _ (L++M) from hS.drop)))⟩⟩)
theorem QbJ (hdn:c.dn=true) (hS:St cx w (blk p 66 c.cells::L)):Rets Tryz.prog Q2M [.pointer (some ⟨p,0,none⟩)] w fun u w'=> u= .tuple #[]∧St cx w' (blk p 66 c.cells::L):=by
 all_goals refine lgd tyD Tryz.func37 ?_
 all_goals (refine Qcj ?_;refine d_pl ?_;refine Q1d ?_;refine zb hS ?_;intro p1 w1 hS;refine zn ?_;refine Qcj ?_;refine d_pl ?_;refine Zaa ?_;refine zl hS ?_;refine znc ?_;refine zf0 ?_;refine zl hS ?_;rw [hdn];refine zn ?_)
 all_goals refine zct ?_
 all_goals (refine zr ?_;refine q_retD ?_;refine Q2W ?_;refine QaD ?_;exact ⟨_,rfl,rfl,hS.sp⟩)
end Go.Proofs.YteflkifmgnpbhaaGreat
namespace Go.Proofs.YteflkifmgnpbhaaGreat
open Go.Lir
def Reg.lim (r:Reg) (q:Int):Int:=if q=r.last then r.used else 16
theorem Qet (s:PoolS) (k i:Int):(s.give k).word i=s.word i:=by
 unfold PoolS.give;split <;> rfl
theorem Q8R {i:Int}{l:List Int}:∀{s:PoolS},(s.gives l).word i=s.word i:=by
 induction l with
 | nil=> intro s;rfl
 | cons k l ih=> intro s;exact (ih (s:=s.give k)).trans (Qet s k i)
theorem isIn_iff {s:PoolS}{i:Int}:s.isIn i=true↔0≤i∧i < ((s.n*16:Nat):Int):=decide_eq_true_iff
theorem Q62 {s:PoolS}(ok:s.Ok){a x:Int}(ha:s.isIn a=true) (i:Int):(s.store a x).word i=if i=a then x else s.word i:=by
 have ha':=isIn_iff.1 ha
 have hl:=ok.len
 unfold PoolS.store
 rw [if_pos ha]
 unfold PoolS.word
 by_cases hi:s.isIn i=true
 · have hi':=isIn_iff.1 hi
   have e:(⟨s.n,s.ws.set a.toNat x,s.fr⟩:PoolS).isIn i=true:=hi
   rw [if_pos e,if_pos hi,Q5N (by omega)]
   by_cases h:i=a
   · subst h;rw [if_pos rfl,if_pos rfl]
   · rw [if_neg (by omega),if_neg h]
 · have e:¬(⟨s.n,s.ws.set a.toNat x,s.fr⟩:PoolS).isIn i=true:=hi
   rw [if_neg e,if_neg hi,if_neg (fun h:i=a=> hi (by rw [h];exact ha))]
theorem Qaf {s:PoolS}(ok:s.Ok){k:Nat}{fr:List Int}(h3:s.take=⟨s.n,Q2u s.ws k,fr⟩) (hk:k < s.n) (i:Int):s.take.word i=if (k:Int)*16≤i∧i < (k:Int)*16+16 then 0 else s.word i:=by
 have hl:=ok.len
 rw [h3]
 unfold PoolS.word
 by_cases hi:s.isIn i=true
 · have hi':=isIn_iff.1 hi
   have e:(⟨s.n,Q2u s.ws k,fr⟩:PoolS).isIn i=true:=hi
   rw [if_pos e,if_pos hi,←Qgz hl hk,Q8q _ _ _ _ (by omega)]
   by_cases h:(k:Int)*16≤i∧i < (k:Int)*16+16
   · rw [if_pos (by omega),if_pos h]
   · rw [if_neg (by omega),if_neg h]
 · have e:¬(⟨s.n,Q2u s.ws k,fr⟩:PoolS).isIn i=true:=hi
   rw [if_neg e,if_neg hi];split <;> rfl
theorem Q4T {s:EstS}(ok:s.Ok){p:PoolS}{m k:Nat}(hm:m < 16){r:Reg}:(⟨p,s.rs.set m r⟩:EstS).reg k=if k=m then r else s.reg k:=by
 have:=ok.len
 unfold EstS.reg
 rw [if_pos (by omega),Int.toNat_natCast,Q5N (by omega)]
 by_cases h:m=k
 · rw [if_pos h,if_pos h.symm]
 · rw [if_neg h,if_neg (Ne.symm h),if_pos (by omega)]
theorem Q9h {s:EstS}(ok:s.Ok){k m:Nat}(hk:k < 16) (hm:m < 16){q:Int}(h1:q∈(s.reg k).pages) (h2:q∈(s.reg m).pages):k=m:=by
 by_cases h:k=m
 · exact h
 exfalso
 have hnd:=(EstS.tk_at ok hm).1
 have:=(List.nodup_append.1 hnd).2.2 q h2 q (List.mem_flatMap.2 ⟨s.reg k,List.mem_eraseIdx_iff_getElem?.2 ⟨k,h,EstS.reg_at ok hk⟩,h1⟩)
 exact this rfl
theorem Q9G {r:Reg}(h:r.pages≠[]):r.last∈r.pages:=by
 unfold Reg.last
 rcases List.eq_nil_or_concat r.pages with e|⟨l,x,e⟩
 · exact absurd e h
 · rw [e];simp
theorem QbS {s:EstS}(ok:s.Ok){k:Nat}(hk:k < 16){q:Int}(h:q∈(s.reg k).pages):0≤q∧q < s.p.n∧q∉s.p.fr:=can_iff.1 (((EstS.tk_at ok hk).2 q).1 (List.mem_append_left _ h))
theorem Qd4 {s:EstS}(ok:s.Ok){k:Nat}(hk:k < 16){q:Int}:(s.reg k).lim q≤16:=by
 unfold Reg.lim;split
 · exact (EstS.used_rng ok hk).2
 · exact Int.le_refl _
structure GetF (s:EstS) (m:Nat) (x:Int) (P u:Int):Prop where
 x1:1≤x
 ux:0≤u∧u+x≤16
 v:s.getV m x=P*16+u
 rs:(s.get m x).rs=s.rs.set m ⟨(s.reg m).there,((s.get m x).reg m).pages,u+x⟩
 last:((s.get m x).reg m).last=P
 mem:P∈((s.get m x).reg m).pages
 sub:∀q∈(s.reg m).pages,q∈((s.get m x).reg m).pages
 n:(s.get m x).p.n=s.p.n
 old:P∈(s.reg m).pages→P=(s.reg m).last∧u=(s.reg m).used
 new:P∉(s.reg m).pages→∀k:Nat,k < 16→P∉(s.reg k).pages
 w:∀i,¬(P*16≤i∧i < P*16+16)→(s.get m x).p.word i=s.p.word i
 wz:P∉(s.reg m).pages→∀i,P*16≤i∧i < P*16+16→(s.get m x).p.word i=0
 wo:P∈(s.reg m).pages→(s.get m x).p=s.p
theorem getF {s:EstS}(ok:s.Ok){m:Nat}(hm:m < 16){x:Int}(hc:s.code m x=0):∃P u,GetF s m x P u:=by
 obtain ⟨h1,h2,h3,h4⟩:=EstS.code_0 hc
 have hu:=EstS.used_rng ok hm
 have hrs:(s.get m x).rs=s.rs.set m ((s.regTo m x).use x):=by unfold EstS.get;rw [if_pos hc,Int.toNat_natCast]
 have hp:(s.get m x).p=if (s.reg m).more x then s.p.take else s.p:=by unfold EstS.get;rw [if_pos hc]
 have hv:s.getV m x=(s.regTo m x).last*16+(s.regTo m x).used:=by unfold EstS.getV;rw [if_pos hc]
 have hreg:(s.get m x).reg m=(s.regTo m x).use x:=by
  have e:s.get m x=⟨(s.get m x).p,s.rs.set m ((s.regTo m x).use x)⟩:=by rw [←hrs]
  rw [e,Q4T ok hm,if_pos rfl]
 by_cases hmo:(s.reg m).more x=true
 · rw [if_pos hmo] at hp
   have hto:s.regTo m x=(s.reg m).grow s.p.top:=by unfold EstS.regTo;rw [if_pos hmo]
   rcases PoolS.split ok.pok with ⟨e,_⟩|⟨kk,fr,e1,e2,e3⟩
   · exact absurd ⟨hmo,e⟩ h4
   · have hfree:∀k:Nat,k < 16→s.p.top∉(s.reg k).pages:=fun k hk hmem=> by
      have:=(QbS ok hk hmem).2.2
      exact this (by rw [e2,e1];simp)
     have hnk:kk < s.p.n:=by have:=ok.pok.rng kk (by rw [e1];simp);omega
     refine ⟨s.p.top,0,h2,by omega,by rw [hv,hto];simp [Reg.grow,Reg.last],?_,?_,?_,?_,?_,fun h=> absurd h (hfree m hm),fun _=> hfree,fun i hi=> ?_,fun _ i hi=> ?_,fun h=> absurd h (hfree m hm)⟩
     · rw [hrs,hreg,hto];simp [Reg.use,Reg.grow]
     · rw [hreg,hto];simp [Reg.use,Reg.grow,Reg.last]
     · rw [hreg,hto];simp [Reg.use,Reg.grow]
     · intro q hq;rw [hreg,hto];simp [Reg.use,Reg.grow,hq]
     · rw [hp];exact PoolS.n_take
     · rw [hp,Qaf ok.pok e3 hnk,if_neg (by rw [e2] at hi;exact hi)]
     · rw [hp,Qaf ok.pok e3 hnk,if_pos (by rw [e2] at hi;exact hi)]
 · rw [if_neg hmo] at hp
   have hto:s.regTo m x=s.reg m:=by unfold EstS.regTo;rw [if_neg hmo]
   obtain ⟨h5,h6⟩:=Reg.more_f hmo
   have hl:=Q9G h5
   refine ⟨(s.reg m).last,(s.reg m).used,h2,by omega,by rw [hv,hto],?_,?_,?_,?_,by rw [hp],fun _=> ⟨rfl,rfl⟩,fun h=> absurd hl h,fun i _=> by rw [hp],fun h=> absurd hl h,fun _=> hp⟩
   · rw [hrs,hreg,hto];rfl
   · rw [hreg,hto];rfl
   · rw [hreg,hto];exact hl
   · intro q hq;rw [hreg,hto];exact hq
theorem GetF.reg {s:EstS}(ok:s.Ok){m k:Nat}(hm:m < 16){x P u:Int}(h:GetF s m x P u):(s.get m x).reg k=if k=m then ⟨(s.reg m).there,((s.get m x).reg m).pages,u+x⟩ else s.reg k:=by
 have e:s.get m x=⟨(s.get m x).p,s.rs.set m ⟨(s.reg m).there,((s.get m x).reg m).pages,u+x⟩⟩:=by rw [←h.rs]
 have:=Q4T ok hm (p:=(s.get m x).p) (k:=k) (r:=⟨(s.reg m).there,((s.get m x).reg m).pages,u+x⟩)
 rw [←e] at this;exact this
end Go.Proofs.YteflkifmgnpbhaaGreat
namespace Go.Lir
set_option linter.unusedVariables false
def codeOf {α:Type}(x:Except Int α):Int:=match x with
 | .error c=> c
 | .ok _=> 0
section
variable {α:Type}{x:Except Int α}{v:Value}
end
def wantC (s:JS) (k kd:Int) (held:Bool):Int:=codeOf (if held then jat s k kd else Q2b s k kd)
section
variable {s:JS}{k kd:Int}{held:Bool}{t:Ty}
end
def firstC:List Int→Int
 | []=> 0
 | x::l=> if x≠0 then x else firstC l
def rcall (m:Module) (s:JS) (x:Ins):Except Int (List Ty):=match m.funcs[x.k.toNat]? with
 | none=> .error 1
 | some g=> if (x.regs.length:Int)≠g.regs then .error 2 else QC (Q2r s.h [] x.regs) fun _=> QC (Q50 s x.args g.params x.regs) fun _=> .ok (g.results.map (renT x.regs))
def rmk (m:Module) (f:Fun) (s:JS) (x:Ins):Except Int (List Ty):=
 if x.op=1∨x.op=12 then (.ok [number])
 else if x.op=2 then (QC (Q2b s x.a 1) fun _=> QC (Q2b s x.b 1) fun _=> .ok [number])
 else if x.op=3 then (if s.h.length=16 then .error 2 else .ok [.mk 2 s.h.length []])
 else if x.op=4 then (QC (jat s x.a 2) fun t=> if t.r < f.regs then .error 11 else .ok [])
 else if x.op=5 then (QC (jat s x.a 2) fun t=> QC (jfields s x.args) fun ts=> if 4 < (Ty.mk 3 t.r ts).depth 4 then .error 19 else .ok [.mk 3 t.r ts])
 else if x.op=6 then (QC (jat s x.a 3) fun t=> QC (Q3E t x.k) fun u=> .ok [u])
 else if x.op=7 then (QC (jat s x.a 3) fun t=> QC (Q3E t x.k) fun u=> QC (jval s x.b) fun v=> if u≠v then .error 9 else .ok [])
 else if x.op=8 then (QC (jat s x.a 2) fun t=> QC (Q2b s x.b 1) fun _=> .ok [.mk 4 t.r []])
 else if x.op=9 then (QC (jat s x.a 4) fun _=> QC (Q2b s x.b 1) fun _=> .ok [number])
 else if x.op=10 then (QC (jat s x.a 4) fun _=> QC (Q2b s x.b 1) fun _=> QC (Q2b s x.c 1) fun _=> .ok [])
 else if x.op=11 then (QC (jat s x.a 4) fun _=> .ok [number])
 else if x.op=13 then (QC (Q2b s x.a 1) fun _=> .ok [])
 else rcall m s x
section
variable {m:Module}{f:Fun}{s:JS}{x:Ins}
end
section
variable {α β γ δ:Type}{x:Except Int α}{y:Except Int β}{z:Except Int γ}
end
section
variable {s:JS}{k kd:Int}
end
section
variable {s:JS}{k kd:Int}{m:Module}{f:Fun}{x:Ins}
end
theorem QaZ {n:Nat}{x:Ins}(hF:QE n x=0) (e:x.op=5):x.args.length≤8:=by
 unfold QE Q1m at hF
 simp [e] at hF;omega
end Go.Lir
namespace Go.Lir
set_option linter.unusedVariables false
theorem Tys.wrong_all {n:Int}{fields:Nat}:∀{l:List Ty},Tys.wrong fields l n=0↔∀t∈l,t.wrong fields n=0
 | []=> by simp [Tys.wrong]
 | x ::l=> by
   rw [Tys.wrong]
   constructor
   · intro h
     split at h
     · rename_i h1;exact absurd h h1
     · rename_i h1
       intro t ht
       rcases List.mem_cons.1 ht with rfl|ht
       · exact Classical.not_not.1 h1
       · exact Tys.wrong_all.1 h t ht
   · intro h
     rw [if_neg (fun hn=> hn (h x (List.mem_cons_self ..)))]
     exact Tys.wrong_all.2 fun t ht=> h t (List.mem_cons_of_mem _ ht)
theorem Ty.wrong_iff {k r n:Int}{l:List Ty}{fields:Nat}:(Ty.mk k r l).wrong fields n=0↔(1≤k∧k≤4)∧(k=1→r=0)∧(k≠3→l.length=0)∧l.length≤fields∧(k≠1→0≤r∧r < n)∧∀t∈l,t.wrong fields n=0:=by
 rw [Ty.wrong]
 constructor
 · intro h
   split at h
   · cases h
   · rename_i h1
     split at h
     · cases h
     · rename_i h2
       split at h
       · cases h
       · rename_i h3
         split at h
         · cases h
         · exact ⟨by omega,by omega,by omega,by omega,by omega,Tys.wrong_all.1 h⟩
 · rintro ⟨h1,h2,h3,h4,h5,h6⟩
   rw [if_neg (by omega),if_neg (by omega),if_neg (by omega),if_neg (by omega)]
   exact Tys.wrong_all.2 h6
theorem Ty.wrong_up {fields:Nat}{n n':Int}(hn:n≤n'):∀t:Ty,t.wrong fields n=0→t.wrong fields n'=0:=by
 intro t
 induction t using Ty.ind with
 | h k r l ih=>
   intro h
   obtain ⟨h1,h2,h3,h4,h5,h6⟩:=Ty.wrong_iff.1 h
   exact Ty.wrong_iff.2 ⟨h1,h2,h3,h4,fun hk=> by have:=h5 hk;omega,fun t ht=> ih t ht (h6 t ht)⟩
mutual
theorem Ty.ren_right {fields:Nat}{f:List Int}{n:Int}(hf:∀i:Nat,i < f.length→0≤f.getD i 0∧f.getD i 0 < n):∀(t:Ty),t.wrong fields f.length=0→∃u,t.ren f=some u∧u.wrong fields n=0
 | .mk k r l,ht=> by
   obtain ⟨h1,h2,h3,h4,h5,h6⟩:=Ty.wrong_iff.1 ht
   obtain ⟨m,hm,hml,hmw⟩:=Tys.ren_right hf l h6
   have hr:k≠1→0≤f.getD r.toNat 0∧f.getD r.toNat 0 < n:=fun hk=> hf r.toNat (by have:=h5 hk;omega)
   refine ⟨.mk k (if k≠1 then f.getD r.toNat 0 else r) m,?_,?_⟩
   · rw [Ty.ren,if_neg (by rintro ⟨hk,hb⟩;have:=h5 hk;have:=hr hk;omega),hm]
   · refine Ty.wrong_iff.2 ⟨h1,fun hk=> by rw [if_neg (by omega)];exact h2 hk,fun hk=> by rw [hml];exact h3 hk,by omega,fun hk=> by rw [if_pos hk];exact hr hk,hmw⟩
theorem Tys.ren_right {fields:Nat}{f:List Int}{n:Int}(hf:∀i:Nat,i < f.length→0≤f.getD i 0∧f.getD i 0 < n):∀(l:List Ty),(∀t∈l,t.wrong fields f.length=0)→∃m,Tys.ren l f=some m∧m.length=l.length∧∀u∈m,u.wrong fields n=0
 | [],_=> ⟨[],by rw [Tys.ren],rfl,by simp⟩
 | x::l,h=> by
   obtain ⟨y,h1,h2⟩:=Ty.ren_right hf x (h x (List.mem_cons_self ..))
   obtain ⟨m,h3,h4,h5⟩:=Tys.ren_right hf l (fun t ht=> h t (List.mem_cons_of_mem _ ht))
   refine ⟨y::m,by rw [Tys.ren,h1,h3],by simp [h4],fun u hu=> ?_⟩
   rcases List.mem_cons.1 hu with rfl|hu
   · exact h2
   · exact h5 u hu
end
structure JInv (m:Module) (f:Fun) (z:JS):Prop extends JGood z where
 wf:∀t∈z.l,t.wrong 8 z.h.length=0
 keep:∀r:Int,0≤r→r < f.regs→hasB z.h r=true
theorem Q2g {h:List Bool}{r:Int}(hr:hasB h r=true):0≤r∧r < h.length:=by have:=Q45 hr;omega
theorem Ty.fault_wrong {t:Ty}{n:Int}(h:t.fault n=0):t.wrong 8 n=0:=by
 unfold Ty.fault at h
 split at h
 · cases h
 · exact h
theorem Q8Z {s:JS}{n:Int}(hw:∀t∈s.l,t.wrong 8 n=0):∀{l:List Int}{ts:List Ty},jfields s l= .ok ts→∀t∈ts,t.wrong 8 n=0
 | [],ts,h=> by rw [jfields] at h;cases h;simp
 | k::l,ts,h=> by
   rw [jfields] at h
   obtain ⟨t,h1,h⟩:=Q2 h
   obtain ⟨us,h2,h⟩:=Q2 h
   cases h
   intro u hu
   rcases List.mem_cons.1 hu with rfl|hu
   · exact hw _ (List.mem_of_getElem? (Q9J h1).2)
   · exact Q8Z hw h2 u hu
theorem JInv.at {m:Module}{f:Fun}{s:JS}(hg:JInv m f s){k kd:Int}{t:Ty}(h:jat s k kd= .ok t):t.wrong 8 s.h.length=0∧0≤t.r∧t.r < s.h.length∧t∈s.l:=by
 have h1:=Q91 h
 have h2:=Q2g h1.2.2.2
 exact ⟨hg.wf _ (List.mem_of_getElem? h1.2.1),h2.1,h2.2,List.mem_of_getElem? h1.2.1⟩
theorem Qbw {m:Module}{f:Fun}{s:JS}{x:Ins}{t:Ty}{ts:List Ty}(hF:QE m.funcs.length x=0) (e:x.op=5) (hg:JInv m f s) (h1:jat s x.a 2= .ok t) (h2:jfields s x.args= .ok ts):
 (Ty.mk 3 t.r ts).wrong 8 s.h.length=0∧((Ty.mk 3 t.r ts).fault s.h.length≠0↔4 < (Ty.mk 3 t.r ts).depth 4):=by
 have h3:=hg.at h1
 have h4:=(Q4v hg.toJGood h2).1
 have h5:=QaZ hF e
 have hw:(Ty.mk 3 t.r ts).wrong 8 s.h.length=0:=Ty.wrong_iff.2 ⟨by omega,by omega,by omega,by omega,fun _=> by omega,Q8Z hg.wf h2⟩
 refine ⟨hw,?_⟩
 have hd:=Ty.depth_iff (Ty.mk 3 t.r ts) (most:=4) (by omega)
 unfold Ty.fault
 rw [hw]
 constructor
 · intro h
   split at h
   · rename_i hb
     exact Classical.byContradiction fun hn=> by rw [hd.1 (by omega)] at hb;cases hb
   · exact absurd rfl h
 · intro h
   rw [if_pos]
   · decide
   · cases hb:(Ty.mk 3 t.r ts).deepB 4 with
     | false=> rfl
     | true=> have:=hd.2 hb;omega
theorem Q4t {s s':JS}{t:Ty}{f:Fun}(hw:∀t∈s.l,t.wrong 8 s.h.length=0) (hk:∀r:Int,0≤r→r < f.regs→hasB s.h r=true) (ht:t.wrong 8 s.h.length=0) (h:jput s t= .ok s'):
 (∀t∈s'.l,t.wrong 8 s'.h.length=0)∧(∀r:Int,0≤r→r < f.regs→hasB s'.h r=true):=by
 obtain ⟨h1,h2,h3⟩:=Q9L h
 refine ⟨fun u hu=> ?_,fun r=> by rw [h2];exact hk r⟩
 rw [h3] at hu
 rw [h2]
 rcases List.mem_append.1 hu with hu|hu
 · exact hw u hu
 · simp at hu;subst hu;exact ht
theorem QaH (n:Int):number.wrong 8 n=0:=by unfold number;exact Ty.wrong_iff.2 ⟨by omega,by omega,by simp,by simp,by omega,by simp⟩
theorem Qd9 {h:List Bool}{r:Int}(hr:hasB h r=true):hasB (h++[true]) r=true:=by
 obtain ⟨h1,h2,h3⟩:=Q45 hr
 unfold hasB
 rw [List.getD_eq_getElem?_getD] at h3 ⊢
 rw [List.getElem?_append_left (by omega),h3,List.length_append]
 simp;omega
theorem Qcc {h:List Bool}{r k:Int}(hr:hasB h r=true) (hk:0≤k) (hne:k≠r):hasB (h.set k.toNat false) r=true:=by
 obtain ⟨h1,h2,h3⟩:=Q45 hr
 unfold hasB
 rw [List.getD_eq_getElem?_getD] at h3 ⊢
 rw [List.getElem?_set_ne (by omega),h3,List.length_set]
 simp;omega
theorem Q7d {m:Module}{f:Fun}{s s':JS}{x:Ins}(hM:m.fault.1=0) (hm:m.Short) (hg:JInv m f s) (hF:QE m.funcs.length x=0) (h:jins m f s x= .ok s'):JInv m f s':=by
 have hG:=QaS hm hg.toJGood hF h
 suffices hh:(∀t∈s'.l,t.wrong 8 s'.h.length=0)∧(∀r:Int,0≤r→r < f.regs→hasB s'.h r=true) from ⟨hG,hh.1,hh.2⟩
 have hop:=Q2X hF
 have hw:=hg.wf
 have hk:=hg.keep
 rcases op_cases (op:=x.op) (by omega) (by omega) with e|e|e|e|e|e|e|e|e|e|e|e|e|e
 · rw [Q6M (by omega)] at h;exact Q4t hw hk (QaH _) h
 · rw [Q81 e] at h;obtain ⟨_,_,h⟩:=Q2 h;obtain ⟨_,_,h⟩:=Q2 h;exact Q4t hw hk (QaH _) h
 · rw [QaU e] at h
   split at h
   · cases h
   · cases h
     refine ⟨fun u hu=> ?_,fun r h0 h1=> Qd9 (hk r h0 h1)⟩
     rw [List.length_append]
     rcases List.mem_append.1 hu with hu|hu
     · exact Ty.wrong_up (by simp;omega) u (hw u hu)
     · simp at hu;subst hu
       exact Ty.wrong_iff.2 ⟨by omega,by omega,by simp,by simp,fun _=> by simp;omega,by simp⟩
 · rw [Q8Y e] at h
   obtain ⟨t,h1,h⟩:=Q2 h
   split at h
   · cases h
   · rename_i hlt
     cases h
     have:=hg.at h1
     refine ⟨fun u hu=> by rw [List.length_set];exact hw u hu,fun r h0 h1=> Qcc (hk r h0 h1) (by omega) (by omega)⟩
 · rw [QaT e] at h;unfold Q59 at h
   obtain ⟨t,h1,h⟩:=Q2 h;obtain ⟨ts,h2,h⟩:=Q2 h
   split at h
   · cases h
   · exact Q4t hw hk (Qbw hF e hg h1 h2).1 h
 · rw [Q80 e] at h;obtain ⟨t,h1,h9⟩:=Q2 h;obtain ⟨u,h2,h8⟩:=Q2 h9
   have h3:=(hg.at h1).1
   clear h h9
   obtain ⟨k,r,l⟩:=t
   exact Q4t hw hk ((Ty.wrong_iff.1 h3).2.2.2.2.2 u (List.mem_of_getElem? (Q5H h2))) h8
 · rw [Q2z e] at h;obtain ⟨_,_,h⟩:=Q2 h;obtain ⟨_,_,h⟩:=Q2 h;obtain ⟨_,_,h⟩:=Q2 h
   split at h
   · cases h
   · cases h;exact ⟨hw,hk⟩
 · rw [Q7Z e] at h;obtain ⟨t,h1,h⟩:=Q2 h;obtain ⟨_,_,h⟩:=Q2 h
   have:=hg.at h1
   exact Q4t hw hk (Ty.wrong_iff.2 ⟨by omega,by omega,by simp,by simp,fun _=> by omega,by simp⟩) h
 · rw [Q7Y e] at h;obtain ⟨_,_,h⟩:=Q2 h;obtain ⟨_,_,h⟩:=Q2 h;exact Q4t hw hk (QaH _) h
 · rw [Q5o e] at h;obtain ⟨_,_,h⟩:=Q2 h;obtain ⟨_,_,h⟩:=Q2 h;obtain ⟨_,_,h⟩:=Q2 h;cases h;exact ⟨hw,hk⟩
 · rw [Q6u e] at h;obtain ⟨_,_,h⟩:=Q2 h;exact Q4t hw hk (QaH _) h
 · rw [Q6M (by omega)] at h;exact Q4t hw hk (QaH _) h
 · rw [Q82 e] at h;obtain ⟨_,_,h⟩:=Q2 h;cases h;exact ⟨hw,hk⟩
 · rw [Q6t e] at h
   unfold Q5q at h
   split at h
   · cases h
   · rename_i g hgf
     split at h
     · cases h
     · rename_i hrl
       obtain ⟨_,h1,h⟩:=Q2 h;obtain ⟨_,_,h⟩:=Q2 h
       split at h
       · cases h
       · cases h
         refine ⟨fun u hu=> ?_,hk⟩
         rcases List.mem_append.1 hu with hu|hu
         · exact hw u hu
         · obtain ⟨t,ht,rfl⟩:=List.mem_map.1 hu
           have h2:=Ty.fault_wrong (Q2I (Q1E (Q1S hM hgf)).2.2.2.1 t ht)
           have hall:=Q4s h1
           rw [show g.regs=(x.regs.length:Int) by omega] at h2
           obtain ⟨v,h3,h4⟩:=Ty.ren_right (n:=s.h.length) (f:=x.regs) (fun i hi=> by
            rw [List.getD_eq_getElem?_getD,List.getElem?_eq_getElem hi]
            exact Q2g (hall _ (List.getElem_mem hi))) t h2
           unfold renT
           rw [h3]
           exact h4
theorem Q6v {m:Module}(hm:m.Short) (hF:m.fault.1=0){f b:Nat}{x:Fun}{y:Block}(hx:m.funcs[f]?=some x) (hy:x.blocks[b]?=some y):JInv m x (Q1i y):=by
 have h1:=Q1Z (Q1F hF hx hy).1
 have h2:=Q1E (Q1S hF hx)
 have hl:(Q1i y).h.length=y.regs.toNat:=by unfold Q1i;simp only [List.length_replicate];omega
 refine ⟨Q84 hm hF hx hy,fun t ht=> ?_,fun r h0 hr=> ?_⟩
 · rw [hl,Int.toNat_of_nonneg (by omega)]
   exact Ty.fault_wrong (Q2I h1.2.2.1 t ht)
 · unfold hasB
   rw [hl]
   unfold Q1i
   simp only
   rw [List.getD_eq_getElem?_getD,List.getElem?_replicate,if_pos (by omega)]
   simp;omega
theorem Q93 {h:List Bool}:∀{n:Nat},(∀i:Nat,i < n→h.getD i false=true)→Q1X h n=upTo n
 | 0,_=> by unfold Q1X upTo;rfl
 | n+1,hk=> by
   rw [Q5t,if_pos (hk n (by omega)),Q93 (fun i hi=> hk i (by omega))]
   unfold upTo
   rw [List.range_succ,List.map_append];rfl
theorem Q87 {h:List Bool}{n:Nat}:∀k:Nat,∃mo,Q1X h (n+k)=Q1X h n++mo∧∀r∈mo,(n:Int)≤r
 | 0=> ⟨[],by simp,by simp⟩
 | k + 1=> by
   obtain ⟨mo,h1,h2⟩:=Q87 (h:=h) (n:=n) k
   refine ⟨mo++(if h.getD (n+k) false=true then [((n+k:Nat):Int)] else []),?_,fun r hr=> ?_⟩
   · rw [show n+(k+1)=n+k+1 by omega,Q5t,h1,List.append_assoc]
   · rcases List.mem_append.1 hr with hr|hr
     · exact h2 r hr
     · split at hr
       · simp at hr;omega
       · cases hr
theorem left_iff {m:Module}{f:Fun}{s:JS}(hg:JInv m f s) (hf:0≤f.regs):(f.regs < (Q3g s.h).length↔∃r∈Q3g s.h,f.regs≤r):=by
 have hle:f.regs≤s.h.length:=by
  by_cases h:f.regs=0
  · omega
  · have:=Q2g (hg.keep (f.regs - 1) (by omega) (by omega));omega
 have h1:Q1X s.h f.regs.toNat=upTo f.regs.toNat:=Q93 fun i hi=> (Q45 (hg.keep i (by omega) (by omega))).2.2
 obtain ⟨mo,h2,h3⟩:=Q87 (h:=s.h) (n:=f.regs.toNat) (s.h.length - f.regs.toNat)
 rw [show f.regs.toNat+(s.h.length - f.regs.toNat)=s.h.length by omega,h1] at h2
 have hul:(upTo f.regs.toNat).length=f.regs.toNat:=by unfold upTo;simp
 unfold Q3g
 rw [h2,List.length_append,hul]
 constructor
 · intro h
   cases mo with
   | nil=> simp at h;omega
   | cons r mo=> exact ⟨r,by simp,by have:=h3 r (by simp);omega⟩
 · rintro ⟨r,hr,h⟩
   rcases List.mem_append.1 hr with hr|hr
   · unfold upTo at hr
     obtain ⟨i,hi,rfl⟩:=List.mem_map.1 hr
     have:=List.mem_range.1 hi
     simp only [Int.ofNat_eq_natCast] at h
     omega
   · have:0 < mo.length:=List.length_pos_of_mem hr
     omega
section
variable {m:Module}{f:Fun}{s:JS}{x:Ins}{ts:List Ty}
end
theorem mod_fb {m:Module}{f:Nat}{x:Fun}(hF:m.fault.1=0) (hx:m.funcs[f]?=some x):∀b∈x.blocks,x.regs≤b.regs:=by
 intro b hb
 obtain ⟨k,hk⟩:=List.mem_iff_getElem?.1 hb
 exact (Q1Z (Q1F hF hx hk).1).1
def QI (m:Module) (f:Fun) (fi bi:Nat) (e:Tail):Nat→JS→List Ins→Flt
 | _,s,[]=> mkF (jEnd f s e) (Q5v fi bi)
 | i,s,x::l=> if (jIns m f s x).1≠0 then ((jIns m f s x).1,Q60 fi bi i) else QI m f fi bi e (i+1) (jIns m f s x).2 l
def Qz (m:Module) (f:Fun) (fi:Nat):Nat→List Block→Flt
 | _,[]=> (0,0)
 | b,y::l=> orF (QI m f fi b y.fin 0 (Q1i y) y.code) (Qz m f fi (b+1) l)
def Q1L (m:Module):Nat→List Fun→Flt
 | _,[]=> (0,0)
 | f,x::l=> orF (Qz m x f 0 x.blocks) (Q1L m (f+1) l)
def Module.runs (m:Module):Flt:=orF m.fault (Q1L m 0 m.funcs)
theorem Q6C {m:Module}{f:Fun}{fi bi:Nat}{e:Tail}:∀{l:List Ins}{i:Nat}{s:JS},(QI m f fi bi e i s l).1=0→QI m f fi bi e i s l=(0,0)
 | [],_,_,h=> by rw [QI] at h ⊢;exact Q8F _ _ h
 | x::l,i,s,h=> by
   rw [QI] at h ⊢
   split at h
   · rename_i hn;exact absurd h hn
   · rename_i hn;rw [if_neg hn];exact Q6C h
theorem Q49 {m:Module}{f:Fun}{fi:Nat}:∀{l:List Block}{b:Nat},(Qz m f fi b l).1=0→Qz m f fi b l=(0,0)
 | [],_,_=> by rw [Qz]
 | x::l,b,h=> by rw [Qz] at h ⊢;exact Q9B Q6C Q49 h
theorem Q8c {m:Module}:∀{l:List Fun}{f:Nat},(Q1L m f l).1=0→Q1L m f l=(0,0)
 | [],_,_=> by rw [Q1L]
 | x::l,b,h=> by rw [Q1L] at h ⊢;exact Q9B Q49 Q8c h
section
variable {m:Module}{f:Fun}{fi bi i b:Nat}{e:Tail}{s:JS}{x:Ins}{l:List Ins}{y:Block}{k:List Block}
theorem Q5Z (h:(jIns m f s x).1=0):QI m f fi bi e i s (x::l)=QI m f fi bi e (i+1) (jIns m f s x).2 l:=by rw [QI,if_neg (fun hn=> hn h)]
theorem Q5Y (h:(jIns m f s x).1≠0):QI m f fi bi e i s (x::l)=((jIns m f s x).1,Q60 fi bi i):=by rw [QI,if_pos h]
theorem Q8N (h:(QI m f fi b y.fin 0 (Q1i y) y.code).1=0):Qz m f fi b (y::k)=Qz m f fi (b+1) k:=by
 rw [Qz,Q6C h];exact QdI Q49
theorem Q8M (h:(QI m f fi b y.fin 0 (Q1i y) y.code).1≠0):Qz m f fi b (y::k)=QI m f fi b y.fin 0 (Q1i y) y.code:=by
 rw [Qz,QbT h]
theorem Qb4 {k:List Fun}(h:(Qz m f fi 0 f.blocks).1=0):Q1L m fi (f::k)=Q1L m (fi+1) k:=by
 rw [Q1L,Q49 h];exact QdI Q8c
theorem Qb3 {k:List Fun}(h:(Qz m f fi 0 f.blocks).1≠0):Q1L m fi (f::k)=Qz m f fi 0 f.blocks:=by
 rw [Q1L,QbT h]
theorem Q6Q (h:l.length≤i):QI m f fi bi e i s (l.drop i)=mkF (jEnd f s e) (Q5v fi bi):=by rw [List.drop_of_length_le h,QI]
theorem runs_at {E:Flt}{q:Nat}(hd:m.runs=Q1L m q (m.funcs.drop q)) (hf:m.funcs[q]?=some f) (hdb:Qz m f q 0 f.blocks=Qz m f q b (f.blocks.drop b)) (hy:f.blocks[b]?=some y) (h0:QI m f q b y.fin 0 (Q1i y) y.code=E) (hE:E.1≠0):m.runs=E:=by
 have h1:Qz m f q 0 f.blocks=E:=by rw [hdb,Q7 hy,Q8M (by rw [h0];exact hE),h0]
 rw [hd,Q7 hf,Qb3 (by rw [h1];exact hE),h1]
theorem runs_b {q:Nat}(hdb:Qz m f q 0 f.blocks=Qz m f q b (f.blocks.drop b)) (hy:f.blocks[b]?=some y) (h0:(QI m f q b y.fin 0 (Q1i y) y.code).1=0):Qz m f q 0 f.blocks=Qz m f q (b+1) (f.blocks.drop (b+1)):=by
 rw [hdb,Q7 hy,Q8N h0]
theorem runs_f {q:Nat}(hd:m.runs=Q1L m q (m.funcs.drop q)) (hf:m.funcs[q]?=some f) (hdb:Qz m f q 0 f.blocks=Qz m f q b (f.blocks.drop b)) (hb:f.blocks.length≤b):m.runs=Q1L m (q+1) (m.funcs.drop (q+1)):=by
 rw [hd,Q7 hf,Qb4 (by rw [hdb,List.drop_of_length_le hb,Qz])]
theorem runs_z {q:Nat}(hd:m.runs=Q1L m q (m.funcs.drop q)) (hq:m.funcs.length≤q):m.runs=(0,0):=by
 rw [hd,List.drop_of_length_le hq,Q1L]
theorem runs_no (h:m.fault.1≠0):m.runs=m.fault:=by unfold Module.runs;exact QbT h
theorem runs_go (h:m.fault.1=0):m.runs=Q1L m 0 m.funcs:=by unfold Module.runs;rw [Module.fault_z h];exact QdI Q8c
end
end Go.Lir
namespace Go.Lir
set_option linter.unusedVariables false
mutual
def Ty.rn:Ty→List Int→Ty
 | .mk k r l,f=> .mk k (if k≠1 then f.getD r.toNat 0 else r) (Tys.rn l f)
def Tys.rn:List Ty→List Int→List Ty
 | [],_=> []
 | x::l,f=> x.rn f::Tys.rn l f
end
theorem Tys.rn_map (f:List Int):∀l:List Ty,Tys.rn l f=l.map fun t=> t.rn f
 | []=> by rw [Tys.rn];rfl
 | x::l=> by rw [Tys.rn,Tys.rn_map f l];rfl
theorem Ty.rn_mk (k r:Int) (l:List Ty) (f:List Int):(Ty.mk k r l).rn f= .mk k (if k≠1 then f.getD r.toNat 0 else r) (l.map fun t=> t.rn f):=by rw [Ty.rn,Tys.rn_map]
theorem Ty.rn_kind (t:Ty) (f:List Int):(t.rn f).kind=t.kind:=by obtain ⟨k,r,l⟩:=t;rw [Ty.rn];rfl
theorem Ty.rn_r {t:Ty}(f:List Int) (h:t.kind≠1):(t.rn f).r=f.getD t.r.toNat 0:=by obtain ⟨k,r,l⟩:=t;rw [Ty.rn];exact if_pos h
theorem Ty.rn_mr {k r:Int}{l:List Ty}(f:List Int) (h:k≠1):((Ty.mk k r l).rn f).r=f.getD r.toNat 0:=by rw [Ty.rn];exact if_pos h
theorem Ty.rn_l (t:Ty) (f:List Int):(t.rn f).l=t.l.map fun t=> t.rn f:=by obtain ⟨k,r,l⟩:=t;rw [Ty.rn_mk];rfl
theorem Tys.ren_map {f:List Int}:∀{l m:List Ty},(∀x∈l,∀u,x.ren f=some u→u=x.rn f)→Tys.ren l f=some m→m=l.map fun t=> t.rn f
 | [],m,_,h=> by rw [Tys.ren] at h;cases h;rfl
 | x ::l,m,hx,h=> by
   rw [Tys.ren] at h
   cases h1:x.ren f with
   | none=> rw [h1] at h;cases h
   | some y=>
     rw [h1] at h
     cases h2:Tys.ren l f with
     | none=> rw [h2] at h;cases h
     | some m2=>
       rw [h2] at h
       cases h
       rw [List.map_cons,hx x (List.mem_cons_self ..) y h1,Tys.ren_map (fun z hz=> hx z (List.mem_cons_of_mem _ hz)) h2]
theorem Ty.rn_of {f:List Int}:∀(t u:Ty),t.ren f=some u→u=t.rn f:=by
 intro t
 induction t using Ty.ind with
 | h k r l ih=>
   intro u h
   rw [Ty.ren] at h
   split at h
   · cases h
   · split at h
     · cases h
     · rename_i m hm
       cases h
       rw [Ty.rn_mk,Tys.ren_map ih hm]
theorem Ty.rn_congr {f g:List Int}{n:Int}(h:∀i:Nat,(i:Int) < n→f.getD i 0=g.getD i 0):∀t:Ty,t.wrong 8 n=0→t.rn f=t.rn g:=by
 intro t
 induction t using Ty.ind with
 | h k r l ih=>
   intro hw
   obtain ⟨h1,h2,h3,h4,h5,h6⟩:=Ty.wrong_iff.1 hw
   rw [Ty.rn_mk,Ty.rn_mk,List.map_congr_left fun x hx=> ih x hx (h6 x hx)]
   by_cases hk:k≠1
   · rw [if_pos hk,if_pos hk,h r.toNat (by have:=h5 hk;omega)]
   · rw [if_neg hk,if_neg hk]
theorem Ty.rn_rn {f g e:List Int}{n:Int}(h:∀i:Nat,(i:Int) < n→e.getD i 0=g.getD (f.getD i 0).toNat 0):∀t:Ty,t.wrong 8 n=0→(t.rn f).rn g=t.rn e:=by
 intro t
 induction t using Ty.ind with
 | h k r l ih=>
   intro hw
   obtain ⟨h1,h2,h3,h4,h5,h6⟩:=Ty.wrong_iff.1 hw
   rw [Ty.rn_mk,Ty.rn_mk,Ty.rn_mk,List.map_map]
   have hl:(l.map ((fun t:Ty=> t.rn g)∘fun t=> t.rn f))=l.map fun t=> t.rn e:=List.map_congr_left fun x hx=> ih x hx (h6 x hx)
   rw [hl]
   by_cases hk:k≠1
   · rw [if_pos hk,if_pos hk,if_pos hk,h r.toNat (by have:=h5 hk;omega)]
   · rw [if_neg hk,if_neg hk,if_neg hk]
abbrev HMap:=Int→Int→Option Ty
structure VT (Ψ:HMap) (v:Val) (t:Ty):Prop where
 kind:v.kind=t.kind
 reg:t.kind≠1→v.region=t.r
 thing:t.kind=3∨t.kind=4→Ψ v.region v.thing=some t
def Ext (Ψ Ψ':HMap):Prop:=∀k j t,Ψ k j=some t→Ψ' k j=some t
theorem VT.ext {Ψ Ψ':HMap}{v:Val}{t:Ty}(h:VT Ψ v t) (he:Ext Ψ Ψ'):VT Ψ' v t:=⟨h.kind,h.reg,fun hk=> he _ _ _ (h.thing hk)⟩
theorem Ext.refl (Ψ:HMap):Ext Ψ Ψ:=fun _ _ _ h=> h
def VTs (Ψ:HMap) (l:List Val) (ts:List Ty):Prop:=l.length=ts.length∧∀(i:Nat) (v:Val) (t:Ty),l[i]?=some v→ts[i]?=some t→VT Ψ v t
theorem VTs.ext {Ψ Ψ':HMap}{l:List Val}{ts:List Ty}(h:VTs Ψ l ts) (he:Ext Ψ Ψ'):VTs Ψ' l ts:=⟨h.1,fun i v t h1 h2=> (h.2 i v t h1 h2).ext he⟩
theorem VTs.nil (Ψ:HMap):VTs Ψ [] []:=⟨rfl,fun i v t h=> by simp at h⟩
theorem VTs.get {Ψ:HMap}{l:List Val}{ts:List Ty}(h:VTs Ψ l ts){i:Nat}{t:Ty}(ht:ts[i]?=some t):∃v,l[i]?=some v∧VT Ψ v t:=by
 have h1:=(List.getElem?_eq_some_iff.1 ht).1
 have h0:i < l.length:=by rw [h.1];exact h1
 have h2:l[i]?=some l[i]:=List.getElem?_eq_getElem h0
 exact ⟨_,h2,h.2 i _ t h2 ht⟩
theorem VTs.app {Ψ:HMap}{l l2:List Val}{ts ts2:List Ty}(h:VTs Ψ l ts) (h2:VTs Ψ l2 ts2):VTs Ψ (l++l2) (ts++ts2):=by
 refine ⟨by rw [List.length_append,List.length_append,h.1,h2.1],fun i v t hv ht=> ?_⟩
 by_cases hi:i < l.length
 · rw [List.getElem?_append_left hi] at hv
   rw [List.getElem?_append_left (by rw [←h.1];exact hi)] at ht
   exact h.2 i v t hv ht
 · rw [List.getElem?_append_right (by omega)] at hv
   rw [List.getElem?_append_right (by rw [←h.1];omega),←h.1] at ht
   exact h2.2 _ v t hv ht
theorem VTs.one {Ψ:HMap}{v:Val}{t:Ty}(h:VT Ψ v t):VTs Ψ [v] [t]:=by
 refine ⟨rfl,fun i v' t' hv ht=> ?_⟩
 cases i with
 | zero=> simp at hv ht;subst hv ht;exact h
 | succ i=> simp at hv
theorem VTs.cons {Ψ:HMap}{v:Val}{t:Ty}{l:List Val}{ts:List Ty}(h:VT Ψ v t) (h2:VTs Ψ l ts):VTs Ψ (v::l) (t::ts):=VTs.app (VTs.one h) h2
theorem VTs.set {Ψ:HMap}{l:List Val}{ts:List Ty}(h:VTs Ψ l ts){k:Nat}{v:Val}{t:Ty}(ht:ts[k]?=some t) (hv:VT Ψ v t):VTs Ψ (l.set k v) ts:=by
 refine ⟨by rw [List.length_set];exact h.1,fun i u w hu hw=> ?_⟩
 rw [List.getElem?_set] at hu
 split at hu
 · rename_i hk
   subst hk
   split at hu
   · cases hu;rw [ht] at hw;cases hw;exact hv
   · cases hu
 · exact h.2 i u w hu hw
def ThOK (Ψ:HMap) (x:Thg) (t:Ty):Prop:=x.array=decide (t.kind=4)∧(t.kind=3→VTs Ψ x.l t.l)∧(t.kind=4→x.l.length≤15∧∀v∈x.l,v.kind=1)
theorem ThOK.ext {Ψ Ψ':HMap}{x:Thg}{t:Ty}(h:ThOK Ψ x t) (he:Ext Ψ Ψ'):ThOK Ψ' x t:=⟨h.1,fun hk=> (h.2.1 hk).ext he,h.2.2⟩
theorem ThOK.tup {Ψ:HMap}{l:List Val}{t:Ty}(hk:t.kind=3) (h:VTs Ψ l t.l):ThOK Ψ ⟨false,l⟩ t:=by
 refine ⟨?_,fun _=> h,fun h4=> ?_⟩
 · rw [hk];rfl
 · rw [hk] at h4;cases h4
theorem ThOK.arr {Ψ:HMap}{l:List Val}{t:Ty}(hk:t.kind=4) (hl:l.length≤15) (h:∀v∈l,v.kind=1):ThOK Ψ ⟨true,l⟩ t:=by
 refine ⟨?_,fun h3=> ?_,fun _=> ⟨hl,h⟩⟩
 · rw [hk];rfl
 · rw [hk] at h3;cases h3
structure HTy (Ψ:HMap) (h:HpS):Prop where
 dom:∀k j t,Ψ k j=some t→0≤k∧k < h.l.length∧t.r=k∧(t.kind=3∨t.kind=4)
 here:∀k j t,Ψ k j=some t→h.has k=true→0≤j∧j < (h.reg k).l.length∧ThOK Ψ (h.thg k.toNat j.toNat) t
section
variable {Ψ Ψ':HMap}{h:HpS}{v x:Val}{t u:Ty}{k j:Int}
theorem QcS {l:List Rgn}{left:Int}(k:Int):(⟨l,left⟩:HpS).reg k=if 0≤k then l.getD k.toNat Rgn.none else Rgn.none:=rfl
theorem Q29 (hh:h.has k=true):0≤k∧k < h.l.length∧h.l[k.toNat]?=some (h.reg k)∧(h.reg k).there=true:=by
 have hh':=hh
 unfold HpS.has HpS.reg at hh
 split at hh
 · rename_i h0
   rw [List.getD_eq_getElem?_getD] at hh
   cases hk:h.l[k.toNat]? with
   | none=> rw [hk] at hh;cases hh
   | some r=>
     have hlt:=(List.getElem?_eq_some_iff.1 hk).1
     refine ⟨h0,by omega,?_,hh'⟩
     unfold HpS.reg;rw [if_pos h0,List.getD_eq_getElem?_getD,hk];rfl
 · cases hh
theorem reg_set {l:List Rgn}{left left':Int}{m:Nat}{r:Rgn}(hm:m < l.length) (k:Int):(⟨l.set m r,left⟩:HpS).reg k=if k=m then r else (⟨l,left'⟩:HpS).reg k:=by
 rw [QcS,QcS]
 by_cases h0:0≤k
 · rw [if_pos h0,if_pos h0,List.getD_eq_getElem?_getD,List.getElem?_set]
   by_cases hk:k=m
   · rw [if_pos hk,if_pos (by omega),if_pos hm];rfl
   · rw [if_neg hk,if_neg (by omega),List.getD_eq_getElem?_getD]
 · rw [if_neg h0,if_neg h0,if_neg (by omega)]
theorem Q9y {l:List Rgn}{a:Int}{r:Rgn}(k:Int):(⟨l++[r],a⟩:HpS).reg k=if k=l.length then r else (⟨l,a⟩:HpS).reg k:=by
 rw [QcS,QcS]
 by_cases h0:0≤k
 · rw [if_pos h0,if_pos h0,List.getD_eq_getElem?_getD,List.getD_eq_getElem?_getD]
   by_cases hk:k=l.length
   · rw [if_pos hk,List.getElem?_append_right (by omega),show k.toNat - l.length=0 by omega];rfl
   · rw [if_neg hk]
     by_cases hl:k < l.length
     · rw [List.getElem?_append_left (by omega)]
     · rw [List.getElem?_eq_none (by rw [List.length_append];simp only [List.length_cons,List.length_nil];omega),List.getElem?_eq_none (by omega)]
 · rw [if_neg h0,if_neg h0,if_neg (by omega)]
theorem can_of (hv:VT Ψ v t) (hk:t.kind=2) (hh:h.has t.r=true):h.can v=true:=by
 unfold HpS.can
 rw [hv.kind,hk,hv.reg (by omega),hh];rfl
theorem Qe8 (hH:HTy Ψ h) (hv:VT Ψ v t) (hk:t.kind=3∨t.kind=4) (hh:h.has t.r=true):h.at_ v=some (v.region.toNat,v.thing.toNat)∧v.region=t.r∧0≤v.thing∧v.thing < (h.reg t.r).l.length∧ThOK Ψ (h.thg v.region.toNat v.thing.toNat) t:=by
 have hr:=hv.reg (by omega)
 have hp:=hv.thing hk
 obtain ⟨h1,h2,h3⟩:=hH.here _ _ _ hp (by rw [hr];exact hh)
 refine ⟨?_,hr,h1,by rw [←hr];exact h2,h3⟩
 unfold HpS.at_
 rw [if_pos]
 exact ⟨by rw [hv.kind];exact hk,by rw [hr];exact hh,h1,h2,by rw [h3.1,hv.kind]⟩
theorem get_of (hH:HTy Ψ h) (hv:VT Ψ v t) (hk:t.kind=3) (hh:h.has t.r=true){i:Int}(h0:0≤i) (hu:t.l[i.toNat]?=some u):(h.get v i).2=0∧VT Ψ (h.get v i).1 u:=by
 obtain ⟨h1,h2,h3,h4,h5⟩:=Qe8 hH hv (.inl hk) hh
 obtain ⟨y,h6,h7⟩:=(h5.2.1 hk).get hu
 have h8:=(List.getElem?_eq_some_iff.1 h6).1
 unfold HpS.get
 rw [h1]
 dsimp only
 rw [if_pos ⟨h0,by omega⟩]
 refine ⟨rfl,?_⟩
 dsimp only
 rw [List.getD_eq_getElem?_getD,h6]
 exact h7
theorem geta_of (hH:HTy Ψ h) (hv:VT Ψ v t) (hk:t.kind=4) (hh:h.has t.r=true) (i:Int):(h.get v i).2=1∨((h.get v i).2=0∧(h.get v i).1.kind=1):=by
 obtain ⟨h1,h2,h3,h4,h5⟩:=Qe8 hH hv (.inr hk) hh
 unfold HpS.get
 rw [h1]
 dsimp only
 by_cases hi:0≤i∧i < (h.thg v.region.toNat v.thing.toNat).l.length
 · rw [if_pos hi]
   refine .inr ⟨rfl,?_⟩
   have h6:(h.thg v.region.toNat v.thing.toNat).l[i.toNat]?=some (h.thg v.region.toNat v.thing.toNat).l[i.toNat]:=List.getElem?_eq_getElem (by omega)
   dsimp only
   rw [List.getD_eq_getElem?_getD,h6]
   exact (h5.2.2 hk).2 _ (List.mem_of_getElem? h6)
 · rw [if_neg hi];exact .inl rfl
theorem len_of (hH:HTy Ψ h) (hv:VT Ψ v t) (hk:t.kind=4) (hh:h.has t.r=true):(h.len v).2=0:=by
 obtain ⟨h1,_⟩:=Qe8 hH hv (.inr hk) hh
 unfold HpS.len;rw [h1]
theorem hty_open (hH:HTy Ψ h):HTy Ψ h.open:=by
 by_cases hf:h.full=true
 · have e:h.open=h:=by unfold HpS.open;rw [if_pos hf]
   rw [e];exact hH
 · have e:h.open=⟨h.l++[⟨true,[],0,0⟩],h.left⟩:=by unfold HpS.open;rw [if_neg hf]
   rw [e]
   refine ⟨fun k j t hp=> ?_,fun k j t hp hh=> ?_⟩
   · obtain ⟨h1,h2,h3⟩:=hH.dom k j t hp
     exact ⟨h1,by rw [List.length_append];simp only [List.length_cons,List.length_nil];omega,h3⟩
   · obtain ⟨h1,h2,h3⟩:=hH.dom k j t hp
     have hr:(⟨h.l++[⟨true,[],0,0⟩],h.left⟩:HpS).reg k=h.reg k:=by rw [Q9y,if_neg (by omega)]
     have hr2:(⟨h.l++[⟨true,[],0,0⟩],h.left⟩:HpS).reg (k.toNat:Int)=h.reg (k.toNat:Int):=by rw [Q9y,if_neg (by omega)]
     have hh2:h.has k=true:=by unfold HpS.has at hh ⊢;rw [hr] at hh;exact hh
     obtain ⟨h4,h5,h6⟩:=hH.here k j t hp hh2
     refine ⟨h4,by rw [hr];exact h5,?_⟩
     unfold HpS.thg at h6 ⊢
     rw [hr2];exact h6
theorem hty_shut (hH:HTy Ψ h):HTy Ψ (h.shut v):=by
 cases hc:h.can v with
 | false => have e:h.shut v=h:=by unfold HpS.shut;rw [hc];rfl
            rw [e];exact hH
 | true=>
   have e:h.shut v=⟨h.l.set v.region.toNat Rgn.none,h.left+(h.reg v.region).pages⟩:=by unfold HpS.shut;rw [hc];rfl
   unfold HpS.can at hc
   rw [Bool.and_eq_true] at hc
   obtain ⟨g0,g1,g2,g3⟩:=Q29 hc.2
   rw [e]
   refine ⟨fun k j t hp=> ?_,fun k j t hp hh=> ?_⟩
   · obtain ⟨h1,h2,h3⟩:=hH.dom k j t hp
     exact ⟨h1,by rw [List.length_set];exact h2,h3⟩
   · obtain ⟨h1,h2,h3⟩:=hH.dom k j t hp
     have hr:∀q:Int,q≠v.region→(⟨h.l.set v.region.toNat Rgn.none,h.left+(h.reg v.region).pages⟩:HpS).reg q=h.reg q:=fun q hq=> by
      rw [reg_set (left':=h.left) (by omega),if_neg (by omega)]
     have hne:k≠v.region:=fun hk=> by
      unfold HpS.has at hh
      rw [reg_set (left':=h.left) (by omega),if_pos (by omega)] at hh;cases hh
     have hh2:h.has k=true:=by unfold HpS.has at hh ⊢;rw [hr k hne] at hh;exact hh
     obtain ⟨h4,h5,h6⟩:=hH.here k j t hp hh2
     refine ⟨h4,by rw [hr k hne];exact h5,?_⟩
     unfold HpS.thg at h6 ⊢
     rw [hr _ (by omega)];exact h6
def addΨ (Ψ:HMap) (a b:Int) (t:Ty):HMap:=fun k j=> if k=a∧j=b then some t else Ψ k j
theorem Qfx (hH:HTy Ψ h) (hh:h.has k=true):Ext Ψ (addΨ Ψ k (h.reg k).l.length t):=by
 intro a b u hp
 unfold addΨ
 by_cases hab:a=k∧b=(h.reg k).l.length
 · obtain ⟨rfl,rfl⟩:=hab
   have:=(hH.here _ _ _ hp hh).2.1
   omega
 · rw [if_neg hab];exact hp
theorem Qb8 {n:Int}(hc:h.code v n=0):h.can v=true∧h.has v.region=true:=by
 unfold HpS.code at hc
 cases hx:h.can v with
 | false=> rw [hx] at hc;cases hc
 | true=>
   refine ⟨rfl,?_⟩
   unfold HpS.can at hx
   rw [Bool.and_eq_true] at hx
   exact hx.2
theorem code_of (hv:VT Ψ v t) (hk:t.kind=2) (hh:h.has t.r=true) (n:Int):h.code v n=0∨h.code v n=14:=by
 unfold HpS.code
 rw [can_of hv hk hh]
 rw [if_neg (by decide)]
 split
 · exact .inr rfl
 · exact .inl rfl
theorem Qga {n:Int}{x:Thg}(hH:HTy Ψ h) (hc:h.code v n=0) (hr:t.r=v.region) (hk:t.kind=3∨t.kind=4) (hx:ThOK Ψ x t):
 HTy (addΨ Ψ v.region (h.reg v.region).l.length t) (h.put v n x)∧Ext Ψ (addΨ Ψ v.region (h.reg v.region).l.length t)∧(∀q,(h.put v n x).has q=h.has q)∧VT (addΨ Ψ v.region (h.reg v.region).l.length t) (h.putV v t.kind n) t:=by
 obtain ⟨_,hh⟩:=Qb8 hc
 obtain ⟨g0,g1,g2,g3⟩:=Q29 hh
 have hE:=Qfx (t:=t) hH hh
 have e:h.put v n x=⟨h.l.set v.region.toNat (((h.reg v.region).room n).push x),if (h.reg v.region).more n then h.left - 1 else h.left⟩:=by unfold HpS.put;rw [if_pos hc]
 have hrl:(((h.reg v.region).room n).push x).l=(h.reg v.region).l++[x]∧(((h.reg v.region).room n).push x).there=true:=by
  unfold Rgn.room Rgn.push;split <;> exact ⟨rfl,g3⟩
 have hreg:∀q:Int,(h.put v n x).reg q=if q=v.region then ((h.reg v.region).room n).push x else h.reg q:=fun q=> by
  rw [e,reg_set (left':=h.left) (by omega),show ((v.region.toNat:Nat):Int)=v.region by omega]
 have hhas:∀q,(h.put v n x).has q=h.has q:=fun q=> by
  unfold HpS.has
  rw [hreg]
  by_cases hq:q=v.region
  · rw [if_pos hq,hq,hrl.2,g3]
  · rw [if_neg hq]
 refine ⟨⟨fun k j u hp=> ?_,fun k j u hp hk2=> ?_⟩,hE,hhas,?_⟩
 · unfold addΨ at hp
   rw [show (h.put v n x).l.length=h.l.length by rw [e,List.length_set]]
   by_cases hab:k=v.region∧j=(h.reg v.region).l.length
   · rw [if_pos hab] at hp;cases hp
     exact ⟨by omega,by omega,by omega,hk⟩
   · rw [if_neg hab] at hp;exact hH.dom k j u hp
 · rw [hhas] at hk2
   unfold addΨ at hp
   by_cases hab:k=v.region∧j=(h.reg v.region).l.length
   · rw [if_pos hab] at hp;cases hp
     obtain ⟨rfl,rfl⟩:=hab
     refine ⟨by omega,by rw [hreg,if_pos rfl,hrl.1,List.length_append];simp only [List.length_cons,List.length_nil];omega,?_⟩
     unfold HpS.thg
     rw [hreg,if_pos (by omega),hrl.1,Int.toNat_natCast,List.getD_eq_getElem?_getD,List.getElem?_append_right (Nat.le_refl _),Nat.sub_self]
     exact hx.ext hE
   · rw [if_neg hab] at hp
     obtain ⟨h1,h2,h3⟩:=hH.here k j u hp hk2
     obtain ⟨d1,d2,d3⟩:=hH.dom k j u hp
     by_cases hq:k=v.region
     · subst hq
       refine ⟨h1,by rw [hreg,if_pos rfl,hrl.1,List.length_append];omega,?_⟩
       unfold HpS.thg at h3 ⊢
       rw [hreg,if_pos (by omega),hrl.1,List.getD_eq_getElem?_getD,List.getElem?_append_left (by omega),←List.getD_eq_getElem?_getD]
       rw [show ((v.region.toNat:Nat):Int)=v.region by omega] at h3
       exact h3.ext hE
     · refine ⟨h1,by rw [hreg,if_neg hq];exact h2,?_⟩
       unfold HpS.thg at h3 ⊢
       rw [hreg,if_neg (by omega)]
       exact h3.ext hE
 · have ep:h.putV v t.kind n=⟨t.kind,v.region,(h.reg v.region).l.length,0⟩:=by unfold HpS.putV;rw [if_pos hc]
   rw [ep]
   exact ⟨rfl,fun _=> hr.symm,fun _=> if_pos ⟨rfl,rfl⟩⟩
theorem Qg9 {i:Int}{y:Val}(hH:HTy Ψ h) (hv:VT Ψ v t) (hk:t.kind=3∨t.kind=4) (hh:h.has t.r=true) (hy3:t.kind=3→∀u,t.l[i.toNat]?=some u→VT Ψ y u) (hy4:t.kind=4→y.kind=1):
 HTy Ψ (h.set v i y)∧(∀q,(h.set v i y).has q=h.has q):=by
 obtain ⟨h1,h2,h3,h4,h5⟩:=Qe8 hH hv hk hh
 unfold HpS.set
 rw [h1]
 dsimp only
 split
 · rename_i hc
   obtain ⟨g0,g1,g2,g3⟩:=Q29 hh
   rw [←h2] at g0 g1 g2 g3 hh h4
   have hin:0≤i∧i < (h.thg v.region.toNat v.thing.toNat).l.length:=by
    unfold HpS.setC at hc
    rw [h1] at hc
    dsimp only at hc
    split at hc
    · cases hc
    · split at hc
      · assumption
      · cases hc
   have hrr:h.reg ((v.region.toNat:Nat):Int)=h.reg v.region:=by rw [show ((v.region.toNat:Nat):Int)=v.region by omega]
   have hreg:∀q:Int,(⟨h.l.set v.region.toNat ((h.reg v.region.toNat).upd v.thing.toNat ((h.thg v.region.toNat v.thing.toNat).upd i.toNat y)),h.left⟩:HpS).reg q=if q=v.region then (h.reg v.region).upd v.thing.toNat ((h.thg v.region.toNat v.thing.toNat).upd i.toNat y) else h.reg q:=fun q=> by
    rw [reg_set (left':=h.left) (by omega),hrr,show ((v.region.toNat:Nat):Int)=v.region by omega]
   have hhas:∀q,(⟨h.l.set v.region.toNat ((h.reg v.region.toNat).upd v.thing.toNat ((h.thg v.region.toNat v.thing.toNat).upd i.toNat y)),h.left⟩:HpS).has q=h.has q:=fun q=> by
    unfold HpS.has
    rw [hreg]
    by_cases hq:q=v.region
    · rw [if_pos hq,hq];rfl
    · rw [if_neg hq]
   have hlen:(⟨h.l.set v.region.toNat ((h.reg v.region.toNat).upd v.thing.toNat ((h.thg v.region.toNat v.thing.toNat).upd i.toNat y)),h.left⟩:HpS).l.length=h.l.length:=List.length_set
   generalize (⟨h.l.set v.region.toNat ((h.reg v.region.toNat).upd v.thing.toNat ((h.thg v.region.toNat v.thing.toNat).upd i.toNat y)),h.left⟩:HpS)=H at hreg hhas hlen ⊢
   refine ⟨⟨fun k j u hp=> ?_,fun k j u hp hk2=> ?_⟩,hhas⟩
   · obtain ⟨d1,d2,d3⟩:=hH.dom k j u hp
     exact ⟨d1,by rw [hlen];exact d2,d3⟩
   · rw [hhas] at hk2
     obtain ⟨e1,e2,e3⟩:=hH.here k j u hp hk2
     obtain ⟨d1,d2,d3⟩:=hH.dom k j u hp
     by_cases hq:k=v.region
     · subst hq
       refine ⟨e1,by rw [hreg,if_pos rfl];show j < ((h.reg v.region).l.set _ _).length;rw [List.length_set];exact e2,?_⟩
       unfold HpS.thg
       rw [hreg,if_pos (by omega)]
       show ThOK Ψ (((h.reg v.region).l.set v.thing.toNat _).getD j.toNat _) u
       rw [List.getD_eq_getElem?_getD,List.getElem?_set]
       by_cases hj:v.thing.toNat=j.toNat
       · rw [if_pos hj,if_pos (by omega)]
         have hjv:j=v.thing:=by omega
         subst hjv
         have hu:u=t:=by have:=hv.thing hk;rw [hp] at this;cases this;rfl
         subst hu
         refine ⟨h5.1,fun h3'=> ?_,fun h4'=> ?_⟩
         · show VTs Ψ ((h.thg v.region.toNat v.thing.toNat).l.set i.toNat y) u.l
           have h6:=h5.2.1 h3'
           have h0':i.toNat < u.l.length:=by rw [←h6.1];omega
           have h7:u.l[i.toNat]?=some u.l[i.toNat]:=List.getElem?_eq_getElem h0'
           exact h6.set h7 (hy3 h3' _ h7)
         · refine ⟨by show ((h.thg v.region.toNat v.thing.toNat).l.set i.toNat y).length≤15;rw [List.length_set];exact (h5.2.2 h4').1,fun z hz=> ?_⟩
           rcases mem_set_or hz with rfl|hz
           · exact hy4 h4'
           · exact (h5.2.2 h4').2 z hz
       · rw [if_neg hj]
         unfold HpS.thg at e3
         rw [hrr,List.getD_eq_getElem?_getD] at e3
         exact e3
     · refine ⟨e1,by rw [hreg,if_neg hq];exact e2,?_⟩
       unfold HpS.thg at e3 ⊢
       rw [hreg,if_neg (by omega)]
       exact e3
 · exact ⟨hH,fun _=> rfl⟩
theorem setC_of (hH:HTy Ψ h) (hv:VT Ψ v t) (hk:t.kind=3) (hh:h.has t.r=true){i:Int}(h0:0≤i) (hu:t.l[i.toNat]?=some u) (y:Val):h.setC v i y=0:=by
 obtain ⟨h1,h2,h3,h4,h5⟩:=Qe8 hH hv (.inl hk) hh
 obtain ⟨z,h6,h7⟩:=(h5.2.1 hk).get hu
 have h8:=(List.getElem?_eq_some_iff.1 h6).1
 unfold HpS.setC
 rw [h1]
 dsimp only
 rw [if_neg (by rw [h5.1,hk];simp),if_pos ⟨h0,by omega⟩]
theorem setCa_of (hH:HTy Ψ h) (hv:VT Ψ v t) (hk:t.kind=4) (hh:h.has t.r=true) (i:Int){y:Val}(hy:y.kind=1):h.setC v i y=0∨h.setC v i y=1:=by
 obtain ⟨h1,h2,h3,h4,h5⟩:=Qe8 hH hv (.inr hk) hh
 unfold HpS.setC
 rw [h1]
 dsimp only
 rw [if_neg (by rw [hy];simp)]
 split
 · exact .inl rfl
 · exact .inr rfl
end
end Go.Lir
namespace Go.Proofs.YteflkifmgnpbhaaGreat
open Go.Lir
set_option linter.unusedVariables false
set_option linter.unusedSimpArgs false
structure RMap where
 σ:Nat→Nat
 a:Nat→Nat→Int
def WVR (φ:RMap) (h:HpS) (v:Val) (n:Int):Prop:=
 (v.kind=1→n=v.n)∧(v.kind≠1→0≤v.region∧v.region < h.l.length)∧(v.kind=2→h.has v.region=true→n=φ.σ v.region.toNat)∧
 (v.kind=3∨v.kind=4→h.has v.region=true→0≤v.thing∧v.thing < (h.reg v.region).l.length∧n=φ.a v.region.toNat v.thing.toNat)
def WVRs (φ:RMap) (h:HpS) (l:List Val) (ns:List Int):Prop:=l.length=ns.length∧∀(i:Nat) (v:Val) (n:Int),l[i]?=some v→ns[i]?=some n→WVR φ h v n
end Go.Proofs.YteflkifmgnpbhaaGreat
namespace Go.Lir
def Thg.off (t:Thg):Int:=if t.array=true then 1 else 0
def Thg.size (t:Thg):Int:=if t.array=true then 1+t.l.length else QZ t.l
end Go.Lir
namespace Go.Proofs.YteflkifmgnpbhaaGreat
open Go.Lir
def Lies (φ:RMap) (h:HpS) (e:EstS) (A:Int) (t:Thg):Prop:=(t.array=true→e.word A=t.l.length)∧∀(i:Nat) (v:Val),t.l[i]?=some v→WVR φ h v (e.word (A+t.off+i))
def Q4e (h:HpS) (r t:Nat) (x:Thg):Prop:=h.has r=true∧(h.reg r).l[t]?=some x
structure WHR (φ:RMap) (h:HpS) (e:EstS):Prop where
 ok:e.Ok
 left:h.left=e.p.fr.length
 cnt:e.count=h.live
 live:∀r:Nat,h.has r=true→φ.σ r < 16∧(e.reg (φ.σ r)).there=true∧((e.reg (φ.σ r)).pages.length:Int)=(h.reg r).pages∧(e.reg (φ.σ r)).used=(h.reg r).used
 inj:∀r q:Nat,h.has r=true→h.has q=true→φ.σ r=φ.σ q→r=q
 z:∀k:Nat,k < 16→(e.reg k).pages≠[]→∀j:Int,(e.reg k).used≤j→j < 16→e.p.word ((e.reg k).last*16+j)=0
 at_:∀(r t:Nat) (x:Thg),Q4e h r t x→∃q,q∈(e.reg (φ.σ r)).pages∧q*16≤φ.a r t∧φ.a r t+x.size≤q*16+(e.reg (φ.σ r)).lim q
 apart:∀(r t:Nat) (x:Thg) (r' t':Nat) (x':Thg),Q4e h r t x→Q4e h r' t' x'→¬(r=r'∧t=t')→φ.a r t+x.size≤φ.a r' t'∨φ.a r' t'+x'.size≤φ.a r t
 lies:∀(r t:Nat) (x:Thg),Q4e h r t x→Lies φ h e (φ.a r t) x
def Mono (φ:RMap) (h:HpS) (φ':RMap) (h':HpS):Prop:=∀v n,WVR φ h v n→WVR φ' h' v n
theorem Mono.refl (φ:RMap) (h:HpS):Mono φ h φ h:=fun _ _ h=> h
theorem Mono.vrs {φ φ':RMap}{h h':HpS}(hM:Mono φ h φ' h'){l:List Val}{ns:List Int}(hv:WVRs φ h l ns):WVRs φ' h' l ns:=⟨hv.1,fun i v n h1 h2=> hM _ _ (hv.2 i v n h1 h2)⟩
theorem Mono.lies {φ φ':RMap}{h h':HpS}(hM:Mono φ h φ' h'){e e':EstS}{A:Int}{t:Thg}(hw:∀i,A≤i→i < A+t.size→e'.word i=e.word i) (hl:Lies φ h e A t):Lies φ' h' e' A t:=by
 refine ⟨fun ha=> ?_,fun i v hv=> ?_⟩
 · rw [hw A (Int.le_refl _) (by unfold Thg.size;rw [if_pos ha];omega)];exact hl.1 ha
 · have hi:=(List.getElem?_eq_some_iff.1 hv).1
   rw [hw _ (by unfold Thg.off;split <;> omega) (by unfold Thg.off Thg.size QZ;split <;> (try split) <;> omega)]
   exact hM _ _ (hl.2 i v hv)
theorem WVRs.nil (φ:RMap) (h:HpS):WVRs φ h [] []:=⟨rfl,fun i v n h1=> by simp at h1⟩
theorem WVRs.app {φ:RMap}{h:HpS}{l l2:List Val}{ns ns2:List Int}(h1:WVRs φ h l ns) (h2:WVRs φ h l2 ns2):WVRs φ h (l++l2) (ns++ns2):=by
 have e:=h1.1
 refine ⟨by rw [List.length_append,List.length_append,h1.1,h2.1],fun i v n hv hn=> ?_⟩
 by_cases hi:i < l.length
 · rw [List.getElem?_append_left hi] at hv;rw [List.getElem?_append_left (by omega)] at hn;exact h1.2 i v n hv hn
 · rw [List.getElem?_append_right (by omega)] at hv;rw [List.getElem?_append_right (by omega),←e] at hn;exact h2.2 _ v n hv hn
theorem WVRs.one {φ:RMap}{h:HpS}{v:Val}{n:Int}(hv:WVR φ h v n):WVRs φ h [v] [n]:=⟨rfl,fun i v' n' h1 h2=> by
 cases i with
 | zero=> simp at h1 h2;subst h1;subst h2;exact hv
 | succ i=> simp at h1⟩
theorem WVRs.cons {φ:RMap}{h:HpS}{v:Val}{n:Int}{l:List Val}{ns:List Int}(hv:WVR φ h v n) (h2:WVRs φ h l ns):WVRs φ h (v::l) (n::ns):=(WVRs.one hv).app h2
theorem WVRs.get {φ:RMap}{h:HpS}{l:List Val}{ns:List Int}(hl:WVRs φ h l ns){i:Nat}{v:Val}(hv:l[i]?=some v):∃n,ns[i]?=some n∧WVR φ h v n:=by
 have hi:=(List.getElem?_eq_some_iff.1 hv).1
 exact ⟨ns[i]'(by have:=hl.1;omega),List.getElem?_eq_getElem _,hl.2 i v _ hv (List.getElem?_eq_getElem _)⟩
theorem WVR.int (φ:RMap) (h:HpS) (n:Int):WVR φ h (intV n) n:=⟨fun _=> rfl,fun h=> absurd rfl h,fun h=> (by cases h),fun h=> (by rcases h with h|h <;> cases h)⟩
variable {φ:RMap}{h:HpS}{e:EstS}{v:Val}{n:Int}
theorem WHR.slot (_:WHR φ h e) (hv:WVR φ h v n) (hc:h.can v=true):∃r:Nat,v.region=r∧h.has r=true∧n=φ.σ r∧r < h.l.length:=by
 unfold HpS.can at hc
 rw [Bool.and_eq_true,decide_eq_true_iff] at hc
 have h1:=hv.2.1 (by omega)
 refine ⟨v.region.toNat,by omega,by rw [Int.toNat_of_nonneg h1.1];exact hc.2,hv.2.2.1 hc.1 hc.2,by omega⟩
theorem Q6B {α:Type}{p:α→Bool}{l:List α}{k:Nat}{r r':α}(hr:l[k]?=some r):(l.set k r').countP p+(if p r then 1 else 0)=l.countP p+if p r' then 1 else 0:=by
 have h1:=(Q4B hr).countP_eq p
 have h2:=(Q5z (x:=r') (List.getElem?_eq_some_iff.1 hr).1).countP_eq p
 rw [List.countP_cons] at h1 h2
 rw [h1,h2];omega
theorem QfL (ok:e.Ok):e.low < 16↔e.count≠16:=by
 have hl:=ok.len
 constructor
 · intro h hc
   have h1:=EstS.reg_at ok h
   have h2:=EstS.low_off ok h
   have hall:∀r∈e.rs,r.there=true:=(List.countP_eq_length (p:=fun r:Reg=> r.there)).1 (by have h9:(List.countP (fun r:Reg=> r.there) e.rs:Int)=16:=hc;rw [hl];omega)
   have:=hall _ (List.mem_of_getElem? h1)
   rw [h2] at this;cases this
 · intro hc
   by_cases h:e.low < 16
   · exact h
   · exfalso
     have hle:=EstS.low_le ok
     have h3:e.low=e.rs.length:=by omega
     have h4:=List.findIdx_eq_length.1 h3
     refine hc ?_
     unfold EstS.count
     rw [List.countP_eq_length.2 fun r hr=> by have:=h4 r hr;simpa using this]
     omega
theorem WHR.full (H:WHR φ h e):h.full=true↔e.openV < 0:=by
 have h1:=QfL H.ok
 have h2:=H.cnt
 unfold HpS.full EstS.openV
 rw [decide_eq_true_iff]
 constructor
 · intro hf;rw [if_neg (by omega)];omega
 · intro hn
   split at hn
   · omega
   · rename_i hl;by_cases hf:h.live=16
     · exact hf
     · exact absurd (h1.2 (by omega)) hl
theorem Q4N (hf:h.full=false) (r:Int):h.open=⟨h.l++[⟨true,[],0,0⟩],h.left⟩∧h.openV=⟨2,h.l.length,0,0⟩∧h.open.reg r=if r=h.l.length then ⟨true,[],0,0⟩ else h.reg r:=by
 have e1:h.open=⟨h.l++[⟨true,[],0,0⟩],h.left⟩:=by unfold HpS.open;rw [hf];rfl
 refine ⟨e1,by unfold HpS.openV;rw [hf];rfl,?_⟩
 rw [e1,Q9y]
theorem Qb1 {r:Int}(hr:h.has r=true):0≤r∧r < h.l.length:=⟨(Q29 hr).1,(Q29 hr).2.1⟩
theorem WHR.open (H:WHR φ h e) (hf:h.full=false):∃φ',WHR φ' h.open e.open∧Mono φ h φ' h.open∧WVR φ' h.open h.openV e.openV:=by
 have hlow:e.low < 16:=(QfL H.ok).2 (by
  have h2:=H.cnt
  unfold HpS.full at hf;rw [decide_eq_false_iff_not] at hf;omega)
 have e1:=(Q4N hf 0).1
 have e2:=(Q4N hf 0).2.1
 have eo:e.open=⟨e.p,e.rs.set e.low ⟨true,[],0⟩⟩:=by unfold EstS.open;rw [if_pos hlow]
 have ev:e.openV=e.low:=by unfold EstS.openV;rw [if_pos hlow]
 have hoff:=EstS.low_off H.ok hlow
 have hreg:∀k:Nat,e.open.reg k=if k=e.low then ⟨true,[],0⟩ else e.reg k:=fun k=> by rw [eo];exact Q4T H.ok hlow
 have hnew:h.has h.l.length=false:=by
  cases hx:h.has h.l.length with
  | false=> rfl
  | true=> have:=(Qb1 hx).2;omega
 have hr0:∀r:Int,h.open.has r=true→r=h.l.length∨r≠h.l.length∧h.has r=true:=fun r hr=> by
  unfold HpS.has at hr ⊢
  rw [(Q4N hf r).2.2] at hr
  by_cases hc:r=h.l.length
  · exact .inl hc
  · rw [if_neg hc] at hr;exact .inr ⟨hc,hr⟩
 have hne:∀r:Nat,h.has r=true→φ.σ r≠e.low:=fun r hr hc=> by
  have:=(H.live r hr).2.1;rw [hc,hoff] at this;cases this
 have hM:Mono φ h ⟨fun r=> if r=h.l.length then e.low else φ.σ r,φ.a⟩ h.open:=fun v n hv=> by
  refine ⟨hv.1,fun hk=> ?_,fun hk hh=> ?_,fun hk hh=> ?_⟩
  · have:=hv.2.1 hk;rw [e1];simp;omega
  · have hl:=hv.2.1 (by omega)
    rcases hr0 _ hh with hc|⟨hc,hh⟩
    · omega
    · show n=((if v.region.toNat=h.l.length then e.low else φ.σ v.region.toNat:Nat):Int);rw [if_neg (by omega)];exact hv.2.2.1 hk hh
  · have hl:=hv.2.1 (by omega)
    rcases hr0 _ hh with hc|⟨hc,hh⟩
    · omega
    · have:=hv.2.2.2 hk hh;rw [(Q4N hf v.region).2.2,if_neg hc];exact this
 have hth:∀(r t:Nat) (x:Thg),Q4e h.open r t x→r≠h.l.length∧Q4e h r t x:=fun r t x ht=> by
  obtain ⟨h1,h2⟩:=ht
  rw [(Q4N hf r).2.2] at h2
  rcases hr0 _ h1 with hc|⟨hc,hh⟩
  · rw [if_pos hc] at h2;simp at h2
  · rw [if_neg hc] at h2;exact ⟨by omega,hh,h2⟩
 refine ⟨⟨fun r=> if r=h.l.length then e.low else φ.σ r,φ.a⟩,⟨EstS.ok_open H.ok,?_,?_,?_,?_,?_,?_,?_,?_⟩,hM,?_⟩
 · rw [e1,eo];exact H.left
 · have h3:=Q6B (p:=fun r:Reg=> r.there) (r':=⟨true,[],0⟩) (EstS.reg_at H.ok hlow)
   rw [hoff] at h3
   have h4:=H.cnt
   unfold EstS.count HpS.live at h4 ⊢
   rw [eo,e1,List.countP_append]
   simp [Reg.none] at h3 ⊢
   omega
 · intro r hr
   show (if r=h.l.length then e.low else φ.σ r) < 16∧_
   rw [show (h.open.reg r)=if (r:Int)=h.l.length then ⟨true,[],0,0⟩ else h.reg r from (Q4N hf r).2.2]
   show _∧(e.open.reg ((if r=h.l.length then e.low else φ.σ r:Nat):Int)).there=true∧((e.open.reg ((if r=h.l.length then e.low else φ.σ r:Nat):Int)).pages.length:Int)=_∧(e.open.reg ((if r=h.l.length then e.low else φ.σ r:Nat):Int)).used=_
   rcases hr0 _ hr with hc|⟨hc,hh⟩
   · rw [if_pos (by omega),if_pos hc,hreg,if_pos rfl];exact ⟨hlow,rfl,rfl,rfl⟩
   · rw [if_neg (by omega),if_neg hc,hreg,if_neg (hne r hh)];exact H.live r hh
 · intro r q hr hq hs
   have hs:(if r=h.l.length then e.low else φ.σ r)=(if q=h.l.length then e.low else φ.σ q):=hs
   rcases hr0 _ hr with hc|⟨hc,hh⟩
   · rcases hr0 _ hq with hd|⟨hd,hg⟩
     · omega
     · rw [if_pos (by omega),if_neg (by omega)] at hs;exact absurd hs.symm (hne q hg)
   · rcases hr0 _ hq with hd|⟨hd,hg⟩
     · rw [if_neg (by omega),if_pos (by omega)] at hs;exact absurd hs (hne r hh)
     · rw [if_neg (by omega),if_neg (by omega)] at hs;exact H.inj r q hh hg hs
 · intro k hk hp j h1 h2
   rw [hreg] at hp h1 ⊢
   by_cases hc:k=e.low
   · rw [if_pos hc] at hp;exact absurd rfl hp
   · rw [if_neg hc] at hp h1 ⊢;rw [eo];exact H.z k hk hp j h1 h2
 · intro r t x hx
   obtain ⟨hc,hx⟩:=hth r t x hx
   show∃q,q∈(e.open.reg ((if r=h.l.length then e.low else φ.σ r:Nat):Int)).pages∧_∧_≤q*16+(e.open.reg ((if r=h.l.length then e.low else φ.σ r:Nat):Int)).lim q
   rw [if_neg hc,hreg,if_neg (hne r hx.1)]
   exact H.at_ r t x hx
 · intro r t x r' t' x' hx hx'
   exact H.apart r t x r' t' x' (hth r t x hx).2 (hth r' t' x' hx').2
 · intro r t x hx
   refine hM.lies (e:=e) (fun i _ _=> ?_) (H.lies r t x (hth r t x hx).2)
   rw [eo];rfl
 · rw [e2,ev]
   refine ⟨fun h=> (by cases h),fun _=> ?_,fun _ _=> ?_,fun h=> (by rcases h with h|h <;> cases h)⟩
   · rw [e1];simp;omega
   · show ((e.low:Nat):Int)=((if (h.l.length:Int).toNat=h.l.length then e.low else _:Nat):Int);rw [if_pos (by omega)]
theorem Q9Q {r:Nat}(hv:v.region=r) (hc:h.can v=true) (q:Int):h.shut v=⟨h.l.set r Rgn.none,h.left+(h.reg r).pages⟩∧(h.shut v).reg q=if q=r then Rgn.none else h.reg q:=by
 have e1:h.shut v=⟨h.l.set r Rgn.none,h.left+(h.reg r).pages⟩:=by unfold HpS.shut;rw [if_pos hc,hv,Int.toNat_natCast]
 refine ⟨e1,?_⟩
 have hr:h.has r=true:=by rw [←hv];unfold HpS.can at hc;rw [Bool.and_eq_true] at hc;exact hc.2
 rw [e1,Go.Lir.reg_set (left':=h.left) (by have:=(Qb1 hr).2;omega)]
theorem WHR.shut (H:WHR φ h e) (hv:WVR φ h v n) (hc:h.can v=true):WHR φ (h.shut v) (e.shut n)∧Mono φ h φ (h.shut v):=by
 obtain ⟨r0,hr0,hh0,rfl,hlt0⟩:=H.slot hv hc
 obtain ⟨hs,hth0,hpg,hus⟩:=H.live r0 hh0
 have hk:e.has (φ.σ r0)=true:=hth0
 have e1:=(Q9Q hr0 hc 0).1
 have eo:=EstS.shut_yes hk
 have hreg:∀k:Nat,(e.shut (φ.σ r0)).reg k=if k=φ.σ r0 then Reg.none else e.reg k:=fun k=> by rw [eo];exact Q4T H.ok hs
 have hr1:∀r:Int,(h.shut v).has r=true→r≠r0∧h.has r=true:=fun r hr=> by
  unfold HpS.has at hr ⊢
  rw [(Q9Q hr0 hc r).2] at hr
  by_cases hc:r=r0
  · rw [if_pos hc] at hr;cases hr
  · rw [if_neg hc] at hr;exact ⟨hc,hr⟩
 have hrg:∀r:Int,r≠r0→(h.shut v).reg r=h.reg r:=fun r hn=> by rw [(Q9Q hr0 hc r).2,if_neg hn]
 have hne:∀r:Nat,r≠r0→h.has r=true→φ.σ r≠φ.σ r0:=fun r hn hr hc=> hn (H.inj r r0 hr hh0 hc)
 have hM:Mono φ h φ (h.shut v):=fun u m hu=> by
  refine ⟨hu.1,fun hk=> ?_,fun hk hh=> hu.2.2.1 hk (hr1 _ hh).2,fun hk hh=> ?_⟩
  · have:=hu.2.1 hk;rw [e1];simp only [List.length_set];exact this
  · obtain ⟨g1,g2⟩:=hr1 _ hh
    rw [hrg _ g1];exact hu.2.2.2 hk g2
 have hth:∀(r t:Nat) (x:Thg),Q4e (h.shut v) r t x→r≠r0∧Q4e h r t x:=fun r t x ht=> by
  obtain ⟨h1,h2⟩:=ht
  obtain ⟨g1,g2⟩:=hr1 _ h1
  rw [hrg _ g1] at h2
  exact ⟨by omega,g2,h2⟩
 have hok:=EstS.ok_shut H.ok (φ.σ r0)
 refine ⟨⟨hok,?_,?_,?_,?_,?_,?_,?_,?_⟩,hM⟩
 · have h1:=hok.tk.len hok.pok
   have h2:=H.ok.tk.len H.ok.pok
   have h3:=(Qdm (EstS.reg_at H.ok hs)).length_eq
   have h4:(e.shut (φ.σ r0)).all.length=((e.rs.eraseIdx (φ.σ r0)).flatMap Reg.pages).length:=by
    rw [eo]
    exact (Q6R (rs:=e.rs) (k:=φ.σ r0) (r':=Reg.none) (by rw [H.ok.len];exact hs)).length_eq
   have h5:(e.shut (φ.σ r0)).p.n=e.p.n:=by rw [eo];exact PoolS.n_gives
   rw [List.length_append] at h3
   have h6:=H.left
   rw [e1]
   show h.left+(h.reg r0).pages=_
   omega
 · have h3:=Q6B (p:=fun r:Reg=> r.there) (r':=Reg.none) (EstS.reg_at H.ok hs)
   have h5:=Q4K (r':=Rgn.none) (Q29 hh0).2.2.1
   rw [hth0] at h3
   rw [(Q29 hh0).2.2.2] at h5
   have h4:=H.cnt
   unfold EstS.count HpS.live at h4 ⊢
   rw [eo,e1]
   simp [Reg.none,Rgn.none] at h3 h5 ⊢
   omega
 · intro r hr
   obtain ⟨g1,g2⟩:=hr1 _ hr
   rw [hreg,if_neg (hne r (by omega) g2),hrg _ g1];exact H.live r g2
 · intro r q hr hq hs
   exact H.inj r q (hr1 _ hr).2 (hr1 _ hq).2 hs
 · intro k hk hp j h1 h2
   rw [hreg] at hp h1 ⊢
   by_cases hc:k=φ.σ r0
   · rw [if_pos hc] at hp;exact absurd rfl hp
   · rw [if_neg hc] at hp h1 ⊢;rw [eo];show (e.p.gives _).word _=0;rw [Q8R];exact H.z k hk hp j h1 h2
 · intro r t x hx
   obtain ⟨hc,hx⟩:=hth r t x hx
   rw [hreg,if_neg (hne r hc hx.1)]
   exact H.at_ r t x hx
 · intro r t x r' t' x' hx hx'
   exact H.apart r t x r' t' x' (hth r t x hx).2 (hth r' t' x' hx').2
 · intro r t x hx
   refine hM.lies (e:=e) (fun i _ _=> ?_) (H.lies r t x (hth r t x hx).2)
   rw [eo];exact Q8R
end Go.Proofs.YteflkifmgnpbhaaGreat
namespace Go.Proofs.YteflkifmgnpbhaaGreat
open Go.Lir
set_option linter.unusedVariables false
set_option linter.unusedSimpArgs false
theorem ok_st {s:EstS}(h:s.Ok) (k x:Int):(s.store k x).Ok:=⟨h.len,h.off,h.used,h.tk.store k x,PoolS.ok_store h.pok k x,by show (s.p.store k x).n≤64;rw [PoolS.n_store];exact h.n64⟩
theorem Qao {at_:Int}:∀(l:List Int) (s:EstS) (k:Nat),s.Ok→0≤at_→at_+k+l.length≤((s.p.n*16:Nat):Int)→
 (s.storesA at_ k l).Ok∧(s.storesA at_ k l).rs=s.rs∧(s.storesA at_ k l).p.n=s.p.n∧(s.storesA at_ k l).p.fr=s.p.fr∧∀i,(s.storesA at_ k l).word i=if at_+k≤i∧i < at_+k+l.length then l.getD (i - at_ - k).toNat 0 else s.word i
 | [],s,k,ok,_,_=> ⟨ok,rfl,rfl,rfl,fun i=> by rw [if_neg (by simp)];rfl⟩
 | v ::l,s,k,ok,h0,h1=> by
   rw [List.length_cons] at h1
   have hn:=ok.n64
   have hw:wr (at_+k)=at_+k:=Q3M (by omega) (by omega)
   have hin:s.p.isIn (at_+k)=true:=isIn_iff.2 (by omega)
   obtain ⟨g1,g2,g3,g4,g5⟩:=Qao l (s.store (at_+k) v) (k+1) (ok_st ok _ _) h0 (by show _≤(((s.p.store (at_+k) v).n*16:Nat):Int);rw [PoolS.n_store];omega)
   rw [EstS.storesA,hw]
   refine ⟨g1,g2,g3.trans PoolS.n_store,g4.trans PoolS.fr_store,fun i=> ?_⟩
   rw [g5,List.length_cons]
   have hs:(s.store (at_+k) v).word i=if i=at_+k then v else s.word i:=Q62 ok.pok hin i
   rw [hs]
   by_cases hi:i=at_+k
   · rw [if_neg (by omega),if_pos hi,if_pos (by omega),show (i - at_ - k).toNat=0 by omega];rfl
   · rw [if_neg hi]
     by_cases hj:at_+k≤i∧i < at_+k+(l.length+1:Nat)
     · rw [if_pos (by omega),if_pos hj,show (i - at_ - k).toNat=(i - at_ - (k+1:Nat)).toNat+1 by omega];rfl
     · rw [if_neg (by omega),if_neg hj]
theorem stores_p {at_:Int}{l:List Int}{s:EstS}(ok:s.Ok) (h0:0≤at_) (h1:at_+l.length≤((s.p.n*16:Nat):Int)):
 (s.stores at_ l).Ok∧(s.stores at_ l).rs=s.rs∧(s.stores at_ l).p.n=s.p.n∧(s.stores at_ l).p.fr=s.p.fr∧∀i,(s.stores at_ l).word i=if at_≤i∧i < at_+l.length then l.getD (i - at_).toNat 0 else s.word i:=by
 obtain ⟨g1,g2,g3,g4,g5⟩:=Qao l s 0 ok h0 (by omega)
 refine ⟨g1,g2,g3,g4,fun i=> ?_⟩
 have:=g5 i
 simp only [Int.natCast_zero,Int.add_zero,Int.sub_zero] at this
 exact this
variable {φ:RMap}{h:HpS}{e:EstS}{v:Val}{n:Int}
theorem more_iff {h:HpS}{e:EstS}{r:Rgn}{g:Reg}(h1:(g.pages.length:Int)=r.pages) (h2:g.used=r.used) (x:Int):g.more x=r.more x:=by
 unfold Reg.more Rgn.more
 rw [h2]
 have:g.pages=[]↔r.pages=0:=by rw [←h1,←List.length_eq_zero_iff];omega
 simp only [this]
theorem WHR.code (H:WHR φ h e) (hv:WVR φ h v n) (hc:h.can v=true){x:Int}(hx:1≤x∧x≤16):e.code n x=h.code v x:=by
 obtain ⟨r0,hr0,hh0,rfl,hlt0⟩:=H.slot hv hc
 obtain ⟨hs,hth0,hpg,hus⟩:=H.live r0 hh0
 have hk:e.has (φ.σ r0)=true:=hth0
 have hle:(h.left=0)=(e.p.fr=[]):=propext (by rw [H.left,←List.length_eq_zero_iff];omega)
 unfold EstS.code HpS.code
 rw [hk,hc,hr0,more_iff (h:=h) (e:=e) hpg hus,if_neg (by decide),if_neg (by omega)]
 simp only [hle]
 rfl
theorem Q7i {x:Int}(hc:h.code v x≠20):h.can v=true:=by
 unfold HpS.code at hc
 cases hx:h.can v with
 | true=> rfl
 | false=> rw [hx] at hc;exact absurd rfl hc
theorem QcB (t:Thg):1≤t.size:=by unfold Thg.size QZ;split <;> (try split) <;> omega
theorem Qaz {m:Nat}{x:Int}(ok:e.Ok) (hm:m < 16) (hc:e.code m x=0):(e.get m x).reg m=(e.regTo m x).use x∧(e.get m x).p=(if (e.reg m).more x then e.p.take else e.p)∧(e.get m x).rs=e.rs.set m ((e.regTo m x).use x):=by
 have hrs:(e.get m x).rs=e.rs.set m ((e.regTo m x).use x):=by unfold EstS.get;rw [if_pos hc,Int.toNat_natCast]
 refine ⟨?_,by unfold EstS.get;rw [if_pos hc],hrs⟩
 have e1:e.get m x=⟨(e.get m x).p,e.rs.set m ((e.regTo m x).use x)⟩:=by rw [←hrs]
 rw [e1,Q4T ok hm,if_pos rfl]
theorem WHR.addr (H:WHR φ h e){r t:Nat}{x:Thg}(ht:Q4e h r t x):0≤φ.a r t∧φ.a r t+x.size≤((e.p.n*16:Nat):Int)∧φ.a r t+x.size≤1024:=by
 obtain ⟨q,h1,h2,h3⟩:=H.at_ r t x ht
 have hs:=(H.live r ht.1).1
 obtain ⟨g1,g2,_⟩:=QbS H.ok hs h1
 have:=Qd4 H.ok hs (q:=q)
 have:=H.ok.n64
 omega
theorem Qe0 {x:Int}(h0:h.code v x=0):¬((h.reg v.region).more x=true∧h.left=0):=by
 intro hc
 unfold HpS.code at h0
 split at h0
 · cases h0
 · simp [hc] at h0
theorem Qgc {r:Nat}{x:Int}{t:Thg}(hv:v.region=r) (h0:h.code v x=0) (q:Int):
 h.put v x t=⟨h.l.set r (((h.reg r).room x).push t),if (h.reg r).more x then h.left - 1 else h.left⟩∧(h.put v x t).reg q=if q=r then ((h.reg r).room x).push t else h.reg q:=by
 have e1:h.put v x t=⟨h.l.set r (((h.reg r).room x).push t),if (h.reg r).more x then h.left - 1 else h.left⟩:=by unfold HpS.put;rw [if_pos h0,hv,Int.toNat_natCast]
 refine ⟨e1,?_⟩
 have hr:h.has r=true:=by rw [←hv];have hc:=Q7i (h:=h) (v:=v) (x:=x) (by omega);unfold HpS.can at hc;rw [Bool.and_eq_true] at hc;exact hc.2
 rw [e1,Go.Lir.reg_set (left':=h.left) (by have:=(Qb1 hr).2;omega)]
theorem WHR.put (H:WHR φ h e) (hv:WVR φ h v n){x:Int}{t:Thg}(hs:t.size=x) (hx:x≤16) (h0:h.code v x=0){kd:Int}(hkd:kd=3∨kd=4){e2:EstS}(ok2:e2.Ok) (hrs:e2.rs=(e.get n x).rs) (hfr:e2.p.fr=(e.get n x).p.fr)
 (hw:∀i,¬(e.getV n x≤i∧i < e.getV n x+x)→e2.word i=(e.get n x).word i) (hl:Lies φ h e2 (e.getV n x) t):∃φ',WHR φ' (h.put v x t) e2∧Mono φ h φ' (h.put v x t)∧WVR φ' (h.put v x t) (h.putV v kd x) (e.getV n x):=by
 have hx1:1≤x:=hs ▸ QcB t
 have hcan:=Q7i (h:=h) (v:=v) (x:=x) (by omega)
 have hc0:e.code n x=0:=(H.code hv hcan ⟨hx1,hx⟩).trans h0
 obtain ⟨r0,hr0,hh0,rfl,hlt0⟩:=H.slot hv hcan
 obtain ⟨hm,hth0,hpg,hus⟩:=H.live r0 hh0
 obtain ⟨P,u,G⟩:=getF H.ok hm hc0
 obtain ⟨gr1,gp1,grs⟩:=Qaz H.ok hm hc0
 have hux:=G.ux
 have hmo:=more_iff (h:=h) (e:=e) hpg hus x
 have e1:=(Qgc (t:=t) hr0 h0 0).1
 have hrg:∀q:Int,(h.put v x t).reg q=if q=r0 then ((h.reg r0).room x).push t else h.reg q:=fun q=> (Qgc hr0 h0 q).2
 have hroom:((h.reg r0).room x).there=(h.reg r0).there∧((h.reg r0).room x).l=(h.reg r0).l:=by unfold Rgn.room;split <;> exact ⟨rfl,rfl⟩
 have hhas:∀q:Int,(h.put v x t).has q=h.has q:=fun q=> by
  unfold HpS.has;rw [hrg]
  by_cases hq:q=r0
  · rw [if_pos hq,hq];exact hroom.1
  · rw [if_neg hq]
 have hl0:((h.put v x t).reg r0).l=(h.reg r0).l++[t]:=by rw [hrg,if_pos rfl];show ((h.reg r0).room x).l++[t]=_;rw [hroom.2]
 have hln:∀q:Int,q≠r0→(h.put v x t).reg q=h.reg q:=fun q hq=> by rw [hrg,if_neg hq]
 have hreg:∀k:Nat,e2.reg k=if k=φ.σ r0 then (e.regTo (φ.σ r0) x).use x else e.reg k:=fun k=> by
  have:e2.reg k=(e.get (φ.σ r0) x).reg k:=by unfold EstS.reg;rw [hrs]
  rw [this]
  have e3:e.get (φ.σ r0) x=⟨(e.get (φ.σ r0) x).p,e.rs.set (φ.σ r0) ((e.regTo (φ.σ r0) x).use x)⟩:=by rw [←grs]
  rw [e3,Q4T H.ok hm]
 have hA:e.getV (φ.σ r0) x=P*16+u:=G.v
 have hthere:(e.regTo (φ.σ r0) x).there=true:=by unfold EstS.regTo;split <;> exact hth0
 -- what is old lies apart, and stays
 have hold:∀(r t0:Nat) (x0:Thg),Q4e h r t0 x0→(φ.a r t0+x0.size≤e.getV (φ.σ r0) x∨e.getV (φ.σ r0) x+x≤φ.a r t0)∧∀i,φ.a r t0≤i→i < φ.a r t0+x0.size→e2.word i=e.word i:=fun r t0 x0 ht=> by
  obtain ⟨q,q1,q2,q3⟩:=H.at_ r t0 x0 ht
  have hsr:=(H.live r ht.1).1
  have hlq:=Qd4 H.ok hsr (q:=q)
  have hap:φ.a r t0+x0.size≤e.getV (φ.σ r0) x∨e.getV (φ.σ r0) x+x≤φ.a r t0:=by
   rw [hA]
   by_cases hq:q=P
   · by_cases hp:P∈(e.reg (φ.σ r0)).pages
     · have:=Q9h H.ok hsr hm q1 (by rw [hq];exact hp)
       obtain ⟨h6,h7⟩:=G.old hp
       have h8:(e.reg (φ.σ r)).lim q=u:=by rw [this];unfold Reg.lim;rw [if_pos (hq.trans h6),h7]
       left;omega
     · exact absurd q1 (by rw [hq];exact G.new hp _ hsr)
   · omega
  refine ⟨hap,fun i i1 i2=> ?_⟩
  rw [hw i (by omega)]
  show (e.get (φ.σ r0) x).p.word i=e.p.word i
  by_cases hi:P*16≤i∧i < P*16+16
  · by_cases hp:P∈(e.reg (φ.σ r0)).pages
    · rw [G.wo hp]
    · have hq:q=P:=by omega
      exact absurd q1 (by rw [hq];exact G.new hp _ hsr)
  · exact G.w i hi
 have hth:∀(r t0:Nat) (x0:Thg),Q4e (h.put v x t) r t0 x0→(r=r0∧t0=(h.reg r0).l.length∧x0=t)∨(¬(r=r0∧t0=(h.reg r0).l.length)∧Q4e h r t0 x0):=fun r t0 x0 ht=> by
  obtain ⟨h1,h2⟩:=ht
  rw [hhas] at h1
  by_cases hr:r=r0
  · subst hr
    rw [hl0] at h2
    by_cases h3:t0 < (h.reg r).l.length
    · rw [List.getElem?_append_left h3] at h2;exact .inr ⟨by omega,h1,h2⟩
    · rw [List.getElem?_append_right (by omega)] at h2
      cases h4:t0 - (h.reg r).l.length with
      | zero=> rw [h4] at h2;simp at h2;exact .inl ⟨rfl,by omega,h2.symm⟩
      | succ j=> rw [h4] at h2;simp at h2
  · rw [hln _ (by omega)] at h2;exact .inr ⟨fun hc=> hr hc.1,h1,h2⟩
 have hlen:(h.put v x t).l.length=h.l.length:=by rw [e1];exact List.length_set
 have hM:Mono φ h ⟨φ.σ,fun r j=> if r=r0∧j=(h.reg r0).l.length then e.getV (φ.σ r0) x else φ.a r j⟩ (h.put v x t):=fun w m hw=> by
  refine ⟨hw.1,fun hk=> ?_,fun hk hh=> hw.2.2.1 hk (by rw [←hhas];exact hh),fun hk hh=> ?_⟩
  · rw [hlen];exact hw.2.1 hk
  · obtain ⟨g1,g2,g3⟩:=hw.2.2.2 hk (by rw [←hhas];exact hh)
    have hrn:=hw.2.1 (by omega)
    show _∧_∧m=if w.region.toNat=r0∧w.thing.toNat=(h.reg r0).l.length then _ else _
    by_cases hr:w.region=r0
    · rw [hr] at g2
      rw [if_neg (by omega),hr,hl0,List.length_append]
      refine ⟨g1,by simp;omega,?_⟩
      rw [←hr];exact g3
    · rw [if_neg (by omega),hln _ hr];exact ⟨g1,g2,g3⟩
 have hlast:(e2.reg (φ.σ r0)).last=P:=by
  rw [hreg,if_pos rfl,←gr1];exact G.last
 have hused:(e2.reg (φ.σ r0)).used=u+x:=by
  have:=G.reg H.ok hm (k:=φ.σ r0)
  rw [if_pos rfl] at this
  rw [hreg,if_pos rfl,←gr1,this]
 have hmem:∀q,q=P∨q∈(e.reg (φ.σ r0)).pages→q∈(e2.reg (φ.σ r0)).pages:=fun q hq=> by
  rw [hreg,if_pos rfl,←gr1]
  rcases hq with rfl|hq
  · exact G.mem
  · exact G.sub q hq
 have hz:∀k:Nat,k < 16→(e2.reg k).pages≠[]→∀j:Int,(e2.reg k).used≤j→j < 16→e2.p.word ((e2.reg k).last*16+j)=0:=fun k hk hp j h1 h2=> by
  by_cases hkm:k=φ.σ r0
  · subst hkm
    rw [hused] at h1
    rw [hlast]
    have h3:=hw (P*16+j) (by rw [hA];omega)
    refine h3.trans ?_
    by_cases hpp:P∈(e.reg (φ.σ r0)).pages
    · obtain ⟨h6,h7⟩:=G.old hpp
      show (e.get (φ.σ r0) x).p.word _=0
      rw [G.wo hpp,h6]
      exact H.z _ hm (by intro h9;rw [h9] at hpp;simp at hpp) j (by omega) h2
    · exact G.wz hpp _ (by omega)
  · have hr:e2.reg k=e.reg k:=by rw [hreg,if_neg hkm]
    rw [hr] at hp h1 ⊢
    have hl2:=Q9G hp
    have hne:(e.reg k).last≠P:=by
     intro h9
     by_cases hpp:P∈(e.reg (φ.σ r0)).pages
     · exact hkm (Q9h H.ok hk hm (h9 ▸ hl2) hpp)
     · exact G.new hpp k hk (h9 ▸ hl2)
    have:=EstS.used_rng H.ok hk
    have h3:=hw ((e.reg k).last*16+j) (by rw [hA];omega)
    refine h3.trans ?_
    exact (G.w _ (by omega)).trans (H.z k hk hp j h1 h2)
 refine ⟨⟨φ.σ,fun r j=> if r=r0∧j=(h.reg r0).l.length then e.getV (φ.σ r0) x else φ.a r j⟩,⟨ok2,?_,?_,?_,?_,hz,?_,?_,?_⟩,hM,?_⟩
 · rw [e1,hfr,gp1]
   show (if (h.reg r0).more x=true then h.left - 1 else h.left)=_
   rw [←hmo]
   have h4:=H.left
   by_cases hc:(e.reg (φ.σ r0)).more x=true
   · rw [if_pos hc,if_pos hc]
     have h5:=Qe0 h0
     rw [hr0,←hmo] at h5
     have h6:e.p.fr≠[]:=fun h7=> h5 ⟨hc,by rw [h4,h7];rfl⟩
     unfold PoolS.take
     rw [if_neg h6,List.length_dropLast]
     have:0 < e.p.fr.length:=List.length_pos_iff.2 h6
     omega
   · rw [if_neg hc,if_neg hc];exact h4
 · have h3:=Q6B (p:=fun r:Reg=> r.there) (r':=(e.regTo (φ.σ r0) x).use x) (EstS.reg_at H.ok hm)
   have h5:=Q4K (r':=((h.reg r0).room x).push t) (Q29 hh0).2.2.1
   rw [hth0,show ((e.regTo (φ.σ r0) x).use x).there=true from hthere] at h3
   rw [(Q29 hh0).2.2.2,show (((h.reg r0).room x).push t).there=true from hroom.1.trans (Q29 hh0).2.2.2] at h5
   have h4:=H.cnt
   unfold EstS.count HpS.live at h4 ⊢
   rw [hrs,grs,e1]
   simp only [Int.toNat_natCast,if_true] at h3 h5 ⊢
   omega
 · intro r hr
   rw [hhas] at hr
   show φ.σ r < 16∧(e2.reg (φ.σ r)).there=true∧((e2.reg (φ.σ r)).pages.length:Int)=_∧(e2.reg (φ.σ r)).used=_
   obtain ⟨g1,g2,g3,g4⟩:=H.live r hr
   refine ⟨g1,?_⟩
   by_cases hrr:r=r0
   · subst hrr
     rw [hreg,if_pos rfl,hrg,if_pos rfl]
     refine ⟨hthere,?_⟩
     unfold EstS.regTo Rgn.room
     rw [←hmo]
     by_cases hc:(e.reg (φ.σ r)).more x=true
     · rw [if_pos hc,if_pos hc]
       refine ⟨?_,?_⟩
       · show (((e.reg (φ.σ r)).pages++[e.p.top]).length:Int)=(h.reg r).pages+1
         rw [List.length_append];simp;omega
       · show 0+x=x;omega
     · rw [if_neg hc,if_neg hc]
       exact ⟨g3,by show (e.reg (φ.σ r)).used+x=(h.reg r).used+x;omega⟩
   · rw [hreg,if_neg (fun hc=> hrr (H.inj r r0 hr hh0 hc)),hln _ (by omega)]
     exact ⟨g2,g3,g4⟩
 · intro r q hr hq hs
   rw [hhas] at hr hq
   exact H.inj r q hr hq hs
 · intro r t0 x0 hx0
   show∃q,q∈(e2.reg (φ.σ r)).pages∧q*16≤(if r=r0∧t0=(h.reg r0).l.length then e.getV (φ.σ r0) x else φ.a r t0)∧(if r=r0∧t0=(h.reg r0).l.length then e.getV (φ.σ r0) x else φ.a r t0)+x0.size≤q*16+(e2.reg (φ.σ r)).lim q
   rcases hth r t0 x0 hx0 with ⟨g1,g2,g3⟩|⟨g1,g2⟩
   · subst g1
     rw [if_pos ⟨rfl,g2⟩,g3,hs,hA]
     refine ⟨P,hmem P (.inl rfl),by omega,?_⟩
     unfold Reg.lim
     rw [if_pos hlast.symm,hused];omega
   · rw [if_neg g1]
     obtain ⟨q,q1,q2,q3⟩:=H.at_ r t0 x0 g2
     by_cases hrr:r=r0
     · subst hrr
       refine ⟨q,hmem q (.inr q1),q2,?_⟩
       have hle:=Qd4 H.ok hm (q:=q)
       unfold Reg.lim
       rw [hlast,hused]
       by_cases hq:q=P
       · rw [if_pos hq]
         by_cases hp:P∈(e.reg (φ.σ r)).pages
         · obtain ⟨h6,h7⟩:=G.old hp
           have h8:(e.reg (φ.σ r)).lim q=u:=by unfold Reg.lim;rw [if_pos (hq.trans h6),h7]
           omega
         · exact absurd q1 (by rw [hq];exact hp)
       · rw [if_neg hq];omega
     · have hr:e2.reg (φ.σ r)=e.reg (φ.σ r):=by rw [hreg,if_neg (fun hc=> hrr (H.inj r r0 g2.1 hh0 hc))]
       rw [hr];exact ⟨q,q1,q2,q3⟩
 · intro r t0 x0 r' t0' x0' hx0 hx0' hn
   show (if r=r0∧t0=(h.reg r0).l.length then e.getV (φ.σ r0) x else φ.a r t0)+x0.size≤(if r'=r0∧t0'=(h.reg r0).l.length then e.getV (φ.σ r0) x else φ.a r' t0')∨(if r'=r0∧t0'=(h.reg r0).l.length then e.getV (φ.σ r0) x else φ.a r' t0')+x0'.size≤(if r=r0∧t0=(h.reg r0).l.length then e.getV (φ.σ r0) x else φ.a r t0)
   rcases hth r t0 x0 hx0 with ⟨g1,g2,g3⟩|⟨g1,g2⟩
   · rcases hth r' t0' x0' hx0' with ⟨k1,k2,k3⟩|⟨k1,k2⟩
     · exact absurd ⟨by omega,by omega⟩ hn
     · rw [if_pos ⟨g1,g2⟩,if_neg k1,g3,hs]
       exact ((hold _ _ _ k2).1).symm
   · rcases hth r' t0' x0' hx0' with ⟨k1,k2,k3⟩|⟨k1,k2⟩
     · rw [if_neg g1,if_pos ⟨k1,k2⟩,k3,hs]
       exact (hold _ _ _ g2).1
     · rw [if_neg g1,if_neg k1];exact H.apart _ _ _ _ _ _ g2 k2 hn
 · intro r t0 x0 hx0
   show Lies _ _ e2 (if r=r0∧t0=(h.reg r0).l.length then e.getV (φ.σ r0) x else φ.a r t0) x0
   rcases hth r t0 x0 hx0 with ⟨g1,g2,g3⟩|⟨g1,g2⟩
   · rw [if_pos ⟨g1,g2⟩,g3];exact hM.lies (fun _ _ _=> rfl) hl
   · rw [if_neg g1];exact hM.lies (hold _ _ _ g2).2 (H.lies _ _ _ g2)
 · have ev:h.putV v kd x=⟨kd,v.region,(h.reg v.region).l.length,0⟩:=by unfold HpS.putV;rw [if_pos h0]
   rw [ev,hr0]
   refine ⟨fun hk=> by simp at hk;omega,fun _=> ⟨by simp,by rw [hlen];show (r0:Int) < _;omega⟩,fun hk=> by simp at hk;omega,fun _ _=> ⟨by simp,?_,?_⟩⟩
   · show ((h.reg r0).l.length:Int) < (((h.put v x t).reg r0).l.length:Int)
     rw [hl0];simp;omega
   · show e.getV (φ.σ r0) x=if (r0:Int).toNat=r0∧(((h.reg r0).l.length:Nat):Int).toNat=(h.reg r0).l.length then _ else _
     rw [if_pos ⟨by omega,by omega⟩]
end Go.Proofs.YteflkifmgnpbhaaGreat
namespace Go.Proofs.YteflkifmgnpbhaaGreat
open Go.Lir
set_option linter.unusedVariables false
set_option linter.unusedSimpArgs false
variable {φ:RMap}{h:HpS}{e:EstS}{v:Val}{n:Int}
theorem at_inv {p:Nat×Nat}(ha:h.at_ v=some p):(v.kind=3∨v.kind=4)∧h.has v.region=true∧v.region=p.1∧v.thing=p.2∧Q4e h p.1 p.2 (h.thg p.1 p.2)∧(h.thg p.1 p.2).array=decide (v.kind=4):=by
 unfold HpS.at_ at ha
 split at ha
 · rename_i hc
   obtain ⟨h1,h2,h3,h4,h5⟩:=hc
   cases ha
   have hr:=(Qb1 h2).1
   refine ⟨h1,h2,by show v.region=(v.region.toNat:Int);omega,by show v.thing=(v.thing.toNat:Int);omega,⟨by rw [Int.toNat_of_nonneg hr];exact h2,?_⟩,h5⟩
   unfold HpS.thg
   rw [Int.toNat_of_nonneg hr,List.getD_eq_getElem?_getD,List.getElem?_eq_getElem (by omega)];rfl
 · cases ha
theorem WHR.place (H:WHR φ h e) (hv:WVR φ h v n){p:Nat×Nat}(ha:h.at_ v=some p):n=φ.a p.1 p.2∧Q4e h p.1 p.2 (h.thg p.1 p.2)∧(h.thg p.1 p.2).array=decide (v.kind=4):=by
 obtain ⟨h1,h2,h3,h4,h5,h6⟩:=at_inv ha
 refine ⟨?_,h5,h6⟩
 have:=(hv.2.2.2 h1 h2).2.2
 rw [h3,h4] at this
 exact this
theorem WHR.get (H:WHR φ h e) (hv:WVR φ h v n){k:Int}(hg:(h.get v k).2=0):∃o:Int,o=(if v.kind=4 then 1 else 0)∧0≤n∧0≤k∧n+o+k < 1024∧WVR φ h (h.get v k).1 (e.word (n+o+k)):=by
 unfold HpS.get at hg ⊢
 cases ha:h.at_ v with
 | none=> rw [ha] at hg;cases hg
 | some p=>
   rw [ha] at hg
   obtain ⟨rfl,ht,hk⟩:=H.place hv ha
   obtain ⟨g1,g2,g3⟩:=H.addr ht
   simp only at hg ⊢
   split at hg
   · rename_i hc
     rw [if_pos hc]
     have ho:(h.thg p.1 p.2).off=if v.kind=4 then 1 else 0:=by unfold Thg.off;rw [hk];simp
     have hsz:(h.thg p.1 p.2).off+(h.thg p.1 p.2).l.length≤(h.thg p.1 p.2).size:=by unfold Thg.off Thg.size QZ;split <;> (try split) <;> omega
     refine ⟨_,ho,g1,hc.1,?_,?_⟩
     · omega
     · have hlen:k.toNat < (h.thg p.1 p.2).l.length:=by omega
       have h1:=(H.lies _ _ _ ht).2 k.toNat ((h.thg p.1 p.2).l.getD k.toNat Val.zero) (by rw [List.getD_eq_getElem?_getD,List.getElem?_eq_getElem hlen];rfl)
       rw [Int.toNat_of_nonneg hc.1] at h1
       exact h1
   · cases hg
theorem WHR.len (H:WHR φ h e) (hv:WVR φ h v n) (hk:v.kind=4) (hg:(h.len v).2=0):e.word n=(h.len v).1∧0≤n∧n+1+(h.len v).1≤1024∧∀k,(h.get v k).2=if 0≤k∧k < (h.len v).1 then 0 else 1:=by
 unfold HpS.len at hg ⊢
 unfold HpS.get
 cases ha:h.at_ v with
 | none=> rw [ha] at hg;cases hg
 | some p=>
   obtain ⟨rfl,ht,hk2⟩:=H.place hv ha
   obtain ⟨g1,g2,g3⟩:=H.addr ht
   have har:(h.thg p.1 p.2).array=true:=by rw [hk2];simp [hk]
   have hsz:(h.thg p.1 p.2).size=1+(h.thg p.1 p.2).l.length:=by unfold Thg.size;rw [if_pos har]
   refine ⟨(H.lies _ _ _ ht).1 har,g1,by simp only;omega,fun k=> ?_⟩
   simp only
   split <;> rfl
theorem get_at {k:Int}(hg:(h.get v k).2≠20):(h.len v).2=0:=by
 unfold HpS.get at hg
 unfold HpS.len
 cases ha:h.at_ v with
 | none=> rw [ha] at hg;exact absurd rfl hg
 | some p=> rfl
theorem setC_at {k:Int}{y:Val}(hg:h.setC v k y≠20):(h.len v).2=0:=by
 unfold HpS.setC at hg
 unfold HpS.len
 cases ha:h.at_ v with
 | none=> rw [ha] at hg;exact absurd rfl hg
 | some p=> rfl
theorem setC_rng (hk:v.kind=4){k:Int}{y:Val}(hg:h.setC v k y≠20):h.setC v k y=if 0≤k∧k < (h.len v).1 then 0 else 1:=by
 unfold HpS.setC at hg ⊢
 unfold HpS.len
 cases ha:h.at_ v with
 | none=> rw [ha] at hg;exact absurd rfl hg
 | some p=>
   rw [ha] at hg
   simp only at hg ⊢
   split at hg
   · exact absurd rfl hg
   · rename_i hc;rw [if_neg hc]
theorem WHR.set (H:WHR φ h e) (hv:WVR φ h v n){k ny:Int}{y:Val}(hy:WVR φ h y ny) (hg:h.setC v k y=0):∃o:Int,o=(if v.kind=4 then 1 else 0)∧0≤n∧0≤k∧n+o+k < 1024∧WHR φ (h.set v k y) (e.store (n+o+k) ny)∧Mono φ h φ (h.set v k y):=by
 have hg0:=hg
 unfold HpS.setC at hg
 unfold HpS.set
 rw [hg0]
 cases ha:h.at_ v with
 | none=> rw [ha] at hg;cases hg
 | some p =>
   rw [ha] at hg
   obtain ⟨rfl,ht,hk⟩:=H.place hv ha
   obtain ⟨g1,g2,g3⟩:=H.addr ht
   obtain ⟨r,t⟩:=p
   simp only at hg ht hk g1 g2 g3 hv ⊢
   split at hg
   · cases hg
   · split at hg
     · rename_i hc
       rw [if_pos trivial]
       have ho:(h.thg r t).off=if v.kind=4 then 1 else 0:=by unfold Thg.off;rw [hk];simp
       have hsz:(h.thg r t).off+(h.thg r t).l.length≤(h.thg r t).size:=by unfold Thg.off Thg.size QZ;split <;> (try split) <;> omega
       have ho0:0≤(h.thg r t).off:=by unfold Thg.off;split <;> omega
       have hrg:∀q:Int,(⟨h.l.set r ((h.reg r).upd t ((h.thg r t).upd k.toNat y)),h.left⟩:HpS).reg q=if q=r then (h.reg r).upd t ((h.thg r t).upd k.toNat y) else h.reg q:=fun q=> Go.Lir.reg_set (left':=h.left) (by have:=(Qb1 ht.1).2;omega) q
       have hhas:∀q:Int,(⟨h.l.set r ((h.reg r).upd t ((h.thg r t).upd k.toNat y)),h.left⟩:HpS).has q=h.has q:=fun q=> by
        unfold HpS.has;rw [hrg]
        by_cases hq:q=r
        · rw [if_pos hq,hq];rfl
        · rw [if_neg hq]
       have hlen:∀q:Int,((⟨h.l.set r ((h.reg r).upd t ((h.thg r t).upd k.toNat y)),h.left⟩:HpS).reg q).l.length=(h.reg q).l.length:=fun q=> by
        rw [hrg]
        by_cases hq:q=r
        · rw [if_pos hq,hq];show ((h.reg r).l.set t _).length=_;rw [List.length_set]
        · rw [if_neg hq]
       have hM:Mono φ h φ ⟨h.l.set r ((h.reg r).upd t ((h.thg r t).upd k.toNat y)),h.left⟩:=fun u m hu=> by
        refine ⟨hu.1,fun hk=> ?_,fun hk hh=> hu.2.2.1 hk (by rw [←hhas];exact hh),fun hk hh=> ?_⟩
        · simp only [List.length_set];exact hu.2.1 hk
        · rw [hlen];exact hu.2.2.2 hk (by rw [←hhas];exact hh)
       have hreg:∀q:Int,q≠r→(⟨h.l.set r ((h.reg r).upd t ((h.thg r t).upd k.toNat y)),h.left⟩:HpS).reg q=h.reg q:=fun q hq=> by rw [hrg,if_neg hq]
       have hth:∀(r' t':Nat) (x:Thg),Q4e ⟨h.l.set r ((h.reg r).upd t ((h.thg r t).upd k.toNat y)),h.left⟩ r' t' x→(r'=r∧t'=t∧x=(h.thg r t).upd k.toNat y)∨(¬(r'=r∧t'=t)∧Q4e h r' t' x):=fun r' t' x hx=> by
        obtain ⟨h1,h2⟩:=hx
        rw [hhas] at h1
        by_cases hr:r'=r
        · subst hr
          rw [hrg,if_pos rfl] at h2
          have h2:((h.reg r').l.set t ((h.thg r' t).upd k.toNat y))[t']?=some x:=h2
          by_cases ht':t'=t
          · subst ht'
            rw [List.getElem?_set_self (List.getElem?_eq_some_iff.1 ht.2).1] at h2
            cases h2;exact .inl ⟨rfl,rfl,rfl⟩
          · rw [List.getElem?_set_ne (Ne.symm ht')] at h2
            exact .inr ⟨fun hc=> ht' hc.2,h1,h2⟩
        · rw [hreg _ (by omega)] at h2;exact .inr ⟨fun hc=> hr hc.1,h1,h2⟩
       have hsame:∀(r' t':Nat) (x:Thg),Q4e ⟨h.l.set r ((h.reg r).upd t ((h.thg r t).upd k.toNat y)),h.left⟩ r' t' x→∃x0,Q4e h r' t' x0∧x0.size=x.size:=fun r' t' x hx=> by
        rcases hth r' t' x hx with ⟨rfl,rfl,rfl⟩|⟨_,hx⟩
        · exact ⟨_,ht,by unfold Thg.size Thg.upd QZ;simp⟩
        · exact ⟨x,hx,rfl⟩
       have hin:e.p.isIn (φ.a r t+(h.thg r t).off+k)=true:=isIn_iff.2 (by omega)
       have hw:∀i,(e.store (φ.a r t+(h.thg r t).off+k) ny).word i=if i=φ.a r t+(h.thg r t).off+k then ny else e.word i:=Q62 H.ok.pok hin
       refine ⟨_,ho,g1,hc.1,by omega,?_⟩
       refine ⟨⟨ok_st H.ok _ _,by show h.left=((e.p.store _ _).fr.length:Int);rw [PoolS.fr_store];exact H.left,?_,fun r' hr'=> ?_,fun r' q hr hq hs=> H.inj r' q (by rw [←hhas];exact hr) (by rw [←hhas];exact hq) hs,fun k' hk' hp j h1 h2=> ?_,fun r' t' x hx=> ?_,fun r' t' x r2 t2 x2 hx hx2 hn=> ?_,fun r' t' x hx=> ?_⟩,hM⟩
       · have h5:=Q4K (r':=(h.reg r).upd t ((h.thg r t).upd k.toNat y)) (Q29 ht.1).2.2.1
         rw [show ((h.reg r).upd t ((h.thg r t).upd k.toNat y)).there=(h.reg r).there from rfl] at h5
         have h4:=H.cnt
         unfold HpS.live at h4 ⊢
         simp only [Int.toNat_natCast] at h5 ⊢
         have h6:∀q:EstS,q.rs=e.rs→q.count=e.count:=fun q hq=> by unfold EstS.count;rw [hq]
         rw [h6 (e.store _ _) rfl]
         omega
       · rw [hhas] at hr'
         obtain ⟨k1,k2,k3,k4⟩:=H.live r' hr'
         refine ⟨k1,k2,?_⟩
         rw [hrg]
         by_cases hq:(r':Int)=r
         · rw [if_pos hq,←hq];exact ⟨k3,k4⟩
         · rw [if_neg hq];exact ⟨k3,k4⟩
       · have h3:=hw ((e.reg k').last*16+j)
         refine h3.trans ?_
         obtain ⟨q,q1,q2,q3⟩:=H.at_ r t _ ht
         have hs:=(H.live r ht.1).1
         have hlq:=Qd4 H.ok hs (q:=q)
         have hu:=EstS.used_rng H.ok hk'
         have h1:(e.reg k').used≤j:=h1
         have hp:(e.reg k').pages≠[]:=hp
         rw [if_neg]
         · exact H.z k' hk' hp j h1 h2
         · intro hc2
           have hqe:q=(e.reg k').last:=by omega
           have hkk:=Q9h H.ok hs hk' q1 (hqe ▸ Q9G hp)
           have:(e.reg (φ.σ r)).lim q=(e.reg (φ.σ r)).used:=by unfold Reg.lim;rw [if_pos (by rw [hqe,hkk])]
           rw [hkk] at this q3
           omega
       · obtain ⟨x0,hx0,hs0⟩:=hsame r' t' x hx
         rw [←hs0];exact H.at_ r' t' x0 hx0
       · obtain ⟨x0,hx0,hs0⟩:=hsame r' t' x hx
         obtain ⟨y0,hy0,hs1⟩:=hsame r2 t2 x2 hx2
         rw [←hs0,←hs1];exact H.apart _ _ _ _ _ _ hx0 hy0 hn
       · rcases hth r' t' x hx with ⟨rfl,rfl,rfl⟩|⟨hn,hx⟩
         · have hl:=H.lies _ _ _ ht
           refine ⟨fun har=> ?_,fun i u hu=> ?_⟩
           · have har':(h.thg r' t').array=true:=har
             rw [hw,if_neg (by unfold Thg.off;rw [if_pos har'];omega)]
             rw [hl.1 har']
             show ((h.thg r' t').l.length:Int)=(((h.thg r' t').l.set k.toNat y).length:Int)
             rw [List.length_set]
           · have hu:((h.thg r' t').l.set k.toNat y)[i]?=some u:=hu
             show WVR φ _ u ((e.store _ ny).word (φ.a r' t'+(h.thg r' t').off+i))
             rw [hw]
             by_cases hik:i=k.toNat
             · subst hik
               rw [List.getElem?_set_self (by omega)] at hu
               cases hu
               rw [if_pos (by omega)];exact hM _ _ hy
             · rw [List.getElem?_set_ne (Ne.symm hik)] at hu
               rw [if_neg (by omega)];exact hM _ _ (hl.2 i u hu)
         · have hap:=H.apart _ _ _ _ _ _ hx ht hn
           refine hM.lies (e:=e) (fun i i1 i2=> ?_) (H.lies _ _ _ hx)
           rw [hw,if_neg (by omega)]
     · cases hg
end Go.Proofs.YteflkifmgnpbhaaGreat
namespace Go.Proofs.YteflkifmgnpbhaaGreat
open Go.Lir
set_option linter.unusedVariables false
set_option linter.unusedSimpArgs false
def FrR (φ:RMap) (h:HpS) (g:Frm) (g':RFrm):Prop:=g.f=g'.f∧g.b=g'.b∧g.i=g'.i∧WVRs φ h g.vals g'.vals
def FrsR (φ:RMap) (h:HpS):List Frm→List RFrm→Prop
 | [],[]=> True
 | a::l,b::l'=> FrR φ h a b∧FrsR φ h l l'
 | _,_=> False
structure SimF (φ:RMap) (s:MS) (r:RS):Prop where
 hr:WHR φ s.h r.e
 g:FrR φ s.h s.g r.g
 st:FrsR φ s.h s.st r.st
 inp:s.inp=r.inp
 out:s.out=r.out
 fuel:s.fuel=r.fuel
def Sim (s:MS) (r:RS):Prop:=∃φ,SimF φ s r
def StpR:Stp→RStp→Prop
 | .lost,_=> True
 | .go s,r=>∃r',r= .go r'∧Sim s r'
 | .halt e,r=> r= .halt e
 | .done l,r=> r= .done l
theorem Q32 {α:Type}{x:Option α}{f:α→Stp}{Y:RStp}(h:∀a,x=some a→StpR (f a) Y):StpR (Q16 x f) Y:=by
 cases x with
 | none=> trivial
 | some a=> exact h a rfl
theorem Q8B {p:Prop} [Decidable p] {X:Stp}{Y:RStp}(h:¬p→StpR X Y):StpR (if p then .lost else X) Y:=by
 split
 · trivial
 · rename_i hp;exact h hp
variable {m:Module}{φ φ':RMap}{h h':HpS}{s:MS}{r:RS}{k:Int}
theorem Mono.frs (hM:Mono φ h φ' h'):∀{l:List Frm}{l':List RFrm},FrsR φ h l l'→FrsR φ' h' l l'
 | [],[],_=> trivial
 | a::l,b::l',hf=> ⟨⟨hf.1.1,hf.1.2.1,hf.1.2.2.1,hM.vrs hf.1.2.2.2⟩,Mono.frs hM hf.2⟩
 | [],_::_,hf=> hf.elim
 | _::_,[],hf=> hf.elim
theorem Qce:∀{l:List Frm}{l':List RFrm},FrsR φ h l l'→l.length=l'.length
 | [],[],_=> rfl
 | a::l,b::l',hf=> by rw [List.length_cons,List.length_cons,Qce hf.2]
 | [],_::_,hf=> hf.elim
 | _::_,[],hf=> hf.elim
theorem Q7n {g:Frm}{g':RFrm}(hf:FrR φ h g g'){v:Val}(hv:g.val k=some v):∃n,g'.val k=some n∧WVR φ h v n:=by
 unfold Frm.val at hv
 unfold RFrm.val
 split at hv
 · cases hv
 · rename_i hk
   rw [if_neg hk]
   exact hf.2.2.2.get hv
theorem QaI {g:Frm}{g':RFrm}(hf:FrR φ h g g'){n:Int}(hv:g.num k=some n):g'.val k=some n:=by
 unfold Frm.num at hv
 cases hx:g.val k with
 | none=> rw [hx] at hv;cases hv
 | some v=>
   rw [hx] at hv
   simp only at hv
   split at hv
   · rename_i hk
     cases hv
     obtain ⟨n,hn,hr⟩:=Q7n hf hx
     rw [hn,hr.1 hk]
   · cases hv
theorem Qbh {g:Frm}{g':RFrm}(hf:FrR φ h g g'):∀{l:List Int}{vs:List Val},g.args l=some vs→∃ns,g'.args l=some ns∧WVRs φ h vs ns∧vs.length=l.length
 | [],vs,hv=> by rw [Frm.args] at hv;cases hv;exact ⟨[],rfl,WVRs.nil _ _,rfl⟩
 | k ::l,vs,hv=> by
   rw [Frm.args] at hv
   cases hx:g.val k with
   | none=> rw [hx] at hv;cases hv
   | some v=>
     rw [hx] at hv
     cases hl:g.args l with
     | none=> rw [hl] at hv;cases hv
     | some ws=>
       rw [hl] at hv
       cases hv
       obtain ⟨n,hn,hr⟩:=Q7n hf hx
       obtain ⟨ns,hns,hrs,hlen⟩:=Qbh hf hl
       exact ⟨n::ns,by rw [RFrm.args,hn,hns],WVRs.cons hr hrs,by rw [List.length_cons,List.length_cons,hlen]⟩
theorem SimF.put (S:SimF φ s r){vs:List Val}{ns:List Int}(hv:WVRs φ s.h vs ns):SimF φ (s.put vs) (r.put ns):=
 ⟨S.hr,⟨S.g.1,S.g.2.1,S.g.2.2.1,S.g.2.2.2.app hv⟩,S.st,S.inp,S.out,S.fuel⟩
theorem SimF.heap (S:SimF φ s r){h':HpS}{e':EstS}(H:WHR φ' h' e') (hM:Mono φ s.h φ' h'):SimF φ' (s.hp h') (r.es e'):=
 ⟨H,⟨S.g.1,S.g.2.1,S.g.2.2.1,hM.vrs S.g.2.2.2⟩,hM.frs S.st,S.inp,S.out,S.fuel⟩
theorem go_r {s':MS}{r':RS}(S:SimF φ s' r'):StpR (.go s') (.go r'):=⟨r',rfl,φ,S⟩
theorem wr_s {n:Int}(h0:0≤n) (h1:n≤100000):wr n=n:=Q3M (by omega) (by omega)
theorem new_r (S:SimF φ s r):StpR s.newR (if r.e.openV < 0 then .halt 6 else .go ((r.es r.e.open).put [r.e.openV])):=by
 unfold MS.newR
 have hf:=S.hr.full
 by_cases hc:s.h.full=true
 · rw [if_pos hc,if_pos (hf.1 hc)];rfl
 · rw [if_neg hc,if_neg (fun h=> hc (hf.2 h))]
   obtain ⟨φ',H',hM,hv⟩:=S.hr.open (by simpa using hc)
   exact go_r (φ:=φ') ⟨H',⟨S.g.1,S.g.2.1,S.g.2.2.1,(hM.vrs S.g.2.2.2).app (WVRs.one hv)⟩,hM.frs S.st,S.inp,S.out,S.fuel⟩
theorem made_r (S:SimF φ s r){v:Val}{n:Int}(hv:WVR φ s.h v n){x:Int}{t:Thg}(hs:t.size=x) (hx:x≤16){kd:Int}(hkd:kd=3∨kd=4) (f:EstS→Int→EstS)
 (hf:s.h.code v x=0→∀A,A=r.e.getV n x→(f (r.e.get n x) A).Ok∧(f (r.e.get n x) A).rs=(r.e.get n x).rs∧(f (r.e.get n x) A).p.fr=(r.e.get n x).p.fr∧(∀i,¬(A≤i∧i < A+x)→(f (r.e.get n x) A).word i=(r.e.get n x).word i)∧Lies φ s.h (f (r.e.get n x) A) A t):
 StpR (s.made (s.h.code v x) (s.h.put v x t) (s.h.putV v kd x)) (r.gotR n x fun e at_=> .go ((r.es (f e at_)).put [at_])):=by
 unfold MS.made
 have hx1:1≤x:=hs ▸ QcB t
 by_cases h20:s.h.code v x=20
 · rw [if_neg (by omega),if_pos (by omega)];trivial
 · have hc:=S.hr.code hv (Q7i h20) ⟨hx1,hx⟩
   unfold RS.gotR
   rw [hc]
   by_cases h14:s.h.code v x=14
   · rw [if_pos h14,if_pos h14];rfl
   · rw [if_neg h14,if_neg h14]
     refine Q8B fun h0=> ?_
     have h0:s.h.code v x=0:=by omega
     obtain ⟨g1,g2,g3,g4,g5⟩:=hf h0 _ rfl
     obtain ⟨φ',H',hM,hv'⟩:=S.hr.put hv hs hx h0 hkd g1 g2 g3 g4 g5
     exact go_r ((S.heap H' hM).put (WVRs.one hv'))
theorem got_in (H:WHR φ h r.e){v:Val}{n:Int}(hv:WVR φ h v n){x:Int}(hx1:1≤x) (hx:x≤16) (h0:h.code v x=0):(r.e.get n x).Ok∧0≤r.e.getV n x∧r.e.getV n x+x≤(((r.e.get n x).p.n*16:Nat):Int)∧r.e.getV n x+x≤1024∧∀i,r.e.getV n x≤i→i < r.e.getV n x+x→(r.e.get n x).word i=0:=by
 have hcan:=Q7i (h:=h) (v:=v) (x:=x) (by omega)
 have hc0:r.e.code n x=0:=(H.code hv hcan ⟨hx1,hx⟩).trans h0
 obtain ⟨r0,hr0,hh0,rfl,hlt0⟩:=H.slot hv hcan
 obtain ⟨hm,hth0,hpg,hus⟩:=H.live r0 hh0
 obtain ⟨P,u,G⟩:=getF H.ok hm hc0
 have hok:=EstS.ok_get H.ok (φ.σ r0) x
 have hux:=G.ux
 have hv:=G.v
 have hp:=QbS hok hm G.mem
 have h64:=hok.n64
 refine ⟨hok,by omega,by omega,by omega,fun i i1 i2=> ?_⟩
 show (r.e.get (φ.σ r0) x).p.word i=0
 by_cases hpp:P∈(r.e.reg (φ.σ r0)).pages
 · obtain ⟨h6,h7⟩:=G.old hpp
   rw [G.wo hpp]
   have:=H.z _ hm (by intro h9;rw [h9] at hpp;simp at hpp) (i - P*16) (by omega) (by omega)
   rw [←h6,show P*16+(i - P*16)=i by omega] at this
   exact this
 · exact G.wz hpp _ (by omega)
theorem tuple_r (S:SimF φ s r){v:Val}{n:Int}(hv:WVR φ s.h v n){l:List Val}{ns:List Int}(hl:WVRs φ s.h l ns){q:Nat}(hq:l.length=q) (h16:q≤16):
 StpR (s.made (s.h.code v (QZ l)) (s.h.tuple v l) (s.h.putV v 3 (QZ l))) (r.gotR n (max (q:Int) 1) fun e at_=> .go ((r.es (e.stores at_ ns)).put [at_])):=by
 have hw:max (q:Int) 1=QZ l:=by unfold QZ;split <;> omega
 rw [hw]
 have hw1:1≤QZ l∧QZ l≤16∧(l.length:Int)≤QZ l:=by unfold QZ;split <;> omega
 have hln:=hl.1
 refine made_r S hv (t:=⟨false,l⟩) (by unfold Thg.size;rfl) hw1.2.1 (.inl rfl) (fun e a=> e.stores a ns) fun h0 A hA=> ?_
 subst hA
 obtain ⟨hok,a0,a1,a2,az⟩:=got_in S.hr hv hw1.1 hw1.2.1 h0
 obtain ⟨g1,g2,g3,g4,g5⟩:=stores_p (l:=ns) hok a0 (by omega)
 refine ⟨g1,g2,g4,fun i hi=> (by rw [g5,if_neg (by omega)]),fun ha=> (by cases ha),fun i u hu=> ?_⟩
 have hi:=(List.getElem?_eq_some_iff.1 hu).1
 have hi:i < l.length:=hi
 rw [g5]
 show WVR φ s.h u (if r.e.getV n (QZ l)≤r.e.getV n (QZ l)+0+i∧r.e.getV n (QZ l)+0+i < r.e.getV n (QZ l)+ns.length then ns.getD (r.e.getV n (QZ l)+0+i - r.e.getV n (QZ l)).toNat 0 else _)
 rw [if_pos (by omega),show (r.e.getV n (QZ l)+0+i - r.e.getV n (QZ l)).toNat=i by omega]
 obtain ⟨y,hy,hvy⟩:=hl.get hu
 rw [List.getD_eq_getElem?_getD,hy];exact hvy
theorem array_r (S:SimF φ s r){v:Val}{n k:Int}(hv:WVR φ s.h v n) (h0:0≤k) (h15:k≤15):
 StpR (s.made (s.h.arrC v k) (s.h.arr v k) (s.h.arrV v k)) (r.gotR n (1+k) fun e at_=> .go ((r.es (e.store at_ k)).put [at_])):=by
 have hc:¬(k < 0∨15 < k):=by omega
 unfold HpS.arrC HpS.arr HpS.arrV
 rw [if_neg hc,if_neg hc,if_neg hc,show 1+k=k+1 by omega]
 have hnl:(Q1R k).length=k.toNat:=List.length_replicate
 refine made_r S hv (t:=⟨true,Q1R k⟩) (by unfold Thg.size;rw [if_pos rfl];show 1+((Q1R k).length:Int)=_;rw [hnl];omega) (by omega) (.inr rfl) (fun e a=> e.store a k) fun hc0 A hA=> ?_
 subst hA
 obtain ⟨hok,a0,a1,a2,az⟩:=got_in S.hr hv (by omega) (by omega) hc0
 have hin:(r.e.get n (k+1)).p.isIn (r.e.getV n (k+1))=true:=isIn_iff.2 (by omega)
 have hw:∀i,((r.e.get n (k+1)).store (r.e.getV n (k+1)) k).word i=if i=r.e.getV n (k+1) then k else (r.e.get n (k+1)).word i:=Q62 hok.pok hin
 refine ⟨ok_st hok _ _,rfl,PoolS.fr_store,fun i hi=> (by rw [hw,if_neg (by omega)]),fun _=> ?_,fun i u hu=> ?_⟩
 · rw [hw,if_pos rfl];show k=((Q1R k).length:Int);rw [hnl];omega
 · have hu:(Q1R k)[i]?=some u:=hu
   have hi:=(List.getElem?_eq_some_iff.1 hu).1
   rw [hnl] at hi
   have hue:u=intV 0:=by
    unfold Q1R at hu
    rw [List.getElem?_replicate] at hu
    rw [if_pos hi] at hu
    exact (Option.some.inj hu).symm
   rw [hue,hw,if_neg (by show¬(_+1+_=_);omega),az _ (by show _≤_+1+_;omega) (by show _+1+_ < _;omega)]
   exact WVR.int _ _ _
theorem QfA {v:Val}{c:Int}{X:Stp}{Y:RStp}(h:v.kind=4→c≠20→(c=1→Y= .halt 2)∧(c=0→StpR X Y)) (hc:c=0∨c=1∨c=20):StpR (Q2A v c X) Y:=by
 unfold Q2A
 refine Q8B fun hk=> ?_
 have hk:v.kind=4:=by omega
 rcases hc with hc|hc|hc
 · rw [if_neg (by omega),if_neg (by omega)];exact (h hk (by omega)).2 hc
 · rw [if_pos hc];exact (h hk (by omega)).1 hc
 · rw [if_neg (by omega),if_pos (by omega)];trivial
theorem Qgh (h:HpS) (v:Val) (k:Int):(h.get v k).2=0∨(h.get v k).2=1∨(h.get v k).2=20:=by
 unfold HpS.get;split
 · simp
 · split <;> simp
theorem Qdw (h:HpS) (v:Val) (k:Int) (y:Val):h.setC v k y=0∨h.setC v k y=1∨h.setC v k y=20:=by
 unfold HpS.setC;split
 · simp
 · split
   · simp
   · split <;> simp
theorem QfP (h:HpS) (v:Val):(h.len v).2=0∨(h.len v).2=1∨(h.len v).2=20:=by
 unfold HpS.len;split <;> simp
theorem ins_r (S:SimF φ s r){x:Ins}(h16:x.args.length≤16):StpR (s.ins m x) (r.ins m x):=by
 have hg:=S.g
 unfold MS.ins RS.ins
 by_cases o1:x.op=1
 · rw [if_pos o1,if_pos o1];exact go_r (S.put (WVRs.one (WVR.int _ _ _)))
 rw [if_neg o1,if_neg o1]
 by_cases o2:x.op=2
 · rw [if_pos o2,if_pos o2]
   refine Q32 fun a ha=> Q32 fun b hb=> ?_
   rw [Q1v (QaI hg ha),Q1v (QaI hg hb)]
   split
   · rfl
   · exact go_r (S.put (WVRs.one (WVR.int _ _ _)))
 rw [if_neg o2,if_neg o2]
 by_cases o3:x.op=3
 · rw [if_pos o3,if_pos o3];exact new_r S
 rw [if_neg o3,if_neg o3]
 by_cases o4:x.op=4
 · rw [if_pos o4,if_pos o4]
   refine Q32 fun v hv=> ?_
   obtain ⟨n,hn,hr⟩:=Q7n hg hv
   rw [Q1v hn]
   refine Q8B fun hc=> ?_
   obtain ⟨H',hM⟩:=S.hr.shut hr (by simpa using hc)
   exact go_r (S.heap H' hM)
 rw [if_neg o4,if_neg o4]
 by_cases o5:x.op=5
 · rw [if_pos o5,if_pos o5]
   refine Q32 fun v hv=> Q32 fun l hl=> ?_
   obtain ⟨n,hn,hr⟩:=Q7n hg hv
   obtain ⟨ns,hns,hrs,hlen⟩:=Qbh hg hl
   rw [Q1v hn,Q1v hns]
   exact tuple_r S hr hrs hlen h16
 rw [if_neg o5,if_neg o5]
 by_cases o6:x.op=6
 · rw [if_pos o6,if_pos o6]
   refine Q32 fun v hv=> ?_
   obtain ⟨n,hn,hr⟩:=Q7n hg hv
   rw [Q1v hn]
   refine Q8B fun hk=> Q8B fun h0=> ?_
   obtain ⟨o,ho,p0,p1,p2,p3⟩:=S.hr.get hr (k:=x.k) (by omega)
   rw [if_neg (by omega)] at ho
   subst ho
   rw [wr_s (by omega) (by omega)]
   rw [Int.add_zero] at p3
   exact go_r (S.put (WVRs.one p3))
 rw [if_neg o6,if_neg o6]
 by_cases o7:x.op=7
 · rw [if_pos o7,if_pos o7]
   refine Q32 fun v hv=> ?_
   obtain ⟨n,hn,hr⟩:=Q7n hg hv
   rw [Q1v hn]
   refine Q8B fun hk=> Q32 fun y hy=> ?_
   obtain ⟨b,hb,hry⟩:=Q7n hg hy
   rw [Q1v hb]
   refine Q8B fun h0=> ?_
   obtain ⟨o,ho,p0,p1,p2,p3,p4⟩:=S.hr.set hr (k:=x.k) hry (by omega)
   rw [if_neg (by omega)] at ho
   subst ho
   rw [wr_s (by omega) (by omega)]
   rw [Int.add_zero] at p3
   exact go_r (S.heap p3 p4)
 rw [if_neg o7,if_neg o7]
 by_cases o8:x.op=8
 · rw [if_pos o8,if_pos o8]
   refine Q32 fun v hv=> Q32 fun k hk=> ?_
   obtain ⟨n,hn,hr⟩:=Q7n hg hv
   rw [Q1v hn,Q1v (QaI hg hk)]
   by_cases hc:k < 0∨15 < k
   · rw [if_pos hc,if_pos hc];rfl
   · rw [if_neg hc,if_neg hc];exact array_r S hr (by omega) (by omega)
 rw [if_neg o8,if_neg o8]
 by_cases o9:x.op=9
 · rw [if_pos o9,if_pos o9]
   refine Q32 fun v hv=> Q32 fun k hk=> ?_
   obtain ⟨n,hn,hr⟩:=Q7n hg hv
   rw [Q1v hn,Q1v (QaI hg hk)]
   refine QfA (fun h4 h20=> ?_) (Qgh _ _ _)
   obtain ⟨q1,q2,q3,q4⟩:=S.hr.len hr h4 (get_at h20)
   unfold RS.atR
   rw [q1]
   have q5:=q4 k
   refine ⟨fun h1=> if_pos ?_,fun h0=> ?_⟩
   · rw [h1] at q5;split at q5 <;> omega
   · obtain ⟨o,ho,p0,p1,p2,p3⟩:=S.hr.get hr h0
     rw [if_pos h4] at ho
     subst ho
     rw [if_neg (by rw [h0] at q5;split at q5 <;> omega),wr_s (n:=n+1) (by omega) (by omega),wr_s (by omega) (by omega)]
     exact go_r (S.put (WVRs.one p3))
 rw [if_neg o9,if_neg o9]
 by_cases o10:x.op=10
 · rw [if_pos o10,if_pos o10]
   refine Q32 fun v hv=> Q32 fun k hk=> Q32 fun c hc=> ?_
   obtain ⟨n,hn,hr⟩:=Q7n hg hv
   rw [Q1v hn,Q1v (QaI hg hk),Q1v (QaI hg hc)]
   refine QfA (fun h4 h20=> ?_) (Qdw _ _ _ _)
   obtain ⟨q1,q2,q3,q4⟩:=S.hr.len hr h4 (setC_at h20)
   have q5:=setC_rng h4 h20
   unfold RS.atR
   rw [q1]
   refine ⟨fun h1=> if_pos ?_,fun h0=> ?_⟩
   · rw [h1] at q5;split at q5 <;> omega
   · obtain ⟨o,ho,p0,p1,p2,p3,p4⟩:=S.hr.set hr (WVR.int φ s.h c) h0
     rw [if_pos h4] at ho
     subst ho
     rw [if_neg (by rw [h0] at q5;split at q5 <;> omega),wr_s (n:=n+1) (by omega) (by omega),wr_s (by omega) (by omega)]
     exact go_r (S.heap p3 p4)
 rw [if_neg o10,if_neg o10]
 by_cases o11:x.op=11
 · rw [if_pos o11,if_pos o11]
   refine Q32 fun v hv=> ?_
   obtain ⟨n,hn,hr⟩:=Q7n hg hv
   rw [Q1v hn]
   refine QfA (fun h4 h20=> ?_) (QfP _ _)
   refine ⟨fun h1=> ?_,fun h0=> ?_⟩
   · unfold HpS.len at h1;split at h1 <;> simp at h1
   · obtain ⟨q1,_⟩:=S.hr.len hr h4 h0
     rw [q1]
     exact go_r (S.put (WVRs.one (WVR.int _ _ _)))
 rw [if_neg o11,if_neg o11]
 by_cases o12:x.op=12
 · rw [if_pos o12,if_pos o12]
   unfold MS.inS RS.inR
   rw [←S.inp]
   cases s.inp with
   | nil=> rfl
   | cons n l=>
     have S':SimF φ ⟨s.h,s.g,s.st,l,s.out,s.fuel⟩ ⟨r.e,r.g,r.st,l,r.out,r.fuel⟩:=⟨S.hr,S.g,S.st,rfl,S.out,S.fuel⟩
     exact go_r (S'.put (WVRs.one (WVR.int _ _ _)))
 rw [if_neg o12,if_neg o12]
 by_cases o13:x.op=13
 · rw [if_pos o13,if_pos o13]
   refine Q32 fun n hn=> ?_
   rw [Q1v (QaI hg hn)]
   unfold MS.outS RS.outR
   rw [←S.out]
   split
   · rfl
   · exact go_r (φ:=φ) ⟨S.hr,S.g,S.st,S.inp,rfl,S.fuel⟩
 rw [if_neg o13,if_neg o13]
 unfold MS.call
 cases hf:m.funcs[x.k.toNat]? with
 | none=> trivial
 | some gf=>
   refine Q32 fun rs hrs=> Q32 fun vs hvs=> ?_
   obtain ⟨ns,hns,hv,hlen⟩:=Qbh hg hvs
   rw [Q1v hns]
   refine Q8B fun _=> ?_
   have hst:=Qce S.st
   unfold RS.callR
   by_cases h40:s.st.length+1=40
   · rw [if_pos h40,if_pos (by omega)];rfl
   · rw [if_neg h40,if_neg (by omega)]
     exact go_r (φ:=φ) ⟨S.hr,⟨rfl,rfl,rfl,hv⟩,⟨S.g,S.st⟩,S.inp,S.out,S.fuel⟩
theorem to_r (S:SimF φ s r){f:Fun}{t:To}:StpR (s.to f t) (r.to t):=by
 unfold MS.to RS.to
 cases hb:f.blocks[t.block.toNat]? with
 | none=> trivial
 | some b=>
   refine Q32 fun rs hrs=> Q32 fun vs hvs=> ?_
   obtain ⟨ns,hns,hv,hlen⟩:=Qbh S.g hvs
   rw [Q1v hns]
   refine Q8B fun _=> ?_
   exact go_r (φ:=φ) ⟨S.hr,⟨S.g.1,rfl,rfl,hv⟩,S.st,S.inp,S.out,S.fuel⟩
theorem Qg3:∀{vs:List Val}{ns l:List Int},WVRs φ h vs ns→intsV vs=some l→l=ns
 | [],ns,l,hv,hi=> by
   rw [intsV] at hi;cases hi
   exact (List.length_eq_zero_iff.1 hv.1.symm).symm
 | v::vs,[],l,hv,hi=> by have:=hv.1;simp at this
 | v ::vs,n::ns,l,hv,hi=> by
   rw [intsV] at hi
   cases hx:intsV vs with
   | none=> rw [hx] at hi;cases hi
   | some l'=>
     rw [hx] at hi
     simp only at hi
     split at hi
     · rename_i hk
       cases hi
       have h1:=Qg3 (ns:=ns) ⟨by have:=hv.1;simpa using this,fun i u q h1 h2=> hv.2 (i+1) u q (by simpa using h1) (by simpa using h2)⟩ hx
       have h2:=(hv.2 0 v n rfl rfl).1 hk
       rw [h1,h2]
     · cases hi
theorem fin_r (S:SimF φ s r){f:Fun}{e:Tail}(he:1≤e.op∧e.op≤3):StpR (s.fin f e) (r.fin e):=by
 unfold MS.fin RS.fin
 by_cases h1:e.op=1
 · rw [if_pos h1,if_neg (by omega),if_neg (by omega)];exact to_r S
 rw [if_neg h1]
 by_cases h2:e.op=2
 · rw [if_pos h2,if_neg (by omega),if_pos h2]
   refine Q32 fun n hn=> ?_
   rw [Q1v (QaI S.g hn)]
   by_cases h0:n=0
   · rw [if_neg (by omega),if_pos h0];exact to_r S
   · rw [if_pos h0,if_neg h0];exact to_r S
 rw [if_neg h2,if_pos (by omega)]
 unfold MS.ret
 refine Q32 fun vs hvs=> ?_
 obtain ⟨ns,hns,hv,hlen⟩:=Qbh S.g hvs
 rw [Q1v hns]
 refine Q8B fun _=> ?_
 have hst:=S.st
 cases hs:s.st with
 | nil=>
   rw [hs] at hst
   cases hr:r.st with
   | cons c l=> rw [hr] at hst;exact hst.elim
   | nil=>
     simp only
     cases hi:intsV vs with
     | none=> trivial
     | some l=> show RStp.done ns= .done l;rw [Qg3 hv hi]
 | cons c l=>
   rw [hs] at hst
   cases hr:r.st with
   | nil=> rw [hr] at hst;exact hst.elim
   | cons c' l'=>
     rw [hr] at hst
     have S':SimF φ ⟨s.h,c,l,s.inp,s.out,s.fuel⟩ ⟨r.e,c',l',r.inp,r.out,r.fuel⟩:=⟨S.hr,hst.1,hst.2,S.inp,S.out,S.fuel⟩
     exact go_r (S'.put hv)
def CodeOK (m:Module):Prop:=∀(i j:Nat) (f:Fun) (b:Block),m.funcs[i]?=some f→f.blocks[j]?=some b→(∀x∈b.code,x.args.length≤16)∧1≤b.fin.op∧b.fin.op≤3
theorem one_r (hM:CodeOK m) (S:SimF φ s r):StpR (s.one m) (r.one m):=by
 unfold MS.one RS.one
 obtain ⟨e1,e2,e3,hv⟩:=S.g
 rw [←e1,←e2,←e3]
 cases hf:m.funcs[s.g.f]? with
 | none=> trivial
 | some f=>
   simp only
   cases hb:f.blocks[s.g.b]? with
   | none=> trivial
   | some b=>
     simp only
     obtain ⟨c1,c2⟩:=hM _ _ _ _ hf hb
     cases hx:b.code[s.g.i]? with
     | none=> exact fin_r S c2
     | some x=>
       have S':SimF φ s.next r.next:=⟨S.hr,⟨e1,e2,by show s.g.i+1=r.g.i+1;omega,hv⟩,S.st,S.inp,S.out,S.fuel⟩
       exact ins_r S' (c1 _ (List.mem_of_getElem? hx))
theorem tick_r (S:SimF φ s r):SimF φ s.tick r.tick:=⟨S.hr,S.g,S.st,S.inp,S.out,by show s.fuel+1=r.fuel+1;rw [S.fuel]⟩
theorem start_r {inp:List Int}{pages:Nat}(hp:pages≤64):Sim (MS.start inp pages) (RS.start inp pages):=by
 have hreg:∀k:Nat,k < 16→(EstS.mk0 pages).reg k=Reg.none:=fun k hk=> by
  unfold EstS.reg;rw [if_pos (by omega),Int.toNat_natCast,List.getD_eq_getElem?_getD];show ((List.replicate 16 Reg.none)[k]?).getD Reg.none=_;rw [List.getElem?_replicate,if_pos hk];rfl
 have hno:∀q:Int,(⟨[],pages⟩:HpS).has q=false:=fun q=> by
  unfold HpS.has HpS.reg
  split <;> simp [Rgn.none]
 refine ⟨⟨fun _=> 0,fun _ _=> 0⟩,⟨EstS.ok_new hp,?_,rfl,fun q hq=> ?_,fun q _ hq=> ?_,fun k hk hpg=> ?_,fun q t x hx=> ?_,fun q t x _ _ _ hx=> ?_,fun q t x hx=> ?_⟩,⟨rfl,rfl,rfl,WVRs.nil _ _⟩,trivial,rfl,rfl,rfl⟩
 · show (pages:Int)=((Q2t pages pages).length:Int);rw [Q4P]
 · exact absurd ((hno _).symm.trans hq) (by simp)
 · exact absurd ((hno _).symm.trans hq) (by simp)
 · exact absurd (by show ((EstS.mk0 pages).reg k).pages=[];rw [hreg k hk];rfl) hpg
 · exact absurd ((hno _).symm.trans hx.1) (by simp)
 · exact absurd ((hno _).symm.trans hx.1) (by simp)
 · exact absurd ((hno _).symm.trans hx.1) (by simp)
end Go.Proofs.YteflkifmgnpbhaaGreat
