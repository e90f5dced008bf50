
/- Lemmas of the proof, part 3: what the functions of the program do (contracts), and what follows. -/
import Derived.Test.YteflkifmgnpbhaaGreatZ2
import Derived.Test.YteflkifmgnpbhaaGreatProg
import Derived.Test.YteflkifmgnpbhaaGreatZ1
open Go Go.Lir Go.Proofs.YteflkifmgnpbhaaGreat
variable {α:Type}{x:Fun}{cx:Cx}{w:World}{L:List Res}{tk l l' out vs:List Int}{j m N M q:Nat}{pp u v2 vf:Value}{e:Tail}{at' op regs:Int}{cs ds:List Value}{is:Bool}
set_option linter.unusedVariables false
set_option linter.unusedSimpArgs false
set_option maxHeartbeats 1000000
namespace Go.Lir
section
variable {p:Prop}
theorem Dg (h:p:=by repeat constructor):p:=h
theorem Dh (h:p:=by exact Fb _):p:=h
theorem Dj (h:p:=by intro _;decide):p:=h
theorem Dk (h:p:=by show g.vals.length+1≤1000000;omega):p:=h
theorem Dn (h:p:=by (repeat constructor);first|done|fail):p:=h
theorem Dp (h:p:=by simp [Qr]):p:=h
theorem Dt (h:p:=by first|omega|(simp only [Fb,Fc,Fk,FF,FL,F6];omega)):p:=h
theorem Du (h:p:=by rw [Fb];simp only [Fk,FF];omega):p:=h
theorem DJ (h:p:=by rw [Fb];omega):p:=h
theorem DQ (h:p:=by (exact AN)):p:=h
theorem DX (h:p:=by show g.vals.length≤900000;omega):p:=h
theorem D2 (h:p:=by rw [Qc];omega):p:=h
theorem D5 (h:p:=by first|(exact AN)|(exact As)):p:=h
theorem D7 (h:p:=by rw [Fk,oS,hlen];omega):p:=h
theorem D8 (h:p:=by unfold Oj; (repeat (first | rw [if_pos Jo] | rw [if_neg Jo]))):p:=h
theorem Eb (h:p:=by rw [Gm];omega):p:=h
theorem Ef (h:p:=by (simp [oneC];done)):p:=h
theorem Ek (h:p:=by intro c hc;obtain ⟨r,_,rfl⟩:=FU.1 hc;rfl):p:=h
theorem Em (h:p:=by rw [FM Jo] at hls;exact hls):p:=h
theorem En (h:p:=by simp only [Fk,FF];omega):p:=h
theorem Ez (h:p:=by rw [show Value.int .i64 e.yes.block= .int .i64 ((e.yes.block.toNat:Nat):Int) by rw [FO hb0]];exact Da):p:=h
theorem EC (h:p:=by rw [List.eraseIdx_append_of_length_le (FE _)];simp):p:=h
theorem EE (h:p:=by unfold EstS.open;rw [hlow,if_pos Jo]):p:=h
theorem EF (h:p:=by unfold EstS.openV;rw [hlow,if_pos Jo]):p:=h
theorem EX (h:p:=by rw [Fk,oS,FL,hlen];omega):p:=h
theorem EZ (h:p:=by rw [Fb,Fb];omega):p:=h
end
end Go.Lir
namespace Go.Lir
section
variable {p:Prop}
theorem As (h:p:=by exact QZ hS rfl fd rfl):p:=h
theorem Aw (h:p:=by exact .inl ⟨_,rfl,hG⟩):p:=h
theorem Ay (h:p:=by exact ⟨0,zh,zh,Jo,by simp,hS.sp⟩):p:=h
theorem Az (h:p:=by exact ⟨_,rfl,rfl,hS.sp⟩):p:=h
theorem AD (h:p:=by exact ⟨_,rfl,by simp [NB, *],rfl⟩):p:=h
theorem AE (h:p:=by exact ⟨_,zh,zh,by exact ⟨fun _=> .inr ⟨(by first|rfl|assumption),Jo⟩,fun _=>rfl⟩,hS.sp⟩):p:=h
theorem AN (h:p:=by exact Qt hS hel rfl fd (Qc fr g) (Qg fr g) rfl):p:=h
theorem AO (h:p:=by exact absurd rfl h):p:=h
theorem AP (h:p:=by exact fun e=>absurd (congrArg List.length e) Jo):p:=h
theorem AY (h:p:=by exact ⟨zh,zh,by first|(rw [if_pos Jo];exact hS.sp)|(rw [if_neg Jo];exact hS.sp)⟩):p:=h
theorem A5 (h:p:=by exact .inr ⟨_,rfl,rfl,hS.sp⟩):p:=h
theorem A8 (h:p:=by exact ⟨6,hX.trans (if_pos (show s.openV<0 by omega)),rfl,fr,g.nx,(by rw [Qb9 (show s.openV<0 by omega)] at hS;exact hS.sp)⟩):p:=h
theorem Bh (h:p:=by exact ⟨0,zh,zh,Jo,Jo,by simp,hS.sp⟩):p:=h
theorem Bk (h:p:=by exact ⟨cx,0, .slice none 0 0,[],zh,zh,FV hS,Jo,GB _ _ _,rfl,by have hS:=hS.nil (T:=115) (es:=3);exact hS⟩):p:=h
theorem Bq (h:p:=by exact ⟨4,hX.trans (iZ (GI.1 (by show inp.length=0;omega))),rfl,fr,g.nx,hS.sp⟩):p:=h
theorem Bu (h:p:=by exact ⟨_,rfl,cx,FV hS,Gj _ _ _,hS⟩):p:=h
theorem Bw (h:p:=by exact ⟨_,rfl,by simp [O0, *],rfl⟩):p:=h
theorem By (h:p:=by exact ⟨_,rfl,c3,hle3,hl3,hS⟩):p:=h
theorem BE (h:p:=by exact ⟨⟨c2,j+1,_,_,zh,zh,hle.trans hle2,Jo,by rw [TZ hx1];assumption,by assumption,hS.sp⟩,Qj Jo⟩):p:=h
theorem BF (h:p:=by exact ⟨_,rfl,rfl,Gn hS hi⟩):p:=h
theorem BM (h:p:=by exact ⟨_, rfl, cx, FV hS, Gj _ _ _, hS⟩):p:=h
theorem BY (h:p:=by exact ⟨_,zh,zh,by exact ⟨fun _=>⟨(by first|rfl|assumption),Jo⟩,fun _=>rfl⟩,hS.sp⟩):p:=h
theorem B1 (h:p:=by exact ⟨_,zh,zh,by exact ⟨fun h=>Bool.noConfusion h,fun h=>h.elim (fun h=>hq3.2 h) (fun h=>by obtain ⟨h1,h2⟩:=h;first|(exfalso;omega)|(simp_all;done))⟩,hS.sp⟩):p:=h
theorem B5 (h:p:=by exact ⟨⟨j+1,zh,zh,Jo,Jo,by rw [hd,Q1 hx1,Q1 hx2,hg];simp,hS.sp⟩,Qj Jo⟩):p:=h
theorem B6 (h:p:=by exact ⟨_,rfl,rfl,(PS (s:=s.shut m) (by rw [e1];exact ho.set (k:=m) (r':=RegV.nil) rfl (e1 ▸ JD ok m)) (by rw [e1];exact (hS.subP (by (repeat constructor);first|done|fail)))).back hi⟩):p:=h
theorem Cf (h:p:=by exact ⟨_,zh,zh,by exact ⟨fun h=>Bool.noConfusion h,fun h=>h.elim (fun h=>hq1.2 h) (fun h=>by obtain ⟨h1,h2⟩:=h;first|(exfalso;omega)|(simp_all;done))⟩,hS.sp⟩):p:=h
theorem Ch (h:p:=by exact ⟨_,zh,zh,by exact ⟨fun h=>Bool.noConfusion h,fun h=>h.elim (fun h=>hq2.2 h) (fun h=>by obtain ⟨h1,h2⟩:=h;first|(exfalso;omega)|(simp_all;done))⟩,hS.sp⟩):p:=h
theorem Ci (h:p:=by exact ⟨⟨j+1,n+1,⟨rfl,rfl,rfl,trivial⟩,Jo,(by rw [hcs,hn,if_pos (show r.reg.there=true from hc)]),(hS.subP (by (repeat constructor);first|done|fail))⟩,Qj Jo⟩):p:=h
theorem Cn (h:p:=by exact ⟨_,zh,zh,by exact ⟨fun h=>Bool.noConfusion h,fun h=>by obtain ⟨h1,h2⟩:=h;first|(exfalso;omega)|(simp_all;done)⟩,hS.sp⟩):p:=h
theorem Cr (h:p:=by exact ⟨_,zh,zh,by exact ⟨fun _=> .inl (hq2.1 rfl),fun _=>rfl⟩,hS.sp⟩):p:=h
theorem Cs (h:p:=by exact ⟨⟨j+1,zh,zh,Jo,by rw [hd,Q1 hx1,Tys.wrong,if_neg Jo],hS.sp⟩,Qj Jo⟩):p:=h
theorem Ct (h:p:=by exact ⟨8,hX.trans (bZ (by show out.length=2000;omega)),rfl,fr,g.nx,hS.sp⟩):p:=h
theorem Cz (h:p:=by exact ⟨_,zh,zh,by exact ⟨fun _=> .inl (hq3.1 rfl),fun _=>rfl⟩,hS.sp⟩):p:=h
theorem CA (h:p:=by exact ⟨_,zh,zh,by exact ⟨fun _=> .inl (hq4.1 rfl),fun _=>rfl⟩,hS.sp⟩):p:=h
theorem CF (h:p:=by exact ⟨_,rfl, .inl ⟨hn,rfl,(hS.subP (by (repeat constructor);first|done|fail))⟩⟩):p:=h
theorem CP (h:p:=by exact ⟨_,zh,zh,by exact ⟨fun _=> .inl (hq5.1 rfl),fun _=>rfl⟩,hS.sp⟩):p:=h
theorem CQ (h:p:=by exact ⟨_,rfl,j,rfl,by rw [hd,Q1 hx1,H5,decide_eq_true Jo,HL];simp,hS.sp⟩):p:=h
theorem CT (h:p:=by exact ⟨_,zh,zh,by exact ⟨fun h=>Bool.noConfusion h,fun h=>h.elim (fun h=>hq5.2 h) (fun h=>by obtain ⟨h1,h2⟩:=h;first|(exfalso;omega)|(simp_all;done))⟩,hS.sp⟩):p:=h
theorem CU (h:p:=by exact ⟨rfl,rfl,by simp only;omega,by simp only;omega,by simp only;omega⟩):p:=h
theorem CV (h:p:=by exact ⟨_,zh,zh,by exact ⟨fun h=>Bool.noConfusion h,fun h=>h.elim (fun h=>hq4.2 h) (fun h=>by obtain ⟨h1,h2⟩:=h;first|(exfalso;omega)|(simp_all;done))⟩,hS.sp⟩):p:=h
theorem C6 (h:p:=by exact ⟨_,zh,zh,by exact ⟨fun _=> .inl (hq1.1 rfl),fun _=>rfl⟩,hS.sp⟩):p:=h
theorem Da (h:p:=by exact s6 (g':=⟨g.f,e.yes.block.toNat,0, .slice a2 (vs.map Qr).length n2,vs⟩)):p:=h
theorem Dc (h:p:=by exact ⟨_,rfl,by rw [e2],(PS (s:=s.open) (by rw [e1];exact ho.set (r':=⟨true, .slice none 0 0,[],0⟩) rfl (e1 ▸ JC ok)) (by rw [e1];exact (hS.subP (by (repeat constructor);first|done|fail)))).back hi⟩):p:=h
end
end Go.Lir
namespace Go.Lir
section
variable {p:Prop}
theorem Ao (h:p:=by first|(refine ⟨_,rfl,?_,hS.sp⟩;rw [decide_eq_false];exact fun e=>absurd (congrArg List.length e) Jo;done)|(refine ⟨_,rfl,?_,hS.sp⟩;rw [decide_eq_false];rw [hd,Q1 hx1,Q1 hx2];simp [hg];done)|(refine ⟨_,rfl,?_,hS.sp⟩;rw [decide_eq_true];rw [hd,Fh Jo,Fh Jo];done)):p:=h
end
end Go.Lir
namespace Go.Proofs.YteflkifmgnpbhaaGreat
open Go.Lir
attribute [local irreducible] LC.wp Q0 Qs Qi KN QD LO.wp Q7 Calls

structure PoolS where
 n:Nat
 ws:List Int
 fr:List Int
def PoolS.Ok (s:PoolS):Prop:=PoolOk s.n s.ws s.fr
def PoolS.mk0 (n:Nat):PoolS:=⟨n,List.replicate (n*16) 0,OZ n n⟩
def PoolS.top (s:PoolS):Int:=s.fr.getLastD (-1)
def PoolS.take (s:PoolS):PoolS:=if s.fr=[] then s else ⟨s.n,RV s.ws s.top.toNat,s.fr.dropLast⟩
def PoolS.can (s:PoolS)(k:Int):Bool:=decide (0≤k∧k<s.n∧k∉s.fr)
def PoolS.give (s:PoolS)(k:Int):PoolS:=if s.can k then ⟨s.n,s.ws,s.fr++[k]⟩ else s
def PoolS.isIn (s:PoolS)(i:Int):Bool:=decide (0≤i∧i<((s.n*16:Nat):Int))
def PoolS.store (s:PoolS)(i x:Int):PoolS:=if s.isIn i then ⟨s.n,s.ws.set i.toNat x,s.fr⟩ else s
def PoolS.word (s:PoolS)(i:Int):Int:=if s.isIn i then s.ws.getD i.toNat 0 else 0

theorem PoolS.ok_new {n:Nat}(h:n≤64):(PoolS.mk0 n).Ok:=sZ h
theorem PoolS.split {s:PoolS}(h:s.Ok):(s.fr=[]∧s.top=-1∧s.take=s)∨∃(k:Nat) (fr:List Int),s=⟨s.n,s.ws,fr++[(k:Int)]⟩∧s.top=k∧s.take=⟨s.n,RV s.ws k,fr⟩:=by
 obtain ⟨n,ws,fr⟩:=s;rcases Hc fr with rfl|⟨fr,k,rfl⟩
 · exact .inl ⟨rfl,rfl,rfl⟩
 · simp only [JI] at h ⊢
   have hk:=h.rng k Js;refine .inr ⟨k.toNat,fr,by rw [FO hk.1],?_,?_⟩
   · simp [PoolS.top];omega
   · simp [PoolS.take,PoolS.top]
abbrev H4:=@PoolS.split
theorem PoolS.ok_take {s:PoolS}(h:s.Ok):s.take.Ok:=by
 rcases H4 h with ⟨_,_,e⟩|⟨k,fr,e,_,e2⟩
 · rw [e];exact h
 · rw [e2];rw [e] at h;exact (PoolOk.take h).1
theorem PoolS.ok_give {s:PoolS}(h:s.Ok)(k:Int):(s.give k).Ok:=by
 unfold PoolS.give PoolS.can;split
 · rename_i hc;have hc:=of_decide_eq_true hc;obtain ⟨k,rfl⟩:=Gt hc.1;exact PoolOk.give (n:=s.n) h Jo hc.2.2
 · exact h
theorem PoolS.ok_store {s:PoolS}(h:s.Ok)(i x:Int):(s.store i x).Ok:=by
 unfold PoolS.store;split
 · exact PoolOk.store h
 · exact h
abbrev I4:=@PoolS.ok_store
theorem PoolS.n_take {s:PoolS}:s.take.n=s.n:=by unfold PoolS.take;split<;>rfl
abbrev Jz:=@PoolS.n_take
theorem PoolS.n_give {s:PoolS}{k:Int}:(s.give k).n=s.n:=by unfold PoolS.give;split<;>rfl
abbrev JA:=@PoolS.n_give
theorem PoolS.n_store {s:PoolS}{i x:Int}:(s.store i x).n=s.n:=by unfold PoolS.store;split<;>rfl
abbrev Hx:=@PoolS.n_store
theorem PoolS.fr_store {s:PoolS}{i x:Int}:(s.store i x).fr=s.fr:=by unfold PoolS.store;split<;>rfl

abbrev HV:=@PoolS.fr_store
def Me (p:Value)(s:PoolS):Res where
 A H F:=K7 H p F s.n s.ws s.fr
 loc:=by
  rintro H H' F ⟨b,vw,vl,vt,Fw,Fl,Ft,h⟩ hs;have hF:=h.hF
  exact ⟨b,vw,vl,vt,Fw,Fl,Ft,h.hp,h.blk.of_same (hs b ((hF b).2 (.inl rfl)) h.blk.lt),h.sw.of_same (fun x hx=>hs x ((hF x).2 (.inr (.inl hx)))),h.sl.of_same (fun x hx=>hs x ((hF x).2 (.inr (.inr (.inl hx))))),
   h.st.of_same (fun x hx=>hs x ((hF x).2 (.inr (.inr (.inr hx))))),h.nw,h.nl,h.nt,h.wl,h.wt,h.lt,h.hF,h.ok⟩
 lt:=K7.lt
 ext:=by
  rintro H F G ⟨b,vw,vl,vt,Fw,Fl,Ft,h⟩ hs;exact ⟨b,vw,vl,vt,Fw,Fl,Ft,h.hp,h.blk,h.sw,h.sl,h.st,h.nw,h.nl,h.nt,h.wl,h.wt,h.lt,fun x=>(hs x).symm.trans (h.hF x),h.ok⟩
theorem Uy {i:Nat}{p:Value}{s:PoolS}(hS:St cx w L)(hi:nth L i=some (Me p s)):s.Ok:=by
 obtain ⟨F,hr,_⟩:=hS.step hi;obtain ⟨b,vw,vl,vt,Fw,Fl,Ft,h⟩:=hr;exact h.ok
theorem X7:∀{L:List Res}{i:Nat}{r:Res},nth L i=some r→L.set i r=L
 | [],_,_,h=>by cases h
 | s::L,0,r,h=>by simp only [nth,Fq] at h;subst h;rfl
 | s::L,i+1,r,h=>by rw [Fo,X7 (L:=L) (i:=i) h]

variable {cx:Cx}{w:World}{L:List Res}{i:Nat}{p:Value}{s:PoolS}
theorem cd (hS:St cx w L)(hi:nth L i=some (Me p s)):Kf Tryz.prog sE [p] w fun v w'=>v= .int .i64 s.fr.length∧St cx w' L:=by
 obtain ⟨F,hr,_⟩:=hS.step hi;exact (bV hr).mono fun v w' ⟨h,h2⟩=>⟨h,h2 ▸ hS⟩
theorem cg (hS:St cx w L)(hi:nth L i=some (Me p s)):Kf Tryz.prog oN [p] w fun v w'=>v= .int .i64 s.top∧St cx w' (L.set i (Me p s.take)):=by
 obtain ⟨F,hr,_,hst⟩:=hS.step hi;rcases H4 (Uy hS hi) with ⟨h1,h2,h3⟩|⟨k,fr,h1,h2,h3⟩
 · rw [h2,h3,X7 hi];have hr':K7 w.heap p F s.n s.ws []:=h1 ▸ hr;exact (Qdi hr').mono fun v w' ⟨h,h2⟩=>⟨h,h2 ▸ hS⟩
 · rw [h2,h3];have hr':K7 w.heap p F s.n s.ws (fr++[(k:Int)]):=(by rw [h1] at hr;exact hr);exact (bW hr').mono fun v w' ⟨h,h4,h5⟩=>⟨h,hst w' F _ h4 (H7 h5)⟩
theorem cj (k:Int)(hS:St cx w L)(hi:nth L i=some (Me p s)):Kf Tryz.prog oL [p, .int .i64 k] w fun v w'=>v= .bool (s.can k)∧St cx w' (L.set i (Me p (s.give k))):=by
 obtain ⟨F,hr,_,hst⟩:=hS.step hi;unfold PoolS.give;by_cases hc:0≤k∧k<s.n∧k∉s.fr
 · have e:s.can k=true:=decide_eq_true hc;rw [e,if_pos rfl];obtain ⟨k,rfl⟩:=Gt hc.1;exact (bX hr Jo hc.2.2).mono fun v w' ⟨h,F',h4,h5⟩=>⟨h,hst w' F' _ h4 h5⟩
 · have e:s.can k=false:=decide_eq_false hc
   rw [e,if_neg Js,X7 hi];refine (Qi1 hr ?_).mono fun v w' ⟨h,h2⟩=>⟨h,h2 ▸ hS⟩;by_cases h1:k<0
   · exact .inl h1
   · by_cases h2:(s.n:Int)≤k
     · exact .inr (.inl h2)
     · exact .inr (.inr (FP.1 fun h3=>hc ⟨Jo,Jo,h3⟩))
theorem lK (j x:Int)(hS:St cx w L)(hi:nth L i=some (Me p s)):Kf Tryz.prog oI [p, .int .i64 j, .int .i64 x] w fun v w'=>v= .bool (s.isIn j)∧St cx w' (L.set i (Me p (s.store j x))):=by
 obtain ⟨F,hr,_,hst⟩:=hS.step hi;unfold PoolS.store;by_cases hc:0≤j∧j<((s.n*16:Nat):Int)
 · have e:s.isIn j=true:=decide_eq_true hc;rw [e,if_pos rfl];obtain ⟨j,rfl⟩:=Gt hc.1;exact (X5 hr Jo).mono fun v w' ⟨h,h4,h5⟩=>⟨h,hst w' F _ h4 (H7 h5)⟩
 · have e:s.isIn j=false:=decide_eq_false hc;rw [e,if_neg Js,X7 hi];exact (Qfr hr Jo).mono fun v w' ⟨h,h2⟩=>⟨h,h2 ▸ hS⟩
theorem ck (j:Int)(hS:St cx w L)(hi:nth L i=some (Me p s)):Kf Tryz.prog oM [p, .int .i64 j] w fun v w'=>v= .tuple #[.int .i64 (s.word j), .bool (s.isIn j)]∧St cx w' L:=by
 obtain ⟨F,hr,_⟩:=hS.step hi;unfold PoolS.word;by_cases hc:0≤j∧j<((s.n*16:Nat):Int)
 · have e:s.isIn j=true:=decide_eq_true hc;rw [e,if_pos rfl];obtain ⟨j,rfl⟩:=Gt hc.1;exact (bY hr Jo).mono fun v w' ⟨h,h2⟩=>⟨h,h2 ▸ hS⟩
 · have e:s.isIn j=false:=decide_eq_false hc;rw [e,if_neg Js];exact (QhC hr Jo).mono fun v w' ⟨h,h2⟩=>⟨h,h2 ▸ hS⟩
theorem i0 (n:Int)(hS:St cx w L):Kf Tryz.prog oH [.int .i64 n] w fun v w'=>
 (n<0∨64<n)∧v= .tuple #[.pointer none, .agg ⟨[.int .i64 1, .int .i64 (-1)]⟩]∧St cx w' L∨
 ∃(m:Nat) (b:Nat),n=m∧m≤64∧v= .tuple #[.pointer (some ⟨b,0,none⟩), .agg ⟨[.int .i64 0, .int .i64 0]⟩]∧St cx w' (Me (.pointer (some ⟨b,0,none⟩)) (PoolS.mk0 m)::L):=by
 by_cases hc:n<0∨64<n
 · exact (Qhu w hc).mono fun v w' ⟨h,h2⟩=> .inl ⟨hc,h,hS.fr0 h2⟩
 · obtain ⟨m,rfl⟩:=Gt (show 0≤n by omega);refine (X6 w (show m≤64 by omega)).mono ?_;rintro v w' ⟨p,F,h,h2,h3,h4⟩;have h2':=h2;obtain ⟨b,_,_,_,_,_,_,h5⟩:=h2';have hp:=h5.hp;subst hp;exact .inr ⟨m,b,rfl,Jo,h,hS.new (r:=Me _ (PoolS.mk0 m)) h2 h3 h4⟩
end Go.Proofs.YteflkifmgnpbhaaGreat
namespace Go.Proofs.YteflkifmgnpbhaaGreat
open Go.Lir
def fW (ws:List Int)(k:Nat):Nat→List Int
 | 0=>ws
 | i+1=>(fW ws k i).set (k*16+i) 0
theorem lL (ws:List Int)(k:Nat):∀i,(fW ws k i).length=ws.length
 | 0=>rfl
 | i+1=>by rw [fW,FL,lL ws k i]
theorem oT (ws:List Int)(k:Nat):∀(i j:Nat),k*16+i≤ws.length→(fW ws k i).getD j 0=if k*16≤j∧j<k*16+i then 0 else ws.getD j 0
 | 0,j,_=>by rw [if_neg Jo];rfl
 | i +1,j,h=>by
   rw [fW,ik (by rw [lL];omega),oT ws k i j Jo];by_cases h1:k*16+i=j
   · rw [if_pos h1,if_pos Jo]
   · rw [if_neg h1]
     by_cases h2:k*16≤j∧j<k*16+i
     · rw [if_pos h2,if_pos Jo]
     · rw [if_neg h2,if_neg Jo]
theorem Qii {ws:List Int}{k n:Nat}(h:ws.length=n*16)(hk:k<n):fW ws k 16=RV ws k:=by
 refine rY 0 (by rw [lL,sY h hk,h]) fun j hj=>?_;rw [lL] at hj;rw [oT ws k 16 j Jo];simp only [RV,E9];have hl:(ws.take (k*16)).length=k*16:=Eb;by_cases h1:j<k*16
 · rw [if_neg Jo,Fg Jo,F5 h1]
 · rw [Ff Jo,hl]
   by_cases h2:j<k*16+16
   · rw [if_pos Jo,Fg Di,G6,if_pos Jo];rfl
   · rw [if_neg Jo,Ff Di,G8];congr 2;simp;omega

end Go.Proofs.YteflkifmgnpbhaaGreat
namespace Go.Proofs.YteflkifmgnpbhaaGreat
open Go.Lir
attribute [local irreducible] LC.wp Q0 Qs Qi KN QD LO.wp Q7 Calls
section

def LP (s:PoolS)(tk:List Int):Prop:=tk.Nodup∧∀k,k∈tk↔s.can k=true
theorem K0 {s:PoolS}{k:Int}:s.can k=true↔0≤k∧k<s.n∧k∉s.fr:=decide_eq_true_iff
theorem LP.len {s:PoolS}(h:LP s tk)(ok:s.Ok):tk.length+s.fr.length=s.n:=by
 have hnd:(tk++s.fr).Nodup:=He.2 ⟨h.1,ok.nd,fun a ha b hb e=>by subst e;exact (K0.1 ((h.2 a).1 ha)).2.2 hb⟩
 have h1:=bo (b:=OZ s.n s.n) hnd fun x hx=>(fV (FE _)).2 (by
  rcases FC.1 hx with hx|hx
  · have:=K0.1 ((h.2 x).1 hx);omega
  · have:=ok.rng x hx;omega)
 have h2:=bo (b:=tk++s.fr) (sX (FE s.n)) fun x hx=>by
  have:=(fV (FE _)).1 hx;by_cases hm:x∈s.fr
  · exact List.mem_append_right _ hm
  · exact HE _ ((h.2 x).2 (K0.2 ⟨Jo,Jo,hm⟩))
 rw [lJ,Fc] at*;omega
theorem LP.new {n:Nat}:LP (PoolS.mk0 n) []:=⟨I0,fun k=>⟨fun h=>absurd h Js,fun h=>by
 obtain ⟨h1,h2,h3⟩:=K0.1 h;exact absurd ((fV (FE n)).2 (by simp only [PoolS.mk0] at h2;omega)) h3⟩⟩
theorem LP.take {s:PoolS}(h:LP s tk)(ok:s.Ok){k:Nat}{fr:List Int}(h1:s=⟨s.n,s.ws,fr++[(k:Int)]⟩)(h2:s.top=k)(h3:s.take=⟨s.n,RV s.ws k,fr⟩):s.top∉tk∧k<s.n∧LP s.take (tk++[s.top]):=by
 have ok':PoolOk s.n s.ws (fr++[(k:Int)]):=(by rw [h1] at ok;exact ok);obtain ⟨_,hk,hkn⟩:=ok'.take;have hfr:s.fr=fr++[(k:Int)]:=(by rw [h1]);have hnot:(k:Int)∉tk:=fun hm=>(K0.1 ((h.2 k).1 hm)).2.2 (by rw [hfr];simp);refine ⟨by rw [h2];exact hnot,hk,?_,fun x=>?_⟩
 · rw [h2];exact He.2 ⟨h.1,by simp,fun a ha b hb e=>by simp at hb;subst hb;subst e;exact hnot ha⟩
 · rw [h2,FC,F7,h.2 x,K0,K0,h3,hfr,FC,F7]
   constructor
   · rintro (⟨h1,h2,h3⟩|rfl)
     · exact ⟨h1,h2,fun h=>h3 (.inl h)⟩
     · exact ⟨Jo,by simpa using hk,hkn⟩
   · rintro ⟨h1,h2,h3⟩
     by_cases hx:x=k
     · exact .inr hx
     · exact .inl ⟨h1,h2,fun h=>h.elim h3 hx⟩
theorem LP.give {s:PoolS}(h:LP s tk)(k:Int):LP (s.give k) (tk.filter fun y=>decide (y≠k)):=by
 refine ⟨h.1.filter _,fun x=>?_⟩;rw [Hr,h.2 x,K0,K0,decide_eq_true_iff,JA];unfold PoolS.give;split
 · simp only [FC,F7,not_or]
   constructor
   · rintro ⟨⟨h1,h2,h3⟩,h4⟩;exact ⟨h1,h2,h3,h4⟩
   · rintro ⟨h1,h2,h3,h4⟩;exact ⟨⟨h1,h2,h3⟩,h4⟩
 · rename_i hc
   constructor
   · rintro ⟨h1,_⟩;exact h1
   · intro h1;exact ⟨h1,fun e=>hc (by subst e;exact K0.2 h1)⟩
theorem LP.store {s:PoolS}(h:LP s tk)(k x:Int):LP (s.store k x) tk:=⟨h.1,fun y=>by rw [h.2 y,K0,K0,Hx,HV]⟩
theorem LP.perm {s:PoolS}(h:LP s l)(hp:l.Perm l'):LP s l':=⟨hp.nodup_iff.1 h.1,fun k=>by rw [←h.2 k];exact hp.mem_iff.symm⟩
def PoolS.gives (s:PoolS)(l:List Int):PoolS:=l.foldl PoolS.give s
theorem PoolS.n_gives:∀{s:PoolS},(s.gives l).n=s.n:=by
 induction l with
 | nil=>intro s;rfl
 | cons k l ih=>intro s;exact (ih (s:=s.give k)).trans JA
abbrev Jg:=@PoolS.n_gives
theorem PoolS.ok_gives:∀{s:PoolS},s.Ok→(s.gives l).Ok:=by
 induction l with
 | nil=>intro s h;exact h
 | cons k l ih=>intro s h;exact ih (s:=s.give k) (PoolS.ok_give h k)
theorem QfS {s:PoolS}(h:j<l.length):s.gives (l.take (j+1))=(s.gives (l.take j)).give (l.getD j 0):=by
 rw [rX 0 h];simp [PoolS.gives,List.foldl_append]
theorem LP.gives {rest:List Int}:∀{s:PoolS},LP s (l++rest)→LP (s.gives l) rest:=by
 induction l with
 | nil=>intro s h;exact h
 | cons k l ih=>
   intro s h;have h1:=h.give k;have hnd:=h.1;rw [Gu,G9] at hnd
   have e:((k::l++rest).filter fun y=>decide (y≠k))=l++rest:=by
    rw [Gu,Jm Js];exact List.filter_eq_self.2 fun y hy=>decide_eq_true fun e=>hnd.1 (e ▸ hy)
   rw [e] at h1;exact ih h1
theorem s7 {α:Type}:∀{l:List α}{k:Nat}{x:α},l[k]?=some x→l.Perm (x::l.eraseIdx k)
 | [],_,_,h=>by simp at h
 | y::l,0,x,h=>by simp at h;subst h;exact .refl _
 | y::l,k+1,x,h=>((s7 (l:=l) Dz).cons y).trans (.swap _ _ _)
theorem s8 {α:Type}:∀{l:List α}{k:Nat}{x:α},k<l.length→(l.set k x).Perm (x::l.eraseIdx k)
 | [],_,_,h=>by simp at h
 | y::l,0,x,h=> .refl _
 | y::l,k+1,x,h=>((s8 (l:=l) Dz).cons y).trans (.swap _ _ _)
end
section

structure Reg where
 there:Bool
 pages:List Int
 used:Int
def Reg.none:Reg:=⟨false,[],0⟩
structure EstS where
 p:PoolS
 rs:List Reg
def EstS.reg (s:EstS)(k:Int):Reg:=if 0≤k then s.rs.getD k.toNat Reg.none else Reg.none
def EstS.has (s:EstS)(k:Int):Bool:=(s.reg k).there
def EstS.all (s:EstS):List Int:=s.rs.flatMap Reg.pages
structure EstS.Ok (s:EstS):Prop where
 len:s.rs.length=16
 off:∀r∈s.rs,r.there=false→r=Reg.none
 used:∀r∈s.rs,0≤r.used∧r.used≤16
 tk:LP s.p s.all
 pok:s.p.Ok
 n64:s.p.n≤64
def EstS.low (s:EstS):Nat:=s.rs.findIdx fun r=> !r.there
def EstS.open (s:EstS):EstS:=if s.low<16 then ⟨s.p,s.rs.set s.low ⟨true,[],0⟩⟩ else s
def EstS.openV (s:EstS):Int:=if s.low<16 then s.low else -1
def EstS.shut (s:EstS)(k:Int):EstS:=if s.has k then ⟨s.p.gives (s.reg k).pages,s.rs.set k.toNat Reg.none⟩ else s
def Reg.more (r:Reg)(n:Int):Bool:=decide (r.pages=[]∨16<r.used+n)
def Reg.last (r:Reg):Int:=r.pages.getLastD 0
def EstS.code (s:EstS)(k n:Int):Int:=if !s.has k then 15 else if n<1∨16<n then 1 else if (s.reg k).more n∧s.p.fr=[] then 14 else 0
def Reg.grow (r:Reg)(p:Int):Reg:=⟨r.there,r.pages++[p],0⟩
def Reg.use (r:Reg)(n:Int):Reg:=⟨r.there,r.pages,r.used+n⟩
def EstS.regTo (s:EstS)(k n:Int):Reg:=if (s.reg k).more n then (s.reg k).grow s.p.top else s.reg k
def EstS.get (s:EstS)(k n:Int):EstS:=if s.code k n=0 then ⟨if (s.reg k).more n then s.p.take else s.p,s.rs.set k.toNat ((s.regTo k n).use n)⟩ else s
def EstS.getV (s:EstS)(k n:Int):Int:=if s.code k n=0 then (s.regTo k n).last*16+(s.regTo k n).used else 0
def EstS.count (s:EstS):Int:=(s.rs.countP fun r=>r.there:Nat)
def EstS.mk0 (n:Nat):EstS:=⟨PoolS.mk0 n,List.replicate 16 Reg.none⟩

theorem EstS.reg_at {s:EstS}(h:s.Ok){k:Nat}(hk:k<16):s.rs[k]?=some (s.reg k):=by
 have:=h.len;unfold EstS.reg;rw [if_pos Jo,show (k:Int).toNat=k by omega];exact Tx Jo
abbrev Gw:=@EstS.reg_at
theorem EstS.reg_out {s:EstS}(h:s.Ok){k:Int}(hk:k<0∨16≤k):s.reg k=Reg.none:=by
 have:=h.len;unfold EstS.reg;split
 · rw [E9,FI Jo];rfl
 · rfl
abbrev JB:=@EstS.reg_out
theorem EstS.has_in {s:EstS}(h:s.Ok){k:Int}(hk:s.has k=true):∃m:Nat,k=m∧m<16:=by
 by_cases hc:k<0∨16≤k
 · unfold EstS.has at hk;rw [JB h hc] at hk;cases hk
 · exact ⟨k.toNat,Jo,Jo⟩
abbrev Io:=@EstS.has_in
theorem s9 {s:EstS}{k:Nat}{r:Reg}(hr:s.rs[k]?=some r):s.all.Perm (r.pages++(s.rs.eraseIdx k).flatMap Reg.pages):=by
 have:=(s7 hr).flatMap_right Reg.pages;rw [H2] at this;exact this
theorem ta {rs:List Reg}{k:Nat}{r':Reg}(hk:k<rs.length):((rs.set k r').flatMap Reg.pages).Perm (r'.pages++(rs.eraseIdx k).flatMap Reg.pages):=by
 have:=(s8 (x:=r') hk).flatMap_right Reg.pages
 simpa [H2] using this
theorem N3 {l:List α}{k:Nat}{x y:α}(h:y∈l.set k x):y=x∨y∈l:=(HY h).symm
theorem EstS.ok_set {s:EstS}(h:s.Ok){p:PoolS}{k:Nat}(hk:k<16){r':Reg}(h1:r'.there=false→r'=Reg.none)(h2:0≤r'.used∧r'.used≤16)(h3:LP p (r'.pages++(s.rs.eraseIdx k).flatMap Reg.pages))(h4:p.Ok)(h5:p.n=s.p.n):(⟨p,s.rs.set k r'⟩:EstS).Ok:=by
 have hl:=h.len;refine ⟨by simpa using hl,fun r hr=>?_,fun r hr=>?_,h3.perm (ta Jo).symm,h4,by rw [h5];exact h.n64⟩
 · rcases N3 hr with rfl|hr
   · exact h1
   · exact h.off r hr
 · rcases N3 hr with rfl|hr
   · exact h2
   · exact h.used r hr
abbrev Ip:=@EstS.ok_set
theorem EstS.tk_at {s:EstS}(h:s.Ok){k:Nat}(hk:k<16):LP s.p ((s.reg k).pages++(s.rs.eraseIdx k).flatMap Reg.pages):=h.tk.perm (s9 (Gw h hk))
abbrev Hh:=@EstS.tk_at
theorem EstS.ok_new {n:Nat}(hn:n≤64):(EstS.mk0 n).Ok:=
 ⟨by simp [EstS.mk0],fun r hr _=>Gs hr,fun r hr=>by rw [Gs hr];simp [Reg.none],by
   have:(EstS.mk0 n).all=[]:=(by simp [EstS.all,EstS.mk0,Reg.none,List.flatMap_replicate]);rw [this];exact LP.new,PoolS.ok_new hn,hn⟩

abbrev JQ:=@EstS.ok_new
theorem EstS.low_le {s:EstS}(h:s.Ok):s.low≤16:=by have:=List.findIdx_le_length (xs:=s.rs) (p:=fun r=> !r.there);rw [h.len] at this;exact this
theorem EstS.low_eq {s:EstS}(h:s.Ok){i:Nat}(hi:i<16)(h1:(s.reg i).there=false)(h2:∀j,j<i→(s.reg (j:Nat)).there=true):s.low=i:=by
 have hl:=h.len;refine (List.findIdx_eq Jo).2 ⟨?_,fun j hj=>?_⟩
 · have:=Gw h hi;rw [E7 Jo] at this;simp only [Fq] at this;rw [this,h1];rfl
 · have:=Gw h (show j<16 by omega);rw [E7 Jo] at this;simp only [Fq] at this;rw [this,h2 j hj];rfl
theorem EstS.low_full {s:EstS}(h:s.Ok)(h2:∀j,j<16→(s.reg (j:Nat)).there=true):s.low=16:=by
 have hl:=h.len;rw [←hl];refine Ju.2 fun r hr=>?_;obtain ⟨j,hj⟩:=Gf.1 hr;have hj16:j<16:=(by have:=(E8.1 hj).1;omega);have:=Gw h hj16;rw [hj] at this;simp only [Fq] at this;rw [this,h2 j hj16];rfl
theorem EstS.low_off {s:EstS}(h:s.Ok)(hl:s.low<16):s.reg s.low=Reg.none:=by
 have h1:=Gw h hl;have h2:s.low<s.rs.length:=(by rw [h.len];exact hl);have h3:=List.findIdx_getElem (xs:=s.rs) (p:=fun r:Reg=> !r.there) (w:=h2);rw [E7 h2] at h1;simp only [Fq] at h1;have h4:(s.rs[s.low]'h2).there=false:=(by have h5:(!(s.rs[s.low]'h2).there)=true:=h3;simpa using h5);rw [←h1];exact h.off _ (Hi h2) h4
abbrev ID:=@EstS.low_off
theorem EstS.ok_open {s:EstS}(h:s.Ok):s.open.Ok:=by
 unfold EstS.open;split
 · rename_i hl;have:=Hh h hl;rw [ID h hl] at this;exact Ip h hl (fun hf=>by cases hf) ⟨IU _,by simp⟩ this h.pok rfl
 · exact h
abbrev JC:=@EstS.ok_open
theorem EstS.ok_shut {s:EstS}(h:s.Ok)(k:Int):(s.shut k).Ok:=by
 unfold EstS.shut;split
 · rename_i hk;obtain ⟨m,rfl,hm⟩:=Io h hk;exact Ip h (show (m:Int).toNat<16 by omega) (fun _=>rfl) ⟨IU _,by simp [Reg.none]⟩ (by rw [show (m:Int).toNat=m by omega];exact (Hh h hm).gives) (PoolS.ok_gives h.pok) Jg
 · exact h
abbrev JD:=@EstS.ok_shut
theorem EstS.code_0 {s:EstS}{k n:Int}(hc:s.code k n=0):s.has k=true∧1≤n∧n≤16∧¬((s.reg k).more n=true∧s.p.fr=[]):=by
 unfold EstS.code at hc;split at hc
 · cases hc
 · rename_i h1
   split at hc
   · cases hc
   · split at hc
     · cases hc
     · rename_i h2 h3;exact ⟨by simpa using h1,Jo,Jo,h3⟩
abbrev JR:=@EstS.code_0
theorem EstS.regTo_len {s:EstS}(h:s.Ok){k:Nat}(hk:k<16):(s.reg k).pages.length≤64:=by
 have:=(Hh h hk).len h.pok;rw [Fc] at this;have:=h.n64;omega
abbrev I5:=@EstS.regTo_len
theorem Reg.more_f {r:Reg}{n:Int}(h:¬r.more n=true):r.pages≠[]∧r.used+n≤16:=by
 unfold Reg.more at h;rw [decide_eq_true_iff] at h;exact ⟨fun e=>h (.inl e),Jo⟩
abbrev J6:=@Reg.more_f
theorem EstS.ok_get {s:EstS}(h:s.Ok)(k n:Int):(s.get k n).Ok:=by
 unfold EstS.get;split
 · rename_i hc
   obtain ⟨h1,h2,h3,h4⟩:=JR hc;obtain ⟨m,rfl,hm⟩:=Io h h1;rw [show (m:Int).toNat=m by omega];have hth:(s.reg m).there=true:=h1;have hu:=h.used _ (Fa (Gw h hm));unfold EstS.regTo;by_cases hmo:(s.reg m).more n=true
   · rw [if_pos hmo,if_pos hmo]
     rcases H4 h.pok with ⟨e,_⟩|⟨kk,fr,e1,e2,e3⟩
     · exact absurd ⟨hmo,e⟩ h4
     · obtain ⟨_,_,h5⟩:=(Hh h hm).take h.pok e1 e2 e3;refine Ip h hm (fun hf=>by simp [Reg.use,Reg.grow,hth] at hf) ⟨by simp [Reg.use,Reg.grow];omega,by simp [Reg.use,Reg.grow];omega⟩ ?_ (PoolS.ok_take h.pok) Jz;simp only [Reg.use,Reg.grow];refine h5.perm ?_;rw [GJ,GJ];exact (Ii).append_left _
   · rw [if_neg hmo,if_neg hmo];obtain ⟨_,h6⟩:=J6 hmo;exact Ip h hm (fun hf=>by simp [Reg.use,hth] at hf) ⟨by simp [Reg.use];omega,by simp [Reg.use];omega⟩ (Hh h hm) h.pok rfl
 · exact h

abbrev JT:=@EstS.ok_get
structure RegV where
 there:Bool
 pv:Value
 pages:List Int
 used:Int
def RegV.reg (r:RegV):Reg:=⟨r.there,r.pages,r.used⟩
def RegV.cells (r:RegV):List Value:=[.bool r.there,r.pv, .int .i64 r.used]
def RegV.res (r:RegV):Res:=sl 3 1 r.pv (r.pages.map Qr)
def RegV.nil:RegV:=⟨false, .slice none 0 0,[],0⟩
def LW (rv:List RegV):List Value:=(rv.map RegV.cells).flatten
theorem oS (rv:List RegV):(LW rv).length=rv.length*3:=by
 have:=RG (es:=3) (css:=rv.map RegV.cells) Ek;rw [Fb] at this;exact this
theorem Nc {rv:List RegV}{r:RegV}(hr:rv[m]?=some r)(hu:r.cells[j]?=some u):(pp::LW rv)[1+m*3+j]?=some u:=by
 have hj:j<3:=(E8.1 hu).1;have:=ic (es:=3) (css:=rv.map RegV.cells) Ek (m:=m) (j:=j) (c:=r.cells) (by rw [Fy,hr];rfl) hj;rw [show 1+m*3+j=(m*3+j)+1 by omega,Gg];exact this.trans hu
theorem Uz {rv:List RegV}{r r':RegV}(hr:rv[m]?=some r)(hj:j<3)(hu:r.cells.set j u=r'.cells):(pp::LW rv).set (1+m*3+j) u=pp::LW (rv.set m r'):=by
 have:=rO (es:=3) (css:=rv.map RegV.cells) Ek (m:=m) (j:=j) (c:=r.cells) (u:=u) (by rw [Fy,hr];rfl) hj;rw [show 1+m*3+j=(m*3+j)+1 by omega,Fo];unfold LW;rw [GA,←hu,this]
theorem UA {rv:List RegV}{r':RegV}(hm:m<rv.length):(pp::LW rv).take (1+m*3)++(r'.cells++(pp::LW rv).drop (1+m*3+3))=pp::LW (rv.set m r'):=by
 have hl:∀l:List RegV,(∀c∈l.map RegV.cells,c.length=3):=(by intro l c hc;obtain ⟨r,_,rfl⟩:=FU.1 hc;rfl);rw [show 1+m*3=m*3+1 by omega,show m*3+1+3=(m+1)*3+1 by omega,HJ,JZ,Gu];congr 1;have e:rv=rv.take m++(rv[m]'hm::rv.drop (m+1)):=(by rw [←I8 hm,GU]);have e2:rv.set m r'=rv.take m++(r'::rv.drop (m+1)):=by rw [GV,if_pos hm]
 have f1:LW rv=LW (rv.take m)++((rv[m]'hm).cells++LW (rv.drop (m+1))):=by
  refine (congrArg LW e).trans ?_;simp only [LW,FG,Gy,G5,Hf]
 have l1:(LW (rv.take m)).length=m*3:=(by rw [oS,Gm];omega);rw [e2,f1];have t1:(LW (rv.take m)++((rv[m]'hm).cells++LW (rv.drop (m+1)))).take (m*3)=LW (rv.take m):=by rw [←l1,List.take_left'];rfl
 have t2:(LW (rv.take m)++((rv[m]'hm).cells++LW (rv.drop (m+1)))).drop ((m+1)*3)=LW (rv.drop (m+1)):=by
  rw [←GJ,List.drop_left'];rw [Fc,l1];show m*3+3=_;omega
 rw [t1,t2];simp [LW]

structure EstO (e:Value) (s:EstS) (b:Nat) (rv:List RegV):Prop where
 he:e= .pointer (some ⟨b,0,none⟩)
 hr:rv.map RegV.reg=s.rs
 ok:s.Ok
def My (e:Value)(s:EstS):Res:=Res.ex fun x:Nat×Value×List RegV=>Res.pure (EstO e s x.1 x.2.2) (Ri [blk x.1 73 (x.2.1::LW x.2.2),Me x.2.1 s.p,K3 RegV.res x.2.2])
variable {cx:Cx}{w:World}{L:List Res}{i:Nat}{e:Value}{s:EstS}
theorem Su (hS:St cx w (My e s::L)):∃b pp rv,EstO e s b rv∧St cx w (blk b 73 (pp::LW rv)::Me pp s.p::K3 RegV.res rv::L):=by
 obtain ⟨⟨b,pp,rv⟩,h⟩:=hS.ex;obtain ⟨h1,h2⟩:=h.pure;exact ⟨b,pp,rv,h1,h2.list⟩
theorem PS {b:Nat}{pp:Value}{rv:List RegV}(h:EstO e s b rv)(hS:St cx w (blk b 73 (pp::LW rv)::Me pp s.p::K3 RegV.res rv::L)):St cx w (My e s::L):=
 J3 (b,pp,rv) (St.pure' h (I3 hS))
theorem EstO.len {b:Nat}{rv:List RegV}(h:EstO e s b rv):rv.length=16:=by have:=congrArg List.length h.hr;rw [Fb,h.ok.len] at this;exact this
theorem EstO.at_ {b:Nat}{rv:List RegV}(h:EstO e s b rv){k:Nat}(hk:k<16):∃r,rv[k]?=some r∧s.reg k=r.reg:=by
 have hl:=h.len;refine ⟨rv[k]' Df,E7 Jo,?_⟩;have:=Gw h.ok hk;rw [←h.hr,Fy,E7 Jo] at this
 simpa using this.symm
theorem EstO.set {b:Nat}{rv:List RegV}(h:EstO e s b rv){s':EstS}{k:Nat}{r':RegV}(hs:s'.rs=s.rs.set k r'.reg)(ok:s'.Ok):EstO e s' b (rv.set k r'):=⟨h.he,by rw [GA,h.hr,hs],ok⟩
theorem tc (hS:St cx w L)(hi:nth L i=some (My e s)):s.Ok∧∃b,e= .pointer (some ⟨b,0,none⟩):=by
 obtain ⟨b,pp,rv,ho,_⟩:=Su (hS.out hi);exact ⟨ho.ok,b,ho.he⟩
theorem UB (hS:St cx w L){b:Nat}(hi:nth L i=some (My (.pointer (some ⟨b,0,none⟩)) s)):∃pp rv,EstO (.pointer (some ⟨b,0,none⟩)) s b rv∧St cx w (blk b 73 (pp::LW rv)::Me pp s.p::K3 RegV.res rv::L.eraseIdx i):=by
 obtain ⟨b',pp,rv,ho,h⟩:=Su (hS.out hi);have he:=ho.he;cases he;exact ⟨pp,rv,ho,h⟩
theorem EstS.pages_rng {s:EstS}(h:s.Ok){k:Nat}(hk:k<16):∀x∈(s.reg k).pages,0≤x∧x<64:=by
 intro x hx;have:=K0.1 (((Hh h hk).2 x).1 (HE _ hx));have:=h.n64;omega
theorem QcN (h:l≠[]):l.getD (((l.length:Nat):Int) - 1).toNat 0=l.getLastD 0:=by
 rcases Hc l with rfl|⟨l',x,rfl⟩
 · exact absurd rfl h
 · rw [JI];have e2:(l'++[x]).getLastD 0=x:=Dq;rw [e2,Fc,Ih,show (((l'.length+1:Nat):Int) - 1).toNat=l'.length by omega,E9,Ff (FE _)];simp
theorem EstS.used_rng {s:EstS}(h:s.Ok){k:Nat}(hk:k<16):0≤(s.reg k).used∧(s.reg k).used≤16:=h.used _ (Fa (Gw h hk))
abbrev Hy:=@EstS.used_rng
end
section
variable {cx:Cx}{w:World}{L:List Res}{i:Nat}{e:Value}{s:EstS}

theorem EstS.has_at {s:EstS}(h:s.Ok){b:Nat}{e:Value}{rv:List RegV}(ho:EstO e s b rv){k:Nat}(hk:k<16){r:RegV}(hr:rv[k]?=some r):s.has k=r.there:=by
 obtain ⟨r',h1,h2⟩:=ho.at_ hk;rw [hr] at h1;cases h1;unfold EstS.has;rw [h2];rfl
theorem i3 (k:Int)(hS:St cx w L)(hi:nth L i=some (My e s)):Kf Tryz.prog zN [e, .int .i64 k] w fun v w'=>v= .bool (s.has k)∧St cx w' L:=by
 obtain ⟨b,pp,rv,ho,hS⟩:=Su (hS.out hi);obtain rfl:=ho.he;have ok:=ho.ok;rcases (show (k<0∨16≤k)∨∃m:Nat,k=m∧m<16 by (by_cases h:k<0∨16≤k;(exact .inl h);exact .inr ⟨k.toNat,Jo,Jo⟩)) with hk|⟨m,rfl,hm⟩
 · have e0:s.has k=false:=(by unfold EstS.has;rw [JB ok hk];rfl);(refine Kq Ko Tryz.func196 ?_;refine' Nk;first|(refine' Ml)|(refine' MN)|(refine' Ag<;>intro hc));all_goals (refine' Lv;refine' lE;(first|refine Pf rfl De ?_|refine P4 rfl De ?_);refine' zm;refine' PO;refine' XV;refine' Kj;(first|refine Pf rfl De ?_|refine P4 rfl De ?_);refine' La;exact ⟨_,rfl,by rw [e0],(PS ho hS).back0 hi⟩)
 · obtain ⟨r,hr,hrs⟩:=ho.at_ hm;have e0:=EstS.has_at ok ho hm hr;refine Kq Ko Tryz.func196 ?_;refine' Nk;refine' Ml;refine' Lv;(first|refine' Kj|(refine' Kl;refine' KX));refine Pf rfl De ?_;refine' WT;(first|refine' Kj|(refine' Kl;refine bg rfl rfl Jo Jo ?_));refine' MT;(first|refine' Kj|(refine' Kl;refine QX hS rfl (FB Dg) (Nc (j:=0) hr rfl) ?_));refine Pf rfl De ?_;refine' La;(exact ⟨_,rfl,by rw [e0],(PS ho hS).back0 hi⟩)
theorem X8 (hS:St cx w L)(hi:nth L i=some (My e s)):Kf Tryz.prog yK [e] w fun v w'=>v= .int .i64 s.openV∧St cx w' (L.set i (My e s.open)):=by
 obtain ⟨b,pp,rv,ho,hS⟩:=Su (hS.out hi);obtain rfl:=ho.he;have ok:=ho.ok;have hlen:=ho.len;refine Kq Ko Tryz.func136 ?_;refine' LM;refine' NO;refine fx (fun ρ' w'=>∃(j:Nat),Kn ρ' [(0, .pointer (some ⟨b,0,none⟩)),(4, .int .i64 j)]∧(j≤16)∧(∀m,m<j→(s.reg (m:Nat)).there=true)∧St cx w' (blk b 73 (pp::LW rv)::Me pp s.p::K3 RegV.res rv::L.eraseIdx i)) (fun ρ' _=>(16 - iv (ρ' 4)).toNat) ?_ ?_
 · exact ⟨0,⟨rfl,rfl,trivial⟩,Jo,fun m hm=>absurd hm Jo,(hS.subP Dn)⟩
 rintro ρ w1 ⟨j,hρ,hj,hth,hS⟩;obtain ⟨ρ,rfl⟩:=fq _ hρ;refine' MH;refine' Ab<;>intro hc
 · skip
   refine' L4;refine' KP;refine' Ms;obtain ⟨r,hr,hrs⟩:=ho.at_ (k:=j) Jo;refine' MZ;refine' Lh;refine bg rfl rfl Jo Jo ?_;refine' Nt;refine QX hS rfl (FB Dg) (Nc (j:=0) hr rfl) ?_;refine' Nv;refine' Aa<;>intro hc
   · skip;have hlow:s.low=j:=EstS.low_eq ok Jo (by rw [hrs];show r.there=false;simpa using hc) hth;refine' Lc;refine nr (cs:=[_,_,_]) De Jr ?_;refine' Lh;refine bg rfl rfl Jo Jo ?_;refine SM hS rfl rfl Jr (FB Dg) D7 Dl (UA (r':=⟨true, .slice none 0 0,[],0⟩) Jo) ?_;intro w1 hS;simp only [Fi,Fo] at hS;simp only [FJ] at hS;have hS:=hS.mv2;have hS:=hS.bigOut KU hr;have hS:=hS.drop.nil (T:=3) (es:=1);have hS:=H8 (f:=RegV.res) (l:=rv) (k:=j) (x':=⟨true, .slice none 0 0,[],0⟩) hS KU Jo;refine' LN;refine' La;(((have e1:s.open=⟨s.p,s.rs.set j ⟨true,[],0⟩⟩:=EE;have e2:s.openV=j:=EF;exact Dc)))
   · skip;refine' Kx;refine' N1;(exact ⟨⟨j+1,⟨rfl,rfl,trivial⟩,Jo,fun m hm=>by rcases GD m j with h|h;exact hth m h;rw [show m=j by omega,hrs];show r.there=true;simpa using hc,(hS.subP Dn)⟩,Qj Jo⟩)
 · skip;refine' Pm;((first|(have e1:s.open=⟨s.p,s.rs.set j ⟨true,[],0⟩⟩:=EE;have e2:s.openV=j:=EF;exact Dc)|(have hlow:s.low=16:=EstS.low_full ok (fun m hm=>hth m Jo);have e1:s.open=s:=(by unfold EstS.open;rw [hlow,if_neg Jo]);have e2:s.openV=-1:=(by unfold EstS.openV;rw [hlow,if_neg Jo]);exact ⟨_,rfl,by rw [e2],(PS (by rw [e1];exact ho) (by rw [e1];exact hS)).back hi⟩)))
theorem Qe9 {rs:List Reg}(h:j<rs.length):(rs.take (j+1)).countP (fun r=>r.there)=(rs.take j).countP (fun r=>r.there)+if (rs.getD j Reg.none).there then 1 else 0:=by
 rw [rX Reg.none h,HP,List.countP_singleton]
theorem UC (hS:St cx w L)(hi:nth L i=some (My e s)):Kf Tryz.prog xO [e] w fun v w'=>v= .int .i64 s.count∧St cx w' L:=by
 obtain ⟨b,pp,rv,ho,hS⟩:=Su (hS.out hi);obtain rfl:=ho.he;have ok:=ho.ok;have hlen:=ho.len;have hl:=ok.len;refine Kq Ko Tryz.func40 ?_;refine' LM;refine' LM;refine' NO;refine fx (fun ρ' w'=>∃(j n:Nat),Kn ρ' [(0, .pointer (some ⟨b,0,none⟩)),(3, .int .i64 n),(5, .int .i64 j)]∧(j≤16)∧(n=(s.rs.take j).countP (fun r=>r.there))∧St cx w' (blk b 73 (pp::LW rv)::Me pp s.p::K3 RegV.res rv::L.eraseIdx i)) (fun ρ' _=>(16 - iv (ρ' 5)).toNat) ?_ ?_
 · exact ⟨0,0,⟨rfl,rfl,rfl,trivial⟩,Jo,(by first|omega|assumption|rfl),(hS.subP Dn)⟩
 rintro ρ w1 ⟨j,n,hρ,hj,hn,hS⟩;obtain ⟨ρ,rfl⟩:=fq _ hρ;have hcl:=List.countP_le_length (p:=fun r:Reg=>r.there) (l:=s.rs.take j);have htl:=List.length_take_le j s.rs;refine' MH;refine' Ab<;>intro hc
 · skip
   refine' Ub;obtain ⟨r,hr,hrs⟩:=ho.at_ (k:=j) Jo;have hcs:=Qe9 (rs:=s.rs) (j:=j) Jo;have hrg:s.rs.getD j Reg.none=r.reg:=(by rw [←hrs];unfold EstS.reg;rw [if_pos Jo,FJ]);rw [hrg] at hcs;refine' LV;refine' KA;refine' Lc;refine' Lh;refine bg rfl rfl Jo Jo ?_;refine' Nt;refine QX hS rfl (FB Dg) (Nc (j:=0) hr rfl) ?_;refine' zn;refine' Aa<;>intro hc
   · skip;refine' Mt;refine' N1;(exact Ci)
   · skip;refine' Kx;refine' N1;(first|(exact Ci)|(exact ⟨⟨j+1,n,⟨rfl,rfl,rfl,trivial⟩,Jo,(by rw [hcs,hn,if_neg (show¬r.reg.there=true from by rw [show r.reg.there=false from hc];simp)];rfl),(hS.subP Dn)⟩,Qj Jo⟩))
 · skip;refine' Sn;(have hn':s.count=(n:Int):=(by unfold EstS.count;rw [hn,FM Jo]);exact ⟨_,rfl,by rw [hn'],(PS ho hS).back0 hi⟩)
theorem EstS.shut_yes {s:EstS}(hk:s.has m=true):s.shut m=⟨s.p.gives (s.reg m).pages,s.rs.set m Reg.none⟩:=by unfold EstS.shut;rw [if_pos hk,FJ]
abbrev Jh:=@EstS.shut_yes
theorem EstS.shut_no {s:EstS}{k:Int}(hk:s.has k=false):s.shut k=s:=by unfold EstS.shut;rw [hk,if_neg Js]
theorem X9 (k:Int)(hS:St cx w L)(hi:nth L i=some (My e s)):Kf Tryz.prog yL [e, .int .i64 k] w fun v w'=>v= .bool (s.has k)∧St cx w' (L.set i (My e (s.shut k))):=by
 obtain ⟨ok,b,rfl⟩:=tc hS hi
 cases hk:s.has k with
 | true=>
   obtain ⟨m,rfl,hm⟩:=Io ok hk;have e1:=Jh hk;have hpl:=I5 ok hm;refine Kq Ko Tryz.func137 ?_;refine' Mq;refine' zm;refine bz De De (i3 _ hS hi) ?_;rintro v1 w1 ⟨rfl,hS⟩;rw [hk];refine' Nv
   all_goals
    first
    | (refine' Ki;all_goals (refine' KP;refine RF ?_;(repeat (refine aZ ?_));refine' ZM;(repeat (refine' Tj));refine' zf);all_goals (exact B6))
    | (refine' Kk;refine' Kx)
   refine' Oe;obtain ⟨pp,rv,ho,hS⟩:=UB hS hi;obtain ⟨r,hr,hrs⟩:=ho.at_ hm;have hlen:=ho.len;rw [hrs] at hpl e1;have hpl':r.pages.length≤64:=hpl;refine' MZ;refine' Lh;refine bg rfl rfl Jo Jo ?_;refine' Nt;refine QX hS rfl (FB Dg) (Nc (j:=1) hr rfl) ?_;have hS:=hS.bigOut Ni hr;refine QL hS De (KU (a:=RegV.res r)) (Fb _) ?_;refine' Ob;refine fx (fun ρ' w'=>∃(j:Nat),Kn ρ' [(0, .pointer (some ⟨b,0,none⟩)),(1, .int .i64 m),(17,r.pv),(18, .int .i64 r.pages.length),(19, .int .i64 j)]∧(j≤r.pages.length)∧St cx w' (sl 3 1 r.pv (r.pages.map Qr)::blk b 73 (pp::LW rv)::Me pp (s.p.gives (r.pages.take j))::K3 RegV.res (rv.eraseIdx m)::L.eraseIdx i)) (fun ρ' _=>(r.pages.length - iv (ρ' 19)).toNat) ?_ ?_
   · exact ⟨0,⟨rfl,rfl,rfl,rfl,rfl,trivial⟩,Jo,(hS.subP Dn)⟩
   rintro ρ w1 ⟨j,hρ,hj,hS⟩;obtain ⟨ρ,rfl⟩:=fq _ hρ;refine' MH;refine' Ab<;>intro hc
   · skip;refine' bM;refine RI hS De rfl (FB Dg) Dt ?_;intro b1 o1 hel1;(first|(refine QX hS rfl (FB Dg) Jr ?_)|(refine nH hS Ja rfl (FB Dg) rfl Jo ?_));refine' KA;refine' LV;refine' Lh;refine QX hS rfl (FB Dg) rfl ?_;refine' zm;refine bz De De (cj _ hS (FB Dg)) ?_;rintro v2 w2 ⟨rfl,hS⟩;simp only [Fi,Fo] at hS;refine' Rr;(exact ⟨⟨j+1,⟨rfl,rfl,rfl,rfl,rfl,trivial⟩,Jo,by rw [QfS Jo];exact (hS.subP Dn)⟩,Qj Jo⟩)
   · skip;refine' L8;obtain rfl:j=r.pages.length:=Df;rw [IQ] at hS;refine' Lc;refine lk (cs:=[_,_,_]) Jr ?_;refine' Lh;refine bg rfl rfl Jo Jo ?_;refine SM hS rfl rfl Jr (FB Dg) D7 Dl (UA (r':=RegV.nil) Jo) ?_;intro w1 hS;simp only [Fi,Fo] at hS;simp only [FJ] at hS;have hS:=hS.drop.nil (T:=3) (es:=1);have hS:=H8 (f:=RegV.res) (l:=rv) (k:=m) (x':=RegV.nil) hS Ni Jo;simp only [Fi,Fo] at hS;refine' zn;refine' KQ;(exact B6)
 | false=>
   rw [EstS.shut_no hk,X7 hi];refine Kq Ko Tryz.func137 ?_;refine' Mq;refine' zm;refine bz De De (i3 _ hS hi) ?_;rintro v1 w1 ⟨rfl,hS⟩;rw [hk];refine' Nv;refine' Ki;refine' KQ;((exact ⟨_,rfl,rfl,hS⟩))
theorem Ya {s:EstS}{k n:Int}(hk:s.has k=false):s.code k n=15:=by unfold EstS.code;rw [hk];rfl
theorem UD {s:EstS}{k n:Int}(hk:s.has k=true)(hn:n<1∨16<n):s.code k n=1:=by unfold EstS.code;rw [hk,if_neg Js,if_pos hn]
theorem Qig {s:EstS}{k n:Int}(hk:s.has k=true)(hn:¬(n<1∨16<n))(h:(s.reg k).more n=true∧s.p.fr=[]):s.code k n=14:=by unfold EstS.code;rw [hk,if_neg Js,if_neg hn,if_pos h]
theorem td {s:EstS}{k n:Int}(hk:s.has k=true)(hn:¬(n<1∨16<n))(h:¬((s.reg k).more n=true∧s.p.fr=[])):s.code k n=0:=by unfold EstS.code;rw [hk,if_neg Js,if_neg hn,if_neg h]
theorem i4 {s:EstS}{k n:Int}(h:s.code k n≠0):s.get k n=s∧s.getV k n=0:=by unfold EstS.get EstS.getV;rw [if_neg h,if_neg h];exact ⟨rfl,rfl⟩
theorem RegV.more_iff {r:RegV}{n:Int}:r.reg.more n=true↔(r.pages=[]∨16<r.used+n):=decide_eq_true_iff
abbrev Ji:=@RegV.more_iff
theorem te {rv:List RegV}{r:RegV}(h:m<rv.length):(rv.set m r)[m]?=some r:=by simp [h]
theorem set_set {rv:List RegV}{r r':RegV}:(rv.set m r).set m r'=rv.set m r':=HM ..
theorem cm (k n:Int)(hS:St cx w L)(hi:nth L i=some (My e s)):Kf Tryz.prog z5 [e, .int .i64 k, .int .i64 n] w fun v w'=>v= .tuple #[.int .i64 (s.getV k n), .int .i64 (s.code k n)]∧St cx w' (L.set i (My e (s.get k n))):=by
 obtain ⟨ok,b,rfl⟩:=tc hS hi
 cases hk:s.has k with
 | false=>
   have hc:=Ya (n:=n) hk;obtain ⟨e1,e2⟩:=i4 (s:=s) (k:=k) (n:=n) Jo;rw [e1,X7 hi,e2,hc];refine Kq Ko Tryz.func225 ?_;refine' Nz;refine' bK;refine' Lc;refine bz De De (i3 _ hS hi) ?_;rintro v1 w1 ⟨rfl,hS⟩;rw [hk];refine' PC;refine' KA;refine' Ki;refine' KP;refine' SW;((exact ⟨_,rfl,rfl,hS⟩))
 | true =>
   by_cases hn:n<1∨16<n
   · have hc:=UD hk hn;obtain ⟨e1,e2⟩:=i4 (s:=s) (k:=k) (n:=n) Jo;rw [e1,X7 hi,e2,hc];(refine Kq Ko Tryz.func225 ?_;refine' Nz;refine' bK;refine' Lc;refine bz De De (i3 _ hS hi) ?_;rintro v1 w1 ⟨rfl,hS⟩;rw [hk];refine' PC;refine' KA;refine' Kk;refine' KP;first|(refine' KX)|(refine' K1)|(refine' Ae<;>intro hc));all_goals (refine' Lv;refine' fQ;(first|refine Pf rfl De ?_|refine P4 rfl De ?_);refine' KA;refine' Ki;refine' KP;refine' SW;exact ⟨_,rfl,rfl,hS⟩)
   · obtain ⟨m,rfl,hm⟩:=Io ok hk
     have hpl:=I5 ok hm;have hpr:=EstS.pages_rng ok hm;have hur:=Hy ok hm;refine Kq Ko Tryz.func225 ?_;refine' Nz;refine' bK;refine' Lc;refine bz De De (i3 _ hS hi) ?_;rintro v1 w1 ⟨rfl,hS⟩;rw [hk];refine' PC;refine' KA;refine' Kk;refine' KP;refine' XU;refine' Lv;refine' iO;(first|refine Pf rfl De ?_|refine P4 rfl De ?_);refine' KA;refine' Pj;refine QA ?_;obtain ⟨pp,rv,ho,hS⟩:=UB hS hi;obtain ⟨r,hr,hrs⟩:=ho.at_ hm;have hlen:=ho.len;rw [hrs] at hpl hpr hur;have hpl':r.pages.length≤64:=hpl;have hur':0≤r.used∧r.used≤16:=hur;have hS:St cx w1 (sl 3 1 r.pv (r.pages.map Qr)::blk b 73 (pp::LW rv)::Me pp s.p::K3 RegV.res (rv.eraseIdx m)::L.eraseIdx i):=hS.bigOut Ni hr;have hpe:r.pages=[]↔r.pages.length=0:=GI.symm;refine' MZ;refine' Lh;refine bg rfl rfl Jo Jo ?_;refine' KA;refine RH (fun ρ' w'=>∃(r1:RegV) (p1:PoolS),Kn ρ' [(0, .pointer (some ⟨b,0,none⟩)),(1, .int .i64 m),(2, .int .i64 n),(8, .pointer (some ⟨b,1+m*3,none⟩))]∧(s.code m n=0)∧(r1.reg=s.regTo m n)∧(p1=(if (s.reg m).more n then s.p.take else s.p))∧(r1.pages.length≤65)∧(r1.pages≠[])∧(∀x∈r1.pages,0≤x∧x<64)∧(0≤r1.used∧r1.used+n≤16)∧St cx w' (sl 3 1 r1.pv (r1.pages.map Qr)::blk b 73 (pp::LW (rv.set m r1))::Me pp p1::K3 RegV.res (rv.eraseIdx m)::L.eraseIdx i)) ?_ ?_
     · skip
       ((refine' KP;refine' MY;refine QX hS rfl (FB Dg) (Nc (j:=1) hr rfl) ?_;refine QL hS De (FB Dg) Dh ?_;first|(refine' Ql)|(refine' Qp)|(refine' Ac<;>intro hc));all_goals (refine' Lv;refine' T8;refine' MT;(first|refine' Kj|(refine' Kl;(first|(refine QX hS rfl (FB Dg) (Nc (j:=1) hr rfl) ?_)|(refine QX hS rfl (FB Dg) (Nc (j:=2) hr rfl) ?_))));refine' Mc;refine' iR;first|refine' Kj|(refine' Kl;(first|(refine' QV)|(refine' QW)|(refine' Af<;>intro hc)))));all_goals ((first|refine Pf rfl De ?_|refine P4 rfl De ?_);refine' zn)
       all_goals
        first
        | (refine' Ki
           all_goals (have hmo:(s.reg m).more n=true:=(by rw [hrs,Ji,hpe];omega);refine' WS;(first|(refine QX hS rfl (FB Dg) (Nc (j:=1) hr rfl) ?_)|(refine QX hS rfl (FB Dg) (Nc (j:=2) hr rfl) ?_)|(refine QX hS rfl (FB Dg) (Nc (j:=1) hr1 rfl) ?_)|(refine QX hS rfl (FB Dg) (Nc (j:=2) hr1 rfl) ?_)|(refine QX hS rfl (FB Dg) Jr ?_));refine nI De (cg hS (FB Dg)) ?_;rintro v4 w4 ⟨rfl,hS⟩;simp only [Fi,Fo] at hS;refine' S0;rcases H4 ok.pok with ⟨h1,h2,h3⟩|⟨k2,fr2,h1,h2,h3⟩);all_goals (refine' LS;(first|(have hcd:=Qig hk hn ⟨hmo,h1⟩;obtain ⟨e1,e2⟩:=i4 (s:=s) (k:=m) (n:=n) Jo;rw [h3] at hS)|(obtain ⟨_,hk2,_⟩:=(Hh ok hm).take ok.pok h1 h2 h3;have hcd:=td hk hn (fun h=>by rw [h1] at h;simp at h);have h64:=ok.n64));refine' zm;refine' XU;refine' zn)
           all_goals
            first
            | (refine' Ki;all_goals (refine' KP;refine' SW);all_goals (rw [e1,X7 hi,e2,hcd];have hS:St cx w4 (RegV.res r::blk b 73 (pp::LW rv)::Me pp s.p::K3 RegV.res (rv.eraseIdx m)::L.eraseIdx i):=hS;have hS:=H8 (f:=RegV.res) (l:=rv) (k:=m) (x':=r) hS Ni Jo;simp only [Fi,Fo] at hS;rw [fF hr] at hS;exact ⟨_,rfl,rfl,(PS ho hS).back0 hi⟩))
            | (refine' Kk;all_goals (refine' Kx))
           all_goals (refine' Lc;refine' MY;refine QX hS rfl (FB Dg) (Nc (j:=1) hr rfl) ?_;refine' zm;refine Rh (cs:=[_]) De Jr ?_;intro b1 w1 hb1 hf1 _ hk1;have hS:=hS.laid hb1 hf1 hk1;refine NL oO (.inl oQ) hS De De (FB Dg) (hS.srcB1 (FB Dg) rfl) Dt ?_;intro v7 w7 hS;simp only [Fi,Fo] at hS;have hS:=hS.drop;refine' MY;refine nD hS rfl De (FB Dg) D7 (by first|rfl|assumption|exact hS.oneC (FB (by repeat constructor))) (Uz (r':=⟨r.there,v7,r.pages++[s.p.top],r.used⟩) (j:=1) hr Jo rfl) ?_;intro w8 hS;simp only [Fi,Fo] at hS;refine' zn;refine' LV;refine' MY;refine nD hS rfl De (FB Dg) EX Jr (Uz (r:=⟨r.there,v7,r.pages++[s.p.top],r.used⟩) (r':=⟨r.there,v7,r.pages++[s.p.top],0⟩) (j:=2) (te Jo) Jo rfl) ?_;intro w9 hS;simp only [Fi,Fo] at hS;simp only [FJ,set_set] at hS);all_goals (refine' zn))
        | (refine' Kk;have hmo:¬(s.reg m).more n=true:=(by rw [hrs,Ji,hpe];omega);refine' Kx)
       all_goals (first|(exact ⟨r,s.p,⟨rfl,rfl,rfl,rfl,trivial⟩,(td hk hn fun h=>hmo h.1),(by unfold EstS.regTo;rw [if_neg hmo,hrs]),(by rw [if_neg hmo]),Jo,(by rw [Ne,hpe];omega),hpr,Jo,by rw [fF hr];exact (hS.subP Dn)⟩)|(exact ⟨⟨r.there,v7,r.pages++[s.p.top],0⟩,s.p.take,⟨rfl,rfl,rfl,rfl,trivial⟩,hcd,(by unfold EstS.regTo;rw [if_pos hmo,hrs];rfl),(by rw [if_pos hmo]),Di,Js,(by intro x hx;rcases FC.1 hx with h|h;exact hpr x h;simp only [F7] at h;omega),(by simp only;omega),by simp only [FG];exact (hS.subP Dn)⟩))
     rintro ρ w1 ⟨r1,p1,hρ,hcd,hreg,hp1,hpl1,hne,hrg,hu1,hS⟩;obtain ⟨ρ,rfl⟩:=fq _ hρ;have hr1:(rv.set m r1)[m]?=some r1:=te Jo;have hlast:=QcN hne;have hmem:=hrg (r1.pages.getD (((r1.pages.length:Nat):Int) - 1).toNat 0) (Tz (by have:=Hn.2 hne;omega));have hpos:=Hn.2 hne;refine QA ?_;refine m8 [(0,none),(1,none),(2,none),(3,none),(4,none),(5,none),(6,none),(7,none),(8,none),(9,none),(10,none),(11,none),(12,none),(13,none),(14,none),(15,none),(16,none),(17,none),(18,some none)] Jk Jk ?_;have hS:=hS.drew;refine' Po;(first|(refine QX hS rfl (FB Dg) (Nc (j:=1) hr rfl) ?_)|(refine QX hS rfl (FB Dg) (Nc (j:=2) hr rfl) ?_)|(refine QX hS rfl (FB Dg) (Nc (j:=1) hr1 rfl) ?_));refine' Po;(first|(refine QX hS rfl (FB Dg) (Nc (j:=1) hr rfl) ?_)|(refine QX hS rfl (FB Dg) (Nc (j:=2) hr rfl) ?_)|(refine QX hS rfl (FB Dg) (Nc (j:=1) hr1 rfl) ?_));refine QL hS De (FB Dg) Dh ?_;refine' PD;(first|(refine RI hS De rfl (FB Dg) Dt ?_;intro b1 o1 hel1)|(refine P5 hS De rfl (FB Dg) Jo Dt ?_;intro b1 o1 hel1));(first|(refine QX hS rfl (FB Dg) (Nc (j:=1) hr rfl) ?_)|(refine QX hS rfl (FB Dg) (Nc (j:=2) hr rfl) ?_)|(refine QX hS rfl (FB Dg) (Nc (j:=1) hr1 rfl) ?_)|(refine QX hS rfl (FB Dg) (Nc (j:=2) hr1 rfl) ?_)|(refine QX hS rfl (FB Dg) Jr ?_)|(refine nH hS Ja rfl (FB Dg) rfl Jo ?_));refine' OR;refine' Po;(first|(refine QX hS rfl (FB Dg) (Nc (j:=1) hr rfl) ?_)|(refine QX hS rfl (FB Dg) (Nc (j:=2) hr rfl) ?_)|(refine QX hS rfl (FB Dg) (Nc (j:=1) hr1 rfl) ?_)|(refine QX hS rfl (FB Dg) (Nc (j:=2) hr1 rfl) ?_));refine' lH;refine' KP;refine' MY;(first|(refine QX hS rfl (FB Dg) (Nc (j:=1) hr rfl) ?_)|(refine QX hS rfl (FB Dg) (Nc (j:=2) hr rfl) ?_)|(refine QX hS rfl (FB Dg) (Nc (j:=1) hr1 rfl) ?_)|(refine QX hS rfl (FB Dg) (Nc (j:=2) hr1 rfl) ?_));refine' zm;refine' MX;refine' MY;refine nD hS rfl De (FB Dg) EX Jr (Uz (r:=r1) (r':=⟨r1.there,r1.pv,r1.pages,r1.used+n⟩) (j:=2) hr1 Jo rfl) ?_;intro w9 hS;simp only [Fi,Fo] at hS;simp only [set_set] at hS;have hS:=H8 (f:=RegV.res) (l:=rv) (k:=m) (x':=⟨r1.there,r1.pv,r1.pages,r1.used+n⟩) hS Ni Jo;simp only [Fi,Fo] at hS;refine' Uj;refine' SW;((first|(rw [e1,X7 hi,e2,hcd];have hS:St cx w4 (RegV.res r::blk b 73 (pp::LW rv)::Me pp s.p::K3 RegV.res (rv.eraseIdx m)::L.eraseIdx i):=hS;have hS:=H8 (f:=RegV.res) (l:=rv) (k:=m) (x':=r) hS Ni Jo;simp only [Fi,Fo] at hS;rw [fF hr] at hS;exact ⟨_,rfl,rfl,(PS ho hS).back0 hi⟩)|(have e1:s.get m n=⟨p1,s.rs.set m ((s.regTo m n).use n)⟩:=(by unfold EstS.get;rw [if_pos hcd,hp1,FJ]);have e2:s.getV m n=r1.pages.getD (((r1.pages.length:Nat):Int) - 1).toNat 0*16+r1.used:=(by unfold EstS.getV;rw [if_pos hcd,←hreg,hlast];rfl);exact ⟨_,rfl,by rw [e2,hcd],(PS (s:=s.get m n) (by rw [e1];exact ho.set (k:=m) (r':=⟨r1.there,r1.pv,r1.pages,r1.used+n⟩) (by rw [←hreg];rfl) (e1 ▸ JT ok m n)) (by rw [e1];exact (hS.subP (by (repeat constructor);first|done|fail)))).back hi⟩)))
theorem big_nil:∀(n:Nat){cx:Cx}{w:World}{L:List Res},St cx w L→St cx w (K3 RegV.res (List.replicate n RegV.nil)::L)
 | 0,_,_,_,h=>h.emp (r:=emp) fun _ h=>h
 | n+1,_,_,_,h=>by
   have h1:=(big_nil n h).nil (T:=3) (es:=1);exact HF (r:=RegV.res RegV.nil) h1
theorem QdR (n:Nat):(List.replicate n RegV.nil).map RegV.reg=List.replicate n Reg.none:=by rw [HS];rfl
theorem cp (n:Int)(hS:St cx w L):Kf Tryz.prog yf [.int .i64 n] w fun v w'=>
 (n<0∨64<n)∧v= .tuple #[.pointer none, .agg ⟨[.int .i64 1, .int .i64 (-1)]⟩]∧St cx w' L∨
 ∃(m:Nat) (b:Nat),n=m∧m≤64∧v= .tuple #[.pointer (some ⟨b,0,none⟩), .agg ⟨[.int .i64 0, .int .i64 0]⟩]∧St cx w' (My (.pointer (some ⟨b,0,none⟩)) (EstS.mk0 m)::L):=by
 refine Kq Ko Tryz.func79 ?_;refine' KP;refine Qd hS ?_;(intro b1 w1 hS);refine' LN;refine nI De (i0 _ hS) ?_;rintro v3 w3 (⟨hn,rfl,hS⟩|⟨m,b,rfl,hm,rfl,hS⟩);all_goals (refine' RT;intro b1 w1 hS;refine' zm;refine SM hS rfl rfl Jr (FB Dg) Js Ef Jr ?_;intro w1 hS;simp only [Fi,Fo] at hS;refine' L5;refine' S4;refine QX hS rfl (FB Dg) Jr ?_;refine' Rp;refine' zn)
 all_goals
  first
  | (refine' Ki
     refine QA ?_;refine m8 [(0,none),(1,none),(2,some none)] Jk Jk ?_;have hS:=hS.drew;((refine nC hS rfl (FB Dg) Jr Jr ?_));refine' zm;refine SM hS rfl rfl Jr (FB Dg) Js Ef Jr ?_;intro w1 hS;simp only [Fi,Fo] at hS;refine' Lz;((refine OJ De De (Q2 (n:=2) Jk Jk (hS.blkAt (FB Dg)) Jr Jr) ?_;exact CF)))
  | (refine' Kk;refine' Kx)
 refine QA ?_;have hS:=big_nil 16 hS;refine' LV;refine nr (cs:=[_,_,_,_,_,_,_,_,_,_,_,_,_,_,_,_,_,_,_,_,_,_,_,_,_,_,_,_,_,_,_,_,_,_,_,_,_,_,_,_,_,_,_,_,_,_,_,_,_]) De Jr ?_;refine N9 hS De Jr ?_;intro b1 w1 hS;refine lk (cs:=[_,_]) Jr ?_;refine' zm;refine SM hS rfl rfl Jr (FB Dg) Js Ef Jr ?_;intro w1 hS;simp only [Fi,Fo] at hS;refine' Lz;((first|(refine OJ De De (Q2 (n:=2) Jk Jk (hS.blkAt (FB Dg)) Jr Jr) ?_;exact CF)|(refine OJ De De (Q2 (n:=2) Jk Jk (hS.blkAt (FB Dg)) Jr Jr) ?_;exact ⟨_,rfl, .inr ⟨m,_,rfl,hm,rfl,PS (s:=EstS.mk0 m) (rv:=List.replicate 16 RegV.nil) ⟨rfl,QdR 16,JQ hm⟩ (hS.subP Dn)⟩⟩)))
end
end Go.Proofs.YteflkifmgnpbhaaGreat
namespace Go.Lir
section
abbrev LX:=Int×Int
def KR (a b:LX):LX:=if a.1=0∧b.1≠0 then b else a
def K2 (c at':Int):LX:=if c=0 then (0,0) else (c,at')
theorem cq (a b c:LX):KR (KR a b) c=KR a (KR b c):=by
 unfold KR;by_cases h1:a.1=0<;>by_cases h2:b.1=0<;>by_cases h3:c.1=0<;>simp [h1,h2,h3]
theorem OB {a b:LX}(h:a.1≠0):KR a b=a:=by unfold KR;rw [if_neg (fun h'=>h h'.1)]
theorem fX {a b:LX}(h:b.1=0):KR a b=a:=by unfold KR;rw [if_neg (fun h'=>h'.2 h)]
theorem Mg {b:LX}(h:b.1=0→b=(0,0)):KR (0,0) b=b:=by
 unfold KR;by_cases hb:b.1=0
 · rw [h hb];rfl
 · rw [if_pos ⟨rfl,hb⟩]
theorem ME (at':Int):K2 0 at'=(0,0):=rfl
theorem P9 {c:Int}(h:c≠0):K2 c at'=(c,at'):=if_neg h
theorem RW (c at':Int):(K2 c at').1=c:=by unfold K2;split<;>simp_all
theorem Sv (c at':Int):(K2 c at').1=0→K2 c at'=(0,0):=by rw [RW];rintro rfl;rfl
theorem WY {a b:LX}(ha:a.1=0→a=(0,0))(hb:b.1=0→b=(0,0)):(KR a b).1=0→KR a b=(0,0):=by
 unfold KR;split
 · exact hb
 · exact ha
def Sw (a b:Int):Int:=if a≠0 then a else b
theorem O1 {g:LX}{a b:Int}:KR (KR g (K2 a at')) (K2 b at')=KR g (K2 (Sw a b) at'):=by
 rw [cq];congr 1;unfold Sw KR;by_cases h:a=0
 · subst h
   by_cases hb:b=0
   · subst hb;rfl
   · simp [K2,hb]
 · simp [K2,h]

def fA (op:Int):Bool:=decide (op=2∨op=4∨op=5∨op=6∨op=7∨op=8∨op=9∨op=10∨op=11∨op=13)
def fB (op:Int):Bool:=decide (op=2∨op=7∨op=8∨op=9∨op=10)
def fC (op:Int):Bool:=decide (op=10)
def fK (op:Int):Bool:=decide (op=2∨op=6∨op=7∨op=14)
def fN (op:Int):Bool:=decide (op=1)
def fG (op:Int):Bool:=decide (op=14)
def fR (op:Int):Bool:=decide (op=5∨op=14)
def Ins.odd (x:Ins):Prop:=(fA x.op=false∧x.a≠0)∨(fB x.op=false∧x.b≠0)∨(fC x.op=false∧x.c≠0)∨(fK x.op=false∧x.k≠0)∨(fN x.op=false∧x.n≠0)∨(fG x.op=false∧0<x.regs.length)∨(fR x.op=false∧0<x.args.length)
instance (x:Ins):Decidable x.odd:=by unfold Ins.odd;infer_instance
def Oj (n:Nat)(x:Ins):Int:=
 if x.op=2 then (if x.k<1∨9<x.k then 1 else 0)
 else if x.op=5 then (if 8<x.args.length then 2 else 0)
 else if x.op=6∨x.op=7 then (if x.k<0∨8≤x.k then 1 else 0)
 else if x.op=14 then (if x.k<0∨(n:Int)≤x.k then 1 else if 6<x.regs.length∨8<x.args.length then 2 else 0)
 else 0
def Qx (n:Nat)(x:Ins):Int:=if x.op<1∨14<x.op then 3 else if x.odd then 4 else Oj n x
def Nd (n:Nat)(t:To)(is:Bool):Int:=
 if is=false then (if t.block≠0∨0<t.regs.length∨0<t.args.length then 4 else 0)
 else if t.block<0∨(n:Int)≤t.block then 1 else if 16<t.regs.length∨8<t.args.length then 2 else 0
def Nl (n:Nat)(e:Tail):Int:=
 if e.op<1∨3<e.op then 3
 else if e.op≠2∧e.a≠0∨e.op≠3∧0<e.args.length then 4
 else if 8<e.args.length then 2
 else Sw (Nd n e.yes (decide (e.op≠3))) (Nd n e.no (decide (e.op=2)))
def Rs (regs:Int):List Ty→Int
 | []=>0
 | t::l=>Sw (t.fault regs) (Rs regs l)
def Qy (l:List Ty)(regs:Int):Int:=if 8<l.length then 2 else Rs regs l
def Pp (f:Nat):Int:=f*10000+9999
def Sx (f b:Nat):Int:=f*10000+b*100+90
def PT (f b:Nat):Int:=f*10000+b*100+91
def O2 (f b i:Nat):Int:=f*10000+b*100+i
def ON (n f b:Nat):Nat→List Ins→LX
 | _,[]=>(0,0)
 | i,x::l=>KR (K2 (Qx n x) (O2 f b i)) (ON n f b (i+1) l)
def QB (x:Fun)(b:Nat)(y:Block):Int:=
 if y.regs<x.regs∨16<y.regs then 1
 else if Qy y.params y.regs≠0 then Qy y.params y.regs
 else if b=0∧(y.regs≠x.regs∨y.params≠x.params) then 9
 else if 40<y.code.length then 2 else 0
def OC (n f:Nat)(x:Fun)(b:Nat)(y:Block):LX:=KR (K2 (QB x b y) (Sx f b)) (KR (ON n f b 0 y.code) (K2 (Nl x.blocks.length y.fin) (PT f b)))
def Pq (n f:Nat)(x:Fun):Nat→List Block→LX
 | _,[]=>(0,0)
 | b,y::l=>KR (OC n f x b y) (Pq n f x (b+1) l)
def QI (f:Nat)(x:Fun):Int:=
 if x.regs<0∨6<x.regs then 1
 else if Qy x.params x.regs≠0 then Qy x.params x.regs
 else if Qy x.results x.regs≠0 then Qy x.results x.regs
 else if x.blocks.length<1∨12<x.blocks.length then 2
 else if f=0∧(0<x.regs∨0<x.params.length∨∃t∈x.results,t.kind≠1) then 18 else 0
def Rt (n f:Nat)(x:Fun):LX:=KR (K2 (QI f x) (Pp f)) (Pq n f x 0 x.blocks)
def PU (n:Nat):Nat→List Fun→LX
 | _,[]=>(0,0)
 | f,x::l=>KR (Rt n f x) (PU n (f+1) l)
def Module.fault (m:Module):LX:=KR (K2 (if m.funcs.length<1∨8<m.funcs.length then 2 else 0) (-1)) (PU m.funcs.length 0 m.funcs)
theorem oU {n f b:Nat}:∀{l:List Ins}{i:Nat},(ON n f b i l).1=0→ON n f b i l=(0,0)
 | [],_=>fun _=>rfl
 | _::_,_=>WY (Sv _ _) oU
theorem tf {n f:Nat}{b:Nat}{y:Block}:(OC n f x b y).1=0→OC n f x b y=(0,0):=WY (Sv _ _) (WY oU (Sv _ _))
theorem i5 {n f:Nat}{x:Fun}:∀{l:List Block}{b:Nat},(Pq n f x b l).1=0→Pq n f x b l=(0,0)
 | [],_=>fun _=>rfl
 | _::_,_=>WY tf i5
theorem Qv {n:Nat}:∀{l:List Fun}{f:Nat},(PU n f l).1=0→PU n f l=(0,0)
 | [],_=>fun _=>rfl
 | _::_,_=>WY (WY (Sv _ _) i5) Qv
theorem Module.fault_z {m:Module}:m.fault.1=0→m.fault=(0,0):=WY (Sv _ _) Qv

theorem Ol {n f b:Nat}{y:Block}{c:Int}(h:QB x b y=c)(hc:c≠0):OC n f x b y=(c,Sx f b):=by
 unfold OC;rw [h,OB (by rw [RW];exact hc),P9 hc]
theorem oV {n f b:Nat}{y:Block}{F:LX}(h:QB x b y=0)(hc:ON n f b 0 y.code=F)(hF:F.1≠0):OC n f x b y=F:=by
 unfold OC;rw [h,ME,hc,OB hF,Mg (fun h=>absurd h hF)]
theorem UE {n f b:Nat}{y:Block}(h:QB x b y=0)(hc:ON n f b 0 y.code=(0,0)):OC n f x b y=K2 (Nl x.blocks.length y.fin) (PT f b):=by
 unfold OC;rw [h,ME,hc,Mg (Sv _ _),Mg (Sv _ _)]
theorem Qac {n f b i:Nat}{x:Ins}{l:List Ins}(h:Qx n x=0):ON n f b i (x::l)=ON n f b (i+1) l:=by
 rw [ON,h,ME,Mg oU]
theorem Q47 {n f b i:Nat}{x:Ins}{l:List Ins}(h:Qx n x≠0):ON n f b i (x::l)=(Qx n x,O2 f b i):=by
 rw [ON,OB (by rw [RW];exact h),P9 h]
theorem NI {n f:Nat}{c:Int}(h:QI f x=c)(hc:c≠0):Rt n f x=(c,Pp f):=by
 unfold Rt;rw [h,OB (by rw [RW];exact hc),P9 hc]
theorem oW {n f:Nat}(h:QI f x=0):Rt n f x=Pq n f x 0 x.blocks:=by
 unfold Rt;rw [h,ME,Mg i5]
theorem Q8n {n f b:Nat}{y:Block}{l:List Block}(h:(OC n f x b y).1=0):Pq n f x b (y::l)=Pq n f x (b+1) l:=by
 rw [Pq,tf h,Mg i5]
theorem tg {n f b:Nat}{y:Block}{l:List Block}(h:(OC n f x b y).1≠0):Pq n f x b (y::l)=OC n f x b y:=by
 rw [Pq,OB h]
theorem QfT {n f:Nat}:(Rt n f x).1=0→Rt n f x=(0,0):=WY (Sv _ _) i5
theorem Qa9 {n f:Nat}{l:List Fun}(h:(Rt n f x).1=0):PU n f (x::l)=PU n (f+1) l:=by
 rw [PU,QfT h,Mg Qv]
theorem Qo {n f:Nat}{l:List Fun}(h:(Rt n f x).1≠0):PU n f (x::l)=Rt n f x:=by
 rw [PU,OB h]

def UF:List ByteArray:=[⟨#[]⟩,⟨#[110]⟩,⟨#[97,98,107]⟩,⟨#[]⟩,⟨#[97]⟩,⟨#[97,114]⟩,⟨#[97,107]⟩,⟨#[97,98,107]⟩,⟨#[97,98]⟩,⟨#[97,98]⟩,⟨#[97,98,99]⟩,⟨#[97]⟩,⟨#[]⟩,⟨#[97]⟩,⟨#[107,103,114]⟩]
def LZ (op:Int):ByteArray:=if op<1∨14<op then ⟨#[]⟩ else UF.getD op.toNat ⟨#[]⟩
def LI (s:ByteArray)(c:Nat):Bool:=s.data.toList.any fun b=>decide (b.toNat=c)
theorem LA (h1:¬op<1)(h2:¬14<op):op=1∨op=2∨op=3∨op=4∨op=5∨op=6∨op=7∨op=8∨op=9∨op=10∨op=11∨op=12∨op=13∨op=14:=by omega
theorem UG (op:Int)(h:¬(op<1∨14<op)):LI (LZ op) 97=fA op∧LI (LZ op) 98=fB op∧LI (LZ op) 99=fC op∧LI (LZ op) 107=fK op∧LI (LZ op) 110=fN op∧LI (LZ op) 103=fG op∧LI (LZ op) 114=fR op:=by
 rcases LA (op:=op) Jo Jo with rfl|rfl|rfl|rfl|rfl|rfl|rfl|rfl|rfl|rfl|rfl|rfl|rfl|rfl<;>decide
end
section
structure Val where
 kind:Int
 region:Int
 thing:Int
 n:Int
deriving DecidableEq
def Val.cells (v:Val):List Value:=[.int .i64 v.kind, .int .i64 v.region, .int .i64 v.thing, .int .i64 v.n]
def Val.v (v:Val):Value:= .agg ⟨v.cells⟩
def Val.zero:Val:=⟨0,0,0,0⟩
structure Thg where
 array:Bool
 l:List Val
structure Rgn where
 there:Bool
 l:List Thg
 pages:Int
 used:Int
def Rgn.none:Rgn:=⟨false,[],0,0⟩
structure HpS where
 l:List Rgn
 left:Int
def HpS.reg (s:HpS)(k:Int):Rgn:=if 0≤k then s.l.getD k.toNat Rgn.none else Rgn.none
def HpS.has (s:HpS)(k:Int):Bool:=(s.reg k).there
def HpS.live (s:HpS):Nat:=s.l.countP fun r=>r.there
def HpS.full (s:HpS):Bool:=decide (s.live=16)
def HpS.open (s:HpS):HpS:=if s.full then s else ⟨s.l++[⟨true,[],0,0⟩],s.left⟩
def HpS.openV (s:HpS):Val:=if s.full then Val.zero else ⟨2,s.l.length,0,0⟩
def HpS.can (s:HpS)(v:Val):Bool:=decide (v.kind=2) && s.has v.region
def HpS.shut (s:HpS)(v:Val):HpS:=if s.can v then ⟨s.l.set v.region.toNat Rgn.none,s.left+(s.reg v.region).pages⟩ else s
def Rgn.more (r:Rgn)(n:Int):Bool:=decide (r.pages=0∨16<r.used+n)
def Rgn.room (r:Rgn)(n:Int):Rgn:=if r.more n then ⟨r.there,r.l,r.pages+1,n⟩ else ⟨r.there,r.l,r.pages,r.used+n⟩
def Rgn.push (r:Rgn)(t:Thg):Rgn:=⟨r.there,r.l++[t],r.pages,r.used⟩
def HpS.code (s:HpS)(v:Val)(n:Int):Int:=if !s.can v then 20 else if (s.reg v.region).more n∧s.left=0 then 14 else 0
def HpS.put (s:HpS)(v:Val)(n:Int)(t:Thg):HpS:=if s.code v n=0 then ⟨s.l.set v.region.toNat (((s.reg v.region).room n).push t),if (s.reg v.region).more n then s.left - 1 else s.left⟩ else s
def HpS.putV (s:HpS)(v:Val)(kind n:Int):Val:=if s.code v n=0 then ⟨kind,v.region,(s.reg v.region).l.length,0⟩ else Val.zero
def HpS.thg (s:HpS)(k t:Nat):Thg:=(s.reg k).l.getD t ⟨false,[]⟩
def HpS.at_ (s:HpS)(v:Val):Option (Nat×Nat):=
 if (v.kind=3∨v.kind=4)∧s.has v.region=true∧0≤v.thing∧v.thing<(s.reg v.region).l.length∧(s.thg v.region.toNat v.thing.toNat).array=decide (v.kind=4) then some (v.region.toNat,v.thing.toNat) else none
def HpS.get (s:HpS)(v:Val)(k:Int):Val×Int:=match s.at_ v with
 | none=>(Val.zero,20)
 | some (r,t)=>if 0≤k∧k<(s.thg r t).l.length then ((s.thg r t).l.getD k.toNat Val.zero,0) else (Val.zero,1)
def HpS.setC (s:HpS)(v:Val)(k:Int)(x:Val):Int:=match s.at_ v with
 | none=>20
 | some (r,t)=>if (s.thg r t).array=true∧x.kind≠1 then 20 else if 0≤k∧k<(s.thg r t).l.length then 0 else 1
def Rgn.upd (r:Rgn)(t:Nat)(x:Thg):Rgn:=⟨r.there,r.l.set t x,r.pages,r.used⟩
def Thg.upd (t:Thg)(k:Nat)(x:Val):Thg:=⟨t.array,t.l.set k x⟩
def HpS.set (s:HpS)(v:Val)(k:Int)(x:Val):HpS:=match s.at_ v with
 | none=>s
 | some (r,t)=>if s.setC v k x=0 then ⟨s.l.set r ((s.reg r).upd t ((s.thg r t).upd k.toNat x)),s.left⟩ else s
def HpS.len (s:HpS)(v:Val):Int×Int:=match s.at_ v with
 | none=>(0,20)
 | some (r,t)=>((s.thg r t).l.length,0)
def L9 (l:List Val):Int:=if l.length=0 then 1 else l.length
def HpS.tuple (s:HpS)(v:Val)(l:List Val):HpS:=s.put v (L9 l) ⟨false,l⟩
def O3 (n:Int):List Val:=List.replicate n.toNat ⟨1,0,0,0⟩
def HpS.arrC (s:HpS)(v:Val)(n:Int):Int:=if n<0∨15<n then 1 else s.code v (n+1)
def HpS.arr (s:HpS)(v:Val)(n:Int):HpS:=if n<0∨15<n then s else s.put v (n+1) ⟨true,O3 n⟩
def HpS.arrV (s:HpS)(v:Val)(n:Int):Val:=if n<0∨15<n then Val.zero else s.putV v 4 (n+1)

structure HpS.Ok (N:Nat) (s:HpS):Prop where
 len:s.l.length≤N
 each:∀r∈s.l,r.l.length≤N∧(∀t∈r.l,t.l.length≤1000)∧0≤r.pages∧0≤r.used∧r.used≤1000∧(r.there=false→r=Rgn.none)
 left:0≤s.left
 sum:s.left+(s.l.map Rgn.pages).sum≤1000
 live:s.live≤16

theorem oX (h:l.Perm l'):l.sum=l'.sum:=by
 induction h with
 | nil=>rfl
 | cons x _ ih=>rw [Hq,Hq,ih]
 | swap x y l=>simp only [Hq];omega
 | trans _ _ h1 h2=>rw [h1,h2]
theorem oY (h:∀x∈l,0≤x):0≤l.sum:=by
 induction l with
 | nil=>simp
 | cons x l ih=>rw [Hq];have:=h x Js;have:=ih fun y hy=>h y (by simp [hy]);omega
theorem i6 {α:Type}:∀{l:List α}{k:Nat}{x:α},l[k]?=some x→l.Perm (x::l.eraseIdx k)
 | [],_,_,h=>by simp at h
 | y::l,0,x,h=>by simp at h;subst h;exact .refl _
 | y::l,k+1,x,h=>((i6 (l:=l) Dz).cons y).trans (.swap _ _ _)
theorem lM {α:Type}:∀{l:List α}{k:Nat}{x:α},k<l.length→(l.set k x).Perm (x::l.eraseIdx k)
 | [],_,_,h=>by simp at h
 | y::l,0,x,h=> .refl _
 | y::l,k+1,x,h=>((lM (l:=l) Dz).cons y).trans (.swap _ _ _)
theorem ti {l:List Rgn}{k:Nat}{r r':Rgn}(hr:l[k]?=some r):((l.set k r').map Rgn.pages).sum+r.pages=(l.map Rgn.pages).sum+r'.pages:=by
 have h1:=oX ((i6 hr).map Rgn.pages);have h2:=oX ((lM (x:=r') (E8.1 hr).1).map Rgn.pages);rw [Gy,Hq] at h1 h2;rw [h1,h2];omega
theorem cr {l:List Rgn}{k:Nat}{r r':Rgn}(hr:l[k]?=some r):((l.set k r').countP fun r=>r.there)+(if r.there then 1 else 0)=(l.countP fun r=>r.there)+if r'.there then 1 else 0:=by
 have h1:=(i6 hr).countP_eq fun r:Rgn=>r.there;have h2:=(lM (x:=r') (E8.1 hr).1).countP_eq fun r:Rgn=>r.there;rw [List.countP_cons] at h1 h2;rw [h1,h2];omega
theorem HpS.Ok.pages {s:HpS}(h:s.Ok N):s.left≤1000∧∀r∈s.l,r.pages+s.left≤1000:=by
 have h1:=h.sum;have h2:=oY (l:=s.l.map Rgn.pages) (by intro x hx;obtain ⟨r,hr,rfl⟩:=FU.1 hx;exact (h.each r hr).2.2.1);have h3:=h.left;refine ⟨Jo,fun r hr=>?_⟩;obtain ⟨k,hk⟩:=Gf.1 hr;have h4:=oX ((i6 hk).map Rgn.pages);rw [Gy,Hq] at h4;have h5:=oY (l:=(s.l.eraseIdx k).map Rgn.pages) (by intro x hx;obtain ⟨r,hr,rfl⟩:=FU.1 hx;exact (h.each r (List.mem_of_mem_eraseIdx hr)).2.2.1);omega
theorem Ld {l:List α}{k:Nat}{x y:α}(h:y∈l.set k x):y=x∨y∈l:=(HY h).symm
theorem HpS.Ok.mono {s:HpS}(h:s.Ok N)(hm:N≤M):s.Ok M:=⟨by have:=h.len;omega,fun r hr=>by obtain ⟨h1,h2⟩:=h.each r hr;exact ⟨Jo,h2⟩,h.left,h.sum,h.live⟩
theorem HpS.ok_set {s:HpS}(h:s.Ok N){k:Nat}{r r':Rgn}(hr:s.l[k]?=some r){left:Int}(hM:N≤M)(h0:0≤left)(hs:left+r'.pages=s.left+r.pages)(hl:s.live+(if r'.there then 1 else 0)≤16+if r.there then 1 else 0)
 (he:r'.l.length≤M∧(∀t∈r'.l,t.l.length≤1000)∧0≤r'.pages∧0≤r'.used∧r'.used≤1000∧(r'.there=false→r'=Rgn.none)):(⟨s.l.set k r',left⟩:HpS).Ok M:=by
 have h1:=ti (r':=r') hr;have h2:=cr (r':=r') hr;have h3:=h.sum;have h4:=h.len;refine ⟨by rw [FL];omega,fun x hx=>?_,h0,by show left+((s.l.set k r').map Rgn.pages).sum≤1000;omega,?_⟩
 · rcases Ld hx with rfl|hx
   · exact he
   · obtain ⟨g1,g2⟩:=h.each x hx;exact ⟨Jo,g2⟩
 · show (s.l.set k r').countP (fun r=>r.there)≤16;have:s.live=s.l.countP fun r=>r.there:=rfl;omega
abbrev I6:=@HpS.ok_set
theorem HpS.reg_get {s:HpS}{k:Nat}{r:Rgn}(h:s.l[k]?=some r):s.reg k=r:=by
 unfold HpS.reg;rw [if_pos Jo,FJ,E9,h];rfl
abbrev JU:=@HpS.reg_get
theorem HpS.ok_put {s:HpS}(h:s.Ok N){v:Val}{n:Int}(hn:1≤n∧n≤1000){t:Thg}(ht:t.l.length≤1000):(s.put v n t).Ok (N+1):=by
 unfold HpS.put;split
 · rename_i hc
   have hcan:s.can v=true:=by
    unfold HpS.code at hc
    cases hx:s.can v with
    | true=>rfl
    | false=>rw [hx] at hc;cases hc
   unfold HpS.can at hcan;rw [Fj] at hcan;have hh:=hcan.2;unfold HpS.has HpS.reg at hh;split at hh
   · rename_i h0
     rw [E9] at hh
     cases hk:s.l[v.region.toNat]? with
     | none=>rw [hk] at hh;cases hh
     | some r=>
       have hrg:s.reg v.region=r:=(by have:=JU hk;rw [FO h0] at this;exact this);have hth:r.there=true:=(by rw [hk] at hh;exact hh);rw [hrg];have he:=h.each r (Fa hk);have hl:=h.left;have hlive:=h.live
       have hne:r.more n=true→s.left≠0:=fun hm e=>by
        unfold HpS.code at hc;rw [hrg] at hc;split at hc
        · cases hc
        · rw [if_pos ⟨hm,e⟩] at hc;cases hc
       (have hu:¬r.more n=true→r.used+n≤16:=fun hm=>by unfold Rgn.more at hm;rw [decide_eq_true_iff] at hm;omega);refine I6 h hk Jo ?_ ?_ ?_ ?_
       · split
         · rename_i hm;have:=hne hm;omega
         · exact hl
       · unfold Rgn.room;split<;>simp only [Rgn.push]<;>omega
       · unfold Rgn.room;split<;>simp only [Rgn.push,hth,if_true]<;>omega
       · obtain ⟨g1,g2,g3,g4,g5,g6⟩:=he
         have e1:(r.room n).l=r.l∧(r.room n).there=r.there∧0≤(r.room n).pages∧0≤(r.room n).used∧(r.room n).used≤1000:=by
          unfold Rgn.room;split
          · exact CU
          · rename_i hm;have:=hu hm;exact CU
         obtain ⟨e1,e2,e3,e4,e5⟩:=e1;refine ⟨by simp [Rgn.push,e1];omega,fun x hx=>?_,e3,e4,e5,fun hf=>?_⟩
         · simp only [Rgn.push,e1,FC,F7] at hx
           rcases hx with hx|rfl
           · exact g2 x hx
           · exact ht
         · simp only [Rgn.push,e2,hth] at hf;cases hf
   · cases hh
 · exact h.mono Jo
theorem HpS.ok_shut {s:HpS}(h:s.Ok N){r:Rgn}(hk:s.l[m]?=some r):(⟨s.l.set m Rgn.none,s.left+r.pages⟩:HpS).Ok N:=by
 have he:=h.each r (Fa hk);have hl:=h.left;have hlive:=h.live;exact I6 h hk (FE _) Jo (by simp [Rgn.none]) (by simp [Rgn.none];split<;>omega) ⟨by simp [Rgn.none],by simp [Rgn.none],by simp [Rgn.none],by simp [Rgn.none],by simp [Rgn.none],fun _=>rfl⟩
theorem HpS.ok_open {s:HpS}(h:s.Ok N):s.open.Ok (N+1):=by
 unfold HpS.open;split
 · exact h.mono Jo
 · rename_i hf
   have hl:s.live≠16:=fun e=>hf (decide_eq_true e);have hlive:=h.live;have h2:=h.sum;have h3:=h.len;refine ⟨by simp;omega,fun r hr=>?_,h.left,by simp;omega,?_⟩
   · rcases FC.1 hr with hr|hr
     · obtain ⟨g1,g2⟩:=h.each r hr;exact ⟨Jo,g2⟩
     · simp only [F7] at hr;subst hr;exact ⟨by simp,by simp,by simp,by simp,by simp,fun e=>by cases e⟩
   · show (s.l++[(⟨true,[],0,0⟩:Rgn)]).countP (fun r:Rgn=>r.there)≤16;rw [HP];have:s.live=s.l.countP fun r:Rgn=>r.there:=rfl;simp;omega
end
section
abbrev wr (n:Int):Int:=IntKind.i64.wrap n
def O0 (a b:Int):Int×Bool:=if b=0 then (0,false) else if b=-1 then (wr (0 - a),true) else (wr (a.tdiv b),true)
def NB (k a b:Int):Int×Bool:=
 if k=1 then (wr (a+b),true) else if k=2 then (wr (a - b),true) else if k=3 then (wr (a*b),true)
 else if k=4 then O0 a b else if k=5 then (if (O0 a b).2 then (wr (a - wr ((O0 a b).1*b)),true) else (0,false))
 else if k=6 then (if a<b then 1 else 0,true) else if k=7 then (if a=b then 1 else 0,true) else if k=8 then (PA .and .i64 a b,true) else if k=9 then (PA .xor .i64 a b,true) else (0,false)
end
section
structure Frm where
 f:Nat
 b:Nat
 i:Nat
 vals:List Val
 regs:List Int
structure MS where
 h:HpS
 g:Frm
 st:List Frm
 inp:List Int
 out:List Int
 fuel:Nat
inductive Stp where
 | go (s:MS)
 | halt (e:Int)
 | done (l:List Int)
 | lost
def LB {α:Type}(x:Option α)(f:α→Stp):Stp:=match x with
 | none=> .lost
 | some a=>f a
theorem Ru {x:Option α}{f:α→Stp}(h:x=none):LB x f= .lost:=by rw [h];rfl
theorem Q5 {x:Option α}{f:α→Stp}{a:α}(h:x=some a):LB x f=f a:=by rw [h];rfl
abbrev K4 (n:Int):Val:=⟨1,0,0,n⟩
def Frm.val (g:Frm)(k:Int):Option Val:=if k<0 then none else g.vals[k.toNat]?
def Frm.num (g:Frm)(k:Int):Option Int:=match g.val k with
 | none=>none
 | some v=>if v.kind=1 then some v.n else none
def Frm.args (g:Frm):List Int→Option (List Val)
 | []=>some []
 | k::l=>match g.val k,g.args l with
   | some v,some vs=>some (v::vs)
   | _,_=>none
def Frm.reg (g:Frm)(k:Int):Option Int:=if k<0 then none else g.regs[k.toNat]?
def Frm.rgs (g:Frm):List Int→Option (List Int)
 | []=>some []
 | k::l=>match g.reg k,g.rgs l with
   | some v,some vs=>some (v::vs)
   | _,_=>none
def MS.put (s:MS)(vs:List Val):MS:=⟨s.h,⟨s.g.f,s.g.b,s.g.i,s.g.vals++vs,s.g.regs⟩,s.st,s.inp,s.out,s.fuel⟩
def MS.hp (s:MS)(h:HpS):MS:=⟨h,s.g,s.st,s.inp,s.out,s.fuel⟩
def MS.fr (s:MS)(g:Frm):MS:=⟨s.h,g,s.st,s.inp,s.out,s.fuel⟩
def MS.made (s:MS)(e:Int)(h:HpS)(v:Val):Stp:=if e=14 then .halt 6 else if e≠0 then .lost else .go ((s.hp h).put [v])
def Om (v:Val)(e:Int)(k:Stp):Stp:=if v.kind≠4 then .lost else if e=1 then .halt 2 else if e≠0 then .lost else k
def MS.newR (s:MS):Stp:=if s.h.full=true then .halt 6 else .go ((⟨s.h.open,⟨s.g.f,s.g.b,s.g.i,s.g.vals,s.g.regs++[s.h.openV.region]⟩,s.st,s.inp,s.out,s.fuel⟩:MS).put [s.h.openV])
def MS.inS (s:MS):Stp:=match s.inp with
 | []=> .halt 4
 | n::r=> .go ((⟨s.h,s.g,s.st,r,s.out,s.fuel⟩:MS).put [K4 n])
def MS.outS (s:MS)(n:Int):Stp:=if s.out.length=2000 then .halt 8 else .go ⟨s.h,s.g,s.st,s.inp,s.out++[n],s.fuel⟩
def MS.call (m:Module)(s:MS)(x:Ins):Stp:=match m.funcs[x.k.toNat]? with
 | none=> .lost
 | some g=>LB (s.g.rgs x.regs) fun rs=>LB (s.g.args x.args) fun vs=>
   if (rs.length:Int)≠g.regs∨vs.length≠g.params.length then .lost else if s.st.length+1=40 then .halt 5 else .go ⟨s.h,⟨x.k.toNat,0,0,vs,rs⟩,s.g::s.st,s.inp,s.out,s.fuel⟩
def MS.ins (m:Module)(s:MS)(x:Ins):Stp:=
 if x.op=1 then .go (s.put [K4 x.n])
 else if x.op=2 then LB (s.g.num x.a) fun a=>LB (s.g.num x.b) fun b=>if (NB x.k a b).2=false then .halt 1 else .go (s.put [K4 (NB x.k a b).1])
 else if x.op=3 then s.newR
 else if x.op=4 then LB (s.g.val x.a) fun v=>if s.h.can v=false then .lost else .go (s.hp (s.h.shut v))
 else if x.op=5 then LB (s.g.val x.a) fun v=>LB (s.g.args x.args) fun l=>s.made (s.h.code v (L9 l)) (s.h.tuple v l) (s.h.putV v 3 (L9 l))
 else if x.op=6 then LB (s.g.val x.a) fun v=>if v.kind≠3 then .lost else if (s.h.get v x.k).2≠0 then .lost else .go (s.put [(s.h.get v x.k).1])
 else if x.op=7 then LB (s.g.val x.a) fun v=>if v.kind≠3 then .lost else LB (s.g.val x.b) fun y=>if s.h.setC v x.k y≠0 then .lost else .go (s.hp (s.h.set v x.k y))
 else if x.op=8 then LB (s.g.val x.a) fun v=>LB (s.g.num x.b) fun n=>if n<0∨15<n then .halt 3 else s.made (s.h.arrC v n) (s.h.arr v n) (s.h.arrV v n)
 else if x.op=9 then LB (s.g.val x.a) fun v=>LB (s.g.num x.b) fun n=>Om v (s.h.get v n).2 (.go (s.put [(s.h.get v n).1]))
 else if x.op=10 then LB (s.g.val x.a) fun v=>LB (s.g.num x.b) fun n=>LB (s.g.num x.c) fun c=>Om v (s.h.setC v n (K4 c)) (.go (s.hp (s.h.set v n (K4 c))))
 else if x.op=11 then LB (s.g.val x.a) fun v=>Om v (s.h.len v).2 (.go (s.put [K4 (s.h.len v).1]))
 else if x.op=12 then s.inS
 else if x.op=13 then LB (s.g.num x.a) fun n=>s.outS n
 else s.call m x
def MS.to (f:Fun)(s:MS)(t:To):Stp:=match f.blocks[t.block.toNat]? with
 | none=> .lost
 | some b=>LB (s.g.rgs t.regs) fun rs=>LB (s.g.args t.args) fun vs=>
   if (rs.length:Int)≠b.regs∨vs.length≠b.params.length then .lost else .go (s.fr ⟨s.g.f,t.block.toNat,0,vs,rs⟩)
def KF:List Val→Option (List Int)
 | []=>some []
 | v::l=>match KF l with
   | none=>none
   | some ns=>if v.kind=1 then some (v.n::ns) else none
def MS.ret (f:Fun)(s:MS)(e:Tail):Stp:=LB (s.g.args e.args) fun vs=>if vs.length≠f.results.length then .lost else match s.st with
 | c::st=> .go ((⟨s.h,c,st,s.inp,s.out,s.fuel⟩:MS).put vs)
 | []=>match KF vs with
   | none=> .lost
   | some ns=> .done ns
def MS.fin (f:Fun)(s:MS)(e:Tail):Stp:=
 if e.op=1 then s.to f e.yes
 else if e.op=2 then LB (s.g.num e.a) fun n=>if n≠0 then s.to f e.yes else s.to f e.no
 else s.ret f e
def MS.next (s:MS):MS:=s.fr ⟨s.g.f,s.g.b,s.g.i+1,s.g.vals,s.g.regs⟩
def MS.one (m:Module)(s:MS):Stp:=match m.funcs[s.g.f]? with
 | none=> .lost
 | some f=>match f.blocks[s.g.b]? with
   | none=> .lost
   | some b=>match b.code[s.g.i]? with
     | some x=>s.next.ins m x
     | none=>s.fin f b.fin
def MS.place (m:Module)(s:MS):Int:=match m.funcs[s.g.f]? with
 | none=>0
 | some f=>match f.blocks[s.g.b]? with
   | none=>0
   | some b=>if s.g.i<b.code.length then O2 s.g.f s.g.b s.g.i else PT s.g.f s.g.b
def MS.tick (s:MS):MS:=⟨s.h,s.g,s.st,s.inp,s.out,s.fuel+1⟩
inductive Run where
 | on (s:MS)
 | over (s:MS) (e:Int) (back:List Int)
 | stuck (f:LX)
def Run.of (m:Module)(s:MS):Stp→Run
 | .go s'=> .on s'
 | .halt e=> .over s.tick e []
 | .done l=> .over s.tick 0 l
 | .lost=> .stuck (20,s.place m)
def Run.step (m:Module)(most:Nat):Run→Run
 | .on s=>if s.fuel=most then .over s 7 [] else .of m s (s.tick.one m)
 | r=>r
def Run.steps (m:Module)(most:Nat):Nat→Run→Run
 | 0,r=>r
 | k+1,r=>Run.steps m most k (r.step m most)
def MS.start (inp:List Int)(pages:Int):MS:=⟨⟨[],pages⟩,⟨0,0,0,[],[]⟩,[],inp,[],0⟩
structure Oc where
 e:Int
 back:List Int
 out:List Int
 fuel:Int
def Run.oc:Run→Oc
 | .on s=>⟨0,[],s.out,s.fuel⟩
 | .over s e back=>⟨e,back,s.out,s.fuel⟩
 | .stuck _=>⟨0,[],[],0⟩
def Run.flt:Run→LX
 | .stuck f=>f
 | _=>(0,0)
def Run.all (m:Module)(inp:List Int)(most:Nat)(pages:Int):Run:=Run.steps m most (most+1) (.on (MS.start inp pages))
end
end Go.Lir
namespace Go.Proofs.YteflkifmgnpbhaaGreat
open Go.Lir
structure RFrm where
 f:Nat
 b:Nat
 i:Nat
 vals:List Int
structure RS where
 e:EstS
 g:RFrm
 st:List RFrm
 inp:List Int
 out:List Int
 fuel:Nat
inductive RStp where
 | go (s:RS)
 | halt (e:Int)
 | done (l:List Int)
 | crash
def L7 {α:Type}(x:Option α)(f:α→RStp):RStp:=match x with
 | none=> .crash
 | some a=>f a
theorem On {x:Option α}{f:α→RStp}{a:α}(h:x=some a):L7 x f=f a:=by rw [h];rfl
def RFrm.val (g:RFrm)(k:Int):Option Int:=if k<0 then none else g.vals[k.toNat]?
def RFrm.args (g:RFrm):List Int→Option (List Int)
 | []=>some []
 | k::l=>match g.val k,g.args l with
   | some v,some vs=>some (v::vs)
   | _,_=>none
def RS.put (s:RS)(vs:List Int):RS:=⟨s.e,⟨s.g.f,s.g.b,s.g.i,s.g.vals++vs⟩,s.st,s.inp,s.out,s.fuel⟩
def RS.es (s:RS)(e:EstS):RS:=⟨e,s.g,s.st,s.inp,s.out,s.fuel⟩
def RS.fr (s:RS)(g:RFrm):RS:=⟨s.e,g,s.st,s.inp,s.out,s.fuel⟩
def EstS.word (s:EstS)(i:Int):Int:=s.p.word i
def EstS.store (s:EstS)(i x:Int):EstS:=⟨s.p.store i x,s.rs⟩
def EstS.storesA (s:EstS)(at_:Int)(k:Nat):List Int→EstS
 | []=>s
 | v::l=>(s.store (wr (at_+k)) v).storesA at_ (k+1) l
def EstS.stores (s:EstS)(at_:Int)(l:List Int):EstS:=s.storesA at_ 0 l
theorem EstS.storesA_one {at_ v:Int}:∀{l:List Int}{s:EstS}{k:Nat},s.storesA at_ k (l++[v])=(s.storesA at_ k l).store (wr (at_+(k+l.length:Nat))) v
 | [],s,k=>by simp [EstS.storesA]
 | a::l,s,k=>by
   rw [Gu,EstS.storesA,EstS.storesA,EstS.storesA_one (l:=l),Fk,show k+1+l.length=k+(l.length+1) by omega]
abbrev IS:=@EstS.storesA_one
theorem EstS.stores_take {s:EstS}{at_ v:Int}(h:l[q]?=some v):s.stores at_ (l.take (q+1))=(s.stores at_ (l.take q)).store (wr (at_+q)) v:=by
 obtain ⟨hq,hv⟩:=E8.mp h;rw [H3,h];show s.storesA at_ 0 (l.take q++[v])=_;rw [IS,Gm,IX Jo,GF];rfl
def RS.gotR (s:RS)(r n:Int)(k:EstS→Int→RStp):RStp:=if s.e.code r n=14 then .halt 6 else k (s.e.get r n) (s.e.getV r n)
def RS.atR (s:RS)(a k:Int)(c:Int→RStp):RStp:=if k<0∨s.e.word a≤k then .halt 2 else c (wr (wr (a+1)+k))
def RS.inR (s:RS):RStp:=match s.inp with
 | []=> .halt 4
 | n::r=> .go ((⟨s.e,s.g,s.st,r,s.out,s.fuel⟩:RS).put [n])
def RS.outR (s:RS)(n:Int):RStp:=if s.out.length=2000 then .halt 8 else .go ⟨s.e,s.g,s.st,s.inp,s.out++[n],s.fuel⟩
def RS.callR (s:RS)(k:Int)(vs:List Int):RStp:=if s.st.length+1=40 then .halt 5 else .go ⟨s.e,⟨k.toNat,0,0,vs⟩,s.g::s.st,s.inp,s.out,s.fuel⟩
def RS.ins (m:Module)(s:RS)(x:Ins):RStp:=
 if x.op=1 then .go (s.put [x.n])
 else if x.op=2 then L7 (s.g.val x.a) fun a=>L7 (s.g.val x.b) fun b=>if (NB x.k a b).2=false then .halt 1 else .go (s.put [(NB x.k a b).1])
 else if x.op=3 then (if s.e.openV<0 then .halt 6 else .go ((s.es s.e.open).put [s.e.openV]))
 else if x.op=4 then L7 (s.g.val x.a) fun a=> .go (s.es (s.e.shut a))
 else if x.op=5 then L7 (s.g.val x.a) fun a=>L7 (s.g.args x.args) fun l=>s.gotR a (max (x.args.length:Int) 1) fun e at_=> .go ((s.es (e.stores at_ l)).put [at_])
 else if x.op=6 then L7 (s.g.val x.a) fun a=> .go (s.put [s.e.word (wr (a+x.k))])
 else if x.op=7 then L7 (s.g.val x.a) fun a=>L7 (s.g.val x.b) fun b=> .go (s.es (s.e.store (wr (a+x.k)) b))
 else if x.op=8 then L7 (s.g.val x.a) fun a=>L7 (s.g.val x.b) fun n=>if n<0∨15<n then .halt 3 else s.gotR a (1+n) fun e at_=> .go ((s.es (e.store at_ n)).put [at_])
 else if x.op=9 then L7 (s.g.val x.a) fun a=>L7 (s.g.val x.b) fun k=>s.atR a k fun q=> .go (s.put [s.e.word q])
 else if x.op=10 then L7 (s.g.val x.a) fun a=>L7 (s.g.val x.b) fun k=>L7 (s.g.val x.c) fun c=>s.atR a k fun q=> .go (s.es (s.e.store q c))
 else if x.op=11 then L7 (s.g.val x.a) fun a=> .go (s.put [s.e.word a])
 else if x.op=12 then s.inR
 else if x.op=13 then L7 (s.g.val x.a) fun n=>s.outR n
 else L7 (s.g.args x.args) fun vs=>s.callR x.k vs
def RS.to (s:RS)(t:To):RStp:=L7 (s.g.args t.args) fun vs=> .go (s.fr ⟨s.g.f,t.block.toNat,0,vs⟩)
def RS.fin (s:RS)(e:Tail):RStp:=
 if e.op=3 then L7 (s.g.args e.args) fun vs=>match s.st with
  | c::st=> .go ((⟨s.e,c,st,s.inp,s.out,s.fuel⟩:RS).put vs)
  | []=> .done vs
 else if e.op=2 then L7 (s.g.val e.a) fun n=>if n=0 then s.to e.no else s.to e.yes
 else s.to e.yes
def RS.next (s:RS):RS:=s.fr ⟨s.g.f,s.g.b,s.g.i+1,s.g.vals⟩
def RS.one (m:Module)(s:RS):RStp:=match m.funcs[s.g.f]? with
 | none=> .crash
 | some f=>match f.blocks[s.g.b]? with
   | none=> .crash
   | some b=>match b.code[s.g.i]? with
     | some x=>s.next.ins m x
     | none=>s.fin b.fin
def RS.tick (s:RS):RS:=⟨s.e,s.g,s.st,s.inp,s.out,s.fuel+1⟩
def RS.start (inp:List Int)(pages:Nat):RS:=⟨EstS.mk0 pages,⟨0,0,0,[]⟩,[],inp,[],0⟩
end Go.Proofs.YteflkifmgnpbhaaGreat
namespace Go.Proofs.YteflkifmgnpbhaaGreat
open Go.Lir
attribute [local irreducible] LC.wp Q0 Qs Qi KN QD LO.wp Q7 Calls
theorem cu:∀(t:Ty){cx:Cx}{w:World}{L:List Res}{cs:List Value}{left:Int},Ku.at cx cs t→-1≤left→left≤1000000→St cx w L→
 Kf Tryz.prog yT [.agg ⟨cs⟩, .int .i64 left] w fun v w'=>v= .int .i64 (t.size left)∧St cx w' L:=by
 intro t
 induction t using Hg with
 | h k r l ih=>
   intro cx w L cs left ht h1 h2 hS;obtain ⟨v,rfl,hl⟩:=Qf ht;simp only [Ty.kind,Ty.r,Ty.l] at hl ht ⊢;have hlen:=hl.len;rw [Ty.size];refine Kq Ko Tryz.func158 ?_;refine' KY;intro p2 w1 hS;refine' L6;refine' PD;refine' Ms;refine' SU;refine MB hS [2] (fun A LL ρ' w'=>∃(j:Nat) (n:Int),Kn ρ' A∧Kn ρ' [(1, .int .i64 n),(5, .int .i64 j)]∧(j≤l.length)∧(n≤1000000)∧(-2≤n)∧(Tys.size l (left - 1)=Tys.size (l.drop j) n)∧St cx w' (LL)) (fun ρ' _=>(l.length - iv (ρ' 5)).toNat) ?_ ?_
   · exact ⟨0,left - 1,zh,zh,Jo,Jo,Jo,by simp,hS.sp⟩
   ((rintro ρ w1 ⟨j,n,hA,hρ,hj,hn,hn1,hd,hS⟩;obtain ⟨ρ,rfl⟩:=Kp hA hρ;refine' P6;refine' zL;first|(refine' KX)|(refine' K1)|(refine' Ae<;>intro hc));all_goals (refine' Lv;first|refine' Kj|(refine' Kl;(first|(refine' Ml)|(refine' MN)|(refine' Ag<;>intro hc)))));all_goals (refine' Ll)
   all_goals
    first
    | (refine' Kk;all_goals (refine' Sn);all_goals (refine ⟨_,rfl,?_,hS.sp⟩;(rw [hd];congr 1;first|(rw [HO _ Jo];done)|(rw [Fh Jo,Tys.size];done));done))
    | (refine' Ki;refine' L4;refine' Uc;refine' PM;intro b1 o1 cs1 x1 hat1 hx1 he1;obtain ⟨vl1,rfl,hl1⟩:=Qf he1;refine' Oa;refine' zm;refine' Kr (c:=ih _ (Fa Ja) Ja Jo Jo hS);rintro v1 w1 ⟨rfl,hS⟩;refine' KA;refine' Mt;(exact ⟨⟨j+1,_,zh,zh,Jo,by have:=Ty.size_rng x1 (left:=n) Jo;omega,by have:=Ty.size_rng x1 (left:=n) Jo;omega,by rw [hd,Q1 hx1,Tys.size,if_pos Jo],hS.sp⟩,Qj Jo⟩))
theorem Yb {t:Ty}(ht:Ku.at cx cs t)(hS:St cx w L):
 Kf Tryz.prog yt [.agg ⟨cs⟩] w fun v w'=>v= .bool t.great∧St cx w' L:=by
 obtain ⟨v,rfl,hl⟩:=Qf ht;refine Kq Ko Tryz.func101 ?_;refine' KY;intro p1 w1 hS;refine' KA;refine' MU;refine' Kr (c:=cu t ht Jo Jo hS);rintro v1 w1 ⟨rfl,hS⟩;refine ia rfl rfl ?_;refine' La;(((refine ⟨_,rfl,?_,hS.sp⟩;(rfl);done)))
theorem oZ {l:List Ty}{v:Value}(hl:Ku.sl cx v l)(hS:St cx w L):
 Kf Tryz.prog xZ [v] w fun u w'=>u= .bool (Tys.great l)∧St cx w' L:=by
 (have hlen:=hl.len;unfold Tys.great;refine Kq Ko Tryz.func58 ?_;refine' Mq;refine' zL;first|(refine' QV)|(refine' QW)|(refine' Af<;>intro hc));all_goals (refine' zn)
 all_goals
  first
  | (refine' Ki;refine' KQ;((refine ⟨_,rfl,?_,hS.sp⟩;(rw [decide_eq_true Jo,HL]);done)))
  | (refine' Kk;refine' Kx)
 refine' NO;refine MB hS [0] (fun A LL ρ' w'=>∃(j:Nat),Kn ρ' A∧Kn ρ' [(3, .int .i64 j)]∧(j≤l.length)∧(l.any Ty.great=(l.drop j).any Ty.great)∧St cx w' (LL)) (fun ρ' _=>(l.length - iv (ρ' 3)).toNat) ?_ ?_
 · exact Ay
 rintro ρ w1 ⟨j,hA,hρ,hj,hd,hS⟩;obtain ⟨ρ,rfl⟩:=Kp hA hρ;refine' P7;refine' Ua;refine' Ab<;>intro hc
 · skip
   refine' L4;refine' Lc;refine' zi;intro b1 o1 cs1 x1 hat1 hx1 he1;obtain ⟨vl1,rfl,hl1⟩:=Qf he1;refine' Oa;refine' KE (c:=Yb Ja hS);rintro v1 w1 ⟨rfl,hS⟩;cases hg:x1.great;all_goals (refine' zn)
   all_goals
    first
    | (refine' Ki;refine' KQ;first|(refine ⟨_,rfl,?_,hS.sp⟩;rw [decide_eq_true Jo,HL];done)|(refine ⟨_,rfl,?_,hS.sp⟩;rw [decide_eq_false Jo,hd,Ha,Q1 hx1,H5,hg,HL];done))
    | (refine' Kk;refine' Kx)
   refine' Mt;(exact ⟨⟨j+1,zh,zh,Jo,by rw [hd,Q1 hx1,H5,hg,Ha],hS.sp⟩,Qj Jo⟩)
 · skip;refine' Pm;(first|(refine ⟨_,rfl,?_,hS.sp⟩;rw [decide_eq_true Jo,HL];done)|(refine ⟨_,rfl,?_,hS.sp⟩;rw [decide_eq_false Jo,hd,Ha,Q1 hx1,H5,hg,HL];done)|(refine ⟨_,rfl,?_,hS.sp⟩;rw [decide_eq_false Jo,hd,Ha,Fh Jo];rfl;done))
theorem cv:∀(t:Ty){cx:Cx}{w:World}{L:List Res}{cs:List Value}{left:Int},Ku.at cx cs t→left≤1000000→St cx w L→
 Kf Tryz.prog zQ [.agg ⟨cs⟩, .int .i64 left] w fun v w'=>v= .bool (t.deepB left)∧St cx w' L:=by
 intro t
 induction t using Hg with
 | h k r l ih=>
   (intro cx w L cs left ht h1 hS;obtain ⟨v,rfl,hl⟩:=Qf ht;simp only [Ty.kind,Ty.r,Ty.l] at hl ht ⊢;have hlen:=hl.len;rw [Ty.deepB];refine Kq Ko Tryz.func211 ?_;refine' KY;intro p2 w1 hS;refine' OX;first|(refine' KX)|(refine' K1)|(refine' Ae<;>intro hc));all_goals (refine' zn)
   all_goals
    first
    | (refine' Ki;refine' KQ;((refine ⟨_,rfl,?_,hS.sp⟩;(rw [if_pos Jo]);done)))
    | (refine' Kk;refine' Kx)
   refine' NH;refine' Oh;refine MB hS [1,10,11] (fun A LL ρ' w'=>∃(j:Nat),Kn ρ' A∧Kn ρ' [(12, .int .i64 j)]∧(j≤l.length)∧(Tys.deepB l (left - 1)=Tys.deepB (l.drop j) (left - 1))∧St cx w' (LL)) (fun ρ' _=>(l.length - iv (ρ' 12)).toNat) ?_ ?_
   · exact Ay
   rintro ρ w1 ⟨j,hA,hρ,hj,hd,hS⟩;obtain ⟨ρ,rfl⟩:=Kp hA hρ;refine' MH;refine' Ab<;>intro hc
   · skip
     refine' WW;intro b1 o1 cs1 x1 hat1 hx1 he1;obtain ⟨vl1,rfl,hl1⟩:=Qf he1;refine' NN;intro p6 w1 hS;refine Kt hS ?_;intro w1 hS;have hS:=hS.ns;refine' Sr;refine' zm;refine' PD;refine' Kr (c:=ih _ (Fa Ja) Ja Jo hS);rintro v1 w1 ⟨rfl,hS⟩;cases hg:x1.deepB (left - 1);all_goals (refine' Nv)
     all_goals
      first
      | (refine' Kk;refine' Kx)
      | (refine' Ki;refine' KQ;first|(refine ⟨_,rfl,?_,hS.sp⟩;rw [if_pos Jo];done)|(refine ⟨_,rfl,?_,hS.sp⟩;rw [if_neg Jo,hd,Q1 hx1,Tys.deepB,hg,I2];done))
     refine' N1;(exact ⟨⟨j+1,zh,zh,Jo,by rw [hd,Q1 hx1,Tys.deepB,hg,Bool.true_and],hS.sp⟩,Qj Jo⟩)
   · skip;refine' Pm;(first|(refine ⟨_,rfl,?_,hS.sp⟩;rw [if_pos Jo];done)|(refine ⟨_,rfl,?_,hS.sp⟩;rw [if_neg Jo,hd,Q1 hx1,Tys.deepB,hg,I2];done)|(refine ⟨_,rfl,?_,hS.sp⟩;rw [if_neg Jo,hd,Fh Jo,Tys.deepB];done))
theorem Yc: ∀ (t:Ty){cx:Cx}{w:World}{L:List Res}{cs:List Value}{regs:Int},Ku.at cx cs t→St cx w L→
 Kf Tryz.prog zR [.agg ⟨cs⟩, .int .i64 regs] w fun v w'=>v= .int .i64 (t.wrong 8 regs)∧St cx w' L:=by
 intro t
 induction t using Hg with
 | h k r l ih =>
   intro cx w L cs regs ht hS;obtain ⟨v,rfl,hl⟩:=Qf ht;simp only [Ty.kind,Ty.r,Ty.l] at hl ht ⊢;have hlen:=hl.len;rw [Ty.wrong];refine Kq Ko Tryz.func212 ?_;refine' KY;intro p2 w1 hS;refine' KA;refine Sj hS [1,2] (fun A LL ρ' w'=>Kn ρ' A∧Kn ρ' []∧(1≤k∧k≤4∧k≠1∧(k≠3→l.length=0)∧l.length≤8)∧St cx w' (LL)) ?_ ?_
   · skip
     (refine' Mn;refine' SZ;refine' Kv;first|(refine' Ql)|(refine' Qp)|(refine' Ac<;>intro hc));all_goals (refine' KA)
     all_goals
      first
      | (refine' Ki
         ((refine' NH;first|(refine' QO)|(refine' QU)|(refine' Ad<;>intro hc));all_goals (refine' RM;first|refine' Kj|(refine' Kl;(first|(refine' QV)|(refine' QW)|(refine' Af<;>intro hc)))));all_goals (refine' Ll)
         all_goals
          first
          | (refine' Ki;all_goals (refine' KQ);all_goals (refine ⟨_,rfl,?_,hS.sp⟩;(repeat (first|rw [if_pos Jo]|rw [if_neg Jo]));done))
          | (refine' Kk;refine' Kx)
         refine' KQ;first|(refine ⟨_,rfl,?_,hS.sp⟩;(repeat (first|rw [if_pos Jo]|rw [if_neg Jo]));done)|(refine ⟨_,rfl,?_,hS.sp⟩;((repeat (first|rw [if_pos Jo]|rw [if_neg Jo]));rw [hd,Q1 hx1,Tys.wrong,if_pos Ja]);done)|(refine ⟨_,rfl,?_,hS.sp⟩;((repeat (first|rw [if_pos Jo]|rw [if_neg Jo]));rw [Gq (l:=l) Jo,Tys.wrong]);done))
      | (refine' Kk
         (refine QA ?_;refine' Kv;first|(refine' Ql)|(refine' Qp)|(refine' Ac<;>intro hc));all_goals (refine' KA)
         all_goals
          first
          | (refine' Ki;refine' Kx)
          | (refine' Kk;(refine' LS;first|(refine' Ql)|(refine' Qp)|(refine' Ac<;>intro hc));all_goals (refine' zm);all_goals refine' zn)
         all_goals
          first
          | (refine' Ki
             all_goals (refine' WX;first|(refine' QV)|(refine' QW)|(refine' Af<;>intro hc));all_goals (refine' zn)
             all_goals
              first
              | (refine' Ki;all_goals (refine' KQ);all_goals (refine ⟨_,rfl,?_,hS.sp⟩;(repeat (first|rw [if_pos Jo]|rw [if_neg Jo]));done))
              | (refine' Kk;all_goals refine' Kx))
          | (refine' Kk
             (refine' Kv;first|(refine' Ql)|(refine' Qp)|(refine' Ac<;>intro hc));all_goals (refine' KA)
             all_goals
              first
              | (refine' Ki
                 (refine' WX;first|(refine' QV)|(refine' QW)|(refine' Af<;>intro hc));all_goals (refine' zn)
                 all_goals
                  first
                  | (refine' Ki;refine' KQ;((refine ⟨_,rfl,?_,hS.sp⟩;((repeat (first|rw [if_pos Jo]|rw [if_neg Jo])));done)))
                  | (refine' Kk;refine' Kx))
              | (refine' Kk;refine' KQ;((refine ⟨_,rfl,?_,hS.sp⟩;((repeat (first|rw [if_pos Jo]|rw [if_neg Jo])));done)))))
     all_goals (exact ⟨zh,zh,Jo,hS.sp⟩)
   ((rintro ρ w1 ⟨hA,hρ,hk,hS⟩;obtain ⟨ρ,rfl⟩:=Kp hA hρ;refine' NH;first|(refine' KX)|(refine' K1)|(refine' Ae<;>intro hc));all_goals (refine' Md;refine' Mc;first|refine' Kj|(refine' Kl;(first|(refine' Ml)|(refine' MN)|(refine' Ag<;>intro hc)))));all_goals (refine' Ll)
   all_goals
    first
    | (refine' Ki;all_goals (refine' KQ);all_goals (refine ⟨_,rfl,?_,hS.sp⟩;(repeat (first|rw [if_pos Jo]|rw [if_neg Jo]));done))
    | (refine' Kk;refine' Kx)
   refine' NH;refine' Oh;refine MB hS [1,44,45] (fun A LL ρ' w'=>∃(j:Nat),Kn ρ' A∧Kn ρ' [(46, .int .i64 j)]∧(j≤l.length)∧(Tys.wrong 8 l regs=Tys.wrong 8 (l.drop j) regs)∧St cx w' (LL)) (fun ρ' _=>(l.length - iv (ρ' 46)).toNat) ?_ ?_
   · exact Ay
   rintro ρ w1 ⟨j,hA,hρ,hj,hd,hS⟩;obtain ⟨ρ,rfl⟩:=Kp hA hρ;refine' MH;refine' Ab<;>intro hc
   · skip
     (refine' WW;intro b1 o1 cs1 x1 hat1 hx1 he1;obtain ⟨vl1,rfl,hl1⟩:=Qf he1;refine' NN;intro p6 w1 hS;refine Kt hS ?_;intro w1 hS;have hS:=hS.ns;refine' Sr;refine' zm;refine' Kr (c:=ih _ (Fa Ja) Ja hS);rintro v1 w1 ⟨rfl,hS⟩;refine' L6;first|(refine' QO)|(refine' QU)|(refine' Ad<;>intro hc));all_goals (refine' zn)
     all_goals
      first
      | (refine' Ki;refine' SX;first|(refine ⟨_,rfl,?_,hS.sp⟩;(repeat (first|rw [if_pos Jo]|rw [if_neg Jo]));done)|(refine ⟨_,rfl,?_,hS.sp⟩;((repeat (first|rw [if_pos Jo]|rw [if_neg Jo]));rw [hd,Q1 hx1,Tys.wrong,if_pos Ja]);done))
      | (refine' Kk;refine' Kx)
     refine' N1;(exact Cs)
   · skip;refine' Pm;(first|(refine ⟨_,rfl,?_,hS.sp⟩;(repeat (first|rw [if_pos Jo]|rw [if_neg Jo]));done)|(refine ⟨_,rfl,?_,hS.sp⟩;((repeat (first|rw [if_pos Jo]|rw [if_neg Jo]));rw [hd,Q1 hx1,Tys.wrong,if_pos Ja]);done)|(refine ⟨_,rfl,?_,hS.sp⟩;((repeat (first|rw [if_pos Jo]|rw [if_neg Jo]));rw [Gq (l:=l) Jo,Tys.wrong]);done)|(refine ⟨_,rfl,?_,hS.sp⟩;((repeat (first|rw [if_pos Jo]|rw [if_neg Jo]));rw [hd,Fh Jo,Tys.wrong]);done))
theorem tj {t:Ty}(ht:Ku.at cx cs t)(hS:St cx w L):
 Kf Tryz.prog yU [.agg ⟨cs⟩, .int .i64 regs] w fun v w'=>v= .int .i64 (t.fault regs)∧St cx w' L:=by
 obtain ⟨v,rfl,hl⟩:=Qf ht;unfold Ty.fault;refine Kq Ko Tryz.func159 ?_;refine' KY;intro p2 w1 hS;refine' Ms;refine' MU;refine' Kr (c:=cv t ht Jo hS);rintro v1 w1 ⟨rfl,hS⟩;cases hg:t.deepB 4;all_goals (refine' Nv)
 all_goals
  first
  | (refine' Ki;refine' KQ;((refine ⟨_,rfl,?_,hS.sp⟩;(rfl);done)))
  | (refine' Kk;refine' Kx)
 refine' MU;refine' zm;refine' Kr (c:=Yc t ht hS);rintro v1 w1 ⟨rfl,hS⟩;refine' La;(refine ⟨_,rfl,?_,hS.sp⟩;(rfl);done)
theorem tm:∀(t:Ty){cx:Cx}{w:World}{L:List Res}{cs:List Value}{most:Int},Ku.at cx cs t→0≤most→most≤1000→St cx w L→
 Kf Tryz.prog Us [.agg ⟨cs⟩, .int .i64 most] w fun v w'=>v= .int .i64 (t.depth most)∧St cx w' L:=by
 intro t
 induction t using Hg with
 | h k r l ih=>
   intro cx w L cs most ht h0 h1 hS;obtain ⟨v,rfl,hl⟩:=Qf ht;simp only [Ty.kind,Ty.r,Ty.l] at hl ht ⊢;have hlen:=hl.len;rw [Ty.depth];refine Kq Ko Tryz.func152 ?_;refine' KY;intro p2 w1 hS;refine' KA;refine' LM;refine' NO;refine MB hS [1,2] (fun A LL ρ' w'=>∃(j:Nat) (n:Int),Kn ρ' A∧Kn ρ' [(5, .int .i64 n),(6, .int .i64 j)]∧(j≤l.length)∧(0≤n)∧(n≤1002)∧(Tys.depth l most 0=Tys.depth (l.drop j) most n)∧St cx w' (LL)) (fun ρ' _=>(l.length - iv (ρ' 6)).toNat) ?_ ?_
   · exact ⟨0,0,zh,zh,Jo,Jo,Jo,by simp,hS.sp⟩
   ((rintro ρ w1 ⟨j,n,hA,hρ,hj,hn0,hn,hd,hS⟩;obtain ⟨ρ,rfl⟩:=Kp hA hρ;refine' P6;refine' zL;first|(refine' KX)|(refine' K1)|(refine' Ae<;>intro hc));all_goals (refine' Sm;first|refine' Kj|(refine' Kl;(first|(refine' iH)|(refine' iI)|(refine Xu rfl rfl (fun hc=>?_) (fun hc=>?_))))));all_goals (refine' Ll)
   all_goals
    first
    | (refine' Kk
       all_goals (refine' Sn);all_goals (first|(refine ⟨_,rfl,?_,hS.sp⟩;rw [hd];cases hx:l.drop j with|nil=>exact absurd (JJ.1 hx) Jo|cons y m=>rw [Tys.depth,if_pos Jo,if_pos Jo];done)|(refine ⟨_,rfl,?_,hS.sp⟩;rw [hd,Fh Jo,Tys.depth];done)|(refine ⟨_,rfl,?_,hS.sp⟩;rw [hd];cases hx:l.drop j with|nil=>rw [Tys.depth]|cons y m=>rw [Tys.depth,if_neg Jo];done)))
    | (refine' Ki
       (refine' L4;refine' Na;first|(refine' Ql)|(refine' Qp)|(refine' Ac<;>intro hc));all_goals (refine' zn)
       all_goals
        first
        | (refine' Ki
           refine' KQ;((refine ⟨_,rfl,?_,hS.sp⟩;(rw [hd];cases hx:l.drop j with|nil=>exact absurd (JJ.1 hx) Jo|cons y m=>rw [Tys.depth,if_pos Jo,if_pos Jo]);done)))
        | (refine' Kk;refine' Kx)
       (refine' Ue;intro b1 o1 cs1 x1 hat1 hx1 he1;obtain ⟨vl1,rfl,hl1⟩:=Qf he1;refine' Oa;refine' zm;refine' PD;have hb:=Ty.depth_rng x1 (most:=most - 1) Jo;refine' Kr (c:=ih _ (Fa Ja) Ja Jo Jo hS);rintro v1 w1 ⟨rfl,hS⟩;refine' lH;refine' Lc;first|(refine' QV)|(refine' QW)|(refine' Af<;>intro hc));all_goals (refine' zn)
       all_goals
        first
        | (refine' Ki;refine' MZ;refine' zn)
        | (refine' Kk;refine' Kx)
       all_goals (refine' Mt);all_goals (first|(exact ⟨⟨j+1,_,zh,zh,Jo,Jo,Jo,by rw [hd,Q1 hx1,Tys.depth,if_pos Jo,if_neg Jo,if_pos Jo],hS.sp⟩,Qj Jo⟩)|(exact ⟨⟨j+1,_,zh,zh,Jo,Jo,Jo,by rw [hd,Q1 hx1,Tys.depth,if_pos Jo,if_neg Jo,if_neg Jo],hS.sp⟩,Qj Jo⟩)))
theorem UH:∀(t:Ty){cx:Cx}{w:World}{L:List Res}{cs:List Value}{regs:Int},Ku.at cx cs t→St cx w L→
 Kf Tryz.prog ze [.agg ⟨cs⟩, .int .i64 regs] w fun v w'=>v= .int .i64 (t.wrong 8 regs)∧St cx w' L:=by
 intro t
 induction t using Hg with
 | h k r l ih=>
   ((intro cx w L cs regs ht hS;obtain ⟨v,rfl,hl⟩:=Qf ht;simp only [Ty.kind,Ty.r,Ty.l] at hl ht ⊢;have hlen:=hl.len;rw [Ty.wrong];refine Kq Ko Tryz.func167 ?_;refine' KY;intro p2 w1 hS;refine' Ms;refine' Mn;first|(refine' KX)|(refine' K1)|(refine' Ae<;>intro hc));all_goals (refine' Md;first|refine' Kj|(refine' Kl;(first|(refine' QV)|(refine' QW)|(refine' Af<;>intro hc)))));all_goals (refine' Ll)
   all_goals
    first
    | (refine' Ki;all_goals (refine' KQ);all_goals (refine ⟨_,rfl,?_,hS.sp⟩;(repeat (first|rw [if_pos Jo]|rw [if_neg Jo]));done))
    | (refine' Kk;refine' Kx)
   refine Sj hS [1,2] (fun A LL ρ' w'=>Kn ρ' A∧Kn ρ' []∧(1≤k∧k≤4∧(k=1→r=0)∧(k≠3→l.length=0))∧St cx w' (LL)) ?_ ?_
   · skip
     ((((refine' Mn;first|(refine' Ql)|(refine' Qp)|(refine' Ac<;>intro hc));all_goals (refine' Md;first|refine' Kj|(refine' Kl;(first|(refine' QO)|(refine' QU)|(refine' Ad<;>intro hc)))));all_goals (refine' Lu;refine' Md;first|refine' Kj|(refine' Kl;(first|(refine' QO)|(refine' QU)|(refine' Ad<;>intro hc)))));all_goals (refine' XX;refine' NM;first|refine' Kj|(refine' Kl;(first|(refine' QV)|(refine' QW)|(refine' Af<;>intro hc)))));all_goals (refine' Z1;refine' Ll)
     all_goals
      first
      | (refine' Ki;all_goals (refine' KQ);all_goals (refine ⟨_,rfl,?_,hS.sp⟩;(repeat (first|rw [if_pos Jo]|rw [if_neg Jo]));done))
      | (refine' Kk;all_goals refine' Kx)
     all_goals (exact ⟨zh,zh,Jo,hS.sp⟩)
   (rintro ρ w1 ⟨hA,hρ,hk,hS⟩;obtain ⟨ρ,rfl⟩:=Kp hA hρ;refine' NH;refine' zL;first|(refine' QV)|(refine' QW)|(refine' Af<;>intro hc));all_goals (refine' zn)
   all_goals
    first
    | (refine' Ki;refine' KQ;((refine ⟨_,rfl,?_,hS.sp⟩;((repeat (first|rw [if_pos Jo]|rw [if_neg Jo])));done)))
    | (refine' Kk;refine' Kx)
   refine Sj hS [1,2] (fun A LL ρ' w'=>Kn ρ' A∧Kn ρ' []∧(l.length≤8)∧(k≠1→0≤r∧r<regs)∧St cx w' (LL)) ?_ ?_
   · skip
     (((refine' Mn;first|(refine' QO)|(refine' QU)|(refine' Ad<;>intro hc));all_goals (refine' Md;first|refine' Kj|(refine' Kl;(first|(refine' KX)|(refine' K1)|(refine' Ae<;>intro hc)))));all_goals (refine' XX;refine' Mc;first|refine' Kj|(refine' Kl;(first|(refine' Ml)|(refine' MN)|(refine' Ag<;>intro hc)))));all_goals (refine' Z1;refine' Ll)
     all_goals
      first
      | (refine' Ki;all_goals (refine' KQ);all_goals (refine ⟨_,rfl,?_,hS.sp⟩;(repeat (first|rw [if_pos Jo]|rw [if_neg Jo]));done))
      | (refine' Kk;all_goals refine' Kx)
     all_goals (exact ⟨zh,zh,Jo,Jo,hS.sp⟩)
   rintro ρ w1 ⟨hA,hρ,hk2,hk3,hS⟩;obtain ⟨ρ,rfl⟩:=Kp hA hρ;refine' NO;refine MB hS [1,2] (fun A LL ρ' w'=>∃(j:Nat),Kn ρ' A∧Kn ρ' [(5, .int .i64 j)]∧(j≤l.length)∧(Tys.wrong 8 l regs=Tys.wrong 8 (l.drop j) regs)∧St cx w' (LL)) (fun ρ' _=>(l.length - iv (ρ' 5)).toNat) ?_ ?_
   · exact Ay
   rintro ρ w1 ⟨j,hA,hρ,hj,hd,hS⟩;obtain ⟨ρ,rfl⟩:=Kp hA hρ;refine' Uf;refine' Ab<;>intro hc
   · skip
     (refine' L4;refine' Ue;intro b1 o1 cs1 x1 hat1 hx1 he1;obtain ⟨vl1,rfl,hl1⟩:=Qf he1;refine' Oa;refine' zm;refine' Kr (c:=ih _ (Fa Ja) Ja hS);rintro v1 w1 ⟨rfl,hS⟩;refine' L6;first|(refine' QO)|(refine' QU)|(refine' Ad<;>intro hc));all_goals (refine' zn)
     all_goals
      first
      | (refine' Ki;refine' SX;first|(refine ⟨_,rfl,?_,hS.sp⟩;(repeat (first|rw [if_pos Jo]|rw [if_neg Jo]));done)|(refine ⟨_,rfl,?_,hS.sp⟩;((repeat (first|rw [if_pos Jo]|rw [if_neg Jo]));rw [hd,Q1 hx1,Tys.wrong,if_pos Ja]);done))
      | (refine' Kk;refine' Kx)
     refine' Mt;(exact Cs)
   · skip;refine' Pm;(first|(refine ⟨_,rfl,?_,hS.sp⟩;(repeat (first|rw [if_pos Jo]|rw [if_neg Jo]));done)|(refine ⟨_,rfl,?_,hS.sp⟩;((repeat (first|rw [if_pos Jo]|rw [if_neg Jo]));rw [hd,Q1 hx1,Tys.wrong,if_pos Ja]);done)|(refine ⟨_,rfl,?_,hS.sp⟩;((repeat (first|rw [if_pos Jo]|rw [if_neg Jo]));rw [hd,Fh Jo,Tys.wrong]);done))
theorem Qh1 {t:Ty}(ht:Ku.at cx cs t)(hS:St cx w L):
 Kf Tryz.prog yB [.agg ⟨cs⟩, .int .i64 regs] w fun v w'=>v= .int .i64 (t.fault regs)∧St cx w' L:=by
 (obtain ⟨v,rfl,hl⟩:=Qf ht;have hdp:=Ty.depth_iff t (most:=4) Jo;unfold Ty.fault;refine Kq Ko Tryz.func112 ?_;refine' KY;intro p2 w1 hS;refine' Ms;refine' MU;refine' Kr (c:=tm t ht Jo Jo hS);rintro v1 w1 ⟨rfl,hS⟩;first|(refine' QV)|(refine' QW)|(refine' Af<;>intro hc));all_goals (refine' zn)
 all_goals
  first
  | (refine' Ki;refine' KQ;((refine ⟨_,rfl,?_,hS.sp⟩;(rw [if_pos];cases hg:t.deepB 4<;>simp_all<;>omega);done)))
  | (refine' Kk;refine' Kx)
 refine QA ?_;refine' LS;refine zv hS ?_;refine' zm;refine' Kr (c:=UH t ht hS);rintro v1 w1 ⟨rfl,hS⟩;refine' zm;refine' zn;refine' zr;refine' zf;first|(refine ⟨_,rfl,?_,hS.sp⟩;(rw [if_pos];cases hg:t.deepB 4<;>simp_all<;>omega);done)|(refine ⟨_,rfl,?_,hS.sp⟩;(rw [if_neg];cases hg:t.deepB 4<;>simp_all<;>omega);done)
end Go.Proofs.YteflkifmgnpbhaaGreat
namespace Go.Proofs.YteflkifmgnpbhaaGreat
open Go.Lir
set_option maxRecDepth 100000
theorem cz:Ns Tryz.prog 22=some (95,4,80,[(.int .i64 0),(.slice none 0 0),(.slice none 0 0),(.slice none 0 0)]):=by kernel_rfl
theorem i7:∃e2,Tryz.prog.underlying 22=some (.slice e2):=⟨95,by kernel_rfl⟩
theorem S7:Ns Tryz.prog 25=some (2,1,8,[(.int .i64 0)]):=by kernel_rfl
theorem WZ:∃e2,Tryz.prog.underlying 25=some (.slice e2):=⟨2,by kernel_rfl⟩
theorem cA:Ns Tryz.prog 53=some (110,5,72,[(.int .i64 0),(.int .i64 0),(.int .i64 0),(.slice none 0 0),(.slice none 0 0)]):=by kernel_rfl
theorem i9:∃e2,Tryz.prog.underlying 53=some (.slice e2):=⟨110,by kernel_rfl⟩
theorem cB:Ns Tryz.prog 64=some (138,4,48,[(.int .i64 0),(.int .i64 0),(.int .i64 0),(.slice none 0 0)]):=by kernel_rfl
theorem ja:∃e2,Tryz.prog.underlying 64=some (.slice e2):=⟨138,by kernel_rfl⟩
theorem S8:Ns Tryz.prog 68=some (3,1,8,[(.int .i64 0)]):=by kernel_rfl
theorem UI:∃e2,Tryz.prog.underlying 68=some (.slice e2):=⟨3,by kernel_rfl⟩
theorem cC:Ns Tryz.prog 85=some (84,8,96,[(.int .i64 0),(.int .i64 0),(.int .i64 0),(.int .i64 0),(.int .i64 0),(.int .i64 0),(.slice none 0 0),(.slice none 0 0)]):=by kernel_rfl
theorem jb:∃e2,Tryz.prog.underlying 85=some (.slice e2):=⟨84,by kernel_rfl⟩
theorem PV:Ns Tryz.prog 86=some (115,3,40,[(.int .i64 0),(.int .i64 0),(.slice none 0 0)]):=by kernel_rfl
theorem Ra:∃e2,Tryz.prog.underlying 86=some (.slice e2):=⟨115,by kernel_rfl⟩
theorem cD:Ns Tryz.prog 93=some (92,12,208,[(.int .i64 0),(.slice none 0 0),(.slice none 0 0),(.int .i64 0),(.int .i64 0),(.int .i64 0),(.slice none 0 0),(.slice none 0 0),(.int .i64 0),(.slice none 0 0),(.slice none 0 0),(.slice none 0 0)]):=by kernel_rfl
theorem jc:∃e2,Tryz.prog.underlying 93=some (.slice e2):=⟨92,by kernel_rfl⟩
theorem jd:Ns Tryz.prog 146=some (4,1,1,[(.bool false)]):=by kernel_rfl
theorem lN:∃e2,Tryz.prog.underlying 146=some (.slice e2):=⟨4,by kernel_rfl⟩
end Go.Proofs.YteflkifmgnpbhaaGreat
namespace Go.Proofs.YteflkifmgnpbhaaGreat
open Go.Lir
attribute [local irreducible] LC.wp Q0 Qs Qi KN QD LO.wp Q7 Calls
section
theorem UJ {l:List Ty}(hlen:l.length≤100000)(ih:∀x∈l,∀{cx:Cx}{w:World}{L:List Res}{cs:List Value},Ku.at cx cs x→St cx w L→Kf Tryz.prog sN [.agg ⟨cs⟩] w fun u w'=>∃c' ds,u= .agg ⟨ds⟩∧cx.Le c'∧Ku.at c' ds x∧St c' w' L)
 {v:Value}(hl:Ku.sl cx v l)(hS:St cx w L):Kf Tryz.prog sH [v] w fun u w'=>∃c',cx.Le c'∧Ku.sl c' u l∧St c' w' L:=by
 refine Kq Ko Tryz.func59 ?_;refine' LM;refine' LM;refine' NO;refine MB hS [0] (fun A LL ρ' w'=>∃(c1:Cx) (j:Nat) (u:Value) (css:List (List Value)),Kn ρ' A∧Kn ρ' [(3,u),(4, .int .i64 j)]∧(cx.Le c1)∧(j≤l.length)∧(Ku.ls c1 css (l.take j))∧(oneC u=true)∧St c1 w' (sl 115 3 u css::LL)) (fun ρ' _=>(l.length - iv (ρ' 4)).toNat) ?_ ?_
 · exact Bk
 rintro ρ w1 ⟨c1,j,u,css,hA,hρ,hle,hj,hls,hu,hS⟩;obtain ⟨ρ,rfl⟩:=Kp hA hρ;have hl:=Gc hl hle;refine' P7;refine' Ua;refine' Ab<;>intro hc
 · skip;refine' L4;refine' MZ;refine' PM;intro b1 o1 cs1 x1 hat1 hx1 he1;obtain ⟨vl1,rfl,hl1⟩:=Qf he1;refine' Oa;refine' KE (c:=ih _ (Fa hx1) he1 hS);rintro v1 w1 ⟨c2,ds,rfl,hle2,hd,hS⟩;obtain ⟨v2,rfl,hv2⟩:=Qf hd;have hls:=Jp hls hle2;refine K8 hS [_,_,_] ?_;intro b1 w1 hS;refine za PV Ra hS ?_;intro vp1 w1 css1 hls1 hv1 hS;have hS:=hS.ns;refine' KA;refine' Mt;(exact BE)
 · skip;refine' Sn;(obtain ⟨c3,hle3,hS,hl3⟩:=Gp (r:=Ku) (l:=l) (T:=115) (es:=3) (v:=u) (css:=css) (L:=L) hS.sp Em rfl Jo;exact ⟨_,rfl,c3,hle.trans hle3,hl3,hS⟩)
theorem cE:∀(t:Ty),t.Short→∀{cx:Cx}{w:World}{L:List Res}{cs:List Value},Ku.at cx cs t→St cx w L→
 Kf Tryz.prog sN [.agg ⟨cs⟩] w fun u w'=>∃c' ds,u= .agg ⟨ds⟩∧cx.Le c'∧Ku.at c' ds t∧St c' w' L:=by
 intro t
 induction t using Hg with
 | h k r l ih=>
   intro hs cx w L cs ht hS;obtain ⟨v,rfl,hl⟩:=Qf ht;simp only [Ty.kind,Ty.r,Ty.l] at hl ht ⊢;obtain ⟨hlen,hsub⟩:=hs.parts;refine Kq Ko Tryz.func102 ?_;refine' KY;intro p1 w1 hS;refine Qd hS ?_;(intro p2 w1 hS);refine' L5;refine zC [(0,none),(1,none),(2,none),(3,none),(4,none),(5,none),(6,some (some [1,3])),(7,none),(8,some none)] ?_;have hS:=hS.drew;refine' KW;refine' Ug;refine' Od;refine' KE (c:=UJ hlen (fun x hx=>ih x hx (hsub x hx)) hl hS);rintro v1 w1 ⟨c1,hle,hl1,hS⟩;obtain ⟨a1,n1,rfl⟩:=Fx hl1;refine' Mp;refine Ph [_,_,_] ?_;refine' Lk;((refine Kt hS ?_;intro w1 hS;have hS:=hS.ns));refine' Lq;refine' zr;refine LF vw (Q2 (n:=3) Jk Jk (hS.blkAt fd) Jr Jr) ?_;((exact ⟨_,rfl,c1,_,rfl,hle,PB hl1,hS.sp⟩))
theorem tn {l:List Ty}(hlen:l.length≤100000)(ih:∀x∈l,∀{cx:Cx}{w:World}{L:List Res}{cs:List Value},Ku.at cx cs x→St cx w L→Kf Tryz.prog sU [.agg ⟨cs⟩] w fun u w'=>∃c' ds,u= .agg ⟨ds⟩∧cx.Le c'∧Ku.at c' ds x∧St c' w' L)
 {v:Value}(hl:Ku.sl cx v l)(hS:St cx w L):Kf Tryz.prog sO [v] w fun u w'=>∃c',cx.Le c'∧Ku.sl c' u l∧St c' w' L:=by
 refine Kq Ko Tryz.func109 ?_;refine' LM;refine' Mq;refine' Oh;refine MB hS [6,7] (fun A LL ρ' w'=>∃(c1:Cx) (j:Nat) (u:Value) (css:List (List Value)),Kn ρ' A∧Kn ρ' [(3,u),(8, .int .i64 j)]∧(cx.Le c1)∧(j≤l.length)∧(Ku.ls c1 css (l.take j))∧(oneC u=true)∧St c1 w' (sl 115 3 u css::LL)) (fun ρ' _=>(l.length - iv (ρ' 8)).toNat) ?_ ?_
 · exact Bk
 rintro ρ w1 ⟨c1,j,u,css,hA,hρ,hle,hj,hls,hu,hS⟩;obtain ⟨ρ,rfl⟩:=Kp hA hρ;have hl:=Gc hl hle;refine' MH;refine' Ab<;>intro hc
 · skip;refine' WW;intro b1 o1 cs1 x1 hat1 hx1 he1;obtain ⟨vl1,rfl,hl1⟩:=Qf he1;refine' NN;intro p5 w1 hS;refine Kt hS ?_;intro w1 hS;have hS:=hS.ns;refine' Ss;refine' KE (c:=ih _ (Fa hx1) he1 hS);rintro v1 w1 ⟨c2,ds,rfl,hle2,hd,hS⟩;obtain ⟨v2,rfl,hv2⟩:=Qf hd;have hls:=Jp hls hle2;refine K8 hS [_,_,_] ?_;intro b1 w1 hS;refine za PV Ra hS ?_;intro vp1 w1 css1 hls1 hv1 hS;have hS:=hS.ns;refine' KA;refine' N1;(exact BE)
 · skip;refine' Sn;(obtain ⟨c3,hle3,hS,hl3⟩:=Gp (r:=Ku) (l:=l) (T:=115) (es:=3) (v:=u) (css:=css) (L:=L) hS.sp Em rfl Jo;exact ⟨_,rfl,c3,hle.trans hle3,hl3,hS⟩)
theorem cF:∀(t:Ty),t.Short→∀{cx:Cx}{w:World}{L:List Res}{cs:List Value},Ku.at cx cs t→St cx w L→
 Kf Tryz.prog sU [.agg ⟨cs⟩] w fun u w'=>∃c' ds,u= .agg ⟨ds⟩∧cx.Le c'∧Ku.at c' ds t∧St c' w' L:=by
 intro t
 induction t using Hg with
 | h k r l ih=>
   intro hs cx w L cs ht hS;obtain ⟨v,rfl,hl⟩:=Qf ht;simp only [Ty.kind,Ty.r,Ty.l] at hl ht ⊢;obtain ⟨hlen,hsub⟩:=hs.parts;refine Kq Ko Tryz.func166 ?_;refine' KY;intro p1 w1 hS;refine Qd hS ?_;(intro p2 w1 hS);refine' NA;refine' KZ;refine M9 [_,_,_] ?_;refine Qd hS ?_;(intro p3 w1 hS);((refine Kt hS ?_;intro w1 hS;have hS:=hS.ns));refine' NA;refine' KE (c:=tn hlen (fun x hx=>ih x hx (hsub x hx)) hl hS);rintro v1 w1 ⟨c1,hle,hl1,hS⟩;obtain ⟨a1,n1,rfl⟩:=Fx hl1;refine' WR;intro w1 hS;have hS:=hS.ns;refine' Sr;((refine Kt hS ?_;intro w1 hS;have hS:=hS.ns));refine' Lz;refine LF vw (Q2 (n:=3) Jk Jk (hS.blkAt fd) Jr Jr) ?_;((exact ⟨_,rfl,c1,_,rfl,hle,PB hl1,hS.sp⟩))
theorem Z6 {l:List Ty}(hlen:l.length≤100000)(hs:∀x∈l,x.Short){v:Value}(hl:Ku.sl cx v l)(hS:St cx w L):Kf Tryz.prog sO [v] w fun u w'=>∃c',cx.Le c'∧Ku.sl c' u l∧St c' w' L:=
 tn hlen (fun x hx=>cF x (hs x hx)) hl hS
end
section
theorem tp {l:List Ty}(ih:∀x∈l,∀(y:Ty){cx:Cx}{w:World}{L:List Res}{cs ds:List Value},Ku.at cx cs x→Ku.at cx ds y→St cx w L→Kf Tryz.prog sQ [.agg ⟨cs⟩, .agg ⟨ds⟩] w fun u w'=>u= .bool (decide (x=y))∧St cx w' L)
 {m:List Ty}{v:Value}(hl:Ku.sl cx v l)(hm:Ku.sl cx v2 m)(hS:St cx w L):Kf Tryz.prog sJ [v,v2] w fun u w'=>u= .bool (decide (l=m))∧St cx w' L:=by
 (have hlen:=hl.len;refine Kq Ko Tryz.func76 ?_;refine' Mq;refine' zL;refine' zm;refine' zL;first|(refine' QO)|(refine' QU)|(refine' Ad<;>intro hc));all_goals (refine' zn)
 all_goals
  first
  | (refine' Ki;refine' KQ;((refine ⟨_,rfl,?_,hS.sp⟩;(rw [decide_eq_false];exact AP);done)))
  | (refine' Kk;refine' Kx)
 refine' NO;refine MB hS [0,1] (fun A LL ρ' w'=>∃(j:Nat),Kn ρ' A∧Kn ρ' [(5, .int .i64 j)]∧(j≤l.length)∧(l.length=m.length)∧(l=m↔l.drop j=m.drop j)∧St cx w' (LL)) (fun ρ' _=>(l.length - iv (ρ' 5)).toNat) ?_ ?_
 · exact Bh
 rintro ρ w1 ⟨j,hA,hρ,hj,hlm,hd,hS⟩;obtain ⟨ρ,rfl⟩:=Kp hA hρ;refine' P7;refine' Ua;refine' Ab<;>intro hc
 · skip
   (refine' Ub;refine zD (ci 10 [8,9]) ?_;have hS:=hS.drew;refine' MV;refine' zi;intro b1 o1 cs1 x1 hat1 hx1 he1;obtain ⟨vl1,rfl,hl1⟩:=Qf he1;refine' Oa;refine' MV;refine' zi;intro b2 o2 cs2 x2 hat2 hx2 he2;obtain ⟨vl2,rfl,hl2⟩:=Qf he2;refine' Oa;refine' Kr (c:=ih _ (Fa hx1) _ he1 he2 hS);rintro v1 w1 ⟨rfl,hS⟩;(cases hdec:decide (x1=x2));have hg:=of_decide_eq_false hdec;rotate_left;have hg:=of_decide_eq_true hdec;all_goals skip);all_goals (refine' Nv)
   all_goals
    first
    | (refine' Ki;refine' KQ;first|(refine ⟨_,rfl,?_,hS.sp⟩;rw [decide_eq_false];exact AP;done)|(refine ⟨_,rfl,?_,hS.sp⟩;rw [decide_eq_false];rw [hd,Q1 hx1,Q1 hx2];simp [hg];done))
    | (refine' Kk;refine' Kx)
   refine' Mt;(exact B5)
 · skip;refine' Pm;(exact Ao)
theorem pc:∀(t u:Ty){cx:Cx}{w:World}{L:List Res}{cs ds:List Value},Ku.at cx cs t→Ku.at cx ds u→St cx w L→
 Kf Tryz.prog sQ [.agg ⟨cs⟩, .agg ⟨ds⟩] w fun v w'=>v= .bool (decide (t=u))∧St cx w' L:=by
 intro t
 induction t using Hg with
 | h k r l ih=>
   ((rintro ⟨k2,r2,m⟩ cx w L cs ds ht hu hS;obtain ⟨v,rfl,hl⟩:=Qf ht;obtain ⟨v2,rfl,hm⟩:=Qf hu;simp only [Ty.kind,Ty.r,Ty.l,Ty.mk.injEq] at hl hm ht hu ⊢;refine Kq Ko Tryz.func128 ?_;refine' KY;intro p2 w1 hS;refine zb hS ?_;intro p3 w1 hS;refine' KA;refine' Mn;refine' KZ;first|(refine' Ql)|(refine' Qp)|(refine' Ac<;>intro hc));all_goals (refine' S2;first|refine' Kj|(refine' Kl;(first|(refine' Ql)|(refine' Qp)|(refine' Ac<;>intro hc)))));all_goals (refine' Lu;refine' S2;(first|refine' Kj|(refine' Kl;refine' Kr (c:=tp ih hl hm hS);rintro v1 w1 ⟨rfl,hS⟩));refine' Lu;refine' La;refine ⟨_,rfl,?_,hS.sp⟩;(simp [*]);done)
theorem UK {l m:List Ty}{v:Value}(hl:Ku.sl cx v l)(hm:Ku.sl cx v2 m)(hS:St cx w L):Kf Tryz.prog sJ [v,v2] w fun u w'=>u= .bool (decide (l=m))∧St cx w' L:=
 tp (fun x _=>pc x) hl hm hS
theorem UL {l:List Ty}{f:FuncId}(hf:Sa Tryz.prog f=true){m:List Ty}{v:Value}
 (hcall:∀x∈l,∀y∈m,∀{w:World}{L:List Res}{cs ds:List Value},Ku.at cx cs x→Ku.at cx ds y→St cx w L→Kf Tryz.prog f [.agg ⟨cs⟩, .agg ⟨ds⟩] w fun u w'=>u= .bool (decide (x=y))∧St cx w' L)
 (hl:Ku.sl cx v l)(hm:Ku.sl cx v2 m)(hS:St cx w L):Kf Tryz.prog yX [v,v2, .func (.func f) #[] #[]] w fun u w'=>u= .bool (decide (l=m))∧St cx w' L:=by
 (have hlen:=hl.len;refine Kq Ko Tryz.func162 ?_;refine' Mq;refine' zL;refine' zm;refine' zL;first|(refine' QO)|(refine' QU)|(refine' Ad<;>intro hc));all_goals (refine' zn)
 all_goals
  first
  | (refine' Ki;refine' KQ;((refine ⟨_,rfl,?_,hS.sp⟩;(rw [decide_eq_false];exact AP);done)))
  | (refine' Kk;refine' Kx)
 refine' Na;refine' Oh;refine MB hS [1,2,15,16] (fun A LL ρ' w'=>∃(j:Nat),Kn ρ' A∧Kn ρ' [(17, .int .i64 j)]∧(j≤l.length)∧(l.length=m.length)∧(l=m↔l.drop j=m.drop j)∧St cx w' (LL)) (fun ρ' _=>(l.length - iv (ρ' 17)).toNat) ?_ ?_
 · exact Bh
 rintro ρ w1 ⟨j,hA,hρ,hj,hlm,hd,hS⟩;obtain ⟨ρ,rfl⟩:=Kp hA hρ;refine' MH;refine' Ab<;>intro hc
 · skip
   (refine' L4;refine' KP;refine' zi;intro b1 o1 cs1 x1 hat1 hx1 he1;obtain ⟨vl1,rfl,hl1⟩:=Qf he1;refine' NN;intro p8 w1 hS;refine' zm;refine Kt hS ?_;intro w1 hS;have hS:=hS.ns;refine' Uj;refine' zi;intro b2 o2 cs2 x2 hat2 hx2 he2;obtain ⟨vl2,rfl,hl2⟩:=Qf he2;refine' NN;intro p9 w1 hS;refine Kt hS ?_;intro w1 hS;have hS:=hS.ns;refine' LN;refine zv hS ?_;refine zv hS ?_;refine se rfl hf Jr (hcall _ (Fa hx1) _ (Fa hx2) he1 he2 hS) ?_;rintro v1 w1 ⟨rfl,hS⟩;(cases hdec:decide (x1=x2));have hg:=of_decide_eq_false hdec;rotate_left;have hg:=of_decide_eq_true hdec;all_goals skip);all_goals (refine' Nv)
   all_goals
    first
    | (refine' Ki;refine' KQ;first|(refine ⟨_,rfl,?_,hS.sp⟩;rw [decide_eq_false];exact AP;done)|(refine ⟨_,rfl,?_,hS.sp⟩;rw [decide_eq_false];rw [hd,Q1 hx1,Q1 hx2];simp [hg];done))
    | (refine' Kk;refine' Kx)
   refine' N1;(exact B5)
 · skip;refine' Pm;(exact Ao)
theorem je:∀(t u:Ty){cx:Cx}{w:World}{L:List Res}{cs ds:List Value},Ku.at cx cs t→Ku.at cx ds u→St cx w L→
 Kf Tryz.prog yY [.agg ⟨cs⟩, .agg ⟨ds⟩] w fun v w'=>v= .bool (decide (t=u))∧St cx w' L:=by
 intro t
 induction t using Hg with
 | h k r l ih=>
   ((rintro ⟨k2,r2,m⟩ cx w L cs ds ht hu hS;obtain ⟨v,rfl,hl⟩:=Qf ht;obtain ⟨v2,rfl,hm⟩:=Qf hu;simp only [Ty.kind,Ty.r,Ty.l,Ty.mk.injEq] at hl hm ht hu ⊢;refine Kq Ko Tryz.func163 ?_;refine' KY;intro p2 w1 hS;refine zb hS ?_;intro p3 w1 hS;refine' KA;refine' Mn;refine' KZ;first|(refine' Ql)|(refine' Qp)|(refine' Ac<;>intro hc));all_goals (refine' S2;first|refine' Kj|(refine' Kl;(first|(refine' Ql)|(refine' Qp)|(refine' Ac<;>intro hc)))));all_goals (refine' Lu;refine' S2;(first|refine' Kj|(refine' Kl;refine' Lg (c:=UL Jk (fun x hx y _ {_ _ _ _} h1 h2 h3=>ih x hx y h1 h2 h3) hl hm hS);rintro v1 w1 ⟨rfl,hS⟩));refine' Lu;refine' La;refine ⟨_,rfl,?_,hS.sp⟩;(simp [*]);done)
end
section
theorem jg (hb:l.length≤1000000){v:Value}(hl:Kh.sl cx v l)(hS:St cx w L):Kf Tryz.prog yA [v] w fun u w'=>∃c',cx.Le c'∧Kh.sl c' u l∧St c' w' L:=by
 obtain ⟨a,c,hv⟩:=Fx hl
 cases a with
 | none=>
   have hl0:=Iu hl hv;subst hl0;subst hv;refine Kq Ko Tryz.func111 ?_;refine' Mq;refine WN (e:=3) Jk rfl rfl ?_;refine' zn
   all_goals
    first
    | (refine' Ki;refine' KQ;(exact Bu))
   all_goals (refine' Kv; fail "no law for buildSlice"; refine' zm; refine za S8 UI hS ?_; intro vp1 w1 css1 hls1 hv1 hS; have hS := hS.ns; refine' La; exact BM)
 | some a=>
   have hn:Kh.ls cx [] []:=GB _ _ _;refine Kq Ko Tryz.func111 ?_;refine' Mq;refine WN (e:=3) Jk hv rfl ?_;refine' Pn;refine' Kv;refine im S8 ?_;intro v1 w1 hf1 hs1 hz1;have hS:=hS.new (r:=sl 3 1 v1 []) hs1 hf1 (fun b hb=>HK hb.symm);refine' zm;(first|(refine za S8 UI hS ?_;intro vp1 w1 css1 hls1 hv1 hS;have hS:=hS.ns)|(refine lC S8 UI hS ?_;intro vp1 w1 css1 hls1 hv1 hS;have hS:=hS.ns));refine' La;(obtain ⟨c3,hle3,hS,hl3⟩:=Gp (r:=Kh) (l:=l) (T:=3) (es:=1) (L:=L) hS.sp hls1 rfl Jo;exact By)
theorem tq {x:To}(hb1:x.regs.length≤1000000)(hb2:x.args.length≤1000000)(hx:toR.at cx cs x)(hS:St cx w L):Kf Tryz.prog yz [.agg ⟨cs⟩] w fun u w'=>∃c' ds,u= .agg ⟨ds⟩∧cx.Le c'∧toR.at c' ds x∧St c' w' L:=by
 obtain ⟨v1,v2,rfl,h1,h2⟩:=ZU hx;refine Kq Ko Tryz.func110 ?_;refine' KY;intro p1 w1 hS;refine Qd hS ?_;(intro p2 w1 hS);refine' L5;refine zC [(0,none),(1,none),(2,none),(3,none),(5,none),(6,none),(4,some (some [1,6])),(7,some (some [1])),(8,none),(9,some none)] ?_;have hS:=hS.drew;refine' KW;refine' Ug;refine' Od;refine' KE (c:=jg hb1 h1 hS);rintro v1 w1 ⟨c1,hle,hl1,hS⟩;obtain ⟨a1,n1,rfl⟩:=Fx hl1;have h2:=Gc h2 hle;refine' Li;refine' KE (c:=jg hb2 h2 hS);rintro v1 w1 ⟨c2,hle2,hl2,hS⟩;obtain ⟨a2,n2,rfl⟩:=Fx hl2;have hl1:=Gc hl1 hle2;refine' Mp;refine Ph [_,_,_] ?_;refine' Lk;((refine Kt hS ?_;intro w1 hS;have hS:=hS.ns));refine' Lq;refine' zr;refine LF vw (Q2 (n:=3) Jk Jk (hS.blkAt fd) Jr Jr) ?_;((exact ⟨_,rfl,c2,_,rfl,hle.trans hle2,⟨_,_,rfl,hl1,hl2⟩,hS.sp⟩))
end
section
end
section
variable {cx:Cx}{w:World}{L:List Res}{i:Nat}
abbrev MO (b:Nat)(vf:Value)(g:LX)(at':Int):Res:=blk b 173 [vf, .int .i64 g.1, .int .i64 g.2, .int .i64 at']
theorem Oo {c:Int}{g:LX}{b:Nat}(hc0:is=true→c≠0)(hS:St cx w L)(hi:nth L i=some (MO b vf g at')):
 Kf Tryz.prog yu [.pointer (some ⟨b,0,none⟩), .bool is, .int .i64 c] w fun u w'=>u= .tuple #[]∧St cx w' (L.set i (MO b vf (KR g (K2 (if is=true then c else 0) at')) at')):=by
 have hS:=hS.out hi
 cases is with
 | false=>
   have e:KR g (K2 (if false=true then c else 0) at')=g:=fX rfl;rw [e];refine Kq Ko Tryz.func103 ?_;refine' Lc;refine' PO;refine' XV;refine' Ll
   all_goals
    first
    | (refine' Ki;all_goals (refine' MZ;refine' P8;refine M9 [_,_] ?_;refine' Lh;refine Kt hS ?_;intro w1 hS;have hS:=hS.ns);all_goals refine' zn)
    | (refine' Kk;refine' Kx)
   refine' LJ;exact BF
 | true=>
   have hc0:=hc0 rfl;by_cases h0:g.1=0
   · have e:KR g (K2 (if true=true then c else 0) at')=(c,at'):=(by rw [if_pos rfl,P9 hc0];unfold KR;rw [if_pos ⟨h0,hc0⟩]);rw [e];refine Kq Ko Tryz.func103 ?_;refine' KP;refine' Lv;refine' PK;refine' MT;refine' Rn;(first|refine' Kj|(refine' Kl;refine' Ql));refine' Oy;refine' OY;refine' MZ;refine' P8;refine M9 [_,_] ?_;refine' Lh;(first|(refine Kt hS ?_;intro w1 hS;have hS:=hS.ns)|(refine iJ hS ?_;intro w1 hS;have hS:=hS.ns));refine' OW;exact BF
   · rw [OB h0];refine Kq Ko Tryz.func103 ?_;refine' KP;refine' Lv;refine' PK;refine' MT;refine' Rn;refine' nV;refine' Oy;refine' Pn;refine' LJ;exact BF
theorem UM {s:List UInt8}{c:Nat}{v:Value}(hK:fL.sl cx v s)(hS:St cx w L):Kf Tryz.prog Q4Q [v, .int .u8 c] w fun u w'=>∃r:Int,u= .int .i64 r∧(0≤r↔(s.any fun b=>decide (b.toNat=c))=true)∧St cx w' L:=by
 have hlen:=hK.len;refine Kq Ko Tryz.func265 ?_;refine' Mq;refine' Oh;refine MB hS [0,1,7] (fun A LL ρ' w'=>∃(j:Nat),Kn ρ' A∧Kn ρ' [(8, .int .i64 j)]∧(j≤s.length)∧((s.any fun b=>decide (b.toNat=c))=((s.drop j).any fun b=>decide (b.toNat=c)))∧St cx w' (LL)) (fun ρ' _=>(s.length - iv (ρ' 8)).toNat) ?_ ?_
 · exact Ay
 rintro ρ w1 ⟨j,hA,hρ,hj,hd,hS⟩;obtain ⟨ρ,rfl⟩:=Kp hA hρ;refine' MH;refine' Ab<;>intro hc
 · skip
   (refine' L4;refine' Nz;refine' Lc;refine' PM;intro b1 o1 cs1 x1 hat1 hx1 he1;(first|(obtain rfl:=QG he1)|(obtain rfl:=XM he1));refine' N0;first|(refine' Ql)|(refine' Qp)|(refine' Ac<;>intro hc));all_goals (refine' zn)
   all_goals
    first
    | (refine' Ki;refine' SX;(exact CQ))
    | (refine' Kk;refine' Kx)
   refine' N1;(exact ⟨⟨j+1,zh,zh,Jo,by rw [hd,Q1 hx1,H5,decide_eq_false Jo,Ha],hS.sp⟩,Qj Jo⟩)
 · skip;refine' Pm;(first|(exact CQ)|(exact ⟨_,rfl, -1,rfl,by rw [hd,Fh Jo];simp,hS.sp⟩))
theorem Qdb {s:List UInt8}{c:Nat}{v:Value}(hK:fL.sl cx v s)(hS:St cx w L):Kf Tryz.prog z6 [v, .int .u8 c] w fun u w'=>u= .bool (s.any fun b=>decide (b.toNat=c))∧St cx w' L:=by
 (refine Kq Ko Tryz.func252 ?_;refine' LM;refine' Lc;refine' Kr (c:=UM hK hS);rintro v1 w1 ⟨r,rfl,hr,hS⟩;first|(refine' Ml)|(refine' MN)|(refine' Ag<;>intro hc));all_goals (refine' zm;refine' zn;refine' zr;refine' zf;refine ⟨_,rfl,?_,hS.sp⟩;(cases hb:(s.any fun b=>decide (b.toNat=c))<;>simp_all);done)
theorem cG {s:ByteArray}{c:Nat}(hs:s.size≤1000000)(hS:St cx w L):Kf Tryz.prog zS [.string s, .int .u8 c] w fun u w'=>u= .bool (LI s c)∧St cx w' L:=by
 have hle:=FV hS;refine Kq Ko Tryz.func214 ?_;refine' Nk;refine XN (e:=5) Jk Jk Jk hS vw ?_;intro v1 w1 hS;obtain ⟨c1,hle2,hS,hk1⟩:=Gp (r:=fL) hS (bD _) rfl (by rw [Gl];show s.size≤140737488355328;omega);refine' zm;refine' Kr (c:=Qdb hk1 hS);rintro v1 w1 ⟨rfl,hS⟩;refine' La;((exact ⟨_,rfl,rfl,Gx hS.sp hle2⟩))
theorem jh (hS:St cx w L):Kf Tryz.prog Uw [.int .i64 op] w fun u w'=>u= .string (LZ op)∧St cx w' L:=by
 by_cases hb:op<1∨14<op
 · have e:LZ op=⟨#[]⟩:=(by unfold LZ;rw [if_pos hb]);rw [e];(refine Kq Ko Tryz.func213 ?_;refine' Mq;first|(refine' KX)|(refine' K1)|(refine' Ae<;>intro hc));all_goals (refine' Lv;refine' fQ;refine' Ll;refine' Ki;refine' KQ;refine ⟨_,rfl,?_,hS.sp⟩;(rfl);done)
 · have hu:(UF.map Value.string)[op.toNat]?=some (.string (LZ op)):=by
    rcases LA (op:=op) Jo Jo with rfl|rfl|rfl|rfl|rfl|rfl|rfl|rfl|rfl|rfl|rfl|rfl|rfl|rfl<;>rfl
   generalize LZ op=s at hu ⊢;refine Kq Ko Tryz.func213 ?_;refine' Mq;refine' XU;refine' Lv;refine' iO;refine' Ll;refine' Pj;refine' Kv;refine xc (cs:=[_,_,_,_,_,_,_,_,_,_,_,_,_,_,_]) vw vw vw vw vw vw vw vw vw vw vw vw vw vw vw Jr ?_;refine' zm;refine bE (n:=15) (e:=9) Jk Jk Jk vw vw Jo Jo hu ?_;refine' La;(((refine ⟨_,rfl,?_,hS.sp⟩;(rfl);done)))
theorem QhZ (op:Int):(LZ op).size≤1000000:=by
 by_cases hb:op<1∨14<op
 · unfold LZ;rw [if_pos hb];decide
 · rcases LA (op:=op) Jo Jo with rfl|rfl|rfl|rfl|rfl|rfl|rfl|rfl|rfl|rfl|rfl|rfl|rfl|rfl<;>decide
theorem Yd {g:LX}{n:Nat}{x:Ins}{q:Bool}{c3:Int}(hq:q=true↔(((((((LI (LZ x.op) 97=false∧x.a≠0)∨(LI (LZ x.op) 98=false∧x.b≠0))∨(LI (LZ x.op) 99=false∧x.c≠0))∨(LI (LZ x.op) 107=false∧x.k≠0))∨(LI (LZ x.op) 110=false∧x.n≠0))∨(LI (LZ x.op) 103=false∧0<x.regs.length))∨(LI (LZ x.op) 114=false∧0<x.args.length)))(h3:c3=Oj n x):
 KR (KR (KR g (K2 (if x.op<1∨14<x.op then 3 else 0) at')) (K2 (if q=true then 4 else 0) at')) (K2 c3 at')=KR g (K2 (Qx n x) at'):=by
 rw [O1,O1];congr 2;subst h3;unfold Qx;by_cases hb:x.op<1∨14<x.op
 · rw [if_pos hb,if_pos hb];rfl
 · rw [if_neg hb,if_neg hb]
   obtain ⟨h1,h2,h3,h4,h5,h6,h7⟩:=UG x.op hb;rw [h1,h2,h3,h4,h5,h6,h7] at hq;simp only [or_assoc] at hq;by_cases ho:x.odd
   · rw [if_pos ho,if_pos (hq.2 ho)];rfl
   · rw [if_neg ho,if_neg fun h=>ho (hq.1 h)];rfl
theorem PW {a b:Int}(h:a≠0):Sw a b=a:=if_pos h
theorem Pr (b:Int):Sw 0 b=b:=rfl
section
attribute [local irreducible] KR K2 Sw Oj Qx Nd Nl
set_option maxHeartbeats 1000000 in
theorem Z7 {x :Ins}{n:List Fun}{g:LX}{b:Nat}(hx:Lb.at cx cs x)(hf:KD.sl cx vf n)(hS:St cx w L)(hi:nth L i=some (MO b vf g at')):
 Kf Tryz.prog yZ [.pointer (some ⟨b,0,none⟩), .agg ⟨cs⟩] w fun u w'=>u= .tuple #[]∧St cx w' (L.set i (MO b vf (KR g (K2 (Qx n.length x) at')) at')):=by
 have hS:=hS.out hi;obtain ⟨vr,va,rfl,hr,ha⟩:=Nx hx;have hlr:=hr.len;have hla:=ha.len;have hln:=hf.len;have hsz:=QhZ x.op;refine Kq Ko Tryz.func164 ?_;refine' KY;intro p3 w1 hS;refine' zn;refine zM [0,3] (fun A ρ' w'=>Kn ρ' A∧Kn ρ' []∧St cx w' (blk p3 84 [.int .i64 x.op, .int .i64 x.a, .int .i64 x.b, .int .i64 x.c, .int .i64 x.k, .int .i64 x.n,vr,va]::MO b vf (KR g (K2 (if x.op<1∨14<x.op then 3 else 0) at')) at'::L.eraseIdx i)) ?_ ?_
 · skip;(refine' NP;first|(refine' KX)|(refine' K1)|(refine' Ae<;>intro hc));all_goals (refine' Md;first|refine' Kj|(refine' Kl;(first|(refine' QV)|(refine' QW)|(refine' Af<;>intro hc))));all_goals (refine' Lu;refine' Lg (c:=Oo Dj hS fd);rintro v1 w1 ⟨rfl,hS⟩;simp only [Fi,Fo,if_true,Fs,if_false] at hS;refine' zn;exact AY)
 rintro ρ w1 ⟨hA,hρ,hS⟩;obtain ⟨ρ,rfl⟩:=Kp hA hρ;refine' Mn;refine' KE (c:=jh hS);rintro v1 w1 ⟨rfl,hS⟩;refine' KA;generalize hh:LZ x.op=h at*;refine' Kv;refine PF hS 9 [0,3,4] (fun A LL ρ' w'=>∃(q1:Bool),Kn ρ' A∧Kn ρ' [(18, .pointer (some ⟨b,0,none⟩)),(26, .bool q1)]∧(q1=true↔(LI h 97=false∧x.a≠0))∧St cx w' (LL)) ?_ ?_
 · skip;refine' MV;refine' Kr (c:=cG hsz hS);rintro v1 w1 ⟨rfl,hS⟩;cases ha1:LI h 97;all_goals (refine' PC;refine' Md;first|refine' Kj|(refine' Kl;(first|(refine' QO)|(refine' QU)|(refine' Ad<;>intro hc))));all_goals (refine' lI;first|(exact BY)|(exact Cn))
 rintro ρ w1 ⟨q1,hA,hρ,hq1,hS⟩;obtain ⟨ρ,rfl⟩:=Kp hA hρ;refine PF hS 10 [0,3,4,18] (fun A LL ρ' w'=>∃(q2:Bool),Kn ρ' A∧Kn ρ' [(36, .bool q2)]∧(q2=true↔((LI h 97=false∧x.a≠0)∨(LI h 98=false∧x.b≠0)))∧St cx w' (LL)) ?_ ?_
 · skip;cases q1;all_goals (refine' Lv;(first|refine' Kj|(refine' Kl;refine' Kr (c:=cG hsz hS);rintro v1 w1 ⟨rfl,hS⟩));cases ha2:LI h 98);all_goals (refine' S3;first|refine' Kj|(refine' Kl;(first|(refine' QO)|(refine' QU)|(refine' Ad<;>intro hc))));all_goals (refine' RN;first|(exact C6)|(exact AE)|(exact Cf))
 rintro ρ w1 ⟨q2,hA,hρ,hq2,hS⟩;obtain ⟨ρ,rfl⟩:=Kp hA hρ;refine PF hS 10 [0,3,4,18] (fun A LL ρ' w'=>∃(q3:Bool),Kn ρ' A∧Kn ρ' [(46, .bool q3)]∧(q3=true↔(((LI h 97=false∧x.a≠0)∨(LI h 98=false∧x.b≠0))∨(LI h 99=false∧x.c≠0)))∧St cx w' (LL)) ?_ ?_
 · skip;cases q2;all_goals (refine' Lv;(first|refine' Kj|(refine' Kl;refine' Kr (c:=cG hsz hS);rintro v1 w1 ⟨rfl,hS⟩));cases ha3:LI h 99);all_goals (refine' S3;first|refine' Kj|(refine' Kl;(first|(refine' QO)|(refine' QU)|(refine' Ad<;>intro hc))));all_goals (refine' RN;first|(exact Cr)|(exact AE)|(exact Ch))
 rintro ρ w1 ⟨q3,hA,hρ,hq3,hS⟩;obtain ⟨ρ,rfl⟩:=Kp hA hρ;refine PF hS 10 [0,3,4,18] (fun A LL ρ' w'=>∃(q4:Bool),Kn ρ' A∧Kn ρ' [(56, .bool q4)]∧(q4=true↔((((LI h 97=false∧x.a≠0)∨(LI h 98=false∧x.b≠0))∨(LI h 99=false∧x.c≠0))∨(LI h 107=false∧x.k≠0)))∧St cx w' (LL)) ?_ ?_
 · skip;cases q3;all_goals (refine' Lv;(first|refine' Kj|(refine' Kl;refine' Kr (c:=cG hsz hS);rintro v1 w1 ⟨rfl,hS⟩));cases ha4:LI h 107);all_goals (refine' S3;first|refine' Kj|(refine' Kl;(first|(refine' QO)|(refine' QU)|(refine' Ad<;>intro hc))));all_goals (refine' RN;first|(exact Cz)|(exact AE)|(exact B1))
 rintro ρ w1 ⟨q4,hA,hρ,hq4,hS⟩;obtain ⟨ρ,rfl⟩:=Kp hA hρ;refine PF hS 10 [0,3,4,18] (fun A LL ρ' w'=>∃(q5:Bool),Kn ρ' A∧Kn ρ' [(66, .bool q5)]∧(q5=true↔(((((LI h 97=false∧x.a≠0)∨(LI h 98=false∧x.b≠0))∨(LI h 99=false∧x.c≠0))∨(LI h 107=false∧x.k≠0))∨(LI h 110=false∧x.n≠0)))∧St cx w' (LL)) ?_ ?_
 · skip;cases q4;all_goals (refine' Lv;(first|refine' Kj|(refine' Kl;refine' Kr (c:=cG hsz hS);rintro v1 w1 ⟨rfl,hS⟩));cases ha5:LI h 110);all_goals (refine' S3;first|refine' Kj|(refine' Kl;(first|(refine' QO)|(refine' QU)|(refine' Ad<;>intro hc))));all_goals (refine' RN;first|(exact CA)|(exact AE)|(exact CV))
 rintro ρ w1 ⟨q5,hA,hρ,hq5,hS⟩;obtain ⟨ρ,rfl⟩:=Kp hA hρ;refine PF hS 11 [0,3,4,18] (fun A LL ρ' w'=>∃(q6:Bool),Kn ρ' A∧Kn ρ' [(77, .bool q6)]∧(q6=true↔((((((LI h 97=false∧x.a≠0)∨(LI h 98=false∧x.b≠0))∨(LI h 99=false∧x.c≠0))∨(LI h 107=false∧x.k≠0))∨(LI h 110=false∧x.n≠0))∨(LI h 103=false∧0<x.regs.length)))∧St cx w' (LL)) ?_ ?_
 · skip;cases q5;all_goals (refine' Lv;(first|refine' Kj|(refine' Kl;refine' Kr (c:=cG hsz hS);rintro v1 w1 ⟨rfl,hS⟩));cases ha6:LI h 103);all_goals (refine' S3;refine' NM;first|refine' Kj|(refine' Kl;(first|(refine' QV)|(refine' QW)|(refine' Af<;>intro hc))));all_goals (refine' RN;first|(exact CP)|(exact AE)|(exact CT))
 rintro ρ w1 ⟨q6,hA,hρ,hq6,hS⟩;obtain ⟨ρ,rfl⟩:=Kp hA hρ;refine PF hS 11 [0,3,18] (fun A LL ρ' w'=>∃(q7:Bool),Kn ρ' A∧Kn ρ' [(88, .bool q7)]∧(q7=true↔(((((((LI h 97=false∧x.a≠0)∨(LI h 98=false∧x.b≠0))∨(LI h 99=false∧x.c≠0))∨(LI h 107=false∧x.k≠0))∨(LI h 110=false∧x.n≠0))∨(LI h 103=false∧0<x.regs.length))∨(LI h 114=false∧0<x.args.length)))∧St cx w' (LL)) ?_ ?_
 · skip;cases q6;all_goals (refine' Lv;(first|refine' Kj|(refine' Kl;refine' Kr (c:=cG hsz hS);rintro v1 w1 ⟨rfl,hS⟩));cases ha7:LI h 114);all_goals (refine' S3;refine' NM;first|refine' Kj|(refine' Kl;(first|(refine' QV)|(refine' QW)|(refine' Af<;>intro hc))));all_goals (refine' RN;first|(exact ⟨_,zh,zh,by exact ⟨fun _=> .inl (hq6.1 rfl),fun _=>rfl⟩,hS.sp⟩)|(exact AE)|(exact ⟨_,zh,zh,by exact ⟨fun h=>Bool.noConfusion h,fun h=>h.elim (fun h=>hq6.2 h) (fun h=>by obtain ⟨h1,h2⟩:=h;first|(exfalso;omega)|(simp_all;done))⟩,hS.sp⟩))
 (rintro ρ w1 ⟨q7,hA,hρ,hq7,hS⟩;obtain ⟨ρ,rfl⟩:=Kp hA hρ;refine' Lg (c:=Oo Dj hS fd);rintro v1 w1 ⟨rfl,hS⟩;simp only [Fi,Fo,if_true,Fs,if_false] at hS;refine' L5;clear hq1 hq2 hq3 hq4 hq5 hq6;have hq:=hq7;clear hq7;refine' Uc;refine' SZ;refine' Kv;first|(refine' Ql)|(refine' Qp)|(refine' Ac<;>intro hc));all_goals (refine' KA)
 all_goals
  first
  | (refine' Ki;(refine' NP;first|(refine' KX)|(refine' K1)|(refine' Ae<;>intro hc));all_goals (refine' Md;first|refine' Kj|(refine' Kl;(first|(refine' QV)|(refine' QW)|(refine' Af<;>intro hc))));all_goals (refine' Lu;refine' Lg (c:=Oo Dj hS fd);rintro v1 w1 ⟨rfl,hS⟩;simp only [Fi,Fo,if_true,Fs,if_false] at hS);all_goals refine' zn)
  | (refine' Kk
     (refine' Kv;first|(refine' Ql)|(refine' Qp)|(refine' Ac<;>intro hc));all_goals (refine' KA)
     all_goals
      first
      | (refine' Ki;(refine' NP;refine' zL;first|(refine' QV)|(refine' QW)|(refine' Af<;>intro hc));all_goals (refine' Lg (c:=Oo Dj hS fd);rintro v1 w1 ⟨rfl,hS⟩;simp only [Fi,Fo,if_true,Fs,if_false] at hS);all_goals refine' zn)
      | (refine' Kk
         (refine QA ?_;refine' Kv;first|(refine' Ql)|(refine' Qp)|(refine' Ac<;>intro hc));all_goals (refine' KA)
         all_goals
          first
          | (refine' Ki;refine' Kx)
          | (refine' Kk;(refine' LS;first|(refine' Ql)|(refine' Qp)|(refine' Ac<;>intro hc));all_goals (refine' zm);all_goals refine' zn)
         all_goals
          first
          | (refine' Ki;all_goals (refine' NP;first|(refine' KX)|(refine' K1)|(refine' Ae<;>intro hc));all_goals (refine' Md;first|refine' Kj|(refine' Kl;(first|(refine' Ml)|(refine' MN)|(refine' Ag<;>intro hc))));all_goals (refine' Lu;refine' Lg (c:=Oo Dj hS fd);rintro v1 w1 ⟨rfl,hS⟩;simp only [Fi,Fo,if_true,Fs,if_false] at hS);all_goals refine' zn)
          | (refine' Kk
             (refine' Kv;first|(refine' Ql)|(refine' Qp)|(refine' Ac<;>intro hc));all_goals (refine' KA)
             all_goals
              first
              | (refine' Ki;(refine QA ?_;refine zD (ci 16 [15]) ?_;have hS:=hS.drew;refine' zm;refine' KZ;first|(refine' KX)|(refine' K1)|(refine' Ae<;>intro hc));all_goals (refine' Md;refine' Mc;refine' PK;refine' PH;refine' NM;first|refine' Kj|(refine' Kl;(first|(refine' Ml)|(refine' MN)|(refine' Ag<;>intro hc))));all_goals (refine' Lu;refine' Lg (c:=Oo Dj hS fd);rintro v1 w1 ⟨rfl,hS⟩;simp only [Fi,Fo,if_true,Fs,if_false] at hS;refine' zn;refine' NP;refine' zL;first|(refine' QV)|(refine' QW)|(refine' Af<;>intro hc));all_goals (refine' RM;first|refine' Kj|(refine' Kl;(first|(refine' QV)|(refine' QW)|(refine' Af<;>intro hc))));all_goals (refine' Lu;refine' Lg (c:=Oo Dj hS fd);rintro v1 w1 ⟨rfl,hS⟩;simp only [Fi,Fo,if_true,Fs,if_false] at hS);all_goals refine' zn)
              | (refine' Kk;refine' Kx))))
 all_goals (refine' LJ; refine ⟨_, rfl, rfl, ?_⟩; subst hh; rw [← Yd (c3 := Oj n.length x) hq rfl]; clear hq hx hr ha hf hsz; have hS := hS.drop; refine Gn ?_ hi; first | (rw [show Oj n.length x = 0 from D8]; first | (rw [ME, fX rfl]; exact hS) | exact hS | (rw [O1, Pr] at hS; exact hS)) | (rw [show Oj n.length x = 1 from D8]; first | exact hS | (rw [O1, PW Jd] at hS; exact hS)) | (rw [show Oj n.length x = 2 from D8]; first | exact hS | (rw [O1, Pr] at hS; exact hS)) | (trace_state; fail "end"))
theorem ji {t:To}{g:LX}{b:Nat}(hx:KD.at cx cs x)(ht:toR.at cx ds t)(hS:St cx w L)(hi:nth L i=some (MO b vf g at')):
 Kf Tryz.prog zT [.pointer (some ⟨b,0,none⟩), .agg ⟨cs⟩, .agg ⟨ds⟩, .bool is] w fun u w'=>u= .tuple #[]∧St cx w' (L.set i (MO b vf (KR g (K2 (Nd x.blocks.length t is) at')) at')):=by
 have hS:=hS.out hi;obtain ⟨vp,vr,vb,rfl,hp,hr,hb⟩:=QH hx;obtain ⟨v1,v2,rfl,h1,h2⟩:=ZU ht;have hlb:=hb.len;have hl1:=h1.len;have hl2:=h2.len
 cases is with
 | false=>
   (((refine Kq Ko Tryz.func215 ?_;refine' KY;intro p5 w1 hS;refine zb hS ?_;intro p6 w1 hS;refine' zn;refine' Na;refine' Nv;refine' Ki;refine' KP;refine' KZ;first|(refine' QO)|(refine' QU)|(refine' Ad<;>intro hc));all_goals (refine' RM;first|refine' Kj|(refine' Kl;(first|(refine' QV)|(refine' QW)|(refine' Af<;>intro hc)))));all_goals (refine' Lu;refine' RM;first|refine' Kj|(refine' Kl;(first|(refine' QV)|(refine' QW)|(refine' Af<;>intro hc)))));all_goals (refine' Lu;refine' Lg (c:=Oo Dj hS fd);rintro v1 w1 ⟨rfl,hS⟩;simp only [Fi,Fo,if_true,Fs,if_false] at hS;refine' Lz;refine' gK;refine ⟨_,rfl,rfl,?_⟩;have hS:=hS.drop.drop;refine Gn ?_ hi;first|(rw [show Nd x.blocks.length t false=4 from (by unfold Nd;rw [if_pos rfl,if_pos Jo])];exact hS)|(rw [show Nd x.blocks.length t false=0 from (by unfold Nd;rw [if_pos rfl,if_neg Jo])];exact hS))
 | true=>
   ((((refine Kq Ko Tryz.func215 ?_;refine' KY;intro p5 w1 hS;refine zb hS ?_;intro p6 w1 hS;refine' zn;refine' Na;refine' Nv;refine' Pj;refine' KP;refine' KZ;first|(refine' KX)|(refine' K1)|(refine' Ae<;>intro hc));all_goals (refine' S2;refine' NM;first|refine' Kj|(refine' Kl;(first|(refine' Ml)|(refine' MN)|(refine' Ag<;>intro hc)))));all_goals (refine' Lu;refine' Lg (c:=Oo Dj hS fd);rintro v1 w1 ⟨rfl,hS⟩;simp only [Fi,Fo,if_true,Fs,if_false] at hS;refine' zn;refine' NP;refine' zL;first|(refine' QV)|(refine' QW)|(refine' Af<;>intro hc)));all_goals (refine' RM;first|refine' Kj|(refine' Kl;(first|(refine' QV)|(refine' QW)|(refine' Af<;>intro hc)))));all_goals (refine' Lu;refine' Lg (c:=Oo Dj hS fd);rintro v1 w1 ⟨rfl,hS⟩;simp only [Fi,Fo,if_true,Fs,if_false] at hS;refine' OW;refine ⟨_,rfl,rfl,?_⟩;have hS:=hS.drop.drop;rw [O1] at hS;refine Gn ?_ hi;first|(rw [show Nd x.blocks.length t true=1 from (by unfold Nd;rw [if_neg Bool.noConfusion,if_pos Jo])];rw [PW Jd] at hS;exact hS)|(rw [show Nd x.blocks.length t true=2 from (by unfold Nd;rw [if_neg Bool.noConfusion,if_neg Jo,if_pos Jo])];rw [Pr] at hS;exact hS)|(rw [show Nd x.blocks.length t true=0 from (by unfold Nd;rw [if_neg Bool.noConfusion,if_neg Jo,if_neg Jo])];rw [Pr] at hS;exact hS))
theorem Ye {g:LX}{n:Nat}:KR (KR (KR (KR (KR g (K2 (if e.op<1∨3<e.op then 3 else 0) at')) (K2 (if e.op≠2∧e.a≠0∨e.op≠3∧0<e.args.length then 4 else 0) at')) (K2 (if 8<e.args.length then 2 else 0) at')) (K2 (Nd n e.yes (decide (e.op≠3))) at')) (K2 (Nd n e.no (decide (e.op=2))) at')=KR g (K2 (Nl n e) at'):=by
 rw [O1,O1,O1,O1];congr 2;unfold Nl;split
 · simp only [PW (show (3:Int)≠0 by decide)]
 · rw [Pr]
   split
   · simp only [PW (show (4:Int)≠0 by decide)]
   · rw [Pr]
     split
     · simp only [PW (show (2:Int)≠0 by decide)]
     · rw [Pr]
theorem Z8 {g:LX}{b:Nat}(hx:KD.at cx cs x)(he:Lo.at cx ds e)(hS:St cx w L)(hi:nth L i=some (MO b vf g at')):
 Kf Tryz.prog zd [.pointer (some ⟨b,0,none⟩), .agg ⟨cs⟩, .agg ⟨ds⟩] w fun u w'=>u= .tuple #[]∧St cx w' (L.set i (MO b vf (KR g (K2 (Nl x.blocks.length e) at')) at')):=by
 have hS:=hS.out hi;obtain ⟨vp,vr,vb,rfl,hp,hr,hb⟩:=QH hx;obtain ⟨v1,v2,v3,v4,v5,rfl,h1,h2,h3,h4,h5⟩:=Rj he;have hl5:=h5.len;refine Kq Ko Tryz.func165 ?_;refine' KY;intro p4 w1 hS;refine zb hS ?_;intro p5 w1 hS;refine' zn;refine zM [0,4,5] (fun A ρ' w'=>Kn ρ' A∧Kn ρ' []∧St cx w' (blk p5 90 [.int .i64 e.op, .int .i64 e.a, .int .i64 e.yes.block,v1,v2, .int .i64 e.no.block,v3,v4,v5]::blk p4 95 [.int .i64 x.regs,vp,vr,vb]::MO b vf (KR g (K2 (if e.op<1∨3<e.op then 3 else 0) at')) at'::L.eraseIdx i)) ?_ ?_
 · skip;(refine' NP;first|(refine' KX)|(refine' K1)|(refine' Ae<;>intro hc));all_goals (refine' Md;first|refine' Kj|(refine' Kl;(first|(refine' QV)|(refine' QW)|(refine' Af<;>intro hc))));all_goals (refine' Lu;refine' Lg (c:=Oo Dj hS fd);rintro v1 w1 ⟨rfl,hS⟩;simp only [Fi,Fo,if_true,Fs,if_false] at hS;refine' zn;exact AY)
 rintro ρ w1 ⟨hA,hρ,hS⟩;obtain ⟨ρ,rfl⟩:=Kp hA hρ;refine zM [0,4,5] (fun A ρ' w'=>Kn ρ' A∧Kn ρ' []∧St cx w' (blk p5 90 [.int .i64 e.op, .int .i64 e.a, .int .i64 e.yes.block,v1,v2, .int .i64 e.no.block,v3,v4,v5]::blk p4 95 [.int .i64 x.regs,vp,vr,vb]::MO b vf (KR (KR g (K2 (if e.op<1∨3<e.op then 3 else 0) at')) (K2 (if e.op≠2∧e.a≠0∨e.op≠3∧0<e.args.length then 4 else 0) at')) at'::L.eraseIdx i)) ?_ ?_
 · skip;(refine' NP;first|(refine' QO)|(refine' QU)|(refine' Ad<;>intro hc));all_goals (refine' Md;first|refine' Kj|(refine' Kl;(first|(refine' QO)|(refine' QU)|(refine' Ad<;>intro hc))));all_goals (refine' Lu;refine' Md;first|refine' Kj|(refine' Kl;(first|(refine' QO)|(refine' QU)|(refine' Ad<;>intro hc))));all_goals (refine' XX;refine' NM;first|refine' Kj|(refine' Kl;(first|(refine' QV)|(refine' QW)|(refine' Af<;>intro hc))));all_goals (refine' Z1;refine' Lu;refine' Lg (c:=Oo Dj hS fd);rintro v1 w1 ⟨rfl,hS⟩;simp only [Fi,Fo,if_true,Fs,if_false] at hS;refine' zn;exact ⟨zh,zh,by first|(rw [if_pos (c:=e.op≠2∧e.a≠0∨e.op≠3∧0<e.args.length) Jo];exact hS.sp)|(rw [if_neg (c:=e.op≠2∧e.a≠0∨e.op≠3∧0<e.args.length) Jo];exact hS.sp)⟩)
 rintro ρ w1 ⟨hA,hρ,hS⟩;obtain ⟨ρ,rfl⟩:=Kp hA hρ;refine zM [0,4,5] (fun A ρ' w'=>Kn ρ' A∧Kn ρ' []∧St cx w' (blk p5 90 [.int .i64 e.op, .int .i64 e.a, .int .i64 e.yes.block,v1,v2, .int .i64 e.no.block,v3,v4,v5]::blk p4 95 [.int .i64 x.regs,vp,vr,vb]::MO b vf (KR (KR (KR g (K2 (if e.op<1∨3<e.op then 3 else 0) at')) (K2 (if e.op≠2∧e.a≠0∨e.op≠3∧0<e.args.length then 4 else 0) at')) (K2 (if 8<e.args.length then 2 else 0) at')) at'::L.eraseIdx i)) ?_ ?_
 · skip;(refine' NP;refine' zL;first|(refine' QV)|(refine' QW)|(refine' Af<;>intro hc));all_goals (refine' Lg (c:=Oo Dj hS fd);rintro v1 w1 ⟨rfl,hS⟩;simp only [Fi,Fo,if_true,Fs,if_false] at hS;refine' zn;exact ⟨zh,zh,by first|(rw [if_pos (c:=8<e.args.length) Jo];exact hS.sp)|(rw [if_neg (c:=8<e.args.length) Jo];exact hS.sp)⟩)
 rintro ρ w1 ⟨hA,hρ,hS⟩;obtain ⟨ρ,rfl⟩:=Kp hA hρ;refine' KP;refine zv hS ?_;refine' OV;refine' KZ;refine Xn rfl rfl ?_;refine' Ny (c:=ji (t:=e.yes) hx ⟨_,_,rfl,h1,h2⟩ hS fd);rintro v1 w1 ⟨rfl,hS⟩;have hS:=hS.ns;refine' Ss;refine' OV;refine' KZ;refine hZ rfl rfl ?_;refine' Ny (c:=ji (t:=e.no) hx ⟨_,_,rfl,h3,h4⟩ hS fd);rintro v1 w1 ⟨rfl,hS⟩;have hS:=hS.ns;refine' OW;refine ⟨_,rfl,rfl,?_⟩;rw [Ye] at hS;exact Gn hS.drop.drop hi
end
end
section
structure RFV where
 f:Nat
 b:Nat
 i:Nat
 vv:Value
 vals:List Int
def RFV.abs (x:RFV):RFrm:=⟨x.f,x.b,x.i,x.vals⟩
def RFV.cells (x:RFV):List Value:=[.int .i64 x.f, .int .i64 x.b, .int .i64 x.i,x.vv]
def RFV.res (x:RFV):Res:=sl 2 1 x.vv (x.vals.map Qr)
structure RC where
 ep:Value
 fn:Value
 lv:Value
 iv:Value
 e:Int
 bv:Value
 ov:Value
 fu:Int
 mo:Int
 dn:Bool
@[reducible] def RC.cells (x:RC):List Value:=[x.ep,x.fn,x.lv,x.iv, .int .i64 x.e,x.bv,x.ov, .int .i64 x.fu, .int .i64 x.mo, .bool x.dn]
@[reducible] def N4 (fr:List RFV)(g:RFV):List (List Value):=fr.map RFV.cells++[g.cells]
theorem Qc (fr:List RFV)(g:RFV):(N4 fr g).length=fr.length+1:=by simp
theorem Qg (fr:List RFV)(g:RFV):(N4 fr g)[fr.length]?=some g.cells:=by
 rw [Ff Js];simp
theorem tr {fr:List RFV}{g g':RFV}(h:g.cells.set j u=g'.cells):(N4 fr g).set fr.length (g.cells.set j u)=N4 fr g':=by
 rw [h];unfold N4;rw [GC _ _ Js];simp
@[reducible] def rL (p:Nat)(c:RC)(fr:List RFV)(g:RFV)(L:List Res):List Res:=blk p 66 c.cells::sl 138 4 c.lv (N4 fr g)::sl 2 1 g.vv (g.vals.map Qr)::K3 RFV.res fr::L
@[reducible] def W0 (e:Int):Value:= .iface 139 (.int .i64 e)
variable {cx:Cx}{w:World}{L:List Res}{p:Nat}{c:RC}{fr:List RFV}{g:RFV}
theorem Yf {e:Int}(hS:St cx w L):Kf Tryz.prog sL [.bool false, .int .i64 e] w fun u w'=>u= .tuple #[]∧St cx w' L:=by
 refine Kq Ko Tryz.func81 ?_;refine' LM;refine' Pj;refine' LJ;exact Az
theorem Yg {e:Int}(hS:St cx w L):Ky Tryz.prog sL [.bool true, .int .i64 e] w (fun _ _=>False) (fun u w'=>u=W0 e∧St cx w' L):=by
 unfold Ky;refine Kq Ko Tryz.func81 ?_;refine' LM;refine' Ki;refine' LV;refine' lA;refine lq rfl ?_;(repeat (refine' fS));refine' Qe;exact A5
theorem W1 (hf:fr.length≤1000)(hS:St cx w (rL p c fr g L)):Kf Tryz.prog yg [.pointer (some ⟨p,0,none⟩)] w fun u w'=>∃b o,u= .pointer (some ⟨b,o,none⟩)∧Nw c.lv (fr.length+1) 4 fr.length b o∧St cx w' (rL p c fr g L):=by
 refine Kq Ko Tryz.func82 ?_;refine' LM;refine QA ?_;refine zD (ci 12 [11]) ?_;have hS:=hS.drew;refine' P8;refine' P8;((refine QL hS vw fd (Qc fr g) ?_));refine' PD;rw [show ((fr.length+1:Nat):Int) - 1=fr.length by omega];((refine RI hS vw rfl fd D2 ?_;rw [Qc];intro b1 o1 hel));refine' La;((exact ⟨_,rfl,b1,o1,rfl,hel,hS.sp⟩))
theorem RFrm.val_in {g:RFrm}{k v:Int}(h:g.val k=some v):0≤k∧k.toNat<g.vals.length∧g.vals[k.toNat]?=some v:=by
 unfold RFrm.val at h;by_cases h0:k<0
 · rw [if_pos h0] at h;cases h
 · rw [if_neg h0] at h;exact ⟨Jo,(E8.mp h).1,h⟩
theorem Ps {k v:Int}(hf:fr.length≤1000)(hS:St cx w (rL p c fr g L))(hg:g.abs.val k=some v):Kf Tryz.prog yJ [.pointer (some ⟨p,0,none⟩), .int .i64 k] w fun u w'=>u= .int .i64 v∧St cx w' (rL p c fr g L):=by
 obtain ⟨h0,hl,hv⟩:=RFrm.val_in hg;refine Kq Ko Tryz.func135 ?_;refine' Nk;refine' KE (c:=W1 hf hS);rintro v1 w1 ⟨b1,o1,rfl,hel,hS⟩;refine' MY;((refine Q9 hS hel rfl fd (Qc fr g) (Qg fr g) rfl ?_));refine' zm;((refine P5 hS vw rfl fd Jo (by rw [Fb];show k<(g.vals.length:Int);have:k.toNat<g.vals.length:=hl;omega) ?_;rw [Fb];intro b2 o2 hel2));refine QF hS hel2 rfl fd (Fb _) (show (g.vals.map Qr)[k.toNat]?=some (Qr v) by rw [Fy];rw [show g.vals[k.toNat]?=some v from hv];rfl) rfl ?_;refine' La;((exact Az))
end
end Go.Proofs.YteflkifmgnpbhaaGreat
namespace Go.Proofs.YteflkifmgnpbhaaGreat
open Go.Lir
theorem QfD {g:RFrm}{k v:Int}(hd:g.args l=(g.args (l.drop q)).map fun r=>out++r)(hx:l[q]?=some k)(hv:g.val k=some v):g.args l=(g.args (l.drop (q+1))).map fun r=>(out++[v])++r:=by
 rw [hd,Q1 hx,RFrm.args,hv]
 cases g.args (l.drop (q+1)) with
 | none=>rfl
 | some r=>simp
theorem Qhj {g:RFrm}(hd:g.args l=(g.args (l.drop q)).map fun r=>out++r)(hq:l.length≤q):g.args l=some out:=by
 rw [hd,Fh hq,RFrm.args];simp
theorem Yh {g:RFrm}:g.args l=(g.args (l.drop 0)).map fun r=>[]++r:=by
 rw [F9];cases g.args l<;>rfl
theorem tt {g:RFrm}{k:Int}:∀{l:List Int}{vs:List Int},g.args l=some vs→∀{q:Nat},l[q]?=some k→∃v,g.val k=some v
 | [],_,_,_,h=>by simp at h
 | a ::l,vs,h,q,hq=>by
   rw [RFrm.args] at h
   cases ha:g.val a with
   | none=>rw [ha] at h;cases h
   | some v=>
     rw [ha] at h
     cases hl:g.args l with
     | none=>rw [hl] at h;cases h
     | some r=>
       cases q with
       | zero=>simp at hq;subst hq;exact ⟨v,ha⟩
       | succ q=>exact tt hl (q:=q) (by simpa using hq)
end Go.Proofs.YteflkifmgnpbhaaGreat
namespace Go.Proofs.YteflkifmgnpbhaaGreat
open Go.Lir
attribute [local irreducible] LC.wp Q0 Qs Qi KN QD LO.wp Q7 Calls
section
variable {cx:Cx}{w:World}{L:List Res}{p:Nat}{c:RC}{fr:List RFV}{g:RFV}
attribute [local irreducible] RFrm.val RFrm.args
theorem Q9p (l:List Int):∀c∈l.map Qr,∀u∈c,oneC u=true:=by
 intro c hc u hu;obtain ⟨v,_,rfl⟩:=FU.1 hc;simp [Qr] at hu;rcases hu with rfl;rfl
def RFV.push (g:RFV)(tv:Value)(vs:List Int):RFV:=⟨g.f,g.b,g.i,tv,g.vals++vs⟩
theorem W2 (hf:fr.length≤1000)(hn:g.vals.length+vs.length≤1000000)(hS:St cx w (rL p c fr g L))(hj:nth L j=some (sl 2 1 v2 (vs.map Qr))):
 Kf Tryz.prog yI [.pointer (some ⟨p,0,none⟩),v2] w fun u w'=>∃tv,u= .tuple #[]∧St cx w' (rL p c fr (g.push tv vs) L):=by
 refine Kq Ko Tryz.func133 ?_;refine' LV;refine' KE (c:=W1 hf hS);rintro v1 w1 ⟨b1,o1,rfl,hel1,hS⟩;refine' zm;refine' KE (c:=W1 hf hS);rintro v2 w1 ⟨b2,o2,rfl,hel2,hS⟩;refine' MY;((refine Q9 hS hel2 rfl fd (Qc fr g) (Qg fr g) rfl ?_));refine' zm;((refine NL S7 (.inl WZ) hS vw vw (i:=2) rfl (hS.srcS (i:=j+4) hj (Q9p vs)) EZ ?_;intro v7 w7 hS;have hS:=hS.ns;have ho7:=hS.oneC (i:=2) rfl;rw [←FG] at hS));refine' MY;refine SN hS hel1 rfl vw fd (Qc fr g) (Qg fr g) Jo ho7 (tr (g':=g.push v7 vs) rfl) ?_;intro w8 hS;have hS:=hS.ns;refine' OW;exact ⟨_,rfl,v7,rfl,hS.sp⟩
theorem cH {v1:Value}(hl1:l.length≤100000)(hf:fr.length≤1000)(hl:Kh.sl cx v1 l)(hv:g.abs.args l=some vs)(hS:St cx w (rL p c fr g L)):Kf Tryz.prog yQ [.pointer (some ⟨p,0,none⟩),v1] w
 fun u w'=>vs.length=l.length∧oneC u=true∧St cx w' (rL p c fr g (sl 2 1 u (vs.map Qr)::L)):=by
 have hlen:=hl.len;refine Kq Ko Tryz.func143 ?_;refine' LM;refine' Mq;refine' Oh;have hS:St cx _ (rL p c fr g (sl 2 1 (.slice none 0 0) (([]:List Int).map Qr)::L)):=(by have hS:=hS.nil (T:=2) (es:=1);exact hS.sp);refine zo [0,8,9] (fun A ρ' w'=>∃(q:Nat) (vo:Value) (out:List Int),Kn ρ' A∧Kn ρ' [(5,vo),(10, .int .i64 q)]∧(q≤l.length)∧(out.length=q)∧(oneC vo=true)∧(g.abs.args l=(g.abs.args (l.drop q)).map fun r=>out++r)∧St cx w' (rL p c fr g (sl 2 1 vo (out.map Qr)::L))) (fun ρ' _=>(l.length - iv (ρ' 10)).toNat) ?_ ?_
 · exact ⟨0, .slice none 0 0,[],zh,zh,Jo,rfl,rfl,Yh,hS.sp⟩
 rintro ρ w1 ⟨q,vo,out,hA,hρ,hq,hol,hvo,hd,hS⟩;obtain ⟨ρ,rfl⟩:=Kp hA hρ;refine' MH;refine' Ab<;>intro hc
 · skip;refine' WW;intro b1 o1 cs1 x1 hat1 hx1 he1;obtain rfl:=QG he1;refine' N0;refine' KA;refine' MZ;refine' zm;obtain ⟨n1,hn1⟩:=tt hv hx1;refine' Kr (c:=Ps hf hS hn1);rintro v2 w2 ⟨rfl,hS⟩;refine K8 hS [_] ?_;intro b1 w1 hS;refine NL S7 (.inl WZ) hS vw vw (i:=5) rfl (hS.srcB (i:=0) rfl Jr Dl) Du ?_;intro v7 w7 hS;have hS:=hS.ns;have ho7:=hS.oneC (i:=5) rfl;refine' KA;refine' N1;(exact ⟨⟨q+1,v7,out++[n1],zh,zh,Jo,by rw [Fc,hol];rfl,ho7,QfD hd hx1 hn1,by rw [FG];exact hS.sp⟩,Qj Jo⟩)
 · skip;refine' Sn;(have e9:=Qhj hd Jo;rw [hv] at e9;cases e9;exact ⟨_,rfl,Jo,hvo,hS.sp⟩)
end
section
@[reducible] def rS (p:Nat)(c:RC)(fr:List RFV)(g:RFV)(s:EstS)(out:List Int)(L:List Res):List Res:=rL p c fr g (My c.ep s::sl 2 1 c.ov (out.map Qr)::L)
variable {cx:Cx}{w:World}{L:List Res}{p:Nat}{c:RC}{fr:List RFV}{g:RFV}{s:EstS}{out:List Int}
attribute [local irreducible] RFrm.val RFrm.args
theorem lO {b:Nat}{pp:Value}{q:PoolS}(k:Int)(hb:c.ep= .pointer (some ⟨b,0,none⟩))(hS:St cx w (rL p c fr g (blk b 73 (pp::cs)::Me pp q::L))):Kf Tryz.prog yN [.pointer (some ⟨p,0,none⟩), .int .i64 k] w fun u w'=>u= .int .i64 (q.word k)∧St cx w' (rL p c fr g (blk b 73 (pp::cs)::Me pp q::L)):=by
 obtain ⟨ep,fn,lv,iv,e,bv,ov,fu,mo,dn⟩:=c;obtain rfl:ep=_:=hb;refine Kq Ko Tryz.func139 ?_;refine' Nk;refine' Mf;refine' Mf;refine' zm;refine' Kr (c:=ck (s:=q) k hS fd);rintro v1 w1 ⟨rfl,hS⟩;refine' zm;refine' Sk;refine' zm;refine' L6;refine' La;((exact Az))
theorem UN (r n:Int)(hS:St cx w (rS p c fr g s out L)):Ky Tryz.prog zO [.pointer (some ⟨p,0,none⟩), .int .i64 r, .int .i64 n] w
 (fun u w'=>s.code r n≠14∧u= .int .i64 (s.getV r n)∧St cx w' (rS p c fr g (s.get r n) out L)) (fun u w'=>s.code r n=14∧u=W0 6∧St cx w' (rS p c fr g (s.get r n) out L)):=by
 ((unfold Ky;refine Kq Ko Tryz.func198 ?_;refine' Nk;refine' Mf;refine' MV;refine' Lg (c:=cm (e:=c.ep) (s:=s) r n hS fd);rintro v1 w1 ⟨rfl,hS⟩;have hS:=hS.ns;refine' zm;refine' Sk;refine' zm;refine' L6;first|(refine' Ql)|(refine' Qp)|(refine' Ac<;>intro hc));all_goals (first|(refine' Kr (c:=Yf hS);rintro v1 w1 ⟨rfl,hS⟩)|(refine KH (c:=Yg hS) (p:=by rintro v9 w9 ⟨rfl,hS⟩;(repeat (first|refine' Q6|refine' Q8|refine fun _=>?_));refine' Qe;refine .inr ⟨_,rfl,?_⟩;first|(exact ⟨Jo,rfl,hS.sp⟩)) (h:=fun _ _ h=>h.elim))));refine' LN;refine' La;(exact .inl ⟨_,rfl,Jo,rfl,hS.sp⟩)
end
section
variable {cx:Cx}{w:World}{L:List Res}{p:Nat}{c:RC}{fr:List RFV}{g:RFV}{s:EstS}{out:List Int}
attribute [local irreducible] RFrm.val RFrm.args EstS.get EstS.getV EstS.code EstS.word EstS.store
theorem Z9 {b:Nat}{pp:Value}{q:PoolS}{x:Ins}{a k:Int}(hb:c.ep= .pointer (some ⟨b,0,none⟩))(hx:Lb.at cx cs x)(hf:fr.length≤1000)(ha:g.abs.val x.a=some a)(hk:g.abs.val x.b=some k)(hS:St cx w (rL p c fr g (blk b 73 (pp::ds)::Me pp q::L))):Ky Tryz.prog yP [.pointer (some ⟨p,0,none⟩), .agg ⟨cs⟩] w
 (fun u w'=>¬(k<0∨q.word a≤k)∧u= .int .i64 (wr (wr (a+1)+k))∧St cx w' (rL p c fr g (blk b 73 (pp::ds)::Me pp q::L))) (fun u w'=>(k<0∨q.word a≤k)∧u=W0 2∧St cx w' (rL p c fr g (blk b 73 (pp::ds)::Me pp q::L))):=by
 (((obtain ⟨vr,va,rfl,hr,ha1⟩:=Nx hx;unfold Ky;refine Kq Ko Tryz.func142 ?_;refine' KY;intro p3 w1 hS;refine' Ms;refine zC [(0,none),(1,none),(2,none),(4,none),(5,none),(6,none),(3,some (some [6])),(7,some none),(8,none),(9,some none)] ?_;have hS:=hS.drew;refine' PI;refine' NS;refine' Kr (c:=Ps hf (show St cx _ (rL p c fr g _) from hS.sp) ha);rintro v1 w1 ⟨rfl,hS⟩;refine' Ly;(first|(refine' Kr (c:=Ps hf (show St cx _ (rL p c fr g _) from hS.sp) ha);rintro v1 w1 ⟨rfl,hS⟩)|(refine' Kr (c:=Ps hf (show St cx _ (rL p c fr g _) from hS.sp) hk);rintro v2 w2 ⟨rfl,hS⟩));refine' KO;refine' zm;refine' WU;first|(refine' KX)|(refine' K1)|(refine' Ae<;>intro hc));all_goals (refine' Sm;refine' Mc;(first|refine' Kj|(refine' Kl;refine' Kr (c:=lO (q:=q) a hb (show St cx _ (rL p c fr g (blk b 73 (pp::ds)::Me pp q::_)) from hS.sp));rintro v3 w3 ⟨rfl,hS⟩));first|refine' Kj|(refine' Kl;(first|(refine' Ml)|(refine' MN)|(refine' Ag<;>intro hc)))));all_goals (refine' Lu;first|(refine' Kr (c:=Yf hS);rintro v1 w1 ⟨rfl,hS⟩)|(refine KH (c:=Yg hS) (p:=by rintro v9 w9 ⟨rfl,hS⟩;(repeat (first|refine' Q6|refine' Q8|refine fun _=>?_));refine' Qe;refine .inr ⟨_,rfl,?_⟩;first|(exact ⟨Jo,rfl,hS.sp⟩)) (h:=fun _ _ h=>h.elim))));refine' LN;refine' iS;refine' zm;refine' iS;refine' La;(exact .inl ⟨_,rfl,Jo,rfl,hS.sp⟩)
end
section
variable {cx:Cx}{w:World}{L:List Res}{p:Nat}{c:RC}{fr:List RFV}{g:RFV}{s:EstS}{out:List Int}
theorem EstS.rok_store {s:EstS}(h:s.Ok)(k x:Int):(s.store k x).Ok:=⟨h.len,h.off,h.used,h.tk.store k x,I4 h.pok k x,by show (s.p.store k x).n≤64;rw [Hx];exact h.n64⟩
theorem EstO.rstore {e:Value}{s:EstS}{b:Nat}{rv:List RegV}(h:EstO e s b rv)(k x:Int):EstO e (s.store k x) b rv:=⟨h.he,h.hr,EstS.rok_store h.ok k x⟩
theorem lP {e:Value}{s:EstS}{b:Nat}{pp:Value}{rv:List RegV}{k x:Int}(h:EstO e s b rv)(hS:St cx w (blk b 73 (pp::LW rv)::Me pp (s.p.store k x)::K3 RegV.res rv::L)):St cx w (My e (s.store k x)::L):=PS (s:=s.store k x) (h.rstore k x) hS
attribute [local irreducible] RFrm.val RFrm.args EstS.get EstS.getV EstS.code EstS.word EstS.store
theorem UO {x:Ins}{a n:Int}(hx:Lb.at cx cs x)(hf:fr.length≤1000)(hn:g.vals.length≤900000)(ha:g.abs.val x.a=some a)(hk:g.abs.val x.b=some n)(hS:St cx w (rS p c fr g s out L)):Ky Tryz.prog yO [.pointer (some ⟨p,0,none⟩), .agg ⟨cs⟩] w
 (fun u w'=>¬(n<0∨15<n)∧s.code a (1+n)≠14∧u= .tuple #[]∧∃tv,St cx w' (rS p c fr (g.push tv [s.getV a (1+n)]) ((s.get a (1+n)).store (s.getV a (1+n)) n) out L))
 (fun u w'=>(n<0∨15<n)∧u=W0 3∧St cx w' (rS p c fr g s out L)∨¬(n<0∨15<n)∧s.code a (1+n)=14∧u=W0 6∧St cx w' (rS p c fr g (s.get a (1+n)) out L)):=by
 (((obtain ⟨vr,va,rfl,hr,ha1⟩:=Nx hx;obtain ⟨ep,fn,lv,iv,e,bv,ov,fu,mo,dn⟩:=c;unfold Ky;refine Kq Ko Tryz.func141 ?_;refine' KY;intro p3 w1 hS;refine' LN;refine' KZ;refine' Kr (c:=Ps hf (show St cx _ (rL p _ fr g _) from hS.sp) hk);rintro v1 w1 ⟨rfl,hS⟩;refine' L6;first|(refine' KX)|(refine' K1)|(refine' Ae<;>intro hc));all_goals (refine' Lv;first|refine' Kj|(refine' Kl;(first|(refine' QV)|(refine' QW)|(refine' Af<;>intro hc)))));all_goals (refine' Lu;first|(refine' Kr (c:=Yf hS);rintro v1 w1 ⟨rfl,hS⟩)|(refine KH (c:=Yg hS) (p:=by rintro v9 w9 ⟨rfl,hS⟩;(repeat (first|refine' Q6|refine' Q8|refine fun _=>?_));refine' Qe;refine .inr ⟨_,rfl,?_⟩;first|(exact .inl ⟨Jo,rfl,hS.sp⟩)) (h:=fun _ _ h=>h.elim))));refine' Uj;refine' KZ;refine' Kr (c:=Ps hf (show St cx _ (rL p _ fr g _) from hS.sp) ha);rintro v1 w1 ⟨rfl,hS⟩;refine' zm;refine' MX;refine MG (c:=UN (s:=s) (out:=out) a (1+n) (show St cx _ (rS p _ fr g s out _) from hS.sp)) (p:=by rintro u9 w9 ⟨h14,rfl,hS⟩;(repeat (first|refine' Q6|refine' Q8|refine fun _=>?_));refine' Qe;refine .inr ⟨_,rfl,?_⟩;exact .inr ⟨Jo,h14,rfl,hS.sp⟩) (h:=?_);rintro u1 w2 ⟨h14,rfl,hS⟩;refine' Ms;obtain ⟨b9,pp,rv,ho,hS⟩:=Su (hS.out (i:=4) rfl);obtain rfl:=ho.he;refine' So;refine' Mf;refine' MV;refine' Lg (c:=lK (s:=(s.get a (1+n)).p) (s.getV a (1+n)) n hS NX);rintro v1 w1 ⟨rfl,hS⟩;have hS:=hS.ns;have hS:=lP ho hS;have hS:=hS.ns;refine' Ul;refine K8 hS [_] ?_;intro b1 w1 hS;have hS:=Gh (T:=2) (es:=1) (css:=[s.getV a (1+n)].map Qr) hS rfl Dp rfl;have hS:St cx _ (rL p _ fr g (sl 2 1 (.slice (some ⟨b1,0,none⟩) 1 1) ([s.getV a (1+n)].map Qr)::_)):=hS.sp;refine' Kr (c:=W2 (j:=0) hf En hS rfl);rintro u1 w1 ⟨tv,rfl,hS⟩;refine' OW;exact .inl ⟨_,rfl,Jo,h14,rfl,tv,hS.sp⟩
end
section
variable {cx:Cx}{w:World}{L:List Res}{p:Nat}{c:RC}{fr:List RFV}{g:RFV}{s:EstS}{out:List Int}
theorem EstS.stores_0 {s:EstS}{a:Int}:s.stores a (l.take 0)=s:=rfl
attribute [local irreducible] RFrm.val RFrm.args EstS.get EstS.getV EstS.code EstS.word EstS.store EstS.stores
theorem UP {x:Ins}{a n:Int}(hx:Lb.at cx cs x)(h8:x.args.length≤100)(hN:n=max (x.args.length:Int) 1)(hf:fr.length≤1000)(hn:g.vals.length≤900000)(ha:g.abs.val x.a=some a)(hv:g.abs.args x.args=some vs)(hS:St cx w (rS p c fr g s out L)):Ky Tryz.prog yM [.pointer (some ⟨p,0,none⟩), .agg ⟨cs⟩] w
 (fun u w'=>s.code a n≠14∧u= .tuple #[]∧∃tv,St cx w' (rS p c fr (g.push tv [s.getV a n]) ((s.get a n).stores (s.getV a n) vs) out L))
 (fun u w'=>s.code a n=14∧u=W0 6∧St cx w' (rS p c fr g (s.get a n) out L)):=by
 obtain ⟨vr,va,rfl,hr,ha1⟩:=Nx hx;obtain ⟨ep,f1,l1,i1,e1,b2,o2,f2,m2,d2⟩:=c;have hsg:=fun (w:World) (L:List Res) (hS:St cx w (rS p ⟨ep,f1,l1,i1,e1,b2,o2,f2,m2,d2⟩ fr g s out L))=>UN a n hS;rw [hN] at hsg;unfold Ky;refine Kq Ko Tryz.func138 ?_;refine' KY;intro p3 w1 hS;refine' L5;refine zC [(0,none),(1,none),(2,none),(3,none),(5,none),(6,none),(7,none),(8,none),(4,some (some [6])),(9,some none),(10,some none)] ?_;have hS:=hS.drew;refine' Og;refine' Ug;refine' zL;refine' KO;refine ZQ rfl rfl ?_;refine' Lp;refine' Kr (c:=Ps hf (show St cx _ (rL p _ fr g _) from hS.sp) ha);rintro v1 w1 ⟨rfl,hS⟩;refine' Ly;refine MG (c:=hsg _ _ (show St cx _ (rS p _ fr g s out _) from hS.sp)) (p:=by rintro u9 w9 ⟨h14,rfl,hS⟩;(repeat (first|refine' Q6|refine' Q8|refine fun _=>?_));refine' Qe;refine .inr ⟨_,rfl,?_⟩;rw [←hN] at h14 hS;exact ⟨h14,rfl,hS.sp⟩) (h:=?_);rintro u1 w2 ⟨h14,rfl,hS⟩;rw [←hN] at h14 hS ⊢;refine' XY;refine' P6;refine' Kr (c:=cH Jo hf ha1 hv (show St cx _ (rL p _ fr g _) from hS.sp));rintro v2 w2 ⟨hvl,ho2,hS⟩;refine' SQ;refine' Ob;refine zo [0,4,20,21] (fun A ρ' w'=>∃(q:Nat),Kn ρ' A∧Kn ρ' [(22, .int .i64 q)]∧(q≤vs.length)∧St cx w' (rS p ⟨ep,f1,l1,i1,e1,b2,o2,f2,m2,d2⟩ fr g ((s.get a n).stores (s.getV a n) (vs.take q)) out (sl 2 1 v2 (vs.map Qr)::blk p3 84 [.int .i64 x.op, .int .i64 x.a, .int .i64 x.b, .int .i64 x.c, .int .i64 x.k, .int .i64 x.n,vr,va]::L))) (fun ρ' _=>(vs.length - iv (ρ' 22)).toNat) ?_ ?_
 · exact ⟨0,zh,zh,Jo,by rw [EstS.stores_0];exact hS.sp⟩
 rintro ρ w1 ⟨q,hA,hρ,hq,hS⟩;obtain ⟨ρ,rfl⟩:=Kp hA hρ;refine' MH;refine' Ab<;>intro hc
 · skip;refine' Ub;have hlt:q<vs.length:=Df;have hvq:vs[q]?=some (vs.getD q 0):=(by rw [E9,E7 hlt];rfl);refine' LV;refine RI hS vw rfl fd DJ ?_;rw [Fb];intro b2 o2 hel2;refine QF hS hel2 rfl fd (Fb _) (show (vs.map Qr)[q]?=some (Qr (vs.getD q 0)) by rw [Fy,hvq];rfl) rfl ?_;refine' zm;refine' KA;obtain ⟨b9,pp,rv,ho,hS⟩:=Su (hS.out (i:=4) rfl);obtain rfl:=ho.he;refine' So;refine' Mf;refine' MV;refine' iS;refine' zm;refine' Lg (c:=lK (s:=((s.get a n).stores (s.getV a n) (vs.take q)).p) (wr (s.getV a n+q)) (vs.getD q 0) hS NX);rintro v1 w1 ⟨rfl,hS⟩;have hS:=hS.ns;have hS:=lP ho hS;rw [←EstS.stores_take hvq] at hS;refine' Rr;(exact ⟨⟨q+1,zh,zh,Jo,hS.sp⟩,Qj Jo⟩)
 · skip;refine' L8;refine' MZ;refine K8 hS [_] ?_;intro b1 w1 hS;rw [FM Jo] at hS;have hS:=Gh (T:=2) (es:=1) (css:=[s.getV a n].map Qr) hS rfl Dp rfl;have hS:St cx _ (rL p _ fr g (sl 2 1 (.slice (some ⟨b1,0,none⟩) 1 1) ([s.getV a n].map Qr)::_)):=hS.sp;refine' Kr (c:=W2 (j:=0) hf En hS rfl);rintro u1 w1 ⟨tv,rfl,hS⟩;refine' OW;exact .inl ⟨_,rfl,h14,rfl,tv,hS.sp⟩
end
section
variable {cx:Cx}{w:World}{L:List Res}{p:Nat}{c:RC}{fr:List RFV}{g:RFV}{s:EstS}{out:List Int}
attribute [local irreducible] RFrm.val RFrm.args EstS.get EstS.getV EstS.code EstS.word EstS.store EstS.stores
@[reducible] def RC.did (c:RC)(bv:Value):RC:=⟨c.ep,c.fn,c.lv,c.iv,c.e,bv,c.ov,c.fu,c.mo,true⟩
theorem cI (hx:Lo.at cx cs e)(h3:e.op=3)(h8:e.args.length≤100)(hv:g.abs.args e.args=some vs)(hS:St cx w (rS p c [] g s out L)):
 Kf Tryz.prog fU [.pointer (some ⟨p,0,none⟩), .agg ⟨cs⟩] w fun u w'=>∃bv,u= .tuple #[]∧oneC bv=true∧St cx w' (rS p (c.did bv) [] g s out (sl 2 1 bv (vs.map Qr)::L)):=by
 obtain ⟨v1,v2,v3,v4,v5,rfl,k1,k2,k3,k4,k5⟩:=Rj hx;have hf0:([]:List RFV).length≤1000:=Dq;refine Kq Ko Tryz.func84 ?_;refine' KY;intro p3 w1 hS;refine' LN;refine' KE (c:=W1 hf0 (show St cx _ (rL p c [] g _) from hS.sp));rintro v9 w1 ⟨b9,o9,rfl,hel,hS⟩;refine' Ob;refine' Mn;refine' Ql;refine' Lv;refine' Sp;(first|refine' Kj|(refine' Kl;refine QL hS vw fd (show (N4 [] g).length=1 from rfl) ?_));(first|refine' Kj|(refine' Kl;refine' Ql));refine' Oy;refine' KA;refine' Ki;refine' MZ;refine' zm;refine' KZ;refine' Kr (c:=cH Jo hf0 k5 hv (show St cx _ (rL p c [] g _) from hS.sp));rintro u2 w2 ⟨hvl,ho2,hS⟩;refine' SV;refine LU hS ?_;intro w1 hS;have hS:=hS.ns;refine' Lh;refine LU hS ?_;intro w1 hS;have hS:=hS.ns;refine' OW;exact ⟨_,rfl,u2,rfl,ho2,hS.sp⟩
end
section
variable {cx:Cx}{w:World}{L:List Res}{p:Nat}{c:RC}{fr:List RFV}{g:RFV}{s:EstS}{out:List Int}
attribute [local irreducible] RFrm.val RFrm.args EstS.get EstS.getV EstS.code EstS.word EstS.store EstS.stores
@[reducible] def RC.upd (c:RC)(lv iv ov:Value):RC:=⟨c.ep,c.fn,lv,iv,c.e,c.bv,ov,c.fu,c.mo,c.dn⟩
theorem Qh6 {k:RFV}:((N4 (fr++[k]) g).take (fr++[k]).length).drop 0=N4 fr k:=by
 unfold N4;rw [F9,HB Js,FM Js,FG];rfl
theorem cJ {k:RFV}(hS:St cx w (K3 RFV.res (fr++[k])::L)):St cx w (sl 2 1 k.vv (k.vals.map Qr)::K3 RFV.res fr::L):=by
 have h1:=hS.bigOut (i:=0) (k:=fr.length) (x:=k) rfl Js;have h2:(fr++[k]).eraseIdx fr.length=fr:=EC;rw [Fi,h2] at h1;exact h1
theorem cK {k:RFV}(hx:Lo.at cx cs e)(h3:e.op=3)(h8:e.args.length≤100)(hv:g.abs.args e.args=some vs)(hf:fr.length≤900)(hn:k.vals.length≤900000)(hS:St cx w (rS p c (fr++[k]) g s out L)):
 Kf Tryz.prog fU [.pointer (some ⟨p,0,none⟩), .agg ⟨cs⟩] w fun u w'=>∃lv tv,u= .tuple #[]∧St cx w' (rS p (c.upd lv c.iv c.ov) fr (k.push tv vs) s out L):=by
 obtain ⟨v1,v2,v3,v4,v5,rfl,k1,k2,k3,k4,k5⟩:=Rj hx;have hl1:(fr++[k]).length=fr.length+1:=Dq;have hf0:(fr++[k]).length≤1000:=Df;refine Kq Ko Tryz.func84 ?_;refine' KY;intro p3 w1 hS;refine' LN;refine' KE (c:=W1 hf0 (show St cx _ (rL p c (fr++[k]) g _) from hS.sp));rintro v9 w1 ⟨b9,o9,rfl,hel,hS⟩;refine' Ob;refine' Mn;refine' Ql;refine' Lv;refine' Sp;(first|refine' Kj|(refine' Kl;refine QL (n:=fr.length+2) hS vw fd D2 ?_));refine' nV;refine' Oy;refine' KA;refine' Kk;refine' Mn;refine' XZ;refine' Ki;refine' KP;refine' KZ;refine' Kr (c:=cH Jo hf0 k5 hv (show St cx _ (rL p c (fr++[k]) g _) from hS.sp));rintro u2 w2 ⟨hvl,ho2,hS⟩;obtain ⟨a2,n2,rfl⟩:=hS.shape (i:=4) rfl;refine' Ms;refine zD (ci 15 [14]) ?_;have hS:=hS.drew;refine' MV;refine' Mf;refine' P8;refine QL (n:=fr.length+2) hS vw fd D2 ?_;refine' PD;rw [show ((fr.length+2:Nat):Int) - 1=(((fr++[k]).length:Nat):Int) by omega];refine TJ (l':=0) (h':=(fr++[k]).length) hS vw (i:=1) rfl rfl ⟨_,rfl⟩ rfl D2 Jo ?_;intro v7 hS;rw [Qh6] at hS;have hS:=hS.ns;have ho7:=hS.oneC (i:=1) rfl;refine' Lh;refine LU hS ?_;intro w1 hS;have hS:=hS.ns;refine' Ul;have hS:=cJ (fr:=fr) (k:=k) (L:=blk p 66 _::sl 138 4 v7 (N4 fr k)::sl 2 1 (.slice a2 _ n2) _::My c.ep s::sl 2 1 c.ov (out.map Qr)::L) hS.sp;have hS:St cx _ (rL p (c.upd v7 c.iv c.ov) fr k (sl 2 1 (.slice a2 (vs.map Qr).length n2) (vs.map Qr)::My c.ep s::sl 2 1 c.ov (out.map Qr)::L)):=hS.sp;refine' Kr (c:=W2 (j:=0) (vs:=vs) Jo Jo hS rfl);rintro u1 w1 ⟨tv,rfl,hS⟩;refine' OW;exact ⟨_,rfl,v7,tv,rfl,hS.sp⟩
end
section
variable {cx:Cx}{w:World}{L:List Res}{p:Nat}{c:RC}{fr:List RFV}{g:RFV}{s:EstS}{out:List Int}
attribute [local irreducible] RFrm.val RFrm.args EstS.get EstS.getV EstS.code EstS.word EstS.store EstS.stores
theorem s6 {g':RFV}:(N4 fr g).set fr.length g'.cells=N4 fr g':=by
 unfold N4;rw [GC _ _ Js];simp
theorem cL (hx:Lo.at cx cs e)(h2:e.op=2)(ha:g.abs.val e.a=some 0)(h8:e.no.args.length≤100)(hb0:0≤e.no.block)(hv:g.abs.args e.no.args=some vs)(hf:fr.length≤1000)(hS:St cx w (rS p c fr g s out L)):
 Kf Tryz.prog fU [.pointer (some ⟨p,0,none⟩), .agg ⟨cs⟩] w fun u w'=>∃vv,u= .tuple #[]∧St cx w' (rS p c fr ⟨g.f,e.no.block.toNat,0,vv,vs⟩ s out L):=by
 obtain ⟨v1,v2,v3,v4,v5,rfl,k1,k2,k3,k4,k5⟩:=Rj hx;refine Kq Ko Tryz.func84 ?_;refine' KY;intro p3 w1 hS;refine' LN;refine' KE (c:=W1 hf (show St cx _ (rL p c fr g _) from hS.sp));rintro v9 w1 ⟨b9,o9,rfl,hel,hS⟩;refine' Ob;refine' S4;(first|(refine QF hS hel rfl fd (Qc fr g) (Qg fr g) rfl ?_)|(refine zl hS ?_));refine' S6;refine' PO;refine' XV;refine' Lu;refine' KA;refine' Kk;refine' S4;(first|(refine QF hS hel rfl fd (Qc fr g) (Qg fr g) rfl ?_)|(refine zl hS ?_));refine' fT;refine' Kk;refine' S4;(first|(refine QF hS hel rfl fd (Qc fr g) (Qg fr g) rfl ?_)|(refine zl hS ?_));refine' Ql;refine' Lv;refine' NY;(first|refine' Kj|(refine' Kl;(first|(refine QF hS hel rfl fd (Qc fr g) (Qg fr g) rfl ?_)|(refine zl hS ?_))));(first|refine' Kj|(refine' Kl;refine' Kr (c:=Ps hf (show St cx _ (rL p c fr g _) from hS.sp) ha);rintro v7 w7 ⟨rfl,hS⟩));(first|refine' Kj|(refine' Kl;refine' Ql));refine' Oy;refine' KA;refine' Ki;refine zC [(0,none),(1,none),(2,none),(3,none),(4,none),(5,none),(6,none),(7,none),(8,none),(9,none),(10,none),(11,none),(12,some (some [4,7])),(13,none),(14,none),(15,some none)] ?_;have hS:=hS.drew;refine' Og;refine' RO;refine QF hS hel rfl fd (Qc fr g) (Qg fr g) rfl ?_;refine' KO;refine' SY;(first|(refine QF hS hel rfl fd (Qc fr g) (Qg fr g) rfl ?_)|(refine zl hS ?_));refine' Mu;refine' SY;(first|(refine QF hS hel rfl fd (Qc fr g) (Qg fr g) rfl ?_)|(refine zl hS ?_));refine' Lp;refine' Kr (c:=cH Jo hf k4 hv (show St cx _ (rL p c fr g _) from hS.sp));rintro u2 w2 ⟨hvl,ho2,hS⟩;obtain ⟨a2,n2,rfl⟩:=hS.shape (i:=4) rfl;refine' zt;refine ⟨Fe.2 ⟨DQ,Fe.2 ⟨D5,fun _ h=>(Fv h).elim⟩⟩,?_⟩;refine' KW;refine Ph [_,_,_,_] ?_;refine' KO;refine' SO;refine' Lk;refine fH (css':=N4 fr ⟨g.f,e.no.block.toNat,0, .slice a2 (vs.map Qr).length n2,vs⟩) hS hel rfl vw Jr fd (Qc fr g) (Qg fr g) rfl (by simp [oneC,ho2]) (by rw [show Value.int .i64 e.no.block= .int .i64 ((e.no.block.toNat:Nat):Int) by rw [FO hb0]];exact s6 (g':=⟨g.f,e.no.block.toNat,0, .slice a2 (vs.map Qr).length n2,vs⟩)) ?_;intro w8 hS;have hS:=hS.ns;refine' Z4;exact ⟨_,rfl,_,rfl,hS.sp⟩
theorem cM {n:Int}(hx:Lo.at cx cs e)(h2:e.op=2)(h0:n≠0)(ha:g.abs.val e.a=some n)(h8:e.yes.args.length≤100)(hb0:0≤e.yes.block)(hv:g.abs.args e.yes.args=some vs)(hf:fr.length≤1000)(hS:St cx w (rS p c fr g s out L)):
 Kf Tryz.prog fU [.pointer (some ⟨p,0,none⟩), .agg ⟨cs⟩] w fun u w'=>∃vv,u= .tuple #[]∧St cx w' (rS p c fr ⟨g.f,e.yes.block.toNat,0,vv,vs⟩ s out L):=by
 obtain ⟨v1,v2,v3,v4,v5,rfl,k1,k2,k3,k4,k5⟩:=Rj hx;refine Kq Ko Tryz.func84 ?_;refine' KY;intro p3 w1 hS;refine' LN;refine' KE (c:=W1 hf (show St cx _ (rL p c fr g _) from hS.sp));rintro v9 w1 ⟨b9,o9,rfl,hel,hS⟩;refine' Ob;refine' S4;(first|(refine QF hS hel rfl fd (Qc fr g) (Qg fr g) rfl ?_)|(refine zl hS ?_));refine' S6;refine' PO;refine' XV;refine' Lu;refine' KA;refine' Kk;refine' S4;(first|(refine QF hS hel rfl fd (Qc fr g) (Qg fr g) rfl ?_)|(refine zl hS ?_));refine' fT;refine' Kk;refine' S4;(first|(refine QF hS hel rfl fd (Qc fr g) (Qg fr g) rfl ?_)|(refine zl hS ?_));refine' Ql;refine' Lv;refine' NY;(first|refine' Kj|(refine' Kl;(first|(refine QF hS hel rfl fd (Qc fr g) (Qg fr g) rfl ?_)|(refine zl hS ?_))));(first|refine' Kj|(refine' Kl;refine' Kr (c:=Ps hf (show St cx _ (rL p c fr g _) from hS.sp) ha);rintro v7 w7 ⟨rfl,hS⟩));refine' nV;refine' Oy;refine' KA;refine' Kk;refine zC [(0,none),(1,none),(2,none),(3,none),(4,none),(5,none),(6,none),(7,none),(8,none),(9,none),(10,none),(11,none),(12,some (some [4,7])),(13,none),(14,none),(15,some none)] ?_;have hS:=hS.drew;refine' Og;refine' RO;refine QF hS hel rfl fd (Qc fr g) (Qg fr g) rfl ?_;refine' KO;refine' SY;(first|(refine QF hS hel rfl fd (Qc fr g) (Qg fr g) rfl ?_)|(refine zl hS ?_));refine' Mu;refine' SY;(first|(refine QF hS hel rfl fd (Qc fr g) (Qg fr g) rfl ?_)|(refine zl hS ?_));refine' Lp;refine' Kr (c:=cH Jo hf k2 hv (show St cx _ (rL p c fr g _) from hS.sp));rintro u2 w2 ⟨hvl,ho2,hS⟩;obtain ⟨a2,n2,rfl⟩:=hS.shape (i:=4) rfl;refine' zt;refine ⟨Fe.2 ⟨DQ,Fe.2 ⟨D5,fun _ h=>(Fv h).elim⟩⟩,?_⟩;refine' KW;refine Ph [_,_,_,_] ?_;refine' KO;refine' SO;refine' Lk;refine fH (css':=N4 fr ⟨g.f,e.yes.block.toNat,0, .slice a2 (vs.map Qr).length n2,vs⟩) hS hel rfl vw Jr fd (Qc fr g) (Qg fr g) rfl (by simp [oneC,ho2]) Ez ?_;intro w8 hS;have hS:=hS.ns;refine' Z4;exact ⟨_,rfl,_,rfl,hS.sp⟩
theorem cN (hx:Lo.at cx cs e)(h2:e.op≠2)(h3:e.op≠3)(h8:e.yes.args.length≤100)(hb0:0≤e.yes.block)(hv:g.abs.args e.yes.args=some vs)(hf:fr.length≤1000)(hS:St cx w (rS p c fr g s out L)):
 Kf Tryz.prog fU [.pointer (some ⟨p,0,none⟩), .agg ⟨cs⟩] w fun u w'=>∃vv,u= .tuple #[]∧St cx w' (rS p c fr ⟨g.f,e.yes.block.toNat,0,vv,vs⟩ s out L):=by
 obtain ⟨v1,v2,v3,v4,v5,rfl,k1,k2,k3,k4,k5⟩:=Rj hx;refine Kq Ko Tryz.func84 ?_;refine' KY;intro p3 w1 hS;refine' LN;refine' KE (c:=W1 hf (show St cx _ (rL p c fr g _) from hS.sp));rintro v9 w1 ⟨b9,o9,rfl,hel,hS⟩;refine' Ob;refine' S4;(first|(refine QF hS hel rfl fd (Qc fr g) (Qg fr g) rfl ?_)|(refine zl hS ?_));refine' S6;refine' PO;refine' XV;refine' Lu;refine' KA;refine' Kk;refine' S4;(first|(refine QF hS hel rfl fd (Qc fr g) (Qg fr g) rfl ?_)|(refine zl hS ?_));refine' fT;refine' Kk;refine' S4;(first|(refine QF hS hel rfl fd (Qc fr g) (Qg fr g) rfl ?_)|(refine zl hS ?_));refine' S6;refine' PO;refine' Kj;refine' Lu;refine' KA;refine' Kk;refine zC [(0,none),(1,none),(2,none),(3,none),(4,none),(5,none),(6,none),(7,none),(8,none),(9,none),(10,none),(11,none),(12,some (some [4,7])),(13,none),(14,none),(15,some none)] ?_;have hS:=hS.drew;refine' Og;refine' RO;refine QF hS hel rfl fd (Qc fr g) (Qg fr g) rfl ?_;refine' KO;refine' SY;(first|(refine QF hS hel rfl fd (Qc fr g) (Qg fr g) rfl ?_)|(refine zl hS ?_));refine' Mu;refine' SY;(first|(refine QF hS hel rfl fd (Qc fr g) (Qg fr g) rfl ?_)|(refine zl hS ?_));refine' Lp;refine' Kr (c:=cH Jo hf k2 hv (show St cx _ (rL p c fr g _) from hS.sp));rintro u2 w2 ⟨hvl,ho2,hS⟩;obtain ⟨a2,n2,rfl⟩:=hS.shape (i:=4) rfl;refine' zt;refine ⟨Fe.2 ⟨DQ,Fe.2 ⟨D5,fun _ h=>(Fv h).elim⟩⟩,?_⟩;refine' KW;refine Ph [_,_,_,_] ?_;refine' KO;refine' SO;refine' Lk;refine fH (css':=N4 fr ⟨g.f,e.yes.block.toNat,0, .slice a2 (vs.map Qr).length n2,vs⟩) hS hel rfl vw Jr fd (Qc fr g) (Qg fr g) rfl (by simp [oneC,ho2]) Ez ?_;intro w8 hS;have hS:=hS.ns;refine' Z4;exact ⟨_,rfl,_,rfl,hS.sp⟩
end
section
theorem tu (b:Bool)(w:World):Kf Tryz.prog zK [.bool b] w fun v w'=>v= .int .i64 (if b then 1 else 0)∧w'=w:=by
 cases b
 all_goals
  all_goals (refine Kq Ko Tryz.func195 ?_;refine' LM;refine QA ?_;refine' LM)
  all_goals
   first
   | (refine' Ki;refine' KQ;(exact AS))
   | (refine' Kk;refine' Kx)
  all_goals (refine' KQ;exact AS)
theorem tw (a b:Int)(w:World):Kf Tryz.prog zJ [.int .i64 a, .int .i64 b] w fun v w'=>v= .tuple #[.int .i64 (O0 a b).1, .bool (O0 a b).2]∧w'=w:=by
 (refine Kq Ko Tryz.func194 ?_;refine' KP;refine' Ms;refine' SU;refine' Kv;first|(refine' Ql)|(refine' Qp)|(refine' Ac<;>intro hc));all_goals (refine' KA)
 all_goals
  first
  | (refine' Ki;refine' KP;refine' SW;(exact Bw))
  | (refine' Kk
     (refine' Kv;first|(refine' Ql)|(refine' Qp)|(refine' Ac<;>intro hc));all_goals (refine' KA)
     all_goals
      first
      | (refine' Ki;refine' KP;refine gO rfl ?_;refine' Sq;(exact Bw))
      | (refine' Kk;refine' Kx))
 refine' Lc;refine gY rfl rfl Jo ?_;refine' Sq;(exact Bw)
set_option maxHeartbeats 1000000 in
theorem pd (k a b : Int)(w :World):Kf Tryz.prog sR [.int .i64 k, .int .i64 a, .int .i64 b] w fun v w'=>v= .tuple #[.int .i64 (NB k a b).1, .bool (NB k a b).2]∧w'=w:=by
 cases hd:(O0 a b).2
 all_goals
  all_goals (refine Kq Ko Tryz.func134 ?_;refine' KP;refine' Ms;refine' SU;refine' Kv;first|(refine' Ql)|(refine' Qp)|(refine' Ac<;>intro hc));all_goals (refine' KA)
  all_goals
   first
   | (refine' Ki;all_goals (refine' Lc;refine fy rfl rfl ?_;refine' Sq);all_goals (exact AD))
   | (refine' Kk
      all_goals (refine' Kv;first|(refine' Ql)|(refine' Qp)|(refine' Ac<;>intro hc));all_goals (refine' KA)
      all_goals
       first
       | (refine' Ki;all_goals (refine' Lc;(first|(refine fy rfl rfl ?_)|(refine lf rfl rfl ?_));refine' Sq);all_goals (exact AD))
       | (refine' Kk
          all_goals (refine' Kv;first|(refine' Ql)|(refine' Qp)|(refine' Ac<;>intro hc));all_goals (refine' KA)
          all_goals
           first
           | (refine' Ki;all_goals (refine' Lc;(first|(refine fy rfl rfl ?_)|(refine lf rfl rfl ?_)|(refine Tk rfl rfl ?_));refine' Sq);all_goals (exact AD))
           | (refine' Kk
              all_goals (refine' Kv;first|(refine' Ql)|(refine' Qp)|(refine' Ac<;>intro hc));all_goals (refine' KA)
              all_goals
               first
               | (refine' Ki;all_goals (refine' Lc;refine Sf rfl (tw _ _ _) ?_;rw [hd];rintro _ _ ⟨rfl,rfl⟩;refine' Sk;refine' Sq);all_goals (exact AD))
               | (refine' Kk
                  all_goals (refine' Kv;first|(refine' Ql)|(refine' Qp)|(refine' Ac<;>intro hc));all_goals (refine' KA)
                  all_goals
                   first
                   | (refine' Ki
                      all_goals (refine' Lc;refine Sf rfl (tw _ _ _) ?_;rw [hd];rintro _ _ ⟨rfl,rfl⟩;refine' zm;refine' Sk;refine' zm;refine' OX;refine' Nv)
                      all_goals
                       first
                       | (refine' Ki;refine' KP;refine' SW;(exact AD))
                       | (refine' Kk;refine' Kx)
                      all_goals (refine' Lc;refine' zm;(first|(refine fy rfl rfl ?_)|(refine lf rfl rfl ?_)|(refine Tk rfl rfl ?_));(first|(refine fy rfl rfl ?_)|(refine lf rfl rfl ?_));refine' Sq);all_goals (exact AD))
                   | (refine' Kk
                      all_goals (refine' Kv;first|(refine' Ql)|(refine' Qp)|(refine' Ac<;>intro hc));all_goals (refine' KA)
                      all_goals
                       first
                       | (refine' Ki;all_goals (refine' Lc;first|(refine' KX)|(refine' K1)|(refine' Ae<;>intro hc));all_goals (refine Sf rfl (tu _ _) ?_;rintro _ _ ⟨rfl,rfl⟩;refine' Sq);all_goals (exact AD))
                       | (refine' Kk
                          all_goals (refine' Kv;first|(refine' Ql)|(refine' Qp)|(refine' Ac<;>intro hc));all_goals (refine' KA)
                          all_goals
                           first
                           | (refine' Ki;all_goals (refine' Lc;first|(refine' Ql)|(refine' Qp)|(refine' Ac<;>intro hc));all_goals (refine Sf rfl (tu _ _) ?_;rintro _ _ ⟨rfl,rfl⟩;refine' Sq);all_goals (exact AD))
                           | (refine' Kk
                              all_goals (refine' Kv;first|(refine' Ql)|(refine' Qp)|(refine' Ac<;>intro hc));all_goals (refine' KA)
                              all_goals
                               first
                               | (refine' Ki;all_goals (refine' Lc;refine gZ rfl rfl ?_;refine' Sq);all_goals (exact AD))
                               | (refine' Kk
                                  all_goals (refine' Kv;first|(refine' Ql)|(refine' Qp)|(refine' Ac<;>intro hc));all_goals (refine' KA)
                                  all_goals
                                   first
                                   | (refine' Ki;all_goals (refine' Lc;refine g9 rfl rfl ?_;refine' Sq);all_goals (exact AD))
                                   | (refine' Kk;all_goals (refine' Kx))))))))))
  all_goals (refine' KP;refine' SW;exact AD)
theorem jj {k a b:Int}(hS:St cx w L):Kf Tryz.prog sR [.int .i64 k, .int .i64 a, .int .i64 b] w fun v w'=>v= .tuple #[.int .i64 (NB k a b).1, .bool (NB k a b).2]∧St cx w' L:=
 (pd k a b w).mono fun _ _ ⟨h1,h2⟩=>⟨h1,by rw [h2];exact hS⟩
end
section
theorem OD {o:Option α}{f:α→RStp}(h:L7 o f≠ .crash):∃a,o=some a∧L7 o f=f a:=by
 cases o with
 | none=>exact AO
 | some a=>exact ⟨a,rfl,rfl⟩
section
variable {m:Module}{s:RS}{x:Ins}
theorem pe (h:x.op=1):s.ins m x= .go (s.put [x.n]):=by unfold RS.ins;rw [if_pos h]
theorem pf (h:x.op=2):s.ins m x=L7 (s.g.val x.a) fun a=>L7 (s.g.val x.b) fun b=>if (NB x.k a b).2=false then .halt 1 else .go (s.put [(NB x.k a b).1]):=by unfold RS.ins;rw [if_neg Jo,if_pos h]
theorem pg (h:x.op=3):s.ins m x=if s.e.openV<0 then .halt 6 else .go ((s.es s.e.open).put [s.e.openV]):=by unfold RS.ins;rw [if_neg Jo,if_neg Jo,if_pos h]
theorem ph (h:x.op=4):s.ins m x=L7 (s.g.val x.a) fun a=> .go (s.es (s.e.shut a)):=by unfold RS.ins;rw [if_neg Jo,if_neg Jo,if_neg Jo,if_pos h]
theorem pj (h:x.op=5):s.ins m x=L7 (s.g.val x.a) fun a=>L7 (s.g.args x.args) fun l=>s.gotR a (max (x.args.length:Int) 1) fun e at_=> .go ((s.es (e.stores at_ l)).put [at_]):=by unfold RS.ins;(repeat rw [if_neg Jo]);rw [if_pos h]
theorem pk (h:x.op=6):s.ins m x=L7 (s.g.val x.a) fun a=> .go (s.put [s.e.word (wr (a+x.k))]):=by unfold RS.ins;(repeat rw [if_neg Jo]);rw [if_pos h]
theorem pn (h:x.op=7):s.ins m x=L7 (s.g.val x.a) fun a=>L7 (s.g.val x.b) fun b=> .go (s.es (s.e.store (wr (a+x.k)) b)):=by unfold RS.ins;(repeat rw [if_neg Jo]);rw [if_pos h]
theorem po (h:x.op=8):s.ins m x=L7 (s.g.val x.a) fun a=>L7 (s.g.val x.b) fun n=>if n<0∨15<n then .halt 3 else s.gotR a (1+n) fun e at_=> .go ((s.es (e.store at_ n)).put [at_]):=by unfold RS.ins;(repeat rw [if_neg Jo]);rw [if_pos h]
theorem pq (h:x.op=9):s.ins m x=L7 (s.g.val x.a) fun a=>L7 (s.g.val x.b) fun k=>s.atR a k fun q=> .go (s.put [s.e.word q]):=by unfold RS.ins;(repeat rw [if_neg Jo]);rw [if_pos h]
theorem jk (h:x.op=10):s.ins m x=L7 (s.g.val x.a) fun a=>L7 (s.g.val x.b) fun k=>L7 (s.g.val x.c) fun c=>s.atR a k fun q=> .go (s.es (s.e.store q c)):=by unfold RS.ins;(repeat rw [if_neg Jo]);rw [if_pos h]
theorem jl (h:x.op=11):s.ins m x=L7 (s.g.val x.a) fun a=> .go (s.put [s.e.word a]):=by unfold RS.ins;(repeat rw [if_neg Jo]);rw [if_pos h]
theorem jm (h:x.op=12):s.ins m x=s.inR:=by unfold RS.ins;(repeat rw [if_neg Jo]);rw [if_pos h]
theorem jn (h:x.op=13):s.ins m x=L7 (s.g.val x.a) fun n=>s.outR n:=by unfold RS.ins;(repeat rw [if_neg Jo]);rw [if_pos h]
theorem jo (h:x.op=14):s.ins m x=L7 (s.g.args x.args) fun vs=>s.callR x.k vs:=by unfold RS.ins;(repeat rw [if_neg Jo])
theorem UQ {r n:Int}{k:EstS→Int→RStp}(h:s.e.code r n=14):s.gotR r n k= .halt 6:=if_pos h
theorem aa {r n:Int}{k:EstS→Int→RStp}(h:s.e.code r n≠14):s.gotR r n k=k (s.e.get r n) (s.e.getV r n):=if_neg h
theorem jq {a k:Int}{c:Int→RStp}(h:k<0∨s.e.p.word a≤k):s.atR a k c= .halt 2:=if_pos h
theorem jr {a k:Int}{c:Int→RStp}(h:¬(k<0∨s.e.p.word a≤k)):s.atR a k c=c (wr (wr (a+1)+k)):=if_neg h
theorem iZ (e:s.inp=[]):s.inR= .halt 4:=by unfold RS.inR;rw [e]
theorem js {n:Int}{r:List Int}(e:s.inp=n::r):s.inR= .go ((⟨s.e,s.g,s.st,r,s.out,s.fuel⟩:RS).put [n]):=by unfold RS.inR;rw [e]
theorem bZ {n:Int}(e:s.out.length=2000):s.outR n= .halt 8:=if_pos e
theorem cO {n:Int}(e:s.out.length≠2000):s.outR n= .go ⟨s.e,s.g,s.st,s.inp,s.out++[n],s.fuel⟩:=if_neg e
theorem Yi {k:Int}(e:s.st.length+1=40):s.callR k vs= .halt 5:=if_pos e
theorem Yj {k:Int}(e:s.st.length+1≠40):s.callR k vs= .go ⟨s.e,⟨k.toNat,0,0,vs⟩,s.g::s.st,s.inp,s.out,s.fuel⟩:=if_neg e
end
variable {cx:Cx}{w:World}{L:List Res}{p:Nat}{c:RC}{fr:List RFV}{g:RFV}{s:EstS}{out inp:List Int}{fu:Nat}{m:Module}
def KJ (s:EstS)(g:RFV)(fr:List RFV)(inp out:List Int)(fu:Nat):RS:=⟨s,g.abs,(fr.map RFV.abs).reverse,inp,out,fu⟩
def N5 (p:Nat)(c:RC)(fu:Nat)(X:RStp)(cx:Cx)(L:List Res)(u:Value)(w':World):Prop:=
 ∃lv i1 ov fr' g' s' inp' out',X= .go (KJ s' g' fr' inp' out' fu)∧Kh.sl cx i1 inp'∧u= .tuple #[]∧St cx w' (rS p (c.upd lv i1 ov) fr' g' s' out' L)
def UR (p:Nat)(c:RC)(s:EstS)(out:List Int)(X:RStp)(cx:Cx)(L:List Res)(u:Value)(w':World):Prop:=
 ∃e,X= .halt e∧u=W0 e∧∃fr' g',St cx w' (rS p c fr' g' s out L)
def RFV.nx (g:RFV):RFV:=⟨g.f,g.b,g.i+1,g.vv,g.vals⟩
theorem QfO {n:Int}:l.map Qr++[[.int .i64 n]]=(l++[n]).map Qr:=by rw [FG];rfl
theorem Qfz {k:RFV}:N4 fr g++[k.cells]=N4 (fr++[g]) k:=by unfold N4;rw [FG];rfl
theorem Yk {k:RFV}(h:St cx w (sl 2 1 k.vv (k.vals.map Qr)::K3 RFV.res fr::L)):St cx w (K3 RFV.res (fr++[k])::L):=by
 have h1:St cx w (fr.map RFV.res++(RFV.res k::L)):=h.mv1.list;have h2:St cx w ((fr++[k]).map RFV.res++L):=D3;exact h2.list'
theorem Qb9 (h:s.openV<0):s.open=s:=by
 unfold EstS.openV at h;unfold EstS.open;split at h
 · omega
 · rename_i hl;exact if_neg hl
theorem tx {g':RFV}:KJ s g' (fr++[g]) inp out fu=⟨s,g'.abs,g.abs::(fr.map RFV.abs).reverse,inp,out,fu⟩:=by unfold KJ;simp
attribute [local irreducible] RFrm.val RFrm.args EstS.get EstS.getV EstS.code PoolS.word EstS.store EstS.stores EstS.open EstS.openV EstS.shut RS.ins NB
theorem Yl {x : Ins}(hx : Lb.at cx cs x)(hi:Kh.sl cx c.iv inp)(hop:1≤x.op∧x.op≤14)(hk:x.op=14→0≤x.k)(h8:x.args.length≤100)(hgi:g.i≤1000)(hf:fr.length≤900)(hn:g.vals.length≤800000)(hol:out.length≤2000)(hX0:(KJ s g.nx fr inp out fu).ins m x≠ .crash)(hS:St cx w (rS p c fr g s out L)):
 Ky Tryz.prog yh [.pointer (some ⟨p,0,none⟩), .agg ⟨cs⟩] w (N5 p c fu ((KJ s g.nx fr inp out fu).ins m x) cx L) (UR p c s out ((KJ s g.nx fr inp out fu).ins m x) cx L):=by
 (obtain ⟨vr,va,rfl,hr,ha1⟩:=Nx hx;obtain ⟨ep,f1,lv,i1,e1,bv,ov,f2,mo,dn⟩:=c;have hil:=hi.len;unfold Ky;refine Kq Ko Tryz.func83 ?_;refine' KY;intro p3 w1 hS;refine' L5;have hS:St cx _ (rS p ⟨ep,f1,lv,i1,e1,bv,ov,f2,mo,dn⟩ fr g s out (blk p3 84 [.int .i64 x.op, .int .i64 x.a, .int .i64 x.b, .int .i64 x.c, .int .i64 x.k, .int .i64 x.n,vr,va]::L)):=hS.sp;refine' LV;refine' KE (c:=W1 Jo hS);rintro v1 w1 ⟨b9,o9,rfl,hel,hS⟩;refine' MY;refine Q9 hS hel rfl fd (Qc fr g) (Qg fr g) rfl ?_;refine' MX;rw [show ((g.i:Int)+1)=((g.i+1:Nat):Int) by omega];refine' MY;refine SN hS hel rfl vw fd (Qc fr g) (Qg fr g) Jo rfl (tr (g':=g.nx) rfl) ?_;intro w8 hS;have hS:=hS.ns;have hS:St cx _ (rS p ⟨ep,f1,lv,i1,e1,bv,ov,f2,mo,dn⟩ fr g.nx s out (blk p3 84 [.int .i64 x.op, .int .i64 x.a, .int .i64 x.b, .int .i64 x.c, .int .i64 x.k, .int .i64 x.n,vr,va]::L)):=hS.sp;refine' NA;refine' SZ;refine' Kv;first|(refine' Ql)|(refine' Qp)|(refine' Ac<;>intro hc));all_goals (refine' KA)
 all_goals
  first
  | (refine' Ki;have hX:=pe (m:=m) (s:=KJ s g.nx fr inp out fu) (x:=x) Jo;refine' NP;refine K8 hS [_] ?_;intro b1 w1 hS;have hS:=Gh (T:=2) (es:=1) (css:=[x.n].map Qr) hS rfl Dp rfl;have hS:St cx _ (rL p _ fr g.nx (sl 2 1 (.slice (some ⟨b1,0,none⟩) 1 1) ([x.n].map Qr)::_)):=hS.sp;refine' Kr (c:=W2 (j:=0) Jo Dk hS rfl);rintro u1 w1 ⟨tv,rfl,hS⟩;refine' zn;have hG:N5 p ⟨ep,f1,lv,i1,e1,bv,ov,f2,mo,dn⟩ fu ((KJ s g.nx fr inp out fu).ins m x) cx L (.tuple #[]) w1:=⟨lv,i1,ov,fr,g.nx.push tv [x.n],s,inp,out,hX,hi,rfl,hS.sp⟩)
  | (refine' Kk
     (refine' Kv;first|(refine' Ql)|(refine' Qp)|(refine' Ac<;>intro hc));all_goals (refine' KA)
     all_goals
      first
      | (refine' Ki;refine QA ?_;have hX:=pf (m:=m) (s:=KJ s g.nx fr inp out fu) (x:=x) Jo;rw [hX] at hX0;obtain ⟨na,hna,eX⟩:=OD hX0;rw [eX] at hX0;have hX:=hX.trans eX;obtain ⟨nb,hnb,eX⟩:=OD hX0;rw [eX] at hX0;have hX:=hX.trans eX;refine zC [(0,none),(1,none),(2,none),(3,none),(4,none),(6,none),(7,none),(8,none),(5,some (some [1,8])),(9,some (some [1])),(10,some none),(11,none),(12,none),(13,none),(14,none),(15,some none)] ?_;have hS:=hS.drew;refine' KW;refine' Rq;refine' NS;refine' Kr (c:=Ps Jo (show St cx _ (rL p _ fr g.nx _) from hS.sp) hna);rintro v1 w1 ⟨rfl,hS⟩;refine' Li;refine' Kr (c:=Ps Jo (show St cx _ (rL p _ fr g.nx _) from hS.sp) hnb);rintro v1 w1 ⟨rfl,hS⟩;refine' Ly;refine' Lg (c:=jj hS);rintro v1 w1 ⟨rfl,hS⟩;cases hd:(NB x.k na nb).2;(all_goals (refine' Mu;refine' bL;refine' bL;refine' zm;refine' WU;refine' PC;first|(refine' Kr (c:=Yf hS);rintro v1 w1 ⟨rfl,hS⟩)|(refine KH (c:=Yg hS) (p:=by rintro v9 w9 ⟨rfl,hS⟩;(repeat (first|refine' Q6|refine' Q8|refine fun _=>?_));refine' Qe;refine .inr ⟨_,rfl,?_⟩;exact ⟨1,hX.trans (if_pos hd),rfl,fr,g.nx,hS.sp⟩) (h:=fun _ _ h=>h.elim))));refine' Ul;refine K8 hS [_] ?_;intro b1 w1 hS;have hS:=Gh (T:=2) (es:=1) (css:=[(NB x.k na nb).1].map Qr) hS rfl Dp rfl;have hS:St cx _ (rL p _ fr g.nx (sl 2 1 (.slice (some ⟨b1,0,none⟩) 1 1) ([(NB x.k na nb).1].map Qr)::_)):=hS.sp;refine' Kr (c:=W2 (j:=0) Jo Dk hS rfl);rintro u1 w1 ⟨tv,rfl,hS⟩;refine' zn;have hG:N5 p ⟨ep,f1,lv,i1,e1,bv,ov,f2,mo,dn⟩ fu ((KJ s g.nx fr inp out fu).ins m x) cx L (.tuple #[]) w1:=⟨lv,i1,ov,fr,g.nx.push tv [(NB x.k na nb).1],s,inp,out,hX.trans (if_neg (by rw [hd];decide)),hi,rfl,hS.sp⟩)
      | (refine' Kk
         (refine' Kv;first|(refine' Ql)|(refine' Qp)|(refine' Ac<;>intro hc));all_goals (refine' KA)
         all_goals
          first
          | (refine' Ki;(refine QA ?_;have hX:=pg (m:=m) (s:=KJ s g.nx fr inp out fu) (x:=x) Jo;refine' So;refine' KE (c:=X8 (e:=ep) (s:=s) hS fd);rintro v1 w1 ⟨rfl,hS⟩;have hS:=hS.ns;refine' L6;first|(refine' KX)|(refine' K1)|(refine' Ae<;>intro hc));(all_goals (first|(refine' Kr (c:=Yf hS);rintro v1 w1 ⟨rfl,hS⟩)|(refine KH (c:=Yg hS) (p:=by rintro v9 w9 ⟨rfl,hS⟩;(repeat (first|refine' Q6|refine' Q8|refine fun _=>?_));refine' Qe;refine .inr ⟨_,rfl,?_⟩;first|(exact A8)) (h:=fun _ _ h=>h.elim))));refine' Ul;refine K8 hS [_] ?_;intro b1 w1 hS;have hS:=Gh (T:=2) (es:=1) (css:=[s.openV].map Qr) hS rfl Dp rfl;have hS:St cx _ (rL p _ fr g.nx (sl 2 1 (.slice (some ⟨b1,0,none⟩) 1 1) ([s.openV].map Qr)::_)):=hS.sp;refine' Kr (c:=W2 (j:=0) Jo Dk hS rfl);rintro u1 w1 ⟨tv,rfl,hS⟩;refine' zn;have hG:N5 p ⟨ep,f1,lv,i1,e1,bv,ov,f2,mo,dn⟩ fu ((KJ s g.nx fr inp out fu).ins m x) cx L (.tuple #[]) w1:=⟨lv,i1,ov,fr,g.nx.push tv [s.openV],s.open,inp,out,hX.trans (if_neg (show¬s.openV<0 by omega)),hi,rfl,hS.sp⟩)
          | (refine' Kk
             (refine' Kv;first|(refine' Ql)|(refine' Qp)|(refine' Ac<;>intro hc));all_goals (refine' KA)
             all_goals
              first
              | (refine' Ki;have hX:=ph (m:=m) (s:=KJ s g.nx fr inp out fu) (x:=x) Jo;rw [hX] at hX0;obtain ⟨a,ha,eX⟩:=OD hX0;rw [eX] at hX0;have hX:=hX.trans eX;refine zC [(0,none),(1,none),(2,none),(3,none),(4,none),(5,none),(6,none),(7,some (some [3])),(8,some none)] ?_;have hS:=hS.drew;refine' Pk;refine' NS;refine' Kr (c:=Ps Jo (show St cx _ (rL p _ fr g.nx _) from hS.sp) ha);rintro v1 w1 ⟨rfl,hS⟩;refine' Ly;refine' Kr (c:=X9 (e:=ep) (s:=s) a hS fd);rintro v1 w1 ⟨rfl,hS⟩;have hS:=hS.ns;refine' Lq;have hG:N5 p ⟨ep,f1,lv,i1,e1,bv,ov,f2,mo,dn⟩ fu ((KJ s g.nx fr inp out fu).ins m x) cx L (.tuple #[]) w1:=⟨lv,i1,ov,fr,g.nx,s.shut a,inp,out,hX,hi,rfl,hS.sp⟩)
              | (refine' Kk
                 (refine' Kv;first|(refine' Ql)|(refine' Qp)|(refine' Ac<;>intro hc));all_goals (refine' KA)
                 all_goals
                  first
                  | (refine' Ki;have hX:=pj (m:=m) (s:=KJ s g.nx fr inp out fu) (x:=x) Jo;rw [hX] at hX0;obtain ⟨a,ha,eX⟩:=OD hX0;rw [eX] at hX0;have hX:=hX.trans eX;obtain ⟨vs,hvs,eX⟩:=OD hX0;rw [eX] at hX0;have hX:=hX.trans eX;refine' OT;refine KH (c:=UP (s:=s) (out:=out) (x:=x) hx h8 rfl Jo DX ha hvs (show St cx _ (rS p ⟨ep,f1,lv,i1,e1,bv,ov,f2,mo,dn⟩ fr g.nx s out _) from hS.sp)) (p:=by rintro u9 w9 ⟨h14,rfl,hS⟩;(repeat (first|refine' Q6|refine' Q8|refine fun _=>?_));refine' Qe;refine .inr ⟨_,rfl,?_⟩;rw [(i4 Jo).1] at hS;exact ⟨6,hX.trans (UQ h14),rfl,fr,g.nx,hS.sp⟩) (h:=?_);rintro u1 w1 ⟨h14,rfl,tv,hS⟩;refine' zn;have hG:N5 p ⟨ep,f1,lv,i1,e1,bv,ov,f2,mo,dn⟩ fu ((KJ s g.nx fr inp out fu).ins m x) cx L (.tuple #[]) w1:=⟨lv,i1,ov,fr,g.nx.push tv [s.getV a (max (x.args.length:Int) 1)],((s.get a (max (x.args.length:Int) 1)).stores (s.getV a (max (x.args.length:Int) 1)) vs),inp,out,hX.trans (aa h14),hi,rfl,hS.sp⟩)
                  | (refine' Kk
                     (refine' Kv;first|(refine' Ql)|(refine' Qp)|(refine' Ac<;>intro hc));all_goals (refine' KA)
                     all_goals
                      first
                      | (refine' Ki;have hX:=pk (m:=m) (s:=KJ s g.nx fr inp out fu) (x:=x) Jo;rw [hX] at hX0;obtain ⟨a,ha,eX⟩:=OD hX0;rw [eX] at hX0;have hX:=hX.trans eX;obtain ⟨b5,pp,rv,ho,hS⟩:=Su (hS.out (i:=4) rfl);obtain rfl:=ho.he;refine zC [(0,none),(1,none),(2,none),(3,none),(4,none),(6,none),(7,none),(5,some (some [7])),(8,none),(9,some (some [])),(10,some (some [])),(11,some none)] ?_;have hS:=hS.drew;refine' Og;refine' T9;refine' Nu;refine' Od;refine' Kr (c:=Ps Jo (show St cx _ (rL p _ fr g.nx _) from hS.sp) ha);rintro v1 w1 ⟨rfl,hS⟩;refine' Mp;refine' iS;refine' Lp;refine' Kr (c:=lO (q:=s.p) (wr (a+x.k)) rfl (show St cx _ (rL p _ fr g.nx (blk b5 73 (pp::LW rv)::Me pp s.p::_)) from hS.sp));rintro v1 w1 ⟨rfl,hS⟩;refine' Li;refine K8 hS [_] ?_;intro b1 w1 hS;refine' Ly;have hS:=Gh (T:=2) (es:=1) (css:=[s.p.word (wr (a+x.k))].map Qr) hS rfl Dp rfl;have hS:St cx _ (rL p _ fr g.nx (sl 2 1 (.slice (some ⟨b1,0,none⟩) 1 1) ([s.p.word (wr (a+x.k))].map Qr)::_)):=hS.sp;refine' Kr (c:=W2 (j:=0) Jo Dk hS rfl);rintro u1 w1 ⟨tv,rfl,hS⟩;refine' Lq;have hG:N5 p ⟨.pointer (some ⟨b5,0,none⟩),f1,lv,i1,e1,bv,ov,f2,mo,dn⟩ fu ((KJ s g.nx fr inp out fu).ins m x) cx L (.tuple #[]) w1:=by have hS:=PS ho (show St cx _ (blk b5 73 (pp::LW rv)::Me pp s.p::K3 RegV.res rv::_) from hS.sp);exact ⟨lv,i1,ov,fr,g.nx.push tv [s.p.word (wr (a+x.k))],s,inp,out,hX,hi,rfl,hS.sp⟩)
                      | (refine' Kk
                         (refine' Kv;first|(refine' Ql)|(refine' Qp)|(refine' Ac<;>intro hc));all_goals (refine' KA)
                         all_goals
                          first
                          | (refine' Ki;have hX:=pn (m:=m) (s:=KJ s g.nx fr inp out fu) (x:=x) Jo;rw [hX] at hX0;obtain ⟨a,ha,eX⟩:=OD hX0;rw [eX] at hX0;have hX:=hX.trans eX;obtain ⟨b0,hb0,eX⟩:=OD hX0;rw [eX] at hX0;have hX:=hX.trans eX;obtain ⟨b5,pp,rv,ho,hS⟩:=Su (hS.out (i:=4) rfl);obtain rfl:=ho.he;refine zC [(0,none),(1,none),(2,none),(3,none),(4,none),(5,none),(6,none),(7,none),(8,none),(9,none),(11,none),(12,none),(14,none),(15,none),(16,none),(10,some (some [3,6,12,16])),(13,none),(17,some (some [3,6,12])),(18,some none)] ?_;have hS:=hS.drew;refine' Pk;refine' Nu;refine' Nb;refine' Rq;refine' Nu;refine' NS;refine' Kr (c:=Ps Jo (show St cx _ (rL p _ fr g.nx _) from hS.sp) ha);rintro v1 w1 ⟨rfl,hS⟩;refine' Mp;refine' iS;refine' Lp;refine' Kr (c:=Ps Jo (show St cx _ (rL p _ fr g.nx _) from hS.sp) hb0);rintro v1 w1 ⟨rfl,hS⟩;refine' Ly;refine' Lg (c:=lK (s:=s.p) (wr (a+x.k)) b0 hS fd);rintro v1 w1 ⟨rfl,hS⟩;have hS:=hS.ns;refine' Lq;have hG:N5 p ⟨.pointer (some ⟨b5,0,none⟩),f1,lv,i1,e1,bv,ov,f2,mo,dn⟩ fu ((KJ s g.nx fr inp out fu).ins m x) cx L (.tuple #[]) w1:=by have hS:=lP ho (show St cx _ (blk b5 73 (pp::LW rv)::Me pp _::K3 RegV.res rv::_) from hS.sp);exact ⟨lv,i1,ov,fr,g.nx,(s.store (wr (a+x.k)) b0),inp,out,hX,hi,rfl,hS.sp⟩)
                          | (refine' Kk
                             (refine' Kv;first|(refine' Ql)|(refine' Qp)|(refine' Ac<;>intro hc));all_goals (refine' KA)
                             all_goals
                              first
                              | (refine' Ki;have hX:=po (m:=m) (s:=KJ s g.nx fr inp out fu) (x:=x) Jo;rw [hX] at hX0;obtain ⟨a,ha,eX⟩:=OD hX0;rw [eX] at hX0;have hX:=hX.trans eX;obtain ⟨n,hna,eX⟩:=OD hX0;rw [eX] at hX0;have hX:=hX.trans eX;refine' OT;refine KH (c:=UO (s:=s) (out:=out) (x:=x) hx Jo DX ha hna (show St cx _ (rS p ⟨ep,f1,lv,i1,e1,bv,ov,f2,mo,dn⟩ fr g.nx s out _) from hS.sp)) (p:=by rintro u9 w9 hB;(repeat (first|refine' Q6|refine' Q8|refine fun _=>?_));refine' Qe;refine .inr ⟨_,rfl,?_⟩;(rcases hB with ⟨hnn,rfl,hS⟩|⟨hnn,h14,rfl,hS⟩;(exact ⟨3,hX.trans (if_pos hnn),rfl,fr,g.nx,hS.sp⟩);(rw [(i4 Jo).1] at hS;exact ⟨6,hX.trans ((if_neg hnn).trans (UQ h14)),rfl,fr,g.nx,hS.sp⟩))) (h:=?_);rintro u1 w1 ⟨hnn,h14,rfl,tv,hS⟩;refine' zn;have hG:N5 p ⟨ep,f1,lv,i1,e1,bv,ov,f2,mo,dn⟩ fu ((KJ s g.nx fr inp out fu).ins m x) cx L (.tuple #[]) w1:=⟨lv,i1,ov,fr,g.nx.push tv [s.getV a (1+n)],((s.get a (1+n)).store (s.getV a (1+n)) n),inp,out,hX.trans ((if_neg hnn).trans (aa h14)),hi,rfl,hS.sp⟩)
                              | (refine' Kk
                                 (refine' Kv;first|(refine' Ql)|(refine' Qp)|(refine' Ac<;>intro hc));all_goals (refine' KA)
                                 all_goals
                                  first
                                  | (refine' Ki;have hX:=pq (m:=m) (s:=KJ s g.nx fr inp out fu) (x:=x) Jo;rw [hX] at hX0;obtain ⟨a,ha,eX⟩:=OD hX0;rw [eX] at hX0;have hX:=hX.trans eX;obtain ⟨k,hkk,eX⟩:=OD hX0;rw [eX] at hX0;have hX:=hX.trans eX;obtain ⟨b5,pp,rv,ho,hS⟩:=Su (hS.out (i:=4) rfl);obtain rfl:=ho.he;refine' MZ;refine' zm;refine zv hS ?_;refine KH (c:=Z9 (q:=s.p) (x:=x) rfl hx Jo ha hkk (show St cx _ (rL p _ fr g.nx (blk b5 73 (pp::LW rv)::Me pp s.p::_)) from hS.sp)) (p:=by rintro u9 w9 ⟨hb9,rfl,hS⟩;(repeat (first|refine' Q6|refine' Q8|refine fun _=>?_));refine' Qe;refine .inr ⟨_,rfl,?_⟩;have hS:=PS ho (show St cx _ (blk b5 73 (pp::LW rv)::Me pp s.p::K3 RegV.res rv::_) from hS.sp);exact ⟨2,hX.trans (jq hb9),rfl,fr,g.nx,hS.sp⟩) (h:=?_);rintro u1 w2 ⟨hnb,rfl,hS⟩;refine' Kr (c:=lO (q:=s.p) (wr (wr (a+1)+k)) rfl (show St cx _ (rL p _ fr g.nx (blk b5 73 (pp::LW rv)::Me pp s.p::_)) from hS.sp));rintro v1 w1 ⟨rfl,hS⟩;refine K8 hS [_] ?_;intro b1 w1 hS;have hS:=Gh (T:=2) (es:=1) (css:=[s.p.word (wr (wr (a+1)+k))].map Qr) hS rfl Dp rfl;have hS:St cx _ (rL p _ fr g.nx (sl 2 1 (.slice (some ⟨b1,0,none⟩) 1 1) ([s.p.word (wr (wr (a+1)+k))].map Qr)::_)):=hS.sp;refine' Kr (c:=W2 (j:=0) Jo Dk hS rfl);rintro u1 w1 ⟨tv,rfl,hS⟩;refine' zn;have hG:N5 p ⟨.pointer (some ⟨b5,0,none⟩),f1,lv,i1,e1,bv,ov,f2,mo,dn⟩ fu ((KJ s g.nx fr inp out fu).ins m x) cx L (.tuple #[]) w1:=by have hS:=PS ho (show St cx _ (blk b5 73 (pp::LW rv)::Me pp s.p::K3 RegV.res rv::_) from hS.sp);exact ⟨lv,i1,ov,fr,g.nx.push tv [s.p.word (wr (wr (a+1)+k))],s,inp,out,hX.trans (jr hnb),hi,rfl,hS.sp⟩)
                                  | (refine' Kk
                                     (refine' Kv;first|(refine' Ql)|(refine' Qp)|(refine' Ac<;>intro hc));all_goals (refine' KA)
                                     all_goals
                                      first
                                      | (refine' Ki;have hX:=jk (m:=m) (s:=KJ s g.nx fr inp out fu) (x:=x) Jo;rw [hX] at hX0;obtain ⟨a,ha,eX⟩:=OD hX0;rw [eX] at hX0;have hX:=hX.trans eX;obtain ⟨k,hkk,eX⟩:=OD hX0;rw [eX] at hX0;have hX:=hX.trans eX;obtain ⟨y,hy,eX⟩:=OD hX0;rw [eX] at hX0;have hX:=hX.trans eX;obtain ⟨b5,pp,rv,ho,hS⟩:=Su (hS.out (i:=4) rfl);obtain rfl:=ho.he;refine zC [(0,none),(1,none),(2,none),(3,none),(4,none),(5,none),(6,none),(7,none),(8,none),(10,none),(11,none),(12,none),(9,some (some [3,6,12])),(13,some (some [3,6])),(14,some none)] ?_;have hS:=hS.drew;refine' Pk;refine' Nu;refine' Nb;refine' Rq;refine zv hS ?_;refine' Mu;refine' Od;refine KH (c:=Z9 (q:=s.p) (x:=x) rfl hx Jo ha hkk (show St cx _ (rL p _ fr g.nx (blk b5 73 (pp::LW rv)::Me pp s.p::_)) from hS.sp)) (p:=by rintro u9 w9 ⟨hb9,rfl,hS⟩;(repeat (first|refine' Q6|refine' Q8|refine fun _=>?_));refine' Qe;refine .inr ⟨_,rfl,?_⟩;have hS:=PS ho (show St cx _ (blk b5 73 (pp::LW rv)::Me pp s.p::K3 RegV.res rv::_) from hS.sp);exact ⟨2,hX.trans (jq hb9),rfl,fr,g.nx,hS.sp⟩) (h:=?_);rintro u1 w2 ⟨hnb,rfl,hS⟩;refine' Li;refine' Kr (c:=Ps Jo (show St cx _ (rL p _ fr g.nx _) from hS.sp) hy);rintro v1 w1 ⟨rfl,hS⟩;refine' Ly;refine' Lg (c:=lK (s:=s.p) (wr (wr (a+1)+k)) y hS fd);rintro v1 w1 ⟨rfl,hS⟩;have hS:=hS.ns;refine' Lq;have hG:N5 p ⟨.pointer (some ⟨b5,0,none⟩),f1,lv,i1,e1,bv,ov,f2,mo,dn⟩ fu ((KJ s g.nx fr inp out fu).ins m x) cx L (.tuple #[]) w1:=by have hS:=lP ho (show St cx _ (blk b5 73 (pp::LW rv)::Me pp _::K3 RegV.res rv::_) from hS.sp);exact ⟨lv,i1,ov,fr,g.nx,(s.store (wr (wr (a+1)+k)) y),inp,out,hX.trans (jr hnb),hi,rfl,hS.sp⟩)
                                      | (refine' Kk
                                         (refine' Kv;first|(refine' Ql)|(refine' Qp)|(refine' Ac<;>intro hc));all_goals (refine' KA)
                                         all_goals
                                          first
                                          | (refine' Ki;have hX:=jl (m:=m) (s:=KJ s g.nx fr inp out fu) (x:=x) Jo;rw [hX] at hX0;obtain ⟨a,ha,eX⟩:=OD hX0;rw [eX] at hX0;have hX:=hX.trans eX;obtain ⟨b5,pp,rv,ho,hS⟩:=Su (hS.out (i:=4) rfl);obtain rfl:=ho.he;refine' MZ;refine' zm;refine' KZ;refine' Kr (c:=Ps Jo (show St cx _ (rL p _ fr g.nx _) from hS.sp) ha);rintro v1 w1 ⟨rfl,hS⟩;refine' Kr (c:=lO (q:=s.p) (a) rfl (show St cx _ (rL p _ fr g.nx (blk b5 73 (pp::LW rv)::Me pp s.p::_)) from hS.sp));rintro v1 w1 ⟨rfl,hS⟩;refine K8 hS [_] ?_;intro b1 w1 hS;have hS:=Gh (T:=2) (es:=1) (css:=[s.p.word a].map Qr) hS rfl Dp rfl;have hS:St cx _ (rL p _ fr g.nx (sl 2 1 (.slice (some ⟨b1,0,none⟩) 1 1) ([s.p.word a].map Qr)::_)):=hS.sp;refine' Kr (c:=W2 (j:=0) Jo Dk hS rfl);rintro u1 w1 ⟨tv,rfl,hS⟩;refine' zn;have hG:N5 p ⟨.pointer (some ⟨b5,0,none⟩),f1,lv,i1,e1,bv,ov,f2,mo,dn⟩ fu ((KJ s g.nx fr inp out fu).ins m x) cx L (.tuple #[]) w1:=by have hS:=PS ho (show St cx _ (blk b5 73 (pp::LW rv)::Me pp s.p::K3 RegV.res rv::_) from hS.sp);exact ⟨lv,i1,ov,fr,g.nx.push tv [s.p.word a],s,inp,out,hX,hi,rfl,hS.sp⟩)
                                          | (refine' Kk
                                             (refine' Kv;first|(refine' Ql)|(refine' Qp)|(refine' Ac<;>intro hc));all_goals (refine' KA)
                                             all_goals
                                              first
                                              | (refine' Ki;(refine QA ?_;have hX:=jm (m:=m) (s:=KJ s g.nx fr inp out fu) (x:=x) Jo;obtain ⟨av,nv,hiv⟩:=Fx hi;refine' So;refine iy vw hi ?_;first|(refine' Ql)|(refine' Qp)|(refine' Ac<;>intro hc));(all_goals (first|(refine' Kr (c:=Yf hS);rintro v1 w1 ⟨rfl,hS⟩)|(refine KH (c:=Yg hS) (p:=by rintro v9 w9 ⟨rfl,hS⟩;(repeat (first|refine' Q6|refine' Q8|refine fun _=>?_));refine' Qe;refine .inr ⟨_,rfl,?_⟩;first|(first|exact A8|exact Bq)) (h:=fun _ _ h=>h.elim))));refine' L5;obtain ⟨n0,r0,hir⟩:∃n0 r0,inp=n0::r0:=IL Jo;refine' MZ;refine' Mf;refine TY (m:=0) vw rfl hi rfl Jo ?_;intro b8 o8 cs8 x8 hat8 hx8 he8;rw [hir,FQ] at hx8;cases hx8;obtain rfl:=QG he8;refine' N0;refine K8 hS [_] ?_;intro b1 w1 hS;have hS:=Gh (T:=2) (es:=1) (css:=[n0].map Qr) hS rfl Dp rfl;have hS:St cx _ (rL p _ fr g.nx (sl 2 1 (.slice (some ⟨b1,0,none⟩) 1 1) ([n0].map Qr)::_)):=hS.sp;refine' Kr (c:=W2 (j:=0) Jo Dk hS rfl);rintro u1 w1 ⟨tv,rfl,hS⟩;refine' Ul;refine' Mf;refine iz (l':=1) (h':=inp.length) vw hi rfl rfl rfl ⟨_,rfl⟩ Jo Jo ?_;intro v7 hk7;have hk7:Kh.sl cx v7 r0:=(by rw [hir] at hk7;simpa using hk7);obtain ⟨a7,n7,rfl⟩:=Fx hk7;refine' Lh;refine LU hS ?_;intro w1 hS;have hS:=hS.ns;refine' zn;have hG:N5 p ⟨ep,f1,lv,i1,e1,bv,ov,f2,mo,dn⟩ fu ((KJ s g.nx fr inp out fu).ins m x) cx L (.tuple #[]) w1:=⟨lv,_,ov,fr,g.nx.push tv [n0],s,r0,out,hX.trans (js hir),hk7,rfl,hS.sp⟩)
                                              | (refine' Kk
                                                 (refine' Kv;first|(refine' Ql)|(refine' Qp)|(refine' Ac<;>intro hc));all_goals (refine' KA)
                                                 all_goals
                                                  first
                                                  | (refine' Ki;(refine QA ?_;have hX:=jn (m:=m) (s:=KJ s g.nx fr inp out fu) (x:=x) Jo;rw [hX] at hX0;obtain ⟨n,hnn,eX⟩:=OD hX0;rw [eX] at hX0;have hX:=hX.trans eX;refine' LV;refine' PN;refine QL (n:=out.length) hS vw fd (Fb _) ?_;first|(refine' Ql)|(refine' Qp)|(refine' Ac<;>intro hc));(all_goals (first|(refine' Kr (c:=Yf hS);rintro v1 w1 ⟨rfl,hS⟩)|(refine KH (c:=Yg hS) (p:=by rintro v9 w9 ⟨rfl,hS⟩;(repeat (first|refine' Q6|refine' Q8|refine fun _=>?_));refine' Qe;refine .inr ⟨_,rfl,?_⟩;first|(first|exact A8|exact Bq|exact Ct)) (h:=fun _ _ h=>h.elim))));refine' zn;refine zC [(0,none),(1,none),(2,none),(3,none),(4,none),(5,none),(6,none),(7,none),(8,none),(9,some (some [5])),(10,some (some [5])),(11,some (some [])),(12,none),(13,none),(14,none),(15,some none)] ?_;have hS:=hS.drew;refine' Og;refine' Nb;refine' X0;refine' Mu;refine' Od;refine' Kr (c:=Ps Jo (show St cx _ (rL p _ fr g.nx _) from hS.sp) hnn);rintro v1 w1 ⟨rfl,hS⟩;refine' Li;refine K8 hS [_] ?_;intro b1 w1 hS;refine' Li;refine NL S7 (.inl WZ) hS vw vw (v:=ov) (css:=out.map Qr) fd (hS.srcB fd Jr Dl) Du ?_;intro v7 w7 hS;have hS:=hS.ns;have ho7:=hS.oneC (v:=v7) (css:=out.map Qr++[[.int .i64 n]]) fd;rw [QfO] at hS;refine' Mp;refine' Nb;refine' SS;refine' Nt;refine' Lk;refine LU hS ?_;intro w1 hS;have hS:=hS.ns;refine' Lq;have hG:N5 p ⟨ep,f1,lv,i1,e1,bv,ov,f2,mo,dn⟩ fu ((KJ s g.nx fr inp out fu).ins m x) cx L (.tuple #[]) w1:=⟨lv,i1,v7,fr,g.nx,s,inp,out++[n],hX.trans (cO (by show out.length≠2000;omega)),hi,rfl,hS.sp⟩)
                                                  | (refine' Kk
                                                     refine' Kv;refine' XZ
                                                     all_goals
                                                      first
                                                      | (refine' Ki;(refine QA ?_;have hX:=jo (m:=m) (s:=KJ s g.nx fr inp out fu) (x:=x) Jo;rw [hX] at hX0;obtain ⟨vs,hvs,eX⟩:=OD hX0;rw [eX] at hX0;have hX:=hX.trans eX;refine' So;refine QL (n:=fr.length+1) hS vw fd (Qc fr g.nx) ?_;first|(refine' Ql)|(refine' Qp)|(refine' Ac<;>intro hc));(all_goals (first|(refine' Kr (c:=Yf hS);rintro v1 w1 ⟨rfl,hS⟩)|(refine KH (c:=Yg hS) (p:=by rintro v9 w9 ⟨rfl,hS⟩;(repeat (first|refine' Q6|refine' Q8|refine fun _=>?_));refine' Qe;refine .inr ⟨_,rfl,?_⟩;first|(first|exact A8|exact Bq|exact Ct|exact ⟨5,hX.trans (Yi (by show (fr.map RFV.abs).reverse.length+1=40;rw [Hm,Fb];omega)),rfl,fr,g.nx,hS.sp⟩)) (h:=fun _ _ h=>h.elim))));refine' zn;refine zC [(0,none),(1,none),(2,none),(3,none),(4,none),(5,none),(6,none),(7,none),(8,none),(9,none),(10,some (some [4,6])),(11,none),(12,some (some [4])),(13,some (some [])),(14,none),(15,none),(16,some none)] ?_;have hS:=hS.drew;refine' Og;refine' Nb;refine' Nu;refine' NS;refine' Kr (c:=cH Jo Jo ha1 hvs (show St cx _ (rL p _ fr g.nx _) from hS.sp));rintro v2 w2 ⟨hvl,ho2,hS⟩;obtain ⟨a2,n2,rfl⟩:=hS.shape (i:=4) rfl;refine' Mp;refine M9 [_,_,_,_] ?_;refine' Lp;refine K8 hS [_,_,_,_] ?_;intro b1 w1 hS;refine' Li;refine NL cB (.inl ja) hS vw vw (v:=lv) (css:=N4 fr g.nx) fd (hS.srcB fd Jr Dl) (by rw [Qc];simp only [Fk,FF];omega) ?_;intro v7 w7 hS;have hS:=hS.ns;have ho7:=hS.oneC (v:=v7) fd;refine' Mp;refine' Nb;refine' MA;refine' Lk;refine LU hS ?_;intro w1 hS;have hS:=hS.ns;refine' Lq;have hG:N5 p ⟨ep,f1,lv,i1,e1,bv,ov,f2,mo,dn⟩ fu ((KJ s g.nx fr inp out fu).ins m x) cx L (.tuple #[]) w1:=(by rw [show Value.int .i64 x.k= .int .i64 ((x.k.toNat:Nat):Int) by rw [FO (hk Jo)]] at hS;have e9:N4 fr g.nx++[[.int .i64 ((x.k.toNat:Nat):Int), .int .i64 0, .int .i64 0, .slice a2 (vs.map Qr).length n2]]=N4 (fr++[g.nx]) ⟨x.k.toNat,0,0, .slice a2 (vs.map Qr).length n2,vs⟩:=Qfz (k:=⟨x.k.toNat,0,0, .slice a2 (vs.map Qr).length n2,vs⟩);rw [e9] at hS;have hS:=Yk (k:=g.nx) (fr:=fr) (L:=_) (show St cx _ (sl 2 1 g.nx.vv (g.nx.vals.map Qr)::K3 RFV.res fr::_) from hS.sp);exact ⟨v7,i1,ov,fr++[g.nx],⟨x.k.toNat,0,0, .slice a2 (vs.map Qr).length n2,vs⟩,s,inp,out,(hX.trans (Yj (by show (fr.map RFV.abs).reverse.length+1≠40;rw [Hm,Fb];omega))).trans (by rw [tx];rfl),hi,rfl,hS.sp⟩)))))))))))))))
 all_goals (refine' LJ;exact Aw)
end
end Go.Proofs.YteflkifmgnpbhaaGreat
