
/- Lemmas of the proof, part 4: what the functions of the program do (contracts), and what follows. -/
import Derived.Test.YteflkifmgnpbhaaGreatZ3
import Derived.Test.YteflkifmgnpbhaaGreatZ2
open Go Go.Lir Go.Proofs.YteflkifmgnpbhaaGreat
variable {α:Type}{x:Ins}{y r a c d:Res}{k n:Int}{l ns:List Int}{t j N q:Nat}{f:Fun}{b:Block}{e:Tail}{m:Module}{u v1:Value}{s:MS}{v:Val}{g:Frm}{vs:List Val}{cs:List Value}{h:HpS}{X:Stp}
set_option linter.unusedVariables false
set_option linter.unusedSimpArgs false
set_option maxHeartbeats 1000000
namespace Go.Lir
section
variable {p:Prop}
theorem Dm (h:p:=by simp [Val.cells]):p:=h
theorem Dw (h:p:=by first|exact AK|rfl):p:=h
theorem D0 (h:p:=by rw [Qn];omega):p:=h
theorem D6 (h:p:=by show St cx _ (blk p _ _::sl _ 5 c.lv _::sl _ 4 g.vv _::sl _ 1 v7 (List.map _ (g.regs++[h.openV.region]))::_);rw [FG];exact hS.sp):p:=h
theorem Ea (h:p:=by show¬(h.get v x.k).2≠0;omega):p:=h
theorem Ee (h:p:=by have:=of_decide_eq_false hop;omega):p:=h
theorem Eh (h:p:=by unfold HpS.get;rw [e0]):p:=h
theorem Ei (h:p:=by first|(exact AL)|(exact As)):p:=h
theorem Ev (h:p:=by unfold HpS.open;rw [hf];rfl):p:=h
theorem Ex (h:p:=by rw [hge,if_pos ⟨hta,hx1⟩]):p:=h
theorem Ey (h:p:=by unfold HpS.setC;rw [e0];first|done|fail):p:=h
theorem EK (h:p:=by unfold HpS.can;rw [decide_eq_false hk,I2]):p:=h
theorem EO (h:p:=by rw [hge,if_neg (by simp [hta,hx1]),if_neg Jo]):p:=h
theorem ET (h:p:=by first|omega|(simp only [Fb,Fc,Fk,FF,FL,F6];omega)|(simp;done)|(simp;omega)):p:=h
theorem EY (h:p:=by unfold HpS.can;rw [hh,Bool.and_false]):p:=h
theorem E0 (h:p:=by unfold Ins.odd;simp only [←or_assoc];first|exact .inl (hq6.1 rfl)|exact .inr ⟨(by first|rfl|assumption),Jo⟩):p:=h
end
end Go.Lir
namespace Go.Lir
section
variable {p:Prop}
theorem AG (h:p:=by exact ⟨_,rfl,rfl,(Qz ho (L:=L.eraseIdx i) hS.sp).back hi⟩):p:=h
theorem AH (h:p:=by exact .inl ⟨hX.trans (Ru hv),rfl,hS.sp⟩):p:=h
theorem AJ (h:p:=by exact nF hS rfl fd rfl rfl):p:=h
theorem AK (h:p:=by exact Fb _):p:=h
theorem AL (h:p:=by exact Qt hS hel rfl fd (Qn fr g) (Qu fr g) rfl):p:=h
theorem AV (h:p:=by exact ⟨_,rfl,rfl,(Qz ho (L:=L.eraseIdx i) hS.sp).back0 hi⟩):p:=h
theorem AW (h:p:=by exact nO hS Ja rfl rfl rfl):p:=h
theorem AZ (h:p:=by exact .inl ⟨hX.trans ((Q5 hv).trans (Ru hnn)),rfl,hS.sp⟩):p:=h
theorem A7 (h:p:=by exact ⟨_,rfl,rfl,(Qz ho1 (L:=L.eraseIdx i) hS.sp).back hi⟩):p:=h
theorem Bc (h:p:=by exact .inr ⟨2,hX.trans ((Q5 hv).trans ((Q5 hnn).trans (pr hk4 e0))),rfl,fr,g.nx,N,Jo,hS.sp⟩):p:=h
theorem Bd (h:p:=by exact .inl ⟨hX.trans ((Q5 hv).trans ((Q5 hnn).trans (pt (e0 v hv)))),rfl,hS.sp⟩):p:=h
theorem Bm (h:p:=by exact .inl ⟨(Q5 hv).trans ((Q5 hm).trans ((if_neg Jo).trans (tz e0 e1))),rfl,hS.sp⟩):p:=h
theorem Bn (h:p:=by exact .inl ⟨Ru hv,rfl,hS.sp⟩):p:=h
theorem Bp (h:p:=by exact .inl ⟨hX.trans ((Q5 hv).trans ((if_neg Jo).trans (if_pos (by show (h.get v x.k).2≠0;omega)))),rfl,hS.sp⟩):p:=h
theorem Bz (h:p:=by exact .inl ⟨jt hvs Jo,rfl,hS.sp⟩):p:=h
theorem BD (h:p:=by exact .inr ⟨6,(Q5 hv).trans ((Q5 hm).trans ((if_neg Jo).trans (tA e0))),rfl,fr,g,N+1,FE _,by rw [Qip Jo] at hS;exact hS.sp⟩):p:=h
theorem BH (h:p:=by exact .inl ⟨_,rfl,c.lv,c.iv,c.ov,fr,_,_,_,inp,out,(Q5 hv).trans ((Q5 hm).trans ((if_neg Jo).trans (tC e0))),hi,FE _,rfl,hS.sp⟩):p:=h
theorem BK (h:p:=by exact .inl ⟨(Q5 hv).trans (Ru hm),rfl,hS.sp⟩):p:=h
theorem BS (h:p:=by exact ⟨_,rfl,hS.sp, .inl ⟨by rw [e1];simp [hta,hk4],rfl⟩⟩):p:=h
theorem BT (h:p:=by exact .inr ⟨3,(Q5 hv).trans ((Q5 hm).trans (if_pos Jo)),rfl,fr,g,N,Jo,hS.sp⟩):p:=h
theorem BV (h:p:=by exact ⟨_,rfl,hS.sp, .inl ⟨e0,rfl⟩⟩):p:=h
theorem B0 (h:p:=by exact ⟨_,rfl,by unfold HpS.len;rw [e0];simp only [ho.thg hr hth];rfl,(Qz ho (L:=L.eraseIdx i) hS.sp).back0 hi⟩):p:=h
theorem CB (h:p:=by exact ⟨.inl ⟨fun v' h h4=>(by rw [hv] at h;cases h;omega),rfl⟩,hS.sp⟩):p:=h
theorem CG (h:p:=by exact .inl ⟨hX.trans ((Q5 hrs).trans ((Q5 hvs).trans (if_pos Jo))),rfl,hS.sp⟩):p:=h
theorem CO (h:p:=by exact .inl ⟨hX.trans ((Q5 hrs).trans (Ru hvs)),rfl,hS.sp⟩):p:=h
theorem CX (h:p:=by exact .inr ⟨8,hX.trans ((Q5 hnn).trans (ju (by show out.length=2000;omega))),rfl,fr,g.nx,N,Jo,hS.sp⟩):p:=h
theorem C3 (h:p:=by exact .inl ⟨hX.trans ((Q5 hv).trans (if_pos Jo)),rfl,hS.sp⟩):p:=h
end
end Go.Lir
namespace Go.Lir
section
variable {p:Prop}
theorem Ah (h:p:=by first|(refine ⟨_,rfl,?_,hS.sp⟩;rw [if_pos (by have:=of_decide_eq_false hop;omega)];done)|(refine ⟨_,rfl,?_,hS.sp⟩;have ho:x.odd:=(by unfold Ins.odd;simp only [←or_assoc];first|exact .inl (hq6.1 rfl)|exact .inr ⟨(by first|rfl|assumption),Jo⟩);rw [if_neg Jo,if_pos ho];done)|(refine ⟨_,rfl,?_,hS.sp⟩;rw [if_neg Jo,if_neg hodd];unfold Oj;(repeat (first|rw [if_pos Jo]|rw [if_neg Jo]));done)):p:=h
theorem Ak (h:p:=by first|rfl|(congr 1;omega)):p:=h
theorem Al (h:p:=by first|exact Qt hS hel rfl fd (Qn fr g) (Qu fr g) rfl|exact Qt (j:=0) hS hel rfl fd (Qn fr g) (Qu fr g) rfl|exact Qt (j:=1) hS hel rfl fd (Qn fr g) (Qu fr g) rfl|exact Qt (j:=2) hS hel rfl fd (Qn fr g) (Qu fr g) rfl):p:=h
end
end Go.Lir
namespace Go.Proofs.YteflkifmgnpbhaaGreat
open Go.Lir
attribute [local irreducible] LC.wp Q0 Qs Qi KN QD LO.wp Q7 Calls
section
structure HT where
 Tv:TypeId
 Tt:TypeId
 Tr:TypeId
 Th:TypeId
structure ThgV where
 array:Bool
 lv:Value
 l:List Val
def ThgV.abs (t:ThgV):Thg:=⟨t.array,t.l⟩
def ThgV.cells (t:ThgV):List Value:=[.bool t.array,t.lv]
def ThgV.res (H:HT)(t:ThgV):Res:=sl H.Tv 4 t.lv (t.l.map Val.cells)
structure RgnV where
 there:Bool
 lv:Value
 l:List ThgV
 pages:Int
 used:Int
def RgnV.abs (r:RgnV):Rgn:=⟨r.there,r.l.map ThgV.abs,r.pages,r.used⟩
def RgnV.cells (r:RgnV):List Value:=[.bool r.there,r.lv, .int .i64 r.pages, .int .i64 r.used]
def RgnV.res (H:HT)(r:RgnV):Res:=star (sl H.Tt 2 r.lv (r.l.map ThgV.cells)) (K3 (ThgV.res H) r.l)
def RgnV.nil:RgnV:=⟨false, .slice none 0 0,[],0,0⟩
structure HpO (N:Nat) (s:HpS) (rv:List RgnV):Prop where
 hr:rv.map RgnV.abs=s.l
 ok:s.Ok N
section
variable {cx:Cx}{w:World}{L:List Res}{H:HT}
theorem M4 {x:Res}{rv:List RgnV}{k:Nat}{r:RgnV}(hS:St cx w (x::y::K3 (RgnV.res H) rv::L))(hr:rv[k]?=some r):St cx w (sl H.Tt 2 r.lv (r.l.map ThgV.cells)::K3 (ThgV.res H) r.l::x::y::K3 (RgnV.res H) (rv.eraseIdx k)::L):=
 Jx (hS.bigOut Ni hr)
theorem pw {x:Res}{rv:List RgnV}{k:Nat}{r:RgnV}(hk:k<rv.length)(hS:St cx w (sl H.Tt 2 r.lv (r.l.map ThgV.cells)::K3 (ThgV.res H) r.l::x::y::K3 (RgnV.res H) (rv.eraseIdx k)::L)):St cx w (x::y::K3 (RgnV.res H) (rv.set k r)::L):=
 H8 (f:=RgnV.res H) (x':=r) hS.star' Ni hk
theorem fY {x:Res}{l:List ThgV}{k:Nat}{t:ThgV}(hS:St cx w (x::K3 (ThgV.res H) l::L))(ht:l[k]?=some t):St cx w (sl H.Tv 4 t.lv (t.l.map Val.cells)::x::K3 (ThgV.res H) (l.eraseIdx k)::L):=hS.bigOut NX ht
theorem cP {x:Res}{l:List ThgV}{k:Nat}{t:ThgV}(hk:k<l.length)(hS:St cx w (sl H.Tv 4 t.lv (t.l.map Val.cells)::x::K3 (ThgV.res H) (l.eraseIdx k)::L)):St cx w (x::K3 (ThgV.res H) (l.set k t)::L):=H8 (f:=ThgV.res H) (x':=t) hS NX hk
theorem St.big_push {f:α→Res}{l:List α}{x:α}(h:St cx w (f x::K3 f l::L)):St cx w (K3 f (l++[x])::L):=by
 have h1:St cx w (l.map f++(f x::L)):=h.mv1.list;have h2:St cx w ((l++[x]).map f++L):=D3;exact h2.list'
abbrev IV:=@St.big_push
theorem St.big_nil (f:α→Res)(h:St cx w L):St cx w (K3 f []::L):=h.emp (r:=Go.Lir.emp) fun _ h=>h
abbrev Ie:=@St.big_nil
theorem St.rot1 {a b:Res}(h:St cx w (a::b::c::d::L)):St cx w (b::c::d::a::L):=St.mv3 (St.mv3 (St.mv3 h))
abbrev IE:=@St.rot1
theorem St.rot2 {a e b:Res}(h:St cx w (a::e::b::c::d::L)):St cx w (b::c::d::a::e::L):=St.mv4 (St.mv4 (St.mv4 h))
theorem St.rot3 {a e f b:Res}(h:St cx w (a::e::f::b::c::d::L)):St cx w (b::c::d::a::e::f::L):=St.mv5 (St.mv5 (St.mv5 h))
theorem US {f:α→Res}{l:List α}{k:Nat}{x y:α}(h:l[k]?=some x)(he:f y=f x):K3 f (l.set k y)=K3 f l:=by
 unfold K3;rw [GA,he,fF (by rw [Fy,h];rfl)]
theorem Ln {rv:List RgnV}{m:Nat}{r:RgnV}(h:rv[m]?=some r):(rv.map RgnV.cells)[m]?=some r.cells:=by rw [Fy,h];rfl
theorem ae {rv:List RgnV}{m:Nat}{r':RgnV}:(rv.map RgnV.cells).set m r'.cells=(rv.set m r').map RgnV.cells:=GA.symm
theorem jv {rv:List RgnV}{m:Nat}{r r':RgnV}(h:r.cells.set j u=r'.cells):(rv.map RgnV.cells).set m (r.cells.set j u)=(rv.set m r').map RgnV.cells:=by rw [h];exact ae
theorem O4 {tv:List ThgV}{m:Nat}{t:ThgV}(h:tv[m]?=some t):(tv.map ThgV.cells)[m]?=some t.cells:=by rw [Fy,h];rfl
theorem ag {l:List Val}{m:Nat}(h:m<l.length):(l.map Val.cells)[m]?=some (l.getD m Val.zero).cells:=MQ Val.cells l Val.zero h
theorem Sy {rv:List RgnV}{m:Nat}{r:RgnV}(h:m<rv.length):(rv.set m r)[m]?=some r:=by simp [h]
theorem HpO.len {s:HpS}{rv:List RgnV}(h:HpO N s rv):rv.length=s.l.length:=by rw [←h.hr,Fb]
theorem HpO.at_ {s:HpS}{rv:List RgnV}(h:HpO N s rv){k:Nat}(hk:k<rv.length):∃r,rv[k]?=some r∧s.reg k=r.abs∧s.l[k]?=some r.abs:=by
 refine ⟨rv[k],E7 hk,?_,?_⟩
 · unfold HpS.reg;rw [if_pos Jo,FJ,←h.hr,E9,Fy,E7 hk];rfl
 · rw [←h.hr,Fy,E7 hk];rfl
theorem HpO.out {s:HpS}{rv:List RgnV}(h:HpO N s rv)(hk:k<0∨(rv.length:Int)≤k):s.has k=false:=by
 have hl:=h.len;unfold HpS.has HpS.reg;split
 · rw [E9,FI Jo];rfl
 · rfl
theorem HpO.has_in {s:HpS}{rv:List RgnV}(h:HpO N s rv)(hk:s.has k=true):∃m:Nat,k=m∧m<rv.length:=by
 by_cases hc:k<0∨(rv.length:Int)≤k
 · rw [h.out hc] at hk;cases hk
 · exact ⟨k.toNat,Jo,Jo⟩
theorem HpO.rng {s:HpS}{rv:List RgnV}(h:HpO N s rv){k:Nat}{r:RgnV}(hr:rv[k]?=some r):r.l.length≤N∧(∀t∈r.l,t.l.length≤1000)∧0≤r.pages∧0≤r.used∧r.used≤1000∧(r.there=false→r.l.length=0∧r.pages=0):=by
 have hm:r.abs∈s.l:=(by rw [←h.hr];exact FU.2 ⟨r,Fa hr,rfl⟩);obtain ⟨h1,h2,h3,h4,h5,h6⟩:=h.ok.each _ hm;refine ⟨by simpa [RgnV.abs] using h1,fun t ht=>h2 t.abs (FU.2 ⟨t,ht,rfl⟩),h3,h4,h5,fun hf=>?_⟩;have:=h6 hf;simp only [RgnV.abs,Rgn.none,Rgn.mk.injEq,List.map_eq_nil_iff] at this;exact ⟨by rw [this.2.1];rfl,this.2.2.1⟩
end
end
section
def H0:HT:=⟨224,272,267,127⟩
abbrev RX (b:Nat)(lv:Value)(left live:Int)(rv:List RgnV)(L:List Res):List Res:=blk b 127 [lv, .int .i64 left, .int .i64 live]::sl 267 4 lv (rv.map RgnV.cells)::K3 (RgnV.res H0) rv::L
def Mr (N:Nat)(h:Value)(s:HpS):Res:=Res.ex fun x:Nat×Value×List RgnV=>Res.pure (h= .pointer (some ⟨x.1,0,none⟩)∧HpO N s x.2.2) (Ri [blk x.1 127 [x.2.1, .int .i64 s.left, .int .i64 s.live],sl 267 4 x.2.1 (x.2.2.map RgnV.cells),K3 (RgnV.res H0) x.2.2])
variable {cx:Cx}{w:World}{L:List Res}{i:Nat}{N:Nat}{h:Value}{s:HpS}
theorem tD (hS:St cx w (Mr N h s::L)):∃b lv rv,h= .pointer (some ⟨b,0,none⟩)∧HpO N s rv∧St cx w (RX b lv s.left s.live rv L):=by
 obtain ⟨⟨b,lv,rv⟩,h⟩:=hS.ex;obtain ⟨⟨h0,h1⟩,h2⟩:=h.pure;exact ⟨b,lv,rv,h0,h1,h2.list⟩
theorem Qz {b:Nat}{lv:Value}{rv:List RgnV}(ho:HpO N s rv)(hS:St cx w (RX b lv s.left s.live rv L)):St cx w (Mr N (.pointer (some ⟨b,0,none⟩)) s::L):=
 J3 (b,lv,rv) (St.pure' ⟨rfl,ho⟩ (I3 hS))
theorem Ym (hS:St cx w L){b:Nat}(hi:nth L i=some (Mr N (.pointer (some ⟨b,0,none⟩)) s)):∃lv rv,HpO N s rv∧St cx w (RX b lv s.left s.live rv (L.eraseIdx i)):=by
 obtain ⟨b',lv,rv,he,ho,h⟩:=tD (hS.out hi);cases he;exact ⟨lv,rv,ho,h⟩
theorem Yn (hS:St cx w L)(hi:nth L i=some (Mr N h s)):s.Ok N∧∃b,h= .pointer (some ⟨b,0,none⟩):=by
 obtain ⟨b,lv,rv,he,ho,_⟩:=tD (hS.out hi);exact ⟨ho.ok,b,he⟩

variable {b:Nat}{lv:Value}{left live:Int}{rv:List RgnV}
theorem cQ (k:Int)(ho:HpO N s rv)(hS:St cx w (RX b lv left live rv L)):Kf Tryz.prog zU [.pointer (some ⟨b,0,none⟩), .int .i64 k] w fun v w'=>v= .bool (s.has k)∧St cx w' (RX b lv left live rv L):=by
 rcases (show (k<0∨(rv.length:Int)≤k)∨∃m:Nat,k=m∧m<rv.length by (by_cases h:k<0∨(rv.length:Int)≤k;(exact .inl h);exact .inr ⟨k.toNat,Jo,Jo⟩)) with hk|⟨m,rfl,hm⟩
 · have e0:=ho.out hk;(refine Kq Ko Tryz.func216 ?_;refine' Nk;first|(refine' Ml)|(refine' MN)|(refine' Ag<;>intro hc));all_goals (refine' Sm;refine' Sp;refine' XT;refine' lE;refine' Uk;refine' PO;refine' PO;refine' Lu;refine' La;exact ⟨_,rfl,by rw [e0],hS⟩)
 · obtain ⟨r,hr,hrs,_⟩:=ho.at_ hm;have e0:s.has m=r.there:=(by unfold HpS.has;rw [hrs];rfl);refine Kq Ko Tryz.func216 ?_;refine' Nk;refine' Ml;refine' WT;(first|refine' Kj|(refine' Kl;(first|(refine Q9 hS Ja rfl fd Dh (Ln hr) rfl ?_)|(refine zl hS ?_))));refine' XT;(first|refine' Kj|(refine' Kl;refine' KX));refine' Oy;refine' Lv;refine' PK;(first|refine' Kj|(refine' Kl;(first|(refine Q9 hS Ja rfl fd Dh (Ln hr) rfl ?_)|(refine zl hS ?_))));refine' Mc;(first|refine' Kj|(refine' Kl;(first|(refine' Nj;intro b1 o1 cs1 x1 hat1 hx1 he1;obtain ⟨vp1,vr1,vb1,rfl,hp1,hr1,hb1⟩:=QH he1)|(refine PE hS ?_;intro b1 o1 hel1))));refine' MT;(first|refine' Kj|(refine' Kl;refine Q9 hS Ja rfl fd Dw (Ln hr) rfl ?_));refine' Oy;refine' La;(exact ⟨_,rfl,by rw [e0],hS⟩)
def jw (rv:List RgnV)(k t:Nat)(th:ThgV)(v:Value):Prop:=∃r b o,rv[k]?=some r∧r.l[t]?=some th∧v= .pointer (some ⟨b,o,none⟩)∧Nw r.lv r.l.length 2 t b o
theorem HpO.thg {k:Nat}{r:RgnV}{th:ThgV}(ho:HpO N s rv)(hr:rv[k]?=some r)(ht:r.l[t]?=some th):s.thg k t=th.abs:=by
 obtain ⟨r',h1,h2,_⟩:=ho.at_ (E8.1 hr).1;rw [hr] at h1;cases h1;unfold HpS.thg;rw [h2];show (r.l.map ThgV.abs).getD t _=_;rw [E9,Fy,ht];rfl
theorem UT (v:Val)(ho:HpO N s rv)(hS:St cx w (RX b lv left live rv L)):Kf Tryz.prog zX [.pointer (some ⟨b,0,none⟩),v.v] w fun u w'=>St cx w' (RX b lv left live rv L)∧(s.at_ v=none∧u= .pointer none∨∃k t th,s.at_ v=some (k,t)∧jw rv k t th u):=by
 by_cases hv:v.kind=3∨v.kind=4
 · cases hh:s.has v.region with
   | false=>
     (have e0:s.at_ v=none:=(by unfold HpS.at_;rw [if_neg (by rw [hh];simp)]);refine Kq Ko Tryz.func219 ?_;refine' Kv;refine N9 hS vw Jr ?_;intro b3 w1 hS;simp only [Val.cells] at hS;refine' S0;refine zD (ci 35 [12,34]) ?_;have hS:=hS.drew;refine' KZ;first|(refine' QO)|(refine' QU)|(refine' Ad<;>intro hc));all_goals (refine' Md;refine' iP;refine' PQ;refine' PH;(first|refine' Kj|(refine' Kl;refine' Kr (c:=cQ _ ho (IE hS));rintro v1 w1 ⟨rfl,hS⟩;rw [hh]));refine' PG;refine' Uk;refine' XV;refine' Kj;refine' Oy;refine' zm;refine' PO;refine' PO;refine' PO;refine' Kj;refine' Oy;refine' OY;refine' KQ;exact BV)
   | true=>
     obtain ⟨vk,vr,vt,vn⟩:=v;have hv':vk=3∨vk=4:=hv;obtain ⟨m,rfl,hm⟩:=ho.has_in hh;obtain ⟨r,hr,hrs,_⟩:=ho.at_ hm;have hrl:(s.reg (m:Int)).l.length=r.l.length:=(by rw [hrs];exact AK);have hrn:=(ho.rng hr).1;have hmt:(m:Int).toNat=m:=Df;by_cases ht:0≤vt∧vt<r.l.length
     · obtain ⟨t,rfl⟩:=Gt ht.1
       have htt:(t:Int).toNat=t:=Df;obtain ⟨th,hth⟩:∃th,r.l[t]?=some th:=⟨_,E7 Jo⟩;have hthg:=ho.thg hr hth
       have e1:s.at_ ⟨vk,m,t,vn⟩=if th.array=decide (vk=4) then some (m,t) else none:=by
        unfold HpS.at_;simp only [hmt,htt,hthg,hh,hrl];by_cases ha:th.array=decide (vk=4)
        · rw [if_pos ⟨hv',trivial,ht.1,ht.2,ha⟩,if_pos ha]
        · rw [if_neg (fun h=>ha h.2.2.2.2),if_neg ha]
       ((refine Kq Ko Tryz.func219 ?_;refine' Kv;refine N9 hS vw Jr ?_;intro b3 w1 hS;simp only [Val.cells] at hS;refine' S0;refine zD (ci 35 [12,34]) ?_;have hS:=hS.drew;refine' MA;(first|(refine Q9 hS Ja rfl fd Dh (Ln hr) rfl ?_)|(refine Q9 (M4 (H:=H0) hS hr) Ja rfl KU Dh (O4 hth) rfl ?_)|(refine zl hS ?_));first|(refine' QO)|(refine' QU)|(refine' Ad<;>intro hc));all_goals (refine' zm;refine' NY;(first|refine' Kj|(refine' Kl;(first|(refine Q9 hS Ja rfl fd Dh (Ln hr) rfl ?_)|(refine Q9 (M4 (H:=H0) hS hr) Ja rfl KU Dh (O4 hth) rfl ?_)|(refine zl hS ?_))));refine' iP;refine' PQ;refine' NY;(first|refine' Kj|(refine' Kl;(first|(refine Q9 hS Ja rfl fd Dh (Ln hr) rfl ?_)|(refine Q9 (M4 (H:=H0) hS hr) Ja rfl KU Dh (O4 hth) rfl ?_)|(refine zl hS ?_))));(first|refine' Kj|(refine' Kl;refine' Kr (c:=cQ _ ho (IE hS));rintro v1 w1 ⟨rfl,hS⟩;rw [hh]));refine' PG;refine' Uk;refine' NY;(first|refine' Kj|(refine' Kl;(first|(refine Q9 hS Ja rfl fd Dh (Ln hr) rfl ?_)|(refine Q9 (M4 (H:=H0) hS hr) Ja rfl KU Dh (O4 hth) rfl ?_)|(refine zl hS ?_))));refine' lE;refine' Uk;refine' NY;(first|refine' Kj|(refine' Kl;(first|(refine Q9 hS Ja rfl fd Dh (Ln hr) rfl ?_)|(refine Q9 (M4 (H:=H0) hS hr) Ja rfl KU Dh (O4 hth) rfl ?_)|(refine zl hS ?_))));refine' Mc;refine' PK;(first|refine' Kj|(refine' Kl;(first|(refine Q9 hS Ja rfl fd Dh (Ln hr) rfl ?_)|(refine Q9 (M4 (H:=H0) hS hr) Ja rfl KU Dh (O4 hth) rfl ?_)|(refine zl hS ?_))));refine' NY;(first|refine' Kj|(refine' Kl;(first|(refine Q9 hS Ja rfl fd Dh (Ln hr) rfl ?_)|(refine Q9 (M4 (H:=H0) hS hr) Ja rfl KU Dh (O4 hth) rfl ?_)|(refine zl hS ?_))));(first|refine' Kj|(refine' Kl;(first|(refine RI (M4 (H:=H0) hS hr) vw rfl KU ET ?_;rw [Fb];intro b5 o5 hel5)|(refine' Nj;intro b1 o1 cs1 x1 hat1 hx1 he1;obtain ⟨vp1,vr1,vb1,rfl,hp1,hr1,hb1⟩:=QH he1)|(refine PE hS ?_;intro b1 o1 hel1))));refine' MT;(first|refine' Kj|(refine' Kl;refine Q9 hS Ja rfl fd Dw (Ln hr) rfl ?_));(first|(refine' Kj)|(refine' Kl;refine QL (M4 (H:=H0) hS hr) vw KU Dh ?_))));all_goals (refine' lF;refine' Ll)
       all_goals
        first
        | (refine' Ki;all_goals (refine' KQ);all_goals (exact BS))
        | (refine' Kk;all_goals refine' Kx)
       all_goals (refine QA ?_;have hS:St cx _ (RX b lv left live rv _):=(by exact hS);refine zD (ci 13 [12]) ?_;have hS:=hS.drew;refine' zm;refine' SO;refine' MA;(first|(refine Q9 hS Ja rfl fd Dw (Ln hr) rfl ?_)|(refine Q9 (M4 (H:=H0) hS hr) Ja rfl KU Dh (O4 hth) rfl ?_)|(refine zl hS ?_));refine' MA;(first|(refine Q9 hS Ja rfl fd Dw (Ln hr) rfl ?_)|(refine Q9 (M4 (H:=H0) hS hr) Ja rfl KU Dh (O4 hth) rfl ?_)|(refine zl hS ?_));(first|(refine RI (M4 (H:=H0) hS hr) vw rfl KU ET ?_;rw [Fb];intro b5 o5 hel5)|(refine' Nj;intro b2 o2 cs2 x2 hat2 hx2 he2;obtain ⟨vp2,vr2,vb2,rfl,hp2,hr2,hb2⟩:=QH he2)|(refine PE hS ?_;intro b2 o2 hel2));refine' Nt;refine Q9 hS Ja rfl fd Dw (Ln hr) rfl ?_;refine' MA;(first|(refine Q9 hS Ja rfl fd Dw (Ln hr) rfl ?_)|(refine Q9 (M4 (H:=H0) hS hr) Ja rfl KU Dh (O4 hth) rfl ?_)|(refine zl hS ?_));refine RI (M4 (H:=H0) hS hr) vw rfl KU Dt ?_;rw [Fb];intro b5 o5 hel5;refine' zm;refine' zn;refine QA ?_;refine QA ?_;refine zD (ci 8 [7]) ?_;have hS:=hS.drew;refine' zm;refine' SO;refine' Nt;(first|(refine Q9 hS Ja rfl fd Dh (Ln hr) rfl ?_)|(refine Q9 (M4 (H:=H0) hS hr) Ja rfl KU Dh (O4 hth) rfl ?_));refine' MA;(first|(refine Q9 hS Ja rfl fd Dw (Ln hr) rfl ?_)|(refine Q9 (M4 (H:=H0) hS hr) Ja rfl KU Dh (O4 hth) rfl ?_)|(refine zl hS ?_));cases hta:th.array<;>by_cases hk4:vk=4<;>first|(refine rM rfl rfl hk4 ?_)|(refine rN rfl rfl hk4 ?_));all_goals ((first|refine sb Jk rfl rfl rfl ?_|refine ZR Jk rfl rfl ?_);refine' zn)
       all_goals
        first
        | (refine' Ki;all_goals (refine' KQ);all_goals (exact BS))
        | (refine' Kk;all_goals refine' Kx)
       all_goals (refine' SX;(first|exact BS|exact ⟨_,rfl,hS.sp, .inr ⟨m,t,th,by rw [e1];simp [hta,hk4],r,b5,o5,hr,hth,rfl,hel5⟩⟩))
     · have e0:s.at_ ⟨vk,m,vt,vn⟩=none:=(by unfold HpS.at_;rw [if_neg fun h=>ht ⟨h.2.2.1,by have:=h.2.2.2.1;simp only [hrl] at this;exact this⟩]);(refine Kq Ko Tryz.func219 ?_;refine' Kv;refine N9 hS vw Jr ?_;intro b3 w1 hS;simp only [Val.cells] at hS;refine' S0;refine zD (ci 35 [12,34]) ?_;have hS:=hS.drew;refine' MA;(first|(refine Q9 hS Ja rfl fd Dh (Ln hr) rfl ?_)|(refine zl hS ?_));first|(refine' QO)|(refine' QU)|(refine' Ad<;>intro hc));all_goals (refine' zm;refine' NY;(first|refine' Kj|(refine' Kl;(first|(refine Q9 hS Ja rfl fd Dh (Ln hr) rfl ?_)|(refine zl hS ?_))));refine' iP;refine' PQ;refine' NY;(first|refine' Kj|(refine' Kl;(first|(refine Q9 hS Ja rfl fd Dh (Ln hr) rfl ?_)|(refine zl hS ?_))));(first|refine' Kj|(refine' Kl;refine' Kr (c:=cQ _ ho (IE hS));rintro v1 w1 ⟨rfl,hS⟩;rw [hh]));refine' PG;refine' Uk;refine' NY;(first|refine' Kj|(refine' Kl;(first|(refine Q9 hS Ja rfl fd Dh (Ln hr) rfl ?_)|(refine zl hS ?_))));first|refine' Kj|(refine' Kl;(first|(refine' KX)|(refine' K1)|(refine' Ae<;>intro hc))));all_goals (refine' Uk;refine' NY;(first|refine' Kj|(refine' Kl;(first|(refine Q9 hS Ja rfl fd Dh (Ln hr) rfl ?_)|(refine zl hS ?_))));refine' Mc;refine' PK;(first|refine' Kj|(refine' Kl;(first|(refine Q9 hS Ja rfl fd Dh (Ln hr) rfl ?_)|(refine zl hS ?_))));refine' NY;(first|refine' Kj|(refine' Kl;(first|(refine Q9 hS Ja rfl fd Dh (Ln hr) rfl ?_)|(refine zl hS ?_))));(first|refine' Kj|(refine' Kl;(first|(refine' Nj;intro b1 o1 cs1 x1 hat1 hx1 he1;obtain ⟨vp1,vr1,vb1,rfl,hp1,hr1,hb1⟩:=QH he1)|(refine PE hS ?_;intro b1 o1 hel1))));refine' MT;(first|refine' Kj|(refine' Kl;refine Q9 hS Ja rfl fd Dw (Ln hr) rfl ?_));(first|refine' Kj|(refine' Kl;refine QL (M4 (H:=H0) hS hr) vw KU Dh ?_));(first|refine' Kj|(refine' Kl;refine' Ml));refine' Ll;refine' Ki;refine' KQ;exact BV)
 · have e0:s.at_ v=none:=(by unfold HpS.at_;rw [if_neg fun h=>hv h.1]);refine Kq Ko Tryz.func219 ?_;refine' Kv;refine N9 hS vw Jr ?_;intro b3 w1 hS;simp only [Val.cells] at hS;refine' S0;refine zD (ci 35 [12,34]) ?_;have hS:=hS.drew;refine' KZ;refine' QO;refine' Md;(first|refine' Kj|(refine' Kl;refine' QO));refine' Oy;refine' zm;refine' PO;refine' Kj;refine' Oy;refine' zm;refine' XV;refine' Kj;refine' Oy;refine' zm;refine' PO;refine' PO;refine' PO;refine' Kj;refine' Oy;refine' OY;refine' KQ;(exact BV)
def RgnV.roomV (r:RgnV)(n:Int):RgnV:=if r.abs.more n then ⟨r.there,r.lv,r.l,r.pages+1,n⟩ else ⟨r.there,r.lv,r.l,r.pages,r.used+n⟩
theorem NC {r:RgnV}:(r.roomV n).abs=r.abs.room n∧(r.roomV n).lv=r.lv∧(r.roomV n).l=r.l:=by
 unfold RgnV.roomV Rgn.room;split<;>exact ⟨rfl,rfl,rfl⟩
theorem RgnV.more_iff {r:RgnV}:r.abs.more n=true↔(r.pages=0∨16<r.used+n):=decide_eq_true_iff
abbrev Jj:=@RgnV.more_iff
theorem Yo {k b1 o1:Nat}{r:RgnV}(hn:1≤n∧n≤1000)(hel:Nw lv rv.length 4 k b1 o1)(hr:rv[k]?=some r)(hl:0≤left∧left≤1000)(hp:0≤r.pages∧r.pages≤1000)(hu:0≤r.used∧r.used≤1000)(hS:St cx w (RX b lv left live rv L)):
 Kf Tryz.prog z7 [.pointer (some ⟨b,0,none⟩), .pointer (some ⟨b1,o1,none⟩), .int .i64 n] w fun v w'=>
  v= .int .i64 14∧r.abs.more n=true∧left=0∧St cx w' (RX b lv left live rv L)∨
  v= .int .i64 0∧¬(r.abs.more n=true∧left=0)∧St cx w' (RX b lv (if r.abs.more n then left - 1 else left) live (rv.set k (r.roomV n)) L):=by
 (have hk:=(E8.1 hr).1;have hlm:(rv.map RgnV.cells).length=rv.length:=Fb _;have hls:∀r',((rv.set k r').map RgnV.cells).length=rv.length:=fun r'=>by rw [Fb,FL]);have hbig:K3 (RgnV.res H0) (rv.set k (r.roomV n))=K3 (RgnV.res H0) rv:=US hr (by unfold RgnV.res;rw [NC.2.1,NC.2.2]);by_cases hmo:r.abs.more n=true
 · have hmo':=Jj.1 hmo
   by_cases h0:left=0
   · skip;(refine Kq Ko Tryz.func253 ?_;refine' Mq;refine' MY;refine Q9 hS hel rfl fd hlm (Ln hr) rfl ?_;first|(refine' Ql)|(refine' Qp)|(refine' Ac<;>intro hc));all_goals (refine' Lv;refine' T8;refine' MT;(first|refine' Kj|(refine' Kl;refine Q9 hS hel rfl fd hlm (Ln hr) rfl ?_));refine' Mc;refine' iR;refine' fQ;refine' Ll;refine' Ki;refine' Na;refine' Lh;(first|(refine Q9 hS hel rfl fd hlm (Ln hr) rfl ?_)|(refine zl hS ?_));refine' Ql;refine' OY;refine' KQ;exact ⟨_,rfl, .inl ⟨rfl,hmo,h0,hS⟩⟩)
   · have e1:r.roomV n=⟨r.there,r.lv,r.l,r.pages+1,0+n⟩:=(by unfold RgnV.roomV;rw [if_pos hmo,Int.zero_add]);(refine Kq Ko Tryz.func253 ?_;refine' Mq;refine' MY;refine Q9 hS hel rfl fd hlm (Ln hr) rfl ?_;first|(refine' Ql)|(refine' Qp)|(refine' Ac<;>intro hc));all_goals (refine' Lv;refine' T8;refine' MT;(first|refine' Kj|(refine' Kl;refine Q9 hS hel rfl fd hlm (Ln hr) rfl ?_));refine' Mc;refine' iR;refine' fQ;refine' Ll;refine' Ki;refine' Na;refine' Lh;(first|(refine Q9 hS hel rfl fd hlm (Ln hr) rfl ?_)|(refine zl hS ?_));refine' Z0;refine' Pn;refine' WS;(first|(refine Q9 hS hel rfl fd hlm (Ln hr) rfl ?_)|(refine zl hS ?_));refine' PD;refine' Lh;refine LU hS ?_;intro w1 hS;have hS:=hS.ns;refine' LN;refine' MY;refine Q9 hS hel rfl fd hlm (Ln hr) rfl ?_;refine' MX;refine' MY;refine SN hS hel rfl vw fd hlm (Ln hr) Jo Jr (jv (r':=⟨r.there,r.lv,r.l,r.pages+1,r.used⟩) rfl) ?_;intro w8 hS;have hS:=hS.ns;refine' zn;refine' LV;refine' MY;refine SN hS hel rfl vw fd (hls _) (Ln (Sy (r:=⟨r.there,r.lv,r.l,r.pages+1,r.used⟩) Jo)) Jo Jr (jv (r':=⟨r.there,r.lv,r.l,r.pages+1,0⟩) rfl) ?_;intro w8 hS;have hS:=hS.ns;rw [HM] at hS;refine' LN;refine' MY;refine Q9 (j:=3) (u:= .int .i64 0) hS hel rfl fd (hls _) (Ln (Sy (r:=⟨r.there,r.lv,r.l,r.pages+1,0⟩) Jo)) rfl ?_;refine' zm;refine' MX;refine' MY;refine SN hS hel rfl vw fd (hls _) (Ln (Sy (r:=⟨r.there,r.lv,r.l,r.pages+1,0⟩) Jo)) Jo Jr (jv (r':=⟨r.there,r.lv,r.l,r.pages+1,0+n⟩) rfl) ?_;intro w8 hS;have hS:=hS.ns;rw [HM] at hS;refine' zn;refine' KQ;exact ⟨_,rfl, .inr ⟨rfl,fun h=>h0 h.2,by rw [if_pos hmo];unfold RX;rw [hbig,e1];exact hS⟩⟩)
 · have hmo':¬(r.pages=0∨16<r.used+n):=fun h=>hmo (Jj.2 h);have e1:r.roomV n=⟨r.there,r.lv,r.l,r.pages,r.used+n⟩:=(by unfold RgnV.roomV;rw [if_neg hmo]);refine Kq Ko Tryz.func253 ?_;refine' Mq;refine' MY;refine Q9 hS hel rfl fd hlm (Ln hr) rfl ?_;refine' Z0;refine' Lv;refine' T8;refine' MT;(first|refine' Kj|(refine' Kl;refine Q9 hS hel rfl fd hlm (Ln hr) rfl ?_));refine' Mc;refine' iR;refine' iO;refine' Ll;refine' Pj;refine' KP;refine' MY;refine Q9 hS hel rfl fd hlm (Ln hr) rfl ?_;refine' zm;refine' MX;refine' MY;refine SN hS hel rfl vw fd hlm (Ln hr) Jo Jr (jv (r':=⟨r.there,r.lv,r.l,r.pages,r.used+n⟩) rfl) ?_;intro w8 hS;have hS:=hS.ns;refine' zn;refine' KQ;(exact ⟨_,rfl, .inr ⟨rfl,fun h=>hmo h.1,by rw [if_neg hmo];unfold RX;rw [hbig,e1];exact hS⟩⟩)
end
section
variable {cx:Cx}{w:World}{L:List Res}{i:Nat}{N:Nat}{h:Value}{s:HpS}
theorem Qia:Ns Tryz.prog 265=some (272,2,32,[.bool false, .slice none 0 0]):=by kernel_rfl
theorem QfX:Ns Tryz.prog 125=some (267,4,48,[.bool false, .slice none 0 0, .int .i64 0, .int .i64 0]):=by kernel_rfl
theorem jx:Ns Tryz.prog 108=some (224,4,32,[.int .i64 0, .int .i64 0, .int .i64 0, .int .i64 0]):=by kernel_rfl
theorem Qgn:∃e2,Tryz.prog.underlying 265=some (.slice e2):=⟨272,by kernel_rfl⟩
theorem Qfn:∃e2,Tryz.prog.underlying 125=some (.slice e2):=⟨267,by kernel_rfl⟩
theorem lQ:∃e2,Tryz.prog.underlying 108=some (.slice e2):=⟨224,by kernel_rfl⟩
theorem tE {s:HpS}(hc:s.can v=false):s.code v n=20:=by unfold HpS.code;rw [hc];rfl
theorem lR {s:HpS}(hc:s.code v n≠0)(kind:Int)(t:Thg):s.put v n t=s∧s.putV v kind n=Val.zero:=by unfold HpS.put HpS.putV;rw [if_neg hc,if_neg hc];exact ⟨rfl,rfl⟩
theorem jy {a b:Value}(h1:oneC a=true)(h2:oneC b=true):∀u∈[a,b],oneC u=true:=by
 intro u hu;simp only [FA,Fv,or_false] at hu;rcases hu with rfl|rfl;exact h1;exact h2
theorem tF (l:List Val):∀c∈l.map Val.cells,∀u∈c,oneC u=true:=by
 intro c hc u hu;obtain ⟨v,_,rfl⟩:=FU.1 hc;simp [Val.cells] at hu;rcases hu with rfl|rfl|rfl|rfl<;>rfl

def cR (r:RgnV)(v:Value)(t:ThgV):RgnV:=⟨r.there,v,r.l++[t],r.pages,r.used⟩
theorem Qhn {r:RgnV}{v:Value}{t:ThgV}:(cR r v t).abs=r.abs.push t.abs:=by simp [cR,RgnV.abs,Rgn.push]
theorem Yp {r:RgnV}:r.abs.l.length=r.l.length:=Fb _
theorem Yq {s:HpS}{m:Nat}{vt vn kind:Int}{t:Thg}{r:RgnV}(hc:s.code ⟨2,m,vt,vn⟩ n=0)(hsl:s.l[m]?=some r.abs)(hrs:s.reg m=r.abs):
 s.put ⟨2,m,vt,vn⟩ n t=⟨s.l.set m ((r.abs.room n).push t),if r.abs.more n then s.left - 1 else s.left⟩∧(s.put ⟨2,m,vt,vn⟩ n t).live=s.live∧s.putV ⟨2,m,vt,vn⟩ kind n=⟨kind,m,r.abs.l.length,0⟩:=by
 have e:s.put ⟨2,m,vt,vn⟩ n t=⟨s.l.set m ((r.abs.room n).push t),if r.abs.more n then s.left - 1 else s.left⟩:=by
  unfold HpS.put;rw [if_pos hc];simp only [hrs,FJ]
 refine ⟨e,?_,?_⟩
 · rw [e];have h1:=cr (r':=(r.abs.room n).push t) hsl;have h2:((r.abs.room n).push t).there=r.abs.there:=(by unfold Rgn.room;split<;>rfl);rw [h2] at h1;show (s.l.set m _).countP (fun r=>r.there)=s.l.countP fun r=>r.there;omega
 · unfold HpS.putV;rw [if_pos hc];simp only [hrs]
theorem UU (v:Val)(kind n:Int)(arr:Bool)(tlv:Value)(tl:List Val)(hn:1≤n∧n≤1000)(hN:N≤100000)(htl:tl.length≤1000)(h1:oneC tlv=true)(hS:St cx w (sl H0.Tv 4 tlv (tl.map Val.cells)::L))(hi:nth L i=some (Mr N h s)):
 Kf Tryz.prog zV [h,v.v, .int .i64 kind, .int .i64 n, .agg ⟨[.bool arr,tlv]⟩] w fun u w'=>u= .tuple #[(s.putV v kind n).v, .int .i64 (s.code v n)]∧St cx w' (L.set i (Mr (N+1) h (s.put v n ⟨arr,tl⟩))):=by
 obtain ⟨hok,b,rfl⟩:=Yn hS.drop hi;obtain ⟨lv,rv,ho,hS⟩:=Ym hS (i:=i+1) hi;simp only [Jn] at hS;have ho1:HpO (N+1) s rv:=⟨ho.hr,hok.mono Jo⟩;by_cases hk:v.kind=2
 · cases hh:s.has v.region with
   | false=>
     have hcan:s.can v=false:=EY;have hc:=tE (n:=n) hcan;obtain ⟨e1,e2⟩:=lR (s:=s) (v:=v) (n:=n) Jo kind ⟨arr,tl⟩;rw [e1,e2,hc];refine Kq Ko Tryz.func217 ?_;refine' Kv;refine N9 hS vw Jr ?_;intro b6 w1 hS;simp only [Val.cells] at hS;refine N9 hS vw Jr ?_;intro b9 w1 hS;refine Qd hS ?_;intro b10 w1 hS;refine' Ms;refine' Mn;refine' Rp;refine' Lv;refine' PH;(first|refine' Kj|(refine' Kl;refine' Kr (c:=cQ _ ho (St.rot3 hS));rintro v1 w1 ⟨rfl,hS⟩;rw [hh]));refine' PG;refine' Ll;refine' Ki;refine' Kv;refine L0 [_,_,_,_] ?_;refine Kt hS ?_;intro w1 hS;have hS:=hS.ns;refine' Mo;refine QY vw (Q2 (n:=4) Jk Jk (hS.blkAt fd) Jr Jr) vw ?_;(exact A7)
   | true=>
     (obtain ⟨vk,vr,vt,vn⟩:=v;obtain rfl:vk=2:=hk;obtain ⟨m,rfl,hm⟩:=ho.has_in hh;replace hh:s.has (m:Int)=true:=hh;obtain ⟨r,hr,hrs,hsl⟩:=ho.at_ hm;have hcan:s.can ⟨2,m,vt,vn⟩=true:=(by unfold HpS.can;rw [hh];rfl);have hrn:=ho.rng hr;have hpg:=hok.pages;have hpr:=hpg.2 r.abs (Fa hsl);have hl0:=hok.left;have hlm:(rv.map RgnV.cells).length=rv.length:=Fb _;have hls:∀r',((rv.set m r').map RgnV.cells).length=rv.length:=fun r'=>by rw [Fb,FL]);have hpr':r.pages+s.left≤1000:=hpr;have hcd:s.code ⟨2,m,vt,vn⟩ n=if r.abs.more n=true∧s.left=0 then 14 else 0:=by unfold HpS.code;rw [hcan];simp only [Jf,Fs,if_false,hrs]
     obtain ⟨e3,e4,e5⟩:=NC (r:=r) (n:=n);refine Kq Ko Tryz.func217 ?_;refine' Kv;refine N9 hS vw Jr ?_;intro b6 w1 hS;simp only [Val.cells] at hS;refine N9 hS vw Jr ?_;intro b9 w1 hS;refine Qd hS ?_;intro b10 w1 hS;refine' Ms;refine' S4;(first|(refine Q9 hS hel rfl fd (hls _) (Ln (Sy Jo)) rfl ?_)|(refine zl hS ?_));refine' Rp;refine' Lv;refine' NY;(first|refine' Kj|(refine' Kl;(first|(refine Q9 hS hel rfl fd (hls _) (Ln (Sy Jo)) rfl ?_)|(refine zl hS ?_))));(first|refine' Kj|(refine' Kl;refine' Kr (c:=cQ _ ho (St.rot3 hS));rintro v1 w1 ⟨rfl,hS⟩;rw [hh]));refine' PG;refine' Ll;refine' Pj;refine QA ?_;refine zD (ci 8 [7]) ?_;have hS:=hS.drew;refine' zm;refine' Lh;(first|(refine Q9 hS hel rfl fd (hls _) (Ln (Sy Jo)) rfl ?_)|(refine zl hS ?_));refine' MA;(first|(refine Q9 hS hel rfl fd (hls _) (Ln (Sy Jo)) rfl ?_)|(refine zl hS ?_));refine RI hS vw rfl fd Jo ?_;rw [hlm];intro b12 o12 hel;refine' OX;refine' MV;refine' Lg (c:=Yo hn hel hr ⟨hl0,hpg.1⟩ ⟨hrn.2.2.1,Jo⟩ ⟨hrn.2.2.2.1,hrn.2.2.2.2.1⟩ hS);rintro v2 w2 (⟨rfl,hmo,h0,hS⟩|⟨rfl,hnm,hS⟩);all_goals (refine' L6;refine' Rp;refine' zn)
     all_goals
      first
      | (refine' Ki;refine' Kv;refine L0 [_,_,_,_] ?_;refine' zm;refine Kt hS ?_;intro w1 hS;have hS:=hS.ns;refine' Mo;refine QY vw (Q2 (n:=4) Jk Jk (hS.blkAt fd) Jr Jr) vw ?_;((rw [if_pos ⟨hmo,h0⟩] at hcd;obtain ⟨e1,e2⟩:=lR (s:=s) (v:=⟨2,m,vt,vn⟩) (n:=n) Jo kind ⟨arr,tl⟩;rw [e1,e2,hcd];exact A7)))
      | (refine' Kk;refine' Kx)
     refine QA ?_;rw [if_neg hnm] at hcd;have hS:=M4 (H:=H0) hS (Sy Jo);have hrl:=hrn.1;rw [←e5] at hrl;refine zC [(0,none),(1,none),(2,none),(3,none),(4,none),(5,none),(6,some (some [4])),(7,some (some [])),(8,none),(9,none),(10,some none)] ?_;have hS:=hS.drew;refine' Og;refine' RO;refine Q9 hS hel rfl fd (hls _) (Ln (Sy Jo)) rfl ?_;refine' KO;refine zv hS ?_;refine' Lp;refine K8 hS [_,_] ?_;intro b1 w1 hS;refine' zt;refine ⟨Fe.2 ⟨(by (exact Qt hS hel rfl fd (hls _) (Ln (Sy Jo)) rfl)),fun _ h=>(Fv h).elim⟩,?_⟩;refine' SJ;refine NL Qia (.inl Qgn) hS vw vw fd (hS.srcB fd Jr (jy rfl h1)) Dt ?_;intro v7 w7 hS;have hS:=hS.ns;have hS:=hS.drop;refine' zt;refine ⟨fun _ h=>(Fv h).elim,?_⟩;refine' KW;refine' Nb;refine' Nt;refine' Lk;refine SN hS hel rfl vw fd (hls (r.roomV n)) (Ln (Sy (r:=r.roomV n) Jo)) Jo (by first|rfl|assumption|exact hS.oneC fd) (jv (r':=cR (r.roomV n) v7 ⟨arr,tlv,tl⟩) rfl) ?_;intro w8 hS;have hS:=hS.ns;rw [HM] at hS;refine' Lq;refine QA ?_;refine zD (ci 12 [10,11]) ?_;have hS:=hS.drew;refine' zm;refine' MA;(first|(refine Q9 hS hel rfl fd (hls _) (Ln (Sy Jo)) rfl ?_)|(refine zl hS ?_));refine' Po;refine Q9 (j:=1) (u:=v7) hS hel rfl fd (hls _) (Ln (Sy (r:=cR (r.roomV n) v7 ⟨arr,tlv,tl⟩) Jo)) rfl ?_;refine QL (n:=r.l.length+1) hS vw fd (by simp [e5]) ?_;refine' PD;rw [show ((r.l.length+1:Nat):Int) - 1=r.l.length by omega];refine Ph [_,_,_,_] ?_;refine Kt hS ?_;intro w1 hS;have hS:=hS.ns;refine' Mo;refine QY vw (Q2 (n:=4) Jk Jk (hS.blkAt fd) Jr Jr) vw ?_;((first|(rw [if_pos ⟨hmo,h0⟩] at hcd;obtain ⟨e1,e2⟩:=lR (s:=s) (v:=⟨2,m,vt,vn⟩) (n:=n) Jo kind ⟨arr,tl⟩;rw [e1,e2,hcd];exact A7)|(have hS:St cx _ (ThgV.res H0 ⟨arr,tlv,tl⟩::K3 (ThgV.res H0) (r.roomV n).l::sl H0.Tt 2 v7 (((r.roomV n).l++[(⟨arr,tlv,tl⟩:ThgV)]).map ThgV.cells)::blk b 127 [lv, .int .i64 (if r.abs.more n then s.left - 1 else s.left), .int .i64 s.live]::sl 267 4 lv ((rv.set m (cR (r.roomV n) v7 ⟨arr,tlv,tl⟩)).map RgnV.cells)::K3 (RgnV.res H0) ((rv.set m (r.roomV n)).eraseIdx m)::L.eraseIdx i):=(by rw [FG];exact hS.sp);have hS:=pw (H:=H0) (rv:=rv.set m (r.roomV n)) (k:=m) (r:=cR (r.roomV n) v7 ⟨arr,tlv,tl⟩) (by rw [FL];omega) (IV hS).mv1;rw [HM] at hS;obtain ⟨e6,e7,e8⟩:=Yq (t:=⟨arr,tl⟩) (kind:=kind) hcd hsl hrs;have ho2:HpO (N+1) (s.put ⟨2,m,vt,vn⟩ n ⟨arr,tl⟩) (rv.set m (cR (r.roomV n) v7 ⟨arr,tlv,tl⟩)):=⟨by rw [GA,Qhn,e3,ho.hr,e6];rfl,HpS.ok_put hok hn htl⟩;rw [e8,hcd];exact ⟨_,rfl,by rw [Yp];rfl,(Qz ho2 (by rw [e7,e6];exact hS)).back hi⟩)))
 · have hcan:s.can v=false:=EK;have hc:=tE (n:=n) hcan;obtain ⟨e1,e2⟩:=lR (s:=s) (v:=v) (n:=n) Jo kind ⟨arr,tl⟩;rw [e1,e2,hc];refine Kq Ko Tryz.func217 ?_;refine' Kv;refine N9 hS vw Jr ?_;intro b6 w1 hS;simp only [Val.cells] at hS;refine N9 hS vw Jr ?_;intro b9 w1 hS;refine Qd hS ?_;intro b10 w1 hS;refine' Ms;refine' Mn;refine' QO;refine' zm;refine' PO;refine' Kj;refine' Oy;refine' OY;refine' Kv;refine L0 [_,_,_,_] ?_;((refine Kt hS ?_;intro w1 hS;have hS:=hS.ns));refine' Mo;refine QY vw (Q2 (n:=4) Jk Jk (hS.blkAt fd) Jr Jr) vw ?_;((exact A7))
theorem UW {v:Value}{l:List Val}(hS:St cx w L)(hi:nth L i=some (sl H0.Tv 4 v (l.map Val.cells)))(hl:l.length≤1000000):Kf Tryz.prog zW [v] w fun u w'=>St cx w' (sl H0.Tv 4 u (l.map Val.cells)::L)∧oneC u=true:=by
 obtain ⟨a,c,hv⟩:=hS.shape hi;have hlen:(l.map Val.cells).length=l.length:=Fb _
 cases a with
 | none=>
   have hn:l.map Val.cells=[]:=by
    obtain ⟨F,hr,_⟩:=hS.step hi;obtain ⟨_,⟨_,h2,_⟩|⟨b,off,cap,arr,h1,_⟩⟩:=hr
    · exact h2
    · rw [hv] at h1;simp at h1
   subst hv;refine Kq Ko Tryz.func218 ?_;refine' Mq;refine WN (e:=224) Jk rfl rfl ?_;refine' OY;refine' KQ;((exact ⟨_,rfl,by rw [hn];exact hS.nil,rfl⟩))
 | some a=>
   refine Kq Ko Tryz.func218 ?_;refine' Mq;refine WN (e:=224) Jk hv rfl ?_;refine' Pn;refine' Kv;refine im jx ?_;intro v1 w1 hf1 hs1 hz1;have hS:=hS.new (r:=sl 224 4 v1 []) hs1 hf1 (fun b hb=>HK hb.symm);refine' zm;((refine NL jx (.inl lQ) hS vw vw KU (St.srcS (i:=i+1) (T:=H0.Tv) (v:=v) (css:=l.map Val.cells) hS hi (tF l)) (by rw [hlen,FF];omega) ?_;intro v2 w2 hS;have hS:=hS.ns;have h1:=hS.oneC KU));refine' La;((exact ⟨_,rfl,hS,h1⟩))
theorem Yr (hN:N≤100000)(hS:St cx w L)(hi:nth L i=some (Mr N h s)):Kf Tryz.prog zq [h] w fun u w'=>u= .tuple #[s.openV.v, .bool (!s.full)]∧St cx w' (L.set i (Mr (N+1) h s.open)):=by
 obtain ⟨hok,b,rfl⟩:=Yn hS hi;obtain ⟨lv,rv,ho,hS⟩:=Ym hS hi;have hlv:=hok.live;have hlen:=ho.len;have hsl:=hok.len
 cases hf:s.full with
 | true=>
   have h16:s.live=16:=of_decide_eq_true hf;have e1:s.open=s:=Ev;have e2:s.openV=Val.zero:=(by unfold HpS.openV;rw [hf];rfl);rw [e1,e2];refine Kq Ko Tryz.func171 ?_;refine' OU;(intro p2 w1 hS);refine' OX;refine' Mf;refine' Ql;refine' OY;refine' Kv;refine L0 [_,_,_,_] ?_;((refine Kt hS ?_;intro w1 hS;have hS:=hS.ns));refine' Mo;refine QY vw (Q2 (n:=4) Jk Jk (hS.blkAt fd) Jr Jr) vw ?_;((exact ⟨_,rfl,rfl,(Qz (⟨ho.hr,hok.mono Jo⟩:HpO (N+1) s rv) (L:=L.eraseIdx i) hS.sp).back hi⟩))
 | false=>
   have h16:s.live≠16:=of_decide_eq_false hf;have e1:s.open=⟨s.l++[⟨true,[],0,0⟩],s.left⟩:=Ev;have e2:s.openV=⟨2,s.l.length,0,0⟩:=by unfold HpS.openV;rw [hf];rfl
   have e3:(s.open.live:Int)=s.live+1:=by
    have:s.open.live=s.live+1:=(by rw [e1];unfold HpS.live;simp [HP]);omega
   have ho2:HpO (N+1) s.open (rv++[⟨true, .slice none 0 0,[],0,0⟩]):=⟨by rw [FG,ho.hr,e1];rfl,HpS.ok_open hok⟩;refine Kq Ko Tryz.func171 ?_;refine' OU;intro p2 w1 hS;refine' OX;refine' Mf;refine' Z0;refine' Pn;refine' KP;refine' Mf;refine' MX;refine' Lh;refine LU hS ?_;intro w1 hS;have hS:=hS.ns;refine' Uj;refine' Mf;refine Pg [_,_,_,_] ?_;refine K8 hS [_,_,_,_] ?_;intro b1 w1 hS;refine NL QfX (.inl Qfn) hS vw vw fd (hS.srcB fd Jr Dl) Dt ?_;intro v7 w7 hS;have hS:=hS.ns;refine' Lh;refine LU hS ?_;intro w1 hS;have hS:=hS.ns;refine' LN;refine' Mf;refine QL (n:=rv.length+1) hS vw fd Js ?_;refine' PD;rw [show ((rv.length+1:Nat):Int) - 1=s.l.length by omega];refine M9 [_,_,_,_] ?_;refine Kt hS ?_;intro w1 hS;have hS:=hS.ns;refine' Mo;refine QY vw (Q2 (n:=4) Jk Jk (hS.blkAt fd) Jr Jr) vw ?_;(rw [e2];refine ⟨_,rfl,rfl,(Qz (lv:=v7) ho2 (L:=L.eraseIdx i) ?_).back hi⟩;rw [e3];have hS:St cx _ (K3 (RgnV.res H0) rv::blk b 127 [v7, .int .i64 s.left, .int .i64 (s.live+1)]::sl 267 4 v7 ((rv++[(⟨true, .slice none 0 0,[],0,0⟩:RgnV)]).map RgnV.cells)::L.eraseIdx i):=(by rw [FG];exact hS.sp);have hS:=HF (Hp (T:=H0.Tt) (es:=2) (Ie (ThgV.res H0) hS));have hS:=IV (f:=RgnV.res H0) (l:=rv) (x:=⟨true, .slice none 0 0,[],0,0⟩) hS;rw [e1];exact hS.sp)
theorem shut_no {s:HpS}(h:s.can v=false):s.shut v=s:=by unfold HpS.shut;rw [h];rfl
theorem UX {rv:List RgnV}{k:Nat}(hk:k<rv.length){x:Res}(hS:St cx w (x::y::K3 (RgnV.res H0) (rv.eraseIdx k)::L)):St cx w (x::y::K3 (RgnV.res H0) (rv.set k RgnV.nil)::L):=
 pw (H:=H0) (r:=RgnV.nil) hk (Hp (Ie (ThgV.res H0) hS))
theorem Ys (v:Val)(hS:St cx w L)(hi:nth L i=some (Mr N h s)):Kf Tryz.prog zs [h,v.v] w fun u w'=>u= .bool (s.can v)∧St cx w' (L.set i (Mr N h (s.shut v))):=by
 obtain ⟨hok,b,rfl⟩:=Yn hS hi;obtain ⟨lv,rv,ho,hS⟩:=Ym hS hi;have hlv:=hok.live;by_cases hk:v.kind=2
 · cases hh:s.has v.region with
   | false=>
     have hcan:s.can v=false:=EY;rw [shut_no hcan,hcan];refine Kq Ko Tryz.func173 ?_;refine' Kv;refine N9 hS vw Jr ?_;intro b6 w1 hS;simp only [Val.cells] at hS;refine' Ms;refine' Mn;refine' Rp;refine' Lv;refine' PH;(first|refine' Kj|(refine' Kl;refine' Kr (c:=cQ _ ho (IE hS));rintro v1 w1 ⟨rfl,hS⟩;rw [hh]));refine' PG;refine' Ll;refine' Ki;refine' KQ;(exact AG)
   | true=>
     obtain ⟨vk,vr,vt,vn⟩:=v;obtain rfl:vk=2:=hk;obtain ⟨m,rfl,hm⟩:=ho.has_in hh;replace hh:s.has (m:Int)=true:=hh;obtain ⟨r,hr,hrs,hsl⟩:=ho.at_ hm;have hcan:s.can ⟨2,m,vt,vn⟩=true:=(by unfold HpS.can;rw [hh];rfl);have hrn:=ho.rng hr;have hpg:=hok.pages;have hpr':r.pages+s.left≤1000:=hpg.2 r.abs (Fa hsl);have hl0:=hok.left;have hth:r.there=true:=(by unfold HpS.has at hh;rw [hrs] at hh;exact hh);have hlm:(rv.map RgnV.cells).length=rv.length:=Fb _;have e1:s.shut ⟨2,m,vt,vn⟩=⟨s.l.set m Rgn.none,s.left+r.pages⟩:=by unfold HpS.shut;rw [if_pos hcan];simp only [hrs,FJ];rfl
     have e2:((s.shut ⟨2,m,vt,vn⟩).live:Int)=s.live - 1:=by
      rw [e1];have h1:=cr (r':=Rgn.none) hsl;have h2:r.abs.there=true:=hth;rw [h2] at h1;simp only [Rgn.none,if_true,Fs,if_false] at h1;show (((s.l.set m Rgn.none).countP fun r=>r.there:Nat):Int)=((s.l.countP fun r=>r.there:Nat):Int) - 1;simp only [Rgn.none];omega
     have hlive:1≤s.live:=Df;have ho2:HpO N (s.shut ⟨2,m,vt,vn⟩) (rv.set m RgnV.nil):=⟨by rw [GA,ho.hr,e1];rfl,by rw [e1];exact HpS.ok_shut hok hsl⟩;rw [hcan];refine Kq Ko Tryz.func173 ?_;refine' Kv;refine N9 hS vw Jr ?_;intro b6 w1 hS;simp only [Val.cells] at hS;refine' Ms;refine' S4;(first|(refine Q9 hS hel rfl fd hlm (Ln hr) rfl ?_)|(refine zl hS ?_));refine' Rp;refine' Lv;refine' NY;(first|refine' Kj|(refine' Kl;(first|(refine Q9 hS hel rfl fd hlm (Ln hr) rfl ?_)|(refine zl hS ?_))));(first|refine' Kj|(refine' Kl;refine' Kr (c:=cQ _ ho (IE hS));rintro v1 w1 ⟨rfl,hS⟩;rw [hh]));refine' PG;refine' Ll;refine' Pj;refine QA ?_;refine zD (ci 8 [7]) ?_;have hS:=hS.drew;refine' zm;refine' Lh;(first|(refine Q9 hS hel rfl fd hlm (Ln hr) rfl ?_)|(refine zl hS ?_));refine' MA;(first|(refine Q9 hS hel rfl fd hlm (Ln hr) rfl ?_)|(refine zl hS ?_));refine RI hS vw rfl fd Jo ?_;rw [hlm];intro b12 o12 hel;refine' Ms;refine zD (ci 12 [11]) ?_;have hS:=hS.drew;refine' zm;refine' Lh;(first|(refine Q9 hS hel rfl fd hlm (Ln hr) rfl ?_)|(refine zl hS ?_));refine' Po;refine Q9 hS hel rfl fd hlm (Ln hr) rfl ?_;refine' MX;refine' Lh;refine LU hS ?_;intro w1 hS;have hS:=hS.ns;refine' LN;refine L0 [_,_,_,_] ?_;refine' SO;refine fH hS hel rfl rfl Jr fd hlm (Ln hr) rfl Dl (ae (r':=RgnV.nil)) ?_;intro w8 hS;have hS:=hS.ns;have hS:=UX hm ((M4 (H:=H0) hS hr).drop.drop);refine' LN;refine' Lh;(first|(refine Q9 hS hel rfl fd hlm (Ln hr) rfl ?_)|(refine zl hS ?_));refine' PD;refine' Lh;refine LU hS ?_;intro w1 hS;have hS:=hS.ns;refine' zn;refine' KQ;(exact ⟨_,rfl,rfl,(Qz ho2 (L:=L.eraseIdx i) (by rw [e2,e1];exact hS.sp)).back hi⟩)
 · have hcan:s.can v=false:=EK;rw [shut_no hcan,hcan];refine Kq Ko Tryz.func173 ?_;refine' Kv;refine N9 hS vw Jr ?_;intro b6 w1 hS;simp only [Val.cells] at hS;refine' Ms;refine' Mn;refine' QO;refine' zm;refine' PO;refine' Kj;refine' Oy;refine' OY;refine' KQ;((exact AG))
theorem UY (hS:St cx w L)(hi:nth L i=some (Mr N h s)):Kf Tryz.prog xJ [h] w fun u w'=>u= .int .i64 s.left∧St cx w' L:=by
 obtain ⟨hok,b,rfl⟩:=Yn hS hi;obtain ⟨lv,rv,ho,hS⟩:=Ym hS hi;refine Kq Ko Tryz.func26 ?_;refine' Nk;refine' Mf;refine' La;((exact ⟨_,rfl,rfl,(Qz ho hS).back0 hi⟩))
theorem Yt (hS:St cx w L)(hi:nth L i=some (Mr N h s)):Kf Tryz.prog xK [h] w fun u w'=>u= .int .i64 s.live∧St cx w' L:=by
 obtain ⟨hok,b,rfl⟩:=Yn hS hi;obtain ⟨lv,rv,ho,hS⟩:=Ym hS hi;refine Kq Ko Tryz.func27 ?_;refine' Nk;refine' Mf;refine' La;((exact ⟨_,rfl,rfl,(Qz ho hS).back0 hi⟩))
theorem HpS.ok_new (hn:0≤n∧n≤1000):(⟨[],n⟩:HpS).Ok 0:=⟨FE _,by simp,hn.1,by simp;omega,by simp [HpS.live]⟩
theorem lS (n:Int)(hn:0≤n∧n≤1000)(hS:St cx w L):Kf Tryz.prog Up [.int .i64 n] w fun u w'=>∃b,u= .pointer (some ⟨b,0,none⟩)∧St cx w' (Mr 0 (.pointer (some ⟨b,0,none⟩)) ⟨[],n⟩::L):=by
 refine Kq Ko Tryz.func63 ?_;refine' Nk;refine Pg [_,_,_] ?_;refine zb hS ?_;intro p5 w1 hS;refine' La;((exact ⟨_,rfl,_,rfl,Qz (lv:= .slice none 0 0) (rv:=[]) ⟨rfl,HpS.ok_new hn⟩ ((Hp (T:=267) (es:=4) (Ie (RgnV.res H0) hS)).sub (by (repeat (first|exact M8.same _|refine' M8.t2|refine' M8.t0|refine' M8.t1));first|done|fail))⟩))
theorem cS (v:Val)(hS:St cx w L)(hi:nth L i=some (Mr N h s)):Kf Tryz.prog zG [h,v.v] w fun u w'=>u= .tuple #[.int .i64 (s.len v).1, .int .i64 (s.len v).2]∧St cx w' L:=by
 obtain ⟨hok,b,rfl⟩:=Yn hS hi;obtain ⟨lv,rv,ho,hS⟩:=Ym hS hi;refine Kq Ko Tryz.func182 ?_;refine' Kv;refine N9 hS vw Jr ?_;intro b6 w1 hS;refine' zm;refine' L6;refine zv hS ?_;refine' Kr (c:=UT v ho (IE hS));rintro v1 w1 ⟨hS,(⟨e0,rfl⟩|⟨k,t,th,e0,r,b7,o7,hr,hth,rfl,hel⟩)⟩;all_goals (refine' OX;(first|refine nJ (e:=272) Jk rfl rfl ?_|refine nK (e:=272) Jk rfl rfl ?_);refine' zn)
 all_goals
  first
  | (refine' Ki;refine' KP;refine' SW;(first|exact B0|exact ⟨_,rfl,by unfold HpS.len;rw [e0],(Qz ho (L:=L.eraseIdx i) hS.sp).back0 hi⟩))
  | (refine' Kk;refine' Kx)
 refine' KP;refine' MY;refine Q9 (M4 (H:=H0) hS hr) hel rfl KU (Fb _) (O4 hth) rfl ?_;refine QL (fY (H:=H0) (M4 (H:=H0) hS hr) hth) vw KU Dh ?_;refine' Sq;(exact B0)
theorem cT (v:Val)(k:Int)(hS:St cx w L)(hi:nth L i=some (Mr N h s)):Kf Tryz.prog zA [h,v.v, .int .i64 k] w fun u w'=>u= .tuple #[(s.get v k).1.v, .int .i64 (s.get v k).2]∧St cx w' L:=by
 obtain ⟨hok,b,rfl⟩:=Yn hS hi;obtain ⟨lv,rv,ho,hS⟩:=Ym hS hi;refine Kq Ko Tryz.func178 ?_;refine' Kv;refine N9 hS vw Jr ?_;intro b6 w1 hS;refine Qd hS ?_;intro b8 w1 hS;refine' L6;refine zv hS ?_;refine' Kr (c:=UT v ho (St.rot2 hS));rintro v1 w1 ⟨hS,(⟨e0,rfl⟩|⟨kr,t,th,e0,r,b7,o7,hr,hth,rfl,hel⟩)⟩;all_goals (refine' OX;(first|refine nJ (e:=272) Jk rfl rfl ?_|refine nK (e:=272) Jk rfl rfl ?_);refine' zn)
 all_goals
  first
  | (refine' Ki;refine' Kv;refine L0 [_,_,_,_] ?_;refine Kt hS ?_;intro w1 hS;have hS:=hS.ns;refine' Mo;refine QY vw (Q2 (n:=4) Jk Jk (hS.blkAt fd) Jr Jr) vw ?_;((have hge:s.get v k=(Val.zero,20):=Eh;rw [hge];exact AV)))
  | (refine' Kk;refine' Kx)
 refine' Oe;have hge:s.get v k=if 0≤k∧k<th.l.length then (th.l.getD k.toNat Val.zero,0) else (Val.zero,1):=(by unfold HpS.get;rw [e0];simp only [ho.thg hr hth];rfl);refine' LV
 ((first|(refine' KX)|(refine' K1)|(refine' Ae<;>intro hc));all_goals (refine' Sm;refine' T8;refine' MT;(first|refine' Kj|(refine' Kl;refine Q9 (M4 (H:=H0) hS hr) hel rfl KU (Fb _) (O4 hth) rfl ?_));(first|(refine' Kj)|(refine' Kl;refine QL (fY (H:=H0) (M4 (H:=H0) hS hr) hth) vw KU Dh ?_));first|refine' Kj|(refine' Kl;(first|(refine' Ml)|(refine' MN)|(refine' Ag<;>intro hc)))));all_goals (refine' Ll)
 all_goals
  first
  | (refine' Ki;all_goals (refine' Kv;refine L0 [_,_,_,_] ?_;refine Kt hS ?_;intro w1 hS;have hS:=hS.ns;refine' Mo;refine QY vw (Q2 (n:=4) Jk Jk (hS.blkAt fd) Jr Jr) vw ?_);all_goals ((first|(have hge:s.get v k=(Val.zero,20):=Eh;rw [hge];exact AV)|(rw [if_neg Jo] at hge;rw [hge];exact AV))))
  | (refine' Kk;refine' Kx)
 refine' KP;refine' MY;refine Q9 (M4 (H:=H0) hS hr) hel rfl KU (Fb _) (O4 hth) rfl ?_;refine' zm;refine P5 (fY (H:=H0) (M4 (H:=H0) hS hr) hth) vw rfl KU Jo Dt ?_;rw [Fb];intro b9 o9 hel9;refine bu (fY (H:=H0) (M4 (H:=H0) hS hr) hth) hel9 rfl KU (Fb _) (ag Jo) ?_;refine SM hS rfl rfl Jr fd Js (by simp [Val.cells,oneC]) Jr ?_;intro w1 hS;have hS:=hS.ns;refine' Mo;refine QY vw (Q2 (n:=4) Jk Jk (hS.blkAt fd) Jr Jr) vw ?_;((first|(have hge:s.get v k=(Val.zero,20):=Eh;rw [hge];exact AV)|(rw [if_neg Jo] at hge;rw [hge];exact AV)|(rw [if_pos Jo] at hge;rw [hge];exact AV)))
theorem lT (v:Val):∀u∈v.cells,oneC u=true:=by simp [Val.cells,oneC]
theorem jz {l:List Val}{k:Nat}{x:Val}:(l.map Val.cells).set k x.cells=(l.set k x).map Val.cells:=GA.symm
theorem Yu {s:HpS}{x:Val}(h:s.setC v k x≠0):s.set v k x=s:=by
 unfold HpS.set;split
 · rfl
 · rw [if_neg h]
def Sz (r:RgnV)(t:Nat)(th:ThgV)(k:Nat)(x:Val):RgnV:=⟨r.there,r.lv,r.l.set t ⟨th.array,th.lv,th.l.set k x⟩,r.pages,r.used⟩
theorem UZ {r:RgnV}{k:Nat}{th:ThgV}{x:Val}:(Sz r t th k x).abs=r.abs.upd t (th.abs.upd k x):=by simp [Sz,RgnV.abs,Rgn.upd,GA];rfl
theorem Yv {s:HpS}{x:Val}{kr:Nat}{r:RgnV}{th:ThgV}{rv:List RgnV}(ho:HpO N s rv)(hr:rv[kr]?=some r)(hth:r.l[t]?=some th)(e0:s.at_ v=some (kr,t))(hc:s.setC v k x=0)(hk:k.toNat<th.l.length):
 s.set v k x=⟨s.l.set kr (r.abs.upd t (th.abs.upd k.toNat x)),s.left⟩∧(s.set v k x).live=s.live∧HpO N (s.set v k x) (rv.set kr (Sz r t th k.toNat x)):=by
 obtain ⟨r',h1,h2,h3⟩:=ho.at_ (E8.1 hr).1;rw [hr] at h1;cases h1
 have e:s.set v k x=⟨s.l.set kr (r.abs.upd t (th.abs.upd k.toNat x)),s.left⟩:=by
  unfold HpS.set;rw [e0];simp only [hc,if_true,h2,ho.thg hr hth]
 have hl:=cr (r':=r.abs.upd t (th.abs.upd k.toNat x)) h3;have hth2:(r.abs.upd t (th.abs.upd k.toNat x)).there=r.abs.there:=rfl;rw [hth2] at hl
 have hlive:(s.set v k x).live=s.live:=by
  rw [e];show (s.l.set kr _).countP (fun r=>r.there)=s.l.countP fun r=>r.there;omega
 obtain ⟨g1,g2,g3,g4,g5,g6⟩:=ho.rng hr;refine ⟨e,hlive,⟨by rw [GA,UZ,ho.hr,e],?_⟩⟩;rw [e];have hok:=ho.ok
 have hth3:r.there=true:=by
  cases hx:r.there with
  | true=>rfl
  | false=>
    have:=(g6 hx).1;have:=(E8.1 hth).1;omega
 refine I6 hok h3 (FE _) hok.left rfl (by show s.live+_≤_;have:=hok.live;rw [hth2];omega) ⟨by simp [Rgn.upd,RgnV.abs];exact g1,fun y hy=>?_,g3,g4,g5,fun hf=>by simp [Rgn.upd,RgnV.abs,hth3] at hf⟩;rcases Ld hy with rfl|hy
 · simp only [Thg.upd,FL];exact g2 th (Fa hth)
 · obtain ⟨z,hz,rfl⟩:=FU.1 hy;exact g2 z hz
theorem U0 (v:Val)(k:Int)(x:Val)(hS:St cx w L)(hi:nth L i=some (Mr N h s)):Kf Tryz.prog zB [h,v.v, .int .i64 k,x.v] w fun u w'=>u= .int .i64 (s.setC v k x)∧St cx w' (L.set i (Mr N h (s.set v k x))):=by
 (obtain ⟨hok,b,rfl⟩:=Yn hS hi;obtain ⟨lv,rv,ho,hS⟩:=Ym hS hi;refine Kq Ko Tryz.func179 ?_;refine' Kv;refine N9 hS vw Jr ?_;intro b6 w1 hS;refine N9 hS vw Jr ?_;intro b8 w1 hS;simp only [Val.cells] at hS;refine' L6;refine zv hS ?_;refine' Kr (c:=UT v ho (St.rot2 hS));rintro v1 w1 ⟨hS,(⟨e0,rfl⟩|⟨kr,t,th,e0,r,b7,o7,hr,hth,rfl,hel⟩)⟩;all_goals (refine' zm;refine' zn;refine QA ?_;refine QA ?_;refine' LS;refine' zm;(first|refine nJ (e:=272) Jk rfl rfl ?_|refine nK (e:=272) Jk rfl rfl ?_);refine' zm;refine' Mc;refine' T8;refine' MT;first|(refine' Kj)|(have hge:s.setC v k x=(if th.array=true∧x.kind≠1 then 20 else if 0≤k∧k<th.l.length then 0 else 1):=(by unfold HpS.setC;rw [e0];simp only [ho.thg hr hth];rfl);refine' Kl;refine Q9 (j:=0) (u:= .bool th.array) (M4 (H:=H0) hS hr) hel rfl KU (Fb _) (O4 hth) rfl ?_;cases hta:th.array<;>by_cases hx1:x.kind=1)));all_goals (refine' Mc;refine' NY;(first|refine' Kj|(refine' Kl;(first|(refine Q9 (M4 (H:=H0) hS hr) hel rfl KU (Fb _) (O4 hth) rfl ?_)|(refine zl hS ?_))));refine' iP;refine' Z1;refine' Ll)
 all_goals
  first
  | (refine' Ki;all_goals (refine' KQ);all_goals ((first|(have hc1:s.setC v k x=20:=Ey;rw [Yu Jo,hc1];exact AG)|(have hc1:s.setC v k x=20:=Ex;rw [Yu Jo,hc1];exact AG))))
  | (refine' Kk;all_goals refine' Kx)
 (all_goals (refine' Na;first|(refine' KX)|(refine' K1)|(refine' Ae<;>intro hc));all_goals (refine' Sm;refine' T8;refine' MT;(first|refine' Kj|(refine' Kl;refine Q9 (M4 (H:=H0) hS hr) hel rfl KU (Fb _) (O4 hth) rfl ?_));(first|refine' Kj|(refine' Kl;refine QL (fY (H:=H0) (M4 (H:=H0) hS hr) hth) vw KU Dh ?_));first|refine' Kj|(refine' Kl;(first|(refine' Ml)|(refine' MN)|(refine' Ag<;>intro hc)))));all_goals (refine' Ll)
 all_goals
  first
  | (refine' Ki;all_goals (refine' KQ);all_goals ((first|(have hc1:s.setC v k x=20:=Ey;rw [Yu Jo,hc1];exact AG)|(have hc1:s.setC v k x=20:=Ex;rw [Yu Jo,hc1];exact AG)|(have hc1:s.setC v k x=1:=EO;rw [Yu Jo,hc1];exact AG))))
  | (refine' Kk;all_goals refine' Kx)
 all_goals (refine QA ?_;have hS:=fY (H:=H0) (M4 (H:=H0) hS hr) hth;refine zD (ci 8 [7]) ?_;have hS:=hS.drew;refine' Po;refine Q9 hS hel rfl fd (Fb _) (O4 hth) rfl ?_;refine' zm;refine zv hS ?_;refine P5 hS vw rfl KU Jo Dt ?_;rw [Fb];intro b9 o9 hel9;refine fH hS hel9 rfl rfl Jr KU (Fb _) (ag Jo) rfl (lT x) jz ?_;intro w8 hS;have hS:=hS.ns;have hS:=cP (H:=H0) (l:=r.l) (k:=t) (t:=⟨th.array,th.lv,th.l.set k.toNat x⟩) (E8.1 hth).1 hS;refine' zn;refine' KQ;(first|(have hc1:s.setC v k x=20:=Ey;rw [Yu Jo,hc1];exact AG)|(have hc1:s.setC v k x=20:=Ex;rw [Yu Jo,hc1];exact AG)|(have hc1:s.setC v k x=1:=EO;rw [Yu Jo,hc1];exact AG)|(have hc1:s.setC v k x=0:=(by rw [hge,if_neg (by simp [hta,hx1]),if_pos Jo]);obtain ⟨e1,e2,ho2⟩:=Yv ho hr hth e0 hc1 Jo;rw [hc1];have htc:((r.l.set t ⟨th.array,th.lv,th.l.set k.toNat x⟩).map ThgV.cells)=r.l.map ThgV.cells:=(by rw [GA];exact fF (by rw [Fy,hth];rfl));rw [←htc] at hS;have hS:=pw (H:=H0) (rv:=rv) (k:=kr) (r:=Sz r t th k.toNat x) (E8.1 hr).1 (L:=L.eraseIdx i) (by unfold Sz;exact hS.sp);refine ⟨_,rfl,rfl,(Qz (lv:=lv) ho2 (L:=L.eraseIdx i) ?_).back hi⟩;have hbc:((rv.set kr (Sz r t th k.toNat x)).map RgnV.cells)=rv.map RgnV.cells:=(by rw [GA];exact fF (by rw [Fy,hr];rfl));rw [e2];unfold RX;rw [hbc,e1];exact hS)))
theorem Qhw (l:List Val):max (l.length:Int) 1=L9 l:=by unfold L9;split<;>omega
theorem Qgf {l:List Val}(h:l.length≤1000):1≤L9 l∧L9 l≤1000:=by unfold L9;split<;>omega
theorem U1 (v:Val)(vl:Value)(l:List Val)(hN:N≤100000)(hl:l.length≤1000)(hS:St cx w L)(hi:nth L i=some (Mr N h s))(hj:nth L j=some (sl H0.Tv 4 vl (l.map Val.cells))):
 Kf Tryz.prog zx [h,v.v,vl] w fun u w'=>u= .tuple #[(s.putV v 3 (L9 l)).v, .int .i64 (s.code v (L9 l))]∧St cx w' (L.set i (Mr (N+1) h (s.tuple v l))):=by
 have hlen:(l.map Val.cells).length=l.length:=Fb _;refine Kq Ko Tryz.func176 ?_;refine' Kv;refine N9 hS vw Jr ?_;intro b4 w1 hS;simp only [Val.cells] at hS;refine Qd hS ?_;intro b6 w1 hS;refine' Ms;refine zC [(0,none),(1,none),(2,none),(3,none),(4,none),(5,none),(6,some (some [1])),(7,none),(8,some none),(9,none),(10,none),(11,some none),(12,some none)] ?_;have hS:=hS.drew;refine' PI;refine zv hS ?_;refine' Mu;refine QL hS vw (show nth (_::_::L) (j+2)=_ from hj) hlen ?_;refine' KO;refine ZQ rfl rfl ?_;rw [Qhw];refine' KO;refine' zm;refine' Lp;refine' KE (c:=UW hS (show nth (_::_::L) (j+2)=_ from hj) Jo);rintro v1 w1 ⟨hS,hone⟩;obtain ⟨a_,c_,rfl⟩:=hS.shape KU;refine' Mp;refine Pg [_,_] ?_;refine' Lk;refine sa vw vw vw vw vw (UU v 3 (L9 l) false _ l (Qgf hl) hN hl hone hS (show nth (_::_::L) (i+2)=_ from hi)) ?_;rintro v2 w2 ⟨rfl,hS⟩;have hS:=hS.ns;refine' KO;refine' RP;refine' Lk;((refine SM hS rfl rfl Jr fd Js (lT _) Jr ?_;intro w1 hS;have hS:=hS.ns));refine' XY;refine' zr;refine QY vw (Q2 (n:=4) Jk Jk (hS.blkAt fd) Jr Jr) vw ?_;((exact ⟨_,rfl,rfl,hS.drop.drop⟩))
theorem Qco:(O3 ((j:Int)+1))=O3 j++[⟨1,0,0,0⟩]:=by
 unfold O3;rw [show ((j:Int)+1).toNat=j+1 by omega,FJ,Il]
theorem QdK {n:Nat}:(O3 n).length=n:=by simp [O3]
theorem px (v:Val)(n:Int)(hN:N≤100000)(hS:St cx w L)(hi:nth L i=some (Mr N h s)):
 Kf Tryz.prog zY [h,v.v, .int .i64 n] w fun u w'=>u= .tuple #[(s.arrV v n).v, .int .i64 (s.arrC v n)]∧St cx w' (L.set i (Mr (N+1) h (s.arr v n))):=by
 by_cases hn:n<0∨15<n
 · have e1:s.arr v n=s:=(by unfold HpS.arr;rw [if_pos hn]);have e2:s.arrV v n=Val.zero:=(by unfold HpS.arrV;rw [if_pos hn]);have e3:s.arrC v n=1:=(by unfold HpS.arrC;rw [if_pos hn]);rw [e1,e2,e3];obtain ⟨hok,b,rfl⟩:=Yn hS hi;(refine Kq Ko Tryz.func220 ?_;refine' Kv;refine N9 hS vw Jr ?_;intro b4 w1 hS;simp only [Val.cells] at hS;refine Qd hS ?_;intro b6 w1 hS;refine' OX;first|(refine' KX)|(refine' K1)|(refine' Ae<;>intro hc));all_goals (refine' Lv;refine' fQ;refine' Ll;refine' Ki;refine' Kv;refine L0 [_,_,_,_] ?_;refine Kt hS ?_;intro w1 hS;have hS:=hS.ns;refine' Mo;refine QY vw (Q2 (n:=4) Jk Jk (hS.blkAt fd) Jr Jr) vw ?_;refine ⟨_,rfl,rfl,?_⟩;obtain ⟨lv,rv,ho,hS⟩:=Ym hS.drop.drop hi;exact (Qz (⟨ho.hr,hok.mono Jo⟩:HpO (N+1) s rv) hS).back hi)
 · obtain ⟨m,rfl⟩:=Gt (show 0≤n by omega)
   have e1:s.arr v m=s.put v (1+m) ⟨true,O3 m⟩:=(by unfold HpS.arr;rw [if_neg hn,Jw]);have e2:s.arrV v m=s.putV v 4 (1+m):=(by unfold HpS.arrV;rw [if_neg hn,Jw]);have e3:s.arrC v m=s.code v (1+m):=(by unfold HpS.arrC;rw [if_neg hn,Jw]);rw [e1,e2,e3];refine Kq Ko Tryz.func220 ?_;refine' Kv;refine N9 hS vw Jr ?_;intro b4 w1 hS;simp only [Val.cells] at hS;refine Qd hS ?_;intro b6 w1 hS;refine' OX;refine' XU;refine' Lv;refine' iO;refine' Ll;refine' Pj;refine' Kv;refine Pg [_,_] ?_;refine Qd hS ?_;intro b8 w1 hS;((refine SM hS rfl rfl Jr fd Js (by first|exact lT _|exact jy rfl rfl) Jr ?_;intro w1 hS;have hS:=hS.ns));refine' zn;refine' Na;refine' Ob;have hS:=hS.nil (T:=H0.Tv) (es:=4);refine zo [] (fun A ρ' w'=>∃(j:Nat) (va:Value),Kn ρ' A∧Kn ρ' [(0,h),(2, .int .i64 m),(4, .pointer (some ⟨b4,0,none⟩)),(6, .pointer (some ⟨b6,0,none⟩)),(8, .pointer (some ⟨b8,0,none⟩)),(17, .int .i64 m),(18, .int .i64 j)]∧(j≤m)∧St cx w' (sl H0.Tv 4 va ((O3 j).map Val.cells)::blk b8 272 [.bool true,va]::blk b6 224 [.int .i64 0, .int .i64 0, .int .i64 0, .int .i64 0]::blk b4 224 [.int .i64 v.kind, .int .i64 v.region, .int .i64 v.thing, .int .i64 v.n]::L)) (fun ρ' _=>(m - iv (ρ' 18)).toNat) ?_ ?_
   · exact ⟨0, .slice none 0 0,zh,zh,Jo,hS.sp⟩
   rintro ρ w1 ⟨j,va,hA,hρ,hj,hS⟩;obtain ⟨ρ,rfl⟩:=Kp hA hρ;have hnl:=QdK (n:=j);refine' MH;refine' Ab<;>intro hc
   · skip;refine' L4;refine' Uc;refine Pg [_,_,_,_] ?_;refine K8 hS [_,_,_,_] ?_;intro b1 w1 hS;refine NL jx (.inl lQ) hS vw vw fd (hS.srcB fd Jr Dl) Dt ?_;intro v7 w7 hS;have hS:=hS.ns;refine' MA;refine LU hS ?_;intro w1 hS;have hS:=hS.ns;refine' Rr;(exact ⟨⟨j+1,_,zh,zh,Jo,by rw [show ((j+1:Nat):Int)=(j:Int)+1 by omega,Qco,FG];exact hS.sp⟩,Qj Jo⟩)
   · skip;refine' L8;obtain rfl:j=m:=Df;have hone:=hS.oneC KU;refine' KP;refine' Ud;refine' MX;refine zv hS ?_;refine sa vw vw vw vw vw (UU v 4 (1+j) true va (O3 j) Jo hN Jo hone hS (show nth (_::_::_::L) (i+3)=_ from hi)) ?_;rintro v2 w2 ⟨rfl,hS⟩;have hS:=hS.ns;refine' Sk;refine SM hS rfl rfl Jr fd Js (by exact lT _) Jr ?_;intro w1 hS;have hS:=hS.ns;refine' Mo;refine QY vw (Q2 (n:=4) Jk Jk (hS.blkAt fd) Jr Jr) vw ?_;(exact ⟨_,rfl,rfl,hS.drop.drop.drop⟩)
end
section
structure FrmV where
 f:Nat
 b:Nat
 i:Nat
 vv:Value
 vals:List Val
 rv:Value
 regs:List Int
abbrev QK (l:List Int):List (List Value):=l.map fun n=>[.int .i64 n]
def FrmV.abs (x:FrmV):Frm:=⟨x.f,x.b,x.i,x.vals,x.regs⟩
def FrmV.cells (x:FrmV):List Value:=[.int .i64 x.f, .int .i64 x.b, .int .i64 x.i,x.vv,x.rv]
def FrmV.res (x:FrmV):Res:=star (sl 224 4 x.vv (x.vals.map Val.cells)) (sl 3 1 x.rv (QK x.regs))
structure MC where
 hp:Value
 fn:Value
 lv:Value
 iv:Value
 e:Int
 bv:Value
 ov:Value
 fu:Int
 mo:Int
 dn:Bool
 c:Int
 a:Int
@[reducible] def MC.cells (x:MC):List Value:=[x.hp,x.fn,x.lv,x.iv, .int .i64 x.e,x.bv,x.ov, .int .i64 x.fu, .int .i64 x.mo, .bool x.dn, .int .i64 x.c, .int .i64 x.a]
@[reducible] def Oq (fr:List FrmV)(g:FrmV):List (List Value):=fr.map FrmV.cells++[g.cells]
theorem Qn (fr:List FrmV)(g:FrmV):(Oq fr g).length=fr.length+1:=by simp
theorem Qu (fr:List FrmV)(g:FrmV):(Oq fr g)[fr.length]?=some g.cells:=by
 rw [Ff Js];simp
theorem jA {fr:List FrmV}{g g':FrmV}(h:g.cells.set j u=g'.cells):(Oq fr g).set fr.length (g.cells.set j u)=Oq fr g':=by
 rw [h];unfold Oq;rw [GC _ _ Js];simp
@[reducible] def mL (p:Nat)(c:MC)(fr:List FrmV)(g:FrmV)(L:List Res):List Res:=blk p 55 c.cells::sl 110 5 c.lv (Oq fr g)::sl 224 4 g.vv (g.vals.map Val.cells)::sl 3 1 g.rv (QK g.regs)::K3 FrmV.res fr::L
@[reducible] def U2:Value:= .iface 121 (.agg ⟨[]⟩)
@[reducible] def cU (e:Int):Value:= .iface 122 (.int .i64 e)
variable {cx:Cx}{w:World}{L:List Res}{p:Nat}{c:MC}{fr:List FrmV}{g:FrmV}
theorem O5 (hS:St cx w L):Kf Tryz.prog sV [.bool true] w fun u w'=>u= .tuple #[]∧St cx w' L:=by
 refine Kq Ko Tryz.func172 ?_;refine' KP;refine' Nv;refine' Pj;refine' LJ;exact Az
theorem Pt (hS:St cx w L):Ky Tryz.prog sV [.bool false] w (fun _ _=>False) (fun u w'=>u=U2∧St cx w' L):=by
 unfold Ky;refine Kq Ko Tryz.func172 ?_;refine' KP;refine' Nv;refine' Ki;refine' LS;refine L0 [] ?_;refine' lA;refine lq rfl ?_;(repeat (refine' fS));refine' Qe;exact A5
theorem U3 {e:Int}(hS:St cx w L):Kf Tryz.prog sP [.bool false, .int .i64 e] w fun u w'=>u= .tuple #[]∧St cx w' L:=by
 refine Kq Ko Tryz.func117 ?_;refine' LM;refine' Pj;refine' LJ;exact Az
theorem U4 {e:Int}(hS:St cx w L):Ky Tryz.prog sP [.bool true, .int .i64 e] w (fun _ _=>False) (fun u w'=>u=cU e∧St cx w' L):=by
 unfold Ky;refine Kq Ko Tryz.func117 ?_;refine' LM;refine' Ki;refine' LV;refine' lA;refine lq rfl ?_;(repeat (refine' fS));refine' Qe;exact A5
theorem jB (hS:St cx w L):Kf Tryz.prog zk [.int .i64 n] w fun u w'=>u=(K4 n).v∧St cx w' L:=by
 refine Kq Ko Tryz.func169 ?_;refine' OU;(intro p2 w1 hS);refine' LN;refine M9 [_,_,_,_] ?_;((refine Kt hS ?_;intro w1 hS;have hS:=hS.ns));refine' Lz;refine LF vw (Q2 (n:=4) Jk Jk (hS.blkAt fd) Jr Jr) ?_;((exact Az))
theorem PX (hf:fr.length≤1000)(hS:St cx w (mL p c fr g L)):Kf Tryz.prog yD [.pointer (some ⟨p,0,none⟩)] w fun u w'=>∃b o,u= .pointer (some ⟨b,o,none⟩)∧Nw c.lv (fr.length+1) 5 fr.length b o∧St cx w' (mL p c fr g L):=by
 refine Kq Ko Tryz.func114 ?_;refine' LM;refine QA ?_;refine zD (ci 12 [11]) ?_;have hS:=hS.drew;refine' P8;refine' P8;((refine QL hS vw fd (Qn fr g) ?_));refine' PD;rw [show ((fr.length+1:Nat):Int) - 1=fr.length by omega];((refine RI hS vw rfl fd D0 ?_;rw [Qn];intro b1 o1 hel));refine' La;((exact ⟨_,rfl,b1,o1,rfl,hel,hS.sp⟩))
theorem OE (hf:fr.length≤1000)(hS:St cx w (mL p c fr g L)):Ky Tryz.prog zu [.pointer (some ⟨p,0,none⟩), .int .i64 k] w
 (fun u w'=>∃v:Val,g.abs.val k=some v∧u=v.v∧St cx w' (mL p c fr g L)) (fun u w'=>g.abs.val k=none∧u=U2∧St cx w' (mL p c fr g L)):=by
 unfold Ky;by_cases hk:0≤k∧k<g.vals.length
 · obtain ⟨v,hv⟩:∃v,g.vals[k.toNat]?=some v:=⟨_,E7 Jo⟩;have hg:g.abs.val k=some v:=(by unfold Frm.val;rw [if_neg Jo];exact hv);refine Kq Ko Tryz.func174 ?_;refine' OU;intro p4 w1 hS;refine' L5;have hS:St cx _ (mL p c fr g (blk p4 224 [.int .i64 0, .int .i64 0, .int .i64 0, .int .i64 0]::L)):=hS.sp;refine' LV;refine' KE (c:=PX hf hS);rintro v1 w1 ⟨b1,o1,rfl,hel,hS⟩;refine' MY;refine Q9 hS hel rfl fd (Qn fr g) (Qu fr g) rfl ?_;refine' L6;refine' Ml;refine' Sm;refine' XT;(first|refine' Kj|(refine' Kl;refine' KX));refine' Oy;refine' KE (c:=O5 hS);rintro v1 w1 ⟨rfl,hS⟩;refine' Uj;refine P5 hS vw rfl fd Jo DJ ?_;rw [Fb];intro b2 o2 hel2;refine bu hS hel2 rfl fd (Fb _) (show (g.vals.map Val.cells)[k.toNat]?=some v.cells by rw [Fy,hv];rfl) ?_;refine SM hS rfl rfl Jr fd Js (by simp [Val.cells,oneC]) Jr ?_;intro w1 hS;have hS:=hS.ns;refine' Lz;refine LF vw (Q2 (n:=4) Jk Jk (hS.blkAt fd) Jr Jr) ?_;(exact .inl ⟨_,rfl,v,hg,rfl,hS.sp⟩)
 · have hg:g.abs.val k=none:=by
    unfold Frm.val;by_cases h0:k<0
    · rw [if_pos h0]
    · rw [if_neg h0];exact FI (by show g.vals.length≤_;omega)
   (refine Kq Ko Tryz.func174 ?_;refine' OU;intro p4 w1 hS;refine' L5;have hS:St cx _ (mL p c fr g (blk p4 224 [.int .i64 0, .int .i64 0, .int .i64 0, .int .i64 0]::L)):=hS.sp;refine' LV;refine' KE (c:=PX hf hS);rintro v1 w1 ⟨b1,o1,rfl,hel,hS⟩;refine' MY;refine Q9 hS hel rfl fd (Qn fr g) (Qu fr g) rfl ?_;refine' L6;first|(refine' Ml)|(refine' MN)|(refine' Ag<;>intro hc));all_goals (refine' Sm;refine' XT;refine' lE;refine' Lu;first|(refine' KE (c:=O5 hS);rintro v1 w1 ⟨rfl,hS⟩)|(refine OS (c:=Pt hS) (p:=by rintro v9 w9 ⟨rfl,hS⟩;(repeat (first|refine' Q6|refine' Q8|refine fun _=>?_));refine' Qe;refine .inr ⟨_,rfl,?_⟩;first|(exact ⟨hg,rfl,hS.sp⟩)) (h:=fun _ _ h=>h.elim)))
   all_goals (refine' Uj; refine' zi; intro b1 o1 cs1 x1 hat1 hx1 he1; obtain ⟨vp1, vr1, vb1, rfl, hp1, hr1, hb1⟩ := QH he1; refine zv hS ?_; refine Kt hS ?_; intro w1 hS; have hS := hS.ns; refine' Lz; refine LF vw (Q2 (n := 4) Jk Jk (hS.blkAt fd) Jr Jr) ?_; trace_state; fail "no ret fits")
end
end Go.Proofs.YteflkifmgnpbhaaGreat
namespace Go.Lir
theorem Qir {out:List Val}(hd:g.args l=(g.args (l.drop q)).map fun r=>out++r)(hx:l[q]?=some k)(hv:g.val k=some v):g.args l=(g.args (l.drop (q+1))).map fun r=>(out++[v])++r:=by
 rw [hd,Q1 hx,Frm.args,hv]
 cases g.args (l.drop (q+1)) with
 | none=>rfl
 | some r=>simp
theorem U5 {out:List Val}(hd:g.args l=(g.args (l.drop q)).map fun r=>out++r)(hx:l[q]?=some k)(hv:g.val k=none):g.args l=none:=by
 rw [hd,Q1 hx,Frm.args,hv];rfl
theorem U6 {out:List Val}(hd:g.args l=(g.args (l.drop q)).map fun r=>out++r)(hq:l.length≤q):g.args l=some out:=by
 rw [hd,Fh hq,Frm.args];simp
theorem cV:g.args l=(g.args (l.drop 0)).map fun r=>[]++r:=by
 rw [F9];cases g.args l<;>rfl
theorem U7 {v:Int}{out:List Int}(hd:g.rgs l=(g.rgs (l.drop q)).map fun r=>out++r)(hx:l[q]?=some k)(hv:g.reg k=some v):g.rgs l=(g.rgs (l.drop (q+1))).map fun r=>(out++[v])++r:=by
 rw [hd,Q1 hx,Frm.rgs,hv]
 cases g.rgs (l.drop (q+1)) with
 | none=>rfl
 | some r=>simp
theorem Yw {out:List Int}(hd:g.rgs l=(g.rgs (l.drop q)).map fun r=>out++r)(hx:l[q]?=some k)(hv:g.reg k=none):g.rgs l=none:=by
 rw [hd,Q1 hx,Frm.rgs,hv];rfl
theorem Yx {out:List Int}(hd:g.rgs l=(g.rgs (l.drop q)).map fun r=>out++r)(hq:l.length≤q):g.rgs l=some out:=by
 rw [hd,Fh hq,Frm.rgs];simp
theorem jC:g.rgs l=(g.rgs (l.drop 0)).map fun r=>[]++r:=by
 rw [F9];cases g.rgs l<;>rfl
theorem jD (h:g.val k=some v)(hk:v.kind=1):g.num k=some v.n:=by unfold Frm.num;rw [h];exact if_pos hk
theorem jE (h:g.val k=some v)(hk:v.kind≠1):g.num k=none:=by unfold Frm.num;rw [h];exact if_neg hk
theorem jF (h:g.val k=none):g.num k=none:=by unfold Frm.num;rw [h]
theorem cW {v:Int}(h0:0≤k)(h:g.regs[k.toNat]?=some v):g.reg k=some v:=by unfold Frm.reg;rw [if_neg Jo];exact h
theorem cX (h:k<0∨(g.regs.length:Int)≤k):g.reg k=none:=by
 unfold Frm.reg;by_cases h0:k<0
 · rw [if_pos h0]
 · rw [if_neg h0];exact FI Jo
end Go.Lir
namespace Go.Proofs.YteflkifmgnpbhaaGreat
open Go.Lir
attribute [local irreducible] LC.wp Q0 Qs Qi KN QD LO.wp Q7 Calls
section
variable {cx:Cx}{w:World}{L:List Res}{p:Nat}{c:MC}{fr:List FrmV}{g:FrmV}
attribute [local irreducible] Frm.val Frm.num Frm.args Frm.rgs Frm.reg
theorem SA (hf:fr.length≤1000)(hS:St cx w (mL p c fr g L)):Ky Tryz.prog zp [.pointer (some ⟨p,0,none⟩), .int .i64 k] w
 (fun u w'=>∃n:Int,g.abs.num k=some n∧u= .int .i64 n∧St cx w' (mL p c fr g L)) (fun u w'=>g.abs.num k=none∧u=U2∧St cx w' (mL p c fr g L)):=by
 ((unfold Ky;refine Kq Ko Tryz.func170 ?_;refine' LM;refine' Lc;refine KH (c:=OE hf hS) (p:=by rintro u9 w9 ⟨hv,rfl,hS⟩;(repeat (first|refine' Q6|refine' Q8|refine fun _=>?_));refine' Qe;refine .inr ⟨_,rfl,?_⟩;exact ⟨jF hv,rfl,hS.sp⟩) (h:=?_);rintro u1 w2 ⟨v,hv,rfl,hS⟩;unfold Val.v Val.cells;refine Qd hS ?_;intro p5 w1 hS;refine Kt hS ?_;intro w1 hS;have hS:=hS.ns;refine' NA;first|(refine' Ql)|(refine' Qp)|(refine' Ac<;>intro hc));all_goals (first|(refine' KE (c:=O5 hS);rintro v1 w1 ⟨rfl,hS⟩)|(refine OS (c:=Pt hS) (p:=by rintro v9 w9 ⟨rfl,hS⟩;(repeat (first|refine' Q6|refine' Q8|refine fun _=>?_));refine' Qe;refine .inr ⟨_,rfl,?_⟩;first|(exact ⟨jE hv Jo,rfl,hS.sp⟩)) (h:=fun _ _ h=>h.elim))));refine' NA;refine' La;(exact .inl ⟨_,rfl,v.n,jD hv Jo,rfl,hS.sp⟩)
def FrmV.push (g:FrmV)(tv:Value)(vs:List Val):FrmV:=⟨g.f,g.b,g.i,tv,g.vals++vs,g.rv,g.regs⟩
theorem Rb {v2:Value}(hf:fr.length≤1000)(hn:g.vals.length+vs.length≤1000000)(hS:St cx w (mL p c fr g L))(hj:nth L j=some (sl 224 4 v2 (vs.map Val.cells))):
 Kf Tryz.prog zg [.pointer (some ⟨p,0,none⟩),v2] w fun u w'=>∃tv,u= .tuple #[]∧St cx w' (mL p c fr (g.push tv vs) L):=by
 refine Kq Ko Tryz.func168 ?_;refine' LV;refine' KE (c:=PX hf hS);rintro v1 w1 ⟨b1,o1,rfl,hel1,hS⟩;refine' zm;refine' KE (c:=PX hf hS);rintro v2 w1 ⟨b2,o2,rfl,hel2,hS⟩;refine' MY;((refine Q9 hS hel2 rfl fd (Qn fr g) (Qu fr g) rfl ?_));refine' zm;((refine NL jx (.inl lQ) hS vw vw (i:=2) rfl (hS.srcS (i:=j+5) hj (tF vs)) EZ ?_;intro v7 w7 hS;have hS:=hS.ns;have ho7:=hS.oneC (i:=2) rfl;rw [←FG] at hS));refine' MY;refine SN hS hel1 rfl vw fd (Qn fr g) (Qu fr g) Jo ho7 (jA (g':=g.push v7 vs) rfl) ?_;intro w8 hS;have hS:=hS.ns;refine' OW;exact ⟨_,rfl,v7,rfl,hS.sp⟩
end
section
variable {cx:Cx}{w:World}{L:List Res}{p:Nat}{c:MC}{fr:List FrmV}{g:FrmV}
attribute [local irreducible] Frm.val Frm.num Frm.args Frm.rgs Frm.reg
theorem jG (hl1:l.length≤100000)(hf:fr.length≤1000)(hl:Kh.sl cx v1 l)(hS:St cx w (mL p c fr g L)):Ky Tryz.prog zz [.pointer (some ⟨p,0,none⟩),v1] w
 (fun u w'=>∃vs:List Val,g.abs.args l=some vs∧vs.length=l.length∧oneC u=true∧St cx w' (mL p c fr g (sl 224 4 u (vs.map Val.cells)::L))) (fun u w'=>g.abs.args l=none∧u=U2∧St cx w' (mL p c fr g L)):=by
 have hlen:=hl.len;unfold Ky;refine Kq Ko Tryz.func177 ?_;refine' LM;refine' Mq;refine' Oh;have hS:St cx _ (mL p c fr g (sl 224 4 (.slice none 0 0) (([]:List Val).map Val.cells)::L)):=(by have hS:=hS.nil (T:=224) (es:=4);exact hS.sp);refine zo [0,8,9] (fun A ρ' w'=>∃(q:Nat) (vo:Value) (out:List Val),Kn ρ' A∧Kn ρ' [(5,vo),(10, .int .i64 q)]∧(q≤l.length)∧(out.length=q)∧(oneC vo=true)∧(g.abs.args l=(g.abs.args (l.drop q)).map fun r=>out++r)∧St cx w' (mL p c fr g (sl 224 4 vo (out.map Val.cells)::L))) (fun ρ' _=>(l.length - iv (ρ' 10)).toNat) ?_ ?_
 · exact ⟨0, .slice none 0 0,[],zh,zh,Jo,rfl,rfl,cV,hS.sp⟩
 rintro ρ w1 ⟨q,vo,out,hA,hρ,hq,hol,hvo,hd,hS⟩;obtain ⟨ρ,rfl⟩:=Kp hA hρ;refine' MH;refine' Ab<;>intro hc
 · skip;refine' WW;intro b1 o1 cs1 x1 hat1 hx1 he1;obtain rfl:=QG he1;refine' N0;refine' KA;refine' MZ;refine' zm;refine KH (c:=OE hf hS) (p:=by rintro u9 w9 ⟨hv,rfl,hS⟩;(repeat (first|refine' Q6|refine' Q8|refine fun _=>?_));refine' Qe;refine .inr ⟨_,rfl,?_⟩;exact ⟨U5 hd hx1 hv,rfl,hS.sp⟩) (h:=?_);rintro u1 w2 ⟨v,hv,rfl,hS⟩;unfold Val.v Val.cells;refine K8 hS [_,_,_,_] ?_;intro b1 w1 hS;refine NL jx (.inl lQ) hS vw vw (i:=6) rfl (hS.srcB (i:=0) rfl Jr Dl) Du ?_;intro v7 w7 hS;have hS:=hS.ns;have ho7:=hS.oneC (i:=6) rfl;refine' KA;refine' N1;(exact ⟨⟨q+1,v7,out++[v],zh,zh,Jo,by rw [Fc,hol];rfl,ho7,Qir hd hx1 hv,by rw [FG];exact hS.sp⟩,Qj Jo⟩)
 · skip;refine' Sn;(exact .inl ⟨_,rfl,out,U6 hd Jo,Jo,hvo,hS.sp⟩)
theorem U8 (hl1:l.length≤100000)(hf:fr.length≤1000)(hl:Kh.sl cx v1 l)(hS:St cx w (mL p c fr g L)):Ky Tryz.prog zZ [.pointer (some ⟨p,0,none⟩),v1] w
 (fun u w'=>∃vs:List Int,g.abs.rgs l=some vs∧vs.length=l.length∧oneC u=true∧St cx w' (mL p c fr g (sl 3 1 u (QK vs)::L))) (fun u w'=>g.abs.rgs l=none∧u=U2∧St cx w' (mL p c fr g L)):=by
 have hlen:=hl.len;unfold Ky;refine Kq Ko Tryz.func221 ?_;refine' LM;refine' Mq;refine' Oh;have hS:St cx _ (mL p c fr g (sl 3 1 (.slice none 0 0) (QK [])::L)):=(by have hS:=hS.nil (T:=3) (es:=1);exact hS.sp);refine zo [0,9,10] (fun A ρ' w'=>∃(q:Nat) (vo:Value) (out:List Int),Kn ρ' A∧Kn ρ' [(5,vo),(11, .int .i64 q)]∧(q≤l.length)∧(out.length=q)∧(oneC vo=true)∧(g.abs.rgs l=(g.abs.rgs (l.drop q)).map fun r=>out++r)∧St cx w' (mL p c fr g (sl 3 1 vo (QK out)::L))) (fun ρ' _=>(l.length - iv (ρ' 11)).toNat) ?_ ?_
 · exact ⟨0, .slice none 0 0,[],zh,zh,Jo,rfl,rfl,jC,hS.sp⟩
 rintro ρ w1 ⟨q,vo,out,hA,hρ,hq,hol,hvo,hd,hS⟩;obtain ⟨ρ,rfl⟩:=Kp hA hρ;refine' MH;refine' Ab<;>intro hc
 · skip;(refine' bM;refine' zi;intro b1 o1 cs1 x1 hat1 hx1 he1;obtain rfl:=QG he1;(first|(refine Q9 hS hel rfl (i:=1) rfl (Qn fr g) (Qu fr g) rfl ?_)|(refine zl hS ?_)|(refine Rm hS ?_));refine' L6;refine' KE (c:=PX hf hS);rintro v1 w1 ⟨b1,o1,rfl,hel,hS⟩;refine' L6;first|(refine' Ml)|(refine' MN)|(refine' Ag<;>intro hc));(all_goals (refine' Sm;refine' T8;refine' MT;(first|refine' Kj|(refine' Kl;refine Q9 hS hel rfl (i:=1) rfl (Qn fr g) (Qu fr g) rfl ?_));refine' XT;first|refine' Kj|(refine' Kl;(first|(refine' KX)|(refine' K1)|(refine' Ae<;>intro hc))));all_goals (refine' Lu;first|(refine' KE (c:=O5 hS);rintro v1 w1 ⟨rfl,hS⟩)|(refine OS (c:=Pt hS) (p:=by rintro v9 w9 ⟨rfl,hS⟩;(repeat (first|refine' Q6|refine' Q8|refine fun _=>?_));refine' Qe;refine .inr ⟨_,rfl,?_⟩;first|(exact ⟨Yw hd hx1 (cX (by show x1<0∨(g.regs.length:Int)≤x1;omega)),rfl,hS.sp⟩)) (h:=fun _ _ h=>h.elim))));refine' zn;obtain ⟨r9,hr9⟩:∃r,g.regs[x1.toNat]?=some r:=⟨_,E7 Jo⟩;have hrow:(QK g.regs)[x1.toNat]?=some [.int .i64 r9]:=(by rw [Fy,hr9];rfl);have hrg:g.abs.reg x1=some r9:=cW Jo hr9;refine' MZ;refine' MY;refine Q9 hS hel rfl (i:=1) rfl (Qn fr g) (Qu fr g) rfl ?_;refine' zm;(first|(refine' Nj;intro b2 o2 cs2 x2 hat2 hx2 he2;obtain rfl:=QG he2)|(refine PE hS ?_;intro b2 o2 hel2)|(refine XS hS ?_;intro b2 o2 hel2));refine QF hS hel2 rfl (i:=3) rfl rfl hrow rfl ?_;refine K8 hS [_] ?_;intro b1 w1 hS;refine NL S8 (.inl UI) hS vw vw (i:=6) rfl (hS.srcB (i:=0) rfl Jr Dl) Du ?_;intro v7 w7 hS;have hS:=hS.ns;have ho7:=hS.oneC (i:=6) rfl;refine' KA;refine' N1;(exact ⟨⟨q+1,v7,out++[r9],zh,zh,Jo,by rw [Fc,hol];rfl,ho7,U7 hd hx1 hrg,by rw [QK,FG];exact hS.sp⟩,Qj Jo⟩)
 · skip;refine' Sn;(exact .inl ⟨_,rfl,out,Yx hd Jo,Jo,hvo,hS.sp⟩)
end
section
variable {cx:Cx}{w:World}{L:List Res}{p N:Nat}{c:MC}{fr:List FrmV}{g:FrmV}{h:HpS}{out:List Int}
attribute [local irreducible] Frm.val Frm.num Frm.args Frm.rgs Frm.reg HpS.get HpS.set HpS.setC HpS.len HpS.code HpS.put HpS.putV HpS.open HpS.shut HpS.full HpS.openV HpS.can HpS.arr HpS.arrC HpS.arrV HpS.tuple
theorem lU {e:Int}(hf:fr.length≤1000)(hn:g.vals.length≤900000)(hS:St cx w (mL p c fr g L)):Ky Tryz.prog zw [.pointer (some ⟨p,0,none⟩),v.v, .int .i64 e] w
 (fun u w'=>e=0∧∃tv,u= .tuple #[]∧St cx w' (mL p c fr (g.push tv [v]) L)) (fun u w'=>(e=14∧u=cU 6∨e≠14∧e≠0∧u=U2)∧St cx w' (mL p c fr g L)):=by
 ((((unfold Ky Val.v Val.cells;refine Kq Ko Tryz.func175 ?_;refine' KY;intro p4 w1 hS;refine' LN;first|(refine' Ql)|(refine' Qp)|(refine' Ac<;>intro hc));all_goals (first|(refine' Kr (c:=U3 hS);rintro v1 w1 ⟨rfl,hS⟩)|(refine KH (c:=U4 hS) (p:=by rintro v9 w9 ⟨rfl,hS⟩;(repeat (first|refine' Q6|refine' Q8|refine fun _=>?_));refine' Qe;refine .inr ⟨_,rfl,?_⟩;first|(exact ⟨.inl ⟨Jo,rfl⟩,hS.sp⟩)) (h:=fun _ _ h=>h.elim))));refine' LN;first|(refine' Ql)|(refine' Qp)|(refine' Ac<;>intro hc));all_goals (first|(refine' KE (c:=O5 hS);rintro v1 w1 ⟨rfl,hS⟩)|(refine OS (c:=Pt hS) (p:=by rintro v9 w9 ⟨rfl,hS⟩;(repeat (first|refine' Q6|refine' Q8|refine fun _=>?_));refine' Qe;refine .inr ⟨_,rfl,?_⟩;first|(exact ⟨.inr ⟨Jo,Jo,rfl⟩,hS.sp⟩)) (h:=fun _ _ h=>h.elim))));refine' Ss;refine K8 hS [_,_,_,_] ?_;intro b1 w1 hS;have hS:=Gh (T:=224) (es:=4) (css:=[v].map Val.cells) hS rfl Dm rfl;have hS:St cx _ (mL p c fr g (sl 224 4 (.slice (some ⟨b1,0,none⟩) 1 1) ([v].map Val.cells)::L)):=hS.sp;refine' Kr (c:=Rb (j:=0) hf En hS rfl);rintro u1 w1 ⟨tv,rfl,hS⟩;refine' OW;exact .inl ⟨_,rfl,Jo,tv,rfl,hS.sp⟩
theorem fZ {e:Int}(hx:Lb.at cx cs x)(hf:fr.length≤1000)(hS:St cx w (mL p c fr g L)):Ky Tryz.prog zF [.pointer (some ⟨p,0,none⟩), .agg ⟨cs⟩, .int .i64 e] w
 (fun u w'=>(∃v,g.abs.val x.a=some v∧v.kind=4)∧e=0∧u= .tuple #[]∧St cx w' (mL p c fr g L))
 (fun u w'=>((∀v,g.abs.val x.a=some v→v.kind=4→e≠1∧e≠0)∧u=U2∨(∃v,g.abs.val x.a=some v∧v.kind=4)∧e=1∧u=cU 2)∧St cx w' (mL p c fr g L)):=by
 ((((((obtain ⟨vr,va,rfl,hr,ha⟩:=Nx hx;unfold Ky;refine Kq Ko Tryz.func181 ?_;refine' KY;intro p4 w1 hS;refine' LN;refine' KZ;have hS:St cx _ (mL p c fr g (blk p4 84 [.int .i64 x.op, .int .i64 x.a, .int .i64 x.b, .int .i64 x.c, .int .i64 x.k, .int .i64 x.n,vr,va]::L)):=hS.sp;refine KH (c:=OE hf hS) (p:=by rintro u9 w9 ⟨hv,rfl,hS⟩;(repeat (first|refine' Q6|refine' Q8|refine fun _=>?_));refine' Qe;refine .inr ⟨_,rfl,?_⟩;exact ⟨.inl ⟨fun v h=>(by rw [hv] at h;cases h),rfl⟩,hS.sp⟩) (h:=?_);rintro u1 w2 ⟨v,hv,rfl,hS⟩;unfold Val.v Val.cells;refine ZP rfl rfl ?_;first|(refine' Ql)|(refine' Qp)|(refine' Ac<;>intro hc));all_goals (first|(refine' KE (c:=O5 hS);rintro v1 w1 ⟨rfl,hS⟩)|(refine OS (c:=Pt hS) (p:=by rintro v9 w9 ⟨rfl,hS⟩;(repeat (first|refine' Q6|refine' Q8|refine fun _=>?_));refine' Qe;refine .inr ⟨_,rfl,?_⟩;exact CB) (h:=fun _ _ h=>h.elim))));refine' LN;first|(refine' Ql)|(refine' Qp)|(refine' Ac<;>intro hc));all_goals (first|(refine' Kr (c:=U3 hS);rintro v1 w1 ⟨rfl,hS⟩)|(refine KH (c:=U4 hS) (p:=by rintro v9 w9 ⟨rfl,hS⟩;(repeat (first|refine' Q6|refine' Q8|refine fun _=>?_));refine' Qe;refine .inr ⟨_,rfl,?_⟩;first|(exact ⟨.inr ⟨⟨v,hv,Jo⟩,Jo,rfl⟩,hS.sp⟩)) (h:=fun _ _ h=>h.elim))));refine' zn;refine' LV;first|(refine' Ql)|(refine' Qp)|(refine' Ac<;>intro hc));all_goals (first|(refine' KE (c:=O5 hS);rintro v1 w1 ⟨rfl,hS⟩)|(refine OS (c:=Pt hS) (p:=by rintro v9 w9 ⟨rfl,hS⟩;(repeat (first|refine' Q6|refine' Q8|refine fun _=>?_));refine' Qe;refine .inr ⟨_,rfl,?_⟩;exact CB) (h:=fun _ _ h=>h.elim))));refine' OW;exact .inl ⟨_,rfl,⟨v,hv,Jo⟩,Jo,rfl,hS.sp⟩
end
section
@[reducible] def mS (p:Nat)(c:MC)(fr:List FrmV)(g:FrmV)(N:Nat)(h:HpS)(out:List Int)(L:List Res):List Res:=mL p c fr g (Mr N c.hp h::sl 2 1 c.ov (QK out)::L)
def Km (h:HpS)(g:FrmV)(fr:List FrmV)(inp out:List Int)(fu:Nat):MS:=⟨h,g.abs,(fr.map FrmV.abs).reverse,inp,out,fu⟩
@[reducible] def MC.upd (c:MC)(lv iv ov:Value):MC:=⟨c.hp,c.fn,lv,iv,c.e,c.bv,ov,c.fu,c.mo,c.dn,c.c,c.a⟩
def Mm (p:Nat)(c:MC)(N:Nat)(fu:Nat)(X:Stp)(cx:Cx)(L:List Res)(u:Value)(w':World):Prop:=
 ∃lv iv ov fr' g' N' h' inp' out',X= .go (Km h' g' fr' inp' out' fu)∧Kh.sl cx iv inp'∧N'≤N+1∧u= .tuple #[]∧St cx w' (mS p (c.upd lv iv ov) fr' g' N' h' out' L)
def Ma (p:Nat)(c:MC)(N:Nat)(h:HpS)(out:List Int)(X:Stp)(cx:Cx)(L:List Res)(u:Value)(w':World):Prop:=
 (X= .lost∧u=U2∧St cx w' (blk p 55 c.cells::L))∨(∃e,X= .halt e∧u=cU e∧∃fr' g' N',N'≤N+1∧St cx w' (mS p c fr' g' N' h out L))
variable {cx:Cx}{w:World}{L:List Res}{p N:Nat}{c:MC}{fr:List FrmV}{g:FrmV}{h:HpS}{out inp:List Int}{fu:Nat}
attribute [local irreducible] Frm.val Frm.num Frm.args Frm.rgs Frm.reg HpS.get HpS.set HpS.setC HpS.len HpS.code HpS.putV HpS.open HpS.shut HpS.full HpS.openV HpS.can HpS.tuple
theorem tA {e:Int}(he:e=14):s.made e h v= .halt 6:=if_pos he
theorem tz {e:Int}(he:e≠14)(h0:e≠0):s.made e h v= .lost:=by unfold MS.made;rw [if_neg he,if_pos h0]
theorem tC {e:Int}(he:e=0):s.made e h v= .go ((s.hp h).put [v]):=by unfold MS.made;rw [if_neg Jo,if_neg Jo]
theorem Qip {h:HpS}(e:h.arrC v n≠0):h.arr v n=h:=by
 unfold HpS.arrC at e;unfold HpS.arr;split
 · rfl
 · rename_i hn;rw [if_neg hn] at e;unfold HpS.put;exact if_neg e
def Yy (s:MS)(x:Ins):Stp:=LB (s.g.val x.a) fun v=>LB (s.g.num x.b) fun n=>if n<0∨15<n then .halt 3 else s.made (s.h.arrC v n) (s.h.arr v n) (s.h.arrV v n)
attribute [local irreducible] HpS.arr HpS.arrC HpS.arrV
theorem Yz (hx:Lb.at cx cs x)(hi:Kh.sl cx c.iv inp)(hf:fr.length≤1000)(hn:g.vals.length≤900000)(hN:N≤99999)(hS:St cx w (mS p c fr g N h out L)):
 Ky Tryz.prog zE [.pointer (some ⟨p,0,none⟩), .agg ⟨cs⟩] w (Mm p c N fu (Yy (Km h g fr inp out fu) x) cx L) (Ma p c N h out (Yy (Km h g fr inp out fu) x) cx L):=by
 obtain ⟨vr,va,rfl,hr,ha⟩:=Nx hx;unfold Ky Mm Ma Yy;refine Kq Ko Tryz.func180 ?_;refine' KY;intro p3 w1 hS;refine' L5;have hS:St cx _ (mS p c fr g N h out (blk p3 84 [.int .i64 x.op, .int .i64 x.a, .int .i64 x.b, .int .i64 x.c, .int .i64 x.k, .int .i64 x.n,vr,va]::L)):=hS.sp;refine OK 3 8 Jk ?_ ?_
 · skip
   refine OK 7 8 Jk ?_ ?_
   · skip;(refine zC [(0,none),(1,none),(2,none),(4,none),(5,none),(6,none),(3,some (some [6])),(7,some none),(8,some none),(9,some none),(10,some none)] ?_;have hS:=hS.drew;refine' PI;refine' NS;refine KH (c:=OE hf (show St cx _ (mL p c fr g _) from hS.sp)) (p:=by rintro u9 w9 ⟨hv,rfl,hS⟩;(repeat (first|refine' Q6|refine' Q8|refine fun _=>?_));refine' Qe;refine .inr ⟨_,rfl,?_⟩;exact Bn) (h:=?_);rintro u1 w2 ⟨v,hv,rfl,hS⟩;refine' Ly;refine KH (c:=SA hf (show St cx _ (mL p c fr g _) from hS.sp)) (p:=by rintro u9 w9 ⟨hm,rfl,hS⟩;(repeat (first|refine' Q6|refine' Q8|refine fun _=>?_));refine' Qe;refine .inr ⟨_,rfl,?_⟩;exact BK) (h:=?_);rintro u1 w2 ⟨n,hm,rfl,hS⟩;refine' Lk;refine Qd hS ?_;intro p4 w1 hS;refine' Lk;unfold Val.v Val.cells;refine Kt hS ?_;intro w1 hS;have hS:=hS.ns;refine' WU;first|(refine' KX)|(refine' K1)|(refine' Ae<;>intro hc));(all_goals (refine' Lv;first|refine' Kj|(refine' Kl;(first|(refine' QV)|(refine' QW)|(refine' Af<;>intro hc))));all_goals (refine' Lu;first|(refine' Kr (c:=U3 hS);rintro v1 w1 ⟨rfl,hS⟩)|(refine KH (c:=U4 hS) (p:=by rintro v9 w9 ⟨rfl,hS⟩;(repeat (first|refine' Q6|refine' Q8|refine fun _=>?_));refine' Qe;refine .inr ⟨_,rfl,?_⟩;first|(exact BT)) (h:=fun _ _ h=>h.elim))));refine' zn;refine zC [(0,none),(1,none),(2,none),(3,none),(4,none),(5,none),(6,none),(7,some (some [])),(8,none),(9,none),(10,some none)] ?_;have hS:=hS.drew;refine' Og;refine' Nb;refine' Nu;refine' S1;refine' zm;refine' Lp;refine' Lg (c:=px (N:=N) (s:=h) (h:=c.hp) v n Jo hS fd);rintro v1 w1 ⟨rfl,hS⟩;have hS:=hS.ns;refine' Mp;refine' RP;refine' Lk;refine MG (c:=lU (v:=h.arrV v n) hf hn (show St cx _ (mL p c fr g _) from hS.sp)) (p:=by rintro u9 w9 ⟨he,hS⟩;(repeat (first|refine' Q6|refine' Q8|refine fun _=>?_));refine' Qe;refine .inr ⟨_,rfl,?_⟩;rcases he with ⟨e0,rfl⟩|⟨e0,e1,rfl⟩;exact BD;exact Bm) (h:=?_);rintro u1 w2 ⟨e0,tv,rfl,hS⟩;refine' Z4;exact BH
   · skip;(refine zC [(0,none),(1,none),(2,none),(4,none),(5,none),(6,none),(3,some (some [6])),(8,some (some [6])),(7,some none),(9,some none),(10,some none)] ?_;have hS:=hS.drew;refine' PI;refine' NS;refine KH (c:=OE hf (show St cx _ (mL p c fr g _) from hS.sp)) (p:=by rintro u9 w9 ⟨hv,rfl,hS⟩;(repeat (first|refine' Q6|refine' Q8|refine fun _=>?_));refine' Qe;refine .inr ⟨_,rfl,?_⟩;exact Bn) (h:=?_);rintro u1 w2 ⟨v,hv,rfl,hS⟩;refine' Li;refine Qd hS ?_;intro p4 w1 hS;refine' Ly;refine KH (c:=SA hf (show St cx _ (mL p c fr g _) from hS.sp)) (p:=by rintro u9 w9 ⟨hm,rfl,hS⟩;(repeat (first|refine' Q6|refine' Q8|refine fun _=>?_));refine' Qe;refine .inr ⟨_,rfl,?_⟩;exact BK) (h:=?_);rintro u1 w2 ⟨n,hm,rfl,hS⟩;refine' Lk;unfold Val.v Val.cells;refine Kt hS ?_;intro w1 hS;have hS:=hS.ns;refine' WU;first|(refine' KX)|(refine' K1)|(refine' Ae<;>intro hc));(all_goals (refine' Lv;first|refine' Kj|(refine' Kl;(first|(refine' QV)|(refine' QW)|(refine' Af<;>intro hc))));all_goals (refine' Lu;first|(refine' Kr (c:=U3 hS);rintro v1 w1 ⟨rfl,hS⟩)|(refine KH (c:=U4 hS) (p:=by rintro v9 w9 ⟨rfl,hS⟩;(repeat (first|refine' Q6|refine' Q8|refine fun _=>?_));refine' Qe;refine .inr ⟨_,rfl,?_⟩;first|(exact BT)) (h:=fun _ _ h=>h.elim))));refine' zn;refine zC [(0,none),(1,none),(2,none),(3,none),(4,none),(5,none),(6,none),(7,some (some [])),(8,none),(9,none),(10,some none)] ?_;have hS:=hS.drew;refine' Og;refine' Nb;refine' Nu;refine' S1;refine' zm;refine' Lp;refine' Lg (c:=px (N:=N) (s:=h) (h:=c.hp) v n Jo hS fd);rintro v1 w1 ⟨rfl,hS⟩;have hS:=hS.ns;refine' Mp;refine' RP;refine' Lk;refine MG (c:=lU (v:=h.arrV v n) hf hn (show St cx _ (mL p c fr g _) from hS.sp)) (p:=by rintro u9 w9 ⟨he,hS⟩;(repeat (first|refine' Q6|refine' Q8|refine fun _=>?_));refine' Qe;refine .inr ⟨_,rfl,?_⟩;rcases he with ⟨e0,rfl⟩|⟨e0,e1,rfl⟩;exact BD;exact Bm) (h:=?_);rintro u1 w2 ⟨e0,tv,rfl,hS⟩;refine' Z4;exact BH
 · skip;(refine zC [(0,none),(1,none),(2,none),(4,none),(5,none),(6,none),(8,some (some [2,6])),(3,some (some [6])),(7,some none),(9,some none),(10,some none)] ?_;have hS:=hS.drew;refine' PI;refine' NS;refine Qd hS ?_;intro p4 w1 hS;refine' Li;refine KH (c:=OE hf (show St cx _ (mL p c fr g _) from hS.sp)) (p:=by rintro u9 w9 ⟨hv,rfl,hS⟩;(repeat (first|refine' Q6|refine' Q8|refine fun _=>?_));refine' Qe;refine .inr ⟨_,rfl,?_⟩;exact Bn) (h:=?_);rintro u1 w2 ⟨v,hv,rfl,hS⟩;refine' Ly;refine KH (c:=SA hf (show St cx _ (mL p c fr g _) from hS.sp)) (p:=by rintro u9 w9 ⟨hm,rfl,hS⟩;(repeat (first|refine' Q6|refine' Q8|refine fun _=>?_));refine' Qe;refine .inr ⟨_,rfl,?_⟩;exact BK) (h:=?_);rintro u1 w2 ⟨n,hm,rfl,hS⟩;refine' Lk;unfold Val.v Val.cells;refine Kt hS ?_;intro w1 hS;have hS:=hS.ns;refine' WU;first|(refine' KX)|(refine' K1)|(refine' Ae<;>intro hc));(all_goals (refine' Lv;first|refine' Kj|(refine' Kl;(first|(refine' QV)|(refine' QW)|(refine' Af<;>intro hc))));all_goals (refine' Lu;first|(refine' Kr (c:=U3 hS);rintro v1 w1 ⟨rfl,hS⟩)|(refine KH (c:=U4 hS) (p:=by rintro v9 w9 ⟨rfl,hS⟩;(repeat (first|refine' Q6|refine' Q8|refine fun _=>?_));refine' Qe;refine .inr ⟨_,rfl,?_⟩;first|(exact BT)) (h:=fun _ _ h=>h.elim))));refine' zn;refine zC [(0,none),(1,none),(2,none),(3,none),(4,none),(5,none),(6,none),(7,some (some [])),(8,none),(9,none),(10,some none)] ?_;have hS:=hS.drew;refine' Og;refine' Nb;refine' Nu;refine' S1;refine' zm;refine' Lp;refine' Lg (c:=px (N:=N) (s:=h) (h:=c.hp) v n Jo hS fd);rintro v1 w1 ⟨rfl,hS⟩;have hS:=hS.ns;refine' Mp;refine' RP;refine' Lk;refine MG (c:=lU (v:=h.arrV v n) hf hn (show St cx _ (mL p c fr g _) from hS.sp)) (p:=by rintro u9 w9 ⟨he,hS⟩;(repeat (first|refine' Q6|refine' Q8|refine fun _=>?_));refine' Qe;refine .inr ⟨_,rfl,?_⟩;rcases he with ⟨e0,rfl⟩|⟨e0,e1,rfl⟩;exact BD;exact Bm) (h:=?_);rintro u1 w2 ⟨e0,tv,rfl,hS⟩;refine' Z4;exact BH
end
section
variable {cx:Cx}{w:World}{L:List Res}{p N:Nat}{c:MC}{fr:List FrmV}{g:FrmV}{h:HpS}{out inp:List Int}{fu:Nat}{m:Module}
theorem Qhv {g':FrmV}:Km h g' (fr++[g]) inp out fu=⟨h,g'.abs,g.abs::(fr.map FrmV.abs).reverse,inp,out,fu⟩:=by unfold Km;simp
theorem cY {gf:Fun}(hg:m.funcs[x.k.toNat]?=some gf):s.call m x=LB (s.g.rgs x.regs) fun rs=>LB (s.g.args x.args) fun vs=>
 if (rs.length:Int)≠gf.regs∨vs.length≠gf.params.length then .lost else if s.st.length+1=40 then .halt 5 else .go ⟨s.h,⟨x.k.toNat,0,0,vs,rs⟩,s.g::s.st,s.inp,s.out,s.fuel⟩:=by unfold MS.call;rw [hg]
theorem jH (hS:St cx w (sl 224 4 g.vv (g.vals.map Val.cells)::sl 3 1 g.rv (QK g.regs)::K3 FrmV.res fr::L)):St cx w (K3 FrmV.res (fr++[g])::L):=
 IV (f:=FrmV.res) (x:=g) (HF hS)
theorem Qh5 {g':FrmV}:Oq fr g++[g'.cells]=Oq (fr++[g]) g':=by simp [Oq]
attribute [local irreducible] Frm.val Frm.num Frm.args Frm.rgs Frm.reg
theorem cZ (hx:Lb.at cx cs x)(hfn:KD.sl cx c.fn m.funcs)(hi:Kh.sl cx c.iv inp)(hk0:0≤x.k)(hk1:x.k<m.funcs.length)(h6:x.regs.length≤100)(h8:x.args.length≤100)(hf:fr.length≤1000)(hS:St cx w (mS p c fr g N h out L)):
 Ky Tryz.prog zH [.pointer (some ⟨p,0,none⟩), .agg ⟨cs⟩] w (Mm p c N fu ((Km h g fr inp out fu).call m x) cx L) (Ma p c N h out ((Km h g fr inp out fu).call m x) cx L):=by
 (((((obtain ⟨vr,va,rfl,hr,ha⟩:=Nx hx;have hfl:=hfn.len;unfold Ky Mm Ma;refine Kq Ko Tryz.func183 ?_;refine' KY;intro p3 w1 hS;refine' L5;have hS:St cx _ (mS p c fr g N h out (blk p3 84 [.int .i64 x.op, .int .i64 x.a, .int .i64 x.b, .int .i64 x.c, .int .i64 x.k, .int .i64 x.n,vr,va]::L)):=hS.sp;refine zC [(0,none),(1,none),(2,none),(3,none),(4,none),(5,none),(6,none),(7,none),(8,none),(9,some (some [4,6,8])),(10,some none)] ?_;have hS:=hS.drew;refine' Pk;refine' X0;refine' KO;refine' Nu;refine' zj;intro b1 o1 cs1 x1 hat1 hx1 he1;obtain ⟨vp1,vr1,vb1,rfl,hp1,hr1,hb1⟩:=QH he1;have hX:=cY (s:=Km h g fr inp out fu) hx1;refine' S5;refine' PL;intro p4 w1 hS;refine' Ly;refine Kt hS ?_;intro w1 hS;have hS:=hS.ns;refine' Lq;refine QA ?_;refine zC [(0,none),(1,none),(2,none),(4,none),(5,none),(6,none),(3,some (some [6])),(7,some none),(8,none),(9,some none)] ?_;have hS:=hS.drew;refine' PI;refine' NS;refine KH (c:=U8 Jo hf hr (show St cx _ (mL p c fr g _) from hS.sp)) (p:=by rintro u9 w9 ⟨hrs,rfl,hS⟩;(repeat (first|refine' Q6|refine' Q8|refine fun _=>?_));refine' Qe;refine .inr ⟨_,rfl,?_⟩;exact .inl ⟨hX.trans (Ru hrs),rfl,hS.sp⟩) (h:=?_);rintro u1 w2 ⟨rs,hrs,hrl,ho1,hS⟩;obtain ⟨a1,n1,rfl⟩:=hS.shape (i:=5) rfl;refine' Ly;refine KH (c:=jG Jo hf ha (show St cx _ (mL p c fr g _) from hS.sp)) (p:=by rintro u9 w9 ⟨hvs,rfl,hS⟩;(repeat (first|refine' Q6|refine' Q8|refine fun _=>?_));refine' Qe;refine .inr ⟨_,rfl,?_⟩;exact CO) (h:=?_);rintro u2 w2 ⟨vs,hvs,hvl,ho2,hS⟩;obtain ⟨a2,n2,rfl⟩:=hS.shape (i:=5) rfl;refine' KO;refine' zm;refine' WU;refine' SQ;refine' KZ;first|(refine' Ql)|(refine' Qp)|(refine' Ac<;>intro hc));all_goals (refine' Lv;refine' XT;refine' PH;refine' NM;first|refine' Kj|(refine' Kl;(first|(refine' Ql)|(refine' Qp)|(refine' Ac<;>intro hc)))));all_goals (refine' Lu;first|(refine' KE (c:=O5 hS);rintro v1 w1 ⟨rfl,hS⟩)|(refine OS (c:=Pt hS) (p:=by rintro v9 w9 ⟨rfl,hS⟩;(repeat (first|refine' Q6|refine' Q8|refine fun _=>?_));refine' Qe;refine .inr ⟨_,rfl,?_⟩;first|(exact CG)) (h:=fun _ _ h=>h.elim))));refine' LN;refine' Mf;refine QL hS vw fd (Qn fr g) ?_;first|(refine' Ql)|(refine' Qp)|(refine' Ac<;>intro hc));all_goals (first|(refine' Kr (c:=U3 hS);rintro v1 w1 ⟨rfl,hS⟩)|(refine KH (c:=U4 hS) (p:=by rintro v9 w9 ⟨rfl,hS⟩;(repeat (first|refine' Q6|refine' Q8|refine fun _=>?_));refine' Qe;refine .inr ⟨_,rfl,?_⟩;first|(exact .inr ⟨5,hX.trans ((Q5 hrs).trans ((Q5 hvs).trans ((if_neg Jo).trans (if_pos (by show ((fr.map FrmV.abs).reverse).length+1=40;rw [Hm,Fb];omega))))),rfl,fr,g,N,Jo,hS.sp⟩)) (h:=fun _ _ h=>h.elim))));refine' zn;refine zC [(0,none),(1,none),(2,none),(3,none),(4,none),(5,none),(6,none),(7,none),(8,none),(9,none),(10,some (some [4])),(11,some (some [])),(12,none),(13,none),(14,some none)] ?_;have hS:=hS.drew;refine' Og;refine' Nb;refine' Nu;refine' Rq;refine' T9;refine Ph [_,_,_,_,_] ?_;refine' Lp;refine K8 hS [_,_,_,_,_] ?_;intro b1 w1 hS;refine' Li;refine NL cA (.inl i9) hS vw vw fd (hS.srcB fd Jr (by simp [oneC,ho1,ho2])) (by rw [Qn];simp only [Fk,FF];omega) ?_;intro v7 w7 hS;have hS:=hS.ns;refine' Mp;refine' Nb;refine' MA;refine' Lk;refine LU hS ?_;intro w1 hS;have hS:=hS.ns;refine' Z4;rw [show (Value.int .i64 x.k)= .int .i64 ((x.k.toNat:Nat):Int) by rw [FO hk0]] at hS;have hS:=jH (g:=g) (fr:=fr) (L:=blk p 55 _::sl 110 5 v7 _::sl 224 4 (.slice a2 _ n2) _::sl 3 1 (.slice a1 _ n1) _::Mr N c.hp h::sl 2 1 c.ov _::L) hS.sp;exact .inl ⟨_,rfl,v7,c.iv,c.ov,fr++[g],⟨x.k.toNat,0,0, .slice a2 (vs.map Val.cells).length n2,vs, .slice a1 (QK rs).length n1,rs⟩,N,h,inp,out,hX.trans ((Q5 hrs).trans ((Q5 hvs).trans ((if_neg Jo).trans ((if_neg (by show¬((fr.map FrmV.abs).reverse).length+1=40;rw [Hm,Fb];omega)).trans (by rw [Qhv];rfl))))),hi,Jo,rfl,by have e9:Oq fr g++[[.int .i64 ((x.k.toNat:Nat):Int),vi 0,vi 0, .slice a2 (vs.map Val.cells).length n2, .slice a1 (QK rs).length n1]]=Oq (fr++[g]) ⟨x.k.toNat,0,0, .slice a2 (vs.map Val.cells).length n2,vs, .slice a1 (QK rs).length n1,rs⟩:=Qh5 (g':=⟨x.k.toNat,0,0, .slice a2 (vs.map Val.cells).length n2,vs, .slice a1 (QK rs).length n1,rs⟩);rw [e9] at hS;exact hS.sp⟩
end
section
variable {cx:Cx}{w:World}{L:List Res}{p N:Nat}{c:MC}{fr:List FrmV}{g:FrmV}{h:HpS}{out inp:List Int}{fu:Nat}{m:Module}
theorem py {t:To}(hb:f.blocks[t.block.toNat]?=some b):s.to f t=LB (s.g.rgs t.regs) fun rs=>LB (s.g.args t.args) fun vs=>
 if (rs.length:Int)≠b.regs∨vs.length≠b.params.length then .lost else .go (s.fr ⟨s.g.f,t.block.toNat,0,vs,rs⟩):=by unfold MS.to;rw [hb]
theorem Qh4 {g':FrmV}:(Oq fr g).set fr.length g'.cells=Oq fr g':=by
 unfold Oq;rw [GC _ _ Js];simp
attribute [local irreducible] Frm.val Frm.num Frm.args Frm.rgs Frm.reg
theorem U9 {t:To}(hx:toR.at cx cs t)(hfn:KD.sl cx c.fn m.funcs)(hi:Kh.sl cx c.iv inp)(hfx:m.funcs[g.f]?=some f)(hb0:0≤t.block)(hb1:t.block<f.blocks.length)(h6:t.regs.length≤100)(h8:t.args.length≤100)(hf:fr.length≤1000)(hS:St cx w (mS p c fr g N h out L)):
 Ky Tryz.prog zI [.pointer (some ⟨p,0,none⟩), .agg ⟨cs⟩] w (Mm p c N fu ((Km h g fr inp out fu).to f t) cx L) (Ma p c N h out ((Km h g fr inp out fu).to f t) cx L):=by
 (((obtain ⟨vr,va,rfl,hr,ha⟩:=ZU hx;have hfl:=hfn.len;have hgf:=(E8.1 hfx).1;unfold Ky Mm Ma;refine Kq Ko Tryz.func184 ?_;refine' KY;intro p3 w1 hS;refine' L5;have hS:St cx _ (mS p c fr g N h out (blk p3 88 [.int .i64 t.block,vr,va]::L)):=hS.sp;refine' LV;refine' KE (c:=PX hf hS);rintro v1 w1 ⟨b9,o9,rfl,hel,hS⟩;refine' Ms;refine zC [(0,none),(1,none),(2,none),(3,none),(4,none),(5,none),(6,none),(7,none),(8,none),(9,none),(10,none),(11,none),(12,none),(13,none),(14,none),(15,none),(16,some (some [4,8,11,13,15])),(17,some none)] ?_;have hS:=hS.drew;refine' Pk;refine' X0;refine' Mu;refine' RO;refine QF hS hel rfl fd (Qn fr g) (Qu fr g) rfl ?_;refine' KO;refine' zi;intro b8 o8 cs8 x8 hat8 hx8 he8;obtain rfl:x8=f:=Fm (hx8.symm.trans hfx);obtain ⟨vp8,vr8,vb8,rfl,hp8,hr8,hb8⟩:=QH he8;refine' KO;refine' XW;refine' SP;refine' KO;refine' Nu;refine' Nj;intro b1 o1 cs1 x1 hat1 hx1 he1;obtain ⟨vp1,vc1,ve11,ve12,ve13,ve14,ve15,rfl,hp1,hc1,he11,he12,he13,he14,he15⟩:=RJ he1;refine' S5;refine' PL;intro p5 w1 hS;refine' zt;refine ⟨Fe.2 ⟨Ei,Fe.2 ⟨(by (exact AL)),Fe.2 ⟨(by first|(exact AL)|(exact As)|(exact iw hS Ja rfl rfl)|(exact fI hS Ja rfl rfl)),Fe.2 ⟨Ei,Fe.2 ⟨(by first|(exact AL)|(exact AJ)|(exact AW)),fun _ h=>(Fv h).elim⟩⟩⟩⟩⟩,?_⟩;refine' LG;refine Kt hS ?_;intro w1 hS;have hS:=hS.ns;refine' Lq;refine QA ?_;have hX:=py (s:=Km h g fr inp out fu) hx1;refine zC [(0,none),(1,none),(2,none),(4,none),(5,none),(6,none),(3,some (some [6])),(7,some none),(8,none),(9,some none)] ?_;have hS:=hS.drew;refine' PI;refine' NS;refine KH (c:=U8 Jo hf hr (show St cx _ (mL p c fr g _) from hS.sp)) (p:=by rintro u9 w9 ⟨hrs,rfl,hS⟩;(repeat (first|refine' Q6|refine' Q8|refine fun _=>?_));refine' Qe;refine .inr ⟨_,rfl,?_⟩;exact .inl ⟨hX.trans (Ru hrs),rfl,hS.sp⟩) (h:=?_);rintro u1 w2 ⟨rs,hrs,hrl,ho1,hS⟩;obtain ⟨a1,n1,rfl⟩:=hS.shape (i:=5) rfl;refine' zt;refine ⟨Fe.2 ⟨Ei,fun _ h=>(Fv h).elim⟩,?_⟩;refine' LG;refine KH (c:=jG Jo hf ha (show St cx _ (mL p c fr g _) from hS.sp)) (p:=by rintro u9 w9 ⟨hvs,rfl,hS⟩;(repeat (first|refine' Q6|refine' Q8|refine fun _=>?_));refine' Qe;refine .inr ⟨_,rfl,?_⟩;exact CO) (h:=?_);rintro u2 w2 ⟨vs,hvs,hvl,ho2,hS⟩;obtain ⟨a2,n2,rfl⟩:=hS.shape (i:=5) rfl;refine' KO;refine' zm;refine' WU;refine' SQ;refine' KZ;first|(refine' Ql)|(refine' Qp)|(refine' Ac<;>intro hc));all_goals (refine' Lv;refine' XT;refine' PH;refine' NM;first|refine' Kj|(refine' Kl;(first|(refine' Ql)|(refine' Qp)|(refine' Ac<;>intro hc)))));all_goals (refine' Lu;first|(refine' KE (c:=O5 hS);rintro v1 w1 ⟨rfl,hS⟩)|(refine OS (c:=Pt hS) (p:=by rintro v9 w9 ⟨rfl,hS⟩;(repeat (first|refine' Q6|refine' Q8|refine fun _=>?_));refine' Qe;refine .inr ⟨_,rfl,?_⟩;first|(exact CG)) (h:=fun _ _ h=>h.elim))));refine' zn;refine zD (ci 12 [11]) ?_;have hS:=hS.drew;refine' MV;refine' MY;refine QF hS hel rfl fd (Qn fr g) (Qu fr g) rfl ?_;refine' KZ;refine' MV;refine sy [_,_,_,_,_] ?_;refine' SO;refine fH (css':=Oq fr ⟨g.f,t.block.toNat,0, .slice a2 (vs.map Val.cells).length n2,vs, .slice a1 (QK rs).length n1,rs⟩) hS hel rfl vw Jr fd (Qn fr g) (Qu fr g) rfl (by simp [oneC,ho1,ho2]) (by rw [show Value.int .i64 t.block= .int .i64 ((t.block.toNat:Nat):Int) by rw [FO hb0]];exact Qh4 (g':=⟨g.f,t.block.toNat,0, .slice a2 (vs.map Val.cells).length n2,vs, .slice a1 (QK rs).length n1,rs⟩)) ?_;intro w8 hS;have hS:=hS.ns;refine' OW;exact .inl ⟨_,rfl,c.lv,c.iv,c.ov,fr,⟨g.f,t.block.toNat,0, .slice a2 (vs.map Val.cells).length n2,vs, .slice a1 (QK rs).length n1,rs⟩,N,h,inp,out,hX.trans ((Q5 hrs).trans ((Q5 hvs).trans (if_neg Jo))),hi,Jo,rfl,hS.sp⟩
end
end Go.Proofs.YteflkifmgnpbhaaGreat
namespace Go.Lir
theorem ah (h:s.g.args e.args=none):s.ret f e= .lost:=by unfold MS.ret;exact Ru h
theorem jt (h:s.g.args e.args=some vs)(hl:vs.length≠f.results.length):s.ret f e= .lost:=by unfold MS.ret;rw [Q5 h,if_pos hl]
theorem jI {c:Frm}{st:List Frm}(h:s.g.args e.args=some vs)(hl:vs.length=f.results.length)(hs:s.st=c::st):s.ret f e= .go ((⟨s.h,c,st,s.inp,s.out,s.fuel⟩:MS).put vs):=by
 unfold MS.ret;rw [Q5 h,if_neg (fun hn=>hn hl),hs]
theorem jJ (h:s.g.args e.args=some vs)(hl:vs.length=f.results.length)(hs:s.st=[])(hn:KF vs=some ns):s.ret f e= .done ns:=by
 unfold MS.ret;rw [Q5 h,if_neg (fun hn=>hn hl),hs];dsimp only;rw [hn]
theorem jK (h:s.g.args e.args=some vs)(hl:vs.length=f.results.length)(hs:s.st=[])(hn:KF vs=none):s.ret f e= .lost:=by
 unfold MS.ret;rw [Q5 h,if_neg (fun hn=>hn hl),hs];dsimp only;rw [hn]
theorem da {l:List Val}(h:v.kind=1):KF (v::l)=(KF l).map fun r=>v.n::r:=by
 rw [KF]
 cases KF l with
 | none=>rfl
 | some ns=>exact if_pos h
theorem db {l:List Val}(h:v.kind≠1):KF (v::l)=none:=by
 rw [KF]
 cases KF l with
 | none=>rfl
 | some ns=>exact if_neg h
theorem QhP (hd:KF vs=(KF (vs.drop q)).map fun r=>ns++r)(hx:vs[q]?=some v)(hk:v.kind=1):KF vs=(KF (vs.drop (q+1))).map fun r=>(ns++[v.n])++r:=by
 rw [hd,Q1 hx,da hk]
 cases KF (vs.drop (q+1)) with
 | none=>rfl
 | some r=>simp
theorem Va (hd:KF vs=(KF (vs.drop q)).map fun r=>ns++r)(hx:vs[q]?=some v)(hk:v.kind≠1):KF vs=none:=by
 rw [hd,Q1 hx,db hk];rfl
theorem Vb (hd:KF vs=(KF (vs.drop q)).map fun r=>ns++r)(hq:vs.length≤q):KF vs=some ns:=by
 rw [hd,Fh hq,KF];simp
theorem dc:KF vs=(KF (vs.drop 0)).map fun r=>[]++r:=by
 rw [F9];cases KF vs<;>rfl
end Go.Lir
namespace Go.Proofs.YteflkifmgnpbhaaGreat
open Go.Lir
attribute [local irreducible] LC.wp Q0 Qs Qi KN QD LO.wp Q7 Calls
section
variable {cx:Cx}{w:World}{L:List Res}{p N:Nat}{c:MC}{fr:List FrmV}{g:FrmV}{h:HpS}{out inp:List Int}{fu:Nat}{m:Module}
def Nm (p:Nat)(c:MC)(N:Nat)(h:HpS)(out:List Int)(X:Stp)(cx:Cx)(L:List Res)(u:Value)(w':World):Prop:=
 ∃ns bv fr' g',X= .done ns∧u= .tuple #[]∧St cx w' (mS p ⟨c.hp,c.fn,c.lv,c.iv,c.e,bv,c.ov,c.fu,c.mo,true,c.c,c.a⟩ fr' g' N h out (sl 2 1 bv (QK ns)::L))
attribute [local irreducible] Frm.val Frm.num Frm.args Frm.rgs Frm.reg KF
theorem dd (hx:Lo.at cx cs e)(hfn:KD.sl cx c.fn m.funcs)(hfx:m.funcs[g.f]?=some f)(h8:e.args.length≤100)(hS:St cx w (mS p c [] g N h out L)):
 Ky Tryz.prog oK [.pointer (some ⟨p,0,none⟩), .agg ⟨cs⟩] w (fun u w'=>Nm p c N h out ((Km h g [] inp out fu).ret f e) cx L u w') (Ma p c N h out ((Km h g [] inp out fu).ret f e) cx L):=by
 ((obtain ⟨v1,v2,v3,v4,v5,rfl,k1,k2,k3,k4,k5⟩:=Rj hx;have hfl:=hfn.len;have hgf:=(E8.1 hfx).1;have hf0:([]:List FrmV).length≤1000:=Dq;unfold Ky Ma Nm;refine Kq Ko Tryz.func185 ?_;refine' KY;intro p3 w1 hS;refine' L5;have hS:St cx _ (mS p c [] g N h out (blk p3 90 [.int .i64 e.op, .int .i64 e.a, .int .i64 e.yes.block,v1,v2, .int .i64 e.no.block,v3,v4,v5]::L)):=hS.sp;refine' NP;refine KH (c:=jG Jo hf0 k5 (show St cx _ (mL p c [] g _) from hS.sp)) (p:=by rintro u9 w9 ⟨hvs,rfl,hS⟩;(repeat (first|refine' Q6|refine' Q8|refine fun _=>?_));refine' Qe;refine .inr ⟨_,rfl,?_⟩;exact .inl ⟨ah hvs,rfl,hS.sp⟩) (h:=?_);rintro u2 w2 ⟨vs,hvs,hvl,ho2,hS⟩;obtain ⟨a2,n2,rfl⟩:=hS.shape (i:=5) rfl;refine' Ms;refine zC [(0,none),(1,none),(2,none),(3,none),(4,none),(5,none),(6,none),(7,none),(8,some (some [6])),(9,none),(10,none),(11,none),(12,none),(13,none),(14,none),(15,none),(16,none),(17,some none)] ?_;have hS:=hS.drew;refine' PI;refine' SQ;refine' Mu;refine' Nb;refine' X0;refine' KO;refine' zm;refine' Lp;refine' KE (c:=PX hf0 (show St cx _ (mL p c [] g _) from hS.sp));rintro v9 w1 ⟨b9,o9,rfl,hel,hS⟩;refine' Mp;refine' RO;refine QF hS hel rfl fd (Qn [] g) (Qu [] g) rfl ?_;refine' KO;refine' zi;intro b8 o8 cs8 x8 hat8 hx8 he8;obtain rfl:x8=f:=Fm (hx8.symm.trans hfx);obtain ⟨vp8,vr8,vb8,rfl,hp8,hr8,hb8⟩:=QH he8;refine' KO;refine' XW;refine' SP;refine' KO;refine' zL;refine' KO;first|(refine' Ql)|(refine' Qp)|(refine' Ac<;>intro hc));all_goals (refine' Lk;first|(refine' KE (c:=O5 hS);rintro v1 w1 ⟨rfl,hS⟩)|(refine OS (c:=Pt hS) (p:=by rintro v9 w9 ⟨rfl,hS⟩;(repeat (first|refine' Q6|refine' Q8|refine fun _=>?_));refine' Qe;refine .inr ⟨_,rfl,?_⟩;first|(exact Bz)) (h:=fun _ _ h=>h.elim))));refine' Lq;refine' Na;refine' Mf;refine QL hS vw fd (show (Oq [] g).length=1 from rfl) ?_;(first|(refine' QV)|(refine' QW));refine' Pn;refine' Mq;refine' SQ;refine' Ob;have hS:=hS.nil (T:=2) (es:=1);refine zo [0,53,54] (fun A ρ' w'=>∃(q:Nat) (vo:Value) (ns:List Int),Kn ρ' A∧Kn ρ' [(5,vo),(55, .int .i64 q)]∧(q≤vs.length)∧(ns.length=q)∧(oneC vo=true)∧(KF vs=(KF (vs.drop q)).map fun r=>ns++r)∧St cx w' (sl 2 1 vo (QK ns)::sl 224 4 (.slice a2 (vs.map Val.cells).length n2) (vs.map Val.cells)::mS p c [] g N h out L)) (fun ρ' _=>(vs.length - iv (ρ' 55)).toNat) ?_ ?_
 · exact ⟨0, .slice none 0 0,[],zh,zh,Jo,rfl,rfl,dc,hS.sp⟩
 rintro ρ w1 ⟨q,vo,ns,hA,hρ,hq,hol,hvo,hd,hS⟩;obtain ⟨ρ,rfl⟩:=Kp hA hρ;refine' MH;refine' Ab<;>intro hc
 · skip;(refine' bM;obtain ⟨v9,hv9⟩:∃v,vs[q]?=some v:=⟨_,E7 Jo⟩;refine RI hS vw rfl (i:=1) rfl DJ ?_;intro b7 o7 hel7;refine bu hS hel7 rfl (i:=1) rfl rfl (show (vs.map Val.cells)[q]?=some v9.cells by rw [Fy,hv9];rfl) ?_;unfold Val.cells;refine Qd hS ?_;intro p7 w1 hS;refine Kt hS ?_;intro w1 hS;have hS:=hS.ns;refine' NA;first|(refine' Ql)|(refine' Qp)|(refine' Ac<;>intro hc));(all_goals (first|(refine' KE (c:=O5 hS);rintro v1 w1 ⟨rfl,hS⟩)|(refine OS (c:=Pt hS) (p:=by rintro v9 w9 ⟨rfl,hS⟩;(repeat (first|refine' Q6|refine' Q8|refine fun _=>?_));refine' Qe;refine .inr ⟨_,rfl,?_⟩;first|(first|exact Bz|exact .inl ⟨jK hvs Jo rfl (Va hd hv9 Jo),rfl,hS.sp⟩)) (h:=fun _ _ h=>h.elim))));refine' zn;refine' NP;refine K8 hS [_] ?_;intro b1 w1 hS;refine NL S7 (.inl WZ) hS vw vw (i:=2) rfl (hS.srcB (i:=0) rfl Jr Dl) Du ?_;intro v7 w7 hS;have hS:=hS.ns;have ho7:=hS.oneC (i:=2) rfl;refine' KA;refine' N1;(exact ⟨⟨q+1,v7,ns++[v9.n],zh,zh,Jo,by rw [Fc,hol];rfl,ho7,QhP hd hv9 Jo,by rw [QK,FG];exact hS.sp⟩,Qj Jo⟩)
 · skip;refine' L8;refine' Lc;refine' SV;refine LU hS ?_;intro w1 hS;have hS:=hS.ns;refine' zn;refine' LV;refine' Lh;refine LU hS ?_;intro w1 hS;have hS:=hS.ns;refine' OW;exact .inl ⟨_,rfl,ns,vo,[],g,jJ hvs Jo rfl (Vb hd Jo),rfl,hS.sp⟩
theorem Vc {k:FrmV}:((Oq (fr++[k]) g).take (fr++[k]).length).drop 0=Oq fr k:=by
 unfold Oq;rw [F9,HB Js,FM Js,FG];rfl
theorem jL {k:FrmV}(hS:St cx w (K3 FrmV.res (fr++[k])::L)):St cx w (sl 224 4 k.vv (k.vals.map Val.cells)::sl 3 1 k.rv (QK k.regs)::K3 FrmV.res fr::L):=by
 have h1:=hS.bigOut (i:=0) (k:=fr.length) (x:=k) rfl Js;have h2:(fr++[k]).eraseIdx fr.length=fr:=EC;rw [Fi,h2] at h1;exact Jx h1
theorem de {k:FrmV}(hx:Lo.at cx cs e)(hfn:KD.sl cx c.fn m.funcs)(hi:Kh.sl cx c.iv inp)(hfx:m.funcs[g.f]?=some f)(h8:e.args.length≤100)(hf:fr.length≤900)(hn:k.vals.length≤900000)(hS:St cx w (mS p c (fr++[k]) g N h out L)):
 Ky Tryz.prog oK [.pointer (some ⟨p,0,none⟩), .agg ⟨cs⟩] w (Mm p c N fu ((Km h g (fr++[k]) inp out fu).ret f e) cx L) (Ma p c N h out ((Km h g (fr++[k]) inp out fu).ret f e) cx L):=by
 ((obtain ⟨v1,v2,v3,v4,v5,rfl,k1,k2,k3,k4,k5⟩:=Rj hx;have hfl:=hfn.len;have hgf:=(E8.1 hfx).1;have hl1:(fr++[k]).length=fr.length+1:=Dq;have hf0:(fr++[k]).length≤1000:=Df;have hst:(Km h g (fr++[k]) inp out fu).st=k.abs::(fr.map FrmV.abs).reverse:=(by unfold Km;simp);unfold Ky Ma Mm;refine Kq Ko Tryz.func185 ?_;refine' KY;intro p3 w1 hS;refine' L5;have hS:St cx _ (mS p c (fr++[k]) g N h out (blk p3 90 [.int .i64 e.op, .int .i64 e.a, .int .i64 e.yes.block,v1,v2, .int .i64 e.no.block,v3,v4,v5]::L)):=hS.sp;refine' NP;refine KH (c:=jG Jo hf0 k5 (show St cx _ (mL p c (fr++[k]) g _) from hS.sp)) (p:=by rintro u9 w9 ⟨hvs,rfl,hS⟩;(repeat (first|refine' Q6|refine' Q8|refine fun _=>?_));refine' Qe;refine .inr ⟨_,rfl,?_⟩;exact .inl ⟨ah hvs,rfl,hS.sp⟩) (h:=?_);rintro u2 w2 ⟨vs,hvs,hvl,ho2,hS⟩;obtain ⟨a2,n2,rfl⟩:=hS.shape (i:=5) rfl;refine' Ms;refine zC [(0,none),(1,none),(2,none),(3,none),(4,none),(5,none),(6,none),(7,none),(8,some (some [6])),(9,none),(10,none),(11,none),(12,none),(13,none),(14,none),(15,none),(16,none),(17,some none)] ?_;have hS:=hS.drew;refine' PI;refine' SQ;refine' Mu;refine' Nb;refine' X0;refine' KO;refine' zm;refine' Lp;refine' KE (c:=PX hf0 (show St cx _ (mL p c (fr++[k]) g _) from hS.sp));rintro v9 w1 ⟨b9,o9,rfl,hel,hS⟩;refine' Mp;refine' RO;refine QF hS hel rfl fd (Qn (fr++[k]) g) (Qu (fr++[k]) g) rfl ?_;refine' KO;refine' zi;intro b8 o8 cs8 x8 hat8 hx8 he8;obtain rfl:x8=f:=Fm (hx8.symm.trans hfx);obtain ⟨vp8,vr8,vb8,rfl,hp8,hr8,hb8⟩:=QH he8;refine' KO;refine' XW;refine' SP;refine' KO;refine' zL;refine' KO;first|(refine' Ql)|(refine' Qp)|(refine' Ac<;>intro hc));all_goals (refine' Lk;first|(refine' KE (c:=O5 hS);rintro v1 w1 ⟨rfl,hS⟩)|(refine OS (c:=Pt hS) (p:=by rintro v9 w9 ⟨rfl,hS⟩;(repeat (first|refine' Q6|refine' Q8|refine fun _=>?_));refine' Qe;refine .inr ⟨_,rfl,?_⟩;first|(exact Bz)) (h:=fun _ _ h=>h.elim))));refine' Lq;refine' Na;refine' Mf;refine QL (n:=fr.length+2) hS vw fd D0 ?_;refine' QV;refine' OY;refine QA ?_;refine zD (ci 15 [14]) ?_;have hS:=hS.drew;refine' MV;refine' Mf;refine' P8;refine QL (n:=fr.length+2) hS vw fd D0 ?_;refine' PD;rw [show ((fr.length+2:Nat):Int) - 1=(((fr++[k]).length:Nat):Int) by omega];refine TJ (l':=0) (h':=(fr++[k]).length) hS vw (i:=1) rfl rfl ⟨_,rfl⟩ rfl D0 Jo ?_;intro v7 hS;rw [Vc] at hS;have hS:=hS.ns;have ho7:=hS.oneC (i:=1) rfl;refine' Lh;refine LU hS ?_;intro w1 hS;have hS:=hS.ns;refine' Uj;have hS:=jL (fr:=fr) (k:=k) (L:=blk p 55 _::sl 110 5 v7 (Oq fr k)::sl 224 4 (.slice a2 _ n2) _::Mr N c.hp h::sl 2 1 c.ov (QK out)::L) hS.sp;have hS:St cx _ (mL p (c.upd v7 c.iv c.ov) fr k (sl 224 4 (.slice a2 (vs.map Val.cells).length n2) (vs.map Val.cells)::Mr N c.hp h::sl 2 1 c.ov (QK out)::L)):=hS.sp;refine' Kr (c:=Rb (j:=0) (vs:=vs) Jo Jo hS rfl);rintro u1 w1 ⟨tv,rfl,hS⟩;refine' Lz;refine' gK;(exact .inl ⟨_,rfl,v7,c.iv,c.ov,fr,k.push tv vs,N,h,inp,out,jI hvs Jo hst,hi,Jo,rfl,hS.sp⟩)
end
section
variable {cx:Cx}{w:World}{L:List Res}{p N:Nat}{c:MC}{fr:List FrmV}{g:FrmV}{h:HpS}{out inp:List Int}{fu:Nat}{m:Module}
def O6 (p:Nat)(c:MC)(N:Nat)(h:HpS)(out:List Int)(fu:Nat)(X:Stp)(cx:Cx)(L:List Res)(u:Value)(w':World):Prop:=Mm p c N fu X cx L u w'∨Nm p c N h out X cx L u w'
theorem df (hx:Lo.at cx cs e)(hfn:KD.sl cx c.fn m.funcs)(hi:Kh.sl cx c.iv inp)(hfx:m.funcs[g.f]?=some f)(h8:e.args.length≤100)(hf:fr.length≤900)(hn:∀x∈fr,x.vals.length≤900000)(hS:St cx w (mS p c fr g N h out L)):
 Ky Tryz.prog oK [.pointer (some ⟨p,0,none⟩), .agg ⟨cs⟩] w (O6 p c N h out fu ((Km h g fr inp out fu).ret f e) cx L) (Ma p c N h out ((Km h g fr inp out fu).ret f e) cx L):=by
 rcases Hc fr with rfl|⟨fr0,k,hk⟩
 · exact (dd hx hfn hfx h8 hS).mono (fun _ _ h=> .inr h) (fun _ _ h=>h)
 · obtain rfl:fr=fr0++[k]:=(by simpa using hk);exact (de hx hfn hi hfx h8 (by rw [Fc] at hf;omega) (hn k Js) hS).mono (fun _ _ h=> .inl h) (fun _ _ h=>h)
theorem Mm.tup (hG:Mm p c N fu X cx L u w):u= .tuple #[]∧Mm p c N fu X cx L u w:=⟨by obtain ⟨lv,iv,ov,fr',g',N',h',inp',out',_,_,_,hu,_⟩:=hG;exact hu,hG⟩
theorem Mm.drop {r:Res}(hG:Mm p c N fu X cx (r::L) u w):Mm p c N fu X cx L u w:=by
 obtain ⟨lv,iv,ov,fr',g',N',h',inp',out',h1,h2,h3,h4,hS⟩:=hG;exact ⟨lv,iv,ov,fr',g',N',h',inp',out',h1,h2,h3,h4,hS.sp⟩
theorem Ma.drop {r:Res}(hB:Ma p c N h out X cx (r::L) u w):Ma p c N h out X cx L u w:=by
 rcases hB with ⟨h1,h2,hS⟩|⟨e,h1,h2,fr',g',N',h3,hS⟩
 · exact .inl ⟨h1,h2,hS.sp⟩
 · exact .inr ⟨e,h1,h2,fr',g',N',h3,hS.sp⟩
theorem Nm.drop {r:Res}(hD:Nm p c N h out X cx (r::L) u w):Nm p c N h out X cx L u w:=by
 obtain ⟨ns,bv,fr',g',h1,h2,hS⟩:=hD;exact ⟨ns,bv,fr',g',h1,h2,hS.sp⟩
theorem Mm.ok (hG:Mm p c N fu X cx L u w):O6 p c N h out fu X cx L u w:= .inl hG
theorem O6.drop {r:Res}(hG:O6 p c N h out fu X cx (r::L) u w):O6 p c N h out fu X cx L u w:=hG.elim (fun h=> .inl h.drop) (fun h=> .inr h.drop)
theorem O6.tup (hG:O6 p c N h out fu X cx L u w):u= .tuple #[]∧O6 p c N h out fu X cx L u w:=by
 refine ⟨?_,hG⟩;rcases hG with h|⟨ns,bv,fr',g',h1,h2,hS⟩
 · exact h.tup.1
 · exact h2
def ToOK (f:Fun)(t:To):Prop:=(0≤t.block∧t.block<f.blocks.length)∧t.regs.length≤100∧t.args.length≤100
attribute [local irreducible] Frm.val Frm.num Frm.args Frm.rgs Frm.reg KF MS.to MS.ret Mm Ma Nm O6
theorem jM {x:Option Int}{X:Int→Stp}(hx:x=none)(hS:St cx w (mS p c fr g N h out L)):Ma p c N h out (LB x X) cx L U2 w:=by
 unfold Ma;exact .inl ⟨Ru hx,rfl,hS.sp⟩
theorem dg (hx:Lo.at cx cs e)(hfn:KD.sl cx c.fn m.funcs)(hi:Kh.sl cx c.iv inp)(hfx:m.funcs[g.f]?=some f)(h8:e.args.length≤100)(hop:1≤e.op∧e.op≤3)(hy:e.op≠3→ToOK f e.yes)(hno:e.op=2→ToOK f e.no)(hf:fr.length≤900)(hn:∀x∈fr,x.vals.length≤900000)(hS:St cx w (mS p c fr g N h out L)):
 Ky Tryz.prog yH [.pointer (some ⟨p,0,none⟩), .agg ⟨cs⟩] w (O6 p c N h out fu ((Km h g fr inp out fu).fin f e) cx L) (Ma p c N h out ((Km h g fr inp out fu).fin f e) cx L):=by
 obtain ⟨v1,v2,v3,v4,v5,rfl,k1,k2,k3,k4,k5⟩:=Rj hx;unfold Ky;rcases (show e.op=1∨e.op=2∨e.op=3 by omega) with h1|h1|h1
 · have hX:(Km h g fr inp out fu).fin f e=(Km h g fr inp out fu).to f e.yes:=if_pos h1;obtain ⟨⟨y1,y2⟩,y3,y4⟩:=hy Jo;rw [hX];refine Kq Ko Tryz.func119 ?_;refine' KY;intro p3 w1 hS;refine' NA;refine' SZ;refine QA ?_;have hS:St cx _ (mS p c fr g N h out (blk p3 90 [.int .i64 e.op, .int .i64 e.a, .int .i64 e.yes.block,v1,v2, .int .i64 e.no.block,v3,v4,v5]::L)):=hS.sp;refine' LS;refine' XZ;refine' Ki;refine' LV;refine' OV;refine KH (c:=U9 (t:=e.yes) (inp:=inp) (fu:=fu) ⟨_,_,rfl,k1,k2⟩ hfn hi hfx y1 y2 y3 y4 Jo hS) (p:=by rintro u9 w9 hB;(repeat (first|refine' Q6|refine' Q8|refine fun _=>?_));refine' Qe;refine .inr ⟨_,rfl,?_⟩;exact hB.drop) (h:=?_);rintro u1 w2 hG;refine' OW;have hG:=hG.drop;obtain ⟨rfl,hG⟩:=hG.tup;exact .inl ⟨_,rfl,hG.ok⟩
 · have hX:(Km h g fr inp out fu).fin f e=LB (g.abs.num e.a) fun n=>if n≠0 then (Km h g fr inp out fu).to f e.yes else (Km h g fr inp out fu).to f e.no:=(if_neg Jo).trans (if_pos h1)
   (obtain ⟨⟨y1,y2⟩,y3,y4⟩:=hy Jo;obtain ⟨⟨n1,n2⟩,n3,n4⟩:=hno h1;rw [hX];refine Kq Ko Tryz.func119 ?_;refine' KY;intro p3 w1 hS;refine' NA;refine' SZ;refine QA ?_;have hS:St cx _ (mS p c fr g N h out (blk p3 90 [.int .i64 e.op, .int .i64 e.a, .int .i64 e.yes.block,v1,v2, .int .i64 e.no.block,v3,v4,v5]::L)):=hS.sp;refine' LS;refine' fT;refine' Kk;refine' Kv;refine' XZ;refine' Ki;refine' KP;refine' KZ;refine KH (c:=SA Jo hS) (p:=by rintro u9 w9 ⟨hnn,rfl,hS⟩;(repeat (first|refine' Q6|refine' Q8|refine fun _=>?_));refine' Qe;refine .inr ⟨_,rfl,?_⟩;exact (jM hnn (show St cx _ (mS p c fr g N h out _) from hS.sp)).drop) (h:=?_);rintro u1 w2 ⟨n,hnn,rfl,hS⟩;rw [Q5 hnn];first|(refine' QO)|(refine' QU)|(refine' Ad<;>intro hc));all_goals (refine' zn)
   all_goals
    first
    | (refine' Ki;rw [if_pos (show n≠0 by omega)];refine' LV;refine' OV;refine KH (c:=U9 (t:=e.yes) (inp:=inp) (fu:=fu) ⟨_,_,rfl,k1,k2⟩ hfn hi hfx y1 y2 y3 y4 Jo hS) (p:=by rintro u9 w9 hB;(repeat (first|refine' Q6|refine' Q8|refine fun _=>?_));refine' Qe;refine .inr ⟨_,rfl,?_⟩;exact hB.drop) (h:=?_);rintro u1 w2 hG;refine' zn)
    | (refine' Kk;rw [if_neg (show¬n≠0 by omega)];refine' LV;refine' OV;refine KH (c:=U9 (t:=e.no) (inp:=inp) (fu:=fu) ⟨_,_,rfl,k3,k4⟩ hfn hi hfx n1 n2 n3 n4 Jo hS) (p:=by rintro u9 w9 hB;(repeat (first|refine' Q6|refine' Q8|refine fun _=>?_));refine' Qe;refine .inr ⟨_,rfl,?_⟩;exact hB.drop) (h:=?_);rintro u1 w2 hG;refine' zn)
   all_goals (refine' LJ;have hG:=hG.drop;obtain ⟨rfl,hG⟩:=hG.tup;exact .inl ⟨_,rfl,hG.ok⟩)
 · have hX:(Km h g fr inp out fu).fin f e=(Km h g fr inp out fu).ret f e:=(if_neg Jo).trans (if_neg Jo);rw [hX];refine Kq Ko Tryz.func119 ?_;refine' KY;intro p3 w1 hS;refine' NA;refine' SZ;refine QA ?_;have hS:St cx _ (mS p c fr g N h out (blk p3 90 [.int .i64 e.op, .int .i64 e.a, .int .i64 e.yes.block,v1,v2, .int .i64 e.no.block,v3,v4,v5]::L)):=hS.sp;refine' LS;refine' fT;refine' Kk;refine' OM;refine' Kk;refine' Kv;refine' XZ;refine' Ki;refine' OT;refine KH (c:=df (e:=e) (inp:=inp) (fu:=fu) hx hfn hi hfx h8 hf hn hS) (p:=by rintro u9 w9 hB;(repeat (first|refine' Q6|refine' Q8|refine fun _=>?_));refine' Qe;refine .inr ⟨_,rfl,?_⟩;exact hB.drop) (h:=?_);rintro u1 w2 hG;refine' OW;have hG:=hG.drop;obtain ⟨rfl,hG⟩:=hG.tup;exact Aw
end
end Go.Proofs.YteflkifmgnpbhaaGreat
namespace Go.Lir
section
variable {m:Module}{s:MS}{x:Ins}
theorem dh (h:x.op=1):s.ins m x= .go (s.put [K4 x.n]):=by unfold MS.ins;rw [if_pos h]
theorem di (h:x.op=2):s.ins m x=LB (s.g.num x.a) fun a=>LB (s.g.num x.b) fun b=>if (NB x.k a b).2=false then .halt 1 else .go (s.put [K4 (NB x.k a b).1]):=by unfold MS.ins;rw [if_neg Jo,if_pos h]
theorem dj (h:x.op=3):s.ins m x=s.newR:=by unfold MS.ins;rw [if_neg Jo,if_neg Jo,if_pos h]
theorem dk (h:x.op=4):s.ins m x=LB (s.g.val x.a) fun v=>if s.h.can v=false then .lost else .go (s.hp (s.h.shut v)):=by unfold MS.ins;rw [if_neg Jo,if_neg Jo,if_neg Jo,if_pos h]
theorem dm (h:x.op=5):s.ins m x=LB (s.g.val x.a) fun v=>LB (s.g.args x.args) fun l=>s.made (s.h.code v (L9 l)) (s.h.tuple v l) (s.h.putV v 3 (L9 l)):=by unfold MS.ins;(repeat rw [if_neg Jo]);rw [if_pos h]
theorem dp (h:x.op=6):s.ins m x=LB (s.g.val x.a) fun v=>if v.kind≠3 then .lost else if (s.h.get v x.k).2≠0 then .lost else .go (s.put [(s.h.get v x.k).1]):=by unfold MS.ins;(repeat rw [if_neg Jo]);rw [if_pos h]
theorem dq (h:x.op=7):s.ins m x=LB (s.g.val x.a) fun v=>if v.kind≠3 then .lost else LB (s.g.val x.b) fun y=>if s.h.setC v x.k y≠0 then .lost else .go (s.hp (s.h.set v x.k y)):=by unfold MS.ins;(repeat rw [if_neg Jo]);rw [if_pos h]
theorem dr (h:x.op=9):s.ins m x=LB (s.g.val x.a) fun v=>LB (s.g.num x.b) fun n=>Om v (s.h.get v n).2 (.go (s.put [(s.h.get v n).1])):=by unfold MS.ins;(repeat rw [if_neg Jo]);rw [if_pos h]
theorem YA (h:x.op=10):s.ins m x=LB (s.g.val x.a) fun v=>LB (s.g.num x.b) fun n=>LB (s.g.num x.c) fun c=>Om v (s.h.setC v n (K4 c)) (.go (s.hp (s.h.set v n (K4 c)))):=by unfold MS.ins;(repeat rw [if_neg Jo]);rw [if_pos h]
theorem YB (h:x.op=11):s.ins m x=LB (s.g.val x.a) fun v=>Om v (s.h.len v).2 (.go (s.put [K4 (s.h.len v).1])):=by unfold MS.ins;(repeat rw [if_neg Jo]);rw [if_pos h]
theorem YC (h:x.op=12):s.ins m x=s.inS:=by unfold MS.ins;(repeat rw [if_neg Jo]);rw [if_pos h]
theorem YD (h:x.op=13):s.ins m x=LB (s.g.num x.a) fun n=>s.outS n:=by unfold MS.ins;(repeat rw [if_neg Jo]);rw [if_pos h]
theorem YE (h:x.op=14):s.ins m x=s.call m x:=by unfold MS.ins;(repeat rw [if_neg Jo])
theorem pr {e:Int}{k:Stp}(hv:v.kind=4)(he:e=1):Om v e k= .halt 2:=by unfold Om;rw [if_neg Jo,if_pos he]
theorem pt {e:Int}{k:Stp}(he:v.kind=4→e≠1∧e≠0):Om v e k= .lost:=by
 unfold Om;by_cases hv:v.kind=4
 · obtain ⟨h1,h2⟩:=he hv;rw [if_neg Jo,if_neg h1,if_pos h2]
 · rw [if_pos hv]
theorem ga {e:Int}{k:Stp}(hv:v.kind=4)(he:e=0):Om v e k=k:=by unfold Om;rw [if_neg Jo,if_neg Jo,if_neg Jo]
theorem Vd {l:List Val}(e:h.code v (L9 l)≠0):h.tuple v l=h:=by unfold HpS.tuple HpS.put;exact if_neg e
theorem YF (e:h.full=true):h.open=h:=by unfold HpS.open;exact if_pos e
theorem dt (e:s.h.full=true):s.newR= .halt 6:=by unfold MS.newR;exact if_pos e
theorem pz (e:s.h.full=false):s.newR= .go ((⟨s.h.open,⟨s.g.f,s.g.b,s.g.i,s.g.vals,s.g.regs++[s.h.openV.region]⟩,s.st,s.inp,s.out,s.fuel⟩:MS).put [s.h.openV]):=by unfold MS.newR;exact if_neg (by rw [e];decide)
theorem pA (e:s.inp=[]):s.inS= .halt 4:=by unfold MS.inS;rw [e]
theorem pB {r:List Int}(e:s.inp=n::r):s.inS= .go ((⟨s.h,s.g,s.st,r,s.out,s.fuel⟩:MS).put [K4 n]):=by unfold MS.inS;rw [e]
theorem ju (e:s.out.length=2000):s.outS n= .halt 8:=if_pos e
theorem jN (e:s.out.length≠2000):s.outS n= .go ⟨s.h,s.g,s.st,s.inp,s.out++[n],s.fuel⟩:=if_neg e
end
end Go.Lir
namespace Go.Proofs.YteflkifmgnpbhaaGreat
open Go.Lir
attribute [local irreducible] LC.wp Q0 Qs Qi KN QD LO.wp Q7 Calls
section
variable {cx:Cx}{w:World}{L:List Res}{p N:Nat}{c:MC}{fr:List FrmV}{g:FrmV}{h:HpS}{out inp:List Int}{fu:Nat}{m:Module}
def FrmV.nx (g:FrmV):FrmV:=⟨g.f,g.b,g.i+1,g.vv,g.vals,g.rv,g.regs⟩
theorem QfP:QK l++[[.int .i64 n]]=QK (l++[n]):=by unfold QK;rw [FG];rfl
section
variable {s:MS}{x:Ins}
theorem du (h:x.op=8):s.ins m x=Yy s x:=by unfold MS.ins;(repeat rw [if_neg Jo]);rw [if_pos h];rfl
end
attribute [local irreducible] Frm.val Frm.num Frm.args Frm.rgs Frm.reg KF MS.ins MS.call HpS.get HpS.set HpS.setC HpS.len HpS.code HpS.put HpS.putV HpS.open HpS.shut HpS.full HpS.openV HpS.can HpS.tuple HpS.arr HpS.arrC HpS.arrV NB L9
theorem dv (hx : Lb.at cx cs x)(hfn:KD.sl cx c.fn m.funcs)(hi:Kh.sl cx c.iv inp)(hop:1≤x.op∧x.op≤14)(hk:x.op=14→0≤x.k∧x.k<m.funcs.length)(h6:x.regs.length≤100)(h8:x.args.length≤100)(hgi:g.i≤1000)(hf:fr.length≤900)(hn:g.vals.length≤800000)(hrn:g.regs.length≤800000)(hN:N≤99999)(hol:out.length≤2000)(hS:St cx w (mS p c fr g N h out L)):
 Ky Tryz.prog yG [.pointer (some ⟨p,0,none⟩), .agg ⟨cs⟩] w (Mm p c N fu ((Km h g.nx fr inp out fu).ins m x) cx L) (Ma p c N h out ((Km h g.nx fr inp out fu).ins m x) cx L):=by
 (obtain ⟨vr,va,rfl,hr,ha⟩:=Nx hx;have hil:=hi.len;unfold Ky;refine Kq Ko Tryz.func118 ?_;refine' KY;intro p3 w1 hS;refine' L5;have hS:St cx _ (mS p c fr g N h out (blk p3 84 [.int .i64 x.op, .int .i64 x.a, .int .i64 x.b, .int .i64 x.c, .int .i64 x.k, .int .i64 x.n,vr,va]::L)):=hS.sp;refine' LV;refine' KE (c:=PX Jo hS);rintro v1 w1 ⟨b9,o9,rfl,hel,hS⟩;refine' MY;refine Q9 hS hel rfl fd (Qn fr g) (Qu fr g) rfl ?_;refine' MX;rw [show ((g.i:Int)+1)=((g.i+1:Nat):Int) by omega];refine' MY;refine SN hS hel rfl vw fd (Qn fr g) (Qu fr g) Jo rfl (jA (g':=g.nx) rfl) ?_;intro w8 hS;have hS:=hS.ns;have hS:St cx _ (mS p c fr g.nx N h out (blk p3 84 [.int .i64 x.op, .int .i64 x.a, .int .i64 x.b, .int .i64 x.c, .int .i64 x.k, .int .i64 x.n,vr,va]::L)):=hS.sp;refine' NA;refine' SZ;refine' Kv;first|(refine' Ql)|(refine' Qp)|(refine' Ac<;>intro hc));all_goals (refine' KA)
 all_goals
  first
  | (refine' Ki;have hX:=dh (m:=m) (s:=Km h g.nx fr inp out fu) (x:=x) Jo;refine' NP;refine' KE (c:=jB hS);rintro v1 w1 ⟨rfl,hS⟩;unfold Val.v Val.cells;refine K8 hS [_,_,_,_] ?_;intro b1 w1 hS;have hS:=Gh (T:=224) (es:=4) (css:=[K4 x.n].map Val.cells) hS rfl Dm rfl;have hS:St cx _ (mL p c fr g.nx (sl 224 4 (.slice (some ⟨b1,0,none⟩) 1 1) ([K4 x.n].map Val.cells)::Mr (N) c.hp (h)::sl 2 1 c.ov (QK out)::blk p3 84 [.int .i64 x.op, .int .i64 x.a, .int .i64 x.b, .int .i64 x.c, .int .i64 x.k, .int .i64 x.n,vr,va]::L)):=hS.sp;refine' Kr (c:=Rb (j:=0) Jo Dk hS rfl);rintro u1 w1 ⟨tv,rfl,hS⟩;refine' zn;have hG:Mm p c N fu ((Km h g.nx fr inp out fu).ins m x) cx L (.tuple #[]) w1:=⟨c.lv,c.iv,c.ov,fr,g.nx.push tv [K4 x.n],N,h,inp,out,hX,hi,Jo,rfl,hS.sp⟩;refine' LJ;exact Aw)
  | (refine' Kk
     (refine' Kv;first|(refine' Ql)|(refine' Qp)|(refine' Ac<;>intro hc));all_goals (refine' KA)
     all_goals
      first
      | (refine' Ki;refine QA ?_;have hX:=di (m:=m) (s:=Km h g.nx fr inp out fu) (x:=x) Jo;refine zC [(0,none),(1,none),(2,none),(3,none),(4,none),(6,none),(7,none),(8,none),(5,some (some [1,8])),(9,some (some [1])),(10,some none),(11,none),(12,none),(13,none),(14,none),(15,some none)] ?_;have hS:=hS.drew;refine' KW;refine' Rq;refine' NS;refine KH (c:=SA Jo (show St cx _ (mL p c fr g.nx _) from hS.sp)) (p:=by rintro u9 w9 ⟨hna,rfl,hS⟩;(repeat (first|refine' Q6|refine' Q8|refine fun _=>?_));refine' Qe;refine .inr ⟨_,rfl,?_⟩;exact .inl ⟨hX.trans (Ru hna),rfl,hS.sp⟩) (h:=?_);rintro u1 w2 ⟨na,hna,rfl,hS⟩;refine' Li;refine KH (c:=SA Jo (show St cx _ (mL p c fr g.nx _) from hS.sp)) (p:=by rintro u9 w9 ⟨hnb,rfl,hS⟩;(repeat (first|refine' Q6|refine' Q8|refine fun _=>?_));refine' Qe;refine .inr ⟨_,rfl,?_⟩;exact .inl ⟨hX.trans ((Q5 hna).trans (Ru hnb)),rfl,hS.sp⟩) (h:=?_);rintro u1 w2 ⟨nb,hnb,rfl,hS⟩;refine' Ly;refine' Lg (c:=jj hS);rintro v1 w1 ⟨rfl,hS⟩;cases hd:(NB x.k na nb).2;(all_goals (refine' Mu;refine' bL;refine' bL;refine' zm;refine' WU;refine' PC;first|(refine' Kr (c:=U3 hS);rintro v1 w1 ⟨rfl,hS⟩)|(refine KH (c:=U4 hS) (p:=by rintro v9 w9 ⟨rfl,hS⟩;(repeat (first|refine' Q6|refine' Q8|refine fun _=>?_));refine' Qe;refine .inr ⟨_,rfl,?_⟩;exact .inr ⟨1,hX.trans ((Q5 hna).trans ((Q5 hnb).trans (if_pos hd))),rfl,fr,g.nx,N,Jo,hS.sp⟩) (h:=fun _ _ h=>h.elim))));refine' Ul;refine' KE (c:=jB hS);rintro v1 w1 ⟨rfl,hS⟩;unfold Val.v Val.cells;refine K8 hS [_,_,_,_] ?_;intro b1 w1 hS;have hS:=Gh (T:=224) (es:=4) (css:=[K4 (NB x.k na nb).1].map Val.cells) hS rfl Dm rfl;have hS:St cx _ (mL p c fr g.nx (sl 224 4 (.slice (some ⟨b1,0,none⟩) 1 1) ([K4 (NB x.k na nb).1].map Val.cells)::Mr (N) c.hp (h)::sl 2 1 c.ov (QK out)::blk p3 84 [.int .i64 x.op, .int .i64 x.a, .int .i64 x.b, .int .i64 x.c, .int .i64 x.k, .int .i64 x.n,vr,va]::L)):=hS.sp;refine' Kr (c:=Rb (j:=0) Jo Dk hS rfl);rintro u1 w1 ⟨tv,rfl,hS⟩;refine' zn;have hG:Mm p c N fu ((Km h g.nx fr inp out fu).ins m x) cx L (.tuple #[]) w1:=⟨c.lv,c.iv,c.ov,fr,g.nx.push tv [K4 (NB x.k na nb).1],N,h,inp,out,hX.trans ((Q5 hna).trans ((Q5 hnb).trans (if_neg (by rw [hd];decide)))),hi,Jo,rfl,hS.sp⟩;refine' LJ;exact Aw)
      | (refine' Kk
         (refine' Kv;first|(refine' Ql)|(refine' Qp)|(refine' Ac<;>intro hc));all_goals (refine' KA)
         all_goals
          first
          | (refine' Ki
             (refine QA ?_;have hX:=dj (m:=m) (s:=Km h g.nx fr inp out fu) (x:=x) Jo;refine' So;refine' KE (c:=Yr (N:=N) (s:=h) (h:=c.hp) Jo hS fd);rintro v1 w1 ⟨rfl,hS⟩;have hS:=hS.ns;unfold Val.v Val.cells;cases hfu:h.full;all_goals (refine' RT;intro p6 w1 hS;refine Kt hS ?_;intro w1 hS;have hS:=hS.ns;refine' L6;refine' PC;first|(refine' Kr (c:=U3 hS);rintro v1 w1 ⟨rfl,hS⟩)|(refine KH (c:=U4 hS) (p:=by rintro v9 w9 ⟨rfl,hS⟩;(repeat (first|refine' Q6|refine' Q8|refine fun _=>?_));refine' Qe;refine .inr ⟨_,rfl,?_⟩;rw [YF hfu] at hS;exact .inr ⟨6,hX.trans (dt hfu),rfl,fr,g.nx,N+1,FE _,hS.sp⟩) (h:=fun _ _ h=>h.elim))));refine' L5;refine OK 1 9 Jk ?_ ?_
             · skip
               refine OK 3 9 Jk ?_ ?_
               · skip;refine zC [(0,none),(2,none),(7,none),(8,none),(1,some (some [8])),(3,some (some [8])),(4,none),(5,none),(6,none),(9,some (some [6])),(10,some none),(11,none),(12,none),(13,some none)] ?_;have hS:=hS.drew;refine' Og;refine' Od;refine' KE (c:=PX Jo (show St cx _ (mL p c fr g.nx _) from hS.sp));rintro v1 w1 ⟨b8,o8,rfl,hel8,hS⟩;refine' Li;refine' KE (c:=PX Jo (show St cx _ (mL p c fr g.nx _) from hS.sp));rintro v1 w1 ⟨b7,o7,rfl,hel7,hS⟩;refine' Mp;refine' RO;refine Q9 hS hel7 rfl fd (Qn fr g.nx) (Qu fr g.nx) rfl ?_;refine' Lp;refine K8 hS [_] ?_;intro b1 w1 hS;refine' zt;refine ⟨Fe.2 ⟨(by (exact Qt hS hel7 rfl fd (Qn fr g.nx) (Qu fr g.nx) rfl)),fun _ h=>(Fv h).elim⟩,?_⟩;refine' LG;refine NL S8 (.inl UI) hS vw vw (v:=g.rv) (css:=QK g.regs) fd (hS.srcB fd Jr Dl) Du ?_;intro v7 w7 hS;have hS:=hS.ns;refine' KO;refine' Nb;refine' Nt;refine' Lk;refine SN hS hel8 rfl vw fd (Qn fr g.nx) (Qu fr g.nx) Jo (hS.oneC (v:=v7) (css:=QK g.regs++[[.int .i64 h.openV.region]]) fd) (jA (g':=⟨g.f,g.b,g.i+1,g.vv,g.vals,v7,g.regs++[h.openV.region]⟩) rfl) ?_;intro w8 hS;have hS:=hS.ns;refine' Lq;have hS:St cx _ (mS p c fr ⟨g.f,g.b,g.i+1,g.vv,g.vals,v7,g.regs++[h.openV.region]⟩ (N+1) h.open out (blk p6 224 h.openV.cells::blk p3 84 [.int .i64 x.op, .int .i64 x.a, .int .i64 x.b, .int .i64 x.c, .int .i64 x.k, .int .i64 x.n,vr,va]::L)):=D6;refine' OT;refine K8 hS [_,_,_,_] ?_;intro b1 w1 hS;have hS:=Gh (T:=224) (es:=4) (css:=[h.openV].map Val.cells) hS rfl Dm rfl;have hS:St cx _ (mL p c fr ⟨g.f,g.b,g.i+1,g.vv,g.vals,v7,g.regs++[h.openV.region]⟩ (sl 224 4 (.slice (some ⟨b1,0,none⟩) 1 1) ([h.openV].map Val.cells)::Mr (N+1) c.hp (h.open)::sl 2 1 c.ov (QK out)::blk p3 84 [.int .i64 x.op, .int .i64 x.a, .int .i64 x.b, .int .i64 x.c, .int .i64 x.k, .int .i64 x.n,vr,va]::L)):=hS.sp;refine' Kr (c:=Rb (j:=0) Jo Dk hS rfl);rintro u1 w1 ⟨tv,rfl,hS⟩;refine' zn;have hG:Mm p c N fu ((Km h g.nx fr inp out fu).ins m x) cx L (.tuple #[]) w1:=⟨c.lv,c.iv,c.ov,fr,FrmV.push ⟨g.f,g.b,g.i+1,g.vv,g.vals,v7,g.regs++[h.openV.region]⟩ tv [h.openV],N+1,h.open,inp,out,hX.trans (pz hfu),hi,FE _,rfl,hS.sp⟩;refine' LJ;exact Aw
               · skip;refine zC [(0,none),(2,none),(7,none),(8,none),(1,some (some [8])),(9,some (some [])),(3,some (some [8])),(4,none),(5,none),(6,none),(10,some none),(11,none),(12,none),(13,some none)] ?_;have hS:=hS.drew;refine' Og;refine' Od;refine' KE (c:=PX Jo (show St cx _ (mL p c fr g.nx _) from hS.sp));rintro v1 w1 ⟨b8,o8,rfl,hel8,hS⟩;refine' Li;refine K8 hS [_] ?_;intro b1 w1 hS;refine' zt;refine ⟨fun _ h=>(Fv h).elim,?_⟩;refine' SJ;refine' KE (c:=PX Jo (show St cx _ (mL p c fr g.nx _) from hS.sp));rintro v1 w1 ⟨b7,o7,rfl,hel7,hS⟩;refine' Mp;refine' RO;refine Q9 hS hel7 rfl fd (Qn fr g.nx) (Qu fr g.nx) rfl ?_;refine' Lk;refine NL S8 (.inl UI) hS vw vw (v:=g.rv) (css:=QK g.regs) fd (hS.srcB fd Jr Dl) Du ?_;intro v7 w7 hS;have hS:=hS.ns;refine' KO;refine' Nb;refine' Nt;refine' Lk;refine SN hS hel8 rfl vw fd (Qn fr g.nx) (Qu fr g.nx) Jo (hS.oneC (v:=v7) (css:=QK g.regs++[[.int .i64 h.openV.region]]) fd) (jA (g':=⟨g.f,g.b,g.i+1,g.vv,g.vals,v7,g.regs++[h.openV.region]⟩) rfl) ?_;intro w8 hS;have hS:=hS.ns;refine' Lq;have hS:St cx _ (mS p c fr ⟨g.f,g.b,g.i+1,g.vv,g.vals,v7,g.regs++[h.openV.region]⟩ (N+1) h.open out (blk p6 224 h.openV.cells::blk p3 84 [.int .i64 x.op, .int .i64 x.a, .int .i64 x.b, .int .i64 x.c, .int .i64 x.k, .int .i64 x.n,vr,va]::L)):=D6;refine' OT;refine K8 hS [_,_,_,_] ?_;intro b1 w1 hS;have hS:=Gh (T:=224) (es:=4) (css:=[h.openV].map Val.cells) hS rfl Dm rfl;have hS:St cx _ (mL p c fr ⟨g.f,g.b,g.i+1,g.vv,g.vals,v7,g.regs++[h.openV.region]⟩ (sl 224 4 (.slice (some ⟨b1,0,none⟩) 1 1) ([h.openV].map Val.cells)::Mr (N+1) c.hp (h.open)::sl 2 1 c.ov (QK out)::blk p3 84 [.int .i64 x.op, .int .i64 x.a, .int .i64 x.b, .int .i64 x.c, .int .i64 x.k, .int .i64 x.n,vr,va]::L)):=hS.sp;refine' Kr (c:=Rb (j:=0) Jo Dk hS rfl);rintro u1 w1 ⟨tv,rfl,hS⟩;refine' zn;have hG:Mm p c N fu ((Km h g.nx fr inp out fu).ins m x) cx L (.tuple #[]) w1:=⟨c.lv,c.iv,c.ov,fr,FrmV.push ⟨g.f,g.b,g.i+1,g.vv,g.vals,v7,g.regs++[h.openV.region]⟩ tv [h.openV],N+1,h.open,inp,out,hX.trans (pz hfu),hi,FE _,rfl,hS.sp⟩;refine' LJ;exact Aw
             · skip;refine zC [(0,none),(2,none),(7,none),(8,none),(9,some (some [])),(1,some (some [8])),(3,some (some [8])),(4,none),(5,none),(6,none),(10,some none),(11,none),(12,none),(13,some none)] ?_;have hS:=hS.drew;refine' Og;refine' Od;refine K8 hS [_] ?_;intro b1 w1 hS;refine' zt;refine ⟨fun _ h=>(Fv h).elim,?_⟩;refine' SJ;refine' KE (c:=PX Jo (show St cx _ (mL p c fr g.nx _) from hS.sp));rintro v1 w1 ⟨b8,o8,rfl,hel8,hS⟩;refine' Li;refine' KE (c:=PX Jo (show St cx _ (mL p c fr g.nx _) from hS.sp));rintro v1 w1 ⟨b7,o7,rfl,hel7,hS⟩;refine' Mp;refine' RO;refine Q9 hS hel7 rfl fd (Qn fr g.nx) (Qu fr g.nx) rfl ?_;refine' Lk;refine NL S8 (.inl UI) hS vw vw (v:=g.rv) (css:=QK g.regs) fd (hS.srcB fd Jr Dl) Du ?_;intro v7 w7 hS;have hS:=hS.ns;refine' KO;refine' Nb;refine' Nt;refine' Lk;refine SN hS hel8 rfl vw fd (Qn fr g.nx) (Qu fr g.nx) Jo (hS.oneC (v:=v7) (css:=QK g.regs++[[.int .i64 h.openV.region]]) fd) (jA (g':=⟨g.f,g.b,g.i+1,g.vv,g.vals,v7,g.regs++[h.openV.region]⟩) rfl) ?_;intro w8 hS;have hS:=hS.ns;refine' Lq;have hS:St cx _ (mS p c fr ⟨g.f,g.b,g.i+1,g.vv,g.vals,v7,g.regs++[h.openV.region]⟩ (N+1) h.open out (blk p6 224 h.openV.cells::blk p3 84 [.int .i64 x.op, .int .i64 x.a, .int .i64 x.b, .int .i64 x.c, .int .i64 x.k, .int .i64 x.n,vr,va]::L)):=D6;refine' OT;refine K8 hS [_,_,_,_] ?_;intro b1 w1 hS;have hS:=Gh (T:=224) (es:=4) (css:=[h.openV].map Val.cells) hS rfl Dm rfl;have hS:St cx _ (mL p c fr ⟨g.f,g.b,g.i+1,g.vv,g.vals,v7,g.regs++[h.openV.region]⟩ (sl 224 4 (.slice (some ⟨b1,0,none⟩) 1 1) ([h.openV].map Val.cells)::Mr (N+1) c.hp (h.open)::sl 2 1 c.ov (QK out)::blk p3 84 [.int .i64 x.op, .int .i64 x.a, .int .i64 x.b, .int .i64 x.c, .int .i64 x.k, .int .i64 x.n,vr,va]::L)):=hS.sp;refine' Kr (c:=Rb (j:=0) Jo Dk hS rfl);rintro u1 w1 ⟨tv,rfl,hS⟩;refine' zn;have hG:Mm p c N fu ((Km h g.nx fr inp out fu).ins m x) cx L (.tuple #[]) w1:=⟨c.lv,c.iv,c.ov,fr,FrmV.push ⟨g.f,g.b,g.i+1,g.vv,g.vals,v7,g.regs++[h.openV.region]⟩ tv [h.openV],N+1,h.open,inp,out,hX.trans (pz hfu),hi,FE _,rfl,hS.sp⟩;refine' LJ;exact Aw)
          | (refine' Kk
             (refine' Kv;first|(refine' Ql)|(refine' Qp)|(refine' Ac<;>intro hc));all_goals (refine' KA)
             all_goals
              first
              | (refine' Ki;have hX:=dk (m:=m) (s:=Km h g.nx fr inp out fu) (x:=x) Jo;refine zC [(0,none),(1,none),(2,none),(3,none),(4,none),(5,none),(6,none),(7,some (some [3])),(8,some none),(9,some none)] ?_;have hS:=hS.drew;refine' Pk;refine' NS;refine KH (c:=OE Jo (show St cx _ (mL p c fr g.nx _) from hS.sp)) (p:=by rintro u9 w9 ⟨hv,rfl,hS⟩;(repeat (first|refine' Q6|refine' Q8|refine fun _=>?_));refine' Qe;refine .inr ⟨_,rfl,?_⟩;exact AH) (h:=?_);rintro u1 w2 ⟨v,hv,rfl,hS⟩;refine' Ly;refine' Kr (c:=Ys (N:=N) (s:=h) (h:=c.hp) v hS fd);rintro v1 w1 ⟨rfl,hS⟩;have hS:=hS.ns;cases hcn:h.can v;(all_goals (refine' Lk;first|(refine' KE (c:=O5 hS);rintro v1 w1 ⟨rfl,hS⟩)|(refine OS (c:=Pt hS) (p:=by rintro v9 w9 ⟨rfl,hS⟩;(repeat (first|refine' Q6|refine' Q8|refine fun _=>?_));refine' Qe;refine .inr ⟨_,rfl,?_⟩;exact .inl ⟨hX.trans ((Q5 hv).trans (if_pos hcn)),rfl,hS.sp⟩) (h:=fun _ _ h=>h.elim))));refine' Lq;have hG:Mm p c N fu ((Km h g.nx fr inp out fu).ins m x) cx L (.tuple #[]) w1:=⟨c.lv,c.iv,c.ov,fr,g.nx,N,h.shut v,inp,out,hX.trans ((Q5 hv).trans (if_neg (by rw [show (Km h g.nx fr inp out fu).h.can v=h.can v from rfl,hcn];decide))),hi,Jo,rfl,hS.sp⟩;refine' LJ;exact Aw)
              | (refine' Kk
                 (refine' Kv;first|(refine' Ql)|(refine' Qp)|(refine' Ac<;>intro hc));all_goals (refine' KA)
                 all_goals
                  first
                  | (refine' Ki;have hX:=dm (m:=m) (s:=Km h g.nx fr inp out fu) (x:=x) Jo;refine zC [(0,none),(1,none),(2,none),(3,none),(4,none),(5,none),(6,none),(7,none),(9,none),(10,none),(11,none),(8,some (some [4,11])),(12,some (some [4])),(13,some (some [])),(14,none),(15,none),(16,some none)] ?_;have hS:=hS.drew;refine' Og;refine' Nb;refine' Rq;refine' NS;refine KH (c:=OE Jo (show St cx _ (mL p c fr g.nx _) from hS.sp)) (p:=by rintro u9 w9 ⟨hv,rfl,hS⟩;(repeat (first|refine' Q6|refine' Q8|refine fun _=>?_));refine' Qe;refine .inr ⟨_,rfl,?_⟩;exact AH) (h:=?_);rintro u1 w2 ⟨v,hv,rfl,hS⟩;refine' Li;refine KH (c:=jG Jo Jo ha (show St cx _ (mL p c fr g.nx _) from hS.sp)) (p:=by rintro u9 w9 ⟨hvs,rfl,hS⟩;(repeat (first|refine' Q6|refine' Q8|refine fun _=>?_));refine' Qe;refine .inr ⟨_,rfl,?_⟩;exact .inl ⟨hX.trans ((Q5 hv).trans (Ru hvs)),rfl,hS.sp⟩) (h:=?_);rintro u2 w2 ⟨vs,hvs,hvl,ho2,hS⟩;refine' Li;refine' Lg (c:=U1 (N:=N) (s:=h) (h:=c.hp) (j:=5) v _ vs Jo Jo hS fd rfl);rintro v1 w1 ⟨rfl,hS⟩;have hS:=hS.ns;refine' Mp;refine' RP;refine' Lk;refine MG (c:=lU (v:=h.putV v 3 (L9 vs)) Jo DX (show St cx _ (mL p c fr g.nx _) from hS.sp)) (p:=by rintro u9 w9 ⟨he,hS⟩;(repeat (first|refine' Q6|refine' Q8|refine fun _=>?_));refine' Qe;refine .inr ⟨_,rfl,?_⟩;rcases he with ⟨e0,rfl⟩|⟨e0,e1,rfl⟩;(rw [Vd Jo] at hS;exact .inr ⟨6,hX.trans ((Q5 hv).trans ((Q5 hvs).trans (tA e0))),rfl,fr,g.nx,N+1,FE _,hS.sp⟩);exact .inl ⟨hX.trans ((Q5 hv).trans ((Q5 hvs).trans (tz e0 e1))),rfl,hS.sp⟩) (h:=?_);rintro u1 w1 ⟨e0,tv,rfl,hS⟩;refine' Lq;have hG:Mm p c N fu ((Km h g.nx fr inp out fu).ins m x) cx L (.tuple #[]) w1:=⟨c.lv,c.iv,c.ov,fr,g.nx.push tv [h.putV v 3 (L9 vs)],N+1,h.tuple v vs,inp,out,hX.trans ((Q5 hv).trans ((Q5 hvs).trans (tC e0))),hi,FE _,rfl,hS.sp⟩;refine' LJ;exact Aw)
                  | (refine' Kk
                     (refine' Kv;first|(refine' Ql)|(refine' Qp)|(refine' Ac<;>intro hc));all_goals (refine' KA)
                     all_goals
                      first
                      | (refine' Ki
                         ((refine QA ?_;have hX:=dp (m:=m) (s:=Km h g.nx fr inp out fu) (x:=x) Jo;refine' NP;refine KH (c:=OE Jo (show St cx _ (mL p c fr g.nx _) from hS.sp)) (p:=by rintro u9 w9 ⟨hv,rfl,hS⟩;(repeat (first|refine' Q6|refine' Q8|refine fun _=>?_));refine' Qe;refine .inr ⟨_,rfl,?_⟩;exact AH) (h:=?_);rintro u1 w2 ⟨v,hv,rfl,hS⟩;unfold Val.v Val.cells;refine ZP rfl rfl ?_;first|(refine' Ql)|(refine' Qp)|(refine' Ac<;>intro hc));all_goals (first|(refine' KE (c:=O5 hS);rintro v1 w1 ⟨rfl,hS⟩)|(refine OS (c:=Pt hS) (p:=by rintro v9 w9 ⟨rfl,hS⟩;(repeat (first|refine' Q6|refine' Q8|refine fun _=>?_));refine' Qe;refine .inr ⟨_,rfl,?_⟩;exact C3) (h:=fun _ _ h=>h.elim))));refine' L5;refine OK 7 14 Jk ?_ ?_
                         · skip
                           refine OK 10 14 Jk ?_ ?_
                           · skip;(refine zC [(0,none),(1,none),(2,none),(3,none),(4,none),(5,none),(6,none),(8,none),(9,none),(7,some (some [3,9])),(10,some none),(11,none),(12,none),(13,none),(14,some (some [])),(15,some (some [])),(16,some none)] ?_;have hS:=hS.drew;refine' Uh;refine' Nu;refine' Od;refine KH (c:=OE Jo (show St cx _ (mL p c fr g.nx _) from hS.sp)) (p:=by rintro u9 w9 ⟨hv2,rfl,hS⟩;(repeat (first|refine' Q6|refine' Q8|refine fun _=>?_));refine' Qe;refine .inr ⟨_,rfl,?_⟩;rw [hv] at hv2;cases hv2) (h:=?_);rintro u1 w2 ⟨v2,hv2,rfl,hS⟩;obtain rfl:v=v2:=Fm (hv.symm.trans hv2);refine' Ly;refine' Lg (c:=cT (N:=N) (s:=h) (h:=c.hp) v x.k hS fd);rintro v1 w1 ⟨rfl,hS⟩;unfold Val.v Val.cells;refine' Mu;refine' RP;refine' PL;intro p8 w1 hS;refine' Li;refine Kt hS ?_;intro w1 hS;have hS:=hS.ns;refine' Ly;refine' WQ;refine' KP;first|(refine' Ql)|(refine' Qp)|(refine' Ac<;>intro hc));(all_goals (first|(refine' KE (c:=O5 hS);rintro v1 w1 ⟨rfl,hS⟩)|(refine OS (c:=Pt hS) (p:=by rintro v9 w9 ⟨rfl,hS⟩;(repeat (first|refine' Q6|refine' Q8|refine fun _=>?_));refine' Qe;refine .inr ⟨_,rfl,?_⟩;exact Bp) (h:=fun _ _ h=>h.elim))));refine' Ss;refine K8 hS [_,_,_,_] ?_;intro b1 w1 hS;have hS:=Gh (T:=224) (es:=4) (css:=[(h.get v x.k).1].map Val.cells) hS rfl Dm rfl;have hS:St cx _ (mL p c fr g.nx (sl 224 4 (.slice (some ⟨b1,0,none⟩) 1 1) ([(h.get v x.k).1].map Val.cells)::Mr (N) c.hp (h)::sl 2 1 c.ov (QK out)::blk p3 84 [.int .i64 x.op, .int .i64 x.a, .int .i64 x.b, .int .i64 x.c, .int .i64 x.k, .int .i64 x.n,vr,va]::L)):=hS.sp;refine' Kr (c:=Rb (j:=0) Jo Dk hS rfl);rintro u1 w1 ⟨tv,rfl,hS⟩;refine' zn;have hG:Mm p c N fu ((Km h g.nx fr inp out fu).ins m x) cx L (.tuple #[]) w1:=⟨c.lv,c.iv,c.ov,fr,g.nx.push tv [(h.get v x.k).1],N,h,inp,out,hX.trans ((Q5 hv).trans ((if_neg Jo).trans (if_neg Ea))),hi,Jo,rfl,hS.sp⟩;refine' LJ;exact Aw
                           · skip;(refine zC [(0,none),(1,none),(2,none),(3,none),(4,none),(5,none),(6,none),(8,none),(9,none),(7,some (some [3,9])),(14,some (some [3,9])),(10,some none),(11,none),(12,none),(13,none),(15,some (some [])),(16,some none)] ?_;have hS:=hS.drew;refine' Uh;refine' Nu;refine' Od;refine KH (c:=OE Jo (show St cx _ (mL p c fr g.nx _) from hS.sp)) (p:=by rintro u9 w9 ⟨hv2,rfl,hS⟩;(repeat (first|refine' Q6|refine' Q8|refine fun _=>?_));refine' Qe;refine .inr ⟨_,rfl,?_⟩;rw [hv] at hv2;cases hv2) (h:=?_);rintro u1 w2 ⟨v2,hv2,rfl,hS⟩;obtain rfl:v=v2:=Fm (hv.symm.trans hv2);refine' Li;refine Qd hS ?_;intro p8 w1 hS;refine' Ly;refine' Lg (c:=cT (N:=N) (s:=h) (h:=c.hp) v x.k hS fd);rintro v1 w1 ⟨rfl,hS⟩;unfold Val.v Val.cells;refine' Mu;refine' RP;refine' Lp;refine Kt hS ?_;intro w1 hS;have hS:=hS.ns;refine' Ly;refine' WQ;refine' KP;first|(refine' Ql)|(refine' Qp)|(refine' Ac<;>intro hc));(all_goals (first|(refine' KE (c:=O5 hS);rintro v1 w1 ⟨rfl,hS⟩)|(refine OS (c:=Pt hS) (p:=by rintro v9 w9 ⟨rfl,hS⟩;(repeat (first|refine' Q6|refine' Q8|refine fun _=>?_));refine' Qe;refine .inr ⟨_,rfl,?_⟩;exact Bp) (h:=fun _ _ h=>h.elim))));refine' Ss;refine K8 hS [_,_,_,_] ?_;intro b1 w1 hS;have hS:=Gh (T:=224) (es:=4) (css:=[(h.get v x.k).1].map Val.cells) hS rfl Dm rfl;have hS:St cx _ (mL p c fr g.nx (sl 224 4 (.slice (some ⟨b1,0,none⟩) 1 1) ([(h.get v x.k).1].map Val.cells)::Mr (N) c.hp (h)::sl 2 1 c.ov (QK out)::blk p3 84 [.int .i64 x.op, .int .i64 x.a, .int .i64 x.b, .int .i64 x.c, .int .i64 x.k, .int .i64 x.n,vr,va]::L)):=hS.sp;refine' Kr (c:=Rb (j:=0) Jo Dk hS rfl);rintro u1 w1 ⟨tv,rfl,hS⟩;refine' zn;have hG:Mm p c N fu ((Km h g.nx fr inp out fu).ins m x) cx L (.tuple #[]) w1:=⟨c.lv,c.iv,c.ov,fr,g.nx.push tv [(h.get v x.k).1],N,h,inp,out,hX.trans ((Q5 hv).trans ((if_neg Jo).trans (if_neg Ea))),hi,Jo,rfl,hS.sp⟩;refine' LJ;exact Aw
                         · skip;(refine zC [(0,none),(1,none),(2,none),(3,none),(4,none),(5,none),(6,none),(8,none),(9,none),(14,some (some [3,6,9])),(7,some (some [3,9])),(10,some none),(11,none),(12,none),(13,none),(15,some (some [])),(16,some none)] ?_;have hS:=hS.drew;refine' Uh;refine' Nu;refine' Od;refine Qd hS ?_;intro p8 w1 hS;refine' Li;refine KH (c:=OE Jo (show St cx _ (mL p c fr g.nx _) from hS.sp)) (p:=by rintro u9 w9 ⟨hv2,rfl,hS⟩;(repeat (first|refine' Q6|refine' Q8|refine fun _=>?_));refine' Qe;refine .inr ⟨_,rfl,?_⟩;rw [hv] at hv2;cases hv2) (h:=?_);rintro u1 w2 ⟨v2,hv2,rfl,hS⟩;obtain rfl:v=v2:=Fm (hv.symm.trans hv2);refine' Ly;refine' Lg (c:=cT (N:=N) (s:=h) (h:=c.hp) v x.k hS fd);rintro v1 w1 ⟨rfl,hS⟩;unfold Val.v Val.cells;refine' Mu;refine' RP;refine' Lp;refine Kt hS ?_;intro w1 hS;have hS:=hS.ns;refine' Ly;refine' WQ;refine' KP;first|(refine' Ql)|(refine' Qp)|(refine' Ac<;>intro hc));(all_goals (first|(refine' KE (c:=O5 hS);rintro v1 w1 ⟨rfl,hS⟩)|(refine OS (c:=Pt hS) (p:=by rintro v9 w9 ⟨rfl,hS⟩;(repeat (first|refine' Q6|refine' Q8|refine fun _=>?_));refine' Qe;refine .inr ⟨_,rfl,?_⟩;exact Bp) (h:=fun _ _ h=>h.elim))));refine' Ss;refine K8 hS [_,_,_,_] ?_;intro b1 w1 hS;have hS:=Gh (T:=224) (es:=4) (css:=[(h.get v x.k).1].map Val.cells) hS rfl Dm rfl;have hS:St cx _ (mL p c fr g.nx (sl 224 4 (.slice (some ⟨b1,0,none⟩) 1 1) ([(h.get v x.k).1].map Val.cells)::Mr (N) c.hp (h)::sl 2 1 c.ov (QK out)::blk p3 84 [.int .i64 x.op, .int .i64 x.a, .int .i64 x.b, .int .i64 x.c, .int .i64 x.k, .int .i64 x.n,vr,va]::L)):=hS.sp;refine' Kr (c:=Rb (j:=0) Jo Dk hS rfl);rintro u1 w1 ⟨tv,rfl,hS⟩;refine' zn;have hG:Mm p c N fu ((Km h g.nx fr inp out fu).ins m x) cx L (.tuple #[]) w1:=⟨c.lv,c.iv,c.ov,fr,g.nx.push tv [(h.get v x.k).1],N,h,inp,out,hX.trans ((Q5 hv).trans ((if_neg Jo).trans (if_neg Ea))),hi,Jo,rfl,hS.sp⟩;refine' LJ;exact Aw)
                      | (refine' Kk
                         (refine' Kv;first|(refine' Ql)|(refine' Qp)|(refine' Ac<;>intro hc));all_goals (refine' KA)
                         all_goals
                          first
                          | (refine' Ki;(refine QA ?_;have hX:=dq (m:=m) (s:=Km h g.nx fr inp out fu) (x:=x) Jo;refine' NP;refine KH (c:=OE Jo (show St cx _ (mL p c fr g.nx _) from hS.sp)) (p:=by rintro u9 w9 ⟨hv,rfl,hS⟩;(repeat (first|refine' Q6|refine' Q8|refine fun _=>?_));refine' Qe;refine .inr ⟨_,rfl,?_⟩;exact AH) (h:=?_);rintro u1 w2 ⟨v,hv,rfl,hS⟩;unfold Val.v Val.cells;refine ZP rfl rfl ?_;first|(refine' Ql)|(refine' Qp)|(refine' Ac<;>intro hc));(all_goals (first|(refine' KE (c:=O5 hS);rintro v1 w1 ⟨rfl,hS⟩)|(refine OS (c:=Pt hS) (p:=by rintro v9 w9 ⟨rfl,hS⟩;(repeat (first|refine' Q6|refine' Q8|refine fun _=>?_));refine' Qe;refine .inr ⟨_,rfl,?_⟩;exact C3) (h:=fun _ _ h=>h.elim))));(refine' zn;refine zC [(0,none),(1,none),(2,none),(3,none),(4,none),(5,none),(6,none),(8,none),(9,none),(10,none),(11,none),(12,none),(7,some (some [3,9,12])),(13,some (some [3,9])),(14,some none),(15,none),(16,some none)] ?_;have hS:=hS.drew;refine' Uh;refine' Nu;refine' NS;refine KH (c:=OE Jo (show St cx _ (mL p c fr g.nx _) from hS.sp)) (p:=by rintro u9 w9 ⟨hv2,rfl,hS⟩;(repeat (first|refine' Q6|refine' Q8|refine fun _=>?_));refine' Qe;refine .inr ⟨_,rfl,?_⟩;rw [hv] at hv2;cases hv2) (h:=?_);rintro u1 w2 ⟨v2,hv2,rfl,hS⟩;obtain rfl:v=v2:=Fm (hv.symm.trans hv2);refine' Li;refine KH (c:=OE Jo (show St cx _ (mL p c fr g.nx _) from hS.sp)) (p:=by rintro u9 w9 ⟨hy,rfl,hS⟩;(repeat (first|refine' Q6|refine' Q8|refine fun _=>?_));refine' Qe;refine .inr ⟨_,rfl,?_⟩;exact .inl ⟨hX.trans ((Q5 hv).trans ((if_neg Jo).trans (Ru hy))),rfl,hS.sp⟩) (h:=?_);rintro u1 w2 ⟨y,hy,rfl,hS⟩;refine' Ly;refine' Ny (c:=U0 (N:=N) (s:=h) (h:=c.hp) v x.k y hS fd);rintro v1 w1 ⟨rfl,hS⟩;have hS:=hS.ns;refine' KO;first|(refine' Ql)|(refine' Qp)|(refine' Ac<;>intro hc));(all_goals (refine' Lk;first|(refine' KE (c:=O5 hS);rintro v1 w1 ⟨rfl,hS⟩)|(refine OS (c:=Pt hS) (p:=by rintro v9 w9 ⟨rfl,hS⟩;(repeat (first|refine' Q6|refine' Q8|refine fun _=>?_));refine' Qe;refine .inr ⟨_,rfl,?_⟩;exact .inl ⟨hX.trans ((Q5 hv).trans ((if_neg Jo).trans ((Q5 hy).trans (if_pos (by show h.setC v x.k y≠0;omega))))),rfl,hS.sp⟩) (h:=fun _ _ h=>h.elim))));refine' Lq;have hG:Mm p c N fu ((Km h g.nx fr inp out fu).ins m x) cx L (.tuple #[]) w1:=⟨c.lv,c.iv,c.ov,fr,g.nx,N,h.set v x.k y,inp,out,hX.trans ((Q5 hv).trans ((if_neg Jo).trans ((Q5 hy).trans (if_neg (by show¬h.setC v x.k y≠0;omega))))),hi,Jo,rfl,hS.sp⟩;refine' LJ;exact Aw)
                          | (refine' Kk
                             (refine' Kv;first|(refine' Ql)|(refine' Qp)|(refine' Ac<;>intro hc));all_goals (refine' KA)
                             all_goals
                              first
                              | (refine' Ki;have hX:=du (m:=m) (s:=Km h g.nx fr inp out fu) (x:=x) Jo;rw [hX];refine' OT;refine KH (c:=Yz (inp:=inp) (fu:=fu) (x:=x) hx hi Jo DX hN hS) (p:=by rintro u9 w9 hB;(repeat (first|refine' Q6|refine' Q8|refine fun _=>?_));refine' Qe;refine .inr ⟨_,rfl,?_⟩;exact hB.drop) (h:=?_);rintro u1 w1 hG;refine' zn;have hG:=hG.drop;obtain ⟨rfl,hG⟩:=hG.tup;refine' LJ;exact Aw)
                              | (refine' Kk
                                 (refine' Kv;first|(refine' Ql)|(refine' Qp)|(refine' Ac<;>intro hc));all_goals (refine' KA)
                                 all_goals
                                  first
                                  | (refine' Ki
                                     refine QA ?_;have hX:=dr (m:=m) (s:=Km h g.nx fr inp out fu) (x:=x) Jo;refine OK 7 16 Jk ?_ ?_
                                     · skip
                                       refine OK 11 16 Jk ?_ ?_
                                       · skip
                                         refine OK 12 16 Jk ?_ ?_
                                         · skip;refine zC [(0,none),(1,none),(2,none),(3,none),(4,none),(5,none),(6,none),(8,none),(9,none),(10,none),(7,some (some [3,10])),(11,some (some [3])),(12,some none),(13,none),(14,none),(15,none),(16,some (some [])),(17,some (some [])),(18,some none)] ?_;have hS:=hS.drew;refine' Uh;refine' NS;refine KH (c:=OE Jo (show St cx _ (mL p c fr g.nx _) from hS.sp)) (p:=by rintro u9 w9 ⟨hv,rfl,hS⟩;(repeat (first|refine' Q6|refine' Q8|refine fun _=>?_));refine' Qe;refine .inr ⟨_,rfl,?_⟩;exact AH) (h:=?_);rintro u1 w2 ⟨v,hv,rfl,hS⟩;refine' Li;refine KH (c:=SA Jo (show St cx _ (mL p c fr g.nx _) from hS.sp)) (p:=by rintro u9 w9 ⟨hnn,rfl,hS⟩;(repeat (first|refine' Q6|refine' Q8|refine fun _=>?_));refine' Qe;refine .inr ⟨_,rfl,?_⟩;exact AZ) (h:=?_);rintro u1 w2 ⟨n,hnn,rfl,hS⟩;refine' Ly;refine' Lg (c:=cT (N:=N) (s:=h) (h:=c.hp) v n hS fd);rintro v1 w1 ⟨rfl,hS⟩;unfold Val.v Val.cells;refine' Mu;refine' RP;refine' PL;intro p10 w1 hS;refine' Li;refine Kt hS ?_;intro w1 hS;have hS:=hS.ns;refine' Ly;refine' WQ;refine' KP;refine' Ud;refine MG (c:=fZ (x:=x) hx Jo (show St cx _ (mL p c fr g.nx _) from hS.sp)) (p:=by rintro u9 w9 ⟨he,hS⟩;(repeat (first|refine' Q6|refine' Q8|refine fun _=>?_));refine' Qe;refine .inr ⟨_,rfl,?_⟩;rcases he with ⟨e0,rfl⟩|⟨⟨v3,hv3,hk4⟩,e0,rfl⟩;exact Bd;obtain rfl:v=v3:=Fm (hv.symm.trans hv3);exact Bc) (h:=?_);rintro u1 w1 ⟨⟨v3,hv3,hk4⟩,e0,rfl,hS⟩;obtain rfl:v=v3:=Fm (hv.symm.trans hv3);refine' Ss;refine K8 hS [_,_,_,_] ?_;intro b1 w1 hS;have hS:=Gh (T:=224) (es:=4) (css:=[(h.get v n).1].map Val.cells) hS rfl Dm rfl;have hS:St cx _ (mL p c fr g.nx (sl 224 4 (.slice (some ⟨b1,0,none⟩) 1 1) ([(h.get v n).1].map Val.cells)::Mr (N) c.hp (h)::sl 2 1 c.ov (QK out)::blk p3 84 [.int .i64 x.op, .int .i64 x.a, .int .i64 x.b, .int .i64 x.c, .int .i64 x.k, .int .i64 x.n,vr,va]::L)):=hS.sp;refine' Kr (c:=Rb (j:=0) Jo Dk hS rfl);rintro u1 w1 ⟨tv,rfl,hS⟩;refine' zn;have hG:Mm p c N fu ((Km h g.nx fr inp out fu).ins m x) cx L (.tuple #[]) w1:=⟨c.lv,c.iv,c.ov,fr,g.nx.push tv [(h.get v n).1],N,h,inp,out,hX.trans ((Q5 hv).trans ((Q5 hnn).trans (ga hk4 e0))),hi,Jo,rfl,hS.sp⟩;refine' LJ;exact Aw
                                         · skip;refine zC [(0,none),(1,none),(2,none),(3,none),(4,none),(5,none),(6,none),(8,none),(9,none),(10,none),(7,some (some [3,10])),(11,some (some [3])),(16,some (some [3])),(12,some none),(13,none),(14,none),(15,none),(17,some (some [])),(18,some none)] ?_;have hS:=hS.drew;refine' Uh;refine' NS;refine KH (c:=OE Jo (show St cx _ (mL p c fr g.nx _) from hS.sp)) (p:=by rintro u9 w9 ⟨hv,rfl,hS⟩;(repeat (first|refine' Q6|refine' Q8|refine fun _=>?_));refine' Qe;refine .inr ⟨_,rfl,?_⟩;exact AH) (h:=?_);rintro u1 w2 ⟨v,hv,rfl,hS⟩;refine' Li;refine KH (c:=SA Jo (show St cx _ (mL p c fr g.nx _) from hS.sp)) (p:=by rintro u9 w9 ⟨hnn,rfl,hS⟩;(repeat (first|refine' Q6|refine' Q8|refine fun _=>?_));refine' Qe;refine .inr ⟨_,rfl,?_⟩;exact AZ) (h:=?_);rintro u1 w2 ⟨n,hnn,rfl,hS⟩;refine' Li;refine Qd hS ?_;intro p10 w1 hS;refine' Ly;refine' Lg (c:=cT (N:=N) (s:=h) (h:=c.hp) v n hS fd);rintro v1 w1 ⟨rfl,hS⟩;unfold Val.v Val.cells;refine' Mu;refine' RP;refine' Lp;refine Kt hS ?_;intro w1 hS;have hS:=hS.ns;refine' Ly;refine' WQ;refine' KP;refine' Ud;refine MG (c:=fZ (x:=x) hx Jo (show St cx _ (mL p c fr g.nx _) from hS.sp)) (p:=by rintro u9 w9 ⟨he,hS⟩;(repeat (first|refine' Q6|refine' Q8|refine fun _=>?_));refine' Qe;refine .inr ⟨_,rfl,?_⟩;rcases he with ⟨e0,rfl⟩|⟨⟨v3,hv3,hk4⟩,e0,rfl⟩;exact Bd;obtain rfl:v=v3:=Fm (hv.symm.trans hv3);exact Bc) (h:=?_);rintro u1 w1 ⟨⟨v3,hv3,hk4⟩,e0,rfl,hS⟩;obtain rfl:v=v3:=Fm (hv.symm.trans hv3);refine' Ss;refine K8 hS [_,_,_,_] ?_;intro b1 w1 hS;have hS:=Gh (T:=224) (es:=4) (css:=[(h.get v n).1].map Val.cells) hS rfl Dm rfl;have hS:St cx _ (mL p c fr g.nx (sl 224 4 (.slice (some ⟨b1,0,none⟩) 1 1) ([(h.get v n).1].map Val.cells)::Mr (N) c.hp (h)::sl 2 1 c.ov (QK out)::blk p3 84 [.int .i64 x.op, .int .i64 x.a, .int .i64 x.b, .int .i64 x.c, .int .i64 x.k, .int .i64 x.n,vr,va]::L)):=hS.sp;refine' Kr (c:=Rb (j:=0) Jo Dk hS rfl);rintro u1 w1 ⟨tv,rfl,hS⟩;refine' zn;have hG:Mm p c N fu ((Km h g.nx fr inp out fu).ins m x) cx L (.tuple #[]) w1:=⟨c.lv,c.iv,c.ov,fr,g.nx.push tv [(h.get v n).1],N,h,inp,out,hX.trans ((Q5 hv).trans ((Q5 hnn).trans (ga hk4 e0))),hi,Jo,rfl,hS.sp⟩;refine' LJ;exact Aw
                                       · skip;refine zC [(0,none),(1,none),(2,none),(3,none),(4,none),(5,none),(6,none),(8,none),(9,none),(10,none),(7,some (some [3,10])),(16,some (some [3,10])),(11,some (some [3])),(12,some none),(13,none),(14,none),(15,none),(17,some (some [])),(18,some none)] ?_;have hS:=hS.drew;refine' Uh;refine' NS;refine KH (c:=OE Jo (show St cx _ (mL p c fr g.nx _) from hS.sp)) (p:=by rintro u9 w9 ⟨hv,rfl,hS⟩;(repeat (first|refine' Q6|refine' Q8|refine fun _=>?_));refine' Qe;refine .inr ⟨_,rfl,?_⟩;exact AH) (h:=?_);rintro u1 w2 ⟨v,hv,rfl,hS⟩;refine' Li;refine Qd hS ?_;intro p10 w1 hS;refine' Li;refine KH (c:=SA Jo (show St cx _ (mL p c fr g.nx _) from hS.sp)) (p:=by rintro u9 w9 ⟨hnn,rfl,hS⟩;(repeat (first|refine' Q6|refine' Q8|refine fun _=>?_));refine' Qe;refine .inr ⟨_,rfl,?_⟩;exact AZ) (h:=?_);rintro u1 w2 ⟨n,hnn,rfl,hS⟩;refine' Ly;refine' Lg (c:=cT (N:=N) (s:=h) (h:=c.hp) v n hS fd);rintro v1 w1 ⟨rfl,hS⟩;unfold Val.v Val.cells;refine' Mu;refine' RP;refine' Lp;refine Kt hS ?_;intro w1 hS;have hS:=hS.ns;refine' Ly;refine' WQ;refine' KP;refine' Ud;refine MG (c:=fZ (x:=x) hx Jo (show St cx _ (mL p c fr g.nx _) from hS.sp)) (p:=by rintro u9 w9 ⟨he,hS⟩;(repeat (first|refine' Q6|refine' Q8|refine fun _=>?_));refine' Qe;refine .inr ⟨_,rfl,?_⟩;rcases he with ⟨e0,rfl⟩|⟨⟨v3,hv3,hk4⟩,e0,rfl⟩;exact Bd;obtain rfl:v=v3:=Fm (hv.symm.trans hv3);exact Bc) (h:=?_);rintro u1 w1 ⟨⟨v3,hv3,hk4⟩,e0,rfl,hS⟩;obtain rfl:v=v3:=Fm (hv.symm.trans hv3);refine' Ss;refine K8 hS [_,_,_,_] ?_;intro b1 w1 hS;have hS:=Gh (T:=224) (es:=4) (css:=[(h.get v n).1].map Val.cells) hS rfl Dm rfl;have hS:St cx _ (mL p c fr g.nx (sl 224 4 (.slice (some ⟨b1,0,none⟩) 1 1) ([(h.get v n).1].map Val.cells)::Mr (N) c.hp (h)::sl 2 1 c.ov (QK out)::blk p3 84 [.int .i64 x.op, .int .i64 x.a, .int .i64 x.b, .int .i64 x.c, .int .i64 x.k, .int .i64 x.n,vr,va]::L)):=hS.sp;refine' Kr (c:=Rb (j:=0) Jo Dk hS rfl);rintro u1 w1 ⟨tv,rfl,hS⟩;refine' zn;have hG:Mm p c N fu ((Km h g.nx fr inp out fu).ins m x) cx L (.tuple #[]) w1:=⟨c.lv,c.iv,c.ov,fr,g.nx.push tv [(h.get v n).1],N,h,inp,out,hX.trans ((Q5 hv).trans ((Q5 hnn).trans (ga hk4 e0))),hi,Jo,rfl,hS.sp⟩;refine' LJ;exact Aw
                                     · skip;refine zC [(0,none),(1,none),(2,none),(3,none),(4,none),(5,none),(6,none),(8,none),(9,none),(10,none),(16,some (some [3,6,10])),(7,some (some [3,10])),(11,some (some [3])),(12,some none),(13,none),(14,none),(15,none),(17,some (some [])),(18,some none)] ?_;have hS:=hS.drew;refine' Uh;refine' NS;refine Qd hS ?_;intro p10 w1 hS;refine' Li;refine KH (c:=OE Jo (show St cx _ (mL p c fr g.nx _) from hS.sp)) (p:=by rintro u9 w9 ⟨hv,rfl,hS⟩;(repeat (first|refine' Q6|refine' Q8|refine fun _=>?_));refine' Qe;refine .inr ⟨_,rfl,?_⟩;exact AH) (h:=?_);rintro u1 w2 ⟨v,hv,rfl,hS⟩;refine' Li;refine KH (c:=SA Jo (show St cx _ (mL p c fr g.nx _) from hS.sp)) (p:=by rintro u9 w9 ⟨hnn,rfl,hS⟩;(repeat (first|refine' Q6|refine' Q8|refine fun _=>?_));refine' Qe;refine .inr ⟨_,rfl,?_⟩;exact AZ) (h:=?_);rintro u1 w2 ⟨n,hnn,rfl,hS⟩;refine' Ly;refine' Lg (c:=cT (N:=N) (s:=h) (h:=c.hp) v n hS fd);rintro v1 w1 ⟨rfl,hS⟩;unfold Val.v Val.cells;refine' Mu;refine' RP;refine' Lp;refine Kt hS ?_;intro w1 hS;have hS:=hS.ns;refine' Ly;refine' WQ;refine' KP;refine' Ud;refine MG (c:=fZ (x:=x) hx Jo (show St cx _ (mL p c fr g.nx _) from hS.sp)) (p:=by rintro u9 w9 ⟨he,hS⟩;(repeat (first|refine' Q6|refine' Q8|refine fun _=>?_));refine' Qe;refine .inr ⟨_,rfl,?_⟩;rcases he with ⟨e0,rfl⟩|⟨⟨v3,hv3,hk4⟩,e0,rfl⟩;exact Bd;obtain rfl:v=v3:=Fm (hv.symm.trans hv3);exact Bc) (h:=?_);rintro u1 w1 ⟨⟨v3,hv3,hk4⟩,e0,rfl,hS⟩;obtain rfl:v=v3:=Fm (hv.symm.trans hv3);refine' Ss;refine K8 hS [_,_,_,_] ?_;intro b1 w1 hS;have hS:=Gh (T:=224) (es:=4) (css:=[(h.get v n).1].map Val.cells) hS rfl Dm rfl;have hS:St cx _ (mL p c fr g.nx (sl 224 4 (.slice (some ⟨b1,0,none⟩) 1 1) ([(h.get v n).1].map Val.cells)::Mr (N) c.hp (h)::sl 2 1 c.ov (QK out)::blk p3 84 [.int .i64 x.op, .int .i64 x.a, .int .i64 x.b, .int .i64 x.c, .int .i64 x.k, .int .i64 x.n,vr,va]::L)):=hS.sp;refine' Kr (c:=Rb (j:=0) Jo Dk hS rfl);rintro u1 w1 ⟨tv,rfl,hS⟩;refine' zn;have hG:Mm p c N fu ((Km h g.nx fr inp out fu).ins m x) cx L (.tuple #[]) w1:=⟨c.lv,c.iv,c.ov,fr,g.nx.push tv [(h.get v n).1],N,h,inp,out,hX.trans ((Q5 hv).trans ((Q5 hnn).trans (ga hk4 e0))),hi,Jo,rfl,hS.sp⟩;refine' LJ;exact Aw)
                                  | (refine' Kk
                                     (refine' Kv;first|(refine' Ql)|(refine' Qp)|(refine' Ac<;>intro hc));all_goals (refine' KA)
                                     all_goals
                                      first
                                      | (refine' Ki;refine QA ?_;have hX:=YA (m:=m) (s:=Km h g.nx fr inp out fu) (x:=x) Jo;refine zC [(0,none),(1,none),(2,none),(3,none),(4,none),(5,none),(6,none),(8,none),(9,none),(10,none),(12,none),(13,none),(14,none),(7,some (some [3,10,14])),(11,some (some [3,14])),(15,some (some [3])),(16,some (some [3])),(17,some none),(18,some none)] ?_;have hS:=hS.drew;refine' Uh;refine' Rq;refine' NS;refine KH (c:=OE Jo (show St cx _ (mL p c fr g.nx _) from hS.sp)) (p:=by rintro u9 w9 ⟨hv,rfl,hS⟩;(repeat (first|refine' Q6|refine' Q8|refine fun _=>?_));refine' Qe;refine .inr ⟨_,rfl,?_⟩;exact AH) (h:=?_);rintro u1 w2 ⟨v,hv,rfl,hS⟩;refine' Li;refine KH (c:=SA Jo (show St cx _ (mL p c fr g.nx _) from hS.sp)) (p:=by rintro u9 w9 ⟨hnn,rfl,hS⟩;(repeat (first|refine' Q6|refine' Q8|refine fun _=>?_));refine' Qe;refine .inr ⟨_,rfl,?_⟩;exact AZ) (h:=?_);rintro u1 w2 ⟨n,hnn,rfl,hS⟩;refine' Li;refine KH (c:=SA Jo (show St cx _ (mL p c fr g.nx _) from hS.sp)) (p:=by rintro u9 w9 ⟨hyy,rfl,hS⟩;(repeat (first|refine' Q6|refine' Q8|refine fun _=>?_));refine' Qe;refine .inr ⟨_,rfl,?_⟩;exact .inl ⟨hX.trans ((Q5 hv).trans ((Q5 hnn).trans (Ru hyy))),rfl,hS.sp⟩) (h:=?_);rintro u1 w2 ⟨y,hyy,rfl,hS⟩;refine' Li;refine' KE (c:=jB hS);rintro v1 w1 ⟨rfl,hS⟩;refine' Ly;refine' Ny (c:=U0 (N:=N) (s:=h) (h:=c.hp) v n (K4 y) hS fd);rintro v1 w1 ⟨rfl,hS⟩;have hS:=hS.ns;refine' XY;refine' OT;refine' zm;refine MG (c:=fZ (x:=x) hx Jo (show St cx _ (mL p c fr g.nx _) from hS.sp)) (p:=by rintro u9 w9 ⟨he,hS⟩;(repeat (first|refine' Q6|refine' Q8|refine fun _=>?_));refine' Qe;refine .inr ⟨_,rfl,?_⟩;rcases he with ⟨e0,rfl⟩|⟨⟨v3,hv3,hk4⟩,e0,rfl⟩;exact .inl ⟨hX.trans ((Q5 hv).trans ((Q5 hnn).trans ((Q5 hyy).trans (pt (e0 v hv))))),rfl,hS.sp⟩;(obtain rfl:v=v3:=Fm (hv.symm.trans hv3);rw [Yu Jo] at hS;exact .inr ⟨2,hX.trans ((Q5 hv).trans ((Q5 hnn).trans ((Q5 hyy).trans (pr hk4 e0)))),rfl,fr,g.nx,N,Jo,hS.sp⟩)) (h:=?_);rintro u1 w1 ⟨⟨v3,hv3,hk4⟩,e0,rfl,hS⟩;obtain rfl:v=v3:=Fm (hv.symm.trans hv3);refine' zn;have hG:Mm p c N fu ((Km h g.nx fr inp out fu).ins m x) cx L (.tuple #[]) w1:=⟨c.lv,c.iv,c.ov,fr,g.nx,N,h.set v n (K4 y),inp,out,hX.trans ((Q5 hv).trans ((Q5 hnn).trans ((Q5 hyy).trans (ga hk4 e0)))),hi,Jo,rfl,hS.sp⟩)
                                      | (refine' Kk
                                         (refine' Kv;first|(refine' Ql)|(refine' Qp)|(refine' Ac<;>intro hc));all_goals (refine' KA)
                                         all_goals
                                          first
                                          | (refine' Ki;refine QA ?_;have hX:=YB (m:=m) (s:=Km h g.nx fr inp out fu) (x:=x) Jo;refine zC [(0,none),(1,none),(2,none),(3,none),(4,none),(5,none),(6,none),(7,some (some [3])),(8,some none),(9,none),(10,none),(11,none),(12,none),(13,some none)] ?_;have hS:=hS.drew;refine' Pk;refine' NS;refine KH (c:=OE Jo (show St cx _ (mL p c fr g.nx _) from hS.sp)) (p:=by rintro u9 w9 ⟨hv,rfl,hS⟩;(repeat (first|refine' Q6|refine' Q8|refine fun _=>?_));refine' Qe;refine .inr ⟨_,rfl,?_⟩;exact AH) (h:=?_);rintro u1 w2 ⟨v,hv,rfl,hS⟩;refine' Ly;refine' Kr (c:=cS (N:=N) (s:=h) (h:=c.hp) v hS fd);rintro v1 w1 ⟨rfl,hS⟩;refine' Mu;refine' bL;refine' bL;refine' zm;refine' WU;refine' Ud;refine MG (c:=fZ (x:=x) hx Jo (show St cx _ (mL p c fr g.nx _) from hS.sp)) (p:=by rintro u9 w9 ⟨he,hS⟩;(repeat (first|refine' Q6|refine' Q8|refine fun _=>?_));refine' Qe;refine .inr ⟨_,rfl,?_⟩;rcases he with ⟨e0,rfl⟩|⟨⟨v3,hv3,hk4⟩,e0,rfl⟩;exact .inl ⟨hX.trans ((Q5 hv).trans (pt (e0 v hv))),rfl,hS.sp⟩;(obtain rfl:v=v3:=Fm (hv.symm.trans hv3);exact .inr ⟨2,hX.trans ((Q5 hv).trans (pr hk4 e0)),rfl,fr,g.nx,N,Jo,hS.sp⟩)) (h:=?_);rintro u1 w1 ⟨⟨v3,hv3,hk4⟩,e0,rfl,hS⟩;obtain rfl:v=v3:=Fm (hv.symm.trans hv3);refine' Ul;refine' KE (c:=jB hS);rintro v1 w1 ⟨rfl,hS⟩;unfold Val.v Val.cells;refine K8 hS [_,_,_,_] ?_;intro b1 w1 hS;have hS:=Gh (T:=224) (es:=4) (css:=[K4 (h.len v).1].map Val.cells) hS rfl Dm rfl;have hS:St cx _ (mL p c fr g.nx (sl 224 4 (.slice (some ⟨b1,0,none⟩) 1 1) ([K4 (h.len v).1].map Val.cells)::Mr (N) c.hp (h)::sl 2 1 c.ov (QK out)::blk p3 84 [.int .i64 x.op, .int .i64 x.a, .int .i64 x.b, .int .i64 x.c, .int .i64 x.k, .int .i64 x.n,vr,va]::L)):=hS.sp;refine' Kr (c:=Rb (j:=0) Jo Dk hS rfl);rintro u1 w1 ⟨tv,rfl,hS⟩;refine' zn;have hG:Mm p c N fu ((Km h g.nx fr inp out fu).ins m x) cx L (.tuple #[]) w1:=⟨c.lv,c.iv,c.ov,fr,g.nx.push tv [K4 (h.len v).1],N,h,inp,out,hX.trans ((Q5 hv).trans (ga hk4 e0)),hi,Jo,rfl,hS.sp⟩)
                                          | (refine' Kk
                                             (refine' Kv;first|(refine' Ql)|(refine' Qp)|(refine' Ac<;>intro hc));all_goals (refine' KA)
                                             all_goals
                                              first
                                              | (refine' Ki;(refine QA ?_;have hX:=YC (m:=m) (s:=Km h g.nx fr inp out fu) (x:=x) Jo;obtain ⟨av,nv,hiv⟩:=Fx hi;refine' So;refine iy vw hi ?_;first|(refine' Ql)|(refine' Qp)|(refine' Ac<;>intro hc));(all_goals (first|(refine' Kr (c:=U3 hS);rintro v1 w1 ⟨rfl,hS⟩)|(refine KH (c:=U4 hS) (p:=by rintro v9 w9 ⟨rfl,hS⟩;(repeat (first|refine' Q6|refine' Q8|refine fun _=>?_));refine' Qe;refine .inr ⟨_,rfl,?_⟩;first|(first|exact CX|exact .inr ⟨4,hX.trans (pA (GI.1 (by show inp.length=0;omega))),rfl,fr,g.nx,N,Jo,hS.sp⟩)) (h:=fun _ _ h=>h.elim))));refine' L5;obtain ⟨n0,r0,hir⟩:∃n0 r0,inp=n0::r0:=IL Jo;refine' MZ;refine' Mf;refine TY (m:=0) vw rfl hi rfl Jo ?_;intro b8 o8 cs8 x8 hat8 hx8 he8;rw [hir,FQ] at hx8;cases hx8;obtain rfl:=QG he8;refine' N0;refine' KE (c:=jB hS);rintro v1 w1 ⟨rfl,hS⟩;unfold Val.v Val.cells;refine K8 hS [_,_,_,_] ?_;intro b1 w1 hS;have hS:=Gh (T:=224) (es:=4) (css:=[K4 n0].map Val.cells) hS rfl Dm rfl;have hS:St cx _ (mL p c fr g.nx (sl 224 4 (.slice (some ⟨b1,0,none⟩) 1 1) ([K4 n0].map Val.cells)::Mr (N) c.hp (h)::sl 2 1 c.ov (QK out)::blk p3 84 [.int .i64 x.op, .int .i64 x.a, .int .i64 x.b, .int .i64 x.c, .int .i64 x.k, .int .i64 x.n,vr,va]::L)):=hS.sp;refine' Kr (c:=Rb (j:=0) Jo Dk hS rfl);rintro u1 w1 ⟨tv,rfl,hS⟩;refine' Ul;refine' Mf;refine iz (l':=1) (h':=inp.length) vw hi rfl rfl rfl ⟨_,rfl⟩ Jo Jo ?_;intro v7 hk7;have hk7:Kh.sl cx v7 r0:=(by rw [hir] at hk7;simpa using hk7);obtain ⟨a7,n7,rfl⟩:=Fx hk7;refine' Lh;refine LU hS ?_;intro w1 hS;have hS:=hS.ns;refine' zn;have hG:Mm p c N fu ((Km h g.nx fr inp out fu).ins m x) cx L (.tuple #[]) w1:=⟨c.lv,_,c.ov,fr,g.nx.push tv [K4 n0],N,h,r0,out,hX.trans (pB hir),hk7,Jo,rfl,hS.sp⟩)
                                              | (refine' Kk
                                                 (refine' Kv;first|(refine' Ql)|(refine' Qp)|(refine' Ac<;>intro hc));all_goals (refine' KA)
                                                 all_goals
                                                  first
                                                  | (refine' Ki;(refine QA ?_;have hX:=YD (m:=m) (s:=Km h g.nx fr inp out fu) (x:=x) Jo;refine' NP;refine KH (c:=SA Jo (show St cx _ (mL p c fr g.nx _) from hS.sp)) (p:=by rintro u9 w9 ⟨hnn,rfl,hS⟩;(repeat (first|refine' Q6|refine' Q8|refine fun _=>?_));refine' Qe;refine .inr ⟨_,rfl,?_⟩;exact .inl ⟨hX.trans (Ru hnn),rfl,hS.sp⟩) (h:=?_);rintro u1 w2 ⟨n,hnn,rfl,hS⟩;refine' L6;refine' PN;refine QL (n:=out.length) hS vw fd (Fb _) ?_;first|(refine' Ql)|(refine' Qp)|(refine' Ac<;>intro hc));(all_goals (first|(refine' Kr (c:=U3 hS);rintro v1 w1 ⟨rfl,hS⟩)|(refine KH (c:=U4 hS) (p:=by rintro v9 w9 ⟨rfl,hS⟩;(repeat (first|refine' Q6|refine' Q8|refine fun _=>?_));refine' Qe;refine .inr ⟨_,rfl,?_⟩;first|(exact CX)) (h:=fun _ _ h=>h.elim))));refine' Ul;refine' PN;refine' zm;refine K8 hS [_] ?_;intro b1 w1 hS;refine NL S7 (.inl WZ) hS vw vw (v:=c.ov) (css:=QK out) fd (hS.srcB fd Jr Dl) Du ?_;intro v7 w7 hS;have hS:=hS.ns;have ho7:=hS.oneC (v:=v7) (css:=QK out++[[.int .i64 n]]) fd;rw [QfP] at hS;refine' SV;refine LU hS ?_;intro w1 hS;have hS:=hS.ns;refine' zn;have hG:Mm p c N fu ((Km h g.nx fr inp out fu).ins m x) cx L (.tuple #[]) w1:=⟨c.lv,c.iv,v7,fr,g.nx,N,h,inp,out++[n],hX.trans ((Q5 hnn).trans (jN (by show out.length≠2000;omega))),hi,Jo,rfl,hS.sp⟩)
                                                  | (refine' Kk
                                                     refine' Kv;refine' XZ
                                                     all_goals
                                                      first
                                                      | (refine' Ki;have hX:=YE (m:=m) (s:=Km h g.nx fr inp out fu) (x:=x) Jo;rw [hX];obtain ⟨hk0,hk1⟩:=hk Jo;refine' OT;refine KH (c:=cZ (inp:=inp) (fu:=fu) (x:=x) hx hfn hi hk0 hk1 h6 h8 Jo hS) (p:=by rintro u9 w9 hB;(repeat (first|refine' Q6|refine' Q8|refine fun _=>?_));refine' Qe;refine .inr ⟨_,rfl,?_⟩;exact hB.drop) (h:=?_);rintro u1 w1 hG;refine' zn;have hG:=hG.drop;obtain ⟨rfl,hG⟩:=hG.tup)))))
                                     all_goals (refine' LJ;exact Aw))))))))))
end
section
variable {cx:Cx}{w:World}{L:List Res}
theorem jO (f:Nat)(hf:f≤1000000)(hS:St cx w L):Kf Tryz.prog Ur [.int .i64 f] w fun u w'=>u= .int .i64 (Pp f)∧St cx w' L:=by
 unfold Pp;refine Kq Ko Tryz.func66 ?_;refine' Nk;refine' OR;refine' MX;refine' La;(refine ⟨_,rfl,?_,hS.sp⟩;(exact Ak);done)
theorem Qhs (f:Nat)(hf:f≤1000000)(hS:St cx w L):Kf Tryz.prog yv [.int .i64 f] w fun u w'=>u= .int .i64 (Pp f)∧St cx w' L:=by
 unfold Pp;refine Kq Ko Tryz.func104 ?_;refine' Nk;refine' OR;refine' MX;refine' La;(((refine ⟨_,rfl,?_,hS.sp⟩;(rfl);done)))
theorem lV (f b:Nat)(hf:f≤1000000)(hb:b≤1000000)(hS:St cx w L):Kf Tryz.prog yC [.int .i64 f, .int .i64 b] w fun u w'=>u= .int .i64 (Sx f b)∧St cx w' L:=by
 unfold Sx;refine Kq Ko Tryz.func113 ?_;refine' Nk;refine' OR;refine' zm;refine' OR;refine' MX;refine' MX;refine' La;(refine ⟨_,rfl,?_,hS.sp⟩;(exact Ak);done)
theorem QfF (f b:Nat)(hf:f≤1000000)(hb:b≤1000000)(hS:St cx w L):Kf Tryz.prog yW [.int .i64 f, .int .i64 b] w fun u w'=>u= .int .i64 (Sx f b)∧St cx w' L:=by
 unfold Sx;refine Kq Ko Tryz.func161 ?_;refine' Nk;refine' OR;refine' zm;refine' OR;refine' MX;refine' MX;refine' La;(((refine ⟨_,rfl,?_,hS.sp⟩;(rfl);done)))
theorem tG (f b:Nat)(hf:f≤1000000)(hb:b≤1000000)(hS:St cx w L):Kf Tryz.prog X3 [.int .i64 f, .int .i64 b] w fun u w'=>u= .int .i64 (PT f b)∧St cx w' L:=by
 unfold PT;refine Kq Ko Tryz.func57 ?_;refine' Nk;refine' OR;refine' zm;refine' OR;refine' MX;refine' MX;refine' La;(refine ⟨_,rfl,?_,hS.sp⟩;(exact Ak);done)
theorem pC (f b:Nat)(hf:f≤1000000)(hb:b≤1000000)(hS:St cx w L):Kf Tryz.prog yF [.int .i64 f, .int .i64 b] w fun u w'=>u= .int .i64 (PT f b)∧St cx w' L:=by
 unfold PT;refine Kq Ko Tryz.func116 ?_;refine' Nk;refine' OR;refine' zm;refine' OR;refine' MX;refine' MX;refine' La;(((refine ⟨_,rfl,?_,hS.sp⟩;(rfl);done)))
theorem tH (f b i:Nat)(hf:f≤1000000)(hb:b≤1000000)(hi:i≤1000000)(hS:St cx w L):Kf Tryz.prog X2 [.int .i64 f, .int .i64 b, .int .i64 i] w fun u w'=>u= .int .i64 (O2 f b i)∧St cx w' L:=by
 unfold O2;refine Kq Ko Tryz.func55 ?_;refine' Nk;refine' OR;refine' zm;refine' OR;refine' MX;refine' zm;refine' MX;refine' La;(refine ⟨_,rfl,?_,hS.sp⟩;(exact Ak);done)
theorem pD (f b i:Nat)(hf:f≤1000000)(hb:b≤1000000)(hi:i≤1000000)(hS:St cx w L):Kf Tryz.prog yE [.int .i64 f, .int .i64 b, .int .i64 i] w fun u w'=>u= .int .i64 (O2 f b i)∧St cx w' L:=by
 unfold O2;refine Kq Ko Tryz.func115 ?_;refine' Nk;refine' OR;refine' zm;refine' OR;refine' MX;refine' zm;refine' MX;refine' La;(((refine ⟨_,rfl,?_,hS.sp⟩;(rfl);done)))
theorem M5 {c a:Int}(hS:St cx w L):Kf Tryz.prog xV [.int .i64 c, .int .i64 a] w fun u w'=>u= .agg ⟨[.int .i64 c, .int .i64 a]⟩∧St cx w' L:=by
 refine Kq Ko Tryz.func52 ?_;refine' OU;(intro p4 w1 hS);refine' Uj;refine M9 [_,_] ?_;((refine Kt hS ?_;intro w1 hS;have hS:=hS.ns));refine' Lz;refine LF vw (Q2 (n:=2) Jk Jk (hS.blkAt fd) Jr Jr) ?_;(((refine ⟨_,rfl,?_,hS.sp⟩;(rfl);done)))
theorem pE {l:List Ty}{regs:Int}{v:Value}(hl:Ku.sl cx v l)(hS:St cx w L):Kf Tryz.prog yb [v, .int .i64 regs] w fun u w'=>u= .int .i64 (Qy l regs)∧St cx w' L:=by
 (have hlen:=hl.len;unfold Qy;refine Kq Ko Tryz.func67 ?_;refine' Mq;refine' zL;first|(refine' QV)|(refine' QW)|(refine' Af<;>intro hc));all_goals (refine' zn)
 all_goals
  first
  | (refine' Ki;refine' KQ;((refine ⟨_,rfl,?_,hS.sp⟩;(rw [if_pos Jo]);done)))
  | (refine' Kk;refine' Kx)
 refine' NO;refine MB hS [0,1] (fun A LL ρ' w'=>∃(j:Nat),Kn ρ' A∧Kn ρ' [(5, .int .i64 j)]∧(j≤l.length)∧(Rs regs l=Rs regs (l.drop j))∧St cx w' (LL)) (fun ρ' _=>(l.length - iv (ρ' 5)).toNat) ?_ ?_
 · exact Ay
 rintro ρ w1 ⟨j,hA,hρ,hj,hd,hS⟩;obtain ⟨ρ,rfl⟩:=Kp hA hρ;refine' P7;refine' Ua;refine' Ab<;>intro hc
 · skip
   (refine' L4;refine' Lc;refine' zi;intro b1 o1 cs1 x1 hat1 hx1 he1;obtain ⟨vl1,rfl,hl1⟩:=Qf he1;refine' Oa;refine' zm;refine' Kr (c:=Qh1 Ja hS);rintro v1 w1 ⟨rfl,hS⟩;refine' L6;first|(refine' QO)|(refine' QU)|(refine' Ad<;>intro hc));all_goals (refine' zn)
   all_goals
    first
    | (refine' Ki;refine' SX;first|(refine ⟨_,rfl,?_,hS.sp⟩;rw [if_pos Jo];done)|(refine ⟨_,rfl,?_,hS.sp⟩;rw [if_neg Jo,hd,Q1 hx1,Rs,PW Ja];done))
    | (refine' Kk;refine' Kx)
   refine' Mt;(exact ⟨⟨j+1,zh,zh,Jo,by rw [hd,Q1 hx1,Rs,show x1.fault regs=0 by omega,Pr],hS.sp⟩,Qj Jo⟩)
 · skip;refine' Pm;(first|(refine ⟨_,rfl,?_,hS.sp⟩;rw [if_pos Jo];done)|(refine ⟨_,rfl,?_,hS.sp⟩;rw [if_neg Jo,hd,Q1 hx1,Rs,PW Ja];done)|(refine ⟨_,rfl,?_,hS.sp⟩;rw [if_neg Jo,hd,Fh Jo,Rs];done))
theorem Ve {op : Int}(hS :St cx w L):Kf Tryz.prog yR [.int .i64 op] w fun u w'=>u= .tuple #[.agg ⟨[.bool (fA op), .bool (fB op), .bool (fC op), .bool (fK op), .bool (fN op), .bool (fG op), .bool (fR op)]⟩, .bool (decide (1≤op∧op≤14))]∧St cx w' L:=by
 have hbad:(op<1∨14<op)→fA op=false∧fB op=false∧fC op=false∧fK op=false∧fN op=false∧fG op=false∧fR op=false∧decide (1≤op∧op≤14)=false:=by
  intro h;refine ⟨?_,?_,?_,?_,?_,?_,?_,?_⟩<;>(first|unfold fA|unfold fB|unfold fC|unfold fK|unfold fN|unfold fG|unfold fR|skip)<;>rw [decide_eq_false_iff_not]<;>omega
 by_cases hb:op<1∨14<op
 · obtain ⟨h1, h2, h3, h4, h5, h6, h7, h8⟩:=hbad hb
   rw [h1,h2,h3,h4,h5,h6,h7,h8];clear hbad h1 h2 h3 h4 h5 h6 h7 h8;refine Kq Ko Tryz.func150 ?_;refine' OU;(intro p2 w1 hS);refine' Ms;refine' SU;refine' OM
   all_goals
    first
    | (refine' Ki;all_goals (refine' Kv;refine Pg [_,_,_,_,_,_,_] ?_;refine Kt hS ?_;intro w1 hS;have hS:=hS.ns;refine' Mo;refine QY vw (Q2 (n:=7) Jk Jk (hS.blkAt fd) Jr Jr) vw ?_);all_goals (refine ⟨_,rfl,?_,hS.sp⟩;(rfl);done))
    | (refine' Kk
       refine QA ?_;refine' OM
       all_goals
        first
        | (refine' Ki;all_goals refine' Kx)
        | (refine' Kk;refine' LS;refine' S6;refine' zn)
       all_goals
        first
        | (refine' Ki;all_goals (refine' Kv;refine Ph [_,_,_,_,_,_,_] ?_;refine Kt hS ?_;intro w1 hS;have hS:=hS.ns;refine' Mo;refine QY vw (Q2 (n:=7) Jk Jk (hS.blkAt fd) Jr Jr) vw ?_);all_goals (refine ⟨_,rfl,?_,hS.sp⟩;(rfl);done))
        | (refine' Kk
           refine QA ?_;refine' OM
           all_goals
            first
            | (refine' Ki;all_goals refine' Kx)
            | (refine' Kk;refine' LS;refine' S6;refine' zn)
           all_goals
            first
            | (refine' Ki;all_goals (refine' Kv;refine L0 [_,_,_,_,_,_,_] ?_;refine Kt hS ?_;intro w1 hS;have hS:=hS.ns;refine' Mo;refine QY vw (Q2 (n:=7) Jk Jk (hS.blkAt fd) Jr Jr) vw ?_);all_goals (refine ⟨_,rfl,?_,hS.sp⟩;(rfl);done))
            | (refine' Kk
               refine QA ?_;refine' OM
               all_goals
                first
                | (refine' Ki;all_goals refine' Kx)
                | (refine' Kk
                   refine' OM
                   all_goals
                    first
                    | (refine' Ki;all_goals refine' Kx)
                    | (refine' Kk;refine' LS;refine' S6;refine' zn))
               all_goals
                first
                | (refine' Ki;all_goals (refine' Kv;refine Pg [_,_,_,_,_,_,_] ?_;refine Kt hS ?_;intro w1 hS;have hS:=hS.ns;refine' Mo;refine QY vw (Q2 (n:=7) Jk Jk (hS.blkAt fd) Jr Jr) vw ?_);all_goals (refine ⟨_,rfl,?_,hS.sp⟩;(rfl);done))
                | (refine' Kk
                   refine' OM
                   all_goals
                    first
                    | (refine' Ki;all_goals (refine' Kv;refine M9 [_,_,_,_,_,_,_] ?_;refine Kt hS ?_;intro w1 hS;have hS:=hS.ns;refine' Mo;refine QY vw (Q2 (n:=7) Jk Jk (hS.blkAt fd) Jr Jr) vw ?_);all_goals (refine ⟨_,rfl,?_,hS.sp⟩;(rfl);done))
                    | (refine' Kk
                       refine' OM
                       all_goals
                        first
                        | (refine' Ki;all_goals (refine' Kv;refine M9 [_,_,_,_,_,_,_] ?_;refine Kt hS ?_;intro w1 hS;have hS:=hS.ns;refine' Mo;refine QY vw (Q2 (n:=7) Jk Jk (hS.blkAt fd) Jr Jr) vw ?_);all_goals (refine ⟨_,rfl,?_,hS.sp⟩;(rfl);done))
                        | (refine' Kk
                           refine QA ?_;refine' OM
                           all_goals
                            first
                            | (refine' Ki;all_goals refine' Kx)
                            | (refine' Kk;refine' LS;refine' S6;refine' zn)
                           all_goals
                            first
                            | (refine' Ki;all_goals (refine' Kv;refine M9 [_,_,_,_,_,_,_] ?_;refine Kt hS ?_;intro w1 hS;have hS:=hS.ns;refine' Mo;refine QY vw (Q2 (n:=7) Jk Jk (hS.blkAt fd) Jr Jr) vw ?_);all_goals (refine ⟨_,rfl,?_,hS.sp⟩;(rfl);done))
                            | (refine' Kk
                               refine' OM
                               all_goals
                                first
                                | (refine' Ki;all_goals (refine' Kv;refine Ph [_,_,_,_,_,_,_] ?_;refine Kt hS ?_;intro w1 hS;have hS:=hS.ns;refine' Mo;refine QY vw (Q2 (n:=7) Jk Jk (hS.blkAt fd) Jr Jr) vw ?_);all_goals (refine ⟨_,rfl,?_,hS.sp⟩;(rfl);done))
                                | (refine' Kk
                                   refine' OM
                                   all_goals
                                    first
                                    | (refine' Ki;all_goals (refine' Kv;refine Ph [_,_,_,_,_,_,_] ?_;refine Kt hS ?_;intro w1 hS;have hS:=hS.ns;refine' Mo;refine QY vw (Q2 (n:=7) Jk Jk (hS.blkAt fd) Jr Jr) vw ?_);all_goals (refine ⟨_,rfl,?_,hS.sp⟩;(rfl);done))
                                    | (refine' Kk;refine' Kx)))))))))
   refine' Kv;refine L0 [_,_,_,_,_,_,_] ?_;refine Kt hS ?_;intro w1 hS;have hS:=hS.ns;refine' Mo;refine QY vw (Q2 (n:=7) Jk Jk (hS.blkAt fd) Jr Jr) vw ?_;(refine ⟨_,rfl,?_,hS.sp⟩;(rfl);done)
 · clear hbad
   rcases LA (op:=op) Jo Jo with rfl|rfl|rfl|rfl|rfl|rfl|rfl|rfl|rfl|rfl|rfl|rfl|rfl|rfl
   all_goals (clear hb;refine Kq Ko Tryz.func150 ?_;skip;refine' OU;intro p2 w1 hS;refine' Ms;refine' SU;refine' OM)
   all_goals
    first
    | (refine' Ki;refine' Kv;refine Pg [_,_,_,_,_,_,_] ?_;refine Kt hS ?_;intro w1 hS;have hS:=hS.ns;refine' Mo;refine QY vw (Q2 (n:=7) Jk Jk (hS.blkAt fd) Jr Jr) vw ?_;((refine ⟨_,rfl,?_,hS.sp⟩;(rfl);done)))
    | (refine' Kk
       all_goals (refine QA ?_;refine' OM)
       all_goals
        first
        | (refine' Ki;refine' Kx)
        | (refine' Kk;all_goals (refine' LS;refine' S6);all_goals refine' zn)
       all_goals
        first
        | (refine' Ki;all_goals (refine' Kv;refine Ph [_,_,_,_,_,_,_] ?_;refine Kt hS ?_;intro w1 hS;have hS:=hS.ns;refine' Mo;refine QY vw (Q2 (n:=7) Jk Jk (hS.blkAt fd) Jr Jr) vw ?_);all_goals (refine ⟨_,rfl,?_,hS.sp⟩;(rfl);done))
        | (refine' Kk
           all_goals (refine QA ?_;refine' OM)
           all_goals
            first
            | (refine' Ki;refine' Kx)
            | (refine' Kk;all_goals (refine' LS;refine' S6);all_goals refine' zn)
           all_goals
            first
            | (refine' Ki;all_goals (refine' Kv;refine L0 [_,_,_,_,_,_,_] ?_;refine Kt hS ?_;intro w1 hS;have hS:=hS.ns;refine' Mo;refine QY vw (Q2 (n:=7) Jk Jk (hS.blkAt fd) Jr Jr) vw ?_);all_goals (refine ⟨_,rfl,?_,hS.sp⟩;(rfl);done))
            | (refine' Kk
               all_goals (refine QA ?_;refine' OM)
               all_goals
                first
                | (refine' Ki;refine' Kx)
                | (refine' Kk
                   all_goals (refine' OM)
                   all_goals
                    first
                    | (refine' Ki;refine' Kx)
                    | (refine' Kk;all_goals (refine' LS;refine' S6);all_goals refine' zn))
               all_goals
                first
                | (refine' Ki;all_goals (refine' Kv;refine Pg [_,_,_,_,_,_,_] ?_;refine Kt hS ?_;intro w1 hS;have hS:=hS.ns;refine' Mo;refine QY vw (Q2 (n:=7) Jk Jk (hS.blkAt fd) Jr Jr) vw ?_);all_goals (refine ⟨_,rfl,?_,hS.sp⟩;(rfl);done))
                | (refine' Kk
                   all_goals (refine' OM)
                   all_goals
                    first
                    | (refine' Ki;refine' Kv;refine M9 [_,_,_,_,_,_,_] ?_;refine Kt hS ?_;intro w1 hS;have hS:=hS.ns;refine' Mo;refine QY vw (Q2 (n:=7) Jk Jk (hS.blkAt fd) Jr Jr) vw ?_;((refine ⟨_,rfl,?_,hS.sp⟩;(rfl);done)))
                    | (refine' Kk
                       all_goals (refine' OM)
                       all_goals
                        first
                        | (refine' Ki;refine' Kv;refine M9 [_,_,_,_,_,_,_] ?_;refine Kt hS ?_;intro w1 hS;have hS:=hS.ns;refine' Mo;refine QY vw (Q2 (n:=7) Jk Jk (hS.blkAt fd) Jr Jr) vw ?_;((refine ⟨_,rfl,?_,hS.sp⟩;(rfl);done)))
                        | (refine' Kk
                           all_goals (refine QA ?_;refine' OM)
                           all_goals
                            first
                            | (refine' Ki;refine' Kx)
                            | (refine' Kk;all_goals (refine' LS;refine' S6);all_goals refine' zn)
                           all_goals
                            first
                            | (refine' Ki;all_goals (refine' Kv;refine M9 [_,_,_,_,_,_,_] ?_;refine Kt hS ?_;intro w1 hS;have hS:=hS.ns;refine' Mo;refine QY vw (Q2 (n:=7) Jk Jk (hS.blkAt fd) Jr Jr) vw ?_);all_goals (refine ⟨_,rfl,?_,hS.sp⟩;(rfl);done))
                            | (refine' Kk
                               all_goals (refine' OM)
                               all_goals
                                first
                                | (refine' Ki;refine' Kv;refine Ph [_,_,_,_,_,_,_] ?_;refine Kt hS ?_;intro w1 hS;have hS:=hS.ns;refine' Mo;refine QY vw (Q2 (n:=7) Jk Jk (hS.blkAt fd) Jr Jr) vw ?_;((refine ⟨_,rfl,?_,hS.sp⟩;(rfl);done)))
                                | (refine' Kk
                                   refine' Kv;refine' XZ
                                   all_goals
                                    first
                                    | (refine' Ki;refine' Kv;refine Ph [_,_,_,_,_,_,_] ?_;refine Kt hS ?_;intro w1 hS;have hS:=hS.ns;refine' Mo;refine QY vw (Q2 (n:=7) Jk Jk (hS.blkAt fd) Jr Jr) vw ?_;((refine ⟨_,rfl,?_,hS.sp⟩;(rfl);done)))))))))))
   all_goals (refine' Kv;refine L0 [_,_,_,_,_,_,_] ?_;refine Kt hS ?_;intro w1 hS;have hS:=hS.ns;refine' Mo;refine QY vw (Q2 (n:=7) Jk Jk (hS.blkAt fd) Jr Jr) vw ?_;refine ⟨_,rfl,?_,hS.sp⟩;(rfl);done)
theorem Vf {ds:List Value}(hm:Ls.at cx cs m)(hx:Lb.at cx ds x)(hS:St cx w L):Kf Tryz.prog ym [.agg ⟨cs⟩, .agg ⟨ds⟩] w fun u w'=>u= .int .i64 (Qx m.funcs.length x)∧St cx w' L:=by
 obtain ⟨vf,rfl,hf⟩:=NR hm;obtain ⟨vr,va,rfl,hr,ha⟩:=Nx hx;have hlr:=hr.len;have hla:=ha.len;have hln:=hf.len;unfold Qx;refine Kq Ko Tryz.func94 ?_;refine' KY;intro p2 w1 hS;refine zb hS ?_;intro p3 w1 hS;refine' KA;refine' Mn;refine' KE (c:=Ve hS);rintro v1 w1 ⟨rfl,hS⟩;refine' RT;(intro p5 w1 hS);((refine Kt hS ?_;intro w1 hS;have hS:=hS.ns));refine' KA;refine Sj hS [2,3,5] (fun A LL ρ' w'=>Kn ρ' A∧Kn ρ' []∧(1≤x.op∧x.op≤14)∧St cx w' (LL)) ?_ ?_
 · skip
   refine QA ?_;cases hop:decide (1≤x.op∧x.op≤14);all_goals (refine' LV;refine' Nv)
   all_goals
    first
    | (refine' Ki;refine' KQ;((refine ⟨_,rfl,?_,hS.sp⟩;(rw [if_pos Ee]);done)))
    | (refine' Kk;refine' Kx)
   ((exact ⟨zh,zh,by exact of_decide_eq_true hop,hS.sp⟩))
 rintro ρ w1 ⟨hA,hρ,hop,hS⟩;obtain ⟨ρ,rfl⟩:=Kp hA hρ;obtain ⟨a1,ha1⟩:∃b,fA x.op=b:=⟨_,rfl⟩;obtain ⟨a2,ha2⟩:∃b,fB x.op=b:=⟨_,rfl⟩;obtain ⟨a3,ha3⟩:∃b,fC x.op=b:=⟨_,rfl⟩;obtain ⟨a4,ha4⟩:∃b,fK x.op=b:=⟨_,rfl⟩;obtain ⟨a5,ha5⟩:∃b,fN x.op=b:=⟨_,rfl⟩;obtain ⟨a6,ha6⟩:∃b,fG x.op=b:=⟨_,rfl⟩;obtain ⟨a7,ha7⟩:∃b,fR x.op=b:=⟨_,rfl⟩;rw [ha1,ha2,ha3,ha4,ha5,ha6,ha7] at hS;refine Sj hS [2,3] (fun A LL ρ' w'=>Kn ρ' A∧Kn ρ' []∧(¬x.odd)∧St cx w' (LL)) ?_ ?_
 · skip
   refine' Kv;refine PF hS 8 [2,3,5] (fun A LL ρ' w'=>∃(q1:Bool),Kn ρ' A∧Kn ρ' [(22, .bool q1)]∧(q1=true↔(fA x.op=false∧x.a≠0))∧St cx w' (LL)) ?_ ?_
   · skip;refine' KZ;cases a1;all_goals (refine' PC;refine' Md;first|refine' Kj|(refine' Kl;(first|(refine' QO)|(refine' QU)|(refine' Ad<;>intro hc))));all_goals (refine' lI;first|(exact BY)|(exact Cn))
   rintro ρ w1 ⟨q1,hA,hρ,hq1,hS⟩;obtain ⟨ρ,rfl⟩:=Kp hA hρ;refine PF hS 10 [2,3,5] (fun A LL ρ' w'=>∃(q2:Bool),Kn ρ' A∧Kn ρ' [(32, .bool q2)]∧(q2=true↔((fA x.op=false∧x.a≠0)∨(fB x.op=false∧x.b≠0)))∧St cx w' (LL)) ?_ ?_
   · skip;cases q1;all_goals (refine' Md;cases a2);all_goals (refine' S3;first|refine' Kj|(refine' Kl;(first|(refine' QO)|(refine' QU)|(refine' Ad<;>intro hc))));all_goals (refine' RN;first|(exact C6)|(exact AE)|(exact Cf))
   rintro ρ w1 ⟨q2,hA,hρ,hq2,hS⟩;obtain ⟨ρ,rfl⟩:=Kp hA hρ;refine PF hS 10 [2,3,5] (fun A LL ρ' w'=>∃(q3:Bool),Kn ρ' A∧Kn ρ' [(42, .bool q3)]∧(q3=true↔(((fA x.op=false∧x.a≠0)∨(fB x.op=false∧x.b≠0))∨(fC x.op=false∧x.c≠0)))∧St cx w' (LL)) ?_ ?_
   · skip;cases q2;all_goals (refine' Md;cases a3);all_goals (refine' S3;first|refine' Kj|(refine' Kl;(first|(refine' QO)|(refine' QU)|(refine' Ad<;>intro hc))));all_goals (refine' RN;first|(exact Cr)|(exact AE)|(exact Ch))
   rintro ρ w1 ⟨q3,hA,hρ,hq3,hS⟩;obtain ⟨ρ,rfl⟩:=Kp hA hρ;refine PF hS 10 [2,3,5] (fun A LL ρ' w'=>∃(q4:Bool),Kn ρ' A∧Kn ρ' [(52, .bool q4)]∧(q4=true↔((((fA x.op=false∧x.a≠0)∨(fB x.op=false∧x.b≠0))∨(fC x.op=false∧x.c≠0))∨(fK x.op=false∧x.k≠0)))∧St cx w' (LL)) ?_ ?_
   · skip;cases q3;all_goals (refine' Md;cases a4);all_goals (refine' S3;first|refine' Kj|(refine' Kl;(first|(refine' QO)|(refine' QU)|(refine' Ad<;>intro hc))));all_goals (refine' RN;first|(exact Cz)|(exact AE)|(exact B1))
   rintro ρ w1 ⟨q4,hA,hρ,hq4,hS⟩;obtain ⟨ρ,rfl⟩:=Kp hA hρ;refine PF hS 10 [2,3,5] (fun A LL ρ' w'=>∃(q5:Bool),Kn ρ' A∧Kn ρ' [(62, .bool q5)]∧(q5=true↔(((((fA x.op=false∧x.a≠0)∨(fB x.op=false∧x.b≠0))∨(fC x.op=false∧x.c≠0))∨(fK x.op=false∧x.k≠0))∨(fN x.op=false∧x.n≠0)))∧St cx w' (LL)) ?_ ?_
   · skip;cases q4;all_goals (refine' Md;cases a5);all_goals (refine' S3;first|refine' Kj|(refine' Kl;(first|(refine' QO)|(refine' QU)|(refine' Ad<;>intro hc))));all_goals (refine' RN;first|(exact CA)|(exact AE)|(exact CV))
   rintro ρ w1 ⟨q5,hA,hρ,hq5,hS⟩;obtain ⟨ρ,rfl⟩:=Kp hA hρ;refine PF hS 11 [2,3,5] (fun A LL ρ' w'=>∃(q6:Bool),Kn ρ' A∧Kn ρ' [(73, .bool q6)]∧(q6=true↔((((((fA x.op=false∧x.a≠0)∨(fB x.op=false∧x.b≠0))∨(fC x.op=false∧x.c≠0))∨(fK x.op=false∧x.k≠0))∨(fN x.op=false∧x.n≠0))∨(fG x.op=false∧0<x.regs.length)))∧St cx w' (LL)) ?_ ?_
   · skip;cases q5;all_goals (refine' Md;cases a6);all_goals (refine' S3;refine' NM;first|refine' Kj|(refine' Kl;(first|(refine' QV)|(refine' QW)|(refine' Af<;>intro hc))));all_goals (refine' RN;first|(exact CP)|(exact AE)|(exact CT))
   ((rintro ρ w1 ⟨q6,hA,hρ,hq6,hS⟩;obtain ⟨ρ,rfl⟩:=Kp hA hρ;cases q6;all_goals (refine' Md;cases a7));all_goals (refine' S3;refine' NM;first|refine' Kj|(refine' Kl;(first|(refine' QV)|(refine' QW)|(refine' Af<;>intro hc)))));all_goals (refine' Z1;refine' Ll)
   all_goals
    first
    | (refine' Ki;all_goals (refine' KQ);all_goals (first|(refine ⟨_,rfl,?_,hS.sp⟩;rw [if_pos Ee];done)|(refine ⟨_,rfl,?_,hS.sp⟩;have ho:x.odd:=E0;rw [if_neg Jo,if_pos ho];done)))
    | (refine' Kk;all_goals refine' Kx)
   all_goals (exact ⟨zh,zh,by intro h;unfold Ins.odd at h;simp only [←or_assoc] at h;exact h.elim (fun h=>Bool.noConfusion (hq6.2 h)) (fun h=>by obtain ⟨h1,h2⟩:=h;first|(exfalso;omega)|(simp_all;done)),hS.sp⟩)
 (rintro ρ w1 ⟨hA,hρ,hodd,hS⟩;obtain ⟨ρ,rfl⟩:=Kp hA hρ;refine' Oe;clear hm hx;refine' Uc;refine' SZ;refine' Kv;first|(refine' Ql)|(refine' Qp)|(refine' Ac<;>intro hc));all_goals (refine' KA)
 all_goals
  first
  | (refine' Ki
     ((refine' Mn;first|(refine' KX)|(refine' K1)|(refine' Ae<;>intro hc));all_goals (refine' Md;first|refine' Kj|(refine' Kl;(first|(refine' QV)|(refine' QW)|(refine' Af<;>intro hc)))));all_goals (refine' Ll)
     all_goals
      first
      | (refine' Ki;all_goals (refine' KQ);all_goals (exact Ah))
      | (refine' Kk;refine' Kx))
  | (refine' Kk
     (refine' Kv;first|(refine' Ql)|(refine' Qp)|(refine' Ac<;>intro hc));all_goals (refine' KA)
     all_goals
      first
      | (refine' Ki
         (refine' WX;first|(refine' QV)|(refine' QW)|(refine' Af<;>intro hc));all_goals (refine' zn)
         all_goals
          first
          | (refine' Ki;refine' KQ;first|(refine ⟨_,rfl,?_,hS.sp⟩;rw [if_pos Ee];done)|(refine ⟨_,rfl,?_,hS.sp⟩;have ho:x.odd:=E0;rw [if_neg Jo,if_pos ho];done)|(refine ⟨_,rfl,?_,hS.sp⟩;rw [if_neg Jo,if_neg hodd];unfold Oj;(repeat (first|rw [if_pos Jo]|rw [if_neg Jo]));done))
          | (refine' Kk;refine' Kx))
      | (refine' Kk
         (refine QA ?_;refine' Kv;first|(refine' Ql)|(refine' Qp)|(refine' Ac<;>intro hc));all_goals (refine' KA)
         all_goals
          first
          | (refine' Ki;refine' Kx)
          | (refine' Kk;(refine' LS;first|(refine' Ql)|(refine' Qp)|(refine' Ac<;>intro hc));all_goals (refine' zm);all_goals refine' zn)
         all_goals
          first
          | (refine' Ki
             (all_goals (refine' Mn;first|(refine' KX)|(refine' K1)|(refine' Ae<;>intro hc));all_goals (refine' Md;first|refine' Kj|(refine' Kl;(first|(refine' QV)|(refine' QW)|(refine' Af<;>intro hc)))));all_goals (refine' Ll)
             all_goals
              first
              | (refine' Ki;all_goals (refine' KQ);all_goals (exact Ah))
              | (refine' Kk;all_goals refine' Kx))
          | (refine' Kk
             (refine' Kv;first|(refine' Ql)|(refine' Qp)|(refine' Ac<;>intro hc));all_goals (refine' KA)
             all_goals
              first
              | (refine' Ki
                 ((refine' NH;first|(refine' KX)|(refine' K1)|(refine' Ae<;>intro hc));all_goals (refine' S2;refine' NM;first|refine' Kj|(refine' Kl;(first|(refine' Ml)|(refine' MN)|(refine' Ag<;>intro hc)))));all_goals (refine' Ll)
                 all_goals
                  first
                  | (refine' Ki;all_goals (refine' KQ);all_goals (exact Ah))
                  | (refine' Kk;refine' Kx)
                 ((refine' WX;first|(refine' QV)|(refine' QW)|(refine' Af<;>intro hc));all_goals (refine' RM;first|refine' Kj|(refine' Kl;(first|(refine' QV)|(refine' QW)|(refine' Af<;>intro hc)))));all_goals (refine' Ll)
                 all_goals
                  first
                  | (refine' Ki;all_goals (refine' KQ);all_goals (exact Ah))
                  | (refine' Kk;refine' Kx))
              | (refine' Kk;refine' Kx))))
 all_goals (refine' KQ;(exact Ah))
end
end Go.Proofs.YteflkifmgnpbhaaGreat
namespace Go.Lir
theorem YG (hf:m.funcs[s.g.f]?=some f)(hb:f.blocks[s.g.b]?=some b)(h:s.g.i<b.code.length):s.place m=O2 s.g.f s.g.b s.g.i:=by
 unfold MS.place;simp only [hf,hb];exact if_pos h
theorem YH (hf:m.funcs[s.g.f]?=some f)(hb:f.blocks[s.g.b]?=some b)(h:¬s.g.i<b.code.length):s.place m=PT s.g.f s.g.b:=by
 unfold MS.place;simp only [hf,hb];exact if_neg h
theorem jP (hf:m.funcs[s.g.f]?=some f)(hb:f.blocks[s.g.b]?=some b)(h:b.code[s.g.i]?=some x):s.one m=s.next.ins m x:=by
 unfold MS.one;simp only [hf,hb,h]
theorem jQ (hf:m.funcs[s.g.f]?=some f)(hb:f.blocks[s.g.b]?=some b)(h:b.code.length≤s.g.i):s.one m=s.fin f b.fin:=by
 unfold MS.one;simp only [hf,hb,FI h]
end Go.Lir
namespace Go.Proofs.YteflkifmgnpbhaaGreat
open Go.Lir
attribute [local irreducible] LC.wp Q0 Qs Qi KN QD LO.wp Q7 Calls
variable {cx:Cx}{w:World}{L:List Res}{p N:Nat}{c:MC}{fr:List FrmV}{g:FrmV}{h:HpS}{out inp:List Int}{fu:Nat}{m:Module}
@[reducible] def MC.tick (c:MC):MC:=⟨c.hp,c.fn,c.lv,c.iv,c.e,c.bv,c.ov,c.fu+1,c.mo,c.dn,c.c,c.a⟩
def Qel (m:Module)(x:Ins):Prop:=(1≤x.op∧x.op≤14)∧(x.op=14→0≤x.k∧x.k<m.funcs.length)∧x.regs.length≤100∧x.args.length≤100
def gb (f:Fun)(e:Tail):Prop:=e.args.length≤100∧(1≤e.op∧e.op≤3)∧(e.op≠3→ToOK f e.yes)∧(e.op=2→ToOK f e.no)
attribute [local irreducible] Frm.val Frm.num Frm.args Frm.rgs Frm.reg MS.place O2 PT
theorem YI (hfn:KD.sl cx c.fn m.funcs)(hfx:m.funcs[g.f]?=some f)(hbx:f.blocks[g.b]?=some b)(hf:fr.length≤900)(k1:g.f≤1000000)(k2:g.b≤1000000)(k3:g.i≤1000000)(hS:St cx w (mS p c fr g N h out L)):
 Kf Tryz.prog yd [.pointer (some ⟨p,0,none⟩)] w fun u w'=>u= .int .i64 ((Km h g fr inp out fu).place m)∧St cx w' (mS p c fr g N h out L):=by
 (have hgf:=(E8.1 hfx).1;have hgb:=(E8.1 hbx).1;refine Kq Ko Tryz.func69 ?_;refine' Nk;refine' KE (c:=PX Jo hS);rintro v1 w1 ⟨b9,o9,rfl,hel,hS⟩;refine' S0;refine zD (ci 25 [24]) ?_;have hS:=hS.drew;refine' Po;refine Q9 (j:=2) hS hel rfl fd (Qn fr g) (Qu fr g) rfl ?_;refine' zm;refine' PN;refine' Po;refine QF hS hel rfl fd (Qn fr g) (Qu fr g) rfl ?_;refine' zi;intro b8 o8 cs8 x8 hat8 hx8 he8;obtain rfl:x8=f:=Fm (hx8.symm.trans hfx);obtain ⟨vp8,vr8,vb8,rfl,hp8,hr8,hb8⟩:=QH he8;refine' Nt;refine' SP;refine' Po;refine Q9 (j:=1) hS hel rfl fd (Qn fr g) (Qu fr g) rfl ?_;refine' zi;intro b7 o7 cs7 x7 hat7 hx7 he7;obtain rfl:x7=b:=Fm (hx7.symm.trans hbx);obtain ⟨vp7,vc7,u1,u2,u3,u4,u5,rfl,hp7,hc7,hu1,hu2,hu3,hu4,hu5⟩:=RJ he7;refine' Nt;refine' SP;refine' zL;first|(refine' KX)|(refine' K1)|(refine' Ae<;>intro hc));all_goals (refine' zn)
 all_goals
  first
  | (refine' Ki;refine QA ?_;have hX:=YG (m:=m) (s:=Km h g fr inp out fu) hfx hbx (by show g.i<x7.code.length;omega);refine zD (ci 14 [12,13]) ?_;have hS:=hS.drew;refine' Po;refine QF hS hel rfl fd (Qn fr g) (Qu fr g) rfl ?_;refine' Po;refine Q9 (j:=1) hS hel rfl fd (Qn fr g) (Qu fr g) rfl ?_;refine' Po;refine Q9 (j:=2) hS hel rfl fd (Qn fr g) (Qu fr g) rfl ?_;refine' Lg (c:=pD g.f g.b g.i k1 k2 k3 hS);rintro v1 w1 ⟨rfl,hS⟩;refine' La;((refine ⟨_,rfl,?_,hS.sp⟩;(rw [hX];rfl);done)))
  | (refine' Kk;refine' Kx)
 refine QA ?_;have hX:=YH (m:=m) (s:=Km h g fr inp out fu) hfx hbx (by show¬g.i<x7.code.length;omega);refine zD (ci 10 [8,9]) ?_;have hS:=hS.drew;refine' Po;refine QF hS hel rfl fd (Qn fr g) (Qu fr g) rfl ?_;refine' Po;refine Q9 (j:=1) hS hel rfl fd (Qn fr g) (Qu fr g) rfl ?_;refine' Kr (c:=pC g.f g.b k1 k2 hS);rintro v1 w1 ⟨rfl,hS⟩;refine' La;(((refine ⟨_,rfl,?_,hS.sp⟩;(rw [hX];rfl);done)))
attribute [local irreducible] MS.ins MS.fin MS.one Mm Ma Nm O6
theorem jR (hfn:KD.sl cx c.fn m.funcs)(hi:Kh.sl cx c.iv inp)(hfx:m.funcs[g.f]?=some f)(hbx:f.blocks[g.b]?=some b)(hci:∀x∈b.code,Qel m x)(hce:gb f b.fin)(hgi:g.i≤1000)(hf:fr.length≤900)(hn:g.vals.length≤800000)(hrn:g.regs.length≤800000)(hfr:∀x∈fr,x.vals.length≤900000)(hN:N≤99999)(hol:out.length≤2000)(hfu:0≤c.fu∧c.fu≤10000000)(hS:St cx w (mS p c fr g N h out L)):
 Ky Tryz.prog ye [.pointer (some ⟨p,0,none⟩)] w (fun u w'=>c.fu≠c.mo∧O6 p c.tick N h out fu ((Km h g fr inp out fu).one m) cx L u w')
  (fun u w'=>(c.fu=c.mo∧u=cU 7∧St cx w' (mS p c fr g N h out L))∨(c.fu≠c.mo∧Ma p c.tick N h out ((Km h g fr inp out fu).one m) cx L u w')):=by
 (((have hgf:=(E8.1 hfx).1;have hgb:=(E8.1 hbx).1;unfold Ky;refine Kq Ko Tryz.func71 ?_;refine QA ?_;refine zD (ci 11 [10]) ?_;have hS:=hS.drew;refine' zm;refine' PN;refine' P8;first|(refine' Ql)|(refine' Qp)|(refine' Ac<;>intro hc));all_goals (first|(refine' Kr (c:=U3 hS);rintro v1 w1 ⟨rfl,hS⟩)|(refine KH (c:=U4 hS) (p:=by rintro v9 w9 ⟨rfl,hS⟩;(repeat (first|refine' Q6|refine' Q8|refine fun _=>?_));refine' Qe;refine .inr ⟨_,rfl,?_⟩;first|(exact .inl ⟨Jo,rfl,hS.sp⟩)) (h:=fun _ _ h=>h.elim))));refine' L5;have hmo:c.fu≠c.mo:=Df;refine' LV;refine' PN;refine' MX;refine' SV;refine LU hS ?_;intro w1 hS;have hS:=hS.ns;refine' LN;have hS:St cx _ (mS p c.tick fr g N h out L):=hS.sp;refine' KE (c:=PX Jo hS);rintro v1 w1 ⟨b9,o9,rfl,hel,hS⟩;refine' Ms;refine zC [(0,none),(1,none),(2,none),(3,none),(4,none),(5,none),(6,none),(7,none),(8,none),(9,none),(10,none),(11,none),(12,none),(13,none),(14,none),(15,none),(16,none),(17,none),(18,some (some [4,8,11,15,17])),(19,some none)] ?_;have hS:=hS.drew;refine' Pk;refine' X0;refine' Mu;refine' RO;refine QF hS hel rfl fd (Qn fr g) (Qu fr g) rfl ?_;refine' KO;refine' zi;intro b8 o8 cs8 x8 hat8 hx8 he8;obtain rfl:x8=f:=Fm (hx8.symm.trans hfx);obtain ⟨vp8,vr8,vb8,rfl,hp8,hr8,hb8⟩:=QH he8;refine' KO;refine' XW;refine' SP;refine' Mu;refine' RO;refine Q9 (j:=1) hS hel rfl fd (Qn fr g) (Qu fr g) rfl ?_;refine' KO;refine' zi;intro b7 o7 cs7 x7 hat7 hx7 he7;obtain rfl:x7=b:=Fm (hx7.symm.trans hbx);obtain ⟨vp7,vc7,u1,u2,u3,u4,u5,rfl,hp7,hc7,hu1,hu2,hu3,hu4,hu5⟩:=RJ he7;refine' S5;refine' PL;intro p3 w1 hS;refine' zt;refine ⟨Fe.2 ⟨(by first|(exact Al)|(exact As)),Fe.2 ⟨(by (exact AL)),Fe.2 ⟨(by first|(exact Al)|(exact As)|(exact iw hS Ja rfl rfl)|(exact fI hS Ja rfl rfl)),Fe.2 ⟨(by (exact AL)),Fe.2 ⟨(by first|(exact Al)|(exact AJ)|(exact AW)),fun _ h=>(Fv h).elim⟩⟩⟩⟩⟩,?_⟩;refine' LG;refine Kt hS ?_;intro w1 hS;have hS:=hS.ns;refine' Lq;refine QA ?_;refine zD (ci 8 [7]) ?_;have hS:=hS.drew;refine' Po;refine Q9 (j:=2) hS hel rfl fd (Qn fr g) (Qu fr g) rfl ?_;refine' KZ;refine' zL;first|(refine' KX)|(refine' K1)|(refine' Ae<;>intro hc));all_goals (refine' zn)
 all_goals
  first
  | (refine' Ki;refine zD (ci 10 [9]) ?_;have hS:=hS.drew;refine' zm;refine' KZ;refine' Po;refine Q9 (j:=2) hS hel rfl fd (Qn fr g) (Qu fr g) rfl ?_;refine' zi;intro b6 o6 cs6 x6 hat6 hx6 he6;obtain ⟨vr6,va6,rfl,hr6,ha6⟩:=Nx he6;have hX:=jP (m:=m) (s:=Km h g fr inp out fu) hfx hbx hx6;obtain ⟨q1,q2,q3,q4⟩:=hci _ (Fa hx6);refine' Oa;refine KH (c:=dv (c:=c.tick) (fu:=fu) (inp:=inp) he6 hfn hi q1 q2 q3 q4 hgi hf hn hrn hN hol (show St cx _ (mS p c.tick fr g N h out _) from hS.sp)) (p:=by rintro u9 w9 hB;(repeat (first|refine' Q6|refine' Q8|refine fun _=>?_));refine' Qe;refine .inr ⟨_,rfl,?_⟩;exact .inr ⟨hmo,hX ▸ hB.drop⟩) (h:=?_);rintro u7 w7 hG;refine' zn;have hG:O6 p c.tick N h out fu ((Km h g fr inp out fu).one m) cx L u7 w7:=hX ▸ hG.drop.ok;obtain ⟨rfl,hG⟩:=hG.tup)
  | (refine' Kk;have hX:=jQ (m:=m) (s:=Km h g fr inp out fu) hfx hbx (by show x7.code.length≤g.i;omega);obtain ⟨q1,q2,q3,q4⟩:=hce;refine' LV;refine' OV;refine KH (c:=dg (c:=c.tick) (fu:=fu) (inp:=inp) (e:=x7.fin) ⟨_,_,_,_,_,rfl,hu1,hu2,hu3,hu4,hu5⟩ hfn hi hfx q1 q2 q3 q4 hf hfr (show St cx _ (mS p c.tick fr g N h out _) from hS.sp)) (p:=by rintro u9 w9 hB;(repeat (first|refine' Q6|refine' Q8|refine fun _=>?_));refine' Qe;refine .inr ⟨_,rfl,?_⟩;exact .inr ⟨hmo,hX ▸ hB.drop⟩) (h:=?_);rintro u7 w7 hG;refine' zn;have hG:O6 p c.tick N h out fu ((Km h g fr inp out fu).one m) cx L u7 w7:=hX ▸ hG.drop;obtain ⟨rfl,hG⟩:=hG.tup)
 all_goals (refine' LJ;exact .inl ⟨_,rfl,hmo,hG⟩)
end Go.Proofs.YteflkifmgnpbhaaGreat
