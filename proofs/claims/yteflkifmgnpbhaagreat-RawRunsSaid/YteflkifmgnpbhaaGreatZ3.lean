
/- Lemmas of the proof, part 3: what the functions of the program do (contracts), and what follows. -/
import Derived.Test.YteflkifmgnpbhaaGreatZ2
import Derived.Test.YteflkifmgnpbhaaGreatZ1
import Derived.Test.YteflkifmgnpbhaaGreatProg
open Go Go.Lir Go.Proofs.YteflkifmgnpbhaaGreat
variable {α:Type}{R:Ending→World→Prop}{ld:LD}{u pp v2 vf:Value}{j m b N M q:Nat}{l ws tk l' out vs:List Int}{x:Option α}{F:Nat→Prop}{w:World}{cx:Cx}{L:List Res}{e:Tail}{t:Ty}{cs ds:List Value}{regs at':Int}{is:Bool}{g:Mw}
set_option linter.unusedVariables false
set_option linter.unusedSimpArgs false
set_option maxHeartbeats 1000000
namespace Go.Lir
section
variable {p:Prop}
theorem DA (h:p:=by (conv=>lhs;whnf);first|done|exact rfl):p:=h
theorem DC (h:p:=by repeat constructor):p:=h
theorem DD (h:p:=by exact FF _):p:=h
theorem DF (h:p:=by (repeat constructor);first|done|fail):p:=h
theorem DG (h:p:=by intro _;decide):p:=h
theorem DH (h:p:=by simp [oneC]):p:=h
theorem DM (h:p:=by first|omega|(simp only [FF,FH,FP,F8,Gf,Gw];omega)):p:=h
theorem DP (h:p:=by rw [aQ];omega):p:=h
theorem DS (h:p:=by rw [FF];simp only [FP,F8];omega):p:=h
theorem Ea (h:p:=by rw [FF];exact ok.len):p:=h
theorem Eg (h:p:=by rw [Gd Jo] at hls;exact hls):p:=h
theorem En (h:p:=by rw [Qb];omega):p:=h
theorem Ep (h:p:=by (simp [oneC];done)):p:=h
theorem Ev (h:p:=by intro c hc;obtain ⟨r,_,rfl⟩:=Gm.1 hc;rfl):p:=h
theorem Ez (h:p:=by rw [GM];omega):p:=h
theorem EB (h:p:=by unfold OP; (repeat (first | rw [if_pos Jo] | rw [if_neg Jo]))):p:=h
theorem EG (h:p:=by rw [FP,ph,hlen];omega):p:=h
theorem EK (h:p:=by rw [aQ];exact hk):p:=h
theorem EV (h:p:=by unfold EstS.openV;rw [hlow,if_pos Jo]):p:=h
theorem E3 (h:p:=by rw [FP,ph,Gf,hlen];omega):p:=h
theorem E6 (h:p:=by have hS:=hS.nil (T:=2) (es:=1);exact AB):p:=h
theorem Fi (h:p:=by have:=hf3.size;have:=hf4.size;omega):p:=h
theorem Fm (h:p:=by unfold EstS.open;rw [hlow,if_pos Jo]):p:=h
theorem Fp (h:p:=by rw [FF,FF];omega):p:=h
end
end Go.Lir
namespace Go.Lir
section
variable {p:Prop}
theorem AB (h:p:=by exact hS.sp):p:=h
theorem AH (h:p:=by exact ⟨0,zh,zh,Jo,by simp,hS.sp⟩):p:=h
theorem AK (h:p:=by exact fun e=>absurd (congrArg List.length e) Jo):p:=h
theorem AL (h:p:=by exact ⟨_,zh,zh,by exact ⟨fun _=> .inr ⟨(by first|rfl|assumption),Jo⟩,fun _=>rfl⟩,hS.sp⟩):p:=h
theorem AQ (h:p:=by exact ⟨_,rfl,true,rfl,fun h=>Bool.noConfusion h,hS.sp⟩):p:=h
theorem AW (h:p:=by exact ⟨_,rfl,rfl,rfl⟩):p:=h
theorem AX (h:p:=by exact ⟨_,rfl,rfl,hS.sp⟩):p:=h
theorem AY (h:p:=by exact ⟨0,zh,zh,Jo,Jo,by simp,hS.sp⟩):p:=h
theorem Bc (h:p:=by exact ⟨zh,zh,by first|(rw [if_pos Jo];exact hS.sp)|(rw [if_neg Jo];exact hS.sp)⟩):p:=h
theorem BG (h:p:=by exact ⟨_,rfl,rfl,GR hS hi⟩):p:=h
theorem BS (h:p:=by exact ⟨⟨c2,j+1,_,_,zh,zh,hle.trans hle2,Jo,by rw [Ux hx1];assumption,by assumption,hS.sp⟩,Qc Jo⟩):p:=h
theorem BW (h:p:=by exact ⟨cx,0, .slice none 0 0,[],zh,zh,Gj hS,Jo,GU _ _ _,rfl,by have hS:=hS.nil (T:=115) (es:=3);exact hS⟩):p:=h
theorem B4 (h:p:=by exact ⟨_,rfl,c3,hle3,hl3,hS⟩):p:=h
theorem B9 (h:p:=by exact ⟨_,zh,zh,by exact ⟨fun h=>Bool.noConfusion h,fun h=>h.elim (fun h=>hq2.2 h) (fun h=>by obtain ⟨h1,h2⟩:=h;first|(exfalso;omega)|(simp_all;done))⟩,hS.sp⟩):p:=h
theorem Cb (h:p:=by exact ⟨_,zh,zh,by exact ⟨fun _=> .inl (hq2.1 rfl),fun _=>rfl⟩,hS.sp⟩):p:=h
theorem Ch (h:p:=by exact ⟨⟨j+1,zh,zh,Jo,Jo,by rw [hd,Q1 hx1,Q1 hx2,hg];simp,hS.sp⟩,Qc Jo⟩):p:=h
theorem Ci (h:p:=by exact ⟨_,zh,zh,by exact ⟨fun _=> .inl (hq1.1 rfl),fun _=>rfl⟩,hS.sp⟩):p:=h
theorem Cj (h:p:=by exact ⟨_,zh,zh,by exact ⟨fun h=>Bool.noConfusion h,fun h=>h.elim (fun h=>hq4.2 h) (fun h=>by obtain ⟨h1,h2⟩:=h;first|(exfalso;omega)|(simp_all;done))⟩,hS.sp⟩):p:=h
theorem Ck (h:p:=by exact ⟨_,zh,zh,by exact ⟨fun _=> .inl (hq5.1 rfl),fun _=>rfl⟩,hS.sp⟩):p:=h
theorem Cm (h:p:=by exact ⟨_,rfl,j,rfl,by rw [hd,Q1 hx1,IB,decide_eq_true Jo,Ij];simp,hS.sp⟩):p:=h
theorem Cp (h:p:=by exact ⟨_,zh,zh,by exact ⟨fun h=>Bool.noConfusion h,fun h=>h.elim (fun h=>hq5.2 h) (fun h=>by obtain ⟨h1,h2⟩:=h;first|(exfalso;omega)|(simp_all;done))⟩,hS.sp⟩):p:=h
theorem Cs (h:p:=by exact ⟨b,_,_,_,_,⟨rfl,rfl,rfl,trivial⟩,hblk,hw,ht,hb3,hf,fun (h:b=_)=>by omega,fun (h:b=_)=>by omega,fun x (h:x=_) (h':x=_)=>by omega,Jo,fun (h:b3=_)=>by omega,fun (h:b3=_)=>by omega,Jo,fun x (h:x=_)=>by omega,fun x (h:x=_)=>by omega⟩):p:=h
theorem Cu (h:p:=by exact ⟨_,rfl,rfl,(RQ (s:=s.shut m) (by rw [e1];exact ho.set (k:=m) (r':=RegV.nil) rfl (e1 ▸ Ka ok m)) (by rw [e1];exact (hS.subP (by (repeat constructor);first|done|fail)))).back hi⟩):p:=h
theorem CB (h:p:=by exact ⟨_,zh,zh,by exact ⟨fun h=>Bool.noConfusion h,fun h=>by obtain ⟨h1,h2⟩:=h;first|(exfalso;omega)|(simp_all;done)⟩,hS.sp⟩):p:=h
theorem CF (h:p:=by exact ⟨⟨j+1,zh,zh,Jo,by rw [hd,Q1 hx1,Tys.wrong,if_neg Jo],hS.sp⟩,Qc Jo⟩):p:=h
theorem CJ (h:p:=by exact ⟨_,zh,zh,by exact ⟨fun h=>Bool.noConfusion h,fun h=>h.elim (fun h=>hq1.2 h) (fun h=>by obtain ⟨h1,h2⟩:=h;first|(exfalso;omega)|(simp_all;done))⟩,hS.sp⟩):p:=h
theorem CU (h:p:=by exact ⟨_,rfl,false,rfl,fun _=>⟨h1,cB (l:=l) hd Jo⟩,hS.sp⟩):p:=h
theorem CW (h:p:=by exact ⟨0,zh,zh,Jo,Jo,by assumption,by assumption,by simp,hS.sp⟩):p:=h
theorem C0 (h:p:=by exact ⟨⟨j+1,zh,zh,Jo,Jo,by rw [hd,Q1 hx1,Q1 hx2,show x1=x2 by omega];simp,hS.sp⟩,Qc Jo⟩):p:=h
theorem C2 (h:p:=by exact ⟨_,rfl,c2,_,rfl,hle.trans hle2,⟨_,_,rfl,hl1,hl2⟩,hS.sp⟩):p:=h
theorem C4 (h:p:=by exact ⟨_,rfl,by rw [e2],(RQ (s:=s.open) (by rw [e1];exact ho.set (r':=⟨true, .slice none 0 0,[],0⟩) rfl (e1 ▸ J9 ok)) (by rw [e1];exact (hS.subP (by (repeat constructor);first|done|fail)))).back hi⟩):p:=h
theorem C6 (h:p:=by exact ⟨0,zh,zh,Jo,Jo,by assumption,⟨⟨Jo,Jo⟩,⟨Jo,Jo⟩,Jo⟩,by simp,hS.sp⟩):p:=h
theorem Da (h:p:=by exact ⟨_,zh,zh,by exact ⟨fun _=> .inl (hq3.1 rfl),fun _=>rfl⟩,hS.sp⟩):p:=h
theorem Dd (h:p:=by exact ⟨_,zh,zh,by exact ⟨fun h=>Bool.noConfusion h,fun h=>h.elim (fun h=>hq3.2 h) (fun h=>by obtain ⟨h1,h2⟩:=h;first|(exfalso;omega)|(simp_all;done))⟩,hS.sp⟩):p:=h
theorem De (h:p:=by exact ⟨⟨k+1,zh,zh,Jo,Jo,by assumption,by assumption,Yk hd2 hx3 ⟨Jo,Jo⟩,hS.sp⟩,Qc Jo⟩):p:=h
theorem Df (h:p:=by exact ⟨_,rfl, .inl ⟨hn,rfl,(hS.subP (by (repeat constructor);first|done|fail))⟩⟩):p:=h
theorem Dk (h:p:=by exact ⟨_,zh,zh,by exact ⟨fun _=> .inl (hq4.1 rfl),fun _=>rfl⟩,hS.sp⟩):p:=h
theorem Dl (h:p:=by exact ⟨_, rfl, cx, Gj hS, Gz _ _ _, hS⟩):p:=h
theorem Dn (h:p:=by exact ⟨_,zh,zh,by exact ⟨fun _=>⟨(by first|rfl|assumption),Jo⟩,fun _=>rfl⟩,hS.sp⟩):p:=h
theorem Dz (h:p:=by exact ⟨rfl,rfl,by simp only;omega,by simp only;omega,by simp only;omega⟩):p:=h
end
end Go.Lir
namespace Go.Lir
section
variable {p:Prop}
theorem As (h:p:=by first|(refine ⟨_,rfl,?_,hS.sp⟩;rw [decide_eq_false];exact fun e=>absurd (congrArg List.length e) Jo;done)|(refine ⟨_,rfl,?_,hS.sp⟩;rw [decide_eq_false];rw [hd,Q1 hx1,Q1 hx2];simp [hg];done)|(refine ⟨_,rfl,?_,hS.sp⟩;rw [decide_eq_true];rw [hd,FJ Jo,FJ Jo];done)):p:=h
theorem Aw (h:p:=by first|(refine ⟨_,rfl,?_,hS.sp⟩;rw [decide_eq_false];exact fun e=>absurd (congrArg List.length e) Jo;done)|(refine ⟨_,rfl,?_,hS.sp⟩;rw [decide_eq_false];rw [hd,Q1 hx1,Q1 hx2];simp [*];done)|(refine ⟨_,rfl,?_,hS.sp⟩;rw [decide_eq_true];rw [hd,FJ Jo,FJ Jo];done)):p:=h
end
end Go.Lir
namespace Go.Lir
section
def ci (n:Nat)(f:List Nat):List CI:=(List.range n).map fun i=>(i,if f.contains i then some none else none)
section
variable {K G:Prop}
theorem Nf {k:K}(h:Bx K→G:=by intro K9;(first|refine' KP|(refine' KQ;refine' MR));exact K9.o):G:=h ⟨k⟩
theorem TH {k:K}(h:Bx K→G:=by intro K9;(first|refine' KP|(refine' KQ;refine zl hS ?_));exact K9.o):G:=h ⟨k⟩
theorem MT {k:K}(h:Bx K→G:=by intro K9;(first|refine' KP|(refine' KQ;refine' zm));exact K9.o):G:=h ⟨k⟩
theorem MK {k:K}(h:Bx K→G:=by intro K9;(first|refine' OR|refine' ud);exact K9.o):G:=h ⟨k⟩
theorem M6 {k:K}(h:Bx K→G:=by intro K9;(first|refine' MR|refine' ua);exact K9.o):G:=h ⟨k⟩
theorem NC {k:K}(h:Bx K→G:=by intro K9;(first|refine' KP|(refine' KQ;(first|refine' MR|refine' ua)));exact K9.o):G:=h ⟨k⟩
theorem N7 {k:K}(h:Bx K→G:=by intro K9;(first|refine zv hS ?_|refine zW hS ?_);exact K9.o):G:=h ⟨k⟩
theorem jo {k:K}(h:Bx K→G:=by intro K9;(first|refine RT hS rfl fd rfl ?_|refine zl hS ?_);exact K9.o):G:=h ⟨k⟩
theorem Ng {k:K}(h:Bx K→G:=by intro K9;(first|refine' KP|(refine' KQ;refine' zL));exact K9.o):G:=h ⟨k⟩
theorem aR {k:K}(h:Bx K→G:=by intro K9;(first|refine' KP|(refine' KQ;refine' S3));exact K9.o):G:=h ⟨k⟩
theorem OG {k:K}(h:Bx K→G:=by intro K9;(first|refine' KP|(refine' KQ;refine' Pm));exact K9.o):G:=h ⟨k⟩
theorem aS {k:K}(h:Bx K→G:=by intro K9;(first|refine' Qd|refine' Qi);exact K9.o):G:=h ⟨k⟩
theorem Yw {k:K}(h:Bx K→G:=by intro K9;(first|refine' KP|(refine' KQ;(first|refine' OR|refine' ud)));exact K9.o):G:=h ⟨k⟩
theorem N8 {k:K}(h:Bx K→G:=by intro K9;(first|refine zl hS ?_|refine S4 hS ?_);exact K9.o):G:=h ⟨k⟩
theorem N9 {k:K}(h:Bx K→G:=by intro K9;(first|refine' zi|refine' zj);exact K9.o):G:=h ⟨k⟩
theorem Sh {k:K}(h:Bx K→G:=by intro K9;(first|refine' KP|(refine' KQ;refine zv hS ?_));exact K9.o):G:=h ⟨k⟩
theorem Yx {k:K}(h:Bx K→G:=by intro K9;(first|refine' KP|(refine' KQ;(first|refine' zL|refine ug hS ?_)));exact K9.o):G:=h ⟨k⟩
theorem cV {k:K}(h:Bx K→G:=by intro K9;(first|refine' KP|(refine' KQ;(first|refine zl hS ?_|refine S4 hS ?_)));exact K9.o):G:=h ⟨k⟩
theorem Yy {k:K}(h:Bx K→G:=by intro K9;(first|refine zl hS ?_|refine S4 hS ?_|refine cU hS ?_);exact K9.o):G:=h ⟨k⟩
theorem UT {k:K}(h:Bx K→G:=by intro K9;(first|refine' QG|refine' QI);exact K9.o):G:=h ⟨k⟩
theorem jq {k:K}(h:Bx K→G:=by intro K9;(first|refine' KP|(refine' KQ;(first|refine' QG|refine' QI)));exact K9.o):G:=h ⟨k⟩
theorem l3 {k:K}(h:Bx K→G:=by intro K9;(first|refine' KP|(refine' KQ;(first|refine zl hS ?_|refine S4 hS ?_|refine cU hS ?_)));exact K9.o):G:=h ⟨k⟩
theorem Yz {k:K}(h:Bx K→G:=by intro K9;(first|refine' LG|refine' LM);exact K9.o):G:=h ⟨k⟩
theorem l4 {k:K}(h:Bx K→G:=by intro K9;(first|refine' KP|(refine' KQ;(first|refine' QO|refine' QV)));exact K9.o):G:=h ⟨k⟩
theorem l5 {k:K}(h:Bx K→G:=by intro K9;(first|refine' KP|(refine' KQ;(first|refine' MV|refine' Nu)));exact K9.o):G:=h ⟨k⟩
theorem aT {k:K}(h:Bx K→G:=by intro K9;(first|refine' zL|refine ug hS ?_);exact K9.o):G:=h ⟨k⟩
theorem pj {k:K}(h:Bx K→G:=by intro K9;(first|refine iB rfl rfl ?_|refine sU rfl rfl ?_|refine cd rfl rfl ?_);exact K9.o):G:=h ⟨k⟩
theorem pk {k:K}(h:Bx K→G:=by intro K9;(first|refine' KP|(refine' KQ;(first|refine' Qd|refine' Qi)));exact K9.o):G:=h ⟨k⟩
theorem pn {k:K}(h:Bx K→G:=by intro K9;(first|refine' KP|(refine' KQ;(first|refine' LG|refine' LM)));exact K9.o):G:=h ⟨k⟩
theorem jr {k:K}(h:Bx K→G:=by intro K9;(first|refine' NH|refine iB rfl rfl ?_);exact K9.o):G:=h ⟨k⟩
theorem l6 {k:K}(h:Bx K→G:=by intro K9;(first|refine iB rfl rfl ?_|refine sU rfl rfl ?_);exact K9.o):G:=h ⟨k⟩
theorem K3 {k:K}(h:Bx K→G:=by intro K9;refine Qo ?_;refine' Mm;exact K9.o):G:=h ⟨k⟩
theorem Ls {k:K}(h:Bx K→G:=by intro K9;refine' K3;refine' zm;exact K9.o):G:=h ⟨k⟩
theorem Ll {k:K}(h:Bx K→G:=by intro K9;refine' zt;refine' LP;exact K9.o):G:=h ⟨k⟩
theorem K5 {k:K}(h:Bx K→G:=by intro K9;refine' zm;refine' zn;exact K9.o):G:=h ⟨k⟩
theorem Lw {k:K}(h:Bx K→G:=by intro K9;refine' MR;refine zl hS ?_;exact K9.o):G:=h ⟨k⟩
theorem Mf {k:K}(h:Bx K→G:=by intro K9;refine' Ls;refine' zn;exact K9.o):G:=h ⟨k⟩
theorem Ri {k:K}(h:Bx K→G:=by intro K9;refine' zr;refine' zf;exact K9.o):G:=h ⟨k⟩
theorem Mj {k:K}(h:Bx K→G:=by intro K9;refine' Mm;refine' zm;exact K9.o):G:=h ⟨k⟩
theorem NI {k:K}(h:Bx K→G:=by intro K9;refine Qo ?_;refine' Ls;exact K9.o):G:=h ⟨k⟩
theorem gw {k:K}(h:Bx K→G:=by intro K9;refine' MR;refine' Ll;exact K9.o):G:=h ⟨k⟩
theorem Nv {k:K}(h:Bx K→G:=by intro K9;refine' Nf;refine' TH;exact K9.o):G:=h ⟨k⟩
theorem aU {k:K}(h:Bx K→G:=by intro K9;refine' Ll;refine' gw;exact K9.o):G:=h ⟨k⟩
theorem RU {k:K}(h:Bx K→G:=by intro K9;refine iG rfl rfl ?_;refine' zn;exact K9.o):G:=h ⟨k⟩
theorem Lh {k:K}(h:Bx K→G:=by intro K9;refine' Mf;refine' Ri;exact K9.o):G:=h ⟨k⟩
theorem Ly {k:K}(h:Bx K→G:=by intro K9;refine' K5;refine' Ri;exact K9.o):G:=h ⟨k⟩
theorem gx {k:K}(h:Bx K→G:=by intro K9;refine Qo ?_;refine' bT;exact K9.o):G:=h ⟨k⟩
theorem Ot {k:K}(h:Bx K→G:=by intro K9;refine' K3;refine' Lw;exact K9.o):G:=h ⟨k⟩
theorem My {k:K}(h:Bx K→G:=by intro K9;refine' zt;refine' RI;exact K9.o):G:=h ⟨k⟩
theorem l7 {k:K}(h:Bx K→G:=by intro K9;refine' zt;refine' zy;exact K9.o):G:=h ⟨k⟩
theorem Nh {k:K}(h:Bx K→G:=by intro K9;refine' aU;refine zl hS ?_;exact K9.o):G:=h ⟨k⟩
theorem TJ {k:K}(h:Bx K→G:=by intro K9;refine' zm;refine' Ll;exact K9.o):G:=h ⟨k⟩
theorem Ma {k:K}(h:Bx K→G:=by intro K9;refine' S3;refine' MR;exact K9.o):G:=h ⟨k⟩
theorem l8 {k:K}(h:Bx K→G:=by intro K9;refine' NH;refine' K5;exact K9.o):G:=h ⟨k⟩
theorem Lx {k:K}(h:Bx K→G:=by intro K9;refine' K3;refine zb hS ?_;exact K9.o):G:=h ⟨k⟩
theorem Mr {k:K}(h:Bx K→G:=by intro K9;refine' zm;refine' MT;exact K9.o):G:=h ⟨k⟩
theorem MF {k:K}(h:Bx K→G:=by intro K9;refine' KV;refine' gx;exact K9.o):G:=h ⟨k⟩
theorem Ms {k:K}(h:Bx K→G:=by intro K9;refine' zm;refine' Nv;exact K9.o):G:=h ⟨k⟩
theorem Lu {k:K}(h:Bx K→G:=by intro K9;refine' Ls;refine' zm;exact K9.o):G:=h ⟨k⟩
theorem MU {k:K}(h:Bx K→G:=by intro K9;refine' K5;refine' zr;exact K9.o):G:=h ⟨k⟩
theorem LV {k:K}(h:Bx K→G:=by intro K9;refine' zt;refine' lY;exact K9.o):G:=h ⟨k⟩
theorem LH {k:K}(h:Bx K→G:=by intro K9;refine' MK;refine' zn;exact K9.o):G:=h ⟨k⟩
theorem Mb {k:K}(h:Bx K→G:=by intro K9;refine' zt;refine' L5;exact K9.o):G:=h ⟨k⟩
theorem OS {k:K}(h:Bx K→G:=by intro K9;refine' K5;refine Qo ?_;exact K9.o):G:=h ⟨k⟩
theorem gy {k:K}(h:Bx K→G:=by intro K9;refine' Mf;refine' bT;exact K9.o):G:=h ⟨k⟩
theorem Mk {k:K}(h:Bx K→G:=by intro K9;refine' Mj;refine' l8;exact K9.o):G:=h ⟨k⟩
theorem ML {k:K}(h:Bx K→G:=by intro K9;refine' S3;refine' M6;exact K9.o):G:=h ⟨k⟩
theorem Oa {k:K}(h:Bx K→G:=by intro K9;refine' S3;refine' Lw;exact K9.o):G:=h ⟨k⟩
theorem Nw {k:K}(h:Bx K→G:=by intro K9;refine' K3;refine zv hS ?_;exact K9.o):G:=h ⟨k⟩
theorem Ry {k:K}(h:Bx K→G:=by intro K9;refine' K5;refine' bT;exact K9.o):G:=h ⟨k⟩
theorem MG {k:K}(h:Bx K→G:=by intro K9;refine' l7;refine' RI;exact K9.o):G:=h ⟨k⟩
theorem O3 {k:K}(h:Bx K→G:=by intro K9;refine' LP;refine' TJ;exact K9.o):G:=h ⟨k⟩
theorem NO {k:K}(h:Bx K→G:=by intro K9;refine' N7;refine Qh hS ?_;exact K9.o):G:=h ⟨k⟩
theorem YA {k:K}(h:Bx K→G:=by intro K9;refine' KP;refine' KP;exact K9.o):G:=h ⟨k⟩
theorem Mz {k:K}(h:Bx K→G:=by intro K9;refine' K5;refine' Ls;exact K9.o):G:=h ⟨k⟩
theorem Rj {k:K}(h:Bx K→G:=by intro K9;refine R8 ?_;refine bW ?_;exact K9.o):G:=h ⟨k⟩
theorem MM {k:K}(h:Bx K→G:=by intro K9;refine' zn;refine Qo ?_;exact K9.o):G:=h ⟨k⟩
theorem M7 {k:K}(h:Bx K→G:=by intro K9;refine' zm;refine' zm;exact K9.o):G:=h ⟨k⟩
theorem YB {k:K}(h:Bx K→G:=by intro K9;refine' MU;refine' lZ;exact K9.o):G:=h ⟨k⟩
theorem Nx {k:K}(h:Bx K→G:=by intro K9;refine Qo ?_;refine Qo ?_;exact K9.o):G:=h ⟨k⟩
theorem l9 {k:K}(h:Bx K→G:=by intro K9;refine' TG;refine' TG;exact K9.o):G:=h ⟨k⟩
theorem Rk {k:K}(h:Bx K→G:=by intro K9;refine' My;refine Qh hS ?_;exact K9.o):G:=h ⟨k⟩
theorem M8 {k:K}(h:Bx K→G:=by intro K9;refine Qo ?_;refine' gy;exact K9.o):G:=h ⟨k⟩
theorem Mu {k:K}(h:Bx K→G:=by intro K9;refine' zn;refine' zr;exact K9.o):G:=h ⟨k⟩
theorem Rz {k:K}(h:Bx K→G:=by intro K9;refine' M6;refine' Ll;exact K9.o):G:=h ⟨k⟩
theorem Oy {k:K}(h:Bx K→G:=by intro K9;refine' Pm;refine' zn;exact K9.o):G:=h ⟨k⟩
theorem Ni {k:K}(h:Bx K→G:=by intro K9;refine' l7;refine' LP;exact K9.o):G:=h ⟨k⟩
theorem Nj {k:K}(h:Bx K→G:=by intro K9;refine' l7;refine' L5;exact K9.o):G:=h ⟨k⟩
theorem RB {k:K}(h:Bx K→G:=by intro K9;refine' NI;refine' Lw;exact K9.o):G:=h ⟨k⟩
theorem M9 {k:K}(h:Bx K→G:=by intro K9;refine' Ll;refine' TJ;exact K9.o):G:=h ⟨k⟩
theorem Na {k:K}(h:Bx K→G:=by intro K9;refine' MR;refine' jo;exact K9.o):G:=h ⟨k⟩
theorem uk {k:K}(h:Bx K→G:=by intro K9;refine' zm;refine' l9;exact K9.o):G:=h ⟨k⟩
theorem Pz {k:K}(h:Bx K→G:=by intro K9;refine' K5;refine' NI;exact K9.o):G:=h ⟨k⟩
theorem NP {k:K}(h:Bx K→G:=by intro K9;refine Qo ?_;refine' Ot;exact K9.o):G:=h ⟨k⟩
theorem Rl {k:K}(h:Bx K→G:=by intro K9;refine' Mm;refine' l8;exact K9.o):G:=h ⟨k⟩
theorem Nb {k:K}(h:Bx K→G:=by intro K9;refine' zn;refine' Ls;exact K9.o):G:=h ⟨k⟩
theorem zY {k:K}(h:Bx K→G:=by intro K9;refine' RU;refine Qo ?_;exact K9.o):G:=h ⟨k⟩
theorem po {k:K}(h:Bx K→G:=by intro K9;refine' zL;refine' RU;exact K9.o):G:=h ⟨k⟩
theorem PA {k:K}(h:Bx K→G:=by intro K9;refine' zm;refine' zi;exact K9.o):G:=h ⟨k⟩
theorem js {k:K}(h:Bx K→G:=by intro K9;refine' gw;refine zl hS ?_;exact K9.o):G:=h ⟨k⟩
theorem NJ {k:K}(h:Bx K→G:=by intro K9;refine' Mj;refine' zm;exact K9.o):G:=h ⟨k⟩
theorem NV {k:K}(h:Bx K→G:=by intro K9;refine' K3;refine' zY;exact K9.o):G:=h ⟨k⟩
theorem NW {k:K}(h:Bx K→G:=by intro K9;refine' Ls;refine' K5;exact K9.o):G:=h ⟨k⟩
theorem PB {k:K}(h:Bx K→G:=by intro K9;refine' NI;refine' zm;exact K9.o):G:=h ⟨k⟩
theorem Si {k:K}(h:Bx K→G:=by intro K9;refine' KO;refine' KV;exact K9.o):G:=h ⟨k⟩
theorem Og {k:K}(h:Bx K→G:=by intro K9;refine' Mf;refine' Ls;exact K9.o):G:=h ⟨k⟩
theorem Sj {k:K}(h:Bx K→G:=by intro K9;refine' Ms;refine' Nv;exact K9.o):G:=h ⟨k⟩
theorem RV {k:K}(h:Bx K→G:=by intro K9;refine' Ls;refine' Ly;exact K9.o):G:=h ⟨k⟩
theorem Ob {k:K}(h:Bx K→G:=by intro K9;refine' Mf;refine' NI;exact K9.o):G:=h ⟨k⟩
theorem ma {k:K}(h:Bx K→G:=by intro K9;refine' Nf;refine' NC;exact K9.o):G:=h ⟨k⟩
theorem gz {k:K}(h:Bx K→G:=by intro K9;refine' aS;refine' K5;exact K9.o):G:=h ⟨k⟩
theorem UU {k:K}(h:Bx K→G:=by intro K9;refine' Ma;refine' M6;exact K9.o):G:=h ⟨k⟩
theorem UW {k:K}(h:Bx K→G:=by intro K9;refine' LP;refine' js;exact K9.o):G:=h ⟨k⟩
theorem Xs {k:K}(h:Bx K→G:=by intro K9;refine' MT;refine' aR;exact K9.o):G:=h ⟨k⟩
theorem Pn {k:K}(h:Bx K→G:=by intro K9;refine' Mm;refine' Ly;exact K9.o):G:=h ⟨k⟩
theorem S5 {k:K}(h:Bx K→G:=by intro K9;refine' uk;refine' zm;exact K9.o):G:=h ⟨k⟩
theorem RW {k:K}(h:Bx K→G:=by intro K9;refine' K3;refine Qh hS ?_;exact K9.o):G:=h ⟨k⟩
theorem Sk {k:K}(h:Bx K→G:=by intro K9;refine' Ll;refine' zm;exact K9.o):G:=h ⟨k⟩
theorem UX {k:K}(h:Bx K→G:=by intro K9;refine' S3;refine' aU;exact K9.o):G:=h ⟨k⟩
theorem PC {k:K}(h:Bx K→G:=by intro K9;refine' MR;refine zv hS ?_;exact K9.o):G:=h ⟨k⟩
theorem O4 {k:K}(h:Bx K→G:=by intro K9;refine' RB;refine' po;exact K9.o):G:=h ⟨k⟩
theorem O5 {k:K}(h:Bx K→G:=by intro K9;refine' L7;refine' Lh;exact K9.o):G:=h ⟨k⟩
theorem O6 {k:K}(h:Bx K→G:=by intro K9;refine' Ls;refine' Lw;exact K9.o):G:=h ⟨k⟩
theorem Xt {k:K}(h:Bx K→G:=by intro K9;refine' S3;refine' Ll;exact K9.o):G:=h ⟨k⟩
theorem Sm {k:K}(h:Bx K→G:=by intro K9;refine' uk;refine Qh hS ?_;exact K9.o):G:=h ⟨k⟩
theorem OT {k:K}(h:Bx K→G:=by intro K9;refine' zr;refine' lZ;exact K9.o):G:=h ⟨k⟩
theorem PX {k:K}(h:Bx K→G:=by intro K9;refine' Mj;refine zv hS ?_;exact K9.o):G:=h ⟨k⟩
theorem YC {k:K}(h:Bx K→G:=by intro K9;refine' MT;refine' Nv;exact K9.o):G:=h ⟨k⟩
theorem Po {k:K}(h:Bx K→G:=by intro K9;refine' K3;refine' gz;exact K9.o):G:=h ⟨k⟩
theorem O7 {k:K}(h:Bx K→G:=by intro K9;refine' zm;refine' YB;exact K9.o):G:=h ⟨k⟩
theorem Rm {k:K}(h:Bx K→G:=by intro K9;refine' MF;refine Qo ?_;exact K9.o):G:=h ⟨k⟩
theorem cW {k:K}(h:Bx K→G:=by intro K9;refine' Ot;refine' PA;exact K9.o):G:=h ⟨k⟩
theorem PD {k:K}(h:Bx K→G:=by intro K9;refine' YA;refine' YA;exact K9.o):G:=h ⟨k⟩
theorem PE {k:K}(h:Bx K→G:=by intro K9;refine' MK;refine' Mr;exact K9.o):G:=h ⟨k⟩
theorem PY {k:K}(h:Bx K→G:=by intro K9;refine' Nh;refine' My;exact K9.o):G:=h ⟨k⟩
theorem PZ {k:K}(h:Bx K→G:=by intro K9;refine' Mj;refine' Lw;exact K9.o):G:=h ⟨k⟩
theorem PF {k:K}(h:Bx K→G:=by intro K9;refine' zL;refine' Ry;exact K9.o):G:=h ⟨k⟩
theorem PG {k:K}(h:Bx K→G:=by intro K9;refine' zm;refine' ML;exact K9.o):G:=h ⟨k⟩
theorem Xu {k:K}(h:Bx K→G:=by intro K9;refine' MK;refine' zm;exact K9.o):G:=h ⟨k⟩
theorem gA {k:K}(h:Bx K→G:=by intro K9;refine' Pz;refine' Oy;exact K9.o):G:=h ⟨k⟩
theorem Rn {k:K}(h:Bx K→G:=by intro K9;refine' Ms;refine' Ng;exact K9.o):G:=h ⟨k⟩
theorem mb {k:K}(h:Bx K→G:=by intro K9;refine' MK;refine' Rj;exact K9.o):G:=h ⟨k⟩
theorem P0 {k:K}(h:Bx K→G:=by intro K9;refine' zn;refine' Ot;exact K9.o):G:=h ⟨k⟩
theorem cX {k:K}(h:Bx K→G:=by intro K9;refine' zm;refine' LV;exact K9.o):G:=h ⟨k⟩
theorem gB {k:K}(h:Bx K→G:=by intro K9;refine' Ll;refine' N7;exact K9.o):G:=h ⟨k⟩
theorem Sn {k:K}(h:Bx K→G:=by intro K9;refine' UU;refine zl hS ?_;exact K9.o):G:=h ⟨k⟩
theorem So {k:K}(h:Bx K→G:=by intro K9;refine' Mm;refine' Lw;exact K9.o):G:=h ⟨k⟩
theorem S6 {k:K}(h:Bx K→G:=by intro K9;refine' zn;refine' bT;exact K9.o):G:=h ⟨k⟩
theorem S7 {k:K}(h:Bx K→G:=by intro K9;refine' MR;refine Mi hS ?_;exact K9.o):G:=h ⟨k⟩
theorem RD {k:K}(h:Bx K→G:=by intro K9;refine' zn;refine' Nw;exact K9.o):G:=h ⟨k⟩
theorem RX {k:K}(h:Bx K→G:=by intro K9;refine' Mj;refine' M7;exact K9.o):G:=h ⟨k⟩
theorem RY {k:K}(h:Bx K→G:=by intro K9;refine' Mr;refine' aR;exact K9.o):G:=h ⟨k⟩
theorem RZ {k:K}(h:Bx K→G:=by intro K9;refine' Mj;refine' Oa;exact K9.o):G:=h ⟨k⟩
theorem S8 {k:K}(h:Bx K→G:=by intro K9;refine' OS;refine Qo ?_;exact K9.o):G:=h ⟨k⟩
theorem cY {k:K}(h:Bx K→G:=by intro K9;refine' Ma;refine RT hS rfl fd rfl ?_;exact K9.o):G:=h ⟨k⟩
theorem Sp {k:K}(h:Bx K→G:=by intro K9;refine' Ls;refine' YB;exact K9.o):G:=h ⟨k⟩
theorem Sq {k:K}(h:Bx K→G:=by intro K9;refine' OS;refine' Ot;exact K9.o):G:=h ⟨k⟩
theorem Sr {k:K}(h:Bx K→G:=by intro K9;refine' Yw;refine' mb;exact K9.o):G:=h ⟨k⟩
theorem Ss {k:K}(h:Bx K→G:=by intro K9;refine' Mr;refine' Xs;exact K9.o):G:=h ⟨k⟩
theorem Su {k:K}(h:Bx K→G:=by intro K9;refine' K3;refine' MR;exact K9.o):G:=h ⟨k⟩
theorem Sv {k:K}(h:Bx K→G:=by intro K9;refine' S3;refine' Nh;exact K9.o):G:=h ⟨k⟩
theorem TK {k:K}(h:Bx K→G:=by intro K9;refine' zn;refine' Nm;exact K9.o):G:=h ⟨k⟩
theorem Sw {k:K}(h:Bx K→G:=by intro K9;refine' zn;refine' Rl;exact K9.o):G:=h ⟨k⟩
theorem Sx {k:K}(h:Bx K→G:=by intro K9;refine' zn;refine' KN;exact K9.o):G:=h ⟨k⟩
theorem Sy {k:K}(h:Bx K→G:=by intro K9;refine' zn;refine' Si;exact K9.o):G:=h ⟨k⟩
theorem Sz {k:K}(h:Bx K→G:=by intro K9;refine' zm;refine' Oa;exact K9.o):G:=h ⟨k⟩
theorem S9 {k:K}(h:Bx K→G:=by intro K9;refine' MF;refine' K3;exact K9.o):G:=h ⟨k⟩
theorem Ta {k:K}(h:Bx K→G:=by intro K9;refine' MF;refine' cW;exact K9.o):G:=h ⟨k⟩
theorem Tb {k:K}(h:Bx K→G:=by intro K9;refine' ma;refine' TH;exact K9.o):G:=h ⟨k⟩
theorem Tc {k:K}(h:Bx K→G:=by intro K9;refine' PB;refine' po;exact K9.o):G:=h ⟨k⟩
theorem Td {k:K}(h:Bx K→G:=by intro K9;refine' O3;refine' TJ;exact K9.o):G:=h ⟨k⟩
theorem Te {k:K}(h:Bx K→G:=by intro K9;refine' MK;refine' Sj;exact K9.o):G:=h ⟨k⟩
theorem Tf {k:K}(h:Bx K→G:=by intro K9;refine' aU;refine' jo;exact K9.o):G:=h ⟨k⟩
theorem TM {k:K}(h:Bx K→G:=by intro K9;refine' S5;refine' gA;exact K9.o):G:=h ⟨k⟩
theorem TO {k:K}(h:Bx K→G:=by intro K9;refine' OG;refine' YC;exact K9.o):G:=h ⟨k⟩
theorem TP {k:K}(h:Bx K→G:=by intro K9;refine' Mb;refine' cX;exact K9.o):G:=h ⟨k⟩
theorem TQ {k:K}(h:Bx K→G:=by intro K9;refine' O3;refine' UX;exact K9.o):G:=h ⟨k⟩
theorem TS {k:K}(h:Bx K→G:=by intro K9;refine' Xt;refine' Rz;exact K9.o):G:=h ⟨k⟩
theorem TU {k:K}(h:Bx K→G:=by intro K9;refine' UW;refine' Nh;exact K9.o):G:=h ⟨k⟩
theorem TV {k:K}(h:Bx K→G:=by intro K9;refine' aU;refine' Rz;exact K9.o):G:=h ⟨k⟩
theorem TW {k:K}(h:Bx K→G:=by intro K9;refine' aS;refine' zm;exact K9.o):G:=h ⟨k⟩
theorem UY {k:K}(h:Bx K→G:=by intro K9;refine' OS;refine' gy;exact K9.o):G:=h ⟨k⟩
theorem UZ {k:K}(h:Bx K→G:=by intro K9;refine' K5;refine' Mk;exact K9.o):G:=h ⟨k⟩
theorem U0 {k:K}(h:Bx K→G:=by intro K9;refine' Ll;refine' TG;exact K9.o):G:=h ⟨k⟩
theorem U1 {k:K}(h:Bx K→G:=by intro K9;refine' gB;refine' Rk;exact K9.o):G:=h ⟨k⟩
theorem U2 {k:K}(h:Bx K→G:=by intro K9;refine' L7;refine' RV;exact K9.o):G:=h ⟨k⟩
theorem U3 {k:K}(h:Bx K→G:=by intro K9;refine' Sk;refine' PY;exact K9.o):G:=h ⟨k⟩
theorem U4 {k:K}(h:Bx K→G:=by intro K9;refine' Ot;refine' zL;exact K9.o):G:=h ⟨k⟩
theorem U5 {k:K}(h:Bx K→G:=by intro K9;refine' zn;refine' K3;exact K9.o):G:=h ⟨k⟩
theorem YD {k:K}(h:Bx K→G:=by intro K9;refine' Ls;refine zv hS ?_;exact K9.o):G:=h ⟨k⟩
theorem YE {k:K}(h:Bx K→G:=by intro K9;refine' Mm;refine' Ry;exact K9.o):G:=h ⟨k⟩
theorem Xv {k:K}(h:Bx K→G:=by intro K9;refine' K5;refine' Ot;exact K9.o):G:=h ⟨k⟩
theorem Xw {k:K}(h:Bx K→G:=by intro K9;refine' Ls;refine' Ma;exact K9.o):G:=h ⟨k⟩
theorem Xx {k:K}(h:Bx K→G:=by intro K9;refine' MK;refine' Ly;exact K9.o):G:=h ⟨k⟩
theorem Xy {k:K}(h:Bx K→G:=by intro K9;refine' Xu;refine' ma;exact K9.o):G:=h ⟨k⟩
end
end
section
@[reducible] def vi (n:Int):Value:= .int .i64 n
@[reducible] def vn:Value:= .slice none 0 0
end
section
inductive TyD where
 | p|b|f|i (k:IntKind)|s|l (e:Nat)|a (n e z:Nat)|t (z:Nat) (fs:List (Nat×Nat))|x
abbrev Tr:=Nat→TyD
def TyD.sz:TyD→Nat
 | .a _ _ z=>z
 | .t z _=>z
 | _=>1
mutual
def cZ (D:Tr):Nat→TyD→List Value
 | 0,_=>[]
 | _+1, .p=>[.pointer none]
 | _+1, .b=>[.bool false]
 | _+1, .f=>[.nilFunc]
 | _+1, .i k=>[.int k 0]
 | _+1, .s=>[.string ⟨#[]⟩]
 | _+1, .l _=>[.slice none 0 0]
 | _+1, .x=>[.nilIface]
 | n+1, .t _ fs=>jt D n fs
 | n+1, .a m e _=>(List.replicate m (cZ D n (D e))).flatten
def jt (D:Tr):Nat→List (Nat×Nat)→List Value
 | 0,_=>[]
 | _+1,[]=>[]
 | n+1,f::fs=>cZ D n (D f.2)++jt D n fs
end
def da (D:Tr)(T:Nat):List Value:=cZ D 60 (D T)
def SA (D:Tr):TyD→List (Nat×Operand)→List (Nat×Nat×Operand)
 | .t z fs,(i,x)::r=>(match fs[i]? with|some f=>(f.1,(D f.2).sz,x)|none=>(0,0,x))::SA D (.t z fs) r
 | .a n e z,(i,x)::r=>(i*(D e).sz,(D e).sz,x)::SA D (.a n e z) r
 | _,_=>[]
def O8:Oper→LO
 | ⟨d, o, T, _, _, _⟩ => .raw ⟨d, o, T, "", #[], none⟩
def ju (D:Tr)(f:Nat):TyD→Nat
 | .t _ fs=>match fs[f]? with|some p=>p.1|none=>0
 | _=>0
def pq (D:Tr)(f:Nat):TyD→TyD
 | .t _ fs=>match fs[f]? with|some p=>D p.2|none=> .p
 | _=> .p
def jv (d:Nat)(x:Operand):TyD→LO
 | .t z _=> .loadn d z x
 | .a _ _ z=> .loadn d z x
 | _=> .load1 d x
def db (x v:Operand):TyD→LO
 | .t z _=> .storen z x v
 | .a _ _ z=> .storen z x v
 | _=> .store1 x v
def dc (d:Nat)(x:Operand)(off:Nat):TyD→LO
 | .t z _=> .fldn d x off z
 | .a _ _ z=> .fldn d x off z
 | _=> .fldv d x off
def jw (D:Tr)(o:Oper)(d:Nat):Op→LO
 | .move x=> .mov d x
 | .assign x=> .mov d x
 | .pick c x y=> .pick d c x y
 | .unOp op _ x=> .un d op x
 | .binOp op T x y _=> .bin d op T x y
 | .nilCheck x=> .nilc d x
 | .fieldAddr S x f=> .fld d x (ju D f (D S))
 | .load T x=>jv d x (D T)
 | .indexAddr T x i=>match D T with
   | .l e=> .idx d (D e).sz x i
   | .a n e _=> .idxa d n (D e).sz x i
   | _=>O8 o
 | .index T x i=>match D T with
   | .s=> .sidx d x i
   | _=>O8 o
 | .extract x i=> .ext d x i
 | .field S x f=>dc d x (ju D f (D S)) (pq D f (D S))
 | .alloc T=> .alloc d T (da D T)
 | .box T x=> .box d T x
 | .build T ps=> .build d (da D T) (SA D (D T) ps.toList)
 | .buildSlice T n ps=>match D T with
   | .l e=>if 0<n then .buildS d e n ((List.replicate n (da D e)).flatten) (SA D (.a n e 0) ps.toList) else O8 o
   | _=>O8 o
 | .makeFunc (.func f) _ caps=> .mkfn d f caps.toList
 | .call ⟨.value (.func f),xs,_⟩=> .call (some d) f xs.toList
 | .call ⟨.value (.tmp f),xs,_⟩=> .callv (some d) (.tmp f) xs.toList
 | .slice T x lo hi mx=>match D T with
   | .l e=> .sub d (D e).sz x lo hi mx
   | .s=> .ssub d x lo hi
   | _=>O8 o
 | .convert S T x=>match D S,D T with
   | .i _, .i k=> .conv d k x
   | _,_=>O8 o
 | .makeInterface T x=>match D T with
   | .x=>O8 o
   | _=> .mki d T x
 | .call ⟨.builtin .min,⟨[x,y]⟩,_⟩=> .mnx d false x y
 | .call ⟨.builtin .max,⟨[x,y]⟩,_⟩=> .mnx d true x y
 | .call ⟨.builtin .len,⟨[x]⟩,⟨[T]⟩⟩=>match D T with
   | .s=> .slen d x
   | .l _=> .len d x
   | _=>O8 o
 | _=>O8 o
def jx (D:Tr)(o:Oper):Op→LO
 | .store T x v=>db x v (D T)
 | .call ⟨.value (.func f),xs,_⟩=> .call none f xs.toList
 | .call ⟨.value (.tmp f),xs,_⟩=> .callv none (.tmp f) xs.toList
 | _=>O8 o
def pr (D:Tr)(o:Oper):Option Nat→LO
 | none=>jx D o o.op
 | some d=>jw D o d o.op
def pt (ops:Array Oper):Option (Nat×Bool)→Option (Nat×Bool)
 | none=>none
 | some (j,b)=>match ops[j]? with
   | some o=>match o.dst with
     | some s=>some (s,b)
     | none=>none
   | none=>none
def jy (D:Tr)(ops:Array Oper):List Oper→List GO
 | []=>[]
 | o::r=>⟨pt ops o.guard,pr D o o.dst⟩::jy D ops r
def O9 (D:Tr):Code→LC
 | .skip=> .skip
 | .region _ ops false=> .ops (jy D ops ops.toList)
 | .region _ ops true=> .draw (jy D ops ops.toList) (XK ops)
 | .seq a b=> .seq (O9 D a) (O9 D b)
 | .cond c a b=> .cond c (O9 D a) (O9 D b)
 | .block id a=> .block id (O9 D a)
 | .loop a=> .loop (O9 D a)
 | .exit id=> .exit id
 | .ret=> .ret
 | _=> .bad
def pw (D:Tr):Option Code→LC
 | some c=>O9 D c
 | none=> .bad
def U6 (D:Tr):Code→LD
 | .seq a b=>bif gq a||gq b then .seq (U6 D a) (U6 D b) else .pl (O9 D (.seq a b))
 | .region id ops false=>match gr ops.toList with
   | some (l1,_,s,l2)=> .sp (jy D ops l1) s (jy D ops l2)
   | none=> .pl (O9 D (.region id ops false))
 | c=> .pl (O9 D c)
def aV (D:Tr):Option Code→LD
 | some c=>U6 D c
 | none=> .pl .bad
section
variable {P:Program}{f:FuncId}{fn:Func}{args:List Value}{w:World}{rs:List ResultVar}(D:Tr)
theorem KY {lc:LC}(hf:P.funcs[f]?=some fn)(h:lc.wp P (Lo P rs R) (XL args) w)(e:pw D fn.body=lc:=by set_option maxRecDepth 100000 in (conv=>lhs;cbv))(hl:bN P fn=some lc:=by kernel_rfl)(hrs:fn.results.toList=rs:=by set_option maxRecDepth 100000 in (conv=>lhs;cbv))(hn:Nat.ble args.length fn.ntmps=true:=by kernel_rfl):Calls P f ⟨args⟩ w R:=yF hf hl hrs hn h
theorem um (hf:P.funcs[f]?=some fn)(h:ld.wpD P (UO P rs R) [] (XL args) w)(e:aV D fn.body=ld:=by set_option maxRecDepth 100000 in (conv=>lhs;cbv))(hl:gu P fn=some ld:=by kernel_rfl)(hrs:fn.results.toList=rs:=by set_option maxRecDepth 100000 in (conv=>lhs;cbv))(hn:Nat.ble args.length fn.ntmps=true:=by kernel_rfl):Calls P f ⟨args⟩ w R:=zO hf hl hrs hn h
theorem mc {R:Ending→FrameMode→World→Prop}{u:FrameMode}(hf:P.funcs[f]?=some fn)(h:ld.wpR P (cR P rs R) u (XL args) w)(e:aV D fn.body=ld:=by set_option maxRecDepth 100000 in (conv=>lhs;cbv))(hl:gu P fn=some ld:=by kernel_rfl)(hrs:fn.results.toList=rs:=by set_option maxRecDepth 100000 in (conv=>lhs;cbv))(hn:Nat.ble args.length fn.ntmps=true:=by kernel_rfl):CallsD P f ⟨args⟩ u w R:=zR hf hl hrs hn h
end
end
end Go.Lir
namespace Go.Proofs.YteflkifmgnpbhaaGreat
open Go.Lir
section
def px (i:Nat):TyD:=if i<7 then if i<2 then if i<1 then .p else .f else if i<4 then .i .i64 else if i<5 then .b else .i .u8 else if i<12 then if i<9 then .t 4 [(0,2),(1,3),(2,4),(3,6)] else .s else if i<13 then .i .u64 else if i<15 then .t 2 [(0,9),(1,12)] else .p
def py (i:Nat):TyD:=if i<25 then if i<21 then if i<20 then .t 1 [(0,17)] else .x else if i<22 then .i .i32 else if i<23 then .l 95 else .t 1 [(0,22)] else if i<28 then if i<26 then .l 2 else .f else if i<30 then .t 2 [(0,3),(1,3)] else if i<32 then .f else .t 4 [(0,3),(1,25),(2,25),(3,3)]
def pz (i:Nat):TyD:=if i<43 then if i<39 then if i<35 then .p else .f else if i<41 then .p else if i<42 then .f else .p else if i<45 then if i<44 then .f else .l 131 else if i<47 then .t 2 [(0,44),(1,3)] else if i<48 then .l 119 else .t 13 [(0,24),(1,46),(3,47),(4,25),(5,33),(9,3),(10,4),(11,29)]
def pA (i:Nat):TyD:=if i<59 then if i<53 then if i<52 then .f else .p else if i<54 then .l 110 else if i<56 then .t 12 [(0,52),(1,24),(2,53),(3,25),(4,33),(8,3),(9,4),(10,29)] else .f else if i<63 then if i<61 then .p else .f else if i<64 then .p else if i<65 then .l 138 else .t 10 [(0,63),(1,24),(2,64),(3,25),(4,33),(8,3),(9,4)]
def pB (i:Nat):TyD:=if i<74 then if i<69 then if i<68 then .p else .l 3 else if i<71 then .t 3 [(0,4),(1,68),(2,3)] else if i<72 then .a 16 70 48 else .t 49 [(0,67),(1,71)] else if i<76 then if i<75 then .p else .f else if i<78 then .p else if i<79 then .f else .t 4 [(0,39),(1,59),(2,29)]
def pC (i:Nat):TyD:=if i<89 then if i<85 then if i<83 then .f else .t 8 [(0,3),(1,3),(2,3),(3,3),(4,3),(5,2),(6,68),(7,68)] else if i<86 then .l 84 else if i<87 then .l 115 else .t 3 [(0,3),(1,68),(2,68)] else if i<93 then if i<91 then .t 9 [(0,3),(1,3),(2,88),(5,88),(8,68)] else .t 12 [(0,3),(1,86),(2,85),(3,90)] else if i<94 then .l 92 else if i<96 then .t 4 [(0,3),(1,86),(2,86),(3,93)] else .f
def pD (i:Nat):TyD:=if i<114 then if i<108 then if i<98 then .p else .f else if i<109 then .l 224 else if i<111 then .t 5 [(0,3),(1,3),(2,3),(3,108),(4,68)] else .f else if i<117 then if i<116 then .t 3 [(0,3),(1,3),(2,86)] else .f else if i<118 then .l 182 else if i<120 then .t 5 [(0,3),(1,3),(2,3),(3,117),(4,68)] else .t 0 []
def pE (i:Nat):TyD:=if i<128 then if i<124 then if i<123 then .i .i64 else .p else if i<125 then .f else if i<126 then .l 267 else .t 3 [(0,125),(1,3),(2,3)] else if i<130 then if i<129 then .p else .l 278 else if i<132 then .t 4 [(0,4),(1,129),(2,3),(3,3)] else if i<135 then .f else .p
def pF (i:Nat):TyD:=if i<142 then if i<139 then if i<137 then .f else .t 4 [(0,3),(1,3),(2,3),(3,25)] else if i<140 then .i .i64 else if i<141 then .b else .f else if i<146 then if i<143 then .p else .f else if i<147 then .l 4 else if i<149 then .t 3 [(0,25),(1,68),(2,146)] else .f
def pG (i:Nat):TyD:=if i<161 then if i<157 then if i<156 then .p else .f else if i<159 then .t 7 [(0,24),(1,95),(5,155),(6,86)] else if i<160 then .f else .p else if i<164 then if i<162 then .f else .t 1 [(0,146)] else if i<171 then .f else if i<172 then .p else .t 4 [(0,24),(1,29),(3,3)]
def pH (i:Nat):TyD:=if i<184 then if i<179 then if i<178 then .f else .p else if i<181 then .f else if i<183 then .t 4 [(0,3),(1,3),(2,3),(3,2)] else .b else if i<186 then if i<185 then .f else .b else if i<187 then .f else if i<188 then .b else .f
def pI (i:Nat):TyD:=if i<198 then if i<191 then if i<190 then .b else .f else if i<192 then .b else if i<197 then .f else .p else if i<209 then if i<207 then .f else .p else if i<210 then .f else if i<212 then .t 7 [(0,4),(1,4),(2,4),(3,4),(4,4),(5,4),(6,4)] else .b
def pJ (i:Nat):TyD:=if i<226 then if i<217 then if i<216 then .f else .b else if i<224 then .f else if i<225 then .t 4 [(0,3),(1,3),(2,3),(3,2)] else .f else if i<232 then if i<227 then .b else .f else if i<233 then .p else if i<238 then .f else .p
def pK (i:Nat):TyD:=if i<257 then if i<244 then if i<243 then .f else .p else if i<255 then .f else if i<256 then .i .u64 else .p else if i<265 then if i<259 then .t 7 [(0,256),(1,24),(2,95),(6,86)] else .f else if i<266 then .l 272 else if i<268 then .t 4 [(0,4),(1,265),(2,3),(3,3)] else .p
def pL (i:Nat):TyD:=if i<279 then if i<273 then if i<271 then .f else .t 2 [(0,4),(1,108)] else if i<274 then .p else if i<277 then .f else .t 2 [(0,4),(1,117)] else if i<283 then if i<280 then .p else .f else if i<284 then .i .i64 else if i<285 then .p else .f
def pM (i:Nat):TyD:=if i<295 then if i<292 then if i<290 then .b else .f else if i<293 then .i .u32 else if i<294 then .f else .i .u64 else if i<298 then if i<297 then .t 1 [(0,146)] else .i .i64 else if i<299 then .b else if i<304 then .f else .a 15 9 15
def pN (i:Nat):TyD:=if i<311 then if i<307 then if i<306 then .f else .l 5 else if i<308 then .f else if i<310 then .p else .i .u64 else if i<315 then if i<314 then .f else .p else if i<317 then .f else if i<318 then .p else .f
def pO (i:Nat):TyD:=if i<327 then if i<323 then if i<322 then .t 4 [(0,17),(1,17),(2,17),(3,9)] else .a 0 16 0 else if i<325 then .t 0 [(0,322)] else .i .u8 else if i<329 then if i<328 then .f else .p else if i<331 then .i .i32 else if i<333 then .t 11 [(0,12),(1,12),(2,292),(3,325),(4,5),(5,5),(6,326),(7,327),(8,328),(9,329),(10,330)] else .p
def KX (i:Nat):TyD:=if i<155 then if i<67 then if i<34 then if i<18 then px i else py i else if i<50 then pz i else pA i else if i<97 then if i<81 then pB i else pC i else if i<122 then pD i else if i<136 then pE i else pF i else if i<239 then if i<189 then if i<174 then pG i else pH i else if i<213 then pI i else pJ i else if i<289 then if i<269 then pK i else pL i else if i<305 then pM i else if i<320 then pN i else pO i
end
section

@[reducible] def uo:FuncId:=5
@[reducible] def U7:FuncId:=14
@[reducible] def zZ:FuncId:=15
@[reducible] def z3:FuncId:=16
@[reducible] def uq:FuncId:=18
@[reducible] def z6:FuncId:=19
@[reducible] def z7:FuncId:=21
@[reducible] def U8:FuncId:=22
@[reducible] def ur:FuncId:=24
@[reducible] def z9:FuncId:=28
@[reducible] def QcN:FuncId:=30
@[reducible] def Qbp:FuncId:=31
@[reducible] def QcR:FuncId:=32
@[reducible] def pP:FuncId:=33
@[reducible] def dd:FuncId:=34
@[reducible] def YF:FuncId:=35
@[reducible] def Q7Y:FuncId:=36
@[reducible] def uu:FuncId:=37
@[reducible] def Q6e:FuncId:=38
@[reducible] def Qbx:FuncId:=44
@[reducible] def uv:FuncId:=50
@[reducible] def Qj6:FuncId:=51
@[reducible] def R_F:FuncId:=52
@[reducible] def Qj1:FuncId:=53
@[reducible] def Qe0:FuncId:=54
@[reducible] def YG:FuncId:=55
@[reducible] def Qe1:FuncId:=56
@[reducible] def YH:FuncId:=57
@[reducible] def QcF:FuncId:=58
@[reducible] def pQ:FuncId:=59
@[reducible] def QiZ:FuncId:=60
@[reducible] def YI:FuncId:=61
@[reducible] def QfX:FuncId:=62
@[reducible] def U9:FuncId:=64
@[reducible] def Q47:FuncId:=65
@[reducible] def Va:FuncId:=66
@[reducible] def Qg4:FuncId:=67
@[reducible] def QcG:FuncId:=68
@[reducible] def uw:FuncId:=72
@[reducible] def Qe3:FuncId:=73
@[reducible] def Qe4:FuncId:=74
@[reducible] def uy:FuncId:=75
@[reducible] def uz:FuncId:=76
@[reducible] def QdW:FuncId:=77
@[reducible] def QdY:FuncId:=78
@[reducible] def QfQ:FuncId:=79
@[reducible] def uA:FuncId:=80
@[reducible] def uB:FuncId:=81
@[reducible] def Q8I:FuncId:=82
@[reducible] def Q8K:FuncId:=83
@[reducible] def gC:FuncId:=84
@[reducible] def Q5M:FuncId:=89
@[reducible] def Qbw:FuncId:=91
@[reducible] def Qg7:FuncId:=93
@[reducible] def Qj2:FuncId:=94
@[reducible] def Qbq:FuncId:=95
@[reducible] def Qj3:FuncId:=96
@[reducible] def Qg8:FuncId:=97
@[reducible] def QcP:FuncId:=98
@[reducible] def QcQ:FuncId:=99
@[reducible] def uC:FuncId:=100
@[reducible] def Qe2:FuncId:=101
@[reducible] def uD:FuncId:=102
@[reducible] def Q9s:FuncId:=103
@[reducible] def QdP:FuncId:=104
@[reducible] def Q9r:FuncId:=105
@[reducible] def Q2x:FuncId:=106
@[reducible] def pR:FuncId:=107
@[reducible] def Q82:FuncId:=108
@[reducible] def uE:FuncId:=109
@[reducible] def QfU:FuncId:=110
@[reducible] def Q5N:FuncId:=111
@[reducible] def QdX:FuncId:=112
@[reducible] def Qj4:FuncId:=113
@[reducible] def QfV:FuncId:=115
@[reducible] def QfW:FuncId:=116
@[reducible] def uF:FuncId:=120
@[reducible] def me:FuncId:=121
@[reducible] def Vb:FuncId:=122
@[reducible] def Qbn:FuncId:=123
@[reducible] def uG:FuncId:=124
@[reducible] def pS:FuncId:=125
@[reducible] def Qa0:FuncId:=126
@[reducible] def Qg9:FuncId:=127
@[reducible] def uH:FuncId:=128
@[reducible] def QiY:FuncId:=129
@[reducible] def Vc:FuncId:=130
@[reducible] def Qg5:FuncId:=131
@[reducible] def pT:FuncId:=132
@[reducible] def Q8J:FuncId:=133
@[reducible] def uI:FuncId:=134
@[reducible] def Q8H:FuncId:=135
@[reducible] def Q6L:FuncId:=136
@[reducible] def Q6K:FuncId:=137
@[reducible] def Q76:FuncId:=138
@[reducible] def Q7W:FuncId:=139
@[reducible] def pU:FuncId:=140
@[reducible] def Q77:FuncId:=141
@[reducible] def Q9L:FuncId:=142
@[reducible] def Q7X:FuncId:=143
@[reducible] def Qga:FuncId:=150
@[reducible] def YJ:FuncId:=151
@[reducible] def Vd:FuncId:=152
@[reducible] def uJ:FuncId:=153
@[reducible] def pV:FuncId:=154
@[reducible] def Qj0:FuncId:=155
@[reducible] def Ve:FuncId:=156
@[reducible] def uK:FuncId:=157
@[reducible] def Qg3:FuncId:=158
@[reducible] def QcZ:FuncId:=159
@[reducible] def Q2L:FuncId:=160
@[reducible] def Qcy:FuncId:=161
@[reducible] def Q1I:FuncId:=162
@[reducible] def Qfh:FuncId:=163
@[reducible] def Q9R:FuncId:=164
@[reducible] def Q9S:FuncId:=165
@[reducible] def uL:FuncId:=166
@[reducible] def QdV:FuncId:=167
@[reducible] def Qbm:FuncId:=186
@[reducible] def Qe5:FuncId:=187
@[reducible] def Q9Z:FuncId:=188
@[reducible] def Q7v:FuncId:=189
@[reducible] def QcL:FuncId:=190
@[reducible] def QcI:FuncId:=191
@[reducible] def Qbr:FuncId:=192
@[reducible] def QcK:FuncId:=193
@[reducible] def QcC:FuncId:=194
@[reducible] def QdU:FuncId:=195
@[reducible] def Q7p:FuncId:=196
@[reducible] def pW:FuncId:=197
@[reducible] def Q8L:FuncId:=198
@[reducible] def pX:FuncId:=199
@[reducible] def Q38:FuncId:=203
@[reducible] def Vf:FuncId:=204
@[reducible] def Vg:FuncId:=208
@[reducible] def Qfg:FuncId:=211
@[reducible] def QcY:FuncId:=212
@[reducible] def Vh:FuncId:=213
@[reducible] def QiH:FuncId:=214
@[reducible] def Qbg:FuncId:=215
@[reducible] def QcH:FuncId:=222
@[reducible] def QcJ:FuncId:=223
@[reducible] def Q9Y:FuncId:=224
@[reducible] def Q7q:FuncId:=225
@[reducible] def Q3Y:FuncId:=252
@[reducible] def pY:FuncId:=254
@[reducible] def Q4l:FuncId:=262
@[reducible] def QbB:FuncId:=263
@[reducible] def Q4M:FuncId:=265
end
end Go.Proofs.YteflkifmgnpbhaaGreat


namespace Go.Proofs.YteflkifmgnpbhaaGreat
open Go.Lir
theorem pZ:N6 Tryz.prog 68=some (3,1,8,[.int .i64 0]):=by kernel_rfl
theorem uM:N6 Tryz.prog 146=some (4,1,1,[.bool false]):=by kernel_rfl
theorem qa:N6 Tryz.prog 25=some (2,1,8,[.int .i64 0]):=by kernel_rfl
theorem qb:∃e2,Tryz.prog.underlying 68=some (.slice e2):=⟨3,by kernel_rfl⟩
end Go.Proofs.YteflkifmgnpbhaaGreat
namespace Go.Proofs.YteflkifmgnpbhaaGreat
open Go.Lir
attribute [local irreducible] LC.wp Q0 Qr Qj Lo QJ LO.wp Q6 Calls


def Ny (n:Nat)(fr:List Int):List Bool:=(List.range n).map fun (j:Nat)=> !decide ((j:Int)∈fr)
theorem aQ (n:Nat)(fr:List Int):(Ny n fr).length=n:=by simp [Ny]
theorem de {n:Nat}{fr:List Int}(h:j<n):(Ny n fr).getD j false= !decide ((j:Int)∈fr):=by
 simp [Ny,FE,FW,HP h]
theorem qd {n:Nat}{fr:List Int}{l:List Bool}(hl:l.length=n)(h:∀j<n,l.getD j false= !decide ((j:Int)∈fr)):l=Ny n fr:=
 te false (by rw [hl,aQ]) fun j hj=>by rw [h j Jo,de Jo]
theorem QgF {n:Nat}{fr:List Int}{k:Nat}(hk:k<n):(Ny n fr).set k false=Ny n (fr++[(k:Int)]):=by
 refine qd (by rw [Gf,aQ]) fun j hj=>?_;rw [iM EK];by_cases h:k=j
 · subst h;simp
 · rw [if_neg h,de hj];have:(j:Int)≠k:=DB;simp [this]
theorem QgE {n:Nat}{fr:List Int}{k:Nat}(hk:k<n)(hn:(k:Int)∉fr):(Ny n (fr++[(k:Int)])).set k true=Ny n fr:=by
 refine qd (by rw [Gf,aQ]) fun j hj=>?_;rw [iM EK];by_cases h:k=j
 · subst h;simp [hn]
 · rw [if_neg h,de hj];have:(j:Int)≠k:=DB;simp [this]
def PH (n i:Nat):List Int:=(List.range i).map fun j=>((n - 1 - j:Nat):Int)
theorem QdM {n i:Nat}:PH n (i+1)=PH n i++[((n - 1 - i:Nat):Int)]:=by
 simp [PH,Ib]
theorem mf (n i:Nat):(PH n i).length=i:=by simp [PH]
theorem gD {n i:Nat}{x:Int}(hi:i≤n):x∈PH n i↔(n:Int) - i≤x∧x<n:=by
 simp only [PH,Gm,Gp];constructor
 · rintro ⟨j,hj,rfl⟩;omega
 · rintro ⟨h1,h2⟩;exact ⟨n - 1 - x.toNat,Jo,Jo⟩
theorem uN {n i:Nat}(hi:i≤n):(PH n i).Nodup:=by
 unfold PH List.Nodup;rw [KD];refine (List.pairwise_lt_range (n:=i)).imp_of_mem ?_;intro a b ha hb h e;simp only [Gp] at ha hb;omega

def SB (ws:List Int)(k:Nat):List Int:=ws.take (k*16)++(List.replicate 16 0++ws.drop (k*16+16))
theorem QdQ {k:Nat}:(SB ws k).map Qs=(ws.map Qs).take (k*16)++(List.replicate ((k+1)*16 - k*16) (Qs 0)++(ws.map Qs).drop ((k+1)*16)):=by
 rw [show (k+1)*16 - k*16=16 by omega,show (k+1)*16=k*16+16 by omega];simp [SB,List.map_take,List.map_drop]
theorem uO {k n:Nat}(h:ws.length=n*16)(hk:k<n):(SB ws k).length=n*16:=by
 simp [SB];omega

structure PoolOk (n:Nat) (ws fr:List Int):Prop where
 len:ws.length=n*16
 nd:fr.Nodup
 rng:∀x∈fr,0≤x∧x<n
 le:n≤64
theorem PoolOk.frlen {n:Nat}{fr:List Int}(h:PoolOk n ws fr):fr.length≤n:=by
 have:=ck (b:=PH n n) h.nd fun x hx=>(gD (F6 n)).2 (by have:=h.rng x hx;omega);rw [mf] at this;exact this
theorem PoolOk.store {n i:Nat}{fr:List Int}{x:Int}(h:PoolOk n ws fr):PoolOk n (ws.set i x) fr:=⟨by rw [Gf];exact h.len,h.nd,h.rng,h.le⟩
theorem PoolOk.take {n k:Nat}{fr:List Int}(h:PoolOk n ws (fr++[(k:Int)])):PoolOk n (SB ws k) fr∧k<n∧(k:Int)∉fr:=by
 have hk:=h.rng k Js;obtain ⟨h1,_,h3⟩:=HG.1 h.nd;exact ⟨⟨uO h.len Jo,h1,fun x hx=>h.rng x D0,h.le⟩,Jo,fun hm=>h3 _ hm _ Js rfl⟩
theorem PoolOk.give {n k:Nat}{fr:List Int}(h:PoolOk n ws fr)(hk:k<n)(hn:(k:Int)∉fr):PoolOk n ws (fr++[(k:Int)]):=
 ⟨h.len,by rw [HG];exact ⟨h.nd,by simp,fun a ha b hb e=>by simp at hb;subst hb;subst e;exact hn ha⟩,fun x hx=>by
   rcases F5.1 hx with hx|hx
   · exact h.rng x hx
   · simp at hx;omega,h.le⟩
theorem uP {n:Nat}(h:n≤64):PoolOk n (List.replicate (n*16) 0) (PH n n):=
 ⟨by simp,uN (F6 n),fun x hx=>by have:=(gD (F6 n)).1 hx;omega,h⟩


structure PoolR (H:Ld) (p:Value) (F:Nat→Prop) (n:Nat) (ws fr:List Int) (b:Nat) (vw vl vt:Value) (Fw Fl Ft:Nat→Prop):Prop where
 hp:p= .pointer (some ⟨b,0,none⟩)
 blk:LY H b 148 [vw,vl,vt]
 sw:Sl H 2 1 vw Fw (ws.map Qs)
 sl:Sl H 3 1 vl Fl (fr.map Qs)
 st:Sl H 4 1 vt Ft ((Ny n fr).map QH)
 nw:¬Fw b
 nl:¬Fl b
 nt:¬Ft b
 wl:∀x,Fw x→¬Fl x
 wt:∀x,Fw x→¬Ft x
 lt:∀x,Fl x→¬Ft x
 hF:∀x,F x↔x=b∨Fw x∨Fl x∨Ft x
 ok:PoolOk n ws fr
def LQ (H:Ld)(p:Value)(F:Nat→Prop)(n:Nat)(ws fr:List Int):Prop:=∃b vw vl vt Fw Fl Ft,PoolR H p F n ws fr b vw vl vt Fw Fl Ft
theorem LQ.fr {p:Value}{F G:Nat→Prop}{n:Nat}{ws fr:List Int}{w w':World}(h:LQ w.heap p F n ws fr)(hf:Fr G w w')(hn:∀b,F b→¬G b):LQ w'.heap p F n ws fr:=by
 obtain ⟨b,vw,vl,vt,Fw,Fl,Ft,h⟩:=h
 exact ⟨b,vw,vl,vt,Fw,Fl,Ft,h.hp,h.blk.fr hf (hn b ((h.hF b).2 (.inl rfl))),h.sw.fr hf (fun x hx=>hn x ((h.hF x).2 (.inr (.inl hx)))),h.sl.fr hf (fun x hx=>hn x ((h.hF x).2 (.inr (.inr (.inl hx))))),
  h.st.fr hf (fun x hx=>hn x ((h.hF x).2 (.inr (.inr (.inr hx))))),h.nw,h.nl,h.nt,h.wl,h.wt,h.lt,h.hF,h.ok⟩
theorem LQ.lt {p:Value}{n:Nat}{fr:List Int}{H:Ld}(h:LQ H p F n ws fr):∀b,F b→b<H.size:=by
 obtain ⟨b,vw,vl,vt,Fw,Fl,Ft,h⟩:=h;intro x hx;rcases (h.hF x).1 hx with rfl|hx|hx|hx
 · exact h.blk.lt
 · exact h.sw.lt x hx
 · exact h.sl.lt x hx
 · exact h.st.lt x hx

theorem Qd1 {p:Value}{n:Nat}(h:LQ w.heap p F n ws []):KK Tryz.prog pY [p] w fun v w'=>v= .int .i64 (-1)∧w'=w:=by
 obtain ⟨b,vw,vl,vt,Fw,Fl,Ft,rfl,hb,hw,hl,ht,nw,nl,nt,wl,wt,lt,hF,ok⟩:=h;refine KY KX Tryz.func254 ?_;refine' Og;refine' Ma;refine Ph rfl Ja Jr ?_;((refine X5 DA hl ?_;rw [List.map_nil,F8]));refine' PV;refine' Pz;refine' LG;refine' Sx;refine' Lh;((exact AW))
theorem df {p:Value}{n k:Nat}{fr:List Int}(h:LQ w.heap p F n ws (fr++[(k:Int)])):KK Tryz.prog pY [p] w fun v w'=>v= .int .i64 k∧LQ w'.heap p F n (SB ws k) fr∧Fr F w w':=by
 obtain ⟨b,vw,vl,vt,Fw,Fl,Ft,rfl,hb,hw,hl,ht,nw,nl,nt,wl,wt,lt,hF,ok⟩:=h;obtain ⟨ok',hk,hkn⟩:=ok.take;have hll:((fr++[(k:Int)]).map Qs).length=fr.length+1:=DN;have hlw:(ws.map Qs).length=n*16:=Ea;have hfl:=ok.frlen;rw [FH,IN] at hfl;have hn:=ok.le;refine KY KX Tryz.func254 ?_;refine' Og;refine' Ma;refine Ph rfl Ja Jr ?_;refine X5 DA hl ?_;rw [hll];refine' PV;rw [show ((fr.length+1:Nat):Int) - 1=(fr.length:Int) by omega];refine' Pz;refine' Yz;refine' Sy;refine' Xw;refine Ph rfl Ja Jr ?_;refine' zm;refine cp DA rfl hl Jo ?_;intro b1 o1 hel1;refine Tx rfl hel1 (c:=Qs k) (by rw [Ga,FI (by rw [FF];omega)];simp) rfl ?_;refine' K5;refine' Lu;refine' Ma;refine Ph rfl Ja Jr ?_;refine' zm;refine Uc DA hl rfl ⟨_,rfl⟩ rfl Jo Jo ?_;intro vl1 hs1;rw [show ((List.map Qs (fr++[(k:Int)])).take fr.length).drop 0=fr.map Qs by rw [GD,Ga,List.take_left' (by rw [FF])]] at hs1;refine' Ma;refine od rfl DA hb Js hs1.oneC Jr ?_;intro w2 hf2 hz2 hb2;have hs2:=hs1.fr hf2 (fun x hx e=>nl (e ▸ hx));have hw2:=hw.fr hf2 (fun x hx e=>nw (e ▸ hx));have ht2:=ht.fr hf2 (fun x hx e=>nt (e ▸ hx));refine' Nb;refine' Ma;refine Ph rfl Ja Jr ?_;refine' zm;refine cp DA rfl ht2 (by rw [FF,aQ];exact hk) ?_;intro b3 o3 hel3;refine nT rfl DA hel3 (Ns QH _ false EK) Jo rfl ?_;intro w3 hf3 hz3 hel3';have ht3:=hel3'.sl;rw [show (QH ((Ny n (fr++[(k:Int)])).getD k false)).set 0 (Value.bool true)=QH true from rfl,map_set,QgE hk hkn] at ht3;have hb3:=hb2.fr hf3 nt;have hs3:=hs2.fr hf3 lt;have hw3:=hw2.fr hf3 wt;refine' Nb;refine' Ma;refine Ph rfl Ja Jr ?_;refine' zm;refine' Py;refine' zm;refine' NH;refine' Py;refine cj (T:=2) (l':=k*16) (h':=(k+1)*16) DA hw3 rfl ⟨_,rfl⟩ ⟨_,rfl⟩ Jo Jo ?_;intro v4 hsub4;refine X6 qa DH rfl hw3 hsub4 Jo Jo ?_;intro w4 hf4 hz4 hw4;have hb4:=hb3.fr hf4 nw;have hs4:=hs3.fr hf4 (fun x hl hw=>wl x hw hl);have ht4:=ht3.fr hf4 (fun x ht hw=>wt x hw ht);refine' Nb;refine' Ly;((refine ⟨_,rfl,rfl,⟨b,vw,vl1,vt,Fw,Fl,Ft,rfl,hb4,by rw [QdQ];exact hw4,hs4,ht4,nw,nl,nt,wl,wt,lt,hF,ok'⟩,?_⟩;refine ((hf2.mono fun x _ hx=>(hF x).2 (.inl hx)).trans (hf3.mono fun x _ hx=>(hF x).2 (.inr (.inr (.inr hx)))) (fun _ _ h=>h)).trans (hf4.mono fun x _ hx=>(hF x).2 (.inr (.inl hx))) (fun _ _ h=>h)))
theorem dg {p:Value}{n k:Nat}{fr:List Int}(h:LQ w.heap p F n ws fr)(hk:k<n)(hkn:(k:Int)∉fr):KK Tryz.prog pW [p, .int .i64 k] w fun v w'=>v= .bool true∧∃F',LQ w'.heap p F' n ws (fr++[(k:Int)])∧Step F F' w w':=by
 obtain ⟨b,vw,vl,vt,Fw,Fl,Ft,rfl,hb,hw,hl,ht,nw,nl,nt,wl,wt,lt,hF,ok⟩:=h;have hlt:((Ny n fr).map QH).length=n:=(by rw [FF,aQ]);have hfl:=ok.frlen;have hn:=ok.le;have htk:(Ny n fr).getD k false=true:=(by rw [de hk];simp [hkn]);refine KY KX Tryz.func197 ?_;refine' Ob;refine' Yz;refine' Ss;refine' Nf;(first|refine' KP|(refine' KQ;(first|(refine Tx rfl hel1 (Ns QH _ false DP) rfl ?_;rw [htk])|(refine Ph rfl Ja Jr ?_))));(first|refine' KP|(refine' KQ;refine X5 DA ht ?_));refine' l5;(first|refine Pr rfl DA ?_|refine Ra rfl DA ?_);refine' RY;refine' Nf;(first|refine' KP|(refine' KQ;(first|(refine Tx rfl hel1 (Ns QH _ false DP) rfl ?_;rw [htk])|(refine Ph rfl Ja Jr ?_))));refine' MT;(first|refine' KP|(refine' KQ;refine cp DA rfl ht Jo ?_;intro b1 o1 hel1));(first|refine' KP|(refine' KQ;refine Tx rfl hel1 (Ns QH _ false DP) rfl ?_;rw [htk]));refine' OG;(first|refine Pr rfl DA ?_|refine Ra rfl DA ?_);refine' Sy;refine' Xw;(first|(refine Tx rfl hel1 (Ns QH _ false DP) rfl ?_;rw [htk])|(refine Ph rfl Ja Jr ?_));refine' zm;refine cp DA rfl ht Jo ?_;intro b1 o1 hel1;refine nT rfl DA hel1 (Ns QH _ false DP) Jo rfl ?_;intro w3 hf3 hz3 hel3;have ht3:=hel3.sl;rw [show (QH ((Ny n fr).getD k false)).set 0 (Value.bool false)=QH false from rfl,map_set,QgF hk] at ht3;have hb3:=hb.fr hf3 nt;have hl3:=hl.fr hf3 lt;have hw3:=hw.fr hf3 wt;refine' zn;refine' Lu;refine' Ma;(first|(refine Tx rfl hel1 (Ns QH _ false DP) rfl ?_;rw [htk])|(refine Ph rfl Ja Jr ?_));refine' zm;refine RJ (cs:=[_]) DA Jr ?_;intro b4 w4 hb4 hf4 hz4 hk4;have hb4:=hb3.fr0 hf4;have hl4:=hl3.fr0 hf4;have hw4:=hw3.fr0 hf4;have ht4:=ht3.fr0 hf4;refine Ue pZ (.inl qb) DA DA hl4 (nW hk4 rfl) DE ?_;rintro vl5 w5 ⟨Fl5,hl5,hf5,hsub5⟩;have hout:∀x,x<w.heap.size→¬Fl x→¬Fl5 x:=(fun x hx hn h=>(hsub5 x h).elim hn (fun hz=>absurd hz Fi));have hb5:=hb4.fr hf5 nl;have hw5:=hw4.fr hf5 wl;have ht5:=ht4.fr hf5 (fun x ht hl=>lt x hl ht);refine' Ma;refine od rfl DA hb5 Js hl5.oneC Jr ?_;intro w6 hf6 hz6 hb6;have nl5:=hout b hb.lt nl;have hl6:=hl5.fr hf6 (fun x hx e=>nl5 (e ▸ hx));have hw6:=hw5.fr hf6 (fun x hx e=>nw (e ▸ hx));have ht6:=ht5.fr hf6 (fun x hx e=>nt (e ▸ hx));refine' zn;refine' Lh;(refine ⟨_,rfl,rfl,fun x=>x=b∨Fw x∨Fl5 x∨Ft x,⟨b,vw,vl5,vt,Fw,Fl5,Ft,rfl,hb6,hw6,by rw [Ga];exact hl6,ht6,nw,nl5,nt,fun x hx=>hout x (hw.lt x hx) (wl x hx),wt,fun x h5 ht'=>hout x (ht.lt x ht') (fun h=>lt x h ht') h5,fun x=>HL,ok.give hk hkn⟩,(((hf3.into fun x h=>(hF x).2 (.inr (.inr (.inr h)))).then0 hf4).cat (hf5.into fun x h=>(hF x).2 (.inr (.inr (.inl h))))).cat (hf6.into fun x h=>(hF x).2 (.inl h)),fun x hx=>?_⟩;rcases hx with h|h|h|h;exact .inl ((hF x).2 (.inl h));exact .inl ((hF x).2 (.inr (.inl h)));(rcases hsub5 x h with h|h;exact .inl ((hF x).2 (.inr (.inr (.inl h))));exact .inr Fi);exact .inl ((hF x).2 (.inr (.inr (.inr h)))))
theorem Qio {p:Value}{n:Nat}{k:Int}{fr:List Int}(h:LQ w.heap p F n ws fr)(hk:k<0∨(n:Int)≤k∨k∈fr):KK Tryz.prog pW [p, .int .i64 k] w fun v w'=>v= .bool false∧w'=w:=by
 ((obtain ⟨b,vw,vl,vt,Fw,Fl,Ft,rfl,hb,hw,hl,ht,nw,nl,nt,wl,wt,lt,hF,ok⟩:=h;have hlt:((Ny n fr).map QH).length=n:=(by rw [FF,aQ]);refine KY KX Tryz.func197 ?_;refine' Ob;first|(refine' LG)|(refine' LM)|(refine' Ae<;>intro hc));all_goals (refine' Ss;refine' Nf;(first|refine' KP|(refine' KQ;(first|(refine Tx rfl hel1 (Ns QH _ false DP) rfl ?_;rw [de Jo,show ((k.toNat:Nat):Int)=k by omega,decide_eq_true (show k∈fr from hk.resolve_left Jo|>.resolve_left Jo)])|(refine Ph rfl Ja Jr ?_))));(first|refine' KP|(refine' KQ;refine X5 DA ht ?_));first|refine' KP|(refine' KQ;(first|(refine' MV)|(refine' Nu)|(refine' Ag<;>intro hc)))));all_goals ((first|refine Pr rfl DA ?_|refine Ra rfl DA ?_);refine' RY;refine' Nf;(first|refine' KP|(refine' KQ;(first|(refine Tx rfl hel1 (Ns QH _ false DP) rfl ?_;rw [de Jo,show ((k.toNat:Nat):Int)=k by omega,decide_eq_true (show k∈fr from hk.resolve_left Jo|>.resolve_left Jo)])|(refine Ph rfl Ja Jr ?_))));refine' MT;(first|refine' KP|(refine' KQ;refine nS DA rfl ht Jo Jo ?_;intro b1 o1 hel1));(first|refine' KP|(refine' KQ;refine Tx rfl hel1 (Ns QH _ false DP) rfl ?_;rw [de Jo,show ((k.toNat:Nat):Int)=k by omega,decide_eq_true (show k∈fr from hk.resolve_left Jo|>.resolve_left Jo)]));refine' OG;(first|refine Pr rfl DA ?_|refine Ra rfl DA ?_);refine' Sx;refine' Lh;exact AW)
theorem YK {p:Value}{n i:Nat}{x:Int}{fr:List Int}(h:LQ w.heap p F n ws fr)(hi:i<n*16):KK Tryz.prog pU [p, .int .i64 i, .int .i64 x] w fun v w'=>v= .bool true∧LQ w'.heap p F n (ws.set i x) fr∧Fr F w w':=by
 obtain ⟨b,vw,vl,vt,Fw,Fl,Ft,rfl,hb,hw,hl,ht,nw,nl,nt,wl,wt,lt,hF,ok⟩:=h;have hlw:(ws.map Qs).length=n*16:=Ea;have hle:=ok.le;have hol:=ok.len;refine KY KX Tryz.func140 ?_;refine' Ob;refine' Yz;refine' Ss;refine' Nf;(first|refine' KP|(refine' KQ;refine Ph rfl Ja Jr ?_));(first|refine' KP|(refine' KQ;refine X5 DA hw ?_));refine' l5;(first|refine Pr rfl DA ?_|refine Ra rfl DA ?_);refine' Sy;refine' Xw;refine Ph rfl Ja Jr ?_;refine' M7;refine cp DA rfl hw Jo ?_;intro b1 o1 hel1;refine nT rfl DA hel1 (Ns Qs _ 0 Jo) Jo rfl ?_;intro w3 hf3 hz3 hel3;have hw3:=hel3.sl;rw [show (Qs (ws.getD i 0)).set 0 (Value.int .i64 x)=Qs x from rfl,map_set] at hw3;refine' zn;refine' Lh;(exact ⟨_,rfl,rfl,⟨b,vw,vl,vt,Fw,Fl,Ft,rfl,hb.fr hf3 nw,hw3,hl.fr hf3 (fun x hl hw=>wl x hw hl),ht.fr hf3 (fun x ht hw=>wt x hw ht),nw,nl,nt,wl,wt,lt,hF,ok.store⟩,hf3.into fun x h=>(hF x).2 (.inr (.inl h))⟩)
theorem Qfi {p:Value}{n:Nat}{i x:Int}{fr:List Int}(h:LQ w.heap p F n ws fr)(hi:i<0∨((n*16:Nat):Int)≤i):KK Tryz.prog pU [p, .int .i64 i, .int .i64 x] w fun v w'=>v= .bool false∧w'=w:=by
 (obtain ⟨b,vw,vl,vt,Fw,Fl,Ft,rfl,hb,hw,hl,ht,nw,nl,nt,wl,wt,lt,hF,ok⟩:=h;have hlw:(ws.map Qs).length=n*16:=Ea;refine KY KX Tryz.func140 ?_;refine' Ob;first|(refine' LG)|(refine' LM)|(refine' Ae<;>intro hc));all_goals (refine' Ss;refine' Nf;(first|refine' KP|(refine' KQ;refine Ph rfl Ja Jr ?_));(first|refine' KP|(refine' KQ;refine X5 DA hw ?_));(first|refine' KP|(refine' KQ;refine' MV));(first|refine Pr rfl DA ?_|refine Ra rfl DA ?_);refine' Sx;refine' Lh;exact AW)
theorem dh {p:Value}{n i:Nat}{fr:List Int}(h:LQ w.heap p F n ws fr)(hi:i<n*16):KK Tryz.prog pX [p, .int .i64 i] w fun v w'=>v= .tuple #[.int .i64 (ws.getD i 0), .bool true]∧w'=w:=by
 obtain ⟨b,vw,vl,vt,Fw,Fl,Ft,rfl,hb,hw,hl,ht,nw,nl,nt,wl,wt,lt,hF,ok⟩:=h;have hlw:(ws.map Qs).length=n*16:=Ea;have hle:=ok.le;have hol:=ok.len;refine KY KX Tryz.func199 ?_;refine' Ls;refine' Pz;refine' Yz;refine' Ss;refine' Nf;(first|refine' KP|(refine' KQ;(first|(refine Tx rfl hel1 (Ns Qs _ 0 Jo) rfl ?_)|(refine Ph rfl Ja Jr ?_))));(first|refine' KP|(refine' KQ;refine X5 DA hw ?_));refine' l5;(first|refine Pr rfl DA ?_|refine Ra rfl DA ?_);refine' Sy;refine' Xw;(first|(refine Tx rfl hel1 (Ns Qs _ 0 Jo) rfl ?_)|(refine Ph rfl Ja Jr ?_));refine' zm;refine cp DA rfl hw Jo ?_;intro b1 o1 hel1;refine Tx rfl hel1 (Ns Qs _ 0 Jo) rfl ?_;refine' O7;(exact AW)
theorem QhY {p:Value}{n:Nat}{i:Int}{fr:List Int}(h:LQ w.heap p F n ws fr)(hi:i<0∨((n*16:Nat):Int)≤i):KK Tryz.prog pX [p, .int .i64 i] w fun v w'=>v= .tuple #[.int .i64 0, .bool false]∧w'=w:=by
 (obtain ⟨b,vw,vl,vt,Fw,Fl,Ft,rfl,hb,hw,hl,ht,nw,nl,nt,wl,wt,lt,hF,ok⟩:=h;have hlw:(ws.map Qs).length=n*16:=Ea;refine KY KX Tryz.func199 ?_;refine' Ls;refine' Pz;first|(refine' LG)|(refine' LM)|(refine' Ae<;>intro hc));all_goals (refine' Ss;refine' Nf;(first|refine' KP|(refine' KQ;refine Ph rfl Ja Jr ?_));(first|refine' KP|(refine' KQ;refine X5 DA hw ?_));(first|refine' KP|(refine' KQ;refine' MV));(first|refine Pr rfl DA ?_|refine Ra rfl DA ?_);refine' Sx;refine' Sp;exact AW)
theorem Vi (n:Nat):Ny n (PH n n)=List.replicate n false:=by
 symm
 refine qd Js fun j hj=>?_;have:(j:Int)∈PH n n:=(gD (F6 n)).2 Jo;simp [this,FE,hj]

theorem QhQ {n:Int}(w:World)(hn:n<0∨64<n):KK Tryz.prog pT [.int .i64 n] w fun v w'=>v= .tuple #[.pointer none, .agg ⟨[.int .i64 1, .int .i64 (-1)]⟩]∧Fr NF w w':=by
 (refine KY KX Tryz.func132 ?_;refine' Ls;refine nL ?_;intro b3 w1 hb3e hf1 hz1 hb3;refine' zn;refine' NI;first|(refine' LG)|(refine' LM)|(refine' Ae<;>intro hc));all_goals (refine' Mr;(first|refine' KP|(refine' KQ;refine' QO));(first|refine Pr rfl DA ?_|refine Ra rfl DA ?_);refine' Sx;refine' K3;refine iO (cs:=[_,_]) DA DA Jr ?_;refine' zm;refine tg rfl rfl Jr hb3 Js DH (cs':=[_,_]) Jr ?_;intro w2 hf2 hz2 hb2;refine' Mu;refine T7 DA DA (Q2 (n:=2) Jk Jk hb2 Jr Jr) ?_;exact ⟨_,rfl,rfl,fX hf1 (fun b hb=>by omega) hf2⟩)

theorem YL {n:Nat}(w:World)(hn:n≤64):KK Tryz.prog pT [.int .i64 n] w fun v w'=>∃p F,v= .tuple #[p, .agg ⟨[.int .i64 0, .int .i64 0]⟩]∧LQ w'.heap p F n (List.replicate (n*16) 0) (PH n n)∧Fr NF w w'∧∀b,F b→w.heap.size≤b:=by
 refine KY KX Tryz.func132 ?_;refine' Ls;refine nL ?_;((intro b3 w1 hb3e hf hz1 hb3));refine' zn;refine' NI;refine' Yz;refine' Mr;refine' l4;(first|refine Pr rfl DA ?_|refine Ra rfl DA ?_);refine' Sy;refine Sa (fun ρ' w'=>∃(b:Nat) (vw vt:Value) (Fw Ft:Nat→Prop),KR ρ' [(0, .int .i64 n),(3, .pointer (some ⟨b3,0,none⟩)),(4, .pointer (some ⟨b,0,none⟩))]∧LY w'.heap b 148 [vw, .slice none 0 0,vt]∧Sl w'.heap 2 1 vw Fw (List.replicate (n*16) (Qs 0))∧Sl w'.heap 4 1 vt Ft (List.replicate n (QH false))∧LY w'.heap b3 29 [.int .i64 0, .int .i64 0]∧Fr NF w w'∧¬Fw b∧¬Ft b∧(∀x,Fw x→¬Ft x)∧b≠b3∧¬Fw b3∧¬Ft b3∧w.heap.size≤b∧(∀x,Fw x→w.heap.size≤x)∧∀x,Ft x→w.heap.size≤x) ?_ ?_
 · skip
   refine Ru 2 4 Jk ?_ ?_
   · skip;refine nR [(0,none),(1,none),(3,none),(2,some (some [])),(4,some none),(5,none),(6,some none),(7,some none)] Jk ?_;have hf:=hf.drew';have hb3:=hb3.fr0 (Ki (Ik NF _));refine' LP;refine' zm;refine' Rj;refine' LP;refine' Py;refine' Rj;refine' LP;refine' zm;refine' Rj;refine' RI;refine iK qa rfl rfl Jo Jo ?_;intro vw w2 hfw hw hzw;have hb3:=hb3.fr0 hfw;have hf:=hf.then0 hfw;refine' Rj;refine ⟨fun _ h=>(FQ h).elim,?_⟩;refine' L5;refine iK uM rfl rfl Jo Jo ?_;intro vt w3 hft ht hzt;have hb3:=hb3.fr0 hft;have hf:=hf.then0 hft;refine' Rj;refine' LP;obtain ⟨aw,cw,rfl⟩:=hw.shape;obtain ⟨at_,ct,rfl⟩:=ht.shape;refine iO (cs:=[_,_,_]) DA DA Jr ?_;refine' Rj;refine' L5;(have hw:=hw.fr0 hft);(first|have ht:=ht.fr0 hfw|skip);refine nZ DA Jr ?_;((intro b w4 hb hf4 hz4 hblk;have hb3:=hb3.fr0 hf4;have hw:=hw.fr0 hf4;have ht:=ht.fr0 hf4;have hf:=hf.then0 hf4));refine' Rj;refine' L5;refine' zm;refine' Rj;refine' lY;((have hd0:w1.drew.heap.size=w1.heap.size:=rfl;exact Cs))
   · skip;refine nR [(0,none),(1,none),(3,none),(4,some (some [])),(2,some (some [])),(5,none),(6,some none),(7,some none)] Jk ?_;have hf:=hf.drew';have hb3:=hb3.fr0 (Ki (Ik NF _));refine' LP;refine' zm;refine' Rj;refine' LP;refine' Py;refine' Rj;refine' LP;refine' zm;refine' Rj;refine' RI;refine iK uM rfl rfl Jo Jo ?_;intro vt w3 hft ht hzt;have hb3:=hb3.fr0 hft;have hf:=hf.then0 hft;refine' Rj;refine ⟨fun _ h=>(FQ h).elim,?_⟩;refine' RI;refine iK qa rfl rfl Jo Jo ?_;intro vw w2 hfw hw hzw;have hb3:=hb3.fr0 hfw;have hf:=hf.then0 hfw;refine' Rj;refine ⟨fun _ h=>(FQ h).elim,?_⟩;refine' LP;obtain ⟨aw,cw,rfl⟩:=hw.shape;obtain ⟨at_,ct,rfl⟩:=ht.shape;refine iO (cs:=[_,_,_]) DA DA Jr ?_;refine' Rj;refine' L5;(first|have hw:=hw.fr0 hft|skip);(have ht:=ht.fr0 hfw);refine nZ DA Jr ?_;((intro b w4 hb hf4 hz4 hblk;have hb3:=hb3.fr0 hf4;have hw:=hw.fr0 hf4;have ht:=ht.fr0 hf4;have hf:=hf.then0 hf4));refine' Rj;refine' L5;refine' zm;refine' Rj;refine' lY;((have hd0:w1.drew.heap.size=w1.heap.size:=rfl;exact Cs))
 rintro ρ w5 ⟨b,vw,vt,Fw,Ft,hρ,hb0,hw0,ht0,hb30,hf0,nw,nt,wt,nb,nw3,nt3,low,loww,lowt⟩;obtain ⟨ρ,rfl⟩:=ij _ hρ;refine' NI;refine' Ry;refine ik (fun ρ' w'=>∃(i:Nat) (vl:Value) (Fl:Nat→Prop),KR ρ' [(0, .int .i64 n),(3, .pointer (some ⟨b3,0,none⟩)),(4, .pointer (some ⟨b,0,none⟩)),(20, .int .i64 n),(21, .int .i64 i)]∧i≤n∧LY w'.heap b 148 [vw,vl,vt]∧Sl w'.heap 2 1 vw Fw (List.replicate (n*16) (Qs 0))∧Sl w'.heap 4 1 vt Ft (List.replicate n (QH false))∧Sl w'.heap 3 1 vl Fl ((PH n i).map Qs)∧LY w'.heap b3 29 [.int .i64 0, .int .i64 0]∧Fr NF w w'∧¬Fl b∧(∀x,Fl x→¬Fw x)∧(∀x,Fl x→¬Ft x)∧¬Fl b3∧∀x,Fl x→w.heap.size≤x) (fun ρ' _=>(n - iv (ρ' 21)).toNat) ?_ ?_
 · exact ⟨0,_,NF,⟨rfl,rfl,rfl,rfl,rfl,trivial⟩,Gt _,hb0,hw0,ht0,Sl.nil _ _ _,hb30,hf0,fun h=>h,fun _ h=>h.elim,fun _ h=>h.elim,fun h=>h,fun _ h=>h.elim⟩
 rintro ρ w5 ⟨i,vl,Fl,hρ,hi,hb,hw,ht,hl,hb3,hf,nl,lw,lt,nl3,lowl⟩;obtain ⟨ρ,rfl⟩:=ij _ hρ;have hsz:=hf.size;have hfl:((PH n i).map Qs).length=i:=(by rw [FF,mf]);refine' NV;refine' Ab<;>intro hc
 · skip;refine' MF;refine' NW;refine' NJ;refine' Ma;refine Ph rfl Ja Jr ?_;refine' zm;refine' PV;refine' zm;refine' PV;refine RJ (cs:=[_]) DA Jr ?_;intro b6 w6 hb6 hf6 hz6 hk6;have hb:=hb.fr0 hf6;have hw:=hw.fr0 hf6;have ht:=ht.fr0 hf6;have hl:=hl.fr0 hf6;have hb3:=hb3.fr0 hf6;have hf:=hf.then0 hf6;refine Ue pZ (.inl qb) DA DA hl (nW hk6 rfl) (by rw [hfl];simp;omega) ?_;rintro vl7 w7 ⟨Fl7,hl7,hf7,hsub7⟩;have hout:∀x,x<w6.heap.size→¬Fl x→¬Fl7 x:=(fun x hx hn h=>(hsub7 x h).elim hn (fun hz=>absurd hz Jo));have hll:=hw.lt;have hlt:=ht.lt;have hlb:=hb.lt;have hlb3:=hb3.lt;have hb:=hb.fr hf7 nl;have hw:=hw.fr hf7 (fun x h h'=>lw x h' h);have ht:=ht.fr hf7 (fun x h h'=>lt x h' h);have hb3:=hb3.fr hf7 nl3;have hf:=fX hf lowl hf7;have nl7:=hout b hlb nl;have lowl7:∀x,Fl7 x→w.heap.size≤x:=(fun x h=>(hsub7 x h).elim (lowl x) (fun h=>by omega));refine' Ma;refine od rfl DA hb Js hl7.oneC Jr ?_;intro w8 hf8 hz8 hb8;have hl8:=hl7.fr hf8 (fun x hx e=>nl7 (e ▸ hx));have hw8:=hw.fr hf8 (fun x hx e=>nw (e ▸ hx));have ht8:=ht.fr hf8 (fun x hx e=>nt (e ▸ hx));have hb38:=hb3.fr hf8 (fun e=>nb e.symm);have hf8':=fX hf (fun x hx=>by omega) hf8;refine' Sw;(refine ⟨⟨i+1,vl7,Fl7,⟨rfl,rfl,rfl,rfl,rfl,trivial⟩,Jo,hb8,hw8,ht8,?_,hb38,hf8',nl7,fun x h h'=>hout x (hll x h') (fun h=>lw x h h') h,fun x h h'=>hout x (hlt x h') (fun h=>lt x h h') h,hout b3 hlb3 nl3,lowl7⟩,Qc Jo⟩;rw [QdM,Ga];rw [show ((n - 1 - i:Nat):Int)=(n:Int) - 1 - i by omega];exact hl8)
 · skip;refine' L7;refine' Ls;refine lI (cs:=[_,_]) Jr ?_;refine' zm;refine tg rfl rfl Jr hb3 Js DH (cs':=[_,_]) Jr ?_;intro w9 hf9 hz9 hb9;refine' Mu;(refine T7 DA DA (Q2 (n:=2) Jk Jk hb9 Jr Jr) ?_;obtain rfl:i=n:=DB;refine ⟨_,rfl,_,fun x=>x=b∨Fw x∨Fl x∨Ft x,rfl,⟨b,vw,vl,vt,Fw,Fl,Ft,rfl,hb.fr hf9 nb,?_,?_,?_,nw,nl,nt,fun x h h'=>lw x h' h,wt,lt,fun x=>HL,uP hn⟩,fX hf (fun x hx=>by omega) hf9,?_⟩;rw [Iq];exact hw.fr hf9 (fun x hx e=>nw3 (e ▸ hx));exact hl.fr hf9 (fun x hx e=>nl3 (e ▸ hx));rw [Vi,Iq];exact ht.fr hf9 (fun x hx e=>nt3 (e ▸ hx));rintro x (rfl|h|h|h);exact low;exact loww x h;exact lowl x h;exact lowt x h)
end Go.Proofs.YteflkifmgnpbhaaGreat

namespace Go.Proofs.YteflkifmgnpbhaaGreat
open Go.Lir
attribute [local irreducible] LC.wp Q0 Qr Qj Lo QJ LO.wp Q6 Calls
section

end
section

structure PoolS where
 n:Nat
 ws:List Int
 fr:List Int
def PoolS.Ok (s:PoolS):Prop:=PoolOk s.n s.ws s.fr
def PoolS.mk0 (n:Nat):PoolS:=⟨n,List.replicate (n*16) 0,PH n n⟩
def PoolS.top (s:PoolS):Int:=s.fr.getLastD (-1)
def PoolS.take (s:PoolS):PoolS:=if s.fr=[] then s else ⟨s.n,SB s.ws s.top.toNat,s.fr.dropLast⟩
def PoolS.can (s:PoolS)(k:Int):Bool:=decide (0≤k∧k<s.n∧k∉s.fr)
def PoolS.give (s:PoolS)(k:Int):PoolS:=if s.can k then ⟨s.n,s.ws,s.fr++[k]⟩ else s
def PoolS.isIn (s:PoolS)(i:Int):Bool:=decide (0≤i∧i<((s.n*16:Nat):Int))
def PoolS.store (s:PoolS)(i x:Int):PoolS:=if s.isIn i then ⟨s.n,s.ws.set i.toNat x,s.fr⟩ else s
def PoolS.word (s:PoolS)(i:Int):Int:=if s.isIn i then s.ws.getD i.toNat 0 else 0

theorem PoolS.ok_new {n:Nat}(h:n≤64):(PoolS.mk0 n).Ok:=uP h
theorem PoolS.split {s:PoolS}(h:s.Ok):(s.fr=[]∧s.top=-1∧s.take=s)∨∃(k:Nat) (fr:List Int),s=⟨s.n,s.ws,fr++[(k:Int)]⟩∧s.top=k∧s.take=⟨s.n,SB s.ws k,fr⟩:=by
 obtain ⟨n,ws,fr⟩:=s;rcases HE fr with rfl|⟨fr,k,rfl⟩
 · exact .inl ⟨rfl,rfl,rfl⟩
 · simp only [Kc] at h ⊢
   have hk:=h.rng k Js;refine .inr ⟨k.toNat,fr,by rw [Gh hk.1],?_,?_⟩
   · simp [PoolS.top];omega
   · simp [PoolS.take,PoolS.top]
abbrev IA:=@PoolS.split
theorem PoolS.ok_take {s:PoolS}(h:s.Ok):s.take.Ok:=by
 rcases IA h with ⟨_,_,e⟩|⟨k,fr,e,_,e2⟩
 · rw [e];exact h
 · rw [e2];rw [e] at h;exact (PoolOk.take h).1
theorem PoolS.ok_give {s:PoolS}(h:s.Ok)(k:Int):(s.give k).Ok:=by
 unfold PoolS.give PoolS.can;split
 · rename_i hc;have hc:=of_decide_eq_true hc;obtain ⟨k,rfl⟩:=G4 hc.1;exact PoolOk.give (n:=s.n) h Jo hc.2.2
 · exact h
theorem PoolS.ok_store {s:PoolS}(h:s.Ok)(i x:Int):(s.store i x).Ok:=by
 unfold PoolS.store;split
 · exact PoolOk.store h
 · exact h
abbrev JI:=@PoolS.ok_store
theorem PoolS.n_take {s:PoolS}:s.take.n=s.n:=by unfold PoolS.take;split<;>rfl
abbrev J6:=@PoolS.n_take
theorem PoolS.n_give {s:PoolS}{k:Int}:(s.give k).n=s.n:=by unfold PoolS.give;split<;>rfl
abbrev J7:=@PoolS.n_give
theorem PoolS.n_store {s:PoolS}{i x:Int}:(s.store i x).n=s.n:=by unfold PoolS.store;split<;>rfl
abbrev HZ:=@PoolS.n_store
theorem PoolS.fr_store {s:PoolS}{i x:Int}:(s.store i x).fr=s.fr:=by unfold PoolS.store;split<;>rfl

abbrev It:=@PoolS.fr_store
def MW (p:Value)(s:PoolS):Res where
 A H F:=LQ H p F s.n s.ws s.fr
 loc:=by
  rintro H H' F ⟨b,vw,vl,vt,Fw,Fl,Ft,h⟩ hs;have hF:=h.hF
  exact ⟨b,vw,vl,vt,Fw,Fl,Ft,h.hp,h.blk.of_same (hs b ((hF b).2 (.inl rfl)) h.blk.lt),h.sw.of_same (fun x hx=>hs x ((hF x).2 (.inr (.inl hx)))),h.sl.of_same (fun x hx=>hs x ((hF x).2 (.inr (.inr (.inl hx))))),
   h.st.of_same (fun x hx=>hs x ((hF x).2 (.inr (.inr (.inr hx))))),h.nw,h.nl,h.nt,h.wl,h.wt,h.lt,h.hF,h.ok⟩
 lt:=LQ.lt
 ext:=by
  rintro H F G ⟨b,vw,vl,vt,Fw,Fl,Ft,h⟩ hs;exact ⟨b,vw,vl,vt,Fw,Fl,Ft,h.hp,h.blk,h.sw,h.sl,h.st,h.nw,h.nl,h.nt,h.wl,h.wt,h.lt,fun x=>(hs x).symm.trans (h.hF x),h.ok⟩
theorem Vj {i:Nat}{p:Value}{s:PoolS}(hS:St cx w L)(hi:nth L i=some (MW p s)):s.Ok:=by
 obtain ⟨F,hr,_⟩:=hS.step hi;obtain ⟨b,vw,vl,vt,Fw,Fl,Ft,h⟩:=hr;exact h.ok
theorem YM:∀{L:List Res}{i:Nat}{r:Res},nth L i=some r→L.set i r=L
 | [],_,_,h=>by cases h
 | s::L,0,r,h=>by simp only [nth,FU] at h;subst h;rfl
 | s::L,i+1,r,h=>by rw [FR,YM (L:=L) (i:=i) h]

variable {cx:Cx}{w:World}{L:List Res}{i:Nat}{p:Value}{s:PoolS}
theorem di (hS:St cx w L)(hi:nth L i=some (MW p s)):KK Tryz.prog pY [p] w fun v w'=>v= .int .i64 s.top∧St cx w' (L.set i (MW p s.take)):=by
 obtain ⟨F,hr,_,hst⟩:=hS.step hi;rcases IA (Vj hS hi) with ⟨h1,h2,h3⟩|⟨k,fr,h1,h2,h3⟩
 · rw [h2,h3,YM hi];have hr':LQ w.heap p F s.n s.ws []:=h1 ▸ hr;exact (Qd1 hr').mono fun v w' ⟨h,h2⟩=>⟨h,h2 ▸ hS⟩
 · rw [h2,h3];have hr':LQ w.heap p F s.n s.ws (fr++[(k:Int)]):=(by rw [h1] at hr;exact hr);exact (df hr').mono fun v w' ⟨h,h4,h5⟩=>⟨h,hst w' F _ h4 (IF h5)⟩
theorem dj (k:Int)(hS:St cx w L)(hi:nth L i=some (MW p s)):KK Tryz.prog pW [p, .int .i64 k] w fun v w'=>v= .bool (s.can k)∧St cx w' (L.set i (MW p (s.give k))):=by
 obtain ⟨F,hr,_,hst⟩:=hS.step hi;unfold PoolS.give;by_cases hc:0≤k∧k<s.n∧k∉s.fr
 · have e:s.can k=true:=decide_eq_true hc;rw [e,if_pos rfl];obtain ⟨k,rfl⟩:=G4 hc.1;exact (dg hr Jo hc.2.2).mono fun v w' ⟨h,F',h4,h5⟩=>⟨h,hst w' F' _ h4 h5⟩
 · have e:s.can k=false:=decide_eq_false hc
   rw [e,if_neg Js,YM hi];refine (Qio hr ?_).mono fun v w' ⟨h,h2⟩=>⟨h,h2 ▸ hS⟩;by_cases h1:k<0
   · exact .inl h1
   · by_cases h2:(s.n:Int)≤k
     · exact .inr (.inl h2)
     · exact .inr (.inr (Gi.1 fun h3=>hc ⟨Jo,Jo,h3⟩))
theorem mg (j x:Int)(hS:St cx w L)(hi:nth L i=some (MW p s)):KK Tryz.prog pU [p, .int .i64 j, .int .i64 x] w fun v w'=>v= .bool (s.isIn j)∧St cx w' (L.set i (MW p (s.store j x))):=by
 obtain ⟨F,hr,_,hst⟩:=hS.step hi;unfold PoolS.store;by_cases hc:0≤j∧j<((s.n*16:Nat):Int)
 · have e:s.isIn j=true:=decide_eq_true hc;rw [e,if_pos rfl];obtain ⟨j,rfl⟩:=G4 hc.1;exact (YK hr Jo).mono fun v w' ⟨h,h4,h5⟩=>⟨h,hst w' F _ h4 (IF h5)⟩
 · have e:s.isIn j=false:=decide_eq_false hc;rw [e,if_neg Js,YM hi];exact (Qfi hr Jo).mono fun v w' ⟨h,h2⟩=>⟨h,h2 ▸ hS⟩
theorem dk (j:Int)(hS:St cx w L)(hi:nth L i=some (MW p s)):KK Tryz.prog pX [p, .int .i64 j] w fun v w'=>v= .tuple #[.int .i64 (s.word j), .bool (s.isIn j)]∧St cx w' L:=by
 obtain ⟨F,hr,_⟩:=hS.step hi;unfold PoolS.word;by_cases hc:0≤j∧j<((s.n*16:Nat):Int)
 · have e:s.isIn j=true:=decide_eq_true hc;rw [e,if_pos rfl];obtain ⟨j,rfl⟩:=G4 hc.1;exact (dh hr Jo).mono fun v w' ⟨h,h2⟩=>⟨h,h2 ▸ hS⟩
 · have e:s.isIn j=false:=decide_eq_false hc;rw [e,if_neg Js];exact (QhY hr Jo).mono fun v w' ⟨h,h2⟩=>⟨h,h2 ▸ hS⟩
theorem jz (n:Int)(hS:St cx w L):KK Tryz.prog pT [.int .i64 n] w fun v w'=>
 (n<0∨64<n)∧v= .tuple #[.pointer none, .agg ⟨[.int .i64 1, .int .i64 (-1)]⟩]∧St cx w' L∨
 ∃(m:Nat) (b:Nat),n=m∧m≤64∧v= .tuple #[.pointer (some ⟨b,0,none⟩), .agg ⟨[.int .i64 0, .int .i64 0]⟩]∧St cx w' (MW (.pointer (some ⟨b,0,none⟩)) (PoolS.mk0 m)::L):=by
 by_cases hc:n<0∨64<n
 · exact (QhQ w hc).mono fun v w' ⟨h,h2⟩=> .inl ⟨hc,h,hS.fr0 h2⟩
 · obtain ⟨m,rfl⟩:=G4 (show 0≤n by omega);refine (YL w (show m≤64 by omega)).mono ?_;rintro v w' ⟨p,F,h,h2,h3,h4⟩;have h2':=h2;obtain ⟨b,_,_,_,_,_,_,h5⟩:=h2';have hp:=h5.hp;subst hp;exact .inr ⟨m,b,rfl,Jo,h,hS.new (r:=MW _ (PoolS.mk0 m)) h2 h3 h4⟩
end
end Go.Proofs.YteflkifmgnpbhaaGreat
namespace Go.Proofs.YteflkifmgnpbhaaGreat
open Go.Lir
def gE (ws:List Int)(k:Nat):Nat→List Int
 | 0=>ws
 | i+1=>(gE ws k i).set (k*16+i) 0
theorem mh (ws:List Int)(k:Nat):∀i,(gE ws k i).length=ws.length
 | 0=>rfl
 | i+1=>by rw [gE,Gf,mh ws k i]
theorem qe (ws:List Int)(k:Nat):∀(i j:Nat),k*16+i≤ws.length→(gE ws k i).getD j 0=if k*16≤j∧j<k*16+i then 0 else ws.getD j 0
 | 0,j,_=>by rw [if_neg Jo];rfl
 | i +1,j,h=>by
   rw [gE,iM (by rw [mh];omega),qe ws k i j Jo];by_cases h1:k*16+i=j
   · rw [if_pos h1,if_pos Jo]
   · rw [if_neg h1]
     by_cases h2:k*16≤j∧j<k*16+i
     · rw [if_pos h2,if_pos Jo]
     · rw [if_neg h2,if_neg Jo]
theorem QiL {k n:Nat}(h:ws.length=n*16)(hk:k<n):gE ws k 16=SB ws k:=by
 refine te 0 (by rw [mh,uO h hk,h]) fun j hj=>?_;rw [mh] at hj;rw [qe ws k 16 j Jo];simp only [SB,FE];have hl:(ws.take (k*16)).length=k*16:=Ez;by_cases h1:j<k*16
 · rw [if_neg Jo,FL Jo,Gv h1]
 · rw [FI Jo,hl]
   by_cases h2:j<k*16+16
   · rw [if_pos Jo,FL DE,Hy,if_pos Jo];rfl
   · rw [if_neg Jo,FI DE,HA];congr 2;simp;omega

end Go.Proofs.YteflkifmgnpbhaaGreat
namespace Go.Proofs.YteflkifmgnpbhaaGreat
open Go.Lir
attribute [local irreducible] LC.wp Q0 Qr Qj Lo QJ LO.wp Q6 Calls
section

def Mn (s:PoolS)(tk:List Int):Prop:=tk.Nodup∧∀k,k∈tk↔s.can k=true
theorem LA {s:PoolS}{k:Int}:s.can k=true↔0≤k∧k<s.n∧k∉s.fr:=decide_eq_true_iff
theorem Mn.len {s:PoolS}(h:Mn s tk)(ok:s.Ok):tk.length+s.fr.length=s.n:=by
 have hnd:(tk++s.fr).Nodup:=HG.2 ⟨h.1,ok.nd,fun a ha b hb e=>by subst e;exact (LA.1 ((h.2 a).1 ha)).2.2 hb⟩
 have h1:=ck (b:=PH s.n s.n) hnd fun x hx=>(gD (F6 _)).2 (by
  rcases F5.1 hx with hx|hx
  · have:=LA.1 ((h.2 x).1 hx);omega
  · have:=ok.rng x hx;omega)
 have h2:=ck (b:=tk++s.fr) (uN (F6 s.n)) fun x hx=>by
  have:=(gD (F6 _)).1 hx;by_cases hm:x∈s.fr
  · exact List.mem_append_right _ hm
  · exact H7 _ ((h.2 x).2 (LA.2 ⟨Jo,Jo,hm⟩))
 rw [mf,FH] at*;omega
theorem Mn.new {n:Nat}:Mn (PoolS.mk0 n) []:=⟨JG,fun k=>⟨fun h=>absurd h Js,fun h=>by
 obtain ⟨h1,h2,h3⟩:=LA.1 h;exact absurd ((gD (F6 n)).2 (by simp only [PoolS.mk0] at h2;omega)) h3⟩⟩
theorem Mn.take {s:PoolS}(h:Mn s tk)(ok:s.Ok){k:Nat}{fr:List Int}(h1:s=⟨s.n,s.ws,fr++[(k:Int)]⟩)(h2:s.top=k)(h3:s.take=⟨s.n,SB s.ws k,fr⟩):s.top∉tk∧k<s.n∧Mn s.take (tk++[s.top]):=by
 have ok':PoolOk s.n s.ws (fr++[(k:Int)]):=(by rw [h1] at ok;exact ok);obtain ⟨_,hk,hkn⟩:=ok'.take;have hfr:s.fr=fr++[(k:Int)]:=(by rw [h1]);have hnot:(k:Int)∉tk:=fun hm=>(LA.1 ((h.2 k).1 hm)).2.2 (by rw [hfr];simp);refine ⟨by rw [h2];exact hnot,hk,?_,fun x=>?_⟩
 · rw [h2];exact HG.2 ⟨h.1,by simp,fun a ha b hb e=>by simp at hb;subst hb;subst e;exact hnot ha⟩
 · rw [h2,F5,Gx,h.2 x,LA,LA,h3,hfr,F5,Gx]
   constructor
   · rintro (⟨h1,h2,h3⟩|rfl)
     · exact ⟨h1,h2,fun h=>h3 (.inl h)⟩
     · exact ⟨Jo,by simpa using hk,hkn⟩
   · rintro ⟨h1,h2,h3⟩
     by_cases hx:x=k
     · exact .inr hx
     · exact .inl ⟨h1,h2,fun h=>h.elim h3 hx⟩
theorem Mn.give {s:PoolS}(h:Mn s tk)(k:Int):Mn (s.give k) (tk.filter fun y=>decide (y≠k)):=by
 refine ⟨h.1.filter _,fun x=>?_⟩;rw [HS,h.2 x,LA,LA,decide_eq_true_iff,J7];unfold PoolS.give;split
 · simp only [F5,Gx,not_or]
   constructor
   · rintro ⟨⟨h1,h2,h3⟩,h4⟩;exact ⟨h1,h2,h3,h4⟩
   · rintro ⟨h1,h2,h3,h4⟩;exact ⟨⟨h1,h2,h3⟩,h4⟩
 · rename_i hc
   constructor
   · rintro ⟨h1,_⟩;exact h1
   · intro h1;exact ⟨h1,fun e=>hc (by subst e;exact LA.2 h1)⟩
theorem Mn.store {s:PoolS}(h:Mn s tk)(k x:Int):Mn (s.store k x) tk:=⟨h.1,fun y=>by rw [h.2 y,LA,LA,HZ,It]⟩
theorem Mn.perm {s:PoolS}(h:Mn s l)(hp:l.Perm l'):Mn s l':=⟨hp.nodup_iff.1 h.1,fun k=>by rw [←h.2 k];exact hp.mem_iff.symm⟩
def PoolS.gives (s:PoolS)(l:List Int):PoolS:=l.foldl PoolS.give s
theorem PoolS.n_gives:∀{s:PoolS},(s.gives l).n=s.n:=by
 induction l with
 | nil=>intro s;rfl
 | cons k l ih=>intro s;exact (ih (s:=s.give k)).trans J7
abbrev JV:=@PoolS.n_gives
theorem PoolS.ok_gives:∀{s:PoolS},s.Ok→(s.gives l).Ok:=by
 induction l with
 | nil=>intro s h;exact h
 | cons k l ih=>intro s h;exact ih (s:=s.give k) (PoolS.ok_give h k)
theorem QfN {s:PoolS}(h:j<l.length):s.gives (l.take (j+1))=(s.gives (l.take j)).give (l.getD j 0):=by
 rw [td 0 h];simp [PoolS.gives,List.foldl_append]
theorem Mn.gives {rest:List Int}:∀{s:PoolS},Mn s (l++rest)→Mn (s.gives l) rest:=by
 induction l with
 | nil=>intro s h;exact h
 | cons k l ih=>
   intro s h;have h1:=h.give k;have hnd:=h.1;rw [G3,HC] at hnd
   have e:((k::l++rest).filter fun y=>decide (y≠k))=l++rest:=by
    rw [G3,JY Js];exact List.filter_eq_self.2 fun y hy=>decide_eq_true fun e=>hnd.1 (e ▸ hy)
   rw [e] at h1;exact ih h1
theorem uQ {α:Type}:∀{l:List α}{k:Nat}{x:α},l[k]?=some x→l.Perm (x::l.eraseIdx k)
 | [],_,_,h=>by simp at h
 | y::l,0,x,h=>by simp at h;subst h;exact .refl _
 | y::l,k+1,x,h=>((uQ (l:=l) DO).cons y).trans (.swap _ _ _)
theorem uR {α:Type}:∀{l:List α}{k:Nat}{x:α},k<l.length→(l.set k x).Perm (x::l.eraseIdx k)
 | [],_,_,h=>by simp at h
 | y::l,0,x,h=> .refl _
 | y::l,k+1,x,h=>((uR (l:=l) DO).cons y).trans (.swap _ _ _)
end
section

structure Reg where
 there:Bool
 pages:List Int
 used:Int
def Reg.none:Reg:=⟨false,[],0⟩
structure EstS where
 p:PoolS
 rs:List Reg
def EstS.reg (s:EstS)(k:Int):Reg:=if 0≤k then s.rs.getD k.toNat Reg.none else Reg.none
def EstS.has (s:EstS)(k:Int):Bool:=(s.reg k).there
def EstS.all (s:EstS):List Int:=s.rs.flatMap Reg.pages
structure EstS.Ok (s:EstS):Prop where
 len:s.rs.length=16
 off:∀r∈s.rs,r.there=false→r=Reg.none
 used:∀r∈s.rs,0≤r.used∧r.used≤16
 tk:Mn s.p s.all
 pok:s.p.Ok
 n64:s.p.n≤64
def EstS.low (s:EstS):Nat:=s.rs.findIdx fun r=> !r.there
def EstS.open (s:EstS):EstS:=if s.low<16 then ⟨s.p,s.rs.set s.low ⟨true,[],0⟩⟩ else s
def EstS.openV (s:EstS):Int:=if s.low<16 then s.low else -1
def EstS.shut (s:EstS)(k:Int):EstS:=if s.has k then ⟨s.p.gives (s.reg k).pages,s.rs.set k.toNat Reg.none⟩ else s
def Reg.more (r:Reg)(n:Int):Bool:=decide (r.pages=[]∨16<r.used+n)
def Reg.last (r:Reg):Int:=r.pages.getLastD 0
def EstS.code (s:EstS)(k n:Int):Int:=if !s.has k then 15 else if n<1∨16<n then 1 else if (s.reg k).more n∧s.p.fr=[] then 14 else 0
def Reg.grow (r:Reg)(p:Int):Reg:=⟨r.there,r.pages++[p],0⟩
def Reg.use (r:Reg)(n:Int):Reg:=⟨r.there,r.pages,r.used+n⟩
def EstS.regTo (s:EstS)(k n:Int):Reg:=if (s.reg k).more n then (s.reg k).grow s.p.top else s.reg k
def EstS.get (s:EstS)(k n:Int):EstS:=if s.code k n=0 then ⟨if (s.reg k).more n then s.p.take else s.p,s.rs.set k.toNat ((s.regTo k n).use n)⟩ else s
def EstS.getV (s:EstS)(k n:Int):Int:=if s.code k n=0 then (s.regTo k n).last*16+(s.regTo k n).used else 0
def EstS.count (s:EstS):Int:=(s.rs.countP fun r=>r.there:Nat)
def EstS.mk0 (n:Nat):EstS:=⟨PoolS.mk0 n,List.replicate 16 Reg.none⟩

theorem EstS.reg_at {s:EstS}(h:s.Ok){k:Nat}(hk:k<16):s.rs[k]?=some (s.reg k):=by
 have:=h.len;unfold EstS.reg;rw [if_pos Jo,show (k:Int).toNat=k by omega];exact Uh Jo
abbrev G6:=@EstS.reg_at
theorem EstS.reg_out {s:EstS}(h:s.Ok){k:Int}(hk:k<0∨16≤k):s.reg k=Reg.none:=by
 have:=h.len;unfold EstS.reg;split
 · rw [FE,Gb Jo];rfl
 · rfl
abbrev J8:=@EstS.reg_out
theorem EstS.has_in {s:EstS}(h:s.Ok){k:Int}(hk:s.has k=true):∃m:Nat,k=m∧m<16:=by
 by_cases hc:k<0∨16≤k
 · unfold EstS.has at hk;rw [J8 h hc] at hk;cases hk
 · exact ⟨k.toNat,Jo,Jo⟩
abbrev IX:=@EstS.has_in
theorem uS {s:EstS}{k:Nat}{r:Reg}(hr:s.rs[k]?=some r):s.all.Perm (r.pages++(s.rs.eraseIdx k).flatMap Reg.pages):=by
 have:=(uQ hr).flatMap_right Reg.pages;rw [Iz] at this;exact this
theorem uT {rs:List Reg}{k:Nat}{r':Reg}(hk:k<rs.length):((rs.set k r').flatMap Reg.pages).Perm (r'.pages++(rs.eraseIdx k).flatMap Reg.pages):=by
 have:=(uR (x:=r') hk).flatMap_right Reg.pages
 simpa [Iz] using this
theorem OH {l:List α}{k:Nat}{x y:α}(h:y∈l.set k x):y=x∨y∈l:=(Iw h).symm
theorem EstS.ok_set {s:EstS}(h:s.Ok){p:PoolS}{k:Nat}(hk:k<16){r':Reg}(h1:r'.there=false→r'=Reg.none)(h2:0≤r'.used∧r'.used≤16)(h3:Mn p (r'.pages++(s.rs.eraseIdx k).flatMap Reg.pages))(h4:p.Ok)(h5:p.n=s.p.n):(⟨p,s.rs.set k r'⟩:EstS).Ok:=by
 have hl:=h.len;refine ⟨by simpa using hl,fun r hr=>?_,fun r hr=>?_,h3.perm (uT Jo).symm,h4,by rw [h5];exact h.n64⟩
 · rcases OH hr with rfl|hr
   · exact h1
   · exact h.off r hr
 · rcases OH hr with rfl|hr
   · exact h2
   · exact h.used r hr
abbrev IY:=@EstS.ok_set
theorem EstS.tk_at {s:EstS}(h:s.Ok){k:Nat}(hk:k<16):Mn s.p ((s.reg k).pages++(s.rs.eraseIdx k).flatMap Reg.pages):=h.tk.perm (uS (G6 h hk))
abbrev HJ:=@EstS.tk_at
theorem EstS.ok_new {n:Nat}(hn:n≤64):(EstS.mk0 n).Ok:=
 ⟨by simp [EstS.mk0],fun r hr _=>GX hr,fun r hr=>by rw [GX hr];simp [Reg.none],by
   have:(EstS.mk0 n).all=[]:=(by simp [EstS.all,EstS.mk0,Reg.none,List.flatMap_replicate]);rw [this];exact Mn.new,PoolS.ok_new hn,hn⟩

abbrev Kk:=@EstS.ok_new
theorem EstS.low_le {s:EstS}(h:s.Ok):s.low≤16:=by have:=List.findIdx_le_length (xs:=s.rs) (p:=fun r=> !r.there);rw [h.len] at this;exact this
theorem EstS.low_eq {s:EstS}(h:s.Ok){i:Nat}(hi:i<16)(h1:(s.reg i).there=false)(h2:∀j,j<i→(s.reg (j:Nat)).there=true):s.low=i:=by
 have hl:=h.len;refine (List.findIdx_eq Jo).2 ⟨?_,fun j hj=>?_⟩
 · have:=G6 h hi;rw [FB Jo] at this;simp only [FU] at this;rw [this,h1];rfl
 · have:=G6 h (show j<16 by omega);rw [FB Jo] at this;simp only [FU] at this;rw [this,h2 j hj];rfl
theorem EstS.low_full {s:EstS}(h:s.Ok)(h2:∀j,j<16→(s.reg (j:Nat)).there=true):s.low=16:=by
 have hl:=h.len;rw [←hl];refine J3.2 fun r hr=>?_;obtain ⟨j,hj⟩:=GH.1 hr;have hj16:j<16:=(by have:=(FD.1 hj).1;omega);have:=G6 h hj16;rw [hj] at this;simp only [FU] at this;rw [this,h2 j hj16];rfl
theorem EstS.low_off {s:EstS}(h:s.Ok)(hl:s.low<16):s.reg s.low=Reg.none:=by
 have h1:=G6 h hl;have h2:s.low<s.rs.length:=(by rw [h.len];exact hl);have h3:=List.findIdx_getElem (xs:=s.rs) (p:=fun r:Reg=> !r.there) (w:=h2);rw [FB h2] at h1;simp only [FU] at h1;have h4:(s.rs[s.low]'h2).there=false:=(by have h5:(!(s.rs[s.low]'h2).there)=true:=h3;simpa using h5);rw [←h1];exact h.off _ (HM h2) h4
abbrev Jg:=@EstS.low_off
theorem EstS.ok_open {s:EstS}(h:s.Ok):s.open.Ok:=by
 unfold EstS.open;split
 · rename_i hl;have:=HJ h hl;rw [Jg h hl] at this;exact IY h hl (fun hf=>by cases hf) ⟨Jx _,by simp⟩ this h.pok rfl
 · exact h
abbrev J9:=@EstS.ok_open
theorem EstS.ok_shut {s:EstS}(h:s.Ok)(k:Int):(s.shut k).Ok:=by
 unfold EstS.shut;split
 · rename_i hk;obtain ⟨m,rfl,hm⟩:=IX h hk;exact IY h (show (m:Int).toNat<16 by omega) (fun _=>rfl) ⟨Jx _,by simp [Reg.none]⟩ (by rw [show (m:Int).toNat=m by omega];exact (HJ h hm).gives) (PoolS.ok_gives h.pok) JV
 · exact h
abbrev Ka:=@EstS.ok_shut
theorem EstS.code_0 {s:EstS}{k n:Int}(hc:s.code k n=0):s.has k=true∧1≤n∧n≤16∧¬((s.reg k).more n=true∧s.p.fr=[]):=by
 unfold EstS.code at hc;split at hc
 · cases hc
 · rename_i h1
   split at hc
   · cases hc
   · split at hc
     · cases hc
     · rename_i h2 h3;exact ⟨by simpa using h1,Jo,Jo,h3⟩
abbrev Kl:=@EstS.code_0
theorem EstS.regTo_len {s:EstS}(h:s.Ok){k:Nat}(hk:k<16):(s.reg k).pages.length≤64:=by
 have:=(HJ h hk).len h.pok;rw [FH] at this;have:=h.n64;omega
abbrev JJ:=@EstS.regTo_len
theorem Reg.more_f {r:Reg}{n:Int}(h:¬r.more n=true):r.pages≠[]∧r.used+n≤16:=by
 unfold Reg.more at h;rw [decide_eq_true_iff] at h;exact ⟨fun e=>h (.inl e),Jo⟩
abbrev KA:=@Reg.more_f
theorem EstS.ok_get {s:EstS}(h:s.Ok)(k n:Int):(s.get k n).Ok:=by
 unfold EstS.get;split
 · rename_i hc
   obtain ⟨h1,h2,h3,h4⟩:=Kl hc;obtain ⟨m,rfl,hm⟩:=IX h h1;rw [show (m:Int).toNat=m by omega];have hth:(s.reg m).there=true:=h1;have hu:=h.used _ (FC (G6 h hm));unfold EstS.regTo;by_cases hmo:(s.reg m).more n=true
   · rw [if_pos hmo,if_pos hmo]
     rcases IA h.pok with ⟨e,_⟩|⟨kk,fr,e1,e2,e3⟩
     · exact absurd ⟨hmo,e⟩ h4
     · obtain ⟨_,_,h5⟩:=(HJ h hm).take h.pok e1 e2 e3;refine IY h hm (fun hf=>by simp [Reg.use,Reg.grow,hth] at hf) ⟨by simp [Reg.use,Reg.grow];omega,by simp [Reg.use,Reg.grow];omega⟩ ?_ (PoolS.ok_take h.pok) J6;simp only [Reg.use,Reg.grow];refine h5.perm ?_;rw [Hg,Hg];exact (IP).append_left _
   · rw [if_neg hmo,if_neg hmo];obtain ⟨_,h6⟩:=KA hmo;exact IY h hm (fun hf=>by simp [Reg.use,hth] at hf) ⟨by simp [Reg.use];omega,by simp [Reg.use];omega⟩ (HJ h hm) h.pok rfl
 · exact h

abbrev Km:=@EstS.ok_get
structure RegV where
 there:Bool
 pv:Value
 pages:List Int
 used:Int
def RegV.reg (r:RegV):Reg:=⟨r.there,r.pages,r.used⟩
def RegV.cells (r:RegV):List Value:=[.bool r.there,r.pv, .int .i64 r.used]
def RegV.res (r:RegV):Res:=sl 3 1 r.pv (r.pages.map Qs)
def RegV.nil:RegV:=⟨false, .slice none 0 0,[],0⟩
def MA (rv:List RegV):List Value:=(rv.map RegV.cells).flatten
theorem ph (rv:List RegV):(MA rv).length=rv.length*3:=by
 have:=R9 (es:=3) (css:=rv.map RegV.cells) Ev;rw [FF] at this;exact this
theorem NX {rv:List RegV}{r:RegV}(hr:rv[m]?=some r)(hu:r.cells[j]?=some u):(pp::MA rv)[1+m*3+j]?=some u:=by
 have hj:j<3:=(FD.1 hu).1;have:=iI (es:=3) (css:=rv.map RegV.cells) Ev (m:=m) (j:=j) (c:=r.cells) (by rw [FW,hr];rfl) hj;rw [show 1+m*3+j=(m*3+j)+1 by omega,GI];exact this.trans hu
theorem Vk {rv:List RegV}{r r':RegV}(hr:rv[m]?=some r)(hj:j<3)(hu:r.cells.set j u=r'.cells):(pp::MA rv).set (1+m*3+j) u=pp::MA (rv.set m r'):=by
 have:=sY (es:=3) (css:=rv.map RegV.cells) Ev (m:=m) (j:=j) (c:=r.cells) (u:=u) (by rw [FW,hr];rfl) hj;rw [show 1+m*3+j=(m*3+j)+1 by omega,FR];unfold MA;rw [G8,←hu,this]
theorem Vl {rv:List RegV}{r':RegV}(hm:m<rv.length):(pp::MA rv).take (1+m*3)++(r'.cells++(pp::MA rv).drop (1+m*3+3))=pp::MA (rv.set m r'):=by
 have hl:∀l:List RegV,(∀c∈l.map RegV.cells,c.length=3):=(by intro l c hc;obtain ⟨r,_,rfl⟩:=Gm.1 hc;rfl);rw [show 1+m*3=m*3+1 by omega,show m*3+1+3=(m+1)*3+1 by omega,Ih,Ks,G3];congr 1;have e:rv=rv.take m++(rv[m]'hm::rv.drop (m+1)):=(by rw [←JL hm,Ho]);have e2:rv.set m r'=rv.take m++(r'::rv.drop (m+1)):=by rw [Hq,if_pos hm]
 have f1:MA rv=MA (rv.take m)++((rv[m]'hm).cells++MA (rv.drop (m+1))):=by
  refine (congrArg MA e).trans ?_;simp only [MA,Ga,He,Hw,HH]
 have l1:(MA (rv.take m)).length=m*3:=(by rw [ph,GM];omega);rw [e2,f1];have t1:(MA (rv.take m)++((rv[m]'hm).cells++MA (rv.drop (m+1)))).take (m*3)=MA (rv.take m):=by rw [←l1,List.take_left'];rfl
 have t2:(MA (rv.take m)++((rv[m]'hm).cells++MA (rv.drop (m+1)))).drop ((m+1)*3)=MA (rv.drop (m+1)):=by
  rw [←Hg,List.drop_left'];rw [FH,l1];show m*3+3=_;omega
 rw [t1,t2];simp [MA]

structure EstO (e:Value) (s:EstS) (b:Nat) (rv:List RegV):Prop where
 he:e= .pointer (some ⟨b,0,none⟩)
 hr:rv.map RegV.reg=s.rs
 ok:s.Ok
def Nz (e:Value)(s:EstS):Res:=Res.ex fun x:Nat×Value×List RegV=>Res.pure (EstO e s x.1 x.2.2) (RK [blk x.1 73 (x.2.1::MA x.2.2),MW x.2.1 s.p,LF RegV.res x.2.2])
variable {cx:Cx}{w:World}{L:List Res}{i:Nat}{e:Value}{s:EstS}
theorem Vm (hS:St cx w (Nz e s::L)):∃b pp rv,EstO e s b rv∧St cx w (blk b 73 (pp::MA rv)::MW pp s.p::LF RegV.res rv::L):=by
 obtain ⟨⟨b,pp,rv⟩,h⟩:=hS.ex;obtain ⟨h1,h2⟩:=h.pure;exact ⟨b,pp,rv,h1,h2.list⟩
theorem RQ {pp:Value}{rv:List RegV}(h:EstO e s b rv)(hS:St cx w (blk b 73 (pp::MA rv)::MW pp s.p::LF RegV.res rv::L)):St cx w (Nz e s::L):=
 Kw (b,pp,rv) (St.pure' h (JH hS))
theorem EstO.len {rv:List RegV}(h:EstO e s b rv):rv.length=16:=by have:=congrArg List.length h.hr;rw [FF,h.ok.len] at this;exact this
theorem EstO.at_ {rv:List RegV}(h:EstO e s b rv){k:Nat}(hk:k<16):∃r,rv[k]?=some r∧s.reg k=r.reg:=by
 have hl:=h.len;refine ⟨rv[k]' DB,FB Jo,?_⟩;have:=G6 h.ok hk;rw [←h.hr,FW,FB Jo] at this
 simpa using this.symm
theorem EstO.set {rv:List RegV}(h:EstO e s b rv){s':EstS}{k:Nat}{r':RegV}(hs:s'.rs=s.rs.set k r'.reg)(ok:s'.Ok):EstO e s' b (rv.set k r'):=⟨h.he,by rw [G8,h.hr,hs],ok⟩
theorem uU (hS:St cx w L)(hi:nth L i=some (Nz e s)):s.Ok∧∃b,e= .pointer (some ⟨b,0,none⟩):=by
 obtain ⟨b,pp,rv,ho,_⟩:=Vm (hS.out hi);exact ⟨ho.ok,b,ho.he⟩
theorem Vn (hS:St cx w L)(hi:nth L i=some (Nz (.pointer (some ⟨b,0,none⟩)) s)):∃pp rv,EstO (.pointer (some ⟨b,0,none⟩)) s b rv∧St cx w (blk b 73 (pp::MA rv)::MW pp s.p::LF RegV.res rv::L.eraseIdx i):=by
 obtain ⟨b',pp,rv,ho,h⟩:=Vm (hS.out hi);have he:=ho.he;cases he;exact ⟨pp,rv,ho,h⟩
theorem EstS.pages_rng {s:EstS}(h:s.Ok){k:Nat}(hk:k<16):∀x∈(s.reg k).pages,0≤x∧x<64:=by
 intro x hx;have:=LA.1 (((HJ h hk).2 x).1 (H7 _ hx));have:=h.n64;omega
theorem Qcs (h:l≠[]):l.getD (((l.length:Nat):Int) - 1).toNat 0=l.getLastD 0:=by
 rcases HE l with rfl|⟨l',x,rfl⟩
 · exact absurd rfl h
 · rw [Kc];have e2:(l'++[x]).getLastD 0=x:=DN;rw [e2,FH,IN,show (((l'.length+1:Nat):Int) - 1).toNat=l'.length by omega,FE,FI (F6 _)];simp
theorem EstS.used_rng {s:EstS}(h:s.Ok){k:Nat}(hk:k<16):0≤(s.reg k).used∧(s.reg k).used≤16:=h.used _ (FC (G6 h hk))
abbrev H2:=@EstS.used_rng
end
section
variable {cx:Cx}{w:World}{L:List Res}{i:Nat}{e:Value}{s:EstS}

theorem EstS.has_at {s:EstS}(h:s.Ok){e:Value}{rv:List RegV}(ho:EstO e s b rv){k:Nat}(hk:k<16){r:RegV}(hr:rv[k]?=some r):s.has k=r.there:=by
 obtain ⟨r',h1,h2⟩:=ho.at_ hk;rw [hr] at h1;cases h1;unfold EstS.has;rw [h2];rfl
theorem jA (k:Int)(hS:St cx w L)(hi:nth L i=some (Nz e s)):KK Tryz.prog Q7p [e, .int .i64 k] w fun v w'=>v= .bool (s.has k)∧St cx w' L:=by
 obtain ⟨b,pp,rv,ho,hS⟩:=Vm (hS.out hi);obtain rfl:=ho.he;have ok:=ho.ok;rcases (show (k<0∨16≤k)∨∃m:Nat,k=m∧m<16 by (by_cases h:k<0∨16≤k;(exact .inl h);exact .inr ⟨k.toNat,Jo,Jo⟩)) with hk|⟨m,rfl,hm⟩
 · have e0:s.has k=false:=(by unfold EstS.has;rw [J8 ok hk];rfl);(refine KY KX Tryz.func196 ?_;refine' Og;first|(refine' MV)|(refine' Nu)|(refine' Ag<;>intro hc));all_goals (refine' Mr;refine' pn;(first|refine Pr rfl DA ?_|refine Ra rfl DA ?_);refine' zm;refine' PD;refine' YA;refine' KP;(first|refine Pr rfl DA ?_|refine Ra rfl DA ?_);refine' Ly;exact ⟨_,rfl,by rw [e0],(RQ ho hS).back0 hi⟩)
 · obtain ⟨r,hr,hrs⟩:=ho.at_ hm;have e0:=EstS.has_at ok ho hm hr;refine KY KX Tryz.func196 ?_;refine' Og;refine' MV;refine' Mr;(first|refine' KP|(refine' KQ;refine' LG));refine Pr rfl DA ?_;refine' Ss;refine' Nf;(first|refine' KP|(refine' KQ;refine fW rfl rfl Jo Jo ?_));refine' NC;(first|refine' KP|(refine' KQ;refine MX hS rfl (F3 DC) (NX (j:=0) hr rfl) ?_));refine Pr rfl DA ?_;refine' Ly;(exact ⟨_,rfl,by rw [e0],(RQ ho hS).back0 hi⟩)
theorem YN (hS:St cx w L)(hi:nth L i=some (Nz e s)):KK Tryz.prog Q6L [e] w fun v w'=>v= .int .i64 s.openV∧St cx w' (L.set i (Nz e s.open)):=by
 obtain ⟨b,pp,rv,ho,hS⟩:=Vm (hS.out hi);obtain rfl:=ho.he;have ok:=ho.ok;have hlen:=ho.len;refine KY KX Tryz.func136 ?_;refine' Mf;refine' M8;refine ik (fun ρ' w'=>∃(j:Nat),KR ρ' [(0, .pointer (some ⟨b,0,none⟩)),(4, .int .i64 j)]∧(j≤16)∧(∀m,m<j→(s.reg (m:Nat)).there=true)∧St cx w' (blk b 73 (pp::MA rv)::MW pp s.p::LF RegV.res rv::L.eraseIdx i)) (fun ρ' _=>(16 - iv (ρ' 4)).toNat) ?_ ?_
 · exact ⟨0,⟨rfl,rfl,trivial⟩,Jo,fun m hm=>absurd hm Jo,(hS.subP DF)⟩
 rintro ρ w1 ⟨j,hρ,hj,hth,hS⟩;obtain ⟨ρ,rfl⟩:=ij _ hρ;refine' NV;refine' Ab<;>intro hc
 · skip
   refine' MF;refine' Ls;refine' OS;obtain ⟨r,hr,hrs⟩:=ho.at_ (k:=j) Jo;refine' NJ;refine' Ma;refine fW rfl rfl Jo Jo ?_;refine' M6;refine MX hS rfl (F3 DC) (NX (j:=0) hr rfl) ?_;refine' Oy;refine' Aa<;>intro hc
   · skip;have hlow:s.low=j:=EstS.low_eq ok Jo (by rw [hrs];show r.there=false;simpa using hc) hth;refine' Lu;refine oe (cs:=[_,_,_]) DA Jr ?_;refine' Ma;refine fW rfl rfl Jo Jo ?_;refine Rb hS rfl rfl Jr (F3 DC) EG DH (Vl (r':=⟨true, .slice none 0 0,[],0⟩) Jo) ?_;intro w1 hS;simp only [FM,FR] at hS;simp only [F9] at hS;have hS:=hS.mv2;have hS:=hS.bigOut Lr hr;have hS:=hS.drop.nil (T:=3) (es:=1);have hS:=IG (f:=RegV.res) (l:=rv) (k:=j) (x':=⟨true, .slice none 0 0,[],0⟩) hS Lr Jo;refine' Nb;refine' Ly;(((have e1:s.open=⟨s.p,s.rs.set j ⟨true,[],0⟩⟩:=Fm;have e2:s.openV=j:=EV;exact C4)))
   · skip;refine' KV;refine' Rl;(exact ⟨⟨j+1,⟨rfl,rfl,trivial⟩,Jo,fun m hm=>by rcases Hc m j with h|h;exact hth m h;rw [show m=j by omega,hrs];show r.there=true;simpa using hc,(hS.subP DF)⟩,Qc Jo⟩)
 · skip;refine' O5;((first|(have e1:s.open=⟨s.p,s.rs.set j ⟨true,[],0⟩⟩:=Fm;have e2:s.openV=j:=EV;exact C4)|(have hlow:s.low=16:=EstS.low_full ok (fun m hm=>hth m Jo);have e1:s.open=s:=(by unfold EstS.open;rw [hlow,if_neg Jo]);have e2:s.openV=-1:=(by unfold EstS.openV;rw [hlow,if_neg Jo]);exact ⟨_,rfl,by rw [e2],(RQ (by rw [e1];exact ho) (by rw [e1];exact hS)).back hi⟩)))
theorem EstS.shut_yes {s:EstS}(hk:s.has m=true):s.shut m=⟨s.p.gives (s.reg m).pages,s.rs.set m Reg.none⟩:=by unfold EstS.shut;rw [if_pos hk,F9]
abbrev JW:=@EstS.shut_yes
theorem EstS.shut_no {s:EstS}{k:Int}(hk:s.has k=false):s.shut k=s:=by unfold EstS.shut;rw [hk,if_neg Js]
theorem YO (k:Int)(hS:St cx w L)(hi:nth L i=some (Nz e s)):KK Tryz.prog Q6K [e, .int .i64 k] w fun v w'=>v= .bool (s.has k)∧St cx w' (L.set i (Nz e (s.shut k))):=by
 obtain ⟨ok,b,rfl⟩:=uU hS hi
 cases hk:s.has k with
 | true=>
   obtain ⟨m,rfl,hm⟩:=IX ok hk;have e1:=JW hk;have hpl:=JJ ok hm;refine KY KX Tryz.func137 ?_;refine' Mf;refine' PB;refine cy DA DA (jA _ hS hi) ?_;rintro v1 w1 ⟨rfl,hS⟩;rw [hk];refine' Oy
   all_goals
    first
    | (refine' KN;all_goals (refine' Ls;refine R8 ?_;(repeat (refine bW ?_));refine' al;(repeat (refine' T8));refine' zf);all_goals (exact Cu))
    | (refine' KO;refine' KV)
   refine' Nx;obtain ⟨pp,rv,ho,hS⟩:=Vn hS hi;obtain ⟨r,hr,hrs⟩:=ho.at_ hm;have hlen:=ho.len;rw [hrs] at hpl e1;have hpl':r.pages.length≤64:=hpl;refine' NJ;refine' Ma;refine fW rfl rfl Jo Jo ?_;refine' M6;refine MX hS rfl (F3 DC) (NX (j:=1) hr rfl) ?_;have hS:=hS.bigOut NT hr;refine QL hS DA (Lr (a:=RegV.res r)) (FF _) ?_;refine' Ry;refine ik (fun ρ' w'=>∃(j:Nat),KR ρ' [(0, .pointer (some ⟨b,0,none⟩)),(1, .int .i64 m),(17,r.pv),(18, .int .i64 r.pages.length),(19, .int .i64 j)]∧(j≤r.pages.length)∧St cx w' (sl 3 1 r.pv (r.pages.map Qs)::blk b 73 (pp::MA rv)::MW pp (s.p.gives (r.pages.take j))::LF RegV.res (rv.eraseIdx m)::L.eraseIdx i)) (fun ρ' _=>(r.pages.length - iv (ρ' 19)).toNat) ?_ ?_
   · exact ⟨0,⟨rfl,rfl,rfl,rfl,rfl,trivial⟩,Jo,(hS.subP DF)⟩
   rintro ρ w1 ⟨j,hρ,hj,hS⟩;obtain ⟨ρ,rfl⟩:=ij _ hρ;refine' NV;refine' Ab<;>intro hc
   · skip;refine' S9;refine PQ hS DA rfl (F3 DC) DM ?_;intro b1 o1 hel1;(first|(refine MX hS rfl (F3 DC) Jr ?_)|(refine ou hS Ja rfl (F3 DC) rfl Jo ?_));refine' K5;refine' Mj;refine' Ma;refine MX hS rfl (F3 DC) rfl ?_;refine' zm;refine cy DA DA (dj _ hS (F3 DC)) ?_;rintro v2 w2 ⟨rfl,hS⟩;simp only [FM,FR] at hS;refine' Sw;(exact ⟨⟨j+1,⟨rfl,rfl,rfl,rfl,rfl,trivial⟩,Jo,by rw [QfN Jo];exact (hS.subP DF)⟩,Qc Jo⟩)
   · skip;refine' L7;obtain rfl:j=r.pages.length:=DB;rw [ID] at hS;refine' Lu;refine lI (cs:=[_,_,_]) Jr ?_;refine' Ma;refine fW rfl rfl Jo Jo ?_;refine Rb hS rfl rfl Jr (F3 DC) EG DH (Vl (r':=RegV.nil) Jo) ?_;intro w1 hS;simp only [FM,FR] at hS;simp only [F9] at hS;have hS:=hS.drop.nil (T:=3) (es:=1);have hS:=IG (f:=RegV.res) (l:=rv) (k:=m) (x':=RegV.nil) hS NT Jo;simp only [FM,FR] at hS;refine' zn;refine' Lh;(exact Cu)
 | false=>
   rw [EstS.shut_no hk,YM hi];refine KY KX Tryz.func137 ?_;refine' Mf;refine' PB;refine cy DA DA (jA _ hS hi) ?_;rintro v1 w1 ⟨rfl,hS⟩;rw [hk];refine' Oy;refine' KN;refine' Lh;((exact ⟨_,rfl,rfl,hS⟩))
theorem YP {s:EstS}{k n:Int}(hk:s.has k=false):s.code k n=15:=by unfold EstS.code;rw [hk];rfl
theorem Vo {s:EstS}{k n:Int}(hk:s.has k=true)(hn:n<1∨16<n):s.code k n=1:=by unfold EstS.code;rw [hk,if_neg Js,if_pos hn]
theorem QiJ {s:EstS}{k n:Int}(hk:s.has k=true)(hn:¬(n<1∨16<n))(h:(s.reg k).more n=true∧s.p.fr=[]):s.code k n=14:=by unfold EstS.code;rw [hk,if_neg Js,if_neg hn,if_pos h]
theorem uV {s:EstS}{k n:Int}(hk:s.has k=true)(hn:¬(n<1∨16<n))(h:¬((s.reg k).more n=true∧s.p.fr=[])):s.code k n=0:=by unfold EstS.code;rw [hk,if_neg Js,if_neg hn,if_neg h]
theorem jB {s:EstS}{k n:Int}(h:s.code k n≠0):s.get k n=s∧s.getV k n=0:=by unfold EstS.get EstS.getV;rw [if_neg h,if_neg h];exact ⟨rfl,rfl⟩
theorem RegV.more_iff {r:RegV}{n:Int}:r.reg.more n=true↔(r.pages=[]∨16<r.used+n):=decide_eq_true_iff
abbrev JX:=@RegV.more_iff
theorem uW {rv:List RegV}{r:RegV}(h:m<rv.length):(rv.set m r)[m]?=some r:=by simp [h]
theorem set_set {rv:List RegV}{r r':RegV}:(rv.set m r).set m r'=rv.set m r':=Ii ..
theorem dm (k n:Int)(hS:St cx w L)(hi:nth L i=some (Nz e s)):KK Tryz.prog Q7q [e, .int .i64 k, .int .i64 n] w fun v w'=>v= .tuple #[.int .i64 (s.getV k n), .int .i64 (s.code k n)]∧St cx w' (L.set i (Nz e (s.get k n))):=by
 obtain ⟨ok,b,rfl⟩:=uU hS hi
 cases hk:s.has k with
 | false=>
   have hc:=YP (n:=n) hk;obtain ⟨e1,e2⟩:=jB (s:=s) (k:=k) (n:=n) Jo;rw [e1,YM hi,e2,hc];refine KY KX Tryz.func225 ?_;refine' NW;refine' gx;refine' Lu;refine cy DA DA (jA _ hS hi) ?_;rintro v1 w1 ⟨rfl,hS⟩;rw [hk];refine' Pm;refine' K5;refine' KN;refine' Sp;((exact ⟨_,rfl,rfl,hS⟩))
 | true =>
   by_cases hn:n<1∨16<n
   · have hc:=Vo hk hn;obtain ⟨e1,e2⟩:=jB (s:=s) (k:=k) (n:=n) Jo;rw [e1,YM hi,e2,hc];(refine KY KX Tryz.func225 ?_;refine' NW;refine' gx;refine' Lu;refine cy DA DA (jA _ hS hi) ?_;rintro v1 w1 ⟨rfl,hS⟩;rw [hk];refine' Pm;refine' K5;refine' KO;refine' Ls;first|(refine' LG)|(refine' LM)|(refine' Ae<;>intro hc));all_goals (refine' Mr;(first|refine' KP|(refine' KQ;refine' QO));(first|refine Pr rfl DA ?_|refine Ra rfl DA ?_);refine' K5;refine' KN;refine' Sp;exact ⟨_,rfl,rfl,hS⟩)
   · obtain ⟨m,rfl,hm⟩:=IX ok hk
     have hpl:=JJ ok hm;have hpr:=EstS.pages_rng ok hm;have hur:=H2 ok hm;refine KY KX Tryz.func225 ?_;refine' NW;refine' gx;refine' Lu;refine cy DA DA (jA _ hS hi) ?_;rintro v1 w1 ⟨rfl,hS⟩;rw [hk];refine' Pm;refine' K5;refine' KO;refine' Ls;refine' Yz;refine' Mr;refine' l4;(first|refine Pr rfl DA ?_|refine Ra rfl DA ?_);refine' K5;refine' Si;refine Qo ?_;obtain ⟨pp,rv,ho,hS⟩:=Vn hS hi;obtain ⟨r,hr,hrs⟩:=ho.at_ hm;have hlen:=ho.len;rw [hrs] at hpl hpr hur;have hpl':r.pages.length≤64:=hpl;have hur':0≤r.used∧r.used≤16:=hur;have hS:St cx w1 (sl 3 1 r.pv (r.pages.map Qs)::blk b 73 (pp::MA rv)::MW pp s.p::LF RegV.res (rv.eraseIdx m)::L.eraseIdx i):=hS.bigOut NT hr;have hpe:r.pages=[]↔r.pages.length=0:=GP.symm;refine' NJ;refine' Ma;refine fW rfl rfl Jo Jo ?_;refine' K5;refine Sa (fun ρ' w'=>∃(r1:RegV) (p1:PoolS),KR ρ' [(0, .pointer (some ⟨b,0,none⟩)),(1, .int .i64 m),(2, .int .i64 n),(8, .pointer (some ⟨b,1+m*3,none⟩))]∧(s.code m n=0)∧(r1.reg=s.regTo m n)∧(p1=(if (s.reg m).more n then s.p.take else s.p))∧(r1.pages.length≤65)∧(r1.pages≠[])∧(∀x∈r1.pages,0≤x∧x<64)∧(0≤r1.used∧r1.used+n≤16)∧St cx w' (sl 3 1 r1.pv (r1.pages.map Qs)::blk b 73 (pp::MA (rv.set m r1))::MW pp p1::LF RegV.res (rv.eraseIdx m)::L.eraseIdx i)) ?_ ?_
     · skip
       ((refine' Ls;refine' ML;refine MX hS rfl (F3 DC) (NX (j:=1) hr rfl) ?_;refine QL hS DA (F3 DC) DD ?_;first|(refine' Qd)|(refine' Qi)|(refine' Ac<;>intro hc));all_goals (refine' RY;refine' NC;(first|refine' KP|(refine' KQ;(first|(refine MX hS rfl (F3 DC) (NX (j:=1) hr rfl) ?_)|(refine MX hS rfl (F3 DC) (NX (j:=2) hr rfl) ?_))));refine' MT;(first|refine' KP|(refine' KQ;refine' NH));first|refine' KP|(refine' KQ;(first|(refine' QO)|(refine' QV)|(refine' Af<;>intro hc)))));all_goals ((first|refine Pr rfl DA ?_|refine Ra rfl DA ?_);refine' zn)
       all_goals
        first
        | (refine' KN
           all_goals (have hmo:(s.reg m).more n=true:=(by rw [hrs,JX,hpe];omega);refine' Xw;(first|(refine MX hS rfl (F3 DC) (NX (j:=1) hr rfl) ?_)|(refine MX hS rfl (F3 DC) (NX (j:=2) hr rfl) ?_)|(refine MX hS rfl (F3 DC) (NX (j:=1) hr1 rfl) ?_)|(refine MX hS rfl (F3 DC) (NX (j:=2) hr1 rfl) ?_)|(refine MX hS rfl (F3 DC) Jr ?_));refine ow DA (di hS (F3 DC)) ?_;rintro v4 w4 ⟨rfl,hS⟩;simp only [FM,FR] at hS;refine' S8;rcases IA ok.pok with ⟨h1,h2,h3⟩|⟨k2,fr2,h1,h2,h3⟩);all_goals (refine' Mm;(first|(have hcd:=QiJ hk hn ⟨hmo,h1⟩;obtain ⟨e1,e2⟩:=jB (s:=s) (k:=m) (n:=n) Jo;rw [h3] at hS)|(obtain ⟨_,hk2,_⟩:=(HJ ok hm).take ok.pok h1 h2 h3;have hcd:=uV hk hn (fun h=>by rw [h1] at h;simp at h);have h64:=ok.n64));refine' zm;refine' Yz;refine' zn)
           all_goals
            first
            | (refine' KN;all_goals (refine' Sp);all_goals (rw [e1,YM hi,e2,hcd];have hS:St cx w4 (RegV.res r::blk b 73 (pp::MA rv)::MW pp s.p::LF RegV.res (rv.eraseIdx m)::L.eraseIdx i):=hS;have hS:=IG (f:=RegV.res) (l:=rv) (k:=m) (x':=r) hS NT Jo;simp only [FM,FR] at hS;rw [cq hr] at hS;exact ⟨_,rfl,rfl,(RQ ho hS).back0 hi⟩))
            | (refine' KO;all_goals (refine' KV))
           all_goals (refine' Lu;refine' ML;refine MX hS rfl (F3 DC) (NX (j:=1) hr rfl) ?_;refine' zm;refine RJ (cs:=[_]) DA Jr ?_;intro b1 w1 hb1 hf1 _ hk1;have hS:=hS.laid hb1 hf1 hk1;refine Ow pZ (.inl qb) hS DA DA (F3 DC) (hS.srcB1 (F3 DC) rfl) DM ?_;intro v7 w7 hS;simp only [FM,FR] at hS;have hS:=hS.drop;refine' ML;refine om hS rfl DA (F3 DC) EG (by first|rfl|assumption|exact hS.oneC (F3 (by repeat constructor))) (Vk (r':=⟨r.there,v7,r.pages++[s.p.top],r.used⟩) (j:=1) hr Jo rfl) ?_;intro w8 hS;simp only [FM,FR] at hS;refine' zn;refine' Mj;refine' ML;refine om hS rfl DA (F3 DC) E3 Jr (Vk (r:=⟨r.there,v7,r.pages++[s.p.top],r.used⟩) (r':=⟨r.there,v7,r.pages++[s.p.top],0⟩) (j:=2) (uW Jo) Jo rfl) ?_;intro w9 hS;simp only [FM,FR] at hS;simp only [F9,set_set] at hS);all_goals (refine' zn))
        | (refine' KO;have hmo:¬(s.reg m).more n=true:=(by rw [hrs,JX,hpe];omega);refine' KV)
       all_goals (first|(exact ⟨r,s.p,⟨rfl,rfl,rfl,rfl,trivial⟩,(uV hk hn fun h=>hmo h.1),(by unfold EstS.regTo;rw [if_neg hmo,hrs]),(by rw [if_neg hmo]),Jo,(by rw [Ne,hpe];omega),hpr,Jo,by rw [cq hr];exact (hS.subP DF)⟩)|(exact ⟨⟨r.there,v7,r.pages++[s.p.top],0⟩,s.p.take,⟨rfl,rfl,rfl,rfl,trivial⟩,hcd,(by unfold EstS.regTo;rw [if_pos hmo,hrs];rfl),(by rw [if_pos hmo]),DE,Js,(by intro x hx;rcases F5.1 hx with h|h;exact hpr x h;simp only [Gx] at h;omega),(by simp only;omega),by simp only [Ga];exact (hS.subP DF)⟩))
     rintro ρ w1 ⟨r1,p1,hρ,hcd,hreg,hp1,hpl1,hne,hrg,hu1,hS⟩;obtain ⟨ρ,rfl⟩:=ij _ hρ;have hr1:(rv.set m r1)[m]?=some r1:=uW Jo;have hlast:=Qcs hne;have hmem:=hrg (r1.pages.getD (((r1.pages.length:Nat):Int) - 1).toNat 0) (Ui (by have:=HO.2 hne;omega));have hpos:=HO.2 hne;refine Qo ?_;refine nQ [(0,none),(1,none),(2,none),(3,none),(4,none),(5,none),(6,none),(7,none),(8,none),(9,none),(10,none),(11,none),(12,none),(13,none),(14,none),(15,none),(16,none),(17,none),(18,some none)] Jk Jk ?_;have hS:=hS.drew;refine' PG;(first|(refine MX hS rfl (F3 DC) (NX (j:=1) hr rfl) ?_)|(refine MX hS rfl (F3 DC) (NX (j:=2) hr rfl) ?_)|(refine MX hS rfl (F3 DC) (NX (j:=1) hr1 rfl) ?_));refine' PG;(first|(refine MX hS rfl (F3 DC) (NX (j:=1) hr rfl) ?_)|(refine MX hS rfl (F3 DC) (NX (j:=2) hr rfl) ?_)|(refine MX hS rfl (F3 DC) (NX (j:=1) hr1 rfl) ?_));refine QL hS DA (F3 DC) DD ?_;refine' PV;(first|(refine PQ hS DA rfl (F3 DC) DM ?_;intro b1 o1 hel1)|(refine QN hS DA rfl (F3 DC) Jo DM ?_;intro b1 o1 hel1));(first|(refine MX hS rfl (F3 DC) (NX (j:=1) hr rfl) ?_)|(refine MX hS rfl (F3 DC) (NX (j:=2) hr rfl) ?_)|(refine MX hS rfl (F3 DC) (NX (j:=1) hr1 rfl) ?_)|(refine MX hS rfl (F3 DC) (NX (j:=2) hr1 rfl) ?_)|(refine MX hS rfl (F3 DC) Jr ?_)|(refine ou hS Ja rfl (F3 DC) rfl Jo ?_));refine' Py;refine' PG;(first|(refine MX hS rfl (F3 DC) (NX (j:=1) hr rfl) ?_)|(refine MX hS rfl (F3 DC) (NX (j:=2) hr rfl) ?_)|(refine MX hS rfl (F3 DC) (NX (j:=1) hr1 rfl) ?_)|(refine MX hS rfl (F3 DC) (NX (j:=2) hr1 rfl) ?_));refine' l8;refine' Ls;refine' ML;(first|(refine MX hS rfl (F3 DC) (NX (j:=1) hr rfl) ?_)|(refine MX hS rfl (F3 DC) (NX (j:=2) hr rfl) ?_)|(refine MX hS rfl (F3 DC) (NX (j:=1) hr1 rfl) ?_)|(refine MX hS rfl (F3 DC) (NX (j:=2) hr1 rfl) ?_));refine' zm;refine' NH;refine' ML;refine om hS rfl DA (F3 DC) E3 Jr (Vk (r:=r1) (r':=⟨r1.there,r1.pv,r1.pages,r1.used+n⟩) (j:=2) hr1 Jo rfl) ?_;intro w9 hS;simp only [FM,FR] at hS;simp only [set_set] at hS;have hS:=IG (f:=RegV.res) (l:=rv) (k:=m) (x':=⟨r1.there,r1.pv,r1.pages,r1.used+n⟩) hS NT Jo;simp only [FM,FR] at hS;refine' zn;refine' Lu;refine' YB;((first|(rw [e1,YM hi,e2,hcd];have hS:St cx w4 (RegV.res r::blk b 73 (pp::MA rv)::MW pp s.p::LF RegV.res (rv.eraseIdx m)::L.eraseIdx i):=hS;have hS:=IG (f:=RegV.res) (l:=rv) (k:=m) (x':=r) hS NT Jo;simp only [FM,FR] at hS;rw [cq hr] at hS;exact ⟨_,rfl,rfl,(RQ ho hS).back0 hi⟩)|(have e1:s.get m n=⟨p1,s.rs.set m ((s.regTo m n).use n)⟩:=(by unfold EstS.get;rw [if_pos hcd,hp1,F9]);have e2:s.getV m n=r1.pages.getD (((r1.pages.length:Nat):Int) - 1).toNat 0*16+r1.used:=(by unfold EstS.getV;rw [if_pos hcd,←hreg,hlast];rfl);exact ⟨_,rfl,by rw [e2,hcd],(RQ (s:=s.get m n) (by rw [e1];exact ho.set (k:=m) (r':=⟨r1.there,r1.pv,r1.pages,r1.used+n⟩) (by rw [←hreg];rfl) (e1 ▸ Km ok m n)) (by rw [e1];exact (hS.subP (by (repeat constructor);first|done|fail)))).back hi⟩)))
theorem big_nil:∀(n:Nat){cx:Cx}{w:World}{L:List Res},St cx w L→St cx w (LF RegV.res (List.replicate n RegV.nil)::L)
 | 0,_,_,_,h=>h.emp (r:=emp) fun _ h=>h
 | n+1,_,_,_,h=>by
   have h1:=(big_nil n h).nil (T:=3) (es:=1);exact H9 (r:=RegV.res RegV.nil) h1
theorem Qdy (n:Nat):(List.replicate n RegV.nil).map RegV.reg=List.replicate n Reg.none:=by rw [Iq];rfl
theorem dp (n:Int)(hS:St cx w L):KK Tryz.prog QfQ [.int .i64 n] w fun v w'=>
 (n<0∨64<n)∧v= .tuple #[.pointer none, .agg ⟨[.int .i64 1, .int .i64 (-1)]⟩]∧St cx w' L∨
 ∃(m:Nat) (b:Nat),n=m∧m≤64∧v= .tuple #[.pointer (some ⟨b,0,none⟩), .agg ⟨[.int .i64 0, .int .i64 0]⟩]∧St cx w' (Nz (.pointer (some ⟨b,0,none⟩)) (EstS.mk0 m)::L):=by
 refine KY KX Tryz.func79 ?_;refine' Ls;refine Qh hS ?_;(intro b1 w1 hS);refine' Nb;refine ow DA (jz _ hS) ?_;rintro v3 w3 (⟨hn,rfl,hS⟩|⟨m,b,rfl,hm,rfl,hS⟩);all_goals (refine' Sm;intro b1 w1 hS;refine' zm;refine Rb hS rfl rfl Jr (F3 DC) Js Ep Jr ?_;intro w1 hS;simp only [FM,FR] at hS;refine' MM;refine' Su;refine MX hS rfl (F3 DC) Jr ?_;refine' UT;refine' zn)
 all_goals
  first
  | (refine' KN
     refine Qo ?_;refine nQ [(0,none),(1,none),(2,some none)] Jk Jk ?_;have hS:=hS.drew;((refine oj hS rfl (F3 DC) Jr Jr ?_));refine' zm;refine Rb hS rfl rfl Jr (F3 DC) Js Ep Jr ?_;intro w1 hS;simp only [FM,FR] at hS;refine' Mu;((refine T7 DA DA (Q2 (n:=2) Jk Jk (hS.blkAt (F3 DC)) Jr Jr) ?_;exact Df)))
  | (refine' KO;refine' KV)
 refine Qo ?_;have hS:=big_nil 16 hS;refine' Mj;refine oe (cs:=[_,_,_,_,_,_,_,_,_,_,_,_,_,_,_,_,_,_,_,_,_,_,_,_,_,_,_,_,_,_,_,_,_,_,_,_,_,_,_,_,_,_,_,_,_,_,_,_,_]) DA Jr ?_;refine Ov hS DA Jr ?_;intro b1 w1 hS;refine lI (cs:=[_,_]) Jr ?_;refine' zm;refine Rb hS rfl rfl Jr (F3 DC) Js Ep Jr ?_;intro w1 hS;simp only [FM,FR] at hS;refine' Mu;((first|(refine T7 DA DA (Q2 (n:=2) Jk Jk (hS.blkAt (F3 DC)) Jr Jr) ?_;exact Df)|(refine T7 DA DA (Q2 (n:=2) Jk Jk (hS.blkAt (F3 DC)) Jr Jr) ?_;exact ⟨_,rfl, .inr ⟨m,_,rfl,hm,rfl,RQ (s:=EstS.mk0 m) (rv:=List.replicate 16 RegV.nil) ⟨rfl,Qdy 16,Kk hm⟩ (hS.subP DF)⟩⟩)))
end
end Go.Proofs.YteflkifmgnpbhaaGreat
namespace Go.Lir
section
structure Val where
 kind:Int
 region:Int
 thing:Int
 n:Int
deriving DecidableEq
def Val.cells (v:Val):List Value:=[.int .i64 v.kind, .int .i64 v.region, .int .i64 v.thing, .int .i64 v.n]
def Val.v (v:Val):Value:= .agg ⟨v.cells⟩
def Val.zero:Val:=⟨0,0,0,0⟩
structure Thg where
 array:Bool
 l:List Val
structure Rgn where
 there:Bool
 l:List Thg
 pages:Int
 used:Int
def Rgn.none:Rgn:=⟨false,[],0,0⟩
structure HpS where
 l:List Rgn
 left:Int
def HpS.reg (s:HpS)(k:Int):Rgn:=if 0≤k then s.l.getD k.toNat Rgn.none else Rgn.none
def HpS.has (s:HpS)(k:Int):Bool:=(s.reg k).there
def HpS.live (s:HpS):Nat:=s.l.countP fun r=>r.there
def HpS.full (s:HpS):Bool:=decide (s.live=16)
def HpS.open (s:HpS):HpS:=if s.full then s else ⟨s.l++[⟨true,[],0,0⟩],s.left⟩
def HpS.openV (s:HpS):Val:=if s.full then Val.zero else ⟨2,s.l.length,0,0⟩
def HpS.can (s:HpS)(v:Val):Bool:=decide (v.kind=2) && s.has v.region
def HpS.shut (s:HpS)(v:Val):HpS:=if s.can v then ⟨s.l.set v.region.toNat Rgn.none,s.left+(s.reg v.region).pages⟩ else s
def Rgn.more (r:Rgn)(n:Int):Bool:=decide (r.pages=0∨16<r.used+n)
def Rgn.room (r:Rgn)(n:Int):Rgn:=if r.more n then ⟨r.there,r.l,r.pages+1,n⟩ else ⟨r.there,r.l,r.pages,r.used+n⟩
def Rgn.push (r:Rgn)(t:Thg):Rgn:=⟨r.there,r.l++[t],r.pages,r.used⟩
def HpS.code (s:HpS)(v:Val)(n:Int):Int:=if !s.can v then 20 else if (s.reg v.region).more n∧s.left=0 then 14 else 0
def HpS.put (s:HpS)(v:Val)(n:Int)(t:Thg):HpS:=if s.code v n=0 then ⟨s.l.set v.region.toNat (((s.reg v.region).room n).push t),if (s.reg v.region).more n then s.left - 1 else s.left⟩ else s
def HpS.putV (s:HpS)(v:Val)(kind n:Int):Val:=if s.code v n=0 then ⟨kind,v.region,(s.reg v.region).l.length,0⟩ else Val.zero
def HpS.thg (s:HpS)(k t:Nat):Thg:=(s.reg k).l.getD t ⟨false,[]⟩
def HpS.at_ (s:HpS)(v:Val):Option (Nat×Nat):=
 if (v.kind=3∨v.kind=4)∧s.has v.region=true∧0≤v.thing∧v.thing<(s.reg v.region).l.length∧(s.thg v.region.toNat v.thing.toNat).array=decide (v.kind=4) then some (v.region.toNat,v.thing.toNat) else none
def HpS.get (s:HpS)(v:Val)(k:Int):Val×Int:=match s.at_ v with
 | none=>(Val.zero,20)
 | some (r,t)=>if 0≤k∧k<(s.thg r t).l.length then ((s.thg r t).l.getD k.toNat Val.zero,0) else (Val.zero,1)
def HpS.setC (s:HpS)(v:Val)(k:Int)(x:Val):Int:=match s.at_ v with
 | none=>20
 | some (r,t)=>if (s.thg r t).array=true∧x.kind≠1 then 20 else if 0≤k∧k<(s.thg r t).l.length then 0 else 1
def Rgn.upd (r:Rgn)(t:Nat)(x:Thg):Rgn:=⟨r.there,r.l.set t x,r.pages,r.used⟩
def Thg.upd (t:Thg)(k:Nat)(x:Val):Thg:=⟨t.array,t.l.set k x⟩
def HpS.set (s:HpS)(v:Val)(k:Int)(x:Val):HpS:=match s.at_ v with
 | none=>s
 | some (r,t)=>if s.setC v k x=0 then ⟨s.l.set r ((s.reg r).upd t ((s.thg r t).upd k.toNat x)),s.left⟩ else s
def HpS.len (s:HpS)(v:Val):Int×Int:=match s.at_ v with
 | none=>(0,20)
 | some (r,t)=>((s.thg r t).l.length,0)
def Mv (l:List Val):Int:=if l.length=0 then 1 else l.length
def HpS.tuple (s:HpS)(v:Val)(l:List Val):HpS:=s.put v (Mv l) ⟨false,l⟩
def PI (n:Int):List Val:=List.replicate n.toNat ⟨1,0,0,0⟩
def HpS.arrC (s:HpS)(v:Val)(n:Int):Int:=if n<0∨15<n then 1 else s.code v (n+1)
def HpS.arr (s:HpS)(v:Val)(n:Int):HpS:=if n<0∨15<n then s else s.put v (n+1) ⟨true,PI n⟩
def HpS.arrV (s:HpS)(v:Val)(n:Int):Val:=if n<0∨15<n then Val.zero else s.putV v 4 (n+1)

structure HpS.Ok (N:Nat) (s:HpS):Prop where
 len:s.l.length≤N
 each:∀r∈s.l,r.l.length≤N∧(∀t∈r.l,t.l.length≤1000)∧0≤r.pages∧0≤r.used∧r.used≤1000∧(r.there=false→r=Rgn.none)
 left:0≤s.left
 sum:s.left+(s.l.map Rgn.pages).sum≤1000
 live:s.live≤16

theorem qf (h:l.Perm l'):l.sum=l'.sum:=by
 induction h with
 | nil=>rfl
 | cons x _ ih=>rw [HY,HY,ih]
 | swap x y l=>simp only [HY];omega
 | trans _ _ h1 h2=>rw [h1,h2]
theorem uX (h:∀x∈l,0≤x):0≤l.sum:=by
 induction l with
 | nil=>simp
 | cons x l ih=>rw [HY];have:=h x Js;have:=ih fun y hy=>h y (by simp [hy]);omega
theorem jC {α:Type}:∀{l:List α}{k:Nat}{x:α},l[k]?=some x→l.Perm (x::l.eraseIdx k)
 | [],_,_,h=>by simp at h
 | y::l,0,x,h=>by simp at h;subst h;exact .refl _
 | y::l,k+1,x,h=>((jC (l:=l) DO).cons y).trans (.swap _ _ _)
theorem mi {α:Type}:∀{l:List α}{k:Nat}{x:α},k<l.length→(l.set k x).Perm (x::l.eraseIdx k)
 | [],_,_,h=>by simp at h
 | y::l,0,x,h=> .refl _
 | y::l,k+1,x,h=>((mi (l:=l) DO).cons y).trans (.swap _ _ _)
theorem YQ {l:List Rgn}{k:Nat}{r r':Rgn}(hr:l[k]?=some r):((l.set k r').map Rgn.pages).sum+r.pages=(l.map Rgn.pages).sum+r'.pages:=by
 have h1:=qf ((jC hr).map Rgn.pages);have h2:=qf ((mi (x:=r') (FD.1 hr).1).map Rgn.pages);rw [He,HY] at h1 h2;rw [h1,h2];omega
theorem gF {l:List Rgn}{k:Nat}{r r':Rgn}(hr:l[k]?=some r):((l.set k r').countP fun r=>r.there)+(if r.there then 1 else 0)=(l.countP fun r=>r.there)+if r'.there then 1 else 0:=by
 have h1:=(jC hr).countP_eq fun r:Rgn=>r.there;have h2:=(mi (x:=r') (FD.1 hr).1).countP_eq fun r:Rgn=>r.there;rw [List.countP_cons] at h1 h2;rw [h1,h2];omega
theorem HpS.Ok.pages {s:HpS}(h:s.Ok N):s.left≤1000∧∀r∈s.l,r.pages+s.left≤1000:=by
 have h1:=h.sum;have h2:=uX (l:=s.l.map Rgn.pages) (by intro x hx;obtain ⟨r,hr,rfl⟩:=Gm.1 hx;exact (h.each r hr).2.2.1);have h3:=h.left;refine ⟨Jo,fun r hr=>?_⟩;obtain ⟨k,hk⟩:=GH.1 hr;have h4:=qf ((jC hk).map Rgn.pages);rw [He,HY] at h4;have h5:=uX (l:=(s.l.eraseIdx k).map Rgn.pages) (by intro x hx;obtain ⟨r,hr,rfl⟩:=Gm.1 hx;exact (h.each r (List.mem_of_mem_eraseIdx hr)).2.2.1);omega
theorem L8 {l:List α}{k:Nat}{x y:α}(h:y∈l.set k x):y=x∨y∈l:=(Iw h).symm
theorem HpS.Ok.mono {s:HpS}(h:s.Ok N)(hm:N≤M):s.Ok M:=⟨by have:=h.len;omega,fun r hr=>by obtain ⟨h1,h2⟩:=h.each r hr;exact ⟨Jo,h2⟩,h.left,h.sum,h.live⟩
theorem HpS.ok_set {s:HpS}(h:s.Ok N){k:Nat}{r r':Rgn}(hr:s.l[k]?=some r){left:Int}(hM:N≤M)(h0:0≤left)(hs:left+r'.pages=s.left+r.pages)(hl:s.live+(if r'.there then 1 else 0)≤16+if r.there then 1 else 0)
 (he:r'.l.length≤M∧(∀t∈r'.l,t.l.length≤1000)∧0≤r'.pages∧0≤r'.used∧r'.used≤1000∧(r'.there=false→r'=Rgn.none)):(⟨s.l.set k r',left⟩:HpS).Ok M:=by
 have h1:=YQ (r':=r') hr;have h2:=gF (r':=r') hr;have h3:=h.sum;have h4:=h.len;refine ⟨by rw [Gf];omega,fun x hx=>?_,h0,by show left+((s.l.set k r').map Rgn.pages).sum≤1000;omega,?_⟩
 · rcases L8 hx with rfl|hx
   · exact he
   · obtain ⟨g1,g2⟩:=h.each x hx;exact ⟨Jo,g2⟩
 · show (s.l.set k r').countP (fun r=>r.there)≤16;have:s.live=s.l.countP fun r=>r.there:=rfl;omega
abbrev JK:=@HpS.ok_set
theorem HpS.reg_get {s:HpS}{k:Nat}{r:Rgn}(h:s.l[k]?=some r):s.reg k=r:=by
 unfold HpS.reg;rw [if_pos Jo,F9,FE,h];rfl
theorem HpS.ok_put {s:HpS}(h:s.Ok N){v:Val}{n:Int}(hn:1≤n∧n≤1000){t:Thg}(ht:t.l.length≤1000):(s.put v n t).Ok (N+1):=by
 unfold HpS.put;split
 · rename_i hc
   have hcan:s.can v=true:=by
    unfold HpS.code at hc
    cases hx:s.can v with
    | true=>rfl
    | false=>rw [hx] at hc;cases hc
   unfold HpS.can at hcan;rw [FN] at hcan;have hh:=hcan.2;unfold HpS.has HpS.reg at hh;split at hh
   · rename_i h0
     rw [FE] at hh
     cases hk:s.l[v.region.toNat]? with
     | none=>rw [hk] at hh;cases hh
     | some r=>
       have hrg:s.reg v.region=r:=(by have:=HpS.reg_get hk;rw [Gh h0] at this;exact this);have hth:r.there=true:=(by rw [hk] at hh;exact hh);rw [hrg];have he:=h.each r (FC hk);have hl:=h.left;have hlive:=h.live
       have hne:r.more n=true→s.left≠0:=fun hm e=>by
        unfold HpS.code at hc;rw [hrg] at hc;split at hc
        · cases hc
        · rw [if_pos ⟨hm,e⟩] at hc;cases hc
       (have hu:¬r.more n=true→r.used+n≤16:=fun hm=>by unfold Rgn.more at hm;rw [decide_eq_true_iff] at hm;omega);refine JK h hk Jo ?_ ?_ ?_ ?_
       · split
         · rename_i hm;have:=hne hm;omega
         · exact hl
       · unfold Rgn.room;split<;>simp only [Rgn.push]<;>omega
       · unfold Rgn.room;split<;>simp only [Rgn.push,hth,if_true]<;>omega
       · obtain ⟨g1,g2,g3,g4,g5,g6⟩:=he
         have e1:(r.room n).l=r.l∧(r.room n).there=r.there∧0≤(r.room n).pages∧0≤(r.room n).used∧(r.room n).used≤1000:=by
          unfold Rgn.room;split
          · exact Dz
          · rename_i hm;have:=hu hm;exact Dz
         obtain ⟨e1,e2,e3,e4,e5⟩:=e1;refine ⟨by simp [Rgn.push,e1];omega,fun x hx=>?_,e3,e4,e5,fun hf=>?_⟩
         · simp only [Rgn.push,e1,F5,Gx] at hx
           rcases hx with hx|rfl
           · exact g2 x hx
           · exact ht
         · simp only [Rgn.push,e2,hth] at hf;cases hf
   · cases hh
 · exact h.mono Jo
theorem HpS.ok_shut {s:HpS}(h:s.Ok N){r:Rgn}(hk:s.l[m]?=some r):(⟨s.l.set m Rgn.none,s.left+r.pages⟩:HpS).Ok N:=by
 have he:=h.each r (FC hk);have hl:=h.left;have hlive:=h.live;exact JK h hk (F6 _) Jo (by simp [Rgn.none]) (by simp [Rgn.none];split<;>omega) ⟨by simp [Rgn.none],by simp [Rgn.none],by simp [Rgn.none],by simp [Rgn.none],by simp [Rgn.none],fun _=>rfl⟩
theorem HpS.ok_open {s:HpS}(h:s.Ok N):s.open.Ok (N+1):=by
 unfold HpS.open;split
 · exact h.mono Jo
 · rename_i hf
   have hl:s.live≠16:=fun e=>hf (decide_eq_true e);have hlive:=h.live;have h2:=h.sum;have h3:=h.len;refine ⟨by simp;omega,fun r hr=>?_,h.left,by simp;omega,?_⟩
   · rcases F5.1 hr with hr|hr
     · obtain ⟨g1,g2⟩:=h.each r hr;exact ⟨Jo,g2⟩
     · simp only [Gx] at hr;subst hr;exact ⟨by simp,by simp,by simp,by simp,by simp,fun e=>by cases e⟩
   · show (s.l++[(⟨true,[],0,0⟩:Rgn)]).countP (fun r:Rgn=>r.there)≤16;rw [I6];have:s.live=s.l.countP fun r:Rgn=>r.there:=rfl;simp;omega
end
section
abbrev wr (n:Int):Int:=IntKind.i64.wrap n
def OI (a b:Int):Int×Bool:=if b=0 then (0,false) else if b=-1 then (wr (0 - a),true) else (wr (a.tdiv b),true)
def L0 (k a b:Int):Int×Bool:=
 if k=1 then (wr (a+b),true) else if k=2 then (wr (a - b),true) else if k=3 then (wr (a*b),true)
 else if k=4 then OI a b else if k=5 then (if (OI a b).2 then (wr (a - wr ((OI a b).1*b)),true) else (0,false))
 else if k=6 then (if a<b then 1 else 0,true) else if k=7 then (if a=b then 1 else 0,true) else if k=8 then (Nr .and .i64 a b,true) else if k=9 then (Nr .xor .i64 a b,true) else (0,false)
end
section
structure Frm where
 f:Nat
 b:Nat
 i:Nat
 vals:List Val
 regs:List Int
structure MS where
 h:HpS
 g:Frm
 st:List Frm
 inp:List Int
 out:List Int
 fuel:Nat
inductive Stp where
 | go (s:MS)
 | halt (e:Int)
 | done (l:List Int)
 | lost
def Md {α:Type}(x:Option α)(f:α→Stp):Stp:=match x with
 | none=> .lost
 | some a=>f a
theorem PJ {f:α→Stp}(h:x=none):Md x f= .lost:=by rw [h];rfl
theorem Ql {f:α→Stp}{a:α}(h:x=some a):Md x f=f a:=by rw [h];rfl
abbrev Lk (n:Int):Val:=⟨1,0,0,n⟩
def Frm.val (g:Frm)(k:Int):Option Val:=if k<0 then none else g.vals[k.toNat]?
def Frm.num (g:Frm)(k:Int):Option Int:=match g.val k with
 | none=>none
 | some v=>if v.kind=1 then some v.n else none
def Frm.args (g:Frm):List Int→Option (List Val)
 | []=>some []
 | k::l=>match g.val k,g.args l with
   | some v,some vs=>some (v::vs)
   | _,_=>none
def Frm.reg (g:Frm)(k:Int):Option Int:=if k<0 then none else g.regs[k.toNat]?
def Frm.rgs (g:Frm):List Int→Option (List Int)
 | []=>some []
 | k::l=>match g.reg k,g.rgs l with
   | some v,some vs=>some (v::vs)
   | _,_=>none
def MS.put (s:MS)(vs:List Val):MS:=⟨s.h,⟨s.g.f,s.g.b,s.g.i,s.g.vals++vs,s.g.regs⟩,s.st,s.inp,s.out,s.fuel⟩
def MS.hp (s:MS)(h:HpS):MS:=⟨h,s.g,s.st,s.inp,s.out,s.fuel⟩
def MS.fr (s:MS)(g:Frm):MS:=⟨s.h,g,s.st,s.inp,s.out,s.fuel⟩
def MS.made (s:MS)(e:Int)(h:HpS)(v:Val):Stp:=if e=14 then .halt 6 else if e≠0 then .lost else .go ((s.hp h).put [v])
def Oo (v:Val)(e:Int)(k:Stp):Stp:=if v.kind≠4 then .lost else if e=1 then .halt 2 else if e≠0 then .lost else k
def MS.newR (s:MS):Stp:=if s.h.full=true then .halt 6 else .go ((⟨s.h.open,⟨s.g.f,s.g.b,s.g.i,s.g.vals,s.g.regs++[s.h.openV.region]⟩,s.st,s.inp,s.out,s.fuel⟩:MS).put [s.h.openV])
def MS.inS (s:MS):Stp:=match s.inp with
 | []=> .halt 4
 | n::r=> .go ((⟨s.h,s.g,s.st,r,s.out,s.fuel⟩:MS).put [Lk n])
def MS.outS (s:MS)(n:Int):Stp:=if s.out.length=2000 then .halt 8 else .go ⟨s.h,s.g,s.st,s.inp,s.out++[n],s.fuel⟩
def MS.call (m:Module)(s:MS)(x:Ins):Stp:=match m.funcs[x.k.toNat]? with
 | none=> .lost
 | some g=>Md (s.g.rgs x.regs) fun rs=>Md (s.g.args x.args) fun vs=>
   if (rs.length:Int)≠g.regs∨vs.length≠g.params.length then .lost else if s.st.length+1=40 then .halt 5 else .go ⟨s.h,⟨x.k.toNat,0,0,vs,rs⟩,s.g::s.st,s.inp,s.out,s.fuel⟩
def MS.ins (m:Module)(s:MS)(x:Ins):Stp:=
 if x.op=1 then .go (s.put [Lk x.n])
 else if x.op=2 then Md (s.g.num x.a) fun a=>Md (s.g.num x.b) fun b=>if (L0 x.k a b).2=false then .halt 1 else .go (s.put [Lk (L0 x.k a b).1])
 else if x.op=3 then s.newR
 else if x.op=4 then Md (s.g.val x.a) fun v=>if s.h.can v=false then .lost else .go (s.hp (s.h.shut v))
 else if x.op=5 then Md (s.g.val x.a) fun v=>Md (s.g.args x.args) fun l=>s.made (s.h.code v (Mv l)) (s.h.tuple v l) (s.h.putV v 3 (Mv l))
 else if x.op=6 then Md (s.g.val x.a) fun v=>if v.kind≠3 then .lost else if (s.h.get v x.k).2≠0 then .lost else .go (s.put [(s.h.get v x.k).1])
 else if x.op=7 then Md (s.g.val x.a) fun v=>if v.kind≠3 then .lost else Md (s.g.val x.b) fun y=>if s.h.setC v x.k y≠0 then .lost else .go (s.hp (s.h.set v x.k y))
 else if x.op=8 then Md (s.g.val x.a) fun v=>Md (s.g.num x.b) fun n=>if n<0∨15<n then .halt 3 else s.made (s.h.arrC v n) (s.h.arr v n) (s.h.arrV v n)
 else if x.op=9 then Md (s.g.val x.a) fun v=>Md (s.g.num x.b) fun n=>Oo v (s.h.get v n).2 (.go (s.put [(s.h.get v n).1]))
 else if x.op=10 then Md (s.g.val x.a) fun v=>Md (s.g.num x.b) fun n=>Md (s.g.num x.c) fun c=>Oo v (s.h.setC v n (Lk c)) (.go (s.hp (s.h.set v n (Lk c))))
 else if x.op=11 then Md (s.g.val x.a) fun v=>Oo v (s.h.len v).2 (.go (s.put [Lk (s.h.len v).1]))
 else if x.op=12 then s.inS
 else if x.op=13 then Md (s.g.num x.a) fun n=>s.outS n
 else s.call m x
def MS.to (f:Fun)(s:MS)(t:To):Stp:=match f.blocks[t.block.toNat]? with
 | none=> .lost
 | some b=>Md (s.g.rgs t.regs) fun rs=>Md (s.g.args t.args) fun vs=>
   if (rs.length:Int)≠b.regs∨vs.length≠b.params.length then .lost else .go (s.fr ⟨s.g.f,t.block.toNat,0,vs,rs⟩)
def Lm:List Val→Option (List Int)
 | []=>some []
 | v::l=>match Lm l with
   | none=>none
   | some ns=>if v.kind=1 then some (v.n::ns) else none
def MS.ret (f:Fun)(s:MS)(e:Tail):Stp:=Md (s.g.args e.args) fun vs=>if vs.length≠f.results.length then .lost else match s.st with
 | c::st=> .go ((⟨s.h,c,st,s.inp,s.out,s.fuel⟩:MS).put vs)
 | []=>match Lm vs with
   | none=> .lost
   | some ns=> .done ns
def MS.fin (f:Fun)(s:MS)(e:Tail):Stp:=
 if e.op=1 then s.to f e.yes
 else if e.op=2 then Md (s.g.num e.a) fun n=>if n≠0 then s.to f e.yes else s.to f e.no
 else s.ret f e
def MS.next (s:MS):MS:=s.fr ⟨s.g.f,s.g.b,s.g.i+1,s.g.vals,s.g.regs⟩
def MS.one (m:Module)(s:MS):Stp:=match m.funcs[s.g.f]? with
 | none=> .lost
 | some f=>match f.blocks[s.g.b]? with
   | none=> .lost
   | some b=>match b.code[s.g.i]? with
     | some x=>s.next.ins m x
     | none=>s.fin f b.fin
def MS.place (m:Module)(s:MS):Int:=match m.funcs[s.g.f]? with
 | none=>0
 | some f=>match f.blocks[s.g.b]? with
   | none=>0
   | some b=>if s.g.i<b.code.length then Pu s.g.f s.g.b s.g.i else Rd s.g.f s.g.b
def MS.tick (s:MS):MS:=⟨s.h,s.g,s.st,s.inp,s.out,s.fuel+1⟩
inductive Run where
 | on (s:MS)
 | over (s:MS) (e:Int) (back:List Int)
 | stuck (f:Mw)
def Run.of (m:Module)(s:MS):Stp→Run
 | .go s'=> .on s'
 | .halt e=> .over s.tick e []
 | .done l=> .over s.tick 0 l
 | .lost=> .stuck (20,s.place m)
def Run.step (m:Module)(most:Nat):Run→Run
 | .on s=>if s.fuel=most then .over s 7 [] else .of m s (s.tick.one m)
 | r=>r
def Run.steps (m:Module)(most:Nat):Nat→Run→Run
 | 0,r=>r
 | k+1,r=>Run.steps m most k (r.step m most)
def MS.start (inp:List Int)(pages:Int):MS:=⟨⟨[],pages⟩,⟨0,0,0,[],[]⟩,[],inp,[],0⟩
structure Oc where
 e:Int
 back:List Int
 out:List Int
 fuel:Int
def Run.oc:Run→Oc
 | .on s=>⟨0,[],s.out,s.fuel⟩
 | .over s e back=>⟨e,back,s.out,s.fuel⟩
 | .stuck _=>⟨0,[],[],0⟩
def Run.flt:Run→Mw
 | .stuck f=>f
 | _=>(0,0)
def Run.all (m:Module)(inp:List Int)(most:Nat)(pages:Int):Run:=Run.steps m most (most+1) (.on (MS.start inp pages))
end
end Go.Lir
namespace Go.Proofs.YteflkifmgnpbhaaGreat
open Go.Lir
structure RFrm where
 f:Nat
 b:Nat
 i:Nat
 vals:List Int
structure RS where
 e:EstS
 g:RFrm
 st:List RFrm
 inp:List Int
 out:List Int
 fuel:Nat
inductive RStp where
 | go (s:RS)
 | halt (e:Int)
 | done (l:List Int)
 | crash
def MB {α:Type}(x:Option α)(f:α→RStp):RStp:=match x with
 | none=> .crash
 | some a=>f a
theorem OU {f:α→RStp}{a:α}(h:x=some a):MB x f=f a:=by rw [h];rfl
def RFrm.val (g:RFrm)(k:Int):Option Int:=if k<0 then none else g.vals[k.toNat]?
def RFrm.args (g:RFrm):List Int→Option (List Int)
 | []=>some []
 | k::l=>match g.val k,g.args l with
   | some v,some vs=>some (v::vs)
   | _,_=>none
def RS.put (s:RS)(vs:List Int):RS:=⟨s.e,⟨s.g.f,s.g.b,s.g.i,s.g.vals++vs⟩,s.st,s.inp,s.out,s.fuel⟩
def RS.es (s:RS)(e:EstS):RS:=⟨e,s.g,s.st,s.inp,s.out,s.fuel⟩
def RS.fr (s:RS)(g:RFrm):RS:=⟨s.e,g,s.st,s.inp,s.out,s.fuel⟩
def EstS.word (s:EstS)(i:Int):Int:=s.p.word i
def EstS.store (s:EstS)(i x:Int):EstS:=⟨s.p.store i x,s.rs⟩
def EstS.storesA (s:EstS)(at_:Int)(k:Nat):List Int→EstS
 | []=>s
 | v::l=>(s.store (wr (at_+k)) v).storesA at_ (k+1) l
def EstS.stores (s:EstS)(at_:Int)(l:List Int):EstS:=s.storesA at_ 0 l
theorem EstS.storesA_one {at_ v:Int}:∀{l:List Int}{s:EstS}{k:Nat},s.storesA at_ k (l++[v])=(s.storesA at_ k l).store (wr (at_+(k+l.length:Nat))) v
 | [],s,k=>by simp [EstS.storesA]
 | a::l,s,k=>by
   rw [G3,EstS.storesA,EstS.storesA,EstS.storesA_one (l:=l),FP,show k+1+l.length=k+(l.length+1) by omega]
abbrev Jv:=@EstS.storesA_one
theorem EstS.stores_take {s:EstS}{at_ v:Int}(h:l[q]?=some v):s.stores at_ (l.take (q+1))=(s.stores at_ (l.take q)).store (wr (at_+q)) v:=by
 obtain ⟨hq,hv⟩:=FD.mp h;rw [Iy,h];show s.storesA at_ 0 (l.take q++[v])=_;rw [Jv,GM,Jz Jo,Hb];rfl
def RS.gotR (s:RS)(r n:Int)(k:EstS→Int→RStp):RStp:=if s.e.code r n=14 then .halt 6 else k (s.e.get r n) (s.e.getV r n)
def RS.atR (s:RS)(a k:Int)(c:Int→RStp):RStp:=if k<0∨s.e.word a≤k then .halt 2 else c (wr (wr (a+1)+k))
def RS.inR (s:RS):RStp:=match s.inp with
 | []=> .halt 4
 | n::r=> .go ((⟨s.e,s.g,s.st,r,s.out,s.fuel⟩:RS).put [n])
def RS.outR (s:RS)(n:Int):RStp:=if s.out.length=2000 then .halt 8 else .go ⟨s.e,s.g,s.st,s.inp,s.out++[n],s.fuel⟩
def RS.callR (s:RS)(k:Int)(vs:List Int):RStp:=if s.st.length+1=40 then .halt 5 else .go ⟨s.e,⟨k.toNat,0,0,vs⟩,s.g::s.st,s.inp,s.out,s.fuel⟩
def RS.ins (m:Module)(s:RS)(x:Ins):RStp:=
 if x.op=1 then .go (s.put [x.n])
 else if x.op=2 then MB (s.g.val x.a) fun a=>MB (s.g.val x.b) fun b=>if (L0 x.k a b).2=false then .halt 1 else .go (s.put [(L0 x.k a b).1])
 else if x.op=3 then (if s.e.openV<0 then .halt 6 else .go ((s.es s.e.open).put [s.e.openV]))
 else if x.op=4 then MB (s.g.val x.a) fun a=> .go (s.es (s.e.shut a))
 else if x.op=5 then MB (s.g.val x.a) fun a=>MB (s.g.args x.args) fun l=>s.gotR a (max (x.args.length:Int) 1) fun e at_=> .go ((s.es (e.stores at_ l)).put [at_])
 else if x.op=6 then MB (s.g.val x.a) fun a=> .go (s.put [s.e.word (wr (a+x.k))])
 else if x.op=7 then MB (s.g.val x.a) fun a=>MB (s.g.val x.b) fun b=> .go (s.es (s.e.store (wr (a+x.k)) b))
 else if x.op=8 then MB (s.g.val x.a) fun a=>MB (s.g.val x.b) fun n=>if n<0∨15<n then .halt 3 else s.gotR a (1+n) fun e at_=> .go ((s.es (e.store at_ n)).put [at_])
 else if x.op=9 then MB (s.g.val x.a) fun a=>MB (s.g.val x.b) fun k=>s.atR a k fun q=> .go (s.put [s.e.word q])
 else if x.op=10 then MB (s.g.val x.a) fun a=>MB (s.g.val x.b) fun k=>MB (s.g.val x.c) fun c=>s.atR a k fun q=> .go (s.es (s.e.store q c))
 else if x.op=11 then MB (s.g.val x.a) fun a=> .go (s.put [s.e.word a])
 else if x.op=12 then s.inR
 else if x.op=13 then MB (s.g.val x.a) fun n=>s.outR n
 else MB (s.g.args x.args) fun vs=>s.callR x.k vs
def RS.to (s:RS)(t:To):RStp:=MB (s.g.args t.args) fun vs=> .go (s.fr ⟨s.g.f,t.block.toNat,0,vs⟩)
def RS.fin (s:RS)(e:Tail):RStp:=
 if e.op=3 then MB (s.g.args e.args) fun vs=>match s.st with
  | c::st=> .go ((⟨s.e,c,st,s.inp,s.out,s.fuel⟩:RS).put vs)
  | []=> .done vs
 else if e.op=2 then MB (s.g.val e.a) fun n=>if n=0 then s.to e.no else s.to e.yes
 else s.to e.yes
def RS.next (s:RS):RS:=s.fr ⟨s.g.f,s.g.b,s.g.i+1,s.g.vals⟩
def RS.one (m:Module)(s:RS):RStp:=match m.funcs[s.g.f]? with
 | none=> .crash
 | some f=>match f.blocks[s.g.b]? with
   | none=> .crash
   | some b=>match b.code[s.g.i]? with
     | some x=>s.next.ins m x
     | none=>s.fin b.fin
def RS.tick (s:RS):RS:=⟨s.e,s.g,s.st,s.inp,s.out,s.fuel+1⟩
def RS.start (inp:List Int)(pages:Nat):RS:=⟨EstS.mk0 pages,⟨0,0,0,[]⟩,[],inp,[],0⟩
end Go.Proofs.YteflkifmgnpbhaaGreat
namespace Go.Proofs.YteflkifmgnpbhaaGreat
open Go.Lir
attribute [local irreducible] LC.wp Q0 Qr Qj Lo QJ LO.wp Q6 Calls
theorem dq:∀(t:Ty){cx:Cx}{w:World}{L:List Res}{cs:List Value}{left:Int},K0.at cx cs t→-1≤left→left≤1000000→St cx w L→
 KK Tryz.prog Qg3 [.agg ⟨cs⟩, .int .i64 left] w fun v w'=>v= .int .i64 (t.size left)∧St cx w' L:=by
 intro t
 induction t using HI with
 | h k r l ih=>
   intro cx w L cs left ht h1 h2 hS;obtain ⟨v,rfl,hl⟩:=Qe ht;simp only [Ty.kind,Ty.r,Ty.l] at hl ht ⊢;have hlen:=hl.len;rw [Ty.size];refine KY KX Tryz.func158 ?_;refine' Lx;intro p2 w1 hS;refine' Mz;refine' PV;refine' UY;refine Mx hS [2] (fun A LL ρ' w'=>∃(j:Nat) (n:Int),KR ρ' A∧KR ρ' [(1, .int .i64 n),(5, .int .i64 j)]∧(j≤l.length)∧(n≤1000000)∧(-2≤n)∧(Tys.size l (left - 1)=Tys.size (l.drop j) n)∧St cx w' (LL)) (fun ρ' _=>(l.length - iv (ρ' 5)).toNat) ?_ ?_
   · exact ⟨0,left - 1,zh,zh,Jo,Jo,Jo,by simp,hS.sp⟩
   ((rintro ρ w1 ⟨j,n,hA,hρ,hj,hn,hn1,hd,hS⟩;obtain ⟨ρ,rfl⟩:=KS hA hρ;refine' RB;refine' zL;first|(refine' LG)|(refine' LM)|(refine' Ae<;>intro hc));all_goals (refine' Mr;first|refine' KP|(refine' KQ;(first|(refine' MV)|(refine' Nu)|(refine' Ag<;>intro hc)))));all_goals (refine' LH)
   all_goals
    first
    | (refine' KO;all_goals (refine' U2);all_goals (refine ⟨_,rfl,?_,hS.sp⟩;(rw [hd];congr 1;first|(rw [Il _ Jo];done)|(rw [FJ Jo,Tys.size];done));done))
    | (refine' KN;refine' MF;refine' So;refine' PA;intro b1 o1 cs1 x1 hat1 hx1 he1;obtain ⟨vl1,rfl,hl1⟩:=Qe he1;refine' N7;refine' zm;refine' KU (c:=ih _ (FC Ja) Ja Jo Jo hS);rintro v1 w1 ⟨rfl,hS⟩;refine' UZ;(exact ⟨⟨j+1,_,zh,zh,Jo,by have:=Ty.size_rng x1 (left:=n) Jo;omega,by have:=Ty.size_rng x1 (left:=n) Jo;omega,by rw [hd,Q1 hx1,Tys.size,if_pos Jo],hS.sp⟩,Qc Jo⟩))
theorem YR (ht:K0.at cx cs t)(hS:St cx w L):
 KK Tryz.prog Qe2 [.agg ⟨cs⟩] w fun v w'=>v= .bool t.great∧St cx w' L:=by
 obtain ⟨v,rfl,hl⟩:=Qe ht;refine KY KX Tryz.func101 ?_;refine' Lx;intro p1 w1 hS;refine' K5;refine' Nw;refine' KU (c:=dq t ht Jo Jo hS);rintro v1 w1 ⟨rfl,hS⟩;refine iG rfl rfl ?_;refine' Ly;(((refine ⟨_,rfl,?_,hS.sp⟩;(rfl);done)))
theorem gG {l:List Ty}{v:Value}(hl:K0.sl cx v l)(hS:St cx w L):
 KK Tryz.prog QcF [v] w fun u w'=>u= .bool (Tys.great l)∧St cx w' L:=by
 (have hlen:=hl.len;unfold Tys.great;refine KY KX Tryz.func58 ?_;refine' Ob;refine' zL;first|(refine' QO)|(refine' QV)|(refine' Af<;>intro hc));all_goals (refine' zn)
 all_goals
  first
  | (refine' KN;refine' Lh;((refine ⟨_,rfl,?_,hS.sp⟩;(rw [decide_eq_true Jo,Ij]);done)))
  | (refine' KO;refine' KV)
 refine' M8;refine Mx hS [0] (fun A LL ρ' w'=>∃(j:Nat),KR ρ' A∧KR ρ' [(3, .int .i64 j)]∧(j≤l.length)∧(l.any Ty.great=(l.drop j).any Ty.great)∧St cx w' (LL)) (fun ρ' _=>(l.length - iv (ρ' 3)).toNat) ?_ ?_
 · exact AH
 rintro ρ w1 ⟨j,hA,hρ,hj,hd,hS⟩;obtain ⟨ρ,rfl⟩:=KS hA hρ;refine' Tc;refine' Ab<;>intro hc
 · skip
   refine' MF;refine' Lu;refine' zi;intro b1 o1 cs1 x1 hat1 hx1 he1;obtain ⟨vl1,rfl,hl1⟩:=Qe he1;refine' N7;refine' Lf (c:=YR Ja hS);rintro v1 w1 ⟨rfl,hS⟩;cases hg:x1.great;all_goals (refine' zn)
   all_goals
    first
    | (refine' KN;refine' Lh;first|(refine ⟨_,rfl,?_,hS.sp⟩;rw [decide_eq_true Jo,Ij];done)|(refine ⟨_,rfl,?_,hS.sp⟩;rw [decide_eq_false Jo,hd,HD,Q1 hx1,IB,hg,Ij];done))
    | (refine' KO;refine' KV)
   refine' Mk;(exact ⟨⟨j+1,zh,zh,Jo,by rw [hd,Q1 hx1,IB,hg,HD],hS.sp⟩,Qc Jo⟩)
 · skip;refine' O5;(first|(refine ⟨_,rfl,?_,hS.sp⟩;rw [decide_eq_true Jo,Ij];done)|(refine ⟨_,rfl,?_,hS.sp⟩;rw [decide_eq_false Jo,hd,HD,Q1 hx1,IB,hg,Ij];done)|(refine ⟨_,rfl,?_,hS.sp⟩;rw [decide_eq_false Jo,hd,HD,FJ Jo];rfl;done))
theorem dr:∀(t:Ty){cx:Cx}{w:World}{L:List Res}{cs:List Value}{left:Int},K0.at cx cs t→left≤1000000→St cx w L→
 KK Tryz.prog Qfg [.agg ⟨cs⟩, .int .i64 left] w fun v w'=>v= .bool (t.deepB left)∧St cx w' L:=by
 intro t
 induction t using HI with
 | h k r l ih=>
   (intro cx w L cs left ht h1 hS;obtain ⟨v,rfl,hl⟩:=Qe ht;simp only [Ty.kind,Ty.r,Ty.l] at hl ht ⊢;have hlen:=hl.len;rw [Ty.deepB];refine KY KX Tryz.func211 ?_;refine' Lx;intro p2 w1 hS;refine' Pz;first|(refine' LG)|(refine' LM)|(refine' Ae<;>intro hc));all_goals (refine' zn)
   all_goals
    first
    | (refine' KN;refine' Lh;((refine ⟨_,rfl,?_,hS.sp⟩;(rw [if_pos Jo]);done)))
    | (refine' KO;refine' KV)
   refine' NP;refine' PF;refine Mx hS [1,10,11] (fun A LL ρ' w'=>∃(j:Nat),KR ρ' A∧KR ρ' [(12, .int .i64 j)]∧(j≤l.length)∧(Tys.deepB l (left - 1)=Tys.deepB (l.drop j) (left - 1))∧St cx w' (LL)) (fun ρ' _=>(l.length - iv (ρ' 12)).toNat) ?_ ?_
   · exact AH
   rintro ρ w1 ⟨j,hA,hρ,hj,hd,hS⟩;obtain ⟨ρ,rfl⟩:=KS hA hρ;refine' NV;refine' Ab<;>intro hc
   · skip
     refine' S9;refine' zi;intro b1 o1 cs1 x1 hat1 hx1 he1;obtain ⟨vl1,rfl,hl1⟩:=Qe he1;refine' NO;intro p6 w1 hS;refine K1 hS ?_;intro w1 hS;have hS:=hS.ns;refine' RD;refine' zm;refine' PV;refine' KU (c:=ih _ (FC Ja) Ja Jo hS);rintro v1 w1 ⟨rfl,hS⟩;cases hg:x1.deepB (left - 1);all_goals (refine' Oy)
     all_goals
      first
      | (refine' KO;refine' KV)
      | (refine' KN;refine' Lh;first|(refine ⟨_,rfl,?_,hS.sp⟩;rw [if_pos Jo];done)|(refine ⟨_,rfl,?_,hS.sp⟩;rw [if_neg Jo,hd,Q1 hx1,Tys.deepB,hg,JC];done))
     refine' Rl;(exact ⟨⟨j+1,zh,zh,Jo,by rw [hd,Q1 hx1,Tys.deepB,hg,Bool.true_and],hS.sp⟩,Qc Jo⟩)
   · skip;refine' O5;(first|(refine ⟨_,rfl,?_,hS.sp⟩;rw [if_pos Jo];done)|(refine ⟨_,rfl,?_,hS.sp⟩;rw [if_neg Jo,hd,Q1 hx1,Tys.deepB,hg,JC];done)|(refine ⟨_,rfl,?_,hS.sp⟩;rw [if_neg Jo,hd,FJ Jo,Tys.deepB];done))
theorem YS: ∀ (t:Ty){cx:Cx}{w:World}{L:List Res}{cs:List Value}{regs:Int},K0.at cx cs t→St cx w L→
 KK Tryz.prog QcY [.agg ⟨cs⟩, .int .i64 regs] w fun v w'=>v= .int .i64 (t.wrong 8 regs)∧St cx w' L:=by
 intro t
 induction t using HI with
 | h k r l ih =>
   intro cx w L cs regs ht hS;obtain ⟨v,rfl,hl⟩:=Qe ht;simp only [Ty.kind,Ty.r,Ty.l] at hl ht ⊢;have hlen:=hl.len;rw [Ty.wrong];refine KY KX Tryz.func212 ?_;refine' Lx;intro p2 w1 hS;refine' K5;refine Rx hS [1,2] (fun A LL ρ' w'=>KR ρ' A∧KR ρ' []∧(1≤k∧k≤4∧k≠1∧(k≠3→l.length=0)∧l.length≤8)∧St cx w' (LL)) ?_ ?_
   · skip
     (refine' Ot;refine' S6;refine' K3;first|(refine' Qd)|(refine' Qi)|(refine' Ac<;>intro hc));all_goals (refine' K5)
     all_goals
      first
      | (refine' KN
         ((refine' NP;first|(refine' QG)|(refine' QI)|(refine' Ad<;>intro hc));all_goals (refine' Rn;first|refine' KP|(refine' KQ;(first|(refine' QO)|(refine' QV)|(refine' Af<;>intro hc)))));all_goals (refine' LH)
         all_goals
          first
          | (refine' KN;all_goals (refine' Lh);all_goals (refine ⟨_,rfl,?_,hS.sp⟩;(repeat (first|rw [if_pos Jo]|rw [if_neg Jo]));done))
          | (refine' KO;refine' KV)
         refine' Lh;first|(refine ⟨_,rfl,?_,hS.sp⟩;(repeat (first|rw [if_pos Jo]|rw [if_neg Jo]));done)|(refine ⟨_,rfl,?_,hS.sp⟩;((repeat (first|rw [if_pos Jo]|rw [if_neg Jo]));rw [hd,Q1 hx1,Tys.wrong,if_pos Ja]);done)|(refine ⟨_,rfl,?_,hS.sp⟩;((repeat (first|rw [if_pos Jo]|rw [if_neg Jo]));rw [GV (l:=l) Jo,Tys.wrong]);done))
      | (refine' KO
         (refine Qo ?_;refine' K3;first|(refine' Qd)|(refine' Qi)|(refine' Ac<;>intro hc));all_goals (refine' K5)
         all_goals
          first
          | (refine' KN;refine' KV)
          | (refine' KO;(refine' Mm;first|(refine' Qd)|(refine' Qi)|(refine' Ac<;>intro hc));all_goals (refine' zm);all_goals refine' zn)
         all_goals
          first
          | (refine' KN
             all_goals (refine' U4;first|(refine' QO)|(refine' QV)|(refine' Af<;>intro hc));all_goals (refine' zn)
             all_goals
              first
              | (refine' KN;all_goals (refine' Lh);all_goals (refine ⟨_,rfl,?_,hS.sp⟩;(repeat (first|rw [if_pos Jo]|rw [if_neg Jo]));done))
              | (refine' KO;all_goals refine' KV))
          | (refine' KO
             (refine' K3;first|(refine' Qd)|(refine' Qi)|(refine' Ac<;>intro hc));all_goals (refine' K5)
             all_goals
              first
              | (refine' KN
                 (refine' U4;first|(refine' QO)|(refine' QV)|(refine' Af<;>intro hc));all_goals (refine' zn)
                 all_goals
                  first
                  | (refine' KN;refine' Lh;((refine ⟨_,rfl,?_,hS.sp⟩;((repeat (first|rw [if_pos Jo]|rw [if_neg Jo])));done)))
                  | (refine' KO;refine' KV))
              | (refine' KO;refine' Lh;((refine ⟨_,rfl,?_,hS.sp⟩;((repeat (first|rw [if_pos Jo]|rw [if_neg Jo])));done)))))
     all_goals (exact ⟨zh,zh,Jo,hS.sp⟩)
   ((rintro ρ w1 ⟨hA,hρ,hk,hS⟩;obtain ⟨ρ,rfl⟩:=KS hA hρ;refine' NP;first|(refine' LG)|(refine' LM)|(refine' Ae<;>intro hc));all_goals (refine' Ms;refine' MT;first|refine' KP|(refine' KQ;(first|(refine' MV)|(refine' Nu)|(refine' Ag<;>intro hc)))));all_goals (refine' LH)
   all_goals
    first
    | (refine' KN;all_goals (refine' Lh);all_goals (refine ⟨_,rfl,?_,hS.sp⟩;(repeat (first|rw [if_pos Jo]|rw [if_neg Jo]));done))
    | (refine' KO;refine' KV)
   refine' NP;refine' PF;refine Mx hS [1,44,45] (fun A LL ρ' w'=>∃(j:Nat),KR ρ' A∧KR ρ' [(46, .int .i64 j)]∧(j≤l.length)∧(Tys.wrong 8 l regs=Tys.wrong 8 (l.drop j) regs)∧St cx w' (LL)) (fun ρ' _=>(l.length - iv (ρ' 46)).toNat) ?_ ?_
   · exact AH
   rintro ρ w1 ⟨j,hA,hρ,hj,hd,hS⟩;obtain ⟨ρ,rfl⟩:=KS hA hρ;refine' NV;refine' Ab<;>intro hc
   · skip
     (refine' S9;refine' zi;intro b1 o1 cs1 x1 hat1 hx1 he1;obtain ⟨vl1,rfl,hl1⟩:=Qe he1;refine' NO;intro p6 w1 hS;refine K1 hS ?_;intro w1 hS;have hS:=hS.ns;refine' RD;refine' zm;refine' KU (c:=ih _ (FC Ja) Ja hS);rintro v1 w1 ⟨rfl,hS⟩;refine' Mz;first|(refine' QG)|(refine' QI)|(refine' Ad<;>intro hc));all_goals (refine' zn)
     all_goals
      first
      | (refine' KN;refine' RV;first|(refine ⟨_,rfl,?_,hS.sp⟩;(repeat (first|rw [if_pos Jo]|rw [if_neg Jo]));done)|(refine ⟨_,rfl,?_,hS.sp⟩;((repeat (first|rw [if_pos Jo]|rw [if_neg Jo]));rw [hd,Q1 hx1,Tys.wrong,if_pos Ja]);done))
      | (refine' KO;refine' KV)
     refine' Rl;(exact CF)
   · skip;refine' O5;(first|(refine ⟨_,rfl,?_,hS.sp⟩;(repeat (first|rw [if_pos Jo]|rw [if_neg Jo]));done)|(refine ⟨_,rfl,?_,hS.sp⟩;((repeat (first|rw [if_pos Jo]|rw [if_neg Jo]));rw [hd,Q1 hx1,Tys.wrong,if_pos Ja]);done)|(refine ⟨_,rfl,?_,hS.sp⟩;((repeat (first|rw [if_pos Jo]|rw [if_neg Jo]));rw [GV (l:=l) Jo,Tys.wrong]);done)|(refine ⟨_,rfl,?_,hS.sp⟩;((repeat (first|rw [if_pos Jo]|rw [if_neg Jo]));rw [hd,FJ Jo,Tys.wrong]);done))
theorem uY (ht:K0.at cx cs t)(hS:St cx w L):
 KK Tryz.prog QcZ [.agg ⟨cs⟩, .int .i64 regs] w fun v w'=>v= .int .i64 (t.fault regs)∧St cx w' L:=by
 obtain ⟨v,rfl,hl⟩:=Qe ht;unfold Ty.fault;refine KY KX Tryz.func159 ?_;refine' Lx;intro p2 w1 hS;refine' OS;refine' Nw;refine' KU (c:=dr t ht Jo hS);rintro v1 w1 ⟨rfl,hS⟩;cases hg:t.deepB 4;all_goals (refine' Oy)
 all_goals
  first
  | (refine' KN;refine' Lh;((refine ⟨_,rfl,?_,hS.sp⟩;(rfl);done)))
  | (refine' KO;refine' KV)
 refine' Nw;refine' zm;refine' KU (c:=YS t ht hS);rintro v1 w1 ⟨rfl,hS⟩;refine' Ly;(refine ⟨_,rfl,?_,hS.sp⟩;(rfl);done)
theorem uZ:∀(t:Ty){cx:Cx}{w:World}{L:List Res}{cs:List Value}{most:Int},K0.at cx cs t→0≤most→most≤1000→St cx w L→
 KK Tryz.prog Vd [.agg ⟨cs⟩, .int .i64 most] w fun v w'=>v= .int .i64 (t.depth most)∧St cx w' L:=by
 intro t
 induction t using HI with
 | h k r l ih=>
   intro cx w L cs most ht h0 h1 hS;obtain ⟨v,rfl,hl⟩:=Qe ht;simp only [Ty.kind,Ty.r,Ty.l] at hl ht ⊢;have hlen:=hl.len;rw [Ty.depth];refine KY KX Tryz.func152 ?_;refine' Lx;intro p2 w1 hS;refine' K5;refine' Mf;refine' M8;refine Mx hS [1,2] (fun A LL ρ' w'=>∃(j:Nat) (n:Int),KR ρ' A∧KR ρ' [(5, .int .i64 n),(6, .int .i64 j)]∧(j≤l.length)∧(0≤n)∧(n≤1002)∧(Tys.depth l most 0=Tys.depth (l.drop j) most n)∧St cx w' (LL)) (fun ρ' _=>(l.length - iv (ρ' 6)).toNat) ?_ ?_
   · exact ⟨0,0,zh,zh,Jo,Jo,Jo,by simp,hS.sp⟩
   ((rintro ρ w1 ⟨j,n,hA,hρ,hj,hn0,hn,hd,hS⟩;obtain ⟨ρ,rfl⟩:=KS hA hρ;refine' RB;refine' zL;first|(refine' LG)|(refine' LM)|(refine' Ae<;>intro hc));all_goals (refine' Mr;refine' MT;first|refine' KP|(refine' KQ;(first|(refine' aM)|(refine' aN)|(refine sX rfl rfl (fun hc=>?_) (fun hc=>?_))))));all_goals (refine' LH)
   all_goals
    first
    | (refine' KO
       all_goals (refine' U2);all_goals (first|(refine ⟨_,rfl,?_,hS.sp⟩;rw [hd];cases hx:l.drop j with|nil=>exact absurd (Kf.1 hx) Jo|cons y m=>rw [Tys.depth,if_pos Jo,if_pos Jo];done)|(refine ⟨_,rfl,?_,hS.sp⟩;rw [hd,FJ Jo,Tys.depth];done)|(refine ⟨_,rfl,?_,hS.sp⟩;rw [hd];cases hx:l.drop j with|nil=>rw [Tys.depth]|cons y m=>rw [Tys.depth,if_neg Jo];done)))
    | (refine' KN
       (refine' MF;refine' NI;first|(refine' Qd)|(refine' Qi)|(refine' Ac<;>intro hc));all_goals (refine' zn)
       all_goals
        first
        | (refine' KN
           refine' Lh;((refine ⟨_,rfl,?_,hS.sp⟩;(rw [hd];cases hx:l.drop j with|nil=>exact absurd (Kf.1 hx) Jo|cons y m=>rw [Tys.depth,if_pos Jo,if_pos Jo]);done)))
        | (refine' KO;refine' KV)
       (refine' cW;intro b1 o1 cs1 x1 hat1 hx1 he1;obtain ⟨vl1,rfl,hl1⟩:=Qe he1;refine' N7;refine' zm;refine' PV;have hb:=Ty.depth_rng x1 (most:=most - 1) Jo;refine' KU (c:=ih _ (FC Ja) Ja Jo Jo hS);rintro v1 w1 ⟨rfl,hS⟩;refine' l8;refine' Lu;first|(refine' QO)|(refine' QV)|(refine' Af<;>intro hc));all_goals (refine' zn)
       all_goals
        first
        | (refine' KN;refine' NJ;refine' zn)
        | (refine' KO;refine' KV)
       all_goals (refine' Mk);all_goals (first|(exact ⟨⟨j+1,_,zh,zh,Jo,Jo,Jo,by rw [hd,Q1 hx1,Tys.depth,if_pos Jo,if_neg Jo,if_pos Jo],hS.sp⟩,Qc Jo⟩)|(exact ⟨⟨j+1,_,zh,zh,Jo,Jo,Jo,by rw [hd,Q1 hx1,Tys.depth,if_pos Jo,if_neg Jo,if_neg Jo],hS.sp⟩,Qc Jo⟩)))
theorem Vp:∀(t:Ty){cx:Cx}{w:World}{L:List Res}{cs:List Value}{regs:Int},K0.at cx cs t→St cx w L→
 KK Tryz.prog QdV [.agg ⟨cs⟩, .int .i64 regs] w fun v w'=>v= .int .i64 (t.wrong 8 regs)∧St cx w' L:=by
 intro t
 induction t using HI with
 | h k r l ih=>
   ((intro cx w L cs regs ht hS;obtain ⟨v,rfl,hl⟩:=Qe ht;simp only [Ty.kind,Ty.r,Ty.l] at hl ht ⊢;have hlen:=hl.len;rw [Ty.wrong];refine KY KX Tryz.func167 ?_;refine' Lx;intro p2 w1 hS;refine' Sq;first|(refine' LG)|(refine' LM)|(refine' Ae<;>intro hc));all_goals (refine' Ms;first|refine' KP|(refine' KQ;(first|(refine' QO)|(refine' QV)|(refine' Af<;>intro hc)))));all_goals (refine' LH)
   all_goals
    first
    | (refine' KN;all_goals (refine' Lh);all_goals (refine ⟨_,rfl,?_,hS.sp⟩;(repeat (first|rw [if_pos Jo]|rw [if_neg Jo]));done))
    | (refine' KO;refine' KV)
   refine Rx hS [1,2] (fun A LL ρ' w'=>KR ρ' A∧KR ρ' []∧(1≤k∧k≤4∧(k=1→r=0)∧(k≠3→l.length=0))∧St cx w' (LL)) ?_ ?_
   · skip
     ((((refine' Ot;first|(refine' Qd)|(refine' Qi)|(refine' Ac<;>intro hc));all_goals (refine' Ms;first|refine' KP|(refine' KQ;(first|(refine' QG)|(refine' QI)|(refine' Ad<;>intro hc)))));all_goals (refine' MK;refine' Ms;first|refine' KP|(refine' KQ;(first|(refine' QG)|(refine' QI)|(refine' Ad<;>intro hc)))));all_goals (refine' YC;refine' Ng;first|refine' KP|(refine' KQ;(first|(refine' QO)|(refine' QV)|(refine' Af<;>intro hc)))));all_goals (refine' Yw;refine' LH)
     all_goals
      first
      | (refine' KN;all_goals (refine' Lh);all_goals (refine ⟨_,rfl,?_,hS.sp⟩;(repeat (first|rw [if_pos Jo]|rw [if_neg Jo]));done))
      | (refine' KO;all_goals refine' KV)
     all_goals (exact ⟨zh,zh,Jo,hS.sp⟩)
   (rintro ρ w1 ⟨hA,hρ,hk,hS⟩;obtain ⟨ρ,rfl⟩:=KS hA hρ;refine' NP;refine' zL;first|(refine' QO)|(refine' QV)|(refine' Af<;>intro hc));all_goals (refine' zn)
   all_goals
    first
    | (refine' KN;refine' Lh;((refine ⟨_,rfl,?_,hS.sp⟩;((repeat (first|rw [if_pos Jo]|rw [if_neg Jo])));done)))
    | (refine' KO;refine' KV)
   refine Rx hS [1,2] (fun A LL ρ' w'=>KR ρ' A∧KR ρ' []∧(l.length≤8)∧(k≠1→0≤r∧r<regs)∧St cx w' (LL)) ?_ ?_
   · skip
     (((refine' Ot;first|(refine' QG)|(refine' QI)|(refine' Ad<;>intro hc));all_goals (refine' Ms;first|refine' KP|(refine' KQ;(first|(refine' LG)|(refine' LM)|(refine' Ae<;>intro hc)))));all_goals (refine' YC;refine' MT;first|refine' KP|(refine' KQ;(first|(refine' MV)|(refine' Nu)|(refine' Ag<;>intro hc)))));all_goals (refine' Yw;refine' LH)
     all_goals
      first
      | (refine' KN;all_goals (refine' Lh);all_goals (refine ⟨_,rfl,?_,hS.sp⟩;(repeat (first|rw [if_pos Jo]|rw [if_neg Jo]));done))
      | (refine' KO;all_goals refine' KV)
     all_goals (exact ⟨zh,zh,Jo,Jo,hS.sp⟩)
   rintro ρ w1 ⟨hA,hρ,hk2,hk3,hS⟩;obtain ⟨ρ,rfl⟩:=KS hA hρ;refine' M8;refine Mx hS [1,2] (fun A LL ρ' w'=>∃(j:Nat),KR ρ' A∧KR ρ' [(5, .int .i64 j)]∧(j≤l.length)∧(Tys.wrong 8 l regs=Tys.wrong 8 (l.drop j) regs)∧St cx w' (LL)) (fun ρ' _=>(l.length - iv (ρ' 5)).toNat) ?_ ?_
   · exact AH
   rintro ρ w1 ⟨j,hA,hρ,hj,hd,hS⟩;obtain ⟨ρ,rfl⟩:=KS hA hρ;refine' O4;refine' Ab<;>intro hc
   · skip
     (refine' Ta;intro b1 o1 cs1 x1 hat1 hx1 he1;obtain ⟨vl1,rfl,hl1⟩:=Qe he1;refine' N7;refine' zm;refine' KU (c:=ih _ (FC Ja) Ja hS);rintro v1 w1 ⟨rfl,hS⟩;refine' Mz;first|(refine' QG)|(refine' QI)|(refine' Ad<;>intro hc));all_goals (refine' zn)
     all_goals
      first
      | (refine' KN;refine' RV;first|(refine ⟨_,rfl,?_,hS.sp⟩;(repeat (first|rw [if_pos Jo]|rw [if_neg Jo]));done)|(refine ⟨_,rfl,?_,hS.sp⟩;((repeat (first|rw [if_pos Jo]|rw [if_neg Jo]));rw [hd,Q1 hx1,Tys.wrong,if_pos Ja]);done))
      | (refine' KO;refine' KV)
     refine' Mk;(exact CF)
   · skip;refine' O5;(first|(refine ⟨_,rfl,?_,hS.sp⟩;(repeat (first|rw [if_pos Jo]|rw [if_neg Jo]));done)|(refine ⟨_,rfl,?_,hS.sp⟩;((repeat (first|rw [if_pos Jo]|rw [if_neg Jo]));rw [hd,Q1 hx1,Tys.wrong,if_pos Ja]);done)|(refine ⟨_,rfl,?_,hS.sp⟩;((repeat (first|rw [if_pos Jo]|rw [if_neg Jo]));rw [hd,FJ Jo,Tys.wrong]);done))
theorem Qhh (ht:K0.at cx cs t)(hS:St cx w L):
 KK Tryz.prog QdX [.agg ⟨cs⟩, .int .i64 regs] w fun v w'=>v= .int .i64 (t.fault regs)∧St cx w' L:=by
 (obtain ⟨v,rfl,hl⟩:=Qe ht;have hdp:=Ty.depth_iff t (most:=4) Jo;unfold Ty.fault;refine KY KX Tryz.func112 ?_;refine' Lx;intro p2 w1 hS;refine' OS;refine' Nw;refine' KU (c:=uZ t ht Jo Jo hS);rintro v1 w1 ⟨rfl,hS⟩;first|(refine' QO)|(refine' QV)|(refine' Af<;>intro hc));all_goals (refine' zn)
 all_goals
  first
  | (refine' KN;refine' Lh;((refine ⟨_,rfl,?_,hS.sp⟩;(rw [if_pos];cases hg:t.deepB 4<;>simp_all<;>omega);done)))
  | (refine' KO;refine' KV)
 refine Qo ?_;refine' Mm;refine zv hS ?_;refine' zm;refine' KU (c:=Vp t ht hS);rintro v1 w1 ⟨rfl,hS⟩;refine' zm;refine' zn;refine' zr;refine' zf;first|(refine ⟨_,rfl,?_,hS.sp⟩;(rw [if_pos];cases hg:t.deepB 4<;>simp_all<;>omega);done)|(refine ⟨_,rfl,?_,hS.sp⟩;(rw [if_neg];cases hg:t.deepB 4<;>simp_all<;>omega);done)
end Go.Proofs.YteflkifmgnpbhaaGreat
namespace Go.Proofs.YteflkifmgnpbhaaGreat
open Go.Lir
set_option maxRecDepth 100000
theorem Vq:N6 Tryz.prog 22=some (95,4,80,[(.int .i64 0),(.slice none 0 0),(.slice none 0 0),(.slice none 0 0)]):=by kernel_rfl
theorem aW:∃e2,Tryz.prog.underlying 22=some (.slice e2):=⟨95,by kernel_rfl⟩
theorem YT:N6 Tryz.prog 25=some (2,1,8,[(.int .i64 0)]):=by kernel_rfl
theorem aX:∃e2,Tryz.prog.underlying 25=some (.slice e2):=⟨2,by kernel_rfl⟩
theorem dt:N6 Tryz.prog 64=some (138,4,48,[(.int .i64 0),(.int .i64 0),(.int .i64 0),(.slice none 0 0)]):=by kernel_rfl
theorem jD:∃e2,Tryz.prog.underlying 64=some (.slice e2):=⟨138,by kernel_rfl⟩
theorem SC:N6 Tryz.prog 68=some (3,1,8,[(.int .i64 0)]):=by kernel_rfl
theorem Tg:∃e2,Tryz.prog.underlying 68=some (.slice e2):=⟨3,by kernel_rfl⟩
theorem Vr:N6 Tryz.prog 85=some (84,8,96,[(.int .i64 0),(.int .i64 0),(.int .i64 0),(.int .i64 0),(.int .i64 0),(.int .i64 0),(.slice none 0 0),(.slice none 0 0)]):=by kernel_rfl
theorem aY:∃e2,Tryz.prog.underlying 85=some (.slice e2):=⟨84,by kernel_rfl⟩
theorem Ro:N6 Tryz.prog 86=some (115,3,40,[(.int .i64 0),(.int .i64 0),(.slice none 0 0)]):=by kernel_rfl
theorem RE:∃e2,Tryz.prog.underlying 86=some (.slice e2):=⟨115,by kernel_rfl⟩
theorem Vs:N6 Tryz.prog 93=some (92,12,208,[(.int .i64 0),(.slice none 0 0),(.slice none 0 0),(.int .i64 0),(.int .i64 0),(.int .i64 0),(.slice none 0 0),(.slice none 0 0),(.int .i64 0),(.slice none 0 0),(.slice none 0 0),(.slice none 0 0)]):=by kernel_rfl
theorem aZ:∃e2,Tryz.prog.underlying 93=some (.slice e2):=⟨92,by kernel_rfl⟩
theorem jE:N6 Tryz.prog 146=some (4,1,1,[(.bool false)]):=by kernel_rfl
theorem mj:∃e2,Tryz.prog.underlying 146=some (.slice e2):=⟨4,by kernel_rfl⟩
end Go.Proofs.YteflkifmgnpbhaaGreat
namespace Go.Proofs.YteflkifmgnpbhaaGreat
open Go.Lir
attribute [local irreducible] LC.wp Q0 Qr Qj Lo QJ LO.wp Q6 Calls
section
theorem u6 {l:List Ty}(hlen:l.length≤100000)(ih:∀x∈l,∀{cx:Cx}{w:World}{L:List Res}{cs:List Value},K0.at cx cs x→St cx w L→KK Tryz.prog uD [.agg ⟨cs⟩] w fun u w'=>∃c' ds,u= .agg ⟨ds⟩∧cx.Le c'∧K0.at c' ds x∧St c' w' L)
 {v:Value}(hl:K0.sl cx v l)(hS:St cx w L):KK Tryz.prog pQ [v] w fun u w'=>∃c',cx.Le c'∧K0.sl c' u l∧St c' w' L:=by
 refine KY KX Tryz.func59 ?_;refine' Mf;refine' Mf;refine' M8;refine Mx hS [0] (fun A LL ρ' w'=>∃(c1:Cx) (j:Nat) (u:Value) (css:List (List Value)),KR ρ' A∧KR ρ' [(3,u),(4, .int .i64 j)]∧(cx.Le c1)∧(j≤l.length)∧(K0.ls c1 css (l.take j))∧(oneC u=true)∧St c1 w' (sl 115 3 u css::LL)) (fun ρ' _=>(l.length - iv (ρ' 4)).toNat) ?_ ?_
 · exact BW
 rintro ρ w1 ⟨c1,j,u,css,hA,hρ,hle,hj,hls,hu,hS⟩;obtain ⟨ρ,rfl⟩:=KS hA hρ;have hl:=GJ hl hle;refine' Tc;refine' Ab<;>intro hc
 · skip;refine' MF;refine' RX;refine' zi;intro b1 o1 cs1 x1 hat1 hx1 he1;obtain ⟨vl1,rfl,hl1⟩:=Qe he1;refine' N7;refine' Lf (c:=ih _ (FC hx1) he1 hS);rintro v1 w1 ⟨c2,ds,rfl,hle2,hd,hS⟩;obtain ⟨v2,rfl,hv2⟩:=Qe hd;have hls:=JZ hls hle2;refine LK hS [_,_,_] ?_;intro b1 w1 hS;refine za Ro RE hS ?_;intro vp1 w1 css1 hls1 hv1 hS;have hS:=hS.ns;refine' UZ;(exact BS)
 · skip;refine' U2;(obtain ⟨c3,hle3,hS,hl3⟩:=GF (r:=K0) (l:=l) (T:=115) (es:=3) (v:=u) (css:=css) (L:=L) hS.sp Eg rfl Jo;exact ⟨_,rfl,c3,hle.trans hle3,hl3,hS⟩)
theorem Vt:∀(t:Ty),t.Short→∀{cx:Cx}{w:World}{L:List Res}{cs:List Value},K0.at cx cs t→St cx w L→
 KK Tryz.prog uD [.agg ⟨cs⟩] w fun u w'=>∃c' ds,u= .agg ⟨ds⟩∧cx.Le c'∧K0.at c' ds t∧St c' w' L:=by
 intro t
 induction t using HI with
 | h k r l ih=>
   intro hs cx w L cs ht hS;obtain ⟨v,rfl,hl⟩:=Qe ht;simp only [Ty.kind,Ty.r,Ty.l] at hl ht ⊢;obtain ⟨hlen,hsub⟩:=hs.parts;refine KY KX Tryz.func102 ?_;refine' Lx;intro p1 w1 hS;refine Qh hS ?_;(intro p2 w1 hS);refine' MM;refine zC [(0,none),(1,none),(2,none),(3,none),(4,none),(5,none),(6,some (some [1,3])),(7,none),(8,some none)] ?_;have hS:=hS.drew;refine' TU;refine' PY;refine' Lf (c:=u6 hlen (fun x hx=>ih x hx (hsub x hx)) hl hS);rintro v1 w1 ⟨c1,hle,hl1,hS⟩;obtain ⟨a1,n1,rfl⟩:=FK hl1;refine' Ni;refine OF [_,_,_] ?_;refine' Mb;((refine K1 hS ?_;intro w1 hS;have hS:=hS.ns));refine' LV;refine' zr;refine Mp vw (Q2 (n:=3) Jk Jk (hS.blkAt fd) Jr Jr) ?_;((exact ⟨_,rfl,c1,_,rfl,hle,Rc hl1,hS.sp⟩))
theorem ba {l:List Ty}(hlen:l.length≤100000)(hs:∀x∈l,x.Short){v:Value}(hl:K0.sl cx v l)(hS:St cx w L):KK Tryz.prog pQ [v] w fun u w'=>∃c',cx.Le c'∧K0.sl c' u l∧St c' w' L:=
 u6 hlen (fun x hx=>Vt x (hs x hx)) hl hS
theorem ve {l:List Ty}(hlen:l.length≤100000)(ih:∀x∈l,∀{cx:Cx}{w:World}{L:List Res}{cs:List Value},K0.at cx cs x→St cx w L→KK Tryz.prog uL [.agg ⟨cs⟩] w fun u w'=>∃c' ds,u= .agg ⟨ds⟩∧cx.Le c'∧K0.at c' ds x∧St c' w' L)
 {v:Value}(hl:K0.sl cx v l)(hS:St cx w L):KK Tryz.prog uE [v] w fun u w'=>∃c',cx.Le c'∧K0.sl c' u l∧St c' w' L:=by
 refine KY KX Tryz.func109 ?_;refine' Mf;refine' Ob;refine' PF;refine Mx hS [6,7] (fun A LL ρ' w'=>∃(c1:Cx) (j:Nat) (u:Value) (css:List (List Value)),KR ρ' A∧KR ρ' [(3,u),(8, .int .i64 j)]∧(cx.Le c1)∧(j≤l.length)∧(K0.ls c1 css (l.take j))∧(oneC u=true)∧St c1 w' (sl 115 3 u css::LL)) (fun ρ' _=>(l.length - iv (ρ' 8)).toNat) ?_ ?_
 · exact BW
 rintro ρ w1 ⟨c1,j,u,css,hA,hρ,hle,hj,hls,hu,hS⟩;obtain ⟨ρ,rfl⟩:=KS hA hρ;have hl:=GJ hl hle;refine' NV;refine' Ab<;>intro hc
 · skip;refine' S9;refine' zi;intro b1 o1 cs1 x1 hat1 hx1 he1;obtain ⟨vl1,rfl,hl1⟩:=Qe he1;refine' NO;intro p5 w1 hS;refine K1 hS ?_;intro w1 hS;have hS:=hS.ns;refine' zn;refine' PX;refine' Lf (c:=ih _ (FC hx1) he1 hS);rintro v1 w1 ⟨c2,ds,rfl,hle2,hd,hS⟩;obtain ⟨v2,rfl,hv2⟩:=Qe hd;have hls:=JZ hls hle2;refine LK hS [_,_,_] ?_;intro b1 w1 hS;refine za Ro RE hS ?_;intro vp1 w1 css1 hls1 hv1 hS;have hS:=hS.ns;refine' K5;refine' Rl;(exact BS)
 · skip;refine' U2;(obtain ⟨c3,hle3,hS,hl3⟩:=GF (r:=K0) (l:=l) (T:=115) (es:=3) (v:=u) (css:=css) (L:=L) hS.sp Eg rfl Jo;exact ⟨_,rfl,c3,hle.trans hle3,hl3,hS⟩)
theorem du:∀(t:Ty),t.Short→∀{cx:Cx}{w:World}{L:List Res}{cs:List Value},K0.at cx cs t→St cx w L→
 KK Tryz.prog uL [.agg ⟨cs⟩] w fun u w'=>∃c' ds,u= .agg ⟨ds⟩∧cx.Le c'∧K0.at c' ds t∧St c' w' L:=by
 intro t
 induction t using HI with
 | h k r l ih=>
   intro hs cx w L cs ht hS;obtain ⟨v,rfl,hl⟩:=Qe ht;simp only [Ty.kind,Ty.r,Ty.l] at hl ht ⊢;obtain ⟨hlen,hsub⟩:=hs.parts;refine KY KX Tryz.func166 ?_;refine' Lx;intro p1 w1 hS;refine Qh hS ?_;(intro p2 w1 hS);refine' P0;refine' Lw;refine Nn [_,_,_] ?_;refine Qh hS ?_;(intro p3 w1 hS);((refine K1 hS ?_;intro w1 hS;have hS:=hS.ns));refine' P0;refine' Lf (c:=ve hlen (fun x hx=>ih x hx (hsub x hx)) hl hS);rintro v1 w1 ⟨c1,hle,hl1,hS⟩;obtain ⟨a1,n1,rfl⟩:=FK hl1;refine' S7;intro w1 hS;have hS:=hS.ns;refine' RD;((refine K1 hS ?_;intro w1 hS;have hS:=hS.ns));refine' Mu;refine Mp vw (Q2 (n:=3) Jk Jk (hS.blkAt fd) Jr Jr) ?_;((exact ⟨_,rfl,c1,_,rfl,hle,Rc hl1,hS.sp⟩))
theorem bd {l:List Ty}(hlen:l.length≤100000)(hs:∀x∈l,x.Short){v:Value}(hl:K0.sl cx v l)(hS:St cx w L):KK Tryz.prog uE [v] w fun u w'=>∃c',cx.Le c'∧K0.sl c' u l∧St c' w' L:=
 ve hlen (fun x hx=>du x (hs x hx)) hl hS
end
section
theorem vg {l:List Ty}(ih:∀x∈l,∀(y:Ty){cx:Cx}{w:World}{L:List Res}{cs ds:List Value},K0.at cx cs x→K0.at cx ds y→St cx w L→KK Tryz.prog uH [.agg ⟨cs⟩, .agg ⟨ds⟩] w fun u w'=>u= .bool (decide (x=y))∧St cx w' L)
 {m:List Ty}{v:Value}(hl:K0.sl cx v l)(hm:K0.sl cx v2 m)(hS:St cx w L):KK Tryz.prog uz [v,v2] w fun u w'=>u= .bool (decide (l=m))∧St cx w' L:=by
 (have hlen:=hl.len;refine KY KX Tryz.func76 ?_;refine' Ob;refine' zL;refine' zm;refine' zL;first|(refine' QG)|(refine' QI)|(refine' Ad<;>intro hc));all_goals (refine' zn)
 all_goals
  first
  | (refine' KN;refine' Lh;((refine ⟨_,rfl,?_,hS.sp⟩;(rw [decide_eq_false];exact AK);done)))
  | (refine' KO;refine' KV)
 refine' M8;refine Mx hS [0,1] (fun A LL ρ' w'=>∃(j:Nat),KR ρ' A∧KR ρ' [(5, .int .i64 j)]∧(j≤l.length)∧(l.length=m.length)∧(l=m↔l.drop j=m.drop j)∧St cx w' (LL)) (fun ρ' _=>(l.length - iv (ρ' 5)).toNat) ?_ ?_
 · exact AY
 rintro ρ w1 ⟨j,hA,hρ,hj,hlm,hd,hS⟩;obtain ⟨ρ,rfl⟩:=KS hA hρ;refine' Tc;refine' Ab<;>intro hc
 · skip
   (refine' Rm;refine zD (ci 10 [8,9]) ?_;have hS:=hS.drew;refine' M7;refine' zi;intro b1 o1 cs1 x1 hat1 hx1 he1;obtain ⟨vl1,rfl,hl1⟩:=Qe he1;refine' N7;refine' M7;refine' zi;intro b2 o2 cs2 x2 hat2 hx2 he2;obtain ⟨vl2,rfl,hl2⟩:=Qe he2;refine' N7;refine' KU (c:=ih _ (FC hx1) _ he1 he2 hS);rintro v1 w1 ⟨rfl,hS⟩;(cases hdec:decide (x1=x2));have hg:=of_decide_eq_false hdec;rotate_left;have hg:=of_decide_eq_true hdec;all_goals skip);all_goals (refine' Oy)
   all_goals
    first
    | (refine' KN;refine' Lh;first|(refine ⟨_,rfl,?_,hS.sp⟩;rw [decide_eq_false];exact AK;done)|(refine ⟨_,rfl,?_,hS.sp⟩;rw [decide_eq_false];rw [hd,Q1 hx1,Q1 hx2];simp [hg];done))
    | (refine' KO;refine' KV)
   refine' Mk;(exact Ch)
 · skip;refine' O5;(exact As)
theorem qg:∀(t u:Ty){cx:Cx}{w:World}{L:List Res}{cs ds:List Value},K0.at cx cs t→K0.at cx ds u→St cx w L→
 KK Tryz.prog uH [.agg ⟨cs⟩, .agg ⟨ds⟩] w fun v w'=>v= .bool (decide (t=u))∧St cx w' L:=by
 intro t
 induction t using HI with
 | h k r l ih=>
   ((rintro ⟨k2,r2,m⟩ cx w L cs ds ht hu hS;obtain ⟨v,rfl,hl⟩:=Qe ht;obtain ⟨v2,rfl,hm⟩:=Qe hu;simp only [Ty.kind,Ty.r,Ty.l,Ty.mk.injEq] at hl hm ht hu ⊢;refine KY KX Tryz.func128 ?_;refine' Lx;intro p2 w1 hS;refine zb hS ?_;intro p3 w1 hS;refine' Xv;refine' Lw;first|(refine' Qd)|(refine' Qi)|(refine' Ac<;>intro hc));all_goals (refine' Sj;first|refine' KP|(refine' KQ;(first|(refine' Qd)|(refine' Qi)|(refine' Ac<;>intro hc)))));all_goals (refine' Te;(first|refine' KP|(refine' KQ;refine' KU (c:=vg ih hl hm hS);rintro v1 w1 ⟨rfl,hS⟩));refine' Xx;refine ⟨_,rfl,?_,hS.sp⟩;(simp [*]);done)
theorem gH {l m:List Ty}{v:Value}(hl:K0.sl cx v l)(hm:K0.sl cx v2 m)(hS:St cx w L):KK Tryz.prog uz [v,v2] w fun u w'=>u= .bool (decide (l=m))∧St cx w' L:=
 vg (fun x _=>qg x) hl hm hS
theorem Vu {l:List Ty}{f:FuncId}(hf:SP Tryz.prog f=true){m:List Ty}{v:Value}
 (hcall:∀x∈l,∀y∈m,∀{w:World}{L:List Res}{cs ds:List Value},K0.at cx cs x→K0.at cx ds y→St cx w L→KK Tryz.prog f [.agg ⟨cs⟩, .agg ⟨ds⟩] w fun u w'=>u= .bool (decide (x=y))∧St cx w' L)
 (hl:K0.sl cx v l)(hm:K0.sl cx v2 m)(hS:St cx w L):KK Tryz.prog Q1I [v,v2, .func (.func f) #[] #[]] w fun u w'=>u= .bool (decide (l=m))∧St cx w' L:=by
 (have hlen:=hl.len;refine KY KX Tryz.func162 ?_;refine' Ob;refine' zL;refine' zm;refine' zL;first|(refine' QG)|(refine' QI)|(refine' Ad<;>intro hc));all_goals (refine' zn)
 all_goals
  first
  | (refine' KN;refine' Lh;((refine ⟨_,rfl,?_,hS.sp⟩;(rw [decide_eq_false];exact AK);done)))
  | (refine' KO;refine' KV)
 refine' NI;refine' PF;refine Mx hS [1,2,15,16] (fun A LL ρ' w'=>∃(j:Nat),KR ρ' A∧KR ρ' [(17, .int .i64 j)]∧(j≤l.length)∧(l.length=m.length)∧(l=m↔l.drop j=m.drop j)∧St cx w' (LL)) (fun ρ' _=>(l.length - iv (ρ' 17)).toNat) ?_ ?_
 · exact AY
 rintro ρ w1 ⟨j,hA,hρ,hj,hlm,hd,hS⟩;obtain ⟨ρ,rfl⟩:=KS hA hρ;refine' NV;refine' Ab<;>intro hc
 · skip
   (refine' MF;refine' Ls;refine' zi;intro b1 o1 cs1 x1 hat1 hx1 he1;obtain ⟨vl1,rfl,hl1⟩:=Qe he1;refine' NO;intro p8 w1 hS;refine' zm;refine K1 hS ?_;intro w1 hS;have hS:=hS.ns;refine' zn;refine' Lu;refine' zi;intro b2 o2 cs2 x2 hat2 hx2 he2;obtain ⟨vl2,rfl,hl2⟩:=Qe he2;refine' NO;intro p9 w1 hS;refine K1 hS ?_;intro w1 hS;have hS:=hS.ns;refine' Nb;refine zv hS ?_;refine zv hS ?_;refine tq rfl hf Jr (hcall _ (FC hx1) _ (FC hx2) he1 he2 hS) ?_;rintro v1 w1 ⟨rfl,hS⟩;(cases hdec:decide (x1=x2));have hg:=of_decide_eq_false hdec;rotate_left;have hg:=of_decide_eq_true hdec;all_goals skip);all_goals (refine' Oy)
   all_goals
    first
    | (refine' KN;refine' Lh;first|(refine ⟨_,rfl,?_,hS.sp⟩;rw [decide_eq_false];exact AK;done)|(refine ⟨_,rfl,?_,hS.sp⟩;rw [decide_eq_false];rw [hd,Q1 hx1,Q1 hx2];simp [hg];done))
    | (refine' KO;refine' KV)
   refine' Rl;(exact Ch)
 · skip;refine' O5;(exact As)
theorem jF:∀(t u:Ty){cx:Cx}{w:World}{L:List Res}{cs ds:List Value},K0.at cx cs t→K0.at cx ds u→St cx w L→
 KK Tryz.prog Qfh [.agg ⟨cs⟩, .agg ⟨ds⟩] w fun v w'=>v= .bool (decide (t=u))∧St cx w' L:=by
 intro t
 induction t using HI with
 | h k r l ih=>
   ((rintro ⟨k2,r2,m⟩ cx w L cs ds ht hu hS;obtain ⟨v,rfl,hl⟩:=Qe ht;obtain ⟨v2,rfl,hm⟩:=Qe hu;simp only [Ty.kind,Ty.r,Ty.l,Ty.mk.injEq] at hl hm ht hu ⊢;refine KY KX Tryz.func163 ?_;refine' Lx;intro p2 w1 hS;refine zb hS ?_;intro p3 w1 hS;refine' Xv;refine' Lw;first|(refine' Qd)|(refine' Qi)|(refine' Ac<;>intro hc));all_goals (refine' Sj;first|refine' KP|(refine' KQ;(first|(refine' Qd)|(refine' Qi)|(refine' Ac<;>intro hc)))));all_goals (refine' Te;(first|refine' KP|(refine' KQ;refine' LU (c:=Vu Jk (fun x hx y _ {_ _ _ _} h1 h2 h3=>ih x hx y h1 h2 h3) hl hm hS);rintro v1 w1 ⟨rfl,hS⟩));refine' Xx;refine ⟨_,rfl,?_,hS.sp⟩;(simp [*]);done)
end
section
theorem jG {m:List Int}{v:Value}(hl:KM.sl cx v l)(hm:KM.sl cx v2 m)(hS:St cx w L):KK Tryz.prog Qg5 [v,v2] w fun u w'=>u= .bool (decide (l=m))∧St cx w' L:=by
 (have hlen:=hl.len;refine KY KX Tryz.func131 ?_;refine' Ob;refine' zL;refine' zm;refine' zL;first|(refine' QG)|(refine' QI)|(refine' Ad<;>intro hc));all_goals (refine' zn)
 all_goals
  first
  | (refine' KN;refine' Lh;((refine ⟨_,rfl,?_,hS.sp⟩;(rw [decide_eq_false];exact AK);done)))
  | (refine' KO;refine' KV)
 refine' M8;refine Mx hS [0,1] (fun A LL ρ' w'=>∃(j:Nat),KR ρ' A∧KR ρ' [(5, .int .i64 j)]∧(j≤l.length)∧(l.length=m.length)∧(l=m↔l.drop j=m.drop j)∧St cx w' (LL)) (fun ρ' _=>(l.length - iv (ρ' 5)).toNat) ?_ ?_
 · exact AY
 rintro ρ w1 ⟨j,hA,hρ,hj,hlm,hd,hS⟩;obtain ⟨ρ,rfl⟩:=KS hA hρ;refine' Tc;refine' Ab<;>intro hc
 · skip
   (refine' Rm;refine zD (ci 9 [8]) ?_;have hS:=hS.drew;refine' M7;refine' zi;intro b1 o1 cs1 x1 hat1 hx1 he1;obtain rfl:=QB he1;refine' N8;refine' M7;refine' zi;intro b2 o2 cs2 x2 hat2 hx2 he2;obtain rfl:=QB he2;refine' N8;first|(refine' QG)|(refine' QI)|(refine' Ad<;>intro hc));all_goals (refine' zn)
   all_goals
    first
    | (refine' KN;refine' Lh;first|(refine ⟨_,rfl,?_,hS.sp⟩;rw [decide_eq_false];exact AK;done)|(refine ⟨_,rfl,?_,hS.sp⟩;rw [decide_eq_false];rw [hd,Q1 hx1,Q1 hx2];simp [*];done))
    | (refine' KO;refine' KV)
   refine' Mk;(exact C0)
 · skip;refine' O5;(exact Aw)
theorem vj {x y:To}(hx:toR.at cx cs x)(hy:toR.at cx ds y)(hS:St cx w L):KK Tryz.prog Vc [.agg ⟨cs⟩, .agg ⟨ds⟩] w fun u w'=>u= .bool (decide (x=y))∧St cx w' L:=by
 ((obtain ⟨n,xr,xa⟩:=x;obtain ⟨n2,yr,ya⟩:=y;obtain ⟨v1,v2,rfl,h1,h2⟩:=SX hx;obtain ⟨v3,v4,rfl,h3,h4⟩:=SX hy;simp only [To.mk.injEq] at*;refine KY KX Tryz.func130 ?_;refine' Lx;intro p2 w1 hS;refine zb hS ?_;intro p3 w1 hS;refine' Xv;refine' Lw;first|(refine' Qd)|(refine' Qi)|(refine' Ac<;>intro hc));all_goals (refine' Sj;(first|(refine' KP)|(refine' KQ;refine' KU (c:=jG h1 h3 hS);rintro v1 w1 ⟨rfl,hS⟩;(cases hdec:decide (xr=yr));have hg:=of_decide_eq_false hdec;rotate_left;have hg:=of_decide_eq_true hdec;all_goals skip))));all_goals (refine' Te;(first|(refine' KP)|(refine' KQ;refine' KU (c:=jG h2 h4 hS);rintro v1 w1 ⟨rfl,hS⟩));refine' Xx;refine ⟨_,rfl,?_,hS.sp⟩;(simp [*]);done)
theorem Qfp {x y:Ins}(hx:Lz.at cx cs x)(hy:Lz.at cx ds y)(hS:St cx w L):KK Tryz.prog QiY [.agg ⟨cs⟩, .agg ⟨ds⟩] w fun u w'=>u= .bool (decide (x=y))∧St cx w' L:=by
 (((((((obtain ⟨n,a,b,c,k,nn,xr,xa⟩:=x;obtain ⟨n2,a2,b2,c2,k2,nn2,yr,ya⟩:=y;obtain ⟨v1,v2,rfl,h1,h2⟩:=QY hx;obtain ⟨v3,v4,rfl,h3,h4⟩:=QY hy;simp only [Ins.mk.injEq] at*;refine KY KX Tryz.func129 ?_;refine' Lx;intro p2 w1 hS;refine zb hS ?_;intro p3 w1 hS;refine' Xv;refine' Lw;first|(refine' Qd)|(refine' Qi)|(refine' Ac<;>intro hc));all_goals (refine' Sj;first|refine' KP|(refine' KQ;(first|(refine' Qd)|(refine' Qi)|(refine' Ac<;>intro hc)))));all_goals (refine' Te;first|refine' KP|(refine' KQ;(first|(refine' Qd)|(refine' Qi)|(refine' Ac<;>intro hc)))));all_goals (refine' Te;first|refine' KP|(refine' KQ;(first|(refine' Qd)|(refine' Qi)|(refine' Ac<;>intro hc)))));all_goals (refine' Te;first|refine' KP|(refine' KQ;(first|(refine' Qd)|(refine' Qi)|(refine' Ac<;>intro hc)))));all_goals (refine' Te;first|refine' KP|(refine' KQ;(first|(refine' Qd)|(refine' Qi)|(refine' Ac<;>intro hc)))));all_goals (refine' Te;(first|(refine' KP)|(refine' KQ;refine' KU (c:=jG h1 h3 hS);rintro v1 w1 ⟨rfl,hS⟩;(cases hdec:decide (xr=yr));have hg:=of_decide_eq_false hdec;rotate_left;have hg:=of_decide_eq_true hdec;all_goals skip))));all_goals (refine' Te;(first|(refine' KP)|(refine' KQ;refine' KU (c:=jG h2 h4 hS);rintro v1 w1 ⟨rfl,hS⟩));refine' Xx;refine ⟨_,rfl,?_,hS.sp⟩;(simp [*]);done)
theorem jH (hb:l.length≤1000000){v:Value}(hl:KM.sl cx v l)(hS:St cx w L):KK Tryz.prog QiZ [v] w fun u w'=>∃c',cx.Le c'∧KM.sl c' u l∧St c' w' L:=by
 have hS:=hS.nil (T:=3) (es:=1);have hn:KM.ls cx [] []:=GU _ _ _;refine KY KX Tryz.func60 ?_;refine' Mf;refine' Mf;refine' Lu;(first|(refine za SC Tg hS ?_;intro vp1 w1 css1 hls1 hv1 hS;have hS:=hS.ns)|(refine jl SC Tg hS ?_;intro vp1 w1 css1 hls1 hv1 hS;have hS:=hS.ns));refine' Ly;(obtain ⟨c3,hle3,hS,hl3⟩:=GF (r:=KM) (l:=l) (T:=3) (es:=1) (L:=L) hS.sp hls1 rfl Jo;exact B4)
theorem jI (hb:l.length≤1000000){v:Value}(hl:KM.sl cx v l)(hS:St cx w L):KK Tryz.prog Q5N [v] w fun u w'=>∃c',cx.Le c'∧KM.sl c' u l∧St c' w' L:=by
 obtain ⟨a,c,hv⟩:=FK hl
 cases a with
 | none=>
   have hl0:=I3 hl hv;subst hl0;subst hv;refine KY KX Tryz.func111 ?_;refine' Ob;refine fZ (e:=3) Jk rfl rfl ?_;refine' zn
   all_goals
    first
    | (refine' KN;refine' Lh;(exact ⟨_,rfl,cx,Gj hS,Gz _ _ _,hS⟩))
   all_goals (refine' K3; fail "no law for buildSlice"; refine' zm; refine za SC Tg hS ?_; intro vp1 w1 css1 hls1 hv1 hS; have hS := hS.ns; refine' Ly; exact Dl)
 | some a=>
   have hn:KM.ls cx [] []:=GU _ _ _;refine KY KX Tryz.func111 ?_;refine' Ob;refine fZ (e:=3) Jk hv rfl ?_;refine' Sy;refine' K3;refine nY SC ?_;intro v1 w1 hf1 hs1 hz1;have hS:=hS.new (r:=sl 3 1 v1 []) hs1 hf1 (fun b hb=>Je hb.symm);refine' zm;(first|(refine za SC Tg hS ?_;intro vp1 w1 css1 hls1 hv1 hS;have hS:=hS.ns)|(refine jl SC Tg hS ?_;intro vp1 w1 css1 hls1 hv1 hS;have hS:=hS.ns));refine' Ly;(obtain ⟨c3,hle3,hS,hl3⟩:=GF (r:=KM) (l:=l) (T:=3) (es:=1) (L:=L) hS.sp hls1 rfl Jo;exact B4)
theorem vq {x:To}(hb1:x.regs.length≤1000000)(hb2:x.args.length≤1000000)(hx:toR.at cx cs x)(hS:St cx w L):KK Tryz.prog YI [.agg ⟨cs⟩] w fun u w'=>∃c' ds,u= .agg ⟨ds⟩∧cx.Le c'∧toR.at c' ds x∧St c' w' L:=by
 obtain ⟨v1,v2,rfl,h1,h2⟩:=SX hx;refine KY KX Tryz.func61 ?_;refine' Lx;intro p1 w1 hS;refine Qh hS ?_;(intro p2 w1 hS);refine' MM;refine zC [(0,none),(1,none),(2,none),(3,none),(5,none),(6,none),(4,some (some [1,6])),(7,some (some [1])),(8,none),(9,some none)] ?_;have hS:=hS.drew;refine' TU;refine' PY;refine' Lf (c:=jH hb1 h1 hS);rintro v1 w1 ⟨c1,hle,hl1,hS⟩;obtain ⟨a1,n1,rfl⟩:=FK hl1;have h2:=GJ h2 hle;refine' MG;refine' Lf (c:=jH hb2 h2 hS);rintro v1 w1 ⟨c2,hle2,hl2,hS⟩;obtain ⟨a2,n2,rfl⟩:=FK hl2;have hl1:=GJ hl1 hle2;refine' Ni;refine OF [_,_,_] ?_;refine' Mb;((refine K1 hS ?_;intro w1 hS;have hS:=hS.ns));refine' LV;refine' zr;refine Mp vw (Q2 (n:=3) Jk Jk (hS.blkAt fd) Jr Jr) ?_;((exact C2))
theorem vx {x:To}(hb1:x.regs.length≤1000000)(hb2:x.args.length≤1000000)(hx:toR.at cx cs x)(hS:St cx w L):KK Tryz.prog QfU [.agg ⟨cs⟩] w fun u w'=>∃c' ds,u= .agg ⟨ds⟩∧cx.Le c'∧toR.at c' ds x∧St c' w' L:=by
 obtain ⟨v1,v2,rfl,h1,h2⟩:=SX hx;refine KY KX Tryz.func110 ?_;refine' Lx;intro p1 w1 hS;refine Qh hS ?_;(intro p2 w1 hS);refine' MM;refine zC [(0,none),(1,none),(2,none),(3,none),(5,none),(6,none),(4,some (some [1,6])),(7,some (some [1])),(8,none),(9,some none)] ?_;have hS:=hS.drew;refine' TU;refine' PY;refine' Lf (c:=jI hb1 h1 hS);rintro v1 w1 ⟨c1,hle,hl1,hS⟩;obtain ⟨a1,n1,rfl⟩:=FK hl1;have h2:=GJ h2 hle;refine' MG;refine' Lf (c:=jI hb2 h2 hS);rintro v1 w1 ⟨c2,hle2,hl2,hS⟩;obtain ⟨a2,n2,rfl⟩:=FK hl2;have hl1:=GJ hl1 hle2;refine' Ni;refine OF [_,_,_] ?_;refine' Mb;((refine K1 hS ?_;intro w1 hS;have hS:=hS.ns));refine' LV;refine' zr;refine Mp vw (Q2 (n:=3) Jk Jk (hS.blkAt fd) Jr Jr) ?_;((exact C2))
end
section
theorem QfL {x:Module}(hx:LS.at cx cs x)(hS:St cx w L):KK Tryz.prog uq [.agg ⟨cs⟩] w fun u w'=>∃b,u= .bool b∧(b=false→x.Short)∧St cx w' L:=by
 (obtain ⟨vf,rfl,hl⟩:=OE hx;obtain ⟨l⟩:=x;have hl:K8.sl cx vf l:=hl;have hlen:=hl.len;refine KY KX Tryz.func18 ?_;refine' Lx;intro p1 w1 hS;refine' Sq;refine' zL;first|(refine' QO)|(refine' QV)|(refine' Af<;>intro hc));all_goals (refine' zn)
 all_goals
  first
  | (refine' KN;refine' Lh;(exact AQ))
  | (refine' KO;refine' KV)
 refine' M8;refine Mx hS [1] (fun A LL ρ' w'=>∃(j:Nat),KR ρ' A∧KR ρ' [(3, .int .i64 j)]∧(j≤l.length)∧(l.length≤20)∧(∀f∈l.take j,f.Short)∧St cx w' (LL)) (fun ρ' _=>(l.length - iv (ρ' 3)).toNat) ?_ ?_
 · exact AY
 rintro ρ w1 ⟨j,hA,hρ,hj,hl20,hd,hS⟩;obtain ⟨ρ,rfl⟩:=KS hA hρ;refine' O4;refine' Ab<;>intro hc
 · skip
   (((refine' Ta;intro b1 o1 cs1 x1 hat1 hx1 he1;obtain ⟨vp1,vr1,vb1,rfl,hp1,hr1,hb1⟩:=QC he1;refine' NO;intro p4 w1 hS;refine K1 hS ?_;intro w1 hS;have hS:=hS.ns;refine' MM;refine' U4;first|(refine' QO)|(refine' QV)|(refine' Af<;>intro hc));all_goals (refine' Ms;(first|(refine' KP)|(refine' KQ;refine' Lf (c:=gG hp1 hS);rintro v1 w1 ⟨rfl,hS⟩;cases hg1:Tys.great x1.params))));all_goals (refine' MK;refine' Ms;(first|(refine' KP)|(refine' KQ;refine' Lf (c:=gG hr1 hS);rintro v1 w1 ⟨rfl,hS⟩;cases hg2:Tys.great x1.results))));all_goals (refine' LH)
   all_goals
    first
    | (refine' KN;all_goals (refine' Lh);all_goals (exact AQ))
    | (refine' KO;refine' KV)
   refine Qo ?_;have hlb:=hb1.len;refine' YE;refine Mx hS [1,3,4] (fun A LL ρ' w'=>∃(i:Nat),KR ρ' A∧KR ρ' [(5, .int .i64 i)]∧(i≤x1.blocks.length)∧(x1.blocks.length≤30)∧(Tys.great x1.params=false)∧(Tys.great x1.results=false)∧(∀f∈x1.blocks.take i,f.Short)∧St cx w' (LL)) (fun ρ' _=>(x1.blocks.length - iv (ρ' 5)).toNat) ?_ ?_
   · exact CW
   rintro ρ w1 ⟨i,hA,hρ,hi,hl30,hg1,hg2,hd1,hS⟩;obtain ⟨ρ,rfl⟩:=KS hA hρ;refine' O4;refine' Ab<;>intro hc
   · skip
     (((((((refine' Ta;intro b2 o2 cs2 x2 hat2 hx2 he2;obtain ⟨vp2,vc2,ve21,ve22,ve23,ve24,ve25,rfl,hp2,hc2,he21,he22,he23,he24,he25⟩:=OZ he2;refine' NO;intro p6 w1 hS;refine K1 hS ?_;intro w1 hS;have hS:=hS.ns;refine' MM;refine' U4;first|(refine' QO)|(refine' QV)|(refine' Af<;>intro hc));all_goals (refine' Ms;(first|(refine' KP)|(refine' KQ;refine' Lf (c:=gG hp2 hS);rintro v1 w1 ⟨rfl,hS⟩;cases hg3:Tys.great x2.params))));all_goals (refine' Xu;refine' Tb;refine' Ng;first|refine' KP|(refine' KQ;(first|(refine' QO)|(refine' QV)|(refine' Af<;>intro hc)))));all_goals (refine' Xy;refine' NC;refine' TH;refine' Ng;first|refine' KP|(refine' KQ;(first|(refine' QO)|(refine' QV)|(refine' Af<;>intro hc)))));all_goals (refine' Xy;refine' NC;refine' TH;refine' Ng;first|refine' KP|(refine' KQ;(first|(refine' QO)|(refine' QV)|(refine' Af<;>intro hc)))));all_goals (refine' Xy;refine' NC;refine' TH;refine' Ng;first|refine' KP|(refine' KQ;(first|(refine' QO)|(refine' QV)|(refine' Af<;>intro hc)))));all_goals (refine' Xy;refine' NC;refine' TH;refine' Ng;first|refine' KP|(refine' KQ;(first|(refine' QO)|(refine' QV)|(refine' Af<;>intro hc)))));all_goals (refine' LH)
     all_goals
      first
      | (refine' KN;all_goals (refine' Lh);all_goals (exact AQ))
      | (refine' KO;refine' KV)
     refine Qo ?_;have hlc:=hc2.len;refine' YE;refine Mx hS [1,3,4,5,6] (fun A LL ρ' w'=>∃(k:Nat),KR ρ' A∧KR ρ' [(7, .int .i64 k)]∧(k≤x2.code.length)∧(x2.code.length≤200)∧(Tys.great x2.params=false)∧(x2.fin.Short)∧(∀f∈x2.code.take k,f.Short)∧St cx w' (LL)) (fun ρ' _=>(x2.code.length - iv (ρ' 7)).toNat) ?_ ?_
     · exact C6
     rintro ρ w1 ⟨k,hA,hρ,hk,hl200,hg3,hfin,hd2,hS⟩;obtain ⟨ρ,rfl⟩:=KS hA hρ;refine' O4;refine' Ab<;>intro hc
     · skip
       ((refine' Ta;intro b3 o3 cs3 x3 hat3 hx3 he3;obtain ⟨vr3,va3,rfl,hr3,ha3⟩:=QY he3;refine' M6;refine' Yy;refine' zL;first|(refine' QO)|(refine' QV)|(refine' Af<;>intro hc));all_goals (refine' Ms;refine' MT;(first|(refine' KP)|(refine' KQ;refine TA vw rfl Ja rfl Jo ?_;intro b4 o4 cs4 x4 hat4 hx4 he4;rw [hx3] at hx4;obtain rfl:x3=x4:=FY hx4;obtain ⟨vr4,va4,rfl,hr4,ha4⟩:=QY he4));refine' NC;refine' l3;refine' Ng;first|refine' KP|(refine' KQ;(first|(refine' QO)|(refine' QV)|(refine' Af<;>intro hc)))));all_goals (refine' LH)
       all_goals
        first
        | (refine' KN;all_goals (refine' Lh);all_goals (exact AQ))
        | (refine' KO;refine' KV)
       refine' Mk;(exact De)
     · skip;refine' L7;refine' Mk;(exact ⟨⟨i+1,zh,zh,Jo,Jo,by assumption,by assumption,Yk hd1 hx2 ⟨Is hg3,Jo,cB hd2 Jo,hfin⟩,hS.sp⟩,Qc Jo⟩)
   · skip;refine' L7;refine' Mk;(exact ⟨⟨j+1,zh,zh,Jo,Jo,Yk hd hx1 ⟨Is hg1,Is hg2,Jo,cB hd1 Jo⟩,hS.sp⟩,Qc Jo⟩)
 · skip;refine' O5;first|(exact AQ)|(have h1:l.length≤100000:=DB;exact CU)
end
section
variable {cx:Cx}{w:World}{L:List Res}{i:Nat}
abbrev No (b:Nat)(vf:Value)(g:Mw)(at':Int):Res:=blk b 173 [vf, .int .i64 g.1, .int .i64 g.2, .int .i64 at']
theorem OV {c:Int}(hc0:is=true→c≠0)(hS:St cx w L)(hi:nth L i=some (No b vf g at')):
 KK Tryz.prog Q9s [.pointer (some ⟨b,0,none⟩), .bool is, .int .i64 c] w fun u w'=>u= .tuple #[]∧St cx w' (L.set i (No b vf (Ln g (LB (if is=true then c else 0) at')) at')):=by
 have hS:=hS.out hi
 cases is with
 | false=>
   have e:Ln g (LB (if false=true then c else 0) at')=g:=gh rfl;rw [e];refine KY KX Tryz.func103 ?_;refine' Lu;refine' PD;refine' YA;refine' LH
   all_goals
    first
    | (refine' KN;all_goals (refine' RX;refine' Oa;refine Nn [_,_] ?_;refine' Ma;refine K1 hS ?_;intro w1 hS;have hS:=hS.ns);all_goals refine' zn)
    | (refine' KO;refine' KV)
   refine' Nm;exact BG
 | true=>
   have hc0:=hc0 rfl;by_cases h0:g.1=0
   · have e:Ln g (LB (if true=true then c else 0) at')=(c,at'):=(by rw [if_pos rfl,Rv hc0];unfold Ln;rw [if_pos ⟨h0,hc0⟩]);rw [e];refine KY KX Tryz.func103 ?_;refine' Ls;refine' RY;refine' Tb;(first|refine' KP|(refine' KQ;refine' Qd));refine' OR;refine' Sx;refine' RX;refine' Oa;refine Nn [_,_] ?_;refine' Ma;(first|(refine K1 hS ?_;intro w1 hS;have hS:=hS.ns)|(refine gv hS ?_;intro w1 hS;have hS:=hS.ns));refine' TK;exact BG
   · rw [O0 h0];refine KY KX Tryz.func103 ?_;refine' Ls;refine' RY;refine' Tb;refine' pk;refine' OR;refine' Sy;refine' Nm;exact BG
theorem Vv {s:List UInt8}{c:Nat}{v:Value}(hK:gg.sl cx v s)(hS:St cx w L):KK Tryz.prog Q4M [v, .int .u8 c] w fun u w'=>∃r:Int,u= .int .i64 r∧(0≤r↔(s.any fun b=>decide (b.toNat=c))=true)∧St cx w' L:=by
 have hlen:=hK.len;refine KY KX Tryz.func265 ?_;refine' Ob;refine' PF;refine Mx hS [0,1,7] (fun A LL ρ' w'=>∃(j:Nat),KR ρ' A∧KR ρ' [(8, .int .i64 j)]∧(j≤s.length)∧((s.any fun b=>decide (b.toNat=c))=((s.drop j).any fun b=>decide (b.toNat=c)))∧St cx w' (LL)) (fun ρ' _=>(s.length - iv (ρ' 8)).toNat) ?_ ?_
 · exact AH
 rintro ρ w1 ⟨j,hA,hρ,hj,hd,hS⟩;obtain ⟨ρ,rfl⟩:=KS hA hρ;refine' NV;refine' Ab<;>intro hc
 · skip
   (refine' MF;refine' NW;refine' Lu;refine' PA;intro b1 o1 cs1 x1 hat1 hx1 he1;(first|(obtain rfl:=QB he1)|(obtain rfl:=Yi he1));refine' N8;first|(refine' Qd)|(refine' Qi)|(refine' Ac<;>intro hc));all_goals (refine' zn)
   all_goals
    first
    | (refine' KN;refine' RV;(exact Cm))
    | (refine' KO;refine' KV)
   refine' Rl;(exact ⟨⟨j+1,zh,zh,Jo,by rw [hd,Q1 hx1,IB,decide_eq_false Jo,HD],hS.sp⟩,Qc Jo⟩)
 · skip;refine' O5;(first|(exact Cm)|(exact ⟨_,rfl, -1,rfl,by rw [hd,FJ Jo];simp,hS.sp⟩))
theorem QcW {s:List UInt8}{c:Nat}{v:Value}(hK:gg.sl cx v s)(hS:St cx w L):KK Tryz.prog Q3Y [v, .int .u8 c] w fun u w'=>u= .bool (s.any fun b=>decide (b.toNat=c))∧St cx w' L:=by
 (refine KY KX Tryz.func252 ?_;refine' Mf;refine' Lu;refine' KU (c:=Vv hK hS);rintro v1 w1 ⟨r,rfl,hr,hS⟩;first|(refine' MV)|(refine' Nu)|(refine' Ag<;>intro hc));all_goals (refine' zm;refine' zn;refine' zr;refine' zf;refine ⟨_,rfl,?_,hS.sp⟩;(cases hb:(s.any fun b=>decide (b.toNat=c))<;>simp_all);done)
theorem dv {s:ByteArray}{c:Nat}(hs:s.size≤1000000)(hS:St cx w L):KK Tryz.prog QiH [.string s, .int .u8 c] w fun u w'=>u= .bool (Mg s c)∧St cx w' L:=by
 have hle:=Gj hS;refine KY KX Tryz.func214 ?_;refine' Og;refine Yj (e:=5) Jk Jk Jk hS vw ?_;intro v1 w1 hS;obtain ⟨c1,hle2,hS,hk1⟩:=GF (r:=gg) hS (cz _) rfl (by rw [GN];show s.size≤140737488355328;omega);refine' zm;refine' KU (c:=QcW hk1 hS);rintro v1 w1 ⟨rfl,hS⟩;refine' Ly;((exact ⟨_,rfl,rfl,GY hS.sp hle2⟩))
theorem jJ {op:Int}(hS:St cx w L):KK Tryz.prog Vh [.int .i64 op] w fun u w'=>u= .string (Mt op)∧St cx w' L:=by
 by_cases hb:op<1∨14<op
 · have e:Mt op=⟨#[]⟩:=(by unfold Mt;rw [if_pos hb]);rw [e];(refine KY KX Tryz.func213 ?_;refine' Ob;first|(refine' LG)|(refine' LM)|(refine' Ae<;>intro hc));all_goals (refine' Mr;(first|refine' KP|(refine' KQ;refine' QO));refine' LH;refine' KN;refine' Lh;refine ⟨_,rfl,?_,hS.sp⟩;(rfl);done)
 · have hu:(UA.map Value.string)[op.toNat]?=some (.string (Mt op)):=by
    rcases Mc (op:=op) Jo Jo with rfl|rfl|rfl|rfl|rfl|rfl|rfl|rfl|rfl|rfl|rfl|rfl|rfl|rfl<;>rfl
   generalize Mt op=s at hu ⊢;refine KY KX Tryz.func213 ?_;refine' Ob;refine' Yz;refine' Mr;refine' l4;refine' LH;refine' Si;refine' K3;refine yX (cs:=[_,_,_,_,_,_,_,_,_,_,_,_,_,_,_]) vw vw vw vw vw vw vw vw vw vw vw vw vw vw vw Jr ?_;refine' zm;refine cA (n:=15) (e:=9) Jk Jk Jk vw vw Jo Jo hu ?_;refine' Ly;(((refine ⟨_,rfl,?_,hS.sp⟩;(rfl);done)))
theorem Qil (op:Int):(Mt op).size≤1000000:=by
 by_cases hb:op<1∨14<op
 · unfold Mt;rw [if_pos hb];decide
 · rcases Mc (op:=op) Jo Jo with rfl|rfl|rfl|rfl|rfl|rfl|rfl|rfl|rfl|rfl|rfl|rfl|rfl|rfl<;>decide
theorem YU {n:Nat}{x:Ins}{q:Bool}{c3:Int}(hq:q=true↔(((((((Mg (Mt x.op) 97=false∧x.a≠0)∨(Mg (Mt x.op) 98=false∧x.b≠0))∨(Mg (Mt x.op) 99=false∧x.c≠0))∨(Mg (Mt x.op) 107=false∧x.k≠0))∨(Mg (Mt x.op) 110=false∧x.n≠0))∨(Mg (Mt x.op) 103=false∧0<x.regs.length))∨(Mg (Mt x.op) 114=false∧0<x.args.length)))(h3:c3=OP n x):
 Ln (Ln (Ln g (LB (if x.op<1∨14<x.op then 3 else 0) at')) (LB (if q=true then 4 else 0) at')) (LB c3 at')=Ln g (LB (Qz n x) at'):=by
 rw [Pt,Pt];congr 2;subst h3;unfold Qz;by_cases hb:x.op<1∨14<x.op
 · rw [if_pos hb,if_pos hb];rfl
 · rw [if_neg hb,if_neg hb]
   obtain ⟨h1,h2,h3,h4,h5,h6,h7⟩:=UB x.op hb;rw [h1,h2,h3,h4,h5,h6,h7] at hq;simp only [or_assoc] at hq;by_cases ho:x.odd
   · rw [if_pos ho,if_pos (hq.2 ho)];rfl
   · rw [if_neg ho,if_neg fun h=>ho (hq.1 h)];rfl
theorem Rp {a b:Int}(h:a≠0):SZ a b=a:=if_pos h
theorem P1 (b:Int):SZ 0 b=b:=rfl
section
attribute [local irreducible] Ln LB SZ OP Qz NM NU
set_option maxHeartbeats 1000000 in
theorem bf {x :Ins}{n:List Fun}(hx:Lz.at cx cs x)(hf:K8.sl cx vf n)(hS:St cx w L)(hi:nth L i=some (No b vf g at')):
 KK Tryz.prog Q9R [.pointer (some ⟨b,0,none⟩), .agg ⟨cs⟩] w fun u w'=>u= .tuple #[]∧St cx w' (L.set i (No b vf (Ln g (LB (Qz n.length x) at')) at')):=by
 have hS:=hS.out hi;obtain ⟨vr,va,rfl,hr,ha⟩:=QY hx;have hlr:=hr.len;have hla:=ha.len;have hln:=hf.len;have hsz:=Qil x.op;refine KY KX Tryz.func164 ?_;refine' Lx;intro p3 w1 hS;refine' zn;refine zM [0,3] (fun A ρ' w'=>KR ρ' A∧KR ρ' []∧St cx w' (blk p3 84 [.int .i64 x.op, .int .i64 x.a, .int .i64 x.b, .int .i64 x.c, .int .i64 x.k, .int .i64 x.n,vr,va]::No b vf (Ln g (LB (if x.op<1∨14<x.op then 3 else 0) at')) at'::L.eraseIdx i)) ?_ ?_
 · skip;(refine' PZ;first|(refine' LG)|(refine' LM)|(refine' Ae<;>intro hc));all_goals (refine' Ms;first|refine' KP|(refine' KQ;(first|(refine' QO)|(refine' QV)|(refine' Af<;>intro hc))));all_goals (refine' MK;refine' LU (c:=OV DG hS fd);rintro v1 w1 ⟨rfl,hS⟩;simp only [FM,FR,if_true,FV,if_false] at hS;refine' zn;exact Bc)
 rintro ρ w1 ⟨hA,hρ,hS⟩;obtain ⟨ρ,rfl⟩:=KS hA hρ;refine' Ot;refine' Lf (c:=jJ hS);rintro v1 w1 ⟨rfl,hS⟩;refine' K5;generalize hh:Mt x.op=h at*;refine' K3;refine Rh hS 9 [0,3,4] (fun A LL ρ' w'=>∃(q1:Bool),KR ρ' A∧KR ρ' [(18, .pointer (some ⟨b,0,none⟩)),(26, .bool q1)]∧(q1=true↔(Mg h 97=false∧x.a≠0))∧St cx w' (LL)) ?_ ?_
 · skip;refine' M7;refine' KU (c:=dv hsz hS);rintro v1 w1 ⟨rfl,hS⟩;cases ha1:Mg h 97;all_goals (refine' Pm;refine' Ms;first|refine' KP|(refine' KQ;(first|(refine' QG)|(refine' QI)|(refine' Ad<;>intro hc))));all_goals (refine' mb;first|(exact Dn)|(exact CB))
 rintro ρ w1 ⟨q1,hA,hρ,hq1,hS⟩;obtain ⟨ρ,rfl⟩:=KS hA hρ;refine Rh hS 10 [0,3,4,18] (fun A LL ρ' w'=>∃(q2:Bool),KR ρ' A∧KR ρ' [(36, .bool q2)]∧(q2=true↔((Mg h 97=false∧x.a≠0)∨(Mg h 98=false∧x.b≠0)))∧St cx w' (LL)) ?_ ?_
 · skip;cases q1;all_goals (refine' Mr;(first|refine' KP|(refine' KQ;refine' KU (c:=dv hsz hS);rintro v1 w1 ⟨rfl,hS⟩));cases ha2:Mg h 98);all_goals (refine' TO;first|refine' KP|(refine' KQ;(first|(refine' QG)|(refine' QI)|(refine' Ad<;>intro hc))));all_goals (refine' Sr;first|(exact Ci)|(exact AL)|(exact CJ))
 rintro ρ w1 ⟨q2,hA,hρ,hq2,hS⟩;obtain ⟨ρ,rfl⟩:=KS hA hρ;refine Rh hS 10 [0,3,4,18] (fun A LL ρ' w'=>∃(q3:Bool),KR ρ' A∧KR ρ' [(46, .bool q3)]∧(q3=true↔(((Mg h 97=false∧x.a≠0)∨(Mg h 98=false∧x.b≠0))∨(Mg h 99=false∧x.c≠0)))∧St cx w' (LL)) ?_ ?_
 · skip;cases q2;all_goals (refine' Mr;(first|refine' KP|(refine' KQ;refine' KU (c:=dv hsz hS);rintro v1 w1 ⟨rfl,hS⟩));cases ha3:Mg h 99);all_goals (refine' TO;first|refine' KP|(refine' KQ;(first|(refine' QG)|(refine' QI)|(refine' Ad<;>intro hc))));all_goals (refine' Sr;first|(exact Cb)|(exact AL)|(exact B9))
 rintro ρ w1 ⟨q3,hA,hρ,hq3,hS⟩;obtain ⟨ρ,rfl⟩:=KS hA hρ;refine Rh hS 10 [0,3,4,18] (fun A LL ρ' w'=>∃(q4:Bool),KR ρ' A∧KR ρ' [(56, .bool q4)]∧(q4=true↔((((Mg h 97=false∧x.a≠0)∨(Mg h 98=false∧x.b≠0))∨(Mg h 99=false∧x.c≠0))∨(Mg h 107=false∧x.k≠0)))∧St cx w' (LL)) ?_ ?_
 · skip;cases q3;all_goals (refine' Mr;(first|refine' KP|(refine' KQ;refine' KU (c:=dv hsz hS);rintro v1 w1 ⟨rfl,hS⟩));cases ha4:Mg h 107);all_goals (refine' TO;first|refine' KP|(refine' KQ;(first|(refine' QG)|(refine' QI)|(refine' Ad<;>intro hc))));all_goals (refine' Sr;first|(exact Da)|(exact AL)|(exact Dd))
 rintro ρ w1 ⟨q4,hA,hρ,hq4,hS⟩;obtain ⟨ρ,rfl⟩:=KS hA hρ;refine Rh hS 10 [0,3,4,18] (fun A LL ρ' w'=>∃(q5:Bool),KR ρ' A∧KR ρ' [(66, .bool q5)]∧(q5=true↔(((((Mg h 97=false∧x.a≠0)∨(Mg h 98=false∧x.b≠0))∨(Mg h 99=false∧x.c≠0))∨(Mg h 107=false∧x.k≠0))∨(Mg h 110=false∧x.n≠0)))∧St cx w' (LL)) ?_ ?_
 · skip;cases q4;all_goals (refine' Mr;(first|refine' KP|(refine' KQ;refine' KU (c:=dv hsz hS);rintro v1 w1 ⟨rfl,hS⟩));cases ha5:Mg h 110);all_goals (refine' TO;first|refine' KP|(refine' KQ;(first|(refine' QG)|(refine' QI)|(refine' Ad<;>intro hc))));all_goals (refine' Sr;first|(exact Dk)|(exact AL)|(exact Cj))
 rintro ρ w1 ⟨q5,hA,hρ,hq5,hS⟩;obtain ⟨ρ,rfl⟩:=KS hA hρ;refine Rh hS 11 [0,3,4,18] (fun A LL ρ' w'=>∃(q6:Bool),KR ρ' A∧KR ρ' [(77, .bool q6)]∧(q6=true↔((((((Mg h 97=false∧x.a≠0)∨(Mg h 98=false∧x.b≠0))∨(Mg h 99=false∧x.c≠0))∨(Mg h 107=false∧x.k≠0))∨(Mg h 110=false∧x.n≠0))∨(Mg h 103=false∧0<x.regs.length)))∧St cx w' (LL)) ?_ ?_
 · skip;cases q5;all_goals (refine' Mr;(first|refine' KP|(refine' KQ;refine' KU (c:=dv hsz hS);rintro v1 w1 ⟨rfl,hS⟩));cases ha6:Mg h 103);all_goals (refine' TO;refine' Ng;first|refine' KP|(refine' KQ;(first|(refine' QO)|(refine' QV)|(refine' Af<;>intro hc))));all_goals (refine' Sr;first|(exact Ck)|(exact AL)|(exact Cp))
 rintro ρ w1 ⟨q6,hA,hρ,hq6,hS⟩;obtain ⟨ρ,rfl⟩:=KS hA hρ;refine Rh hS 11 [0,3,18] (fun A LL ρ' w'=>∃(q7:Bool),KR ρ' A∧KR ρ' [(88, .bool q7)]∧(q7=true↔(((((((Mg h 97=false∧x.a≠0)∨(Mg h 98=false∧x.b≠0))∨(Mg h 99=false∧x.c≠0))∨(Mg h 107=false∧x.k≠0))∨(Mg h 110=false∧x.n≠0))∨(Mg h 103=false∧0<x.regs.length))∨(Mg h 114=false∧0<x.args.length)))∧St cx w' (LL)) ?_ ?_
 · skip;cases q6;all_goals (refine' Mr;(first|refine' KP|(refine' KQ;refine' KU (c:=dv hsz hS);rintro v1 w1 ⟨rfl,hS⟩));cases ha7:Mg h 114);all_goals (refine' TO;refine' Ng;first|refine' KP|(refine' KQ;(first|(refine' QO)|(refine' QV)|(refine' Af<;>intro hc))));all_goals (refine' Sr;first|(exact ⟨_,zh,zh,by exact ⟨fun _=> .inl (hq6.1 rfl),fun _=>rfl⟩,hS.sp⟩)|(exact AL)|(exact ⟨_,zh,zh,by exact ⟨fun h=>Bool.noConfusion h,fun h=>h.elim (fun h=>hq6.2 h) (fun h=>by obtain ⟨h1,h2⟩:=h;first|(exfalso;omega)|(simp_all;done))⟩,hS.sp⟩))
 (rintro ρ w1 ⟨q7,hA,hρ,hq7,hS⟩;obtain ⟨ρ,rfl⟩:=KS hA hρ;refine' LU (c:=OV DG hS fd);rintro v1 w1 ⟨rfl,hS⟩;simp only [FM,FR,if_true,FV,if_false] at hS;refine' MM;clear hq1 hq2 hq3 hq4 hq5 hq6;have hq:=hq7;clear hq7;refine' So;refine' S6;refine' K3;first|(refine' Qd)|(refine' Qi)|(refine' Ac<;>intro hc));all_goals (refine' K5)
 all_goals
  first
  | (refine' KN;(refine' PZ;first|(refine' LG)|(refine' LM)|(refine' Ae<;>intro hc));all_goals (refine' Ms;first|refine' KP|(refine' KQ;(first|(refine' QO)|(refine' QV)|(refine' Af<;>intro hc))));all_goals (refine' MK;refine' LU (c:=OV DG hS fd);rintro v1 w1 ⟨rfl,hS⟩;simp only [FM,FR,if_true,FV,if_false] at hS);all_goals refine' zn)
  | (refine' KO
     (refine' K3;first|(refine' Qd)|(refine' Qi)|(refine' Ac<;>intro hc));all_goals (refine' K5)
     all_goals
      first
      | (refine' KN;(refine' PZ;refine' zL;first|(refine' QO)|(refine' QV)|(refine' Af<;>intro hc));all_goals (refine' LU (c:=OV DG hS fd);rintro v1 w1 ⟨rfl,hS⟩;simp only [FM,FR,if_true,FV,if_false] at hS);all_goals refine' zn)
      | (refine' KO
         (refine Qo ?_;refine' K3;first|(refine' Qd)|(refine' Qi)|(refine' Ac<;>intro hc));all_goals (refine' K5)
         all_goals
          first
          | (refine' KN;refine' KV)
          | (refine' KO;(refine' Mm;first|(refine' Qd)|(refine' Qi)|(refine' Ac<;>intro hc));all_goals (refine' zm);all_goals refine' zn)
         all_goals
          first
          | (refine' KN;all_goals (refine' PZ;first|(refine' LG)|(refine' LM)|(refine' Ae<;>intro hc));all_goals (refine' Ms;first|refine' KP|(refine' KQ;(first|(refine' MV)|(refine' Nu)|(refine' Ag<;>intro hc))));all_goals (refine' MK;refine' LU (c:=OV DG hS fd);rintro v1 w1 ⟨rfl,hS⟩;simp only [FM,FR,if_true,FV,if_false] at hS);all_goals refine' zn)
          | (refine' KO
             (refine' K3;first|(refine' Qd)|(refine' Qi)|(refine' Ac<;>intro hc));all_goals (refine' K5)
             all_goals
              first
              | (refine' KN;(refine Qo ?_;refine zD (ci 16 [15]) ?_;have hS:=hS.drew;refine' zm;refine' Lw;first|(refine' LG)|(refine' LM)|(refine' Ae<;>intro hc));all_goals (refine' Ms;refine' Xs;refine' Nf;refine' Nv;refine' Ng;first|refine' KP|(refine' KQ;(first|(refine' MV)|(refine' Nu)|(refine' Ag<;>intro hc))));all_goals (refine' MK;refine' LU (c:=OV DG hS fd);rintro v1 w1 ⟨rfl,hS⟩;simp only [FM,FR,if_true,FV,if_false] at hS;refine' zn;refine' PZ;refine' zL;first|(refine' QO)|(refine' QV)|(refine' Af<;>intro hc));all_goals (refine' Rn;first|refine' KP|(refine' KQ;(first|(refine' QO)|(refine' QV)|(refine' Af<;>intro hc))));all_goals (refine' MK;refine' LU (c:=OV DG hS fd);rintro v1 w1 ⟨rfl,hS⟩;simp only [FM,FR,if_true,FV,if_false] at hS);all_goals refine' zn)
              | (refine' KO;refine' KV))))
 all_goals (refine' Nm; refine ⟨_, rfl, rfl, ?_⟩; subst hh; rw [← YU (c3 := OP n.length x) hq rfl]; clear hq hx hr ha hf hsz; have hS := hS.drop; refine GR ?_ hi; first | (rw [show OP n.length x = 0 from EB]; first | (rw [M4, gh rfl]; exact hS) | exact hS | (rw [Pt, P1] at hS; exact hS)) | (rw [show OP n.length x = 1 from EB]; first | exact hS | (rw [Pt, Rp Jd] at hS; exact hS)) | (rw [show OP n.length x = 2 from EB]; first | exact hS | (rw [Pt, P1] at hS; exact hS)) | (trace_state; fail "end"))
theorem jK {x:Fun}{t:To}(hx:K8.at cx cs x)(ht:toR.at cx ds t)(hS:St cx w L)(hi:nth L i=some (No b vf g at')):
 KK Tryz.prog Qbg [.pointer (some ⟨b,0,none⟩), .agg ⟨cs⟩, .agg ⟨ds⟩, .bool is] w fun u w'=>u= .tuple #[]∧St cx w' (L.set i (No b vf (Ln g (LB (NM x.blocks.length t is) at')) at')):=by
 have hS:=hS.out hi;obtain ⟨vp,vr,vb,rfl,hp,hr,hb⟩:=QC hx;obtain ⟨v1,v2,rfl,h1,h2⟩:=SX ht;have hlb:=hb.len;have hl1:=h1.len;have hl2:=h2.len
 cases is with
 | false=>
   (((refine KY KX Tryz.func215 ?_;refine' Lx;intro p5 w1 hS;refine zb hS ?_;intro p6 w1 hS;refine' zn;refine' NI;refine' Oy;refine' KN;refine' O6;first|(refine' QG)|(refine' QI)|(refine' Ad<;>intro hc));all_goals (refine' Rn;first|refine' KP|(refine' KQ;(first|(refine' QO)|(refine' QV)|(refine' Af<;>intro hc)))));all_goals (refine' MK;refine' Rn;first|refine' KP|(refine' KQ;(first|(refine' QO)|(refine' QV)|(refine' Af<;>intro hc)))));all_goals (refine' MK;refine' LU (c:=OV DG hS fd);rintro v1 w1 ⟨rfl,hS⟩;simp only [FM,FR,if_true,FV,if_false] at hS;refine' Mu;refine' lB;refine ⟨_,rfl,rfl,?_⟩;have hS:=hS.drop.drop;refine GR ?_ hi;first|(rw [show NM x.blocks.length t false=4 from (by unfold NM;rw [if_pos rfl,if_pos Jo])];exact hS)|(rw [show NM x.blocks.length t false=0 from (by unfold NM;rw [if_pos rfl,if_neg Jo])];exact hS))
 | true=>
   ((((refine KY KX Tryz.func215 ?_;refine' Lx;intro p5 w1 hS;refine zb hS ?_;intro p6 w1 hS;refine' zn;refine' NI;refine' Oy;refine' Si;refine' O6;first|(refine' LG)|(refine' LM)|(refine' Ae<;>intro hc));all_goals (refine' Sj;refine' Ng;first|refine' KP|(refine' KQ;(first|(refine' MV)|(refine' Nu)|(refine' Ag<;>intro hc)))));all_goals (refine' MK;refine' LU (c:=OV DG hS fd);rintro v1 w1 ⟨rfl,hS⟩;simp only [FM,FR,if_true,FV,if_false] at hS;refine' zn;refine' PZ;refine' zL;first|(refine' QO)|(refine' QV)|(refine' Af<;>intro hc)));all_goals (refine' Rn;first|refine' KP|(refine' KQ;(first|(refine' QO)|(refine' QV)|(refine' Af<;>intro hc)))));all_goals (refine' MK;refine' LU (c:=OV DG hS fd);rintro v1 w1 ⟨rfl,hS⟩;simp only [FM,FR,if_true,FV,if_false] at hS;refine' TK;refine ⟨_,rfl,rfl,?_⟩;have hS:=hS.drop.drop;rw [Pt] at hS;refine GR ?_ hi;first|(rw [show NM x.blocks.length t true=1 from (by unfold NM;rw [if_neg Bool.noConfusion,if_pos Jo])];rw [Rp Jd] at hS;exact hS)|(rw [show NM x.blocks.length t true=2 from (by unfold NM;rw [if_neg Bool.noConfusion,if_neg Jo,if_pos Jo])];rw [P1] at hS;exact hS)|(rw [show NM x.blocks.length t true=0 from (by unfold NM;rw [if_neg Bool.noConfusion,if_neg Jo,if_neg Jo])];rw [P1] at hS;exact hS))
theorem YV {n:Nat}:Ln (Ln (Ln (Ln (Ln g (LB (if e.op<1∨3<e.op then 3 else 0) at')) (LB (if e.op≠2∧e.a≠0∨e.op≠3∧0<e.args.length then 4 else 0) at')) (LB (if 8<e.args.length then 2 else 0) at')) (LB (NM n e.yes (decide (e.op≠3))) at')) (LB (NM n e.no (decide (e.op=2))) at')=Ln g (LB (NU n e) at'):=by
 rw [Pt,Pt,Pt,Pt];congr 2;unfold NU;split
 · simp only [Rp (show (3:Int)≠0 by decide)]
 · rw [P1]
   split
   · simp only [Rp (show (4:Int)≠0 by decide)]
   · rw [P1]
     split
     · simp only [Rp (show (2:Int)≠0 by decide)]
     · rw [P1]
theorem bg {x:Fun}(hx:K8.at cx cs x)(he:LZ.at cx ds e)(hS:St cx w L)(hi:nth L i=some (No b vf g at')):
 KK Tryz.prog Q9S [.pointer (some ⟨b,0,none⟩), .agg ⟨cs⟩, .agg ⟨ds⟩] w fun u w'=>u= .tuple #[]∧St cx w' (L.set i (No b vf (Ln g (LB (NU x.blocks.length e) at')) at')):=by
 have hS:=hS.out hi;obtain ⟨vp,vr,vb,rfl,hp,hr,hb⟩:=QC hx;obtain ⟨v1,v2,v3,v4,v5,rfl,h1,h2,h3,h4,h5⟩:=RM he;have hl5:=h5.len;refine KY KX Tryz.func165 ?_;refine' Lx;intro p4 w1 hS;refine zb hS ?_;intro p5 w1 hS;refine' zn;refine zM [0,4,5] (fun A ρ' w'=>KR ρ' A∧KR ρ' []∧St cx w' (blk p5 90 [.int .i64 e.op, .int .i64 e.a, .int .i64 e.yes.block,v1,v2, .int .i64 e.no.block,v3,v4,v5]::blk p4 95 [.int .i64 x.regs,vp,vr,vb]::No b vf (Ln g (LB (if e.op<1∨3<e.op then 3 else 0) at')) at'::L.eraseIdx i)) ?_ ?_
 · skip;(refine' PZ;first|(refine' LG)|(refine' LM)|(refine' Ae<;>intro hc));all_goals (refine' Ms;first|refine' KP|(refine' KQ;(first|(refine' QO)|(refine' QV)|(refine' Af<;>intro hc))));all_goals (refine' MK;refine' LU (c:=OV DG hS fd);rintro v1 w1 ⟨rfl,hS⟩;simp only [FM,FR,if_true,FV,if_false] at hS;refine' zn;exact Bc)
 rintro ρ w1 ⟨hA,hρ,hS⟩;obtain ⟨ρ,rfl⟩:=KS hA hρ;refine zM [0,4,5] (fun A ρ' w'=>KR ρ' A∧KR ρ' []∧St cx w' (blk p5 90 [.int .i64 e.op, .int .i64 e.a, .int .i64 e.yes.block,v1,v2, .int .i64 e.no.block,v3,v4,v5]::blk p4 95 [.int .i64 x.regs,vp,vr,vb]::No b vf (Ln (Ln g (LB (if e.op<1∨3<e.op then 3 else 0) at')) (LB (if e.op≠2∧e.a≠0∨e.op≠3∧0<e.args.length then 4 else 0) at')) at'::L.eraseIdx i)) ?_ ?_
 · skip;(refine' PZ;first|(refine' QG)|(refine' QI)|(refine' Ad<;>intro hc));all_goals (refine' Ms;first|refine' KP|(refine' KQ;(first|(refine' QG)|(refine' QI)|(refine' Ad<;>intro hc))));all_goals (refine' MK;refine' Ms;first|refine' KP|(refine' KQ;(first|(refine' QG)|(refine' QI)|(refine' Ad<;>intro hc))));all_goals (refine' YC;refine' Ng;first|refine' KP|(refine' KQ;(first|(refine' QO)|(refine' QV)|(refine' Af<;>intro hc))));all_goals (refine' Yw;refine' MK;refine' LU (c:=OV DG hS fd);rintro v1 w1 ⟨rfl,hS⟩;simp only [FM,FR,if_true,FV,if_false] at hS;refine' zn;exact ⟨zh,zh,by first|(rw [if_pos (c:=e.op≠2∧e.a≠0∨e.op≠3∧0<e.args.length) Jo];exact hS.sp)|(rw [if_neg (c:=e.op≠2∧e.a≠0∨e.op≠3∧0<e.args.length) Jo];exact hS.sp)⟩)
 rintro ρ w1 ⟨hA,hρ,hS⟩;obtain ⟨ρ,rfl⟩:=KS hA hρ;refine zM [0,4,5] (fun A ρ' w'=>KR ρ' A∧KR ρ' []∧St cx w' (blk p5 90 [.int .i64 e.op, .int .i64 e.a, .int .i64 e.yes.block,v1,v2, .int .i64 e.no.block,v3,v4,v5]::blk p4 95 [.int .i64 x.regs,vp,vr,vb]::No b vf (Ln (Ln (Ln g (LB (if e.op<1∨3<e.op then 3 else 0) at')) (LB (if e.op≠2∧e.a≠0∨e.op≠3∧0<e.args.length then 4 else 0) at')) (LB (if 8<e.args.length then 2 else 0) at')) at'::L.eraseIdx i)) ?_ ?_
 · skip;(refine' PZ;refine' zL;first|(refine' QO)|(refine' QV)|(refine' Af<;>intro hc));all_goals (refine' LU (c:=OV DG hS fd);rintro v1 w1 ⟨rfl,hS⟩;simp only [FM,FR,if_true,FV,if_false] at hS;refine' zn;exact ⟨zh,zh,by first|(rw [if_pos (c:=8<e.args.length) Jo];exact hS.sp)|(rw [if_neg (c:=8<e.args.length) Jo];exact hS.sp)⟩)
 rintro ρ w1 ⟨hA,hρ,hS⟩;obtain ⟨ρ,rfl⟩:=KS hA hρ;refine' YD;refine' PC;refine' Lw;refine XU rfl rfl ?_;refine' NN (c:=jK (t:=e.yes) hx ⟨_,_,rfl,h1,h2⟩ hS fd);rintro v1 w1 ⟨rfl,hS⟩;have hS:=hS.ns;refine' zn;refine' PX;refine' PC;refine' Lw;refine iF rfl rfl ?_;refine' NN (c:=jK (t:=e.no) hx ⟨_,_,rfl,h3,h4⟩ hS fd);rintro v1 w1 ⟨rfl,hS⟩;have hS:=hS.ns;refine' TK;refine ⟨_,rfl,rfl,?_⟩;rw [YV] at hS;exact GR hS.drop.drop hi
end
end
section
structure RFV where
 f:Nat
 b:Nat
 i:Nat
 vv:Value
 vals:List Int
def RFV.abs (x:RFV):RFrm:=⟨x.f,x.b,x.i,x.vals⟩
def RFV.cells (x:RFV):List Value:=[.int .i64 x.f, .int .i64 x.b, .int .i64 x.i,x.vv]
def RFV.res (x:RFV):Res:=sl 2 1 x.vv (x.vals.map Qs)
structure RC where
 ep:Value
 fn:Value
 lv:Value
 iv:Value
 e:Int
 bv:Value
 ov:Value
 fu:Int
 mo:Int
 dn:Bool
@[reducible] def RC.cells (x:RC):List Value:=[x.ep,x.fn,x.lv,x.iv, .int .i64 x.e,x.bv,x.ov, .int .i64 x.fu, .int .i64 x.mo, .bool x.dn]
@[reducible] def OJ (fr:List RFV)(g:RFV):List (List Value):=fr.map RFV.cells++[g.cells]
theorem Qb (fr:List RFV)(g:RFV):(OJ fr g).length=fr.length+1:=by simp
theorem Qf (fr:List RFV)(g:RFV):(OJ fr g)[fr.length]?=some g.cells:=by
 rw [FI Js];simp
theorem vy {fr:List RFV}{g g':RFV}(h:g.cells.set j u=g'.cells):(OJ fr g).set fr.length (g.cells.set j u)=OJ fr g':=by
 rw [h];unfold OJ;rw [Hp _ _ Js];simp
@[reducible] def rL (p:Nat)(c:RC)(fr:List RFV)(g:RFV)(L:List Res):List Res:=blk p 66 c.cells::sl 138 4 c.lv (OJ fr g)::sl 2 1 g.vv (g.vals.map Qs)::LF RFV.res fr::L
@[reducible] def Xz (e:Int):Value:= .iface 139 (.int .i64 e)
variable {cx:Cx}{w:World}{L:List Res}{p:Nat}{c:RC}{fr:List RFV}{g:RFV}
theorem YW {e:Int}(hS:St cx w L):KK Tryz.prog uB [.bool false, .int .i64 e] w fun u w'=>u= .tuple #[]∧St cx w' L:=by
 refine KY KX Tryz.func81 ?_;refine' Mf;refine' Si;refine' Nm;exact AX
theorem YX {e:Int}(hS:St cx w L):Li Tryz.prog uB [.bool true, .int .i64 e] w (fun _ _=>False) (fun u w'=>u=Xz e∧St cx w' L):=by
 unfold Li;refine KY KX Tryz.func81 ?_;refine' Mf;refine' KN;refine' Mj;refine' ue;refine tR rfl ?_;(repeat (first|refine' Qn|refine' Qp));refine' QP;exact .inr ⟨_,rfl,rfl,hS.sp⟩
theorem XA (hf:fr.length≤1000)(hS:St cx w (rL p c fr g L)):KK Tryz.prog Q8I [.pointer (some ⟨p,0,none⟩)] w fun u w'=>∃b o,u= .pointer (some ⟨b,o,none⟩)∧Oe c.lv (fr.length+1) 4 fr.length b o∧St cx w' (rL p c fr g L):=by
 refine KY KX Tryz.func82 ?_;refine' Mf;refine Qo ?_;refine zD (ci 12 [11]) ?_;have hS:=hS.drew;refine' Sz;refine' Sz;((refine QL hS vw fd (Qb fr g) ?_));refine' PV;rw [show ((fr.length+1:Nat):Int) - 1=fr.length by omega];((refine PQ hS vw rfl fd En ?_;rw [Qb];intro b1 o1 hel));refine' Ly;((exact ⟨_,rfl,b1,o1,rfl,hel,hS.sp⟩))
theorem RFrm.val_in {g:RFrm}{k v:Int}(h:g.val k=some v):0≤k∧k.toNat<g.vals.length∧g.vals[k.toNat]?=some v:=by
 unfold RFrm.val at h;by_cases h0:k<0
 · rw [if_pos h0] at h;cases h
 · rw [if_neg h0] at h;exact ⟨Jo,(FD.mp h).1,h⟩
theorem P2 {k v:Int}(hf:fr.length≤1000)(hS:St cx w (rL p c fr g L))(hg:g.abs.val k=some v):KK Tryz.prog Q8H [.pointer (some ⟨p,0,none⟩), .int .i64 k] w fun u w'=>u= .int .i64 v∧St cx w' (rL p c fr g L):=by
 obtain ⟨h0,hl,hv⟩:=RFrm.val_in hg;refine KY KX Tryz.func135 ?_;refine' Og;refine' Lf (c:=XA hf hS);rintro v1 w1 ⟨b1,o1,rfl,hel,hS⟩;refine' ML;((refine Q5 hS hel rfl fd (Qb fr g) (Qf fr g) rfl ?_));refine' zm;((refine QN hS vw rfl fd Jo (by rw [FF];show k<(g.vals.length:Int);have:k.toNat<g.vals.length:=hl;omega) ?_;rw [FF];intro b2 o2 hel2));refine Qx hS hel2 rfl fd (FF _) (show (g.vals.map Qs)[k.toNat]?=some (Qs v) by rw [FW];rw [show g.vals[k.toNat]?=some v from hv];rfl) rfl ?_;refine' Ly;((exact AX))
end
end Go.Proofs.YteflkifmgnpbhaaGreat
namespace Go.Proofs.YteflkifmgnpbhaaGreat
open Go.Lir
theorem Qfv {g:RFrm}{k v:Int}(hd:g.args l=(g.args (l.drop q)).map fun r=>out++r)(hx:l[q]?=some k)(hv:g.val k=some v):g.args l=(g.args (l.drop (q+1))).map fun r=>(out++[v])++r:=by
 rw [hd,Q1 hx,RFrm.args,hv]
 cases g.args (l.drop (q+1)) with
 | none=>rfl
 | some r=>simp
theorem QhE {g:RFrm}(hd:g.args l=(g.args (l.drop q)).map fun r=>out++r)(hq:l.length≤q):g.args l=some out:=by
 rw [hd,FJ hq,RFrm.args];simp
theorem YY {g:RFrm}:g.args l=(g.args (l.drop 0)).map fun r=>[]++r:=by
 rw [GD];cases g.args l<;>rfl
theorem vz {g:RFrm}{k:Int}:∀{l:List Int}{vs:List Int},g.args l=some vs→∀{q:Nat},l[q]?=some k→∃v,g.val k=some v
 | [],_,_,_,h=>by simp at h
 | a ::l,vs,h,q,hq=>by
   rw [RFrm.args] at h
   cases ha:g.val a with
   | none=>rw [ha] at h;cases h
   | some v=>
     rw [ha] at h
     cases hl:g.args l with
     | none=>rw [hl] at h;cases h
     | some r=>
       cases q with
       | zero=>simp at hq;subst hq;exact ⟨v,ha⟩
       | succ q=>exact vz hl (q:=q) (by simpa using hq)
end Go.Proofs.YteflkifmgnpbhaaGreat
namespace Go.Proofs.YteflkifmgnpbhaaGreat
open Go.Lir
attribute [local irreducible] LC.wp Q0 Qr Qj Lo QJ LO.wp Q6 Calls
variable {cx:Cx}{w:World}{L:List Res}{p:Nat}{c:RC}{fr:List RFV}{g:RFV}
attribute [local irreducible] RFrm.val RFrm.args
theorem Qcp (l:List Int):∀c∈l.map Qs,∀u∈c,oneC u=true:=by
 intro c hc u hu;obtain ⟨v,_,rfl⟩:=Gm.1 hc;simp [Qs] at hu;rcases hu with rfl;rfl
def RFV.push (g:RFV)(tv:Value)(vs:List Int):RFV:=⟨g.f,g.b,g.i,tv,g.vals++vs⟩
theorem XB (hf:fr.length≤1000)(hn:g.vals.length+vs.length≤1000000)(hS:St cx w (rL p c fr g L))(hj:nth L j=some (sl 2 1 v2 (vs.map Qs))):
 KK Tryz.prog Q8J [.pointer (some ⟨p,0,none⟩),v2] w fun u w'=>∃tv,u= .tuple #[]∧St cx w' (rL p c fr (g.push tv vs) L):=by
 refine KY KX Tryz.func133 ?_;refine' Mj;refine' Lf (c:=XA hf hS);rintro v1 w1 ⟨b1,o1,rfl,hel1,hS⟩;refine' zm;refine' Lf (c:=XA hf hS);rintro v2 w1 ⟨b2,o2,rfl,hel2,hS⟩;refine' ML;((refine Q5 hS hel2 rfl fd (Qb fr g) (Qf fr g) rfl ?_));refine' zm;((refine Ow YT (.inl aX) hS vw vw (i:=2) rfl (hS.srcS (i:=j+4) hj (Qcp vs)) Fp ?_;intro v7 w7 hS;have hS:=hS.ns;have ho7:=hS.oneC (i:=2) rfl;rw [←Ga] at hS));refine' ML;refine RL hS hel1 rfl vw fd (Qb fr g) (Qf fr g) Jo ho7 (vy (g':=g.push v7 vs) rfl) ?_;intro w8 hS;have hS:=hS.ns;refine' TK;exact ⟨_,rfl,v7,rfl,hS.sp⟩
theorem dw {v1:Value}(hl1:l.length≤100000)(hf:fr.length≤1000)(hl:KM.sl cx v1 l)(hv:g.abs.args l=some vs)(hS:St cx w (rL p c fr g L)):KK Tryz.prog Q7X [.pointer (some ⟨p,0,none⟩),v1] w
 fun u w'=>vs.length=l.length∧oneC u=true∧St cx w' (rL p c fr g (sl 2 1 u (vs.map Qs)::L)):=by
 have hlen:=hl.len;refine KY KX Tryz.func143 ?_;refine' Mf;refine' Ob;refine' PF;have hS:St cx _ (rL p c fr g (sl 2 1 (.slice none 0 0) (([]:List Int).map Qs)::L)):=E6;refine zo [0,8,9] (fun A ρ' w'=>∃(q:Nat) (vo:Value) (out:List Int),KR ρ' A∧KR ρ' [(5,vo),(10, .int .i64 q)]∧(q≤l.length)∧(out.length=q)∧(oneC vo=true)∧(g.abs.args l=(g.abs.args (l.drop q)).map fun r=>out++r)∧St cx w' (rL p c fr g (sl 2 1 vo (out.map Qs)::L))) (fun ρ' _=>(l.length - iv (ρ' 10)).toNat) ?_ ?_
 · exact ⟨0, .slice none 0 0,[],zh,zh,Jo,rfl,rfl,YY,hS.sp⟩
 rintro ρ w1 ⟨q,vo,out,hA,hρ,hq,hol,hvo,hd,hS⟩;obtain ⟨ρ,rfl⟩:=KS hA hρ;refine' NV;refine' Ab<;>intro hc
 · skip;refine' S9;refine' zi;intro b1 o1 cs1 x1 hat1 hx1 he1;obtain rfl:=QB he1;refine' N8;refine' K5;refine' RX;obtain ⟨n1,hn1⟩:=vz hv hx1;refine' KU (c:=P2 hf hS hn1);rintro v2 w2 ⟨rfl,hS⟩;refine LK hS [_] ?_;intro b1 w1 hS;refine Ow YT (.inl aX) hS vw vw (i:=5) rfl (hS.srcB (i:=0) rfl Jr DH) DS ?_;intro v7 w7 hS;have hS:=hS.ns;have ho7:=hS.oneC (i:=5) rfl;refine' K5;refine' Rl;(exact ⟨⟨q+1,v7,out++[n1],zh,zh,Jo,by rw [FH,hol];rfl,ho7,Qfv hd hx1 hn1,by rw [Ga];exact hS.sp⟩,Qc Jo⟩)
 · skip;refine' U2;(have e9:=QhE hd Jo;rw [hv] at e9;cases e9;exact ⟨_,rfl,Jo,hvo,hS.sp⟩)
end Go.Proofs.YteflkifmgnpbhaaGreat
