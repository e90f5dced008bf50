
/- Lemmas of the proof, part 3: contracts. -/
import Derived.Test.YteflkifmgnpbhaaGreatZ2
import Derived.Test.YteflkifmgnpbhaaGreatZ1
import Derived.Test.YteflkifmgnpbhaaGreatProg
open Go Go.Lir Go.Proofs.YteflkifmgnpbhaaGreat
variable {α:Type}{R:Ending→World→Prop}{ld:LD}{u pp e v2 vf:Value}{j m b N M0q q:Nat}{l ws tk l' out vs:List Int}{x regs at':Int}{F:Nat→Prop}{w:World}{Y:Cx}{L:List Res}{t:Ty}{cs ds:List Value}{is:Bool}{g:Mj}
set_option linter.unusedVariables false
set_option linter.unusedSimpArgs false
set_option maxHeartbeats 1000000
namespace Go.Lir
section
variable {p:Prop}
theorem CO (h:p:=by (conv=>lhs;whnf);first|done|exact rfl):p:=h
theorem CQ (h:p:=by repeat constructor):p:=h
theorem CR (h:p:=by (repeat constructor);first|done|fail):p:=h
theorem CU (h:p:=by simp [oneC]):p:=h
theorem CW (h:p:=by intro _;decide):p:=h
theorem CY (h:p:=by (simp only [EM,EO,EY,Fc,Fh,FK];omega)):p:=h
theorem CZ (h:p:=by rw [EM];simp only [EY,Fc];omega):p:=h
theorem C0 (h:p:=by simp only [EY,Fc];omega):p:=h
theorem C1 (h:p:=by exact EM _):p:=h
theorem C2 (h:p:=by simp [Qq]):p:=h
theorem Dh (h:p:=by rw [EM];exact ok.len):p:=h
theorem Dr (h:p:=by rw [QG];omega):p:=h
theorem Dv (h:p:=by intro c O;obtain ⟨r,_,rfl⟩:=Fq.1 O;rfl):p:=h
theorem Dw (h:p:=by rw [EM,EM];omega):p:=h
theorem DB (h:p:=by rw [Fg V] at hls;exact hls):p:=h
theorem DF (h:p:=by rw [e1];exact (Z.subP (by (repeat constructor);first|done|fail))):p:=h
theorem DI (h:p:=by rw [EY,qE,hlen];omega):p:=h
theorem DM (h:p:=by rw [XN];exact hk):p:=h
theorem DO (h:p:=by unfold NK; (repeat (first | rw [Qip V] | rw [Qin V]))):p:=h
theorem DQ (h:p:=by (simp [oneC];done)):p:=h
theorem DU (h:p:=by rw [FY];omega):p:=h
theorem D6 (h:p:=by have:=hf3.size;have:=hf4.size;omega):p:=h
theorem Et (h:p:=by have Z:=Z.nil (T:=2) (es:=1);exact Aj):p:=h
theorem Ew (h:p:=by rw [EY,qE,Fh,hlen];omega):p:=h
end
end Go.Lir
namespace Go.Lir
section
variable {p:Prop}
theorem Aj (h:p:=by exact Z.sp):p:=h
theorem An (h:p:=by exact ⟨0,zh,zh,V,by simp,Z.sp⟩):p:=h
theorem Ap (h:p:=by exact ⟨_,rfl,rfl,Z.sp⟩):p:=h
theorem Av (h:p:=by exact ⟨_,rfl,true,rfl,fun h=>Bool.noConfusion h,Z.sp⟩):p:=h
theorem Ax (h:p:=by exact ⟨_,rfl,rfl,rfl⟩):p:=h
theorem AE (h:p:=by exact ⟨0,zh,zh,V,V,by simp,Z.sp⟩):p:=h
theorem AF (h:p:=by exact ⟨_,zh,zh,by exact ⟨fun _=> .inr ⟨Jr,V⟩,fun _=>rfl⟩,Z.sp⟩):p:=h
theorem AI (h:p:=by exact ⟨zh,zh,by first|(rw [Qip V];exact Z.sp)|(rw [Qin V];exact Z.sp)⟩):p:=h
theorem AR (h:p:=by exact .inr ⟨_,rfl,rfl,Z.sp⟩):p:=h
theorem AX (h:p:=by exact fun e=>absurd (congrArg List.length e) V):p:=h
theorem A3 (h:p:=by exact ⟨_, rfl, Y, Fs Z, FU _ _ _, Z⟩):p:=h
theorem A6 (h:p:=by exact ⟨_,rfl,Y,Fs Z,FU _ _ _,Z⟩):p:=h
theorem Bf (h:p:=by exact ⟨_,rfl,b1,o1,rfl,hel,Z.sp⟩):p:=h
theorem Bh (h:p:=by exact ⟨Y,0, .slice none 0 0,[],zh,zh,Fs Z,V,Gd _ _ _,rfl,by have Z:=Z.nil (T:=115) (es:=3);exact Z⟩):p:=h
theorem Bu (h:p:=by exact ⟨⟨c2,j+1,_,_,zh,zh,hle.trans hle2,V,by rw [Us hx1];assumption,by assumption,Z.sp⟩,Qh V⟩):p:=h
theorem Bw (h:p:=by exact ⟨_,rfl,rfl,F4 Z hi⟩):p:=h
theorem BA (h:p:=by exact ⟨_,rfl,c3,hle3,hl3,Z⟩):p:=h
theorem BE (h:p:=by exact ⟨_,zh,zh,by exact ⟨fun h=>Bool.noConfusion h,fun h=>h.elim (fun h=>hq4.2 h) (fun h=>by obtain ⟨I,M⟩:=h;first|(exfalso;omega)|(simp_all;done))⟩,Z.sp⟩):p:=h
theorem BQ (h:p:=by exact ⟨0,zh,zh,V,V,by assumption,by assumption,by simp,Z.sp⟩):p:=h
theorem BW (h:p:=by exact ⟨⟨k+1,zh,zh,V,V,by assumption,by assumption,YI hd2 hx3 ⟨V,V⟩,Z.sp⟩,Qh V⟩):p:=h
theorem BY (h:p:=by exact ⟨⟨j+1,zh,zh,V,by rw [hd,Q7 hx1,Tys.wrong,Qin V],Z.sp⟩,Qh V⟩):p:=h
theorem B0 (h:p:=by exact ⟨_,zh,zh,by exact ⟨fun h=>Bool.noConfusion h,fun h=>by obtain ⟨I,M⟩:=h;first|(exfalso;omega)|(simp_all;done)⟩,Z.sp⟩):p:=h
theorem B2 (h:p:=by exact ⟨_,zh,zh,by exact ⟨fun _=> .inl (hq3.1 rfl),fun _=>rfl⟩,Z.sp⟩):p:=h
theorem B4 (h:p:=by exact ⟨b,_,_,_,_,⟨rfl,rfl,rfl,trivial⟩,hblk,hw,ht,hb3,hf,fun (h:b=_)=>by omega,fun (h:b=_)=>by omega,fun x (h:x=_) (h':x=_)=>by omega,V,fun (h:b3=_)=>by omega,fun (h:b3=_)=>by omega,V,fun x (h:x=_)=>by omega,fun x (h:x=_)=>by omega⟩):p:=h
theorem Cd (h:p:=by exact ⟨_,zh,zh,by exact ⟨fun h=>Bool.noConfusion h,fun h=>h.elim (fun h=>hq5.2 h) (fun h=>by obtain ⟨I,M⟩:=h;first|(exfalso;omega)|(simp_all;done))⟩,Z.sp⟩):p:=h
theorem Ce (h:p:=by exact ⟨⟨j+1,zh,zh,V,V,by rw [hd,Q7 hx1,Q7 hx2,hg];simp,Z.sp⟩,Qh V⟩):p:=h
theorem Cf (h:p:=by exact ⟨_,zh,zh,by exact ⟨fun _=> .inl (hq4.1 rfl),fun _=>rfl⟩,Z.sp⟩):p:=h
theorem Ch (h:p:=by exact ⟨_,zh,zh,by exact ⟨fun h=>Bool.noConfusion h,fun h=>h.elim (fun h=>hq1.2 h) (fun h=>by obtain ⟨I,M⟩:=h;first|(exfalso;omega)|(simp_all;done))⟩,Z.sp⟩):p:=h
theorem Cl (h:p:=by exact ⟨_,zh,zh,by exact ⟨fun _=> .inl (hq5.1 rfl),fun _=>rfl⟩,Z.sp⟩):p:=h
theorem Co (h:p:=by exact ⟨_,zh,zh,by exact ⟨fun h=>Bool.noConfusion h,fun h=>h.elim (fun h=>hq2.2 h) (fun h=>by obtain ⟨I,M⟩:=h;first|(exfalso;omega)|(simp_all;done))⟩,Z.sp⟩):p:=h
theorem Cp (h:p:=by exact ⟨rfl,rfl,by simp only;omega,by simp only;omega,by simp only;omega⟩):p:=h
theorem Cq (h:p:=by exact ⟨_,rfl,false,rfl,fun _=>⟨I,dt (l:=l) hd V⟩,Z.sp⟩):p:=h
theorem Cw (h:p:=by exact ⟨_,zh,zh,by exact ⟨fun h=>Bool.noConfusion h,fun h=>h.elim (fun h=>hq3.2 h) (fun h=>by obtain ⟨I,M⟩:=h;first|(exfalso;omega)|(simp_all;done))⟩,Z.sp⟩):p:=h
theorem CA (h:p:=by exact ⟨_,zh,zh,by exact ⟨fun _=> .inl (hq2.1 rfl),fun _=>rfl⟩,Z.sp⟩):p:=h
theorem CD (h:p:=by exact ⟨0,zh,zh,V,V,by assumption,⟨⟨V,V⟩,⟨V,V⟩,V⟩,by simp,Z.sp⟩):p:=h
theorem CJ (h:p:=by exact ⟨_,zh,zh,by exact ⟨fun _=> .inl (hq1.1 rfl),fun _=>rfl⟩,Z.sp⟩):p:=h
end
end Go.Lir
namespace Go.Lir
section
def ci (n:Nat)(f:List Nat):List CI:=(List.range n).map fun i=>(i,if f.contains i then some none else none)
section
variable {K G:Prop}
theorem UP {k:K}(h:Bx K→G:=by intro K9;(first|refine' Kj|(refine' Kg;refine' MT));exact K9.o):G:=h ⟨k⟩
theorem Y1 {k:K}(h:Bx K→G:=by intro K9;(first|refine' Kj|(refine' Kg;refine zl Z ?_));exact K9.o):G:=h ⟨k⟩
theorem Mu {k:K}(h:Bx K→G:=by intro K9;(first|refine' Kj|(refine' Kg;refine' zm));exact K9.o):G:=h ⟨k⟩
theorem Lw {k:K}(h:Bx K→G:=by intro K9;(first|refine' OZ|refine' Ni);exact K9.o):G:=h ⟨k⟩
theorem ML {k:K}(h:Bx K→G:=by intro K9;(first|refine' Kj|(refine' Kg;refine' zL));exact K9.o):G:=h ⟨k⟩
theorem Lo {k:K}(h:Bx K→G:=by intro K9;(first|refine' Qo|refine' QL);exact K9.o):G:=h ⟨k⟩
theorem N9 {k:K}(h:Bx K→G:=by intro K9;(first|refine' Kj|(refine' Kg;refine' NN));exact K9.o):G:=h ⟨k⟩
theorem bK {k:K}(h:Bx K→G:=by intro K9;(first|refine' Kj|(refine' Kg;refine' RF));exact K9.o):G:=h ⟨k⟩
theorem Y2 {k:K}(h:Bx K→G:=by intro K9;(first|refine' Kj|(refine' Kg;(first|refine' OZ|refine' Ni)));exact K9.o):G:=h ⟨k⟩
theorem Y3 {k:K}(h:Bx K→G:=by intro K9;(first|refine' Kj|(refine' Kg;refine' ND));exact K9.o):G:=h ⟨k⟩
theorem PG {k:K}(h:Bx K→G:=by intro K9;(first|refine' SW|refine' PE);exact K9.o):G:=h ⟨k⟩
theorem SZ {k:K}(h:Bx K→G:=by intro K9;(first|refine' Kj|(refine' Kg;refine PZ Z ?_));exact K9.o):G:=h ⟨k⟩
theorem dP {k:K}(h:Bx K→G:=by intro K9;(first|refine' Kj|(refine' Kg;refine MG Z ?_));exact K9.o):G:=h ⟨k⟩
theorem dQ {k:K}(h:Bx K→G:=by intro K9;(first|refine' Kj|(refine' Kg;refine' bI));exact K9.o):G:=h ⟨k⟩
theorem Y4 {k:K}(h:Bx K→G:=by intro K9;(first|refine' Sb|refine' TA);exact K9.o):G:=h ⟨k⟩
theorem i0 {k:K}(h:Bx K→G:=by intro K9;(first|refine' Kj|(refine' Kg;refine' TA));exact K9.o):G:=h ⟨k⟩
theorem ku {k:K}(h:Bx K→G:=by intro K9;(first|refine' Kj|(refine' Kg;refine' MJ));exact K9.o):G:=h ⟨k⟩
theorem nE {k:K}(h:Bx K→G:=by intro K9;(first|refine' uh|refine' ui|refine Q4 ?_);exact K9.o):G:=h ⟨k⟩
theorem nF {k:K}(h:Bx K→G:=by intro K9;(first|refine' Kj|(refine' Kg;refine YY Z ?_));exact K9.o):G:=h ⟨k⟩
theorem Kn {k:K}(h:Bx K→G:=by intro K9;refine Qm ?_;refine' Lm;exact K9.o):G:=h ⟨k⟩
theorem Ku {k:K}(h:Bx K→G:=by intro K9;refine' zt;refine' KS;exact K9.o):G:=h ⟨k⟩
theorem KX {k:K}(h:Bx K→G:=by intro K9;refine' Kn;refine' zm;exact K9.o):G:=h ⟨k⟩
theorem Kv {k:K}(h:Bx K→G:=by intro K9;refine' zm;refine' zn;exact K9.o):G:=h ⟨k⟩
theorem KJ {k:K}(h:Bx K→G:=by intro K9;refine' MT;refine zl Z ?_;exact K9.o):G:=h ⟨k⟩
theorem LS {k:K}(h:Bx K→G:=by intro K9;refine' KX;refine' zn;exact K9.o):G:=h ⟨k⟩
theorem Lp {k:K}(h:Bx K→G:=by intro K9;refine' Lm;refine' zm;exact K9.o):G:=h ⟨k⟩
theorem Pg {k:K}(h:Bx K→G:=by intro K9;refine' zr;refine' zf;exact K9.o):G:=h ⟨k⟩
theorem O0 {k:K}(h:Bx K→G:=by intro K9;refine' zm;refine' Ku;exact K9.o):G:=h ⟨k⟩
theorem Oq {k:K}(h:Bx K→G:=by intro K9;refine' MT;refine' Ku;exact K9.o):G:=h ⟨k⟩
theorem Lb {k:K}(h:Bx K→G:=by intro K9;refine Qm ?_;refine' KX;exact K9.o):G:=h ⟨k⟩
theorem nG {k:K}(h:Bx K→G:=by intro K9;refine' Oq;refine zl Z ?_;exact K9.o):G:=h ⟨k⟩
theorem nH {k:K}(h:Bx K→G:=by intro K9;refine' zt;refine' zy;exact K9.o):G:=h ⟨k⟩
theorem MD {k:K}(h:Bx K→G:=by intro K9;refine' UP;refine' Y1;exact K9.o):G:=h ⟨k⟩
theorem Lh {k:K}(h:Bx K→G:=by intro K9;refine' zt;refine' Py;exact K9.o):G:=h ⟨k⟩
theorem L5 {k:K}(h:Bx K→G:=by intro K9;refine' Kn;refine' KJ;exact K9.o):G:=h ⟨k⟩
theorem KQ {k:K}(h:Bx K→G:=by intro K9;refine' Kv;refine' Pg;exact K9.o):G:=h ⟨k⟩
theorem KM {k:K}(h:Bx K→G:=by intro K9;refine' LS;refine' Pg;exact K9.o):G:=h ⟨k⟩
theorem TD {k:K}(h:Bx K→G:=by intro K9;refine Yk rfl rfl ?_;refine' zn;exact K9.o):G:=h ⟨k⟩
theorem UQ {k:K}(h:Bx K→G:=by intro K9;refine Qm ?_;refine' PS;exact K9.o):G:=h ⟨k⟩
theorem LF {k:K}(h:Bx K→G:=by intro K9;refine' RF;refine' MT;exact K9.o):G:=h ⟨k⟩
theorem KW {k:K}(h:Bx K→G:=by intro K9;refine' KX;refine' zm;exact K9.o):G:=h ⟨k⟩
theorem NS {k:K}(h:Bx K→G:=by intro K9;refine' nG;refine' Ku;exact K9.o):G:=h ⟨k⟩
theorem K7 {k:K}(h:Bx K→G:=by intro K9;refine' zt;refine' vR;exact K9.o):G:=h ⟨k⟩
theorem KU {k:K}(h:Bx K→G:=by intro K9;refine' Kn;refine zb Z ?_;exact K9.o):G:=h ⟨k⟩
theorem K8 {k:K}(h:Bx K→G:=by intro K9;refine' zt;refine' Lg;exact K9.o):G:=h ⟨k⟩
theorem Nc {k:K}(h:Bx K→G:=by intro K9;refine' RF;refine' Ku;exact K9.o):G:=h ⟨k⟩
theorem LW {k:K}(h:Bx K→G:=by intro K9;refine' RF;refine' NN;exact K9.o):G:=h ⟨k⟩
theorem LG {k:K}(h:Bx K→G:=by intro K9;refine' RF;refine' KJ;exact K9.o):G:=h ⟨k⟩
theorem Ph {k:K}(h:Bx K→G:=by intro K9;refine' KS;refine' O0;exact K9.o):G:=h ⟨k⟩
theorem qF {k:K}(h:Bx K→G:=by intro K9;refine' MJ;refine' Kv;exact K9.o):G:=h ⟨k⟩
theorem MU {k:K}(h:Bx K→G:=by intro K9;refine' Kv;refine Qm ?_;exact K9.o):G:=h ⟨k⟩
theorem Mi {k:K}(h:Bx K→G:=by intro K9;refine' Ko;refine' UQ;exact K9.o):G:=h ⟨k⟩
theorem Md {k:K}(h:Bx K→G:=by intro K9;refine' zm;refine' Mu;exact K9.o):G:=h ⟨k⟩
theorem LH {k:K}(h:Bx K→G:=by intro K9;refine' zm;refine' MD;exact K9.o):G:=h ⟨k⟩
theorem Lc {k:K}(h:Bx K→G:=by intro K9;refine' nH;refine' Py;exact K9.o):G:=h ⟨k⟩
theorem UR {k:K}(h:Bx K→G:=by intro K9;refine' Kj;refine' Kj;exact K9.o):G:=h ⟨k⟩
theorem Me {k:K}(h:Bx K→G:=by intro K9;refine' zm;refine' zm;exact K9.o):G:=h ⟨k⟩
theorem LY {k:K}(h:Bx K→G:=by intro K9;refine' nH;refine' Lg;exact K9.o):G:=h ⟨k⟩
theorem Ld {k:K}(h:Bx K→G:=by intro K9;refine' Lw;refine' zn;exact K9.o):G:=h ⟨k⟩
theorem LA {k:K}(h:Bx K→G:=by intro K9;refine' zn;refine Qm ?_;exact K9.o):G:=h ⟨k⟩
theorem LU {k:K}(h:Bx K→G:=by intro K9;refine' Kg;refine zl Z ?_;exact K9.o):G:=h ⟨k⟩
theorem Ln {k:K}(h:Bx K→G:=by intro K9;refine' Kg;refine' zm;exact K9.o):G:=h ⟨k⟩
theorem Ot {k:K}(h:Bx K→G:=by intro K9;refine' nG;refine' Lh;exact K9.o):G:=h ⟨k⟩
theorem MM {k:K}(h:Bx K→G:=by intro K9;refine' Kn;refine zv Z ?_;exact K9.o):G:=h ⟨k⟩
theorem Lq {k:K}(h:Bx K→G:=by intro K9;refine' zr;refine' XM;exact K9.o):G:=h ⟨k⟩
theorem LK {k:K}(h:Bx K→G:=by intro K9;refine' zm;refine Lf ?_;exact K9.o):G:=h ⟨k⟩
theorem OG {k:K}(h:Bx K→G:=by intro K9;refine' Kv;refine' PS;exact K9.o):G:=h ⟨k⟩
theorem L6 {k:K}(h:Bx K→G:=by intro K9;refine' Kv;refine' KX;exact K9.o):G:=h ⟨k⟩
theorem Mm {k:K}(h:Bx K→G:=by intro K9;refine' Ku;refine' O0;exact K9.o):G:=h ⟨k⟩
theorem LI {k:K}(h:Bx K→G:=by intro K9;refine' Kg;refine' MT;exact K9.o):G:=h ⟨k⟩
theorem S0 {k:K}(h:Bx K→G:=by intro K9;refine' LS;refine' PS;exact K9.o):G:=h ⟨k⟩
theorem Mn {k:K}(h:Bx K→G:=by intro K9;refine' Lp;refine' qF;exact K9.o):G:=h ⟨k⟩
theorem US {k:K}(h:Bx K→G:=by intro K9;refine' NN;refine' Ku;exact K9.o):G:=h ⟨k⟩
theorem LZ {k:K}(h:Bx K→G:=by intro K9;refine' nH;refine' KS;exact K9.o):G:=h ⟨k⟩
theorem dR {k:K}(h:Bx K→G:=by intro K9;refine' nB;refine' nB;exact K9.o):G:=h ⟨k⟩
theorem NG {k:K}(h:Bx K→G:=by intro K9;refine N8 Z ?_;refine Qb Z ?_;exact K9.o):G:=h ⟨k⟩
theorem Pj {k:K}(h:Bx K→G:=by intro K9;refine' NS;refine' O0;exact K9.o):G:=h ⟨k⟩
theorem LM {k:K}(h:Bx K→G:=by intro K9;refine' zn;refine' zr;exact K9.o):G:=h ⟨k⟩
theorem MN {k:K}(h:Bx K→G:=by intro K9;refine Qm ?_;refine Qm ?_;exact K9.o):G:=h ⟨k⟩
theorem L8 {k:K}(h:Bx K→G:=by intro K9;refine' zn;refine' KX;exact K9.o):G:=h ⟨k⟩
theorem qG {k:K}(h:Bx K→G:=by intro K9;refine' zm;refine' dR;exact K9.o):G:=h ⟨k⟩
theorem Mo {k:K}(h:Bx K→G:=by intro K9;refine' Kv;refine' zr;exact K9.o):G:=h ⟨k⟩
theorem OH {k:K}(h:Bx K→G:=by intro K9;refine' Lp;refine zv Z ?_;exact K9.o):G:=h ⟨k⟩
theorem Ou {k:K}(h:Bx K→G:=by intro K9;refine' Kv;refine' Lb;exact K9.o):G:=h ⟨k⟩
theorem O1 {k:K}(h:Bx K→G:=by intro K9;refine' Lm;refine' qF;exact K9.o):G:=h ⟨k⟩
theorem TG {k:K}(h:Bx K→G:=by intro K9;refine' Kd;refine' Ko;exact K9.o):G:=h ⟨k⟩
theorem UT {k:K}(h:Bx K→G:=by intro K9;refine Lf ?_;refine Q4 ?_;exact K9.o):G:=h ⟨k⟩
theorem Zbq {k:K}(h:Bx K→G:=by intro K9;refine' TD;refine Qm ?_;exact K9.o):G:=h ⟨k⟩
theorem NT {k:K}(h:Bx K→G:=by intro K9;refine' Ph;refine' Nc;exact K9.o):G:=h ⟨k⟩
theorem NH {k:K}(h:Bx K→G:=by intro K9;refine' Lp;refine' zm;exact K9.o):G:=h ⟨k⟩
theorem RG {k:K}(h:Bx K→G:=by intro K9;refine' LF;refine' NN;exact K9.o):G:=h ⟨k⟩
theorem vV {k:K}(h:Bx K→G:=by intro K9;refine' zm;refine' K7;exact K9.o):G:=h ⟨k⟩
theorem Ov {k:K}(h:Bx K→G:=by intro K9;refine' Kn;refine Qb Z ?_;exact K9.o):G:=h ⟨k⟩
theorem UU {k:K}(h:Bx K→G:=by intro K9;refine' Lh;refine Qb Z ?_;exact K9.o):G:=h ⟨k⟩
theorem O2 {k:K}(h:Bx K→G:=by intro K9;refine' ND;refine' zn;exact K9.o):G:=h ⟨k⟩
theorem Nq {k:K}(h:Bx K→G:=by intro K9;refine Qm ?_;refine' L5;exact K9.o):G:=h ⟨k⟩
theorem Nr {k:K}(h:Bx K→G:=by intro K9;refine Qm ?_;refine' S0;exact K9.o):G:=h ⟨k⟩
theorem Sc {k:K}(h:Bx K→G:=by intro K9;refine' KJ;refine' zL;exact K9.o):G:=h ⟨k⟩
theorem MO {k:K}(h:Bx K→G:=by intro K9;refine' zm;refine' LW;exact K9.o):G:=h ⟨k⟩
theorem Nd {k:K}(h:Bx K→G:=by intro K9;refine' Kn;refine' Zbq;exact K9.o):G:=h ⟨k⟩
theorem Nf {k:K}(h:Bx K→G:=by intro K9;refine' Kg;refine' RF;exact K9.o):G:=h ⟨k⟩
theorem OI {k:K}(h:Bx K→G:=by intro K9;refine' Ph;refine' O0;exact K9.o):G:=h ⟨k⟩
theorem Nj {k:K}(h:Bx K→G:=by intro K9;refine' KX;refine' KJ;exact K9.o):G:=h ⟨k⟩
theorem Nk {k:K}(h:Bx K→G:=by intro K9;refine' LS;refine' KX;exact K9.o):G:=h ⟨k⟩
theorem S1 {k:K}(h:Bx K→G:=by intro K9;refine' UR;refine' UR;exact K9.o):G:=h ⟨k⟩
theorem NO {k:K}(h:Bx K→G:=by intro K9;refine' KX;refine Lf ?_;exact K9.o):G:=h ⟨k⟩
theorem MV {k:K}(h:Bx K→G:=by intro K9;refine' LS;refine' Lb;exact K9.o):G:=h ⟨k⟩
theorem Nl {k:K}(h:Bx K→G:=by intro K9;refine' zn;refine' L5;exact K9.o):G:=h ⟨k⟩
theorem Rj {k:K}(h:Bx K→G:=by intro K9;refine' KX;refine' KQ;exact K9.o):G:=h ⟨k⟩
theorem Nz {k:K}(h:Bx K→G:=by intro K9;refine' KX;refine' Kv;exact K9.o):G:=h ⟨k⟩
theorem N0 {k:K}(h:Bx K→G:=by intro K9;refine' KW;refine Lf ?_;exact K9.o):G:=h ⟨k⟩
theorem dS {k:K}(h:Bx K→G:=by intro K9;refine' nB;refine' Ku;exact K9.o):G:=h ⟨k⟩
theorem Sd {k:K}(h:Bx K→G:=by intro K9;refine' MT;refine zv Z ?_;exact K9.o):G:=h ⟨k⟩
theorem RH {k:K}(h:Bx K→G:=by intro K9;refine' Lb;refine' zm;exact K9.o):G:=h ⟨k⟩
theorem RI {k:K}(h:Bx K→G:=by intro K9;refine' zm;refine' zi;exact K9.o):G:=h ⟨k⟩
theorem Rk {k:K}(h:Bx K→G:=by intro K9;refine' qG;refine Qb Z ?_;exact K9.o):G:=h ⟨k⟩
theorem RJ {k:K}(h:Bx K→G:=by intro K9;refine' zn;refine' TG;exact K9.o):G:=h ⟨k⟩
theorem Oa {k:K}(h:Bx K→G:=by intro K9;refine' K8;refine' vV;exact K9.o):G:=h ⟨k⟩
theorem O3 {k:K}(h:Bx K→G:=by intro K9;refine' Me;refine Lf ?_;exact K9.o):G:=h ⟨k⟩
theorem O4 {k:K}(h:Bx K→G:=by intro K9;refine' RG;refine zl Z ?_;exact K9.o):G:=h ⟨k⟩
theorem O5 {k:K}(h:Bx K→G:=by intro K9;refine' Lm;refine' KQ;exact K9.o):G:=h ⟨k⟩
theorem Se {k:K}(h:Bx K→G:=by intro K9;refine' zn;refine' Kf;exact K9.o):G:=h ⟨k⟩
theorem Sf {k:K}(h:Bx K→G:=by intro K9;refine' qG;refine' zm;exact K9.o):G:=h ⟨k⟩
theorem i5 {k:K}(h:Bx K→G:=by intro K9;refine' Lb;refine' Sc;exact K9.o):G:=h ⟨k⟩
theorem XO {k:K}(h:Bx K→G:=by intro K9;refine' Mu;refine' bK;exact K9.o):G:=h ⟨k⟩
theorem Ob {k:K}(h:Bx K→G:=by intro K9;refine' zL;refine' OG;exact K9.o):G:=h ⟨k⟩
theorem Pk {k:K}(h:Bx K→G:=by intro K9;refine' PE;refine' Kv;exact K9.o):G:=h ⟨k⟩
theorem Pm {k:K}(h:Bx K→G:=by intro K9;refine' zn;refine' QY;exact K9.o):G:=h ⟨k⟩
theorem OJ {k:K}(h:Bx K→G:=by intro K9;refine' MU;refine' L5;exact K9.o):G:=h ⟨k⟩
theorem XP {k:K}(h:Bx K→G:=by intro K9;refine' Mu;refine' MD;exact K9.o):G:=h ⟨k⟩
theorem OK {k:K}(h:Bx K→G:=by intro K9;refine' Lp;refine' KJ;exact K9.o):G:=h ⟨k⟩
theorem Y5 {k:K}(h:Bx K→G:=by intro K9;refine' dS;refine' nB;exact K9.o):G:=h ⟨k⟩
theorem OL {k:K}(h:Bx K→G:=by intro K9;refine' Nc;refine' US;exact K9.o):G:=h ⟨k⟩
theorem i6 {k:K}(h:Bx K→G:=by intro K9;refine' Oq;refine' US;exact K9.o):G:=h ⟨k⟩
theorem P1 {k:K}(h:Bx K→G:=by intro K9;refine' zn;refine' PS;exact K9.o):G:=h ⟨k⟩
theorem OM {k:K}(h:Bx K→G:=by intro K9;refine' zm;refine' LG;exact K9.o):G:=h ⟨k⟩
theorem P2 {k:K}(h:Bx K→G:=by intro K9;refine Qm ?_;refine' Kn;exact K9.o):G:=h ⟨k⟩
theorem P3 {k:K}(h:Bx K→G:=by intro K9;refine' MU;refine Qm ?_;exact K9.o):G:=h ⟨k⟩
theorem Pn {k:K}(h:Bx K→G:=by intro K9;refine' LV;refine' KM;exact K9.o):G:=h ⟨k⟩
theorem Po {k:K}(h:Bx K→G:=by intro K9;refine' Lw;refine' Md;exact K9.o):G:=h ⟨k⟩
theorem Rl {k:K}(h:Bx K→G:=by intro K9;refine' i6;refine zl Z ?_;exact K9.o):G:=h ⟨k⟩
theorem nI {k:K}(h:Bx K→G:=by intro K9;refine' Ku;refine N8 Z ?_;exact K9.o):G:=h ⟨k⟩
theorem nJ {k:K}(h:Bx K→G:=by intro K9;refine' Lw;refine' UT;exact K9.o):G:=h ⟨k⟩
theorem P4 {k:K}(h:Bx K→G:=by intro K9;refine' i5;refine' TD;exact K9.o):G:=h ⟨k⟩
theorem P5 {k:K}(h:Bx K→G:=by intro K9;refine' Kg;refine' ND;exact K9.o):G:=h ⟨k⟩
theorem P6 {k:K}(h:Bx K→G:=by intro K9;refine' Lp;refine' LG;exact K9.o):G:=h ⟨k⟩
theorem RK {k:K}(h:Bx K→G:=by intro K9;refine' KX;refine zv Z ?_;exact K9.o):G:=h ⟨k⟩
theorem PH {k:K}(h:Bx K→G:=by intro K9;refine' zm;refine' S1;exact K9.o):G:=h ⟨k⟩
theorem i7 {k:K}(h:Bx K→G:=by intro K9;refine' Ou;refine' O2;exact K9.o):G:=h ⟨k⟩
theorem Rm {k:K}(h:Bx K→G:=by intro K9;refine' KX;refine' LF;exact K9.o):G:=h ⟨k⟩
theorem N1 {k:K}(h:Bx K→G:=by intro K9;refine' Pj;refine' Ot;exact K9.o):G:=h ⟨k⟩
theorem RL {k:K}(h:Bx K→G:=by intro K9;refine' LH;refine' ML;exact K9.o):G:=h ⟨k⟩
theorem RM {k:K}(h:Bx K→G:=by intro K9;refine' LH;refine' MD;exact K9.o):G:=h ⟨k⟩
theorem i9 {k:K}(h:Bx K→G:=by intro K9;refine' Mi;refine' Kn;exact K9.o):G:=h ⟨k⟩
theorem RN {k:K}(h:Bx K→G:=by intro K9;refine' Lp;refine' Me;exact K9.o):G:=h ⟨k⟩
theorem dT {k:K}(h:Bx K→G:=by intro K9;refine' Lw;refine' zm;exact K9.o):G:=h ⟨k⟩
theorem RO {k:K}(h:Bx K→G:=by intro K9;refine' Kj;refine' OZ;exact K9.o):G:=h ⟨k⟩
theorem S2 {k:K}(h:Bx K→G:=by intro K9;refine' Lm;refine' KJ;exact K9.o):G:=h ⟨k⟩
theorem S3 {k:K}(h:Bx K→G:=by intro K9;refine zv Z ?_;refine' Ku;exact K9.o):G:=h ⟨k⟩
theorem RP {k:K}(h:Bx K→G:=by intro K9;refine' zn;refine' MM;exact K9.o):G:=h ⟨k⟩
theorem kv {k:K}(h:Bx K→G:=by intro K9;refine' L5;refine' RI;exact K9.o):G:=h ⟨k⟩
theorem Sg {k:K}(h:Bx K→G:=by intro K9;refine' Y2;refine' nJ;exact K9.o):G:=h ⟨k⟩
theorem kx {k:K}(h:Bx K→G:=by intro K9;refine' UP;refine' N9;exact K9.o):G:=h ⟨k⟩
theorem Sh {k:K}(h:Bx K→G:=by intro K9;refine' Kg;refine' NN;exact K9.o):G:=h ⟨k⟩
theorem TH {k:K}(h:Bx K→G:=by intro K9;refine' Mi;refine Qm ?_;exact K9.o):G:=h ⟨k⟩
theorem TJ {k:K}(h:Bx K→G:=by intro K9;refine' Kg;refine zv Z ?_;exact K9.o):G:=h ⟨k⟩
theorem vW {k:K}(h:Bx K→G:=by intro K9;refine' zL;refine' TD;exact K9.o):G:=h ⟨k⟩
theorem S4 {k:K}(h:Bx K→G:=by intro K9;refine' RH;refine' vW;exact K9.o):G:=h ⟨k⟩
theorem S5 {k:K}(h:Bx K→G:=by intro K9;refine' Md;refine' XO;exact K9.o):G:=h ⟨k⟩
theorem S6 {k:K}(h:Bx K→G:=by intro K9;refine' Mm;refine' Y5;exact K9.o):G:=h ⟨k⟩
theorem S7 {k:K}(h:Bx K→G:=by intro K9;refine' LY;refine' vV;exact K9.o):G:=h ⟨k⟩
theorem S8 {k:K}(h:Bx K→G:=by intro K9;refine' LV;refine' Rj;exact K9.o):G:=h ⟨k⟩
theorem UW {k:K}(h:Bx K→G:=by intro K9;refine' SW;refine' Kv;exact K9.o):G:=h ⟨k⟩
theorem S9 {k:K}(h:Bx K→G:=by intro K9;refine' zn;refine' O1;exact K9.o):G:=h ⟨k⟩
theorem Ta {k:K}(h:Bx K→G:=by intro K9;refine' L5;refine' zL;exact K9.o):G:=h ⟨k⟩
theorem Tb {k:K}(h:Bx K→G:=by intro K9;refine' zn;refine' OH;exact K9.o):G:=h ⟨k⟩
theorem TK {k:K}(h:Bx K→G:=by intro K9;refine' Y3;refine' XP;exact K9.o):G:=h ⟨k⟩
theorem TM {k:K}(h:Bx K→G:=by intro K9;refine' NN;refine' K8;exact K9.o):G:=h ⟨k⟩
theorem TO {k:K}(h:Bx K→G:=by intro K9;refine' NS;refine' NS;exact K9.o):G:=h ⟨k⟩
theorem TP {k:K}(h:Bx K→G:=by intro K9;refine' nI;refine' UU;exact K9.o):G:=h ⟨k⟩
theorem ja {k:K}(h:Bx K→G:=by intro K9;refine' LF;refine TQ Z rfl fd rfl ?_;exact K9.o):G:=h ⟨k⟩
theorem TS {k:K}(h:Bx K→G:=by intro K9;refine' NS;refine' Ot;exact K9.o):G:=h ⟨k⟩
theorem XQ {k:K}(h:Bx K→G:=by intro K9;refine' MT;refine Lv Z ?_;exact K9.o):G:=h ⟨k⟩
theorem UX {k:K}(h:Bx K→G:=by intro K9;refine' Kv;refine' Mn;exact K9.o):G:=h ⟨k⟩
theorem UY {k:K}(h:Bx K→G:=by intro K9;refine' Ni;refine' RJ;exact K9.o):G:=h ⟨k⟩
theorem UZ {k:K}(h:Bx K→G:=by intro K9;refine' Se;refine' KM;exact K9.o):G:=h ⟨k⟩
theorem U0 {k:K}(h:Bx K→G:=by intro K9;refine' Sf;refine' i7;exact K9.o):G:=h ⟨k⟩
theorem U1 {k:K}(h:Bx K→G:=by intro K9;refine' OI;refine' Nc;exact K9.o):G:=h ⟨k⟩
theorem U2 {k:K}(h:Bx K→G:=by intro K9;refine' NT;refine' Pj;exact K9.o):G:=h ⟨k⟩
theorem U3 {k:K}(h:Bx K→G:=by intro K9;refine' zn;refine' NH;exact K9.o):G:=h ⟨k⟩
theorem Y6 {k:K}(h:Bx K→G:=by intro K9;refine' L6;refine zv Z ?_;exact K9.o):G:=h ⟨k⟩
theorem XR {k:K}(h:Bx K→G:=by intro K9;refine' Mi;refine' kv;exact K9.o):G:=h ⟨k⟩
theorem XS {k:K}(h:Bx K→G:=by intro K9;refine' Md;refine' bK;exact K9.o):G:=h ⟨k⟩
theorem XT {k:K}(h:Bx K→G:=by intro K9;refine' KX;refine' LW;exact K9.o):G:=h ⟨k⟩
theorem XU {k:K}(h:Bx K→G:=by intro K9;refine' N9;refine' Y1;exact K9.o):G:=h ⟨k⟩
theorem XV {k:K}(h:Bx K→G:=by intro K9;refine' Lp;refine' Sd;exact K9.o):G:=h ⟨k⟩
theorem XW {k:K}(h:Bx K→G:=by intro K9;refine' dT;refine' kx;exact K9.o):G:=h ⟨k⟩
theorem bL {k:K}(h:Bx K→G:=by intro K9;refine' Lm;refine zl Z ?_;exact K9.o):G:=h ⟨k⟩
theorem Y7 {k:K}(h:Bx K→G:=by intro K9;refine' TA;refine' zm;exact K9.o):G:=h ⟨k⟩
theorem XX {k:K}(h:Bx K→G:=by intro K9;refine' i9;refine' zi;exact K9.o):G:=h ⟨k⟩
theorem bM {k:K}(h:Bx K→G:=by intro K9;refine' LF;refine Lv Z ?_;exact K9.o):G:=h ⟨k⟩
theorem XY {k:K}(h:Bx K→G:=by intro K9;refine' zm;refine' MJ;exact K9.o):G:=h ⟨k⟩
theorem XZ {k:K}(h:Bx K→G:=by intro K9;refine' zn;refine' KW;exact K9.o):G:=h ⟨k⟩
theorem X0 {k:K}(h:Bx K→G:=by intro K9;refine' zm;refine' Kv;exact K9.o):G:=h ⟨k⟩
theorem bN {k:K}(h:Bx K→G:=by intro K9;refine' NN;refine YY Z ?_;exact K9.o):G:=h ⟨k⟩
theorem dU {k:K}(h:Bx K→G:=by intro K9;refine' dN;refine' QY;exact K9.o):G:=h ⟨k⟩
theorem bO {k:K}(h:Bx K→G:=by intro K9;refine' K7;refine' QY;exact K9.o):G:=h ⟨k⟩
end
end
section
@[reducible] def vi (n:Int):Value:= .int .i64 n
@[reducible] def vn:Value:= .slice none 0 0
end
section
inductive TyD where
 | p|b|f|i (k:IntKind)|s|l (e:Nat)|a (n e z:Nat)|t (z:Nat) (fs:List (Nat×Nat))|x
abbrev Tr:=Nat→TyD
def TyD.sz:TyD→Nat
 | .a _ _ z=>z
 | .t z _=>z
 | _=>1
mutual
def dV (D:Tr):Nat→TyD→List Value
 | 0,_=>[]
 | _+1, .p=>[.pointer none]
 | _+1, .b=>[.bool false]
 | _+1, .f=>[.nilFunc]
 | _+1, .i k=>[.int k 0]
 | _+1, .s=>[.string ⟨#[]⟩]
 | _+1, .l _=>[.slice none 0 0]
 | _+1, .x=>[.nilIface]
 | n+1, .t _ fs=>ky D n fs
 | n+1, .a m e _=>(List.replicate m (dV D n (D e))).flatten
def ky (D:Tr):Nat→List (Nat×Nat)→List Value
 | 0,_=>[]
 | _+1,[]=>[]
 | n+1,f::fs=>dV D n (D f.2)++ky D n fs
end
def dW (D:Tr)(T:Nat):List Value:=dV D 60 (D T)
def Si (D:Tr):TyD→List (Nat×Operand)→List (Nat×Nat×Operand)
 | .t z fs,(i,x)::r=>(match fs[i]? with|some f=>(f.1,(D f.2).sz,x)|none=>(0,0,x))::Si D (.t z fs) r
 | .a n e z,(i,x)::r=>(i*(D e).sz,(D e).sz,x)::Si D (.a n e z) r
 | _,_=>[]
def ON:Oper→LO
 | ⟨d, o, T, _, _, _⟩ => .raw ⟨d, o, T, "", #[], none⟩
def kz (D:Tr)(f:Nat):TyD→Nat
 | .t _ fs=>match fs[f]? with|some p=>p.1|none=>0
 | _=>0
def qH (D:Tr)(f:Nat):TyD→TyD
 | .t _ fs=>match fs[f]? with|some p=>D p.2|none=> .p
 | _=> .p
def kA (d:Nat)(x:Operand):TyD→LO
 | .t z _=> .loadn d z x
 | .a _ _ z=> .loadn d z x
 | _=> .load1 d x
def dX (x v:Operand):TyD→LO
 | .t z _=> .storen z x v
 | .a _ _ z=> .storen z x v
 | _=> .store1 x v
def dY (d:Nat)(x:Operand)(off:Nat):TyD→LO
 | .t z _=> .fldn d x off z
 | .a _ _ z=> .fldn d x off z
 | _=> .fldv d x off
def kB (D:Tr)(o:Oper)(d:Nat):Op→LO
 | .move x=> .mov d x
 | .assign x=> .mov d x
 | .pick c x y=> .pick d c x y
 | .unOp op _ x=> .un d op x
 | .binOp op T x y _=> .bin d op T x y
 | .nilCheck x=> .nilc d x
 | .fieldAddr S x f=> .fld d x (kz D f (D S))
 | .load T x=>kA d x (D T)
 | .indexAddr T x i=>match D T with
   | .l e=> .idx d (D e).sz x i
   | .a n e _=> .idxa d n (D e).sz x i
   | _=>ON o
 | .index T x i=>match D T with
   | .s=> .sidx d x i
   | _=>ON o
 | .extract x i=> .ext d x i
 | .field S x f=>dY d x (kz D f (D S)) (qH D f (D S))
 | .alloc T=> .alloc d T (dW D T)
 | .box T x=> .box d T x
 | .build T ps=> .build d (dW D T) (Si D (D T) ps.toList)
 | .buildSlice T n ps=>match D T with
   | .l e=>if 0<n then .buildS d e n ((List.replicate n (dW D e)).flatten) (Si D (.a n e 0) ps.toList) else ON o
   | _=>ON o
 | .makeFunc (.func f) _ caps=> .mkfn d f caps.toList
 | .call ⟨.value (.func f),xs,_⟩=> .call (some d) f xs.toList
 | .call ⟨.value (.tmp f),xs,_⟩=> .callv (some d) (.tmp f) xs.toList
 | .slice T x lo hi mx=>match D T with
   | .l e=> .sub d (D e).sz x lo hi mx
   | .s=> .ssub d x lo hi
   | _=>ON o
 | .convert S T x=>match D S,D T with
   | .i _, .i k=> .conv d k x
   | _,_=>ON o
 | .makeInterface T x=>match D T with
   | .x=>ON o
   | _=> .mki d T x
 | .call ⟨.builtin .min,⟨[x,y]⟩,_⟩=> .mnx d false x y
 | .call ⟨.builtin .max,⟨[x,y]⟩,_⟩=> .mnx d true x y
 | .call ⟨.builtin .len,⟨[x]⟩,⟨[T]⟩⟩=>match D T with
   | .s=> .slen d x
   | .l _=> .len d x
   | _=>ON o
 | _=>ON o
def kC (D:Tr)(o:Oper):Op→LO
 | .store T x v=>dX x v (D T)
 | .call ⟨.value (.func f),xs,_⟩=> .call none f xs.toList
 | .call ⟨.value (.tmp f),xs,_⟩=> .callv none (.tmp f) xs.toList
 | _=>ON o
def qI (D:Tr)(o:Oper):Option Nat→LO
 | none=>kC D o o.op
 | some d=>kB D o d o.op
def qJ (ops:Array Oper):Option (Nat×Bool)→Option (Nat×Bool)
 | none=>none
 | some (j,b)=>match ops[j]? with
   | some o=>match o.dst with
     | some s=>some (s,b)
     | none=>none
   | none=>none
def kD (D:Tr)(ops:Array Oper):List Oper→List GO
 | []=>[]
 | o::r=>⟨qJ ops o.guard,qI D o o.dst⟩::kD D ops r
def OO (D:Tr):Code→LC
 | .skip=> .skip
 | .region _ ops false=> .ops (kD D ops ops.toList)
 | .region _ ops true=> .draw (kD D ops ops.toList) (Ya ops)
 | .seq a b=> .seq (OO D a) (OO D b)
 | .cond c a b=> .cond c (OO D a) (OO D b)
 | .block id a=> .block id (OO D a)
 | .loop a=> .loop (OO D a)
 | .exit id=> .exit id
 | .ret=> .ret
 | _=> .bad
def qK (D:Tr):Option Code→LC
 | some c=>OO D c
 | none=> .bad
def U4 (D:Tr):Code→LD
 | .seq a b=>bif iT a||iT b then .seq (U4 D a) (U4 D b) else .pl (OO D (.seq a b))
 | .region id ops false=>match iU ops.toList with
   | some (l1,_,s,l2)=> .sp (kD D ops l1) s (kD D ops l2)
   | none=> .pl (OO D (.region id ops false))
 | c=> .pl (OO D c)
def bP (D:Tr):Option Code→LD
 | some c=>U4 D c
 | none=> .pl .bad
section
variable {P:Program}{f:FuncId}{fn:Func}{args:List Value}{w:World}{rs:List ResultVar}(D:Tr)
theorem Kl {lc:LC}(hf:P.funcs[f]?=some fn)(h:lc.wp P (KN P rs R) (Yb args) w)(e:qK D fn.body=lc:=by set_option maxRecDepth 100000 in (conv=>lhs;cbv))(hl:cS P fn=some lc:=by kernel_rfl)(hrs:fn.results.toList=rs:=by set_option maxRecDepth 100000 in (conv=>lhs;cbv))(hn:Nat.ble args.length fn.ntmps=true:=by kernel_rfl):Calls P f ⟨args⟩ w R:=QdM hf hl hrs hn h
theorem qL (hf:P.funcs[f]?=some fn)(h:ld.wpD P (UJ P rs R) [] (Yb args) w)(e:bP D fn.body=ld:=by set_option maxRecDepth 100000 in (conv=>lhs;cbv))(hl:iV P fn=some ld:=by kernel_rfl)(hrs:fn.results.toList=rs:=by set_option maxRecDepth 100000 in (conv=>lhs;cbv))(hn:Nat.ble args.length fn.ntmps=true:=by kernel_rfl):Calls P f ⟨args⟩ w R:=Qck hf hl hrs hn h
theorem dZ {R:Ending→FrameMode→World→Prop}{u:FrameMode}(hf:P.funcs[f]?=some fn)(h:ld.wpR P (dJ P rs R) u (Yb args) w)(e:bP D fn.body=ld:=by set_option maxRecDepth 100000 in (conv=>lhs;cbv))(hl:iV P fn=some ld:=by kernel_rfl)(hrs:fn.results.toList=rs:=by set_option maxRecDepth 100000 in (conv=>lhs;cbv))(hn:Nat.ble args.length fn.ntmps=true:=by kernel_rfl):CallsD P f ⟨args⟩ u w R:=Qaz hf hl hrs hn h
end
end
end Go.Lir
namespace Go.Proofs.YteflkifmgnpbhaaGreat
open Go.Lir
section
def qM (i:Nat):TyD:=if i<7 then if i<2 then if i<1 then .p else .f else if i<4 then .i .i64 else if i<5 then .b else .i .u8 else if i<12 then if i<9 then .t 4 [(0,2),(1,3),(2,4),(3,6)] else .s else if i<13 then .i .u64 else if i<15 then .t 2 [(0,9),(1,12)] else .p
def qN (i:Nat):TyD:=if i<25 then if i<21 then if i<20 then .t 1 [(0,17)] else .x else if i<22 then .i .i32 else if i<23 then .l 95 else .t 1 [(0,22)] else if i<28 then if i<26 then .l 2 else .f else if i<30 then .t 2 [(0,3),(1,3)] else if i<32 then .f else .t 4 [(0,3),(1,25),(2,25),(3,3)]
def qO (i:Nat):TyD:=if i<43 then if i<39 then if i<35 then .p else .f else if i<41 then .p else if i<42 then .f else .p else if i<45 then if i<44 then .f else .l 131 else if i<47 then .t 2 [(0,44),(1,3)] else if i<48 then .l 119 else .t 13 [(0,24),(1,46),(3,47),(4,25),(5,33),(9,3),(10,4),(11,29)]
def qP (i:Nat):TyD:=if i<59 then if i<53 then if i<52 then .f else .p else if i<54 then .l 110 else if i<56 then .t 12 [(0,52),(1,24),(2,53),(3,25),(4,33),(8,3),(9,4),(10,29)] else .f else if i<63 then if i<61 then .p else .f else if i<64 then .p else if i<65 then .l 138 else .t 10 [(0,63),(1,24),(2,64),(3,25),(4,33),(8,3),(9,4)]
def qQ (i:Nat):TyD:=if i<74 then if i<69 then if i<68 then .p else .l 3 else if i<71 then .t 3 [(0,4),(1,68),(2,3)] else if i<72 then .a 16 70 48 else .t 49 [(0,67),(1,71)] else if i<76 then if i<75 then .p else .f else if i<78 then .p else if i<79 then .f else .t 4 [(0,39),(1,59),(2,29)]
def qR (i:Nat):TyD:=if i<89 then if i<85 then if i<83 then .f else .t 8 [(0,3),(1,3),(2,3),(3,3),(4,3),(5,2),(6,68),(7,68)] else if i<86 then .l 84 else if i<87 then .l 115 else .t 3 [(0,3),(1,68),(2,68)] else if i<93 then if i<91 then .t 9 [(0,3),(1,3),(2,88),(5,88),(8,68)] else .t 12 [(0,3),(1,86),(2,85),(3,90)] else if i<94 then .l 92 else if i<96 then .t 4 [(0,3),(1,86),(2,86),(3,93)] else .f
def qS (i:Nat):TyD:=if i<114 then if i<108 then if i<98 then .p else .f else if i<109 then .l 224 else if i<111 then .t 5 [(0,3),(1,3),(2,3),(3,108),(4,68)] else .f else if i<117 then if i<116 then .t 3 [(0,3),(1,3),(2,86)] else .f else if i<118 then .l 182 else if i<120 then .t 5 [(0,3),(1,3),(2,3),(3,117),(4,68)] else .t 0 []
def qT (i:Nat):TyD:=if i<128 then if i<124 then if i<123 then .i .i64 else .p else if i<125 then .f else if i<126 then .l 267 else .t 3 [(0,125),(1,3),(2,3)] else if i<130 then if i<129 then .p else .l 278 else if i<132 then .t 4 [(0,4),(1,129),(2,3),(3,3)] else if i<135 then .f else .p
def qU (i:Nat):TyD:=if i<142 then if i<139 then if i<137 then .f else .t 4 [(0,3),(1,3),(2,3),(3,25)] else if i<140 then .i .i64 else if i<141 then .b else .f else if i<146 then if i<143 then .p else .f else if i<147 then .l 4 else if i<149 then .t 3 [(0,25),(1,68),(2,146)] else .f
def qV (i:Nat):TyD:=if i<161 then if i<157 then if i<156 then .p else .f else if i<159 then .t 7 [(0,24),(1,95),(5,155),(6,86)] else if i<160 then .f else .p else if i<164 then if i<162 then .f else .t 1 [(0,146)] else if i<171 then .f else if i<172 then .p else .t 4 [(0,24),(1,29),(3,3)]
def qW (i:Nat):TyD:=if i<184 then if i<179 then if i<178 then .f else .p else if i<181 then .f else if i<183 then .t 4 [(0,3),(1,3),(2,3),(3,2)] else .b else if i<186 then if i<185 then .f else .b else if i<187 then .f else if i<188 then .b else .f
def qX (i:Nat):TyD:=if i<198 then if i<191 then if i<190 then .b else .f else if i<192 then .b else if i<197 then .f else .p else if i<209 then if i<207 then .f else .p else if i<210 then .f else if i<212 then .t 7 [(0,4),(1,4),(2,4),(3,4),(4,4),(5,4),(6,4)] else .b
def qY (i:Nat):TyD:=if i<226 then if i<217 then if i<216 then .f else .b else if i<224 then .f else if i<225 then .t 4 [(0,3),(1,3),(2,3),(3,2)] else .f else if i<232 then if i<227 then .b else .f else if i<233 then .p else if i<238 then .f else .p
def qZ (i:Nat):TyD:=if i<257 then if i<244 then if i<243 then .f else .p else if i<255 then .f else if i<256 then .i .u64 else .p else if i<265 then if i<259 then .t 7 [(0,256),(1,24),(2,95),(6,86)] else .f else if i<266 then .l 272 else if i<268 then .t 4 [(0,4),(1,265),(2,3),(3,3)] else .p
def q8 (i:Nat):TyD:=if i<279 then if i<273 then if i<271 then .f else .t 2 [(0,4),(1,108)] else if i<274 then .p else if i<277 then .f else .t 2 [(0,4),(1,117)] else if i<283 then if i<280 then .p else .f else if i<284 then .i .i64 else if i<285 then .p else .f
def q9 (i:Nat):TyD:=if i<295 then if i<292 then if i<290 then .b else .f else if i<293 then .i .u32 else if i<294 then .f else .i .u64 else if i<298 then if i<297 then .t 1 [(0,146)] else .i .i64 else if i<299 then .b else if i<304 then .f else .a 15 9 15
def ra (i:Nat):TyD:=if i<311 then if i<307 then if i<306 then .f else .l 5 else if i<308 then .f else if i<310 then .p else .i .u64 else if i<315 then if i<314 then .f else .p else if i<317 then .f else if i<318 then .p else .f
def rb (i:Nat):TyD:=if i<327 then if i<323 then if i<322 then .t 4 [(0,17),(1,17),(2,17),(3,9)] else .a 0 16 0 else if i<325 then .t 0 [(0,322)] else .i .u8 else if i<329 then if i<328 then .f else .p else if i<331 then .i .i32 else if i<333 then .t 11 [(0,12),(1,12),(2,292),(3,325),(4,5),(5,5),(6,326),(7,327),(8,328),(9,329),(10,330)] else .p
def Kh (i:Nat):TyD:=if i<155 then if i<67 then if i<34 then if i<18 then qM i else qN i else if i<50 then qO i else qP i else if i<97 then if i<81 then qQ i else qR i else if i<122 then qS i else if i<136 then qT i else qU i else if i<239 then if i<189 then if i<174 then qV i else qW i else if i<213 then qX i else qY i else if i<289 then if i<269 then qZ i else q8 i else if i<305 then q9 i else if i<320 then ra i else rb i
end
section

@[reducible] def vX:FuncId:=11
@[reducible] def U5:FuncId:=14
@[reducible] def Qe1:FuncId:=15
@[reducible] def QhA:FuncId:=16
@[reducible] def vY:FuncId:=18
@[reducible] def QjE:FuncId:=20
@[reducible] def Qfq:FuncId:=21
@[reducible] def U6:FuncId:=22
@[reducible] def vZ:FuncId:=23
@[reducible] def wa:FuncId:=24
@[reducible] def Q72:FuncId:=25
@[reducible] def Q9N:FuncId:=26
@[reducible] def Qat:FuncId:=27
@[reducible] def Qcr:FuncId:=28
@[reducible] def Q5g:FuncId:=29
@[reducible] def Qcs:FuncId:=31
@[reducible] def ea:FuncId:=34
@[reducible] def Y8:FuncId:=35
@[reducible] def Q8B:FuncId:=36
@[reducible] def wb:FuncId:=37
@[reducible] def Q6k:FuncId:=38
@[reducible] def wc:FuncId:=39
@[reducible] def Q6v:FuncId:=40
@[reducible] def QcC:FuncId:=44
@[reducible] def Qcv:FuncId:=45
@[reducible] def U7:FuncId:=46
@[reducible] def Qai:FuncId:=47
@[reducible] def we:FuncId:=48
@[reducible] def QhW:FuncId:=49
@[reducible] def wg:FuncId:=50
@[reducible] def Qkr:FuncId:=51
@[reducible] def R_F:FuncId:=52
@[reducible] def Qkm:FuncId:=53
@[reducible] def Qfk:FuncId:=54
@[reducible] def Y9:FuncId:=55
@[reducible] def Qfl:FuncId:=56
@[reducible] def Za:FuncId:=57
@[reducible] def QdU:FuncId:=58
@[reducible] def wh:FuncId:=59
@[reducible] def Qhs:FuncId:=62
@[reducible] def U8:FuncId:=63
@[reducible] def U9:FuncId:=64
@[reducible] def wi:FuncId:=65
@[reducible] def Va:FuncId:=66
@[reducible] def Qhz:FuncId:=67
@[reducible] def QdV:FuncId:=68
@[reducible] def Q6t:FuncId:=69
@[reducible] def re:FuncId:=70
@[reducible] def Q7S:FuncId:=71
@[reducible] def wj:FuncId:=72
@[reducible] def Qfn:FuncId:=73
@[reducible] def Qfo:FuncId:=74
@[reducible] def wm:FuncId:=75
@[reducible] def wq:FuncId:=76
@[reducible] def Qfj:FuncId:=78
@[reducible] def Qhk:FuncId:=79
@[reducible] def wu:FuncId:=80
@[reducible] def wv:FuncId:=81
@[reducible] def Q9i:FuncId:=82
@[reducible] def Q9k:FuncId:=83
@[reducible] def jb:FuncId:=84
@[reducible] def Q5N:FuncId:=89
@[reducible] def QcB:FuncId:=91
@[reducible] def Q47:FuncId:=92
@[reducible] def QhB:FuncId:=93
@[reducible] def Qkn:FuncId:=94
@[reducible] def Qct:FuncId:=95
@[reducible] def Qko:FuncId:=96
@[reducible] def QhC:FuncId:=97
@[reducible] def Qe3:FuncId:=98
@[reducible] def Qe4:FuncId:=99
@[reducible] def wx:FuncId:=100
@[reducible] def Qfm:FuncId:=101
@[reducible] def wy:FuncId:=102
@[reducible] def Qa6:FuncId:=103
@[reducible] def Qfb:FuncId:=104
@[reducible] def Qa5:FuncId:=105
@[reducible] def Q2q:FuncId:=106
@[reducible] def rf:FuncId:=107
@[reducible] def Q8G:FuncId:=108
@[reducible] def wA:FuncId:=109
@[reducible] def Qhp:FuncId:=110
@[reducible] def Q5O:FuncId:=111
@[reducible] def Qfi:FuncId:=112
@[reducible] def Qkp:FuncId:=113
@[reducible] def Q7Q:FuncId:=114
@[reducible] def Qhq:FuncId:=115
@[reducible] def Qhr:FuncId:=116
@[reducible] def wB:FuncId:=117
@[reducible] def Q7U:FuncId:=118
@[reducible] def Q7V:FuncId:=119
@[reducible] def wC:FuncId:=120
@[reducible] def nK:FuncId:=121
@[reducible] def Vb:FuncId:=122
@[reducible] def Qcq:FuncId:=123
@[reducible] def wD:FuncId:=124
@[reducible] def rh:FuncId:=125
@[reducible] def QaF:FuncId:=126
@[reducible] def QhD:FuncId:=127
@[reducible] def wE:FuncId:=128
@[reducible] def ri:FuncId:=132
@[reducible] def Q9j:FuncId:=133
@[reducible] def wF:FuncId:=134
@[reducible] def Q9h:FuncId:=135
@[reducible] def Q7b:FuncId:=136
@[reducible] def Q7a:FuncId:=137
@[reducible] def Q7v:FuncId:=138
@[reducible] def Q8z:FuncId:=139
@[reducible] def rj:FuncId:=140
@[reducible] def Q7w:FuncId:=141
@[reducible] def Qal:FuncId:=142
@[reducible] def Q8A:FuncId:=143
@[reducible] def QhE:FuncId:=150
@[reducible] def Zb:FuncId:=151
@[reducible] def Vc:FuncId:=152
@[reducible] def wG:FuncId:=153
@[reducible] def rk:FuncId:=154
@[reducible] def Qkl:FuncId:=155
@[reducible] def Vd:FuncId:=156
@[reducible] def wH:FuncId:=157
@[reducible] def Qhy:FuncId:=158
@[reducible] def Qef:FuncId:=159
@[reducible] def Q2E:FuncId:=160
@[reducible] def QdL:FuncId:=161
@[reducible] def Q1A:FuncId:=162
@[reducible] def QgJ:FuncId:=163
@[reducible] def Qav:FuncId:=164
@[reducible] def Qaw:FuncId:=165
@[reducible] def wI:FuncId:=166
@[reducible] def Qfh:FuncId:=167
@[reducible] def Q7R:FuncId:=168
@[reducible] def Qdw:FuncId:=169
@[reducible] def Q7T:FuncId:=170
@[reducible] def Qas:FuncId:=171
@[reducible] def wJ:FuncId:=172
@[reducible] def Qar:FuncId:=173
@[reducible] def Q7P:FuncId:=174
@[reducible] def Q70:FuncId:=175
@[reducible] def Q9M:FuncId:=176
@[reducible] def Q6X:FuncId:=177
@[reducible] def Qc1:FuncId:=178
@[reducible] def QbZ:FuncId:=179
@[reducible] def Q6u:FuncId:=180
@[reducible] def Q6Z:FuncId:=181
@[reducible] def Qc0:FuncId:=182
@[reducible] def Q71:FuncId:=183
@[reducible] def Q8F:FuncId:=184
@[reducible] def rl:FuncId:=185
@[reducible] def Qcp:FuncId:=186
@[reducible] def Qfp:FuncId:=187
@[reducible] def QaE:FuncId:=188
@[reducible] def Q86:FuncId:=189
@[reducible] def Qe0:FuncId:=190
@[reducible] def QdX:FuncId:=191
@[reducible] def Qcu:FuncId:=192
@[reducible] def QdZ:FuncId:=193
@[reducible] def QdQ:FuncId:=194
@[reducible] def Qff:FuncId:=195
@[reducible] def Q80:FuncId:=196
@[reducible] def rm:FuncId:=197
@[reducible] def Q9l:FuncId:=198
@[reducible] def rp:FuncId:=199
@[reducible] def Q32:FuncId:=203
@[reducible] def Ve:FuncId:=204
@[reducible] def Vf:FuncId:=208
@[reducible] def QgI:FuncId:=211
@[reducible] def Qee:FuncId:=212
@[reducible] def Vg:FuncId:=213
@[reducible] def Qk5:FuncId:=214
@[reducible] def Qch:FuncId:=215
@[reducible] def QbY:FuncId:=216
@[reducible] def QbX:FuncId:=217
@[reducible] def Q31:FuncId:=218
@[reducible] def Qdz:FuncId:=219
@[reducible] def Q9O:FuncId:=220
@[reducible] def Q6Y:FuncId:=221
@[reducible] def QdW:FuncId:=222
@[reducible] def QdY:FuncId:=223
@[reducible] def QaD:FuncId:=224
@[reducible] def Q81:FuncId:=225
@[reducible] def Q3Z:FuncId:=252
@[reducible] def Qaq:FuncId:=253
@[reducible] def rq:FuncId:=254
@[reducible] def Q4m:FuncId:=262
@[reducible] def QcH:FuncId:=263
@[reducible] def Q4M:FuncId:=265
end
end Go.Proofs.YteflkifmgnpbhaaGreat


namespace Go.Proofs.YteflkifmgnpbhaaGreat
open Go.Lir
theorem rr:M6 Tryz.prog 68=some (3,1,8,[.int .i64 0]):=by kernel_rfl
theorem wK:M6 Tryz.prog 146=some (4,1,1,[.bool false]):=by kernel_rfl
theorem ru:M6 Tryz.prog 25=some (2,1,8,[.int .i64 0]):=by kernel_rfl
theorem ry:∃e2,Tryz.prog.underlying 68=some (.slice e2):=⟨3,by kernel_rfl⟩
end Go.Proofs.YteflkifmgnpbhaaGreat
namespace Go.Proofs.YteflkifmgnpbhaaGreat
open Go.Lir
attribute [local irreducible] LC.wp Q0 Qp Qk KN Qw LO.wp Q6 Calls


def M4 (n:Nat)(fr:List Int):List Bool:=(List.range n).map fun (j:Nat)=> !decide ((j:Int)∈fr)
theorem XN (n:Nat)(fr:List Int):(M4 n fr).length=n:=by simp [M4]
theorem kE {n:Nat}{fr:List Int}(h:j<n):(M4 n fr).getD j false= !decide ((j:Int)∈fr):=by
 simp [M4,EL,EZ,G5 h]
theorem rz {n:Nat}{fr:List Int}{l:List Bool}(hl:l.length=n)(h:∀j<n,l.getD j false= !decide ((j:Int)∈fr)):l=M4 n fr:=
 uD false (by rw [hl,XN]) fun j hj=>by rw [h j V,kE V]
theorem QhZ {n:Nat}{fr:List Int}{k:Nat}(hk:k<n):(M4 n fr).set k false=M4 n (fr++[(k:Int)]):=by
 refine rz (by rw [Fh,XN]) fun j hj=>?_;rw [j2 DM];by_cases h:k=j
 · subst h;simp
 · rw [Qin h,kE hj];have:(j:Int)≠k:=CP;simp [this]
theorem QhY {n:Nat}{fr:List Int}{k:Nat}(hk:k<n)(hn:(k:Int)∉fr):(M4 n (fr++[(k:Int)])).set k true=M4 n fr:=by
 refine rz (by rw [Fh,XN]) fun j hj=>?_;rw [j2 DM];by_cases h:k=j
 · subst h;simp [hn]
 · rw [Qin h,kE hj];have:(j:Int)≠k:=CP;simp [this]
def Pp (n i:Nat):List Int:=(List.range i).map fun j=>((n - 1 - j:Nat):Int)
theorem Qf6 {n i:Nat}:Pp n (i+1)=Pp n i++[((n - 1 - i:Nat):Int)]:=by
 simp [Pp,Hs]
theorem nL (n i:Nat):(Pp n i).length=i:=by simp [Pp]
theorem jc {n i:Nat}(hi:i≤n):x∈Pp n i↔(n:Int) - i≤x∧x<n:=by
 simp only [Pp,Fq,Fx];constructor
 · rintro ⟨j,hj,rfl⟩;omega
 · rintro ⟨I,M⟩;exact ⟨n - 1 - x.toNat,V,V⟩
theorem wL {n i:Nat}(hi:i≤n):(Pp n i).Nodup:=by
 unfold Pp List.Nodup;rw [J3];refine (List.pairwise_lt_range (n:=i)).imp_of_mem ?_;intro a b ha hb h e;simp only [Fx] at ha hb;omega

def Sj (ws:List Int)(k:Nat):List Int:=ws.take (k*16)++(List.replicate 16 0++ws.drop (k*16+16))
theorem Qfc {k:Nat}:(Sj ws k).map Qq=(ws.map Qq).take (k*16)++(List.replicate ((k+1)*16 - k*16) (Qq 0)++(ws.map Qq).drop ((k+1)*16)):=by
 rw [show (k+1)*16 - k*16=16 by omega,show (k+1)*16=k*16+16 by omega];simp [Sj,List.map_take,List.map_drop]
theorem wM {k n:Nat}(h:ws.length=n*16)(hk:k<n):(Sj ws k).length=n*16:=by
 simp [Sj];omega

structure PoolOk (n:Nat) (ws fr:List Int):Prop where
 len:ws.length=n*16
 nd:fr.Nodup
 rng:∀x∈fr,0≤x∧x<n
 le:n≤64
theorem PoolOk.frlen {n:Nat}{fr:List Int}(h:PoolOk n ws fr):fr.length≤n:=by
 have:=dg (b:=Pp n n) h.nd fun x hx=>(jc (E6 n)).2 (by have:=h.rng x hx;omega);rw [nL] at this;exact this
theorem PoolOk.store {n i:Nat}{fr:List Int}(h:PoolOk n ws fr):PoolOk n (ws.set i x) fr:=⟨by rw [Fh];exact h.len,h.nd,h.rng,h.le⟩
theorem PoolOk.take {n k:Nat}{fr:List Int}(h:PoolOk n ws (fr++[(k:Int)])):PoolOk n (Sj ws k) fr∧k<n∧(k:Int)∉fr:=by
 have hk:=h.rng k Js;obtain ⟨I,_,h3⟩:=GP.1 h.nd;exact ⟨⟨wM h.len V,I,fun x hx=>h.rng x Da,h.le⟩,V,fun hm=>h3 _ hm _ Js rfl⟩
theorem PoolOk.give {n k:Nat}{fr:List Int}(h:PoolOk n ws fr)(hk:k<n)(hn:(k:Int)∉fr):PoolOk n ws (fr++[(k:Int)]):=
 ⟨h.len,by rw [GP];exact ⟨h.nd,by simp,fun a ha b hb e=>by simp at hb;subst hb;subst e;exact hn ha⟩,fun x hx=>by
   rcases E8.1 hx with hx|hx
   · exact h.rng x hx
   · simp at hx;omega,h.le⟩
theorem wN {n:Nat}(h:n≤64):PoolOk n (List.replicate (n*16) 0) (Pp n n):=
 ⟨by simp,wL (E6 n),fun x hx=>by have:=(jc (E6 n)).1 hx;omega,h⟩


structure PoolR (H:KI) (p:Value) (F:Nat→Prop) (n:Nat) (ws fr:List Int) (b:Nat) (vw vl vt:Value) (Fw Fl Ft:Nat→Prop):Prop where
 hp:p= .pointer (some ⟨b,0,none⟩)
 blk:Ll H b 148 [vw,vl,vt]
 sw:Sl H 2 1 vw Fw (ws.map Qq)
 sl:Sl H 3 1 vl Fl (fr.map Qq)
 st:Sl H 4 1 vt Ft ((M4 n fr).map QH)
 nw:¬Fw b
 nl:¬Fl b
 nt:¬Ft b
 wl:∀x,Fw x→¬Fl x
 wt:∀x,Fw x→¬Ft x
 lt:∀x,Fl x→¬Ft x
 hF:∀x,F x↔x=b∨Fw x∨Fl x∨Ft x
 ok:PoolOk n ws fr
def K6 (H:KI)(p:Value)(F:Nat→Prop)(n:Nat)(ws fr:List Int):Prop:=∃b vw vl vt Fw Fl Ft,PoolR H p F n ws fr b vw vl vt Fw Fl Ft
theorem K6.fr {p:Value}{F G:Nat→Prop}{n:Nat}{ws fr:List Int}{w B:World}(h:K6 w.heap p F n ws fr)(hf:Fr G w B)(hn:∀b,F b→¬G b):K6 B.heap p F n ws fr:=by
 obtain ⟨b,vw,vl,vt,Fw,Fl,Ft,h⟩:=h
 exact ⟨b,vw,vl,vt,Fw,Fl,Ft,h.hp,h.blk.fr hf (hn b ((h.hF b).2 (.inl rfl))),h.sw.fr hf (fun x hx=>hn x ((h.hF x).2 (.inr (.inl hx)))),h.sl.fr hf (fun x hx=>hn x ((h.hF x).2 (.inr (.inr (.inl hx))))),
  h.st.fr hf (fun x hx=>hn x ((h.hF x).2 (.inr (.inr (.inr hx))))),h.nw,h.nl,h.nt,h.wl,h.wt,h.lt,h.hF,h.ok⟩
theorem K6.lt {p:Value}{n:Nat}{fr:List Int}{H:KI}(h:K6 H p F n ws fr):∀b,F b→b<H.size:=by
 obtain ⟨b,vw,vl,vt,Fw,Fl,Ft,h⟩:=h;intro x hx;rcases (h.hF x).1 hx with rfl|hx|hx|hx
 · exact h.blk.lt
 · exact h.sw.lt x hx
 · exact h.sl.lt x hx
 · exact h.st.lt x hx

theorem ec {p:Value}{n:Nat}{fr:List Int}(h:K6 w.heap p F n ws fr):Ka Tryz.prog wc [p] w fun v B=>v= .int .i64 fr.length∧B=w:=by
 obtain ⟨b,vw,vl,vt,Fw,Fl,Ft,rfl,hb,hw,hl,ht,nw,nl,nt,wl,wt,lt,hF,ok⟩:=h;refine Kl Kh Tryz.func39 ?_;refine' NO;(repeat (refine Q4 ?_));refine' Rm;refine OD rfl Ja Jr ?_;((refine XE CO hl ?_));refine' LK;(repeat (refine Q4 ?_));refine' NB;(repeat (refine' NC));refine' zf;((exact ⟨_,rfl,by rw [EM],rfl⟩))
theorem Qej {p:Value}{n:Nat}(h:K6 w.heap p F n ws []):Ka Tryz.prog rq [p] w fun v B=>v= .int .i64 (-1)∧B=w:=by
 obtain ⟨b,vw,vl,vt,Fw,Fl,Ft,rfl,hb,hw,hl,ht,nw,nl,nt,wl,wt,lt,hF,ok⟩:=h;refine Kl Kh Tryz.func254 ?_;refine' NO;(repeat (refine Q4 ?_));refine' Rm;refine OD rfl Ja Jr ?_;((refine XE CO hl ?_;rw [List.map_nil,Fc]));refine' NY;refine' LK;(repeat (refine Q4 ?_));refine' Lb;refine' iW;refine Lf ?_;(repeat (refine Q4 ?_));refine' Kf;refine' NO;(repeat (refine Q4 ?_));refine' NB;(repeat (refine' NC));refine' zf;((exact Ax))
theorem ee {p:Value}{n k:Nat}{fr:List Int}(h:K6 w.heap p F n ws (fr++[(k:Int)])):Ka Tryz.prog rq [p] w fun v B=>v= .int .i64 k∧K6 B.heap p F n (Sj ws k) fr∧Fr F w B:=by
 obtain ⟨b,vw,vl,vt,Fw,Fl,Ft,rfl,hb,hw,hl,ht,nw,nl,nt,wl,wt,lt,hF,ok⟩:=h;obtain ⟨ok',hk,hkn⟩:=ok.take;have hll:((fr++[(k:Int)]).map Qq).length=fr.length+1:=C3;have hlw:(ws.map Qq).length=n*16:=Dh;have hfl:=ok.frlen;rw [EO,HY] at hfl;have hn:=ok.le;refine Kl Kh Tryz.func254 ?_;refine' NO;(repeat (refine Q4 ?_));refine' Rm;refine OD rfl Ja Jr ?_;refine XE CO hl ?_;rw [hll];refine' NY;rw [show ((fr.length+1:Nat):Int) - 1=(fr.length:Int) by omega];refine' LK;(repeat (refine Q4 ?_));refine' Lb;refine' Ri;refine Lf ?_;(repeat (refine Q4 ?_));refine' Kd;refine' N7;(repeat (refine Q4 ?_));refine' Rm;refine OD rfl Ja Jr ?_;refine' zm;refine di CO rfl hl V ?_;intro b1 o1 hel1;refine mV rfl hel1 (c:=Qq k) (by rw [E7,ER (by rw [EM];omega)];simp) rfl ?_;refine' LK;(repeat (refine Q4 ?_));refine' KW;refine' LF;refine OD rfl Ja Jr ?_;refine' zm;refine T9 CO hl rfl ⟨_,rfl⟩ rfl V V ?_;intro vl1 hs1;rw [show ((List.map Qq (fr++[(k:Int)])).take fr.length).drop 0=fr.map Qq by rw [FG,E7,List.take_left' (by rw [EM])]] at hs1;refine' LF;refine pN rfl CO hb Js hs1.oneC Jr ?_;intro w2 hf2 hz2 hb2;have hs2:=hs1.fr hf2 (fun x hx e=>nl (e ▸ hx));have hw2:=hw.fr hf2 (fun x hx e=>nw (e ▸ hx));have ht2:=ht.fr hf2 (fun x hx e=>nt (e ▸ hx));refine Lf ?_;(repeat (refine Q4 ?_));refine' Rm;refine OD rfl Ja Jr ?_;refine' zm;refine di CO rfl ht2 (by rw [EM,XN];exact hk) ?_;intro b3 o3 hel3;refine pG rfl CO hel3 (Tu QH _ false DM) V rfl ?_;intro w3 hf3 hz3 hel3';have ht3:=hel3'.sl;rw [show (QH ((M4 n (fr++[(k:Int)])).getD k false)).set 0 (Value.bool true)=QH true from rfl,map_set,QhY hk hkn] at ht3;have hb3:=hb2.fr hf3 nt;have hs3:=hs2.fr hf3 lt;have hw3:=hw2.fr hf3 wt;refine Lf ?_;(repeat (refine Q4 ?_));refine' Rm;refine OD rfl Ja Jr ?_;refine' zm;refine' Pe;refine' XY;refine' Pe;refine df (T:=2) (l':=k*16) (h':=(k+1)*16) CO hw3 rfl ⟨_,rfl⟩ ⟨_,rfl⟩ V V ?_;intro v4 hsub4;refine Ys ru CU rfl hw3 hsub4 V V ?_;intro w4 hf4 hz4 hw4;have hb4:=hb3.fr hf4 nw;have hs4:=hs3.fr hf4 (fun x hl hw=>wl x hw hl);have ht4:=ht3.fr hf4 (fun x ht hw=>wt x hw ht);refine Lf ?_;(repeat (refine Q4 ?_));refine' N0;(repeat (refine Q4 ?_));refine' NB;(repeat (refine' NC));refine' zf;((refine ⟨_,rfl,rfl,⟨b,vw,vl1,vt,Fw,Fl,Ft,rfl,hb4,by rw [Qfc];exact hw4,hs4,ht4,nw,nl,nt,wl,wt,lt,hF,ok'⟩,?_⟩;refine ((hf2.mono fun x _ hx=>(hF x).2 (.inl hx)).trans (hf3.mono fun x _ hx=>(hF x).2 (.inr (.inr (.inr hx)))) (fun _ _ h=>h)).trans (hf4.mono fun x _ hx=>(hF x).2 (.inr (.inl hx))) (fun _ _ h=>h)))
theorem ef {p:Value}{n k:Nat}{fr:List Int}(h:K6 w.heap p F n ws fr)(hk:k<n)(hkn:(k:Int)∉fr):Ka Tryz.prog rm [p, .int .i64 k] w fun v B=>v= .bool true∧∃F',K6 B.heap p F' n ws (fr++[(k:Int)])∧Step F F' w B:=by
 obtain ⟨b,vw,vl,vt,Fw,Fl,Ft,rfl,hb,hw,hl,ht,nw,nl,nt,wl,wt,lt,hF,ok⟩:=h;have hlt:((M4 n fr).map QH).length=n:=(by rw [EM,XN]);have hfl:=ok.frlen;have hn:=ok.le;have htk:(M4 n fr).getD k false=true:=(by rw [kE hk];simp [hkn]);refine Kl Kh Tryz.func197 ?_;refine' NO;(repeat (refine Q4 ?_));refine' Lb;refine' Ri;refine' zm;((refine' Ln));((refine' Ln));((refine' Nf));((refine' LI));((refine' Kg;((refine OD rfl Ja Jr ?_))));((refine' Kg;((refine XE CO ht ?_))));(refine' Kg;refine' iX);(refine PT rfl CO ?_);refine' zm;((refine' Ln));((refine' Nf));((refine' LI));((refine' Kg;((refine OD rfl Ja Jr ?_))));((refine' Ln));((refine' Kg;((refine di CO rfl ht V ?_;intro b1 o1 hel1))));((refine' Kg;((refine mV rfl hel1 (Tu QH _ false (by rw [XN];omega)) rfl ?_;rw [htk]))));((refine' P5));(refine PT rfl CO ?_);refine Lf ?_;(repeat (refine Q4 ?_));refine' Kd;refine' N7;(repeat (refine Q4 ?_));refine' Rm;((refine OD rfl Ja Jr ?_));refine' zm;((refine di CO rfl ht V ?_;intro b1 o1 hel1));((refine pG rfl CO hel1 (Tu QH _ false (by rw [XN];omega)) V rfl ?_;intro w3 hf3 hz3 hel3;have ht3:=hel3.sl;rw [show (QH ((M4 n fr).getD k false)).set 0 (Value.bool false)=QH false from rfl,map_set,QhZ hk] at ht3;have hb3:=hb.fr hf3 nt;have hl3:=hl.fr hf3 lt;have hw3:=hw.fr hf3 wt));refine Lf ?_;(repeat (refine Q4 ?_));refine' KW;refine' LF;((refine OD rfl Ja Jr ?_));refine' zm;refine Rw (cs:=[_]) CO Jr ?_;((intro b4 w4 hb4 hf4 hz4 hk4;have hb4:=hb3.fr0 hf4;have hl4:=hl3.fr0 hf4;have hw4:=hw3.fr0 hf4;have ht4:=ht3.fr0 hf4));refine Ub rr (.inl ry) CO CO hl4 (pK hk4 rfl) CT ?_;rintro vl5 w5 ⟨Fl5,hl5,hf5,hsub5⟩;have hout:∀x,x<w.heap.size→¬Fl x→¬Fl5 x:=(fun x hx hn h=>(hsub5 x h).elim hn (fun hz=>absurd hz D6));have hb5:=hb4.fr hf5 nl;have hw5:=hw4.fr hf5 wl;have ht5:=ht4.fr hf5 (fun x ht hl=>lt x hl ht);refine' LF;refine pN rfl CO hb5 Js hl5.oneC Jr ?_;intro w6 hf6 hz6 hb6;have nl5:=hout b hb.lt nl;have hl6:=hl5.fr hf6 (fun x hx e=>nl5 (e ▸ hx));have hw6:=hw5.fr hf6 (fun x hx e=>nw (e ▸ hx));have ht6:=ht5.fr hf6 (fun x hx e=>nt (e ▸ hx));refine Lf ?_;(repeat (refine Q4 ?_));refine' NO;(repeat (refine Q4 ?_));refine' NB;(repeat (refine' NC));refine' zf;(refine ⟨_,rfl,rfl,fun x=>x=b∨Fw x∨Fl5 x∨Ft x,⟨b,vw,vl5,vt,Fw,Fl5,Ft,rfl,hb6,hw6,by rw [E7];exact hl6,ht6,nw,nl5,nt,fun x hx=>hout x (hw.lt x hx) (wl x hx),wt,fun x h5 ht'=>hout x (ht.lt x ht') (fun h=>lt x h ht') h5,fun x=>GY,ok.give hk hkn⟩,(((hf3.into fun x h=>(hF x).2 (.inr (.inr (.inr h)))).then0 hf4).cat (hf5.into fun x h=>(hF x).2 (.inr (.inr (.inl h))))).cat (hf6.into fun x h=>(hF x).2 (.inl h)),fun x hx=>?_⟩;rcases hx with h|h|h|h;(exact .inl ((hF x).2 (.inl h)));(exact .inl ((hF x).2 (.inr (.inl h))));(rcases hsub5 x h with h|h;(exact .inl ((hF x).2 (.inr (.inr (.inl h)))));exact .inr D6);exact .inl ((hF x).2 (.inr (.inr (.inr h)))))
theorem QjN {p:Value}{n:Nat}{k:Int}{fr:List Int}(h:K6 w.heap p F n ws fr)(hk:k<0∨(n:Int)≤k∨k∈fr):Ka Tryz.prog rm [p, .int .i64 k] w fun v B=>v= .bool false∧B=w:=by
 (obtain ⟨b,vw,vl,vt,Fw,Fl,Ft,rfl,hb,hw,hl,ht,nw,nl,nt,wl,wt,lt,hF,ok⟩:=h;have hlt:((M4 n fr).map QH).length=n:=(by rw [EM,XN]);refine Kl Kh Tryz.func197 ?_;refine' NO;(repeat (refine Q4 ?_));refine' Lb;(refine' Ae<;>intro O);all_goals (refine' S5;refine' UP;(first|refine' Kj|(refine' Kg;refine OD rfl Ja Jr ?_));(first|refine' Kj|(refine' Kg;refine XE CO ht ?_));first|refine' Kj|(refine' Kg;refine' Ag<;>intro O)));all_goals ((first|refine Tq rfl CO ?_|refine PT rfl CO ?_);refine' XS;refine' UP;(first|refine' Kj|(refine' Kg;refine OD rfl Ja Jr ?_));refine' Mu;(first|refine' Kj|(refine' Kg;refine pF CO rfl ht V V ?_;intro b1 o1 hel1));(first|refine' Kj|(refine' Kg;refine mV rfl hel1 (Tu QH _ false (by rw [XN];omega)) rfl ?_;rw [kE V,show ((k.toNat:Nat):Int)=k by omega,decide_eq_true (show k∈fr from hk.resolve_left V|>.resolve_left V)]));refine' Y3;(first|refine Tq rfl CO ?_|refine PT rfl CO ?_);refine Lf ?_;(repeat (refine Q4 ?_));refine' Kf;refine' NO;(repeat (refine Q4 ?_));refine' NB;(repeat (refine' NC));refine' zf;exact Ax)
theorem Zc {p:Value}{n i:Nat}{fr:List Int}(h:K6 w.heap p F n ws fr)(hi:i<n*16):Ka Tryz.prog rj [p, .int .i64 i, .int .i64 x] w fun v B=>v= .bool true∧K6 B.heap p F n (ws.set i x) fr∧Fr F w B:=by
 obtain ⟨b,vw,vl,vt,Fw,Fl,Ft,rfl,hb,hw,hl,ht,nw,nl,nt,wl,wt,lt,hF,ok⟩:=h;have hlw:(ws.map Qq).length=n*16:=Dh;have hle:=ok.le;have hol:=ok.len;refine Kl Kh Tryz.func140 ?_;refine' NO;(repeat (refine Q4 ?_));refine' Lb;refine' Ri;refine' zm;((refine' Ln));((refine' Ln));((refine' Nf));((refine' LI));((refine' Kg;refine OD rfl Ja Jr ?_));((refine' Kg;((refine XE CO hw ?_))));(refine' Kg;refine' iX);(refine PT rfl CO ?_);refine Lf ?_;(repeat (refine Q4 ?_));refine' Kd;refine' N7;(repeat (refine Q4 ?_));refine' Rm;refine OD rfl Ja Jr ?_;refine' Me;((refine di CO rfl hw V ?_;intro b1 o1 hel1));((refine pG rfl CO hel1 (Tu Qq _ 0 V) V rfl ?_;intro w3 hf3 hz3 hel3;have hw3:=hel3.sl;rw [show (Qq (ws.getD i 0)).set 0 (Value.int .i64 x)=Qq x from rfl,map_set] at hw3));refine Lf ?_;(repeat (refine Q4 ?_));refine' NO;(repeat (refine Q4 ?_));refine' NB;(repeat (refine' NC));refine' zf;((exact ⟨_,rfl,rfl,⟨b,vw,vl,vt,Fw,Fl,Ft,rfl,hb.fr hf3 nw,hw3,hl.fr hf3 (fun x hl hw=>wl x hw hl),ht.fr hf3 (fun x ht hw=>wt x hw ht),nw,nl,nt,wl,wt,lt,hF,ok.store⟩,hf3.into fun x h=>(hF x).2 (.inr (.inl h))⟩))
theorem QgL {p:Value}{n:Nat}{i:Int}{fr:List Int}(h:K6 w.heap p F n ws fr)(hi:i<0∨((n*16:Nat):Int)≤i):Ka Tryz.prog rj [p, .int .i64 i, .int .i64 x] w fun v B=>v= .bool false∧B=w:=by
 obtain ⟨b,vw,vl,vt,Fw,Fl,Ft,rfl,hb,hw,hl,ht,nw,nl,nt,wl,wt,lt,hF,ok⟩:=h;have hlw:(ws.map Qq).length=n*16:=Dh;refine Kl Kh Tryz.func140 ?_;refine' NO;(repeat (refine Q4 ?_));refine' Lb;(refine' Ae<;>intro O);all_goals (refine' S5;refine' UP;(first|refine' Kj|(refine' Kg;refine OD rfl Ja Jr ?_));(first|refine' Kj|(refine' Kg;refine XE CO hw ?_));(first|refine' Kj|(refine' Kg;refine' YZ));(first|refine Tq rfl CO ?_|refine PT rfl CO ?_);refine Lf ?_;(repeat (refine Q4 ?_));refine' Kf;refine' NO;(repeat (refine Q4 ?_));refine' NB;(repeat (refine' NC));refine' zf;exact Ax)
theorem eg {p:Value}{n i:Nat}{fr:List Int}(h:K6 w.heap p F n ws fr)(hi:i<n*16):Ka Tryz.prog rp [p, .int .i64 i] w fun v B=>v= .tuple #[.int .i64 (ws.getD i 0), .bool true]∧B=w:=by
 obtain ⟨b,vw,vl,vt,Fw,Fl,Ft,rfl,hb,hw,hl,ht,nw,nl,nt,wl,wt,lt,hF,ok⟩:=h;have hlw:(ws.map Qq).length=n*16:=Dh;have hle:=ok.le;have hol:=ok.len;refine Kl Kh Tryz.func199 ?_;refine' N0;(repeat (refine Q4 ?_));refine' Lb;refine' Ri;refine' zm;((refine' Ln));((refine' Ln));((refine' Nf));((refine' LI));((refine' Kg;((refine OD rfl Ja Jr ?_))));((refine' Kg;((refine XE CO hw ?_))));(refine' Kg;refine' iX);(refine PT rfl CO ?_);refine Lf ?_;(repeat (refine Q4 ?_));refine' Kd;refine' N7;(repeat (refine Q4 ?_));refine' Rm;((refine OD rfl Ja Jr ?_));refine' zm;((refine di CO rfl hw V ?_;intro b1 o1 hel1));((refine mV rfl hel1 (Tu Qq _ 0 V) rfl ?_));refine' O3;(repeat (refine Q4 ?_));refine' NB;(repeat (refine' NC));refine' XM;((exact Ax))
theorem Qjj {p:Value}{n:Nat}{i:Int}{fr:List Int}(h:K6 w.heap p F n ws fr)(hi:i<0∨((n*16:Nat):Int)≤i):Ka Tryz.prog rp [p, .int .i64 i] w fun v B=>v= .tuple #[.int .i64 0, .bool false]∧B=w:=by
 obtain ⟨b,vw,vl,vt,Fw,Fl,Ft,rfl,hb,hw,hl,ht,nw,nl,nt,wl,wt,lt,hF,ok⟩:=h;have hlw:(ws.map Qq).length=n*16:=Dh;refine Kl Kh Tryz.func199 ?_;refine' N0;(repeat (refine Q4 ?_));refine' Lb;(refine' Ae<;>intro O);all_goals (refine' S5;refine' UP;(first|refine' Kj|(refine' Kg;refine OD rfl Ja Jr ?_));(first|refine' Kj|(refine' Kg;refine XE CO hw ?_));(first|refine' Kj|(refine' Kg;refine' YZ));(first|refine Tq rfl CO ?_|refine PT rfl CO ?_);refine Lf ?_;(repeat (refine Q4 ?_));refine' Kf;refine' N0;(repeat (refine Q4 ?_));refine' NB;(repeat (refine' NC));refine' XM;exact Ax)
theorem Vh (n:Nat):M4 n (Pp n n)=List.replicate n false:=by
 symm
 refine rz Js fun j hj=>?_;have:(j:Int)∈Pp n n:=(jc (E6 n)).2 V;simp [this,EL,hj]

theorem Qjb {n:Int}(w:World)(hn:n<0∨64<n):Ka Tryz.prog ri [.int .i64 n] w fun v B=>v= .tuple #[.pointer none, .agg ⟨[.int .i64 1, .int .i64 (-1)]⟩]∧Fr NF w B:=by
 refine Kl Kh Tryz.func132 ?_;refine' KX;refine pt ?_;((intro b3 E hb3e hf1 hz1 hb3));refine Lf ?_;(repeat (refine Q4 ?_));refine' Lb;(refine' Ae<;>intro O);all_goals (refine' Md;refine' dQ;(first|refine Tq rfl CO ?_|refine PT rfl CO ?_);refine Lf ?_;(repeat (refine Q4 ?_));refine' Kf;refine' Kn;refine j5 (cs:=[_,_]) CO CO Jr ?_;refine' zm;refine uF rfl rfl Jr hb3 Js CU (cs':=[_,_]) Jr ?_;intro w2 hf2 hz2 hb2;refine Lf ?_;(repeat (refine Q4 ?_));refine' NB;(repeat (refine' NC));refine Px CO CO (Q3 (n:=2) Jk Jk hb2 Jr Jr) ?_;exact ⟨_,rfl,rfl,iA hf1 (fun b hb=>by omega) hf2⟩)

theorem Zd {n:Nat}(w:World)(hn:n≤64):Ka Tryz.prog ri [.int .i64 n] w fun v B=>∃p F,v= .tuple #[p, .agg ⟨[.int .i64 0, .int .i64 0]⟩]∧K6 B.heap p F n (List.replicate (n*16) 0) (Pp n n)∧Fr NF w B∧∀b,F b→w.heap.size≤b:=by
 refine Kl Kh Tryz.func132 ?_;refine' KX;refine pt ?_;((intro b3 E hb3e hf hz1 hb3));refine Lf ?_;(repeat (refine Q4 ?_));refine' Lb;refine' Ri;refine' zm;((refine' Ln));(refine' Kg;refine' dO);(refine PT rfl CO ?_);refine Lf ?_;(repeat (refine Q4 ?_));refine' Kd;refine' N7;(repeat (refine Q4 ?_));refine R2 (fun ρ' B=>∃(b:Nat) (vw vt:Value) (Fw Ft:Nat→Prop),Ki ρ' [(0, .int .i64 n),(3, .pointer (some ⟨b3,0,none⟩)),(4, .pointer (some ⟨b,0,none⟩))]∧Ll B.heap b 148 [vw, .slice none 0 0,vt]∧Sl B.heap 2 1 vw Fw (List.replicate (n*16) (Qq 0))∧Sl B.heap 4 1 vt Ft (List.replicate n (QH false))∧Ll B.heap b3 29 [.int .i64 0, .int .i64 0]∧Fr NF w B∧¬Fw b∧¬Ft b∧(∀x,Fw x→¬Ft x)∧b≠b3∧¬Fw b3∧¬Ft b3∧w.heap.size≤b∧(∀x,Fw x→w.heap.size≤x)∧∀x,Ft x→w.heap.size≤x) ?_ ?_
 · skip
   refine NU 2 4 Jk ?_ ?_
   · refine pD [(0,none),(1,none),(3,none),(2,some (some [])),(4,some none),(5,none),(6,some none),(7,some none)] Jk ?_;have hf:=hf.drew';have hb3:=hb3.fr0 (JC (Hw NF _));refine' KS;refine' LK;refine Q4 ?_;refine' KS;refine' Pe;refine' UT;refine' KS;refine' LK;refine Q4 ?_;refine' Py;refine j0 ru rfl rfl V V ?_;intro vw w2 hfw hw hzw;have hb3:=hb3.fr0 hfw;have hf:=hf.then0 hfw;refine' UT;refine ⟨fun _ h=>(ET h).elim,?_⟩;refine' Lg;refine j0 wK rfl rfl V V ?_;intro vt w3 hft ht hzt;have hb3:=hb3.fr0 hft;have hf:=hf.then0 hft;refine' UT;refine' KS;obtain ⟨aw,cw,rfl⟩:=hw.shape;obtain ⟨at_,ct,rfl⟩:=ht.shape;refine j5 (cs:=[_,_,_]) CO CO Jr ?_;refine' UT;refine' Lg;(have hw:=hw.fr0 hft);(skip);refine pM CO Jr ?_;((intro b w4 hb hf4 hz4 hblk;have hb3:=hb3.fr0 hf4;have hw:=hw.fr0 hf4;have ht:=ht.fr0 hf4;have hf:=hf.then0 hf4));refine' UT;refine' Lg;refine' LK;refine Q4 ?_;refine' pE;(repeat (refine Q4 ?_));((have hd0:E.drew.heap.size=E.heap.size:=rfl;exact B4))
   · refine pD [(0,none),(1,none),(3,none),(4,some (some [])),(2,some (some [])),(5,none),(6,some none),(7,some none)] Jk ?_;have hf:=hf.drew';have hb3:=hb3.fr0 (JC (Hw NF _));refine' KS;refine' LK;refine Q4 ?_;refine' KS;refine' Pe;refine' UT;refine' KS;refine' LK;refine Q4 ?_;refine' Py;refine j0 wK rfl rfl V V ?_;intro vt w3 hft ht hzt;have hb3:=hb3.fr0 hft;have hf:=hf.then0 hft;refine' UT;refine ⟨fun _ h=>(ET h).elim,?_⟩;refine' Py;refine j0 ru rfl rfl V V ?_;intro vw w2 hfw hw hzw;have hb3:=hb3.fr0 hfw;have hf:=hf.then0 hfw;refine' UT;refine ⟨fun _ h=>(ET h).elim,?_⟩;refine' KS;obtain ⟨aw,cw,rfl⟩:=hw.shape;obtain ⟨at_,ct,rfl⟩:=ht.shape;refine j5 (cs:=[_,_,_]) CO CO Jr ?_;refine' UT;refine' Lg;(skip);(have ht:=ht.fr0 hfw);refine pM CO Jr ?_;((intro b w4 hb hf4 hz4 hblk;have hb3:=hb3.fr0 hf4;have hw:=hw.fr0 hf4;have ht:=ht.fr0 hf4;have hf:=hf.then0 hf4));refine' UT;refine' Lg;refine' LK;refine Q4 ?_;refine' pE;(repeat (refine Q4 ?_));((have hd0:E.drew.heap.size=E.heap.size:=rfl;exact B4))
 rintro U w5 ⟨b,vw,vt,Fw,Ft,hρ,hb0,hw0,ht0,hb30,hf0,nw,nt,wt,nb,nw3,nt3,low,loww,lowt⟩;obtain ⟨U,rfl⟩:=ix _ hρ;refine' Lb;refine' LK;(repeat (refine Q4 ?_));refine' PS;refine iy (fun ρ' B=>∃(i:Nat) (vl:Value) (Fl:Nat→Prop),Ki ρ' [(0, .int .i64 n),(3, .pointer (some ⟨b3,0,none⟩)),(4, .pointer (some ⟨b,0,none⟩)),(20, .int .i64 n),(21, .int .i64 i)]∧i≤n∧Ll B.heap b 148 [vw,vl,vt]∧Sl B.heap 2 1 vw Fw (List.replicate (n*16) (Qq 0))∧Sl B.heap 4 1 vt Ft (List.replicate n (QH false))∧Sl B.heap 3 1 vl Fl ((Pp n i).map Qq)∧Ll B.heap b3 29 [.int .i64 0, .int .i64 0]∧Fr NF w B∧¬Fl b∧(∀x,Fl x→¬Fw x)∧(∀x,Fl x→¬Ft x)∧¬Fl b3∧∀x,Fl x→w.heap.size≤x) (fun ρ' _=>(n - iv (ρ' 21)).toNat) ?_ ?_
 · exact ⟨0,_,NF,⟨rfl,rfl,rfl,rfl,rfl,trivial⟩,FB _,hb0,hw0,ht0,Sl.nil _ _ _,hb30,hf0,fun h=>h,fun _ h=>h.elim,fun _ h=>h.elim,fun h=>h,fun _ h=>h.elim⟩
 rintro U w5 ⟨i,vl,Fl,hρ,hi,hb,hw,ht,hl,hb3,hf,nl,lw,lt,nl3,lowl⟩;obtain ⟨U,rfl⟩:=ix _ hρ;have hsz:=hf.size;have hfl:((Pp n i).map Qq).length=i:=(by rw [EM,nL]);refine' Kn;refine Yk rfl rfl ?_;refine Lf ?_;(repeat (refine Q4 ?_));refine Qm ?_;refine' Ab<;>intro O
 · refine' N7;(repeat (refine Q4 ?_));refine' UQ;refine' N0;(repeat (refine Q4 ?_));refine' NH;refine' LF;refine OD rfl Ja Jr ?_;refine' zm;refine' NY;refine' zm;refine' NY;refine Rw (cs:=[_]) CO Jr ?_;((intro b6 w6 hb6 hf6 hz6 hk6;have hb:=hb.fr0 hf6;have hw:=hw.fr0 hf6;have ht:=ht.fr0 hf6;have hl:=hl.fr0 hf6;have hb3:=hb3.fr0 hf6;have hf:=hf.then0 hf6));refine Ub rr (.inl ry) CO CO hl (pK hk6 rfl) (by rw [hfl];simp;omega) ?_;rintro vl7 w7 ⟨Fl7,hl7,hf7,hsub7⟩;have hout:∀x,x<w6.heap.size→¬Fl x→¬Fl7 x:=(fun x hx hn h=>(hsub7 x h).elim hn (fun hz=>absurd hz V));have hll:=hw.lt;have hlt:=ht.lt;have hlb:=hb.lt;have hlb3:=hb3.lt;have hb:=hb.fr hf7 nl;have hw:=hw.fr hf7 (fun x h h'=>lw x h' h);have ht:=ht.fr hf7 (fun x h h'=>lt x h' h);have hb3:=hb3.fr hf7 nl3;have hf:=iA hf lowl hf7;have nl7:=hout b hlb nl;have lowl7:∀x,Fl7 x→w.heap.size≤x:=(fun x h=>(hsub7 x h).elim (lowl x) (fun h=>by omega));refine' LF;((refine pN rfl CO hb Js hl7.oneC Jr ?_;intro w8 hf8 hz8 hb8;have hl8:=hl7.fr hf8 (fun x hx e=>nl7 (e ▸ hx));have hw8:=hw.fr hf8 (fun x hx e=>nw (e ▸ hx));have ht8:=ht.fr hf8 (fun x hx e=>nt (e ▸ hx));have hb38:=hb3.fr hf8 (fun e=>nb e.symm);have hf8':=iA hf (fun x hx=>by omega) hf8));refine' zn;refine' Lm;refine' MJ;refine' LK;(repeat (refine Q4 ?_));(refine ⟨⟨i+1,vl7,Fl7,⟨rfl,rfl,rfl,rfl,rfl,trivial⟩,V,hb8,hw8,ht8,?_,hb38,hf8',nl7,fun x h h'=>hout x (hll x h') (fun h=>lw x h h') h,fun x h h'=>hout x (hlt x h') (fun h=>lt x h h') h,hout b3 hlb3 nl3,lowl7⟩,Qh V⟩;rw [Qf6,E7];rw [show ((n - 1 - i:Nat):Int)=(n:Int) - 1 - i by omega];exact hl8)
 · refine' jG;(repeat (refine' nE));refine' KX;refine mZ (cs:=[_,_]) Jr ?_;refine' zm;refine uF rfl rfl Jr hb3 Js CU (cs':=[_,_]) Jr ?_;intro w9 hf9 hz9 hb9;refine Lf ?_;(repeat (refine Q4 ?_));refine' NB;(repeat (refine' NC));(refine Px CO CO (Q3 (n:=2) Jk Jk hb9 Jr Jr) ?_;obtain rfl:i=n:=CP;refine ⟨_,rfl,_,fun x=>x=b∨Fw x∨Fl x∨Ft x,rfl,⟨b,vw,vl,vt,Fw,Fl,Ft,rfl,hb.fr hf9 nb,?_,?_,?_,nw,nl,nt,fun x h h'=>lw x h' h,wt,lt,fun x=>GY,wN hn⟩,iA hf (fun x hx=>by omega) hf9,?_⟩;(rw [HA];exact hw.fr hf9 (fun x hx e=>nw3 (e ▸ hx)));(exact hl.fr hf9 (fun x hx e=>nl3 (e ▸ hx)));(rw [Vh,HA];exact ht.fr hf9 (fun x hx e=>nt3 (e ▸ hx)));rintro x (rfl|h|h|h);(exact low);(exact loww x h);(exact lowl x h);exact lowt x h)
end Go.Proofs.YteflkifmgnpbhaaGreat

namespace Go.Proofs.YteflkifmgnpbhaaGreat
open Go.Lir
attribute [local irreducible] LC.wp Q0 Qp Qk KN Qw LO.wp Q6 Calls
section

end
section

structure PoolS where
 n:Nat
 ws:List Int
 fr:List Int
def PoolS.Ok (s:PoolS):Prop:=PoolOk s.n s.ws s.fr
def PoolS.mk0 (n:Nat):PoolS:=⟨n,List.replicate (n*16) 0,Pp n n⟩
def PoolS.top (s:PoolS):Int:=s.fr.getLastD (-1)
def PoolS.take (s:PoolS):PoolS:=if s.fr=[] then s else ⟨s.n,Sj s.ws s.top.toNat,s.fr.dropLast⟩
def PoolS.can (s:PoolS)(k:Int):Bool:=decide (0≤k∧k<s.n∧k∉s.fr)
def PoolS.give (s:PoolS)(k:Int):PoolS:=if s.can k then ⟨s.n,s.ws,s.fr++[k]⟩ else s
def PoolS.isIn (s:PoolS)(i:Int):Bool:=decide (0≤i∧i<((s.n*16:Nat):Int))
def PoolS.store (s:PoolS)(i x:Int):PoolS:=if s.isIn i then ⟨s.n,s.ws.set i.toNat x,s.fr⟩ else s
def PoolS.word (s:PoolS)(i:Int):Int:=if s.isIn i then s.ws.getD i.toNat 0 else 0

theorem PoolS.ok_new {n:Nat}(h:n≤64):(PoolS.mk0 n).Ok:=wN h
theorem PoolS.split {s:PoolS}(h:s.Ok):(s.fr=[]∧s.top=-1∧s.take=s)∨∃(k:Nat) (fr:List Int),s=⟨s.n,s.ws,fr++[(k:Int)]⟩∧s.top=k∧s.take=⟨s.n,Sj s.ws k,fr⟩:=by
 obtain ⟨n,ws,fr⟩:=s;rcases Gy fr with rfl|⟨fr,k,rfl⟩
 · exact .inl ⟨rfl,rfl,rfl⟩
 · simp only [Jy] at h ⊢
   have hk:=h.rng k Js;refine .inr ⟨k.toNat,fr,by rw [Fi hk.1],?_,?_⟩
   · simp [PoolS.top];omega
   · simp [PoolS.take,PoolS.top]
abbrev HL:=@PoolS.split
theorem PoolS.ok_take {s:PoolS}(h:s.Ok):s.take.Ok:=by
 rcases HL h with ⟨_,_,e⟩|⟨k,fr,e,_,e2⟩
 · rw [e];exact h
 · rw [e2];rw [e] at h;exact (PoolOk.take h).1
theorem PoolS.ok_give {s:PoolS}(h:s.Ok)(k:Int):(s.give k).Ok:=by
 unfold PoolS.give PoolS.can;split
 · rename_i O;have O:=of_decide_eq_true O;obtain ⟨k,rfl⟩:=FQ O.1;exact PoolOk.give (n:=s.n) h V O.2.2
 · exact h
theorem PoolS.ok_store {s:PoolS}(h:s.Ok)(i x:Int):(s.store i x).Ok:=by
 unfold PoolS.store;split
 · exact PoolOk.store h
 · exact h
abbrev IT:=@PoolS.ok_store
theorem PoolS.n_take {s:PoolS}:s.take.n=s.n:=by unfold PoolS.take;split<;>rfl
abbrev Jj:=@PoolS.n_take
theorem PoolS.n_give {s:PoolS}{k:Int}:(s.give k).n=s.n:=by unfold PoolS.give;split<;>rfl
abbrev Jl:=@PoolS.n_give
theorem PoolS.n_store {s:PoolS}{i:Int}:(s.store i x).n=s.n:=by unfold PoolS.store;split<;>rfl
abbrev Hj:=@PoolS.n_store
theorem PoolS.fr_store {s:PoolS}{i:Int}:(s.store i x).fr=s.fr:=by unfold PoolS.store;split<;>rfl

abbrev HE:=@PoolS.fr_store
def Mp (p:Value)(s:PoolS):Res where
 A H F:=K6 H p F s.n s.ws s.fr
 loc:=by
  rintro H H' F ⟨b,vw,vl,vt,Fw,Fl,Ft,h⟩ hs;have hF:=h.hF
  exact ⟨b,vw,vl,vt,Fw,Fl,Ft,h.hp,h.blk.of_same (hs b ((hF b).2 (.inl rfl)) h.blk.lt),h.sw.of_same (fun x hx=>hs x ((hF x).2 (.inr (.inl hx)))),h.sl.of_same (fun x hx=>hs x ((hF x).2 (.inr (.inr (.inl hx))))),
   h.st.of_same (fun x hx=>hs x ((hF x).2 (.inr (.inr (.inr hx))))),h.nw,h.nl,h.nt,h.wl,h.wt,h.lt,h.hF,h.ok⟩
 lt:=K6.lt
 ext:=by
  rintro H F G ⟨b,vw,vl,vt,Fw,Fl,Ft,h⟩ hs;exact ⟨b,vw,vl,vt,Fw,Fl,Ft,h.hp,h.blk,h.sw,h.sl,h.st,h.nw,h.nl,h.nt,h.wl,h.wt,h.lt,fun x=>(hs x).symm.trans (h.hF x),h.ok⟩
theorem Vi {i:Nat}{p:Value}{s:PoolS}(Z:St Y w L)(hi:nth L i=some (Mp p s)):s.Ok:=by
 obtain ⟨F,hr,_⟩:=Z.step hi;obtain ⟨b,vw,vl,vt,Fw,Fl,Ft,h⟩:=hr;exact h.ok
theorem bQ:∀{L:List Res}{i:Nat}{r:Res},nth L i=some r→L.set i r=L
 | [],_,_,h=>by cases h
 | s::L,0,r,h=>by simp only [nth,E3] at h;subst h;rfl
 | s::L,i+1,r,h=>by rw [E1,bQ (L:=L) (i:=i) h]

variable {Y:Cx}{w:World}{L:List Res}{i:Nat}{p:Value}{s:PoolS}
theorem eh (Z:St Y w L)(hi:nth L i=some (Mp p s)):Ka Tryz.prog wc [p] w fun v B=>v= .int .i64 s.fr.length∧St Y B L:=by
 obtain ⟨F,hr,_⟩:=Z.step hi;exact (ec hr).mono fun v B ⟨h,M⟩=>⟨h,M ▸ Z⟩
theorem ei (Z:St Y w L)(hi:nth L i=some (Mp p s)):Ka Tryz.prog rq [p] w fun v B=>v= .int .i64 s.top∧St Y B (L.set i (Mp p s.take)):=by
 obtain ⟨F,hr,_,hst⟩:=Z.step hi;rcases HL (Vi Z hi) with ⟨I,M,h3⟩|⟨k,fr,I,M,h3⟩
 · rw [M,h3,bQ hi];have hr':K6 w.heap p F s.n s.ws []:=I ▸ hr;exact (Qej hr').mono fun v B ⟨h,M⟩=>⟨h,M ▸ Z⟩
 · rw [M,h3];have hr':K6 w.heap p F s.n s.ws (fr++[(k:Int)]):=(by rw [I] at hr;exact hr);exact (ee hr').mono fun v B ⟨h,h4,h5⟩=>⟨h,hst B F _ h4 (HQ h5)⟩
theorem en (k:Int)(Z:St Y w L)(hi:nth L i=some (Mp p s)):Ka Tryz.prog rm [p, .int .i64 k] w fun v B=>v= .bool (s.can k)∧St Y B (L.set i (Mp p (s.give k))):=by
 obtain ⟨F,hr,_,hst⟩:=Z.step hi;unfold PoolS.give;by_cases O:0≤k∧k<s.n∧k∉s.fr
 · have e:s.can k=true:=decide_eq_true O;rw [e,Qip rfl];obtain ⟨k,rfl⟩:=FQ O.1;exact (ef hr V O.2.2).mono fun v B ⟨h,F',h4,h5⟩=>⟨h,hst B F' _ h4 h5⟩
 · have e:s.can k=false:=decide_eq_false O
   rw [e,Qin Js,bQ hi];refine (QjN hr ?_).mono fun v B ⟨h,M⟩=>⟨h,M ▸ Z⟩;by_cases I:k<0
   · exact .inl I
   · by_cases M:(s.n:Int)≤k
     · exact .inr (.inl M)
     · exact .inr (.inr (Fk.1 fun h3=>O ⟨V,V,h3⟩))
theorem nM (j x:Int)(Z:St Y w L)(hi:nth L i=some (Mp p s)):Ka Tryz.prog rj [p, .int .i64 j, .int .i64 x] w fun v B=>v= .bool (s.isIn j)∧St Y B (L.set i (Mp p (s.store j x))):=by
 obtain ⟨F,hr,_,hst⟩:=Z.step hi;unfold PoolS.store;by_cases O:0≤j∧j<((s.n*16:Nat):Int)
 · have e:s.isIn j=true:=decide_eq_true O;rw [e,Qip rfl];obtain ⟨j,rfl⟩:=FQ O.1;exact (Zc hr V).mono fun v B ⟨h,h4,h5⟩=>⟨h,hst B F _ h4 (HQ h5)⟩
 · have e:s.isIn j=false:=decide_eq_false O;rw [e,Qin Js,bQ hi];exact (QgL hr V).mono fun v B ⟨h,M⟩=>⟨h,M ▸ Z⟩
theorem et (j:Int)(Z:St Y w L)(hi:nth L i=some (Mp p s)):Ka Tryz.prog rp [p, .int .i64 j] w fun v B=>v= .tuple #[.int .i64 (s.word j), .bool (s.isIn j)]∧St Y B L:=by
 obtain ⟨F,hr,_⟩:=Z.step hi;unfold PoolS.word;by_cases O:0≤j∧j<((s.n*16:Nat):Int)
 · have e:s.isIn j=true:=decide_eq_true O;rw [e,Qip rfl];obtain ⟨j,rfl⟩:=FQ O.1;exact (eg hr V).mono fun v B ⟨h,M⟩=>⟨h,M ▸ Z⟩
 · have e:s.isIn j=false:=decide_eq_false O;rw [e,Qin Js];exact (Qjj hr V).mono fun v B ⟨h,M⟩=>⟨h,M ▸ Z⟩
theorem kF (n:Int)(Z:St Y w L):Ka Tryz.prog ri [.int .i64 n] w fun v B=>
 (n<0∨64<n)∧v= .tuple #[.pointer none, .agg ⟨[.int .i64 1, .int .i64 (-1)]⟩]∧St Y B L∨
 ∃(m:Nat) (b:Nat),n=m∧m≤64∧v= .tuple #[.pointer (some ⟨b,0,none⟩), .agg ⟨[.int .i64 0, .int .i64 0]⟩]∧St Y B (Mp (.pointer (some ⟨b,0,none⟩)) (PoolS.mk0 m)::L):=by
 by_cases O:n<0∨64<n
 · exact (Qjb w O).mono fun v B ⟨h,M⟩=> .inl ⟨O,h,Z.fr0 M⟩
 · obtain ⟨m,rfl⟩:=FQ (show 0≤n by omega);refine (Zd w (show m≤64 by omega)).mono ?_;rintro v B ⟨p,F,h,M,h3,h4⟩;have h2':=M;obtain ⟨b,_,_,_,_,_,_,h5⟩:=h2';have hp:=h5.hp;subst hp;exact .inr ⟨m,b,rfl,V,h,Z.new (r:=Mp _ (PoolS.mk0 m)) M h3 h4⟩
end
end Go.Proofs.YteflkifmgnpbhaaGreat
namespace Go.Proofs.YteflkifmgnpbhaaGreat
open Go.Lir
def jd (ws:List Int)(k:Nat):Nat→List Int
 | 0=>ws
 | i+1=>(jd ws k i).set (k*16+i) 0
theorem nN (ws:List Int)(k:Nat):∀i,(jd ws k i).length=ws.length
 | 0=>rfl
 | i+1=>by rw [jd,Fh,nN ws k i]
theorem rA (ws:List Int)(k:Nat):∀(i j:Nat),k*16+i≤ws.length→(jd ws k i).getD j 0=if k*16≤j∧j<k*16+i then 0 else ws.getD j 0
 | 0,j,_=>by rw [Qin V];rfl
 | i +1,j,h=>by
   rw [jd,j2 (by rw [nN];omega),rA ws k i j V];by_cases I:k*16+i=j
   · rw [Qip I,Qip V]
   · rw [Qin I]
     by_cases M:k*16≤j∧j<k*16+i
     · rw [Qip M,Qip V]
     · rw [Qin M,Qin V]
theorem Qk8 {k n:Nat}(h:ws.length=n*16)(hk:k<n):jd ws k 16=Sj ws k:=by
 refine uD 0 (by rw [nN,wM h hk,h]) fun j hj=>?_;rw [nN] at hj;rw [rA ws k 16 j V];simp only [Sj,EL];have hl:(ws.take (k*16)).length=k*16:=DU;by_cases I:j<k*16
 · rw [Qin V,EU V,FE I]
 · rw [ER V,hl]
   by_cases M:j<k*16+16
   · rw [Qip V,EU CT,GI,Qip V];rfl
   · rw [Qin V,ER CT,GK];congr 2;simp;omega

end Go.Proofs.YteflkifmgnpbhaaGreat
namespace Go.Proofs.YteflkifmgnpbhaaGreat
open Go.Lir
attribute [local irreducible] LC.wp Q0 Qp Qk KN Qw LO.wp Q6 Calls
section

def L0 (s:PoolS)(tk:List Int):Prop:=tk.Nodup∧∀k,k∈tk↔s.can k=true
theorem K0 {s:PoolS}{k:Int}:s.can k=true↔0≤k∧k<s.n∧k∉s.fr:=decide_eq_true_iff
theorem L0.len {s:PoolS}(h:L0 s tk)(ok:s.Ok):tk.length+s.fr.length=s.n:=by
 have hnd:(tk++s.fr).Nodup:=GP.2 ⟨h.1,ok.nd,fun a ha b hb e=>by subst e;exact (K0.1 ((h.2 a).1 ha)).2.2 hb⟩
 have I:=dg (b:=Pp s.n s.n) hnd fun x hx=>(jc (E6 _)).2 (by
  rcases E8.1 hx with hx|hx
  · have:=K0.1 ((h.2 x).1 hx);omega
  · have:=ok.rng x hx;omega)
 have M:=dg (b:=tk++s.fr) (wL (E6 s.n)) fun x hx=>by
  have:=(jc (E6 _)).1 hx;by_cases hm:x∈s.fr
  · exact List.mem_append_right _ hm
  · exact Ho _ ((h.2 x).2 (K0.2 ⟨V,V,hm⟩))
 rw [nL,EO] at*;omega
theorem L0.new {n:Nat}:L0 (PoolS.mk0 n) []:=⟨IN,fun k=>⟨fun h=>absurd h Js,fun h=>by
 obtain ⟨I,M,h3⟩:=K0.1 h;exact absurd ((jc (E6 n)).2 (by simp only [PoolS.mk0] at M;omega)) h3⟩⟩
theorem L0.take {s:PoolS}(h:L0 s tk)(ok:s.Ok){k:Nat}{fr:List Int}(I:s=⟨s.n,s.ws,fr++[(k:Int)]⟩)(M:s.top=k)(h3:s.take=⟨s.n,Sj s.ws k,fr⟩):s.top∉tk∧k<s.n∧L0 s.take (tk++[s.top]):=by
 have ok':PoolOk s.n s.ws (fr++[(k:Int)]):=(by rw [I] at ok;exact ok);obtain ⟨_,hk,hkn⟩:=ok'.take;have hfr:s.fr=fr++[(k:Int)]:=(by rw [I]);have hnot:(k:Int)∉tk:=fun hm=>(K0.1 ((h.2 k).1 hm)).2.2 (by rw [hfr];simp);refine ⟨by rw [M];exact hnot,hk,?_,fun x=>?_⟩
 · rw [M];exact GP.2 ⟨h.1,by simp,fun a ha b hb e=>by simp at hb;subst hb;subst e;exact hnot ha⟩
 · rw [M,E8,FD,h.2 x,K0,K0,h3,hfr,E8,FD]
   constructor
   · rintro (⟨I,M,h3⟩|rfl)
     · exact ⟨I,M,fun h=>h3 (.inl h)⟩
     · exact ⟨V,by simpa using hk,hkn⟩
   · rintro ⟨I,M,h3⟩
     by_cases hx:x=k
     · exact .inr hx
     · exact .inl ⟨I,M,fun h=>h.elim h3 hx⟩
theorem L0.give {s:PoolS}(h:L0 s tk)(k:Int):L0 (s.give k) (tk.filter fun y=>decide (y≠k)):=by
 refine ⟨h.1.filter _,fun x=>?_⟩;rw [G9,h.2 x,K0,K0,decide_eq_true_iff,Jl];unfold PoolS.give;split
 · simp only [E8,FD,not_or]
   constructor
   · rintro ⟨⟨I,M,h3⟩,h4⟩;exact ⟨I,M,h3,h4⟩
   · rintro ⟨I,M,h3,h4⟩;exact ⟨⟨I,M,h3⟩,h4⟩
 · rename_i O
   constructor
   · rintro ⟨I,_⟩;exact I
   · intro I;exact ⟨I,fun e=>O (by subst e;exact K0.2 I)⟩
theorem L0.store {s:PoolS}(h:L0 s tk)(k x:Int):L0 (s.store k x) tk:=⟨h.1,fun y=>by rw [h.2 y,K0,K0,Hj,HE]⟩
theorem L0.perm {s:PoolS}(h:L0 s l)(hp:l.Perm l'):L0 s l':=⟨hp.nodup_iff.1 h.1,fun k=>by rw [←h.2 k];exact hp.mem_iff.symm⟩
def PoolS.gives (s:PoolS)(l:List Int):PoolS:=l.foldl PoolS.give s
theorem PoolS.n_gives:∀{s:PoolS},(s.gives l).n=s.n:=by
 induction l with
 | nil=>intro s;rfl
 | cons k l ih=>intro s;exact (ih (s:=s.give k)).trans Jl
abbrev I4:=@PoolS.n_gives
theorem PoolS.ok_gives:∀{s:PoolS},s.Ok→(s.gives l).Ok:=by
 induction l with
 | nil=>intro s h;exact h
 | cons k l ih=>intro s h;exact ih (s:=s.give k) (PoolS.ok_give h k)
theorem Qhh {s:PoolS}(h:j<l.length):s.gives (l.take (j+1))=(s.gives (l.take j)).give (l.getD j 0):=by
 rw [pJ 0 h];simp [PoolS.gives,List.foldl_append]
theorem L0.gives {rest:List Int}:∀{s:PoolS},L0 s (l++rest)→L0 (s.gives l) rest:=by
 induction l with
 | nil=>intro s h;exact h
 | cons k l ih=>
   intro s h;have I:=h.give k;have hnd:=h.1;rw [F7,GM] at hnd
   have e:((k::l++rest).filter fun y=>decide (y≠k))=l++rest:=by
    rw [F7,I7 Js];exact List.filter_eq_self.2 fun y hy=>decide_eq_true fun e=>hnd.1 (e ▸ hy)
   rw [e] at I;exact ih I
theorem wO {α:Type}:∀{l:List α}{k:Nat}{x:α},l[k]?=some x→l.Perm (x::l.eraseIdx k)
 | [],_,_,h=>by simp at h
 | y::l,0,x,h=>by simp at h;subst h;exact .refl _
 | y::l,k+1,x,h=>((wO (l:=l) C5).cons y).trans (.swap _ _ _)
theorem wP {α:Type}:∀{l:List α}{k:Nat}{x:α},k<l.length→(l.set k x).Perm (x::l.eraseIdx k)
 | [],_,_,h=>by simp at h
 | y::l,0,x,h=> .refl _
 | y::l,k+1,x,h=>((wP (l:=l) C5).cons y).trans (.swap _ _ _)
end
section

structure Reg where
 there:Bool
 pages:List Int
 used:Int
def Reg.none:Reg:=⟨false,[],0⟩
structure EstS where
 p:PoolS
 rs:List Reg
def EstS.reg (s:EstS)(k:Int):Reg:=if 0≤k then s.rs.getD k.toNat Reg.none else Reg.none
def EstS.has (s:EstS)(k:Int):Bool:=(s.reg k).there
def EstS.all (s:EstS):List Int:=s.rs.flatMap Reg.pages
structure EstS.Ok (s:EstS):Prop where
 len:s.rs.length=16
 off:∀r∈s.rs,r.there=false→r=Reg.none
 used:∀r∈s.rs,0≤r.used∧r.used≤16
 tk:L0 s.p s.all
 pok:s.p.Ok
 n64:s.p.n≤64
def EstS.low (s:EstS):Nat:=s.rs.findIdx fun r=> !r.there
def EstS.open (s:EstS):EstS:=if s.low<16 then ⟨s.p,s.rs.set s.low ⟨true,[],0⟩⟩ else s
def EstS.openV (s:EstS):Int:=if s.low<16 then s.low else -1
def EstS.shut (s:EstS)(k:Int):EstS:=if s.has k then ⟨s.p.gives (s.reg k).pages,s.rs.set k.toNat Reg.none⟩ else s
def Reg.more (r:Reg)(n:Int):Bool:=decide (r.pages=[]∨16<r.used+n)
def Reg.last (r:Reg):Int:=r.pages.getLastD 0
def EstS.code (s:EstS)(k n:Int):Int:=if !s.has k then 15 else if n<1∨16<n then 1 else if (s.reg k).more n∧s.p.fr=[] then 14 else 0
def Reg.grow (r:Reg)(p:Int):Reg:=⟨r.there,r.pages++[p],0⟩
def Reg.use (r:Reg)(n:Int):Reg:=⟨r.there,r.pages,r.used+n⟩
def EstS.regTo (s:EstS)(k n:Int):Reg:=if (s.reg k).more n then (s.reg k).grow s.p.top else s.reg k
def EstS.get (s:EstS)(k n:Int):EstS:=if s.code k n=0 then ⟨if (s.reg k).more n then s.p.take else s.p,s.rs.set k.toNat ((s.regTo k n).use n)⟩ else s
def EstS.getV (s:EstS)(k n:Int):Int:=if s.code k n=0 then (s.regTo k n).last*16+(s.regTo k n).used else 0
def EstS.count (s:EstS):Int:=(s.rs.countP fun r=>r.there:Nat)
def EstS.mk0 (n:Nat):EstS:=⟨PoolS.mk0 n,List.replicate 16 Reg.none⟩

theorem EstS.reg_at {s:EstS}(h:s.Ok){k:Nat}(hk:k<16):s.rs[k]?=some (s.reg k):=by
 have:=h.len;unfold EstS.reg;rw [Qip V,show (k:Int).toNat=k by omega];exact Ue V
abbrev F9:=@EstS.reg_at
theorem EstS.reg_out {s:EstS}(h:s.Ok){k:Int}(hk:k<0∨16≤k):s.reg k=Reg.none:=by
 have:=h.len;unfold EstS.reg;split
 · rw [EL,Fe V];rfl
 · rfl
abbrev Jm:=@EstS.reg_out
theorem EstS.has_in {s:EstS}(h:s.Ok){k:Int}(hk:s.has k=true):∃m:Nat,k=m∧m<16:=by
 by_cases O:k<0∨16≤k
 · unfold EstS.has at hk;rw [Jm h O] at hk;cases hk
 · exact ⟨k.toNat,V,V⟩
abbrev H8:=@EstS.has_in
theorem wQ {s:EstS}{k:Nat}{r:Reg}(hr:s.rs[k]?=some r):s.all.Perm (r.pages++(s.rs.eraseIdx k).flatMap Reg.pages):=by
 have:=(wO hr).flatMap_right Reg.pages;rw [HJ] at this;exact this
theorem wR {rs:List Reg}{k:Nat}{r':Reg}(hk:k<rs.length):((rs.set k r').flatMap Reg.pages).Perm (r'.pages++(rs.eraseIdx k).flatMap Reg.pages):=by
 have:=(wP (x:=r') hk).flatMap_right Reg.pages
 simpa [HJ] using this
theorem Od {l:List α}{k:Nat}{x y:α}(h:y∈l.set k x):y=x∨y∈l:=(HH h).symm
theorem EstS.ok_set {s:EstS}(h:s.Ok){p:PoolS}{k:Nat}(hk:k<16){r':Reg}(I:r'.there=false→r'=Reg.none)(M:0≤r'.used∧r'.used≤16)(h3:L0 p (r'.pages++(s.rs.eraseIdx k).flatMap Reg.pages))(h4:p.Ok)(h5:p.n=s.p.n):(⟨p,s.rs.set k r'⟩:EstS).Ok:=by
 have hl:=h.len;refine ⟨by simpa using hl,fun r hr=>?_,fun r hr=>?_,h3.perm (wR V).symm,h4,by rw [h5];exact h.n64⟩
 · rcases Od hr with rfl|hr
   · exact I
   · exact h.off r hr
 · rcases Od hr with rfl|hr
   · exact M
   · exact h.used r hr
abbrev H9:=@EstS.ok_set
theorem EstS.tk_at {s:EstS}(h:s.Ok){k:Nat}(hk:k<16):L0 s.p ((s.reg k).pages++(s.rs.eraseIdx k).flatMap Reg.pages):=h.tk.perm (wQ (F9 h hk))
abbrev GU:=@EstS.tk_at
theorem EstS.ok_new {n:Nat}(hn:n≤64):(EstS.mk0 n).Ok:=
 ⟨by simp [EstS.mk0],fun r hr _=>F6 hr,fun r hr=>by rw [F6 hr];simp [Reg.none],by
   have:(EstS.mk0 n).all=[]:=(by simp [EstS.all,EstS.mk0,Reg.none,List.flatMap_replicate]);rw [this];exact L0.new,PoolS.ok_new hn,hn⟩

abbrev JF:=@EstS.ok_new
theorem EstS.low_le {s:EstS}(h:s.Ok):s.low≤16:=by have:=List.findIdx_le_length (xs:=s.rs) (p:=fun r=> !r.there);rw [h.len] at this;exact this
theorem EstS.low_eq {s:EstS}(h:s.Ok){i:Nat}(hi:i<16)(I:(s.reg i).there=false)(M:∀j,j<i→(s.reg (j:Nat)).there=true):s.low=i:=by
 have hl:=h.len;refine (List.findIdx_eq V).2 ⟨?_,fun j hj=>?_⟩
 · have:=F9 h hi;rw [EI V] at this;simp only [E3] at this;rw [this,I];rfl
 · have:=F9 h (show j<16 by omega);rw [EI V] at this;simp only [E3] at this;rw [this,M j hj];rfl
theorem EstS.low_full {s:EstS}(h:s.Ok)(M:∀j,j<16→(s.reg (j:Nat)).there=true):s.low=16:=by
 have hl:=h.len;rw [←hl];refine I9.2 fun r hr=>?_;obtain ⟨j,hj⟩:=FL.1 hr;have hj16:j<16:=(by have:=(EJ.1 hj).1;omega);have:=F9 h hj16;rw [hj] at this;simp only [E3] at this;rw [this,M j hj16];rfl
theorem EstS.low_off {s:EstS}(h:s.Ok)(hl:s.low<16):s.reg s.low=Reg.none:=by
 have I:=F9 h hl;have M:s.low<s.rs.length:=(by rw [h.len];exact hl);have h3:=List.findIdx_getElem (xs:=s.rs) (p:=fun r:Reg=> !r.there) (w:=M);rw [EI M] at I;simp only [E3] at I;have h4:(s.rs[s.low]'M).there=false:=(by have h5:(!(s.rs[s.low]'M).there)=true:=h3;simpa using h5);rw [←I];exact h.off _ (GW M) h4
abbrev Iu:=@EstS.low_off
theorem EstS.ok_open {s:EstS}(h:s.Ok):s.open.Ok:=by
 unfold EstS.open;split
 · rename_i hl;have:=GU h hl;rw [Iu h hl] at this;exact H9 h hl (fun hf=>by cases hf) ⟨IG _,by simp⟩ this h.pok rfl
 · exact h
abbrev Jn:=@EstS.ok_open
theorem EstS.ok_shut {s:EstS}(h:s.Ok)(k:Int):(s.shut k).Ok:=by
 unfold EstS.shut;split
 · rename_i hk;obtain ⟨m,rfl,hm⟩:=H8 h hk;exact H9 h (show (m:Int).toNat<16 by omega) (fun _=>rfl) ⟨IG _,by simp [Reg.none]⟩ (by rw [show (m:Int).toNat=m by omega];exact (GU h hm).gives) (PoolS.ok_gives h.pok) I4
 · exact h
abbrev Jp:=@EstS.ok_shut
theorem EstS.code_0 {s:EstS}{k n:Int}(O:s.code k n=0):s.has k=true∧1≤n∧n≤16∧¬((s.reg k).more n=true∧s.p.fr=[]):=by
 unfold EstS.code at O;split at O
 · cases O
 · rename_i I
   split at O
   · cases O
   · split at O
     · cases O
     · rename_i M h3;exact ⟨by simpa using I,V,V,h3⟩
abbrev JG:=@EstS.code_0
theorem EstS.regTo_len {s:EstS}(h:s.Ok){k:Nat}(hk:k<16):(s.reg k).pages.length≤64:=by
 have:=(GU h hk).len h.pok;rw [EO] at this;have:=h.n64;omega
abbrev IU:=@EstS.regTo_len
theorem Reg.more_f {r:Reg}{n:Int}(h:¬r.more n=true):r.pages≠[]∧r.used+n≤16:=by
 unfold Reg.more at h;rw [decide_eq_true_iff] at h;exact ⟨fun e=>h (.inl e),V⟩
abbrev J0:=@Reg.more_f
theorem EstS.ok_get {s:EstS}(h:s.Ok)(k n:Int):(s.get k n).Ok:=by
 unfold EstS.get;split
 · rename_i O
   obtain ⟨I,M,h3,h4⟩:=JG O;obtain ⟨m,rfl,hm⟩:=H8 h I;rw [show (m:Int).toNat=m by omega];have hth:(s.reg m).there=true:=I;have hu:=h.used _ (EK (F9 h hm));unfold EstS.regTo;by_cases hmo:(s.reg m).more n=true
   · rw [Qip hmo,Qip hmo]
     rcases HL h.pok with ⟨e,_⟩|⟨kk,fr,e1,e2,e3⟩
     · exact absurd ⟨hmo,e⟩ h4
     · obtain ⟨_,_,h5⟩:=(GU h hm).take h.pok e1 e2 e3;refine H9 h hm (fun hf=>by simp [Reg.use,Reg.grow,hth] at hf) ⟨by simp [Reg.use,Reg.grow];omega,by simp [Reg.use,Reg.grow];omega⟩ ?_ (PoolS.ok_take h.pok) Jj;simp only [Reg.use,Reg.grow];refine h5.perm ?_;rw [Gm,Gm];exact (HZ).append_left _
   · rw [Qin hmo,Qin hmo];obtain ⟨_,h6⟩:=J0 hmo;exact H9 h hm (fun hf=>by simp [Reg.use,hth] at hf) ⟨by simp [Reg.use];omega,by simp [Reg.use];omega⟩ (GU h hm) h.pok rfl
 · exact h

abbrev JH:=@EstS.ok_get
structure RegV where
 there:Bool
 pv:Value
 pages:List Int
 used:Int
def RegV.reg (r:RegV):Reg:=⟨r.there,r.pages,r.used⟩
def RegV.cells (r:RegV):List Value:=[.bool r.there,r.pv, .int .i64 r.used]
def RegV.res (r:RegV):Res:=sl 3 1 r.pv (r.pages.map Qq)
def RegV.nil:RegV:=⟨false, .slice none 0 0,[],0⟩
def L9 (rv:List RegV):List Value:=(rv.map RegV.cells).flatten
theorem qE (rv:List RegV):(L9 rv).length=rv.length*3:=by
 have:=R1 (es:=3) (css:=rv.map RegV.cells) Dv;rw [EM] at this;exact this
theorem Vj {rv:List RegV}{r:RegV}(hr:rv[m]?=some r)(hu:r.cells[j]?=some u):(pp::L9 rv)[1+m*3+j]?=some u:=by
 have hj:j<3:=(EJ.1 hu).1;have:=jY (es:=3) (css:=rv.map RegV.cells) Dv (m:=m) (j:=j) (c:=r.cells) (by rw [EZ,hr];rfl) hj;rw [show 1+m*3+j=(m*3+j)+1 by omega,FP];exact this.trans hu
theorem Vk {rv:List RegV}{r r':RegV}(hr:rv[m]?=some r)(hj:j<3)(hu:r.cells.set j u=r'.cells):(pp::L9 rv).set (1+m*3+j) u=pp::L9 (rv.set m r'):=by
 have:=uu (es:=3) (css:=rv.map RegV.cells) Dv (m:=m) (j:=j) (c:=r.cells) (u:=u) (by rw [EZ,hr];rfl) hj;rw [show 1+m*3+j=(m*3+j)+1 by omega,E1];unfold L9;rw [F3,←hu,this]
theorem Vl {rv:List RegV}{r':RegV}(hm:m<rv.length):(pp::L9 rv).take (1+m*3)++(r'.cells++(pp::L9 rv).drop (1+m*3+3))=pp::L9 (rv.set m r'):=by
 have hl:∀l:List RegV,(∀c∈l.map RegV.cells,c.length=3):=(by intro l c O;obtain ⟨r,_,rfl⟩:=Fq.1 O;rfl);rw [show 1+m*3=m*3+1 by omega,show m*3+1+3=(m+1)*3+1 by omega,Hu,JU,F7];congr 1;have e:rv=rv.take m++(rv[m]'hm::rv.drop (m+1)):=(by rw [←IZ hm,Gz]);have e2:rv.set m r'=rv.take m++(r'::rv.drop (m+1)):=by rw [GA,Qip hm]
 have f1:L9 rv=L9 (rv.take m)++((rv[m]'hm).cells++L9 (rv.drop (m+1))):=by
  refine (congrArg L9 e).trans ?_;simp only [L9,E7,Ga,GG,GR]
 have l1:(L9 (rv.take m)).length=m*3:=(by rw [qE,FY];omega);rw [e2,f1];have t1:(L9 (rv.take m)++((rv[m]'hm).cells++L9 (rv.drop (m+1)))).take (m*3)=L9 (rv.take m):=by rw [←l1,List.take_left'];rfl
 have t2:(L9 (rv.take m)++((rv[m]'hm).cells++L9 (rv.drop (m+1)))).drop ((m+1)*3)=L9 (rv.drop (m+1)):=by
  rw [←Gm,List.drop_left'];rw [EO,l1];show m*3+3=_;omega
 rw [t1,t2];simp [L9]

structure EstO (e:Value) (s:EstS) (b:Nat) (rv:List RegV):Prop where
 he:e= .pointer (some ⟨b,0,none⟩)
 hr:rv.map RegV.reg=s.rs
 ok:s.Ok
def ME (e:Value)(s:EstS):Res:=Res.ex fun x:Nat×Value×List RegV=>Res.pure (EstO e s x.1 x.2.2) (Rx [blk x.1 73 (x.2.1::L9 x.2.2),Mp x.2.1 s.p,KV RegV.res x.2.2])
variable {Y:Cx}{w:World}{L:List Res}{i:Nat}{e:Value}{s:EstS}
theorem Tc (Z:St Y w (ME e s::L)):∃b pp rv,EstO e s b rv∧St Y w (blk b 73 (pp::L9 rv)::Mp pp s.p::KV RegV.res rv::L):=by
 obtain ⟨⟨b,pp,rv⟩,h⟩:=Z.ex;obtain ⟨I,M⟩:=h.pure;exact ⟨b,pp,rv,I,M.list⟩
theorem Rn {pp:Value}{rv:List RegV}(h:EstO e s b rv)(Z:St Y w (blk b 73 (pp::L9 rv)::Mp pp s.p::KV RegV.res rv::L)):St Y w (ME e s::L):=
 Jh (b,pp,rv) (JE h (It Z))
theorem EstO.len {rv:List RegV}(h:EstO e s b rv):rv.length=16:=by have:=congrArg List.length h.hr;rw [EM,h.ok.len] at this;exact this
theorem EstO.at_ {rv:List RegV}(h:EstO e s b rv){k:Nat}(hk:k<16):∃r,rv[k]?=some r∧s.reg k=r.reg:=by
 have hl:=h.len;refine ⟨rv[k]' CP,EI V,?_⟩;have:=F9 h.ok hk;rw [←h.hr,EZ,EI V] at this
 simpa using this.symm
theorem EstO.set {rv:List RegV}(h:EstO e s b rv){s':EstS}{k:Nat}{r':RegV}(hs:s'.rs=s.rs.set k r'.reg)(ok:s'.Ok):EstO e s' b (rv.set k r'):=⟨h.he,by rw [F3,h.hr,hs],ok⟩
theorem wS (Z:St Y w L)(hi:nth L i=some (ME e s)):s.Ok∧∃b,e= .pointer (some ⟨b,0,none⟩):=by
 obtain ⟨b,pp,rv,ho,_⟩:=Tc (Z.out hi);exact ⟨ho.ok,b,ho.he⟩
theorem Vm (Z:St Y w L)(hi:nth L i=some (ME (.pointer (some ⟨b,0,none⟩)) s)):∃pp rv,EstO (.pointer (some ⟨b,0,none⟩)) s b rv∧St Y w (blk b 73 (pp::L9 rv)::Mp pp s.p::KV RegV.res rv::L.eraseIdx i):=by
 obtain ⟨b',pp,rv,ho,h⟩:=Tc (Z.out hi);have he:=ho.he;cases he;exact ⟨pp,rv,ho,h⟩
theorem EstS.pages_rng {s:EstS}(h:s.Ok){k:Nat}(hk:k<16):∀x∈(s.reg k).pages,0≤x∧x<64:=by
 intro x hx;have:=K0.1 (((GU h hk).2 x).1 (Ho _ hx));have:=h.n64;omega
theorem QdC (h:l≠[]):l.getD (((l.length:Nat):Int) - 1).toNat 0=l.getLastD 0:=by
 rcases Gy l with rfl|⟨l',x,rfl⟩
 · exact absurd rfl h
 · rw [Jy];have e2:(l'++[x]).getLastD 0=x:=C3;rw [e2,EO,HY,show (((l'.length+1:Nat):Int) - 1).toNat=l'.length by omega,EL,ER (E6 _)];simp
theorem EstS.used_rng {s:EstS}(h:s.Ok){k:Nat}(hk:k<16):0≤(s.reg k).used∧(s.reg k).used≤16:=h.used _ (EK (F9 h hk))
abbrev Hk:=@EstS.used_rng
end
section
variable {Y:Cx}{w:World}{L:List Res}{i:Nat}{e:Value}{s:EstS}

theorem EstS.has_at {s:EstS}(h:s.Ok){e:Value}{rv:List RegV}(ho:EstO e s b rv){k:Nat}(hk:k<16){r:RegV}(hr:rv[k]?=some r):s.has k=r.there:=by
 obtain ⟨r',I,M⟩:=ho.at_ hk;rw [hr] at I;cases I;unfold EstS.has;rw [M];rfl
theorem kG (k:Int)(Z:St Y w L)(hi:nth L i=some (ME e s)):Ka Tryz.prog Q80 [e, .int .i64 k] w fun v B=>v= .bool (s.has k)∧St Y B L:=by
 obtain ⟨b,pp,rv,ho,Z⟩:=Tc (Z.out hi);obtain rfl:=ho.he;have ok:=ho.ok;rcases (show (k<0∨16≤k)∨∃m:Nat,k=m∧m<16 by (by_cases h:k<0∨16≤k;(exact .inl h);exact .inr ⟨k.toNat,V,V⟩)) with hk|⟨m,rfl,hm⟩
 · have e0:s.has k=false:=(by unfold EstS.has;rw [Jm ok hk];rfl);refine Kl Kh Tryz.func196 ?_;refine' NO;(repeat (refine Q4 ?_));refine' KX;(refine' Ag<;>intro O);all_goals (refine' Md;(first|refine' Kj|(refine' Kg;refine' Ri));(first|refine Tq rfl CO ?_|refine PT rfl CO ?_);refine' PH;refine' UR;refine' Kj;refine PT rfl CO ?_;refine' LK;(repeat (refine Q4 ?_));refine' NB;(repeat (refine' NC));refine' zf;exact ⟨_,rfl,by rw [e0],(Rn ho Z).back0 hi⟩)
 · obtain ⟨r,hr,hrs⟩:=ho.at_ hm;have e0:=EstS.has_at ok ho hm hr;refine Kl Kh Tryz.func196 ?_;refine' NO;(repeat (refine Q4 ?_));refine' KX;refine' YZ;refine' zm;((refine' Ln));(refine' Kg;refine' iW);(refine Tq rfl CO ?_);refine' zm;((refine' Ln));((refine' Ln));((refine' Nf));((refine' LI));((refine' Kg;refine db rfl rfl V V ?_));((refine' Sh));((refine' Kg;((refine Pz Z rfl (Fj CQ) (Vj (j:=0) hr rfl) ?_))));(refine Tq rfl CO ?_);refine' LK;(repeat (refine Q4 ?_));refine' NB;(repeat (refine' NC));refine' zf;((exact ⟨_,rfl,by rw [e0],(Rn ho Z).back0 hi⟩))
theorem Ze (Z:St Y w L)(hi:nth L i=some (ME e s)):Ka Tryz.prog Q7b [e] w fun v B=>v= .int .i64 s.openV∧St Y B (L.set i (ME e s.open)):=by
 obtain ⟨b,pp,rv,ho,Z⟩:=Tc (Z.out hi);obtain rfl:=ho.he;have ok:=ho.ok;have hlen:=ho.len;refine Kl Kh Tryz.func136 ?_;refine' NO;(repeat (refine Q4 ?_));refine' Lb;refine Lf ?_;(repeat (refine Q4 ?_));refine' PS;refine iy (fun ρ' B=>∃(j:Nat),Ki ρ' [(0, .pointer (some ⟨b,0,none⟩)),(4, .int .i64 j)]∧(j≤16)∧(∀m,m<j→(s.reg (m:Nat)).there=true)∧St Y B (blk b 73 (pp::L9 rv)::Mp pp s.p::KV RegV.res rv::L.eraseIdx i)) (fun ρ' _=>(16 - iv (ρ' 4)).toNat) ?_ ?_
 · exact ⟨0,⟨rfl,rfl,trivial⟩,V,fun m hm=>absurd hm V,(Z.subP CR)⟩
 rintro U E ⟨j,hρ,hj,hth,Z⟩;obtain ⟨U,rfl⟩:=ix _ hρ;refine' Kn;refine Yk rfl rfl ?_;refine Lf ?_;(repeat (refine Q4 ?_));refine Qm ?_;refine' Ab<;>intro O
 · skip
   refine' N7;(repeat (refine Q4 ?_));refine' UQ;refine' N0;(repeat (refine Q4 ?_));refine Qm ?_;obtain ⟨r,hr,hrs⟩:=ho.at_ (k:=j) V;refine' NH;refine' LF;refine db rfl rfl V V ?_;refine' NN;((refine Pz Z rfl (Fj CQ) (Vj (j:=0) hr rfl) ?_));refine' ND;refine Lf ?_;(repeat (refine Q4 ?_));refine' Aa<;>intro O
   · have hlow:s.low=j:=EstS.low_eq ok V (by rw [hrs];show r.there=false;simpa using O) hth;refine' KW;refine pO (cs:=[_,_,_]) CO Jr ?_;refine' LF;refine db rfl rfl V V ?_;refine On Z rfl rfl Jr (Fj CQ) DI CU (Vl (r':=⟨true, .slice none 0 0,[],0⟩) V) ?_;intro E Z;simp only [EV,E1] at Z;simp only [Fa] at Z;have Z:=Z.mv2;have Z:=Z.bigOut KL hr;have Z:=Z.drop.nil (T:=3) (es:=1);have Z:=H7 (f:=RegV.res) (l:=rv) (k:=j) (x':=⟨true, .slice none 0 0,[],0⟩) Z KL V;refine Lf ?_;(repeat (refine Q4 ?_));refine' N0;(repeat (refine Q4 ?_));refine' Pg;(((have e1:s.open=⟨s.p,s.rs.set j ⟨true,[],0⟩⟩:=(by unfold EstS.open;rw [hlow,Qip V]);have e2:s.openV=j:=(by unfold EstS.openV;rw [hlow,Qip V]);exact ⟨_,rfl,by rw [e2],(Rn (s:=s.open) (by rw [e1];exact ho.set (r':=⟨true, .slice none 0 0,[],0⟩) rfl (e1 ▸ Jn ok)) DF).back hi⟩)))
   · refine' Ko;refine' Lm;refine' MJ;refine' LK;(repeat (refine Q4 ?_));(exact ⟨⟨j+1,⟨rfl,rfl,trivial⟩,V,fun m hm=>by rcases Gj m j with h|h;exact hth m h;rw [show m=j by omega,hrs];show r.there=true;simpa using O,(Z.subP CR)⟩,Qh V⟩)
 · refine' jG;(repeat (refine' nE));refine' NO;(repeat (refine Q4 ?_));refine' NB;(repeat (refine' NC));refine' zf;(((have hlow:s.low=16:=EstS.low_full ok (fun m hm=>hth m V);have e1:s.open=s:=(by unfold EstS.open;rw [hlow,Qin V]);have e2:s.openV=-1:=(by unfold EstS.openV;rw [hlow,Qin V]);exact ⟨_,rfl,by rw [e2],(Rn (by rw [e1];exact ho) (by rw [e1];exact Z)).back hi⟩)))
theorem Qfa {rs:List Reg}(h:j<rs.length):(rs.take (j+1)).countP (fun r=>r.there)=(rs.take j).countP (fun r=>r.there)+if (rs.getD j Reg.none).there then 1 else 0:=by
 rw [pJ Reg.none h,Hb,Jv]
theorem Vn (Z:St Y w L)(hi:nth L i=some (ME e s)):Ka Tryz.prog Q6v [e] w fun v B=>v= .int .i64 s.count∧St Y B L:=by
 obtain ⟨b,pp,rv,ho,Z⟩:=Tc (Z.out hi);obtain rfl:=ho.he;have ok:=ho.ok;have hlen:=ho.len;have hl:=ok.len;refine Kl Kh Tryz.func40 ?_;refine' NO;(repeat (refine Q4 ?_));refine' NO;(repeat (refine Q4 ?_));refine' Lb;refine Lf ?_;(repeat (refine Q4 ?_));refine' PS;refine iy (fun ρ' B=>∃(j n:Nat),Ki ρ' [(0, .pointer (some ⟨b,0,none⟩)),(3, .int .i64 n),(5, .int .i64 j)]∧(j≤16)∧(n=(s.rs.take j).countP (fun r=>r.there))∧St Y B (blk b 73 (pp::L9 rv)::Mp pp s.p::KV RegV.res rv::L.eraseIdx i)) (fun ρ' _=>(16 - iv (ρ' 5)).toNat) ?_ ?_
 · exact ⟨0,0,⟨rfl,rfl,rfl,trivial⟩,V,Jr,(Z.subP CR)⟩
 rintro U E ⟨j,n,hρ,hj,hn,Z⟩;obtain ⟨U,rfl⟩:=ix _ hρ;have hcl:=Jw (p:=fun r:Reg=>r.there) (l:=s.rs.take j);have htl:=JT j s.rs;refine' Kn;refine Yk rfl rfl ?_;refine Lf ?_;(repeat (refine Q4 ?_));refine Qm ?_;refine' Ab<;>intro O
 · skip
   refine' N7;(repeat (refine Q4 ?_));refine' UQ;refine Qm ?_;obtain ⟨r,hr,hrs⟩:=ho.at_ (k:=j) V;have hcs:=Qfa (rs:=s.rs) (j:=j) V;have hrg:s.rs.getD j Reg.none=r.reg:=(by rw [←hrs];unfold EstS.reg;rw [Qip V,Fa]);rw [hrg] at hcs;refine' Lp;refine' LK;(repeat (refine Q4 ?_));refine' KW;refine' LF;refine db rfl rfl V V ?_;refine' NN;((refine Pz Z rfl (Fj CQ) (Vj (j:=0) hr rfl) ?_));refine Lf ?_;(repeat (refine Q4 ?_));refine' Aa<;>intro O
   · refine' Mn;refine' Lm;refine' MJ;refine' LK;(repeat (refine Q4 ?_));(exact ⟨⟨j+1,n+1,⟨rfl,rfl,rfl,trivial⟩,V,(by rw [hcs,hn,Qip (show r.reg.there=true from O)]),(Z.subP CR)⟩,Qh V⟩)
   · refine' Ko;refine' Lm;refine' MJ;refine' LK;(repeat (refine Q4 ?_));(exact ⟨⟨j+1,n,⟨rfl,rfl,rfl,trivial⟩,V,(by rw [hcs,hn,Qin (show¬r.reg.there=true from by rw [show r.reg.there=false from O];simp)];rfl),(Z.subP CR)⟩,Qh V⟩)
 · refine' jG;(repeat (refine' nE));refine' N0;(repeat (refine Q4 ?_));refine' NB;(repeat (refine' NC));refine' zf;((have hn':s.count=(n:Int):=(by unfold EstS.count;rw [hn,Fg V]);exact ⟨_,rfl,by rw [hn'],(Rn ho Z).back0 hi⟩))
theorem EstS.shut_yes {s:EstS}(hk:s.has m=true):s.shut m=⟨s.p.gives (s.reg m).pages,s.rs.set m Reg.none⟩:=by unfold EstS.shut;rw [Qip hk,Fa]
abbrev I5:=@EstS.shut_yes
theorem EstS.shut_no {s:EstS}{k:Int}(hk:s.has k=false):s.shut k=s:=by unfold EstS.shut;rw [hk,Qin Js]
theorem Zf (k:Int)(Z:St Y w L)(hi:nth L i=some (ME e s)):Ka Tryz.prog Q7a [e, .int .i64 k] w fun v B=>v= .bool (s.has k)∧St Y B (L.set i (ME e (s.shut k))):=by
 obtain ⟨ok,b,rfl⟩:=wS Z hi
 cases hk:s.has k with
 | true=>
   obtain ⟨m,rfl,hm⟩:=H8 ok hk;have e1:=I5 hk;have hpl:=IU ok hm;refine Kl Kh Tryz.func137 ?_;refine' NO;(repeat (refine Q4 ?_));refine' RH;refine dp CO CO (kG _ Z hi) ?_;rintro v1 E ⟨rfl,Z⟩;rw [hk];refine' ND;refine Lf ?_;(repeat (refine Q4 ?_))
   all_goals
    first
    | (refine' Kd;refine' N7;(repeat (refine Q4 ?_)))
   refine' MN;obtain ⟨pp,rv,ho,Z⟩:=Vm Z hi;obtain ⟨r,hr,hrs⟩:=ho.at_ hm;have hlen:=ho.len;rw [hrs] at hpl e1;have hpl':r.pages.length≤64:=hpl;refine' NH;refine' LF;refine db rfl rfl V V ?_;refine' NN;refine Pz Z rfl (Fj CQ) (Vj (j:=1) hr rfl) ?_;have Z:=Z.bigOut PU hr;refine Qt Z CO (KL (a:=RegV.res r)) (EM _) ?_;refine' LK;(repeat (refine Q4 ?_));refine' PS;refine iy (fun ρ' B=>∃(j:Nat),Ki ρ' [(0, .pointer (some ⟨b,0,none⟩)),(1, .int .i64 m),(17,r.pv),(18, .int .i64 r.pages.length),(19, .int .i64 j)]∧(j≤r.pages.length)∧St Y B (sl 3 1 r.pv (r.pages.map Qq)::blk b 73 (pp::L9 rv)::Mp pp (s.p.gives (r.pages.take j))::KV RegV.res (rv.eraseIdx m)::L.eraseIdx i)) (fun ρ' _=>(r.pages.length - iv (ρ' 19)).toNat) ?_ ?_
   · exact ⟨0,⟨rfl,rfl,rfl,rfl,rfl,trivial⟩,V,(Z.subP CR)⟩
   rintro U E ⟨j,hρ,hj,Z⟩;obtain ⟨U,rfl⟩:=ix _ hρ;refine' Kn;refine Yk rfl rfl ?_;refine Lf ?_;(repeat (refine Q4 ?_));refine Qm ?_;refine' Ab<;>intro O
   · refine' N7;(repeat (refine Q4 ?_));refine' UQ;refine' Kn;((refine OW Z CO rfl (Fj CQ) CY ?_;intro b1 o1 hel1));((refine uL Z Ja rfl (Fj CQ) rfl V ?_));refine' LK;(repeat (refine Q4 ?_));refine' Lp;refine' LF;refine Pz Z rfl (Fj CQ) rfl ?_;refine' zm;refine dp CO CO (en _ Z (Fj CQ)) ?_;rintro v2 w2 ⟨rfl,Z⟩;simp only [EV,E1] at Z;refine' zn;refine' Lm;refine' MJ;refine' LK;(repeat (refine Q4 ?_));((exact ⟨⟨j+1,⟨rfl,rfl,rfl,rfl,rfl,trivial⟩,V,by rw [Qhh V];exact (Z.subP CR)⟩,Qh V⟩))
   · refine' jG;(repeat (refine' nE));obtain rfl:j=r.pages.length:=CP;rw [HP] at Z;refine' KW;refine mZ (cs:=[_,_,_]) Jr ?_;refine' LF;refine db rfl rfl V V ?_;refine On Z rfl rfl Jr (Fj CQ) DI CU (Vl (r':=RegV.nil) V) ?_;intro E Z;simp only [EV,E1] at Z;simp only [Fa] at Z;have Z:=Z.drop.nil (T:=3) (es:=1);have Z:=H7 (f:=RegV.res) (l:=rv) (k:=m) (x':=RegV.nil) Z PU V;simp only [EV,E1] at Z;refine Lf ?_;(repeat (refine Q4 ?_));refine' NO;(repeat (refine Q4 ?_));refine' NB;(repeat (refine' NC));refine' zf;((exact ⟨_,rfl,rfl,(Rn (s:=s.shut m) (by rw [e1];exact ho.set (k:=m) (r':=RegV.nil) rfl (e1 ▸ Jp ok m)) DF).back hi⟩))
 | false=>
   rw [EstS.shut_no hk,bQ hi];refine Kl Kh Tryz.func137 ?_;refine' NO;(repeat (refine Q4 ?_));refine' RH;refine dp CO CO (kG _ Z hi) ?_;rintro v1 E ⟨rfl,Z⟩;rw [hk];refine' ND;refine Lf ?_;(repeat (refine Q4 ?_));refine' Kf;refine' NO;(repeat (refine Q4 ?_));refine' NB;(repeat (refine' NC));refine' zf;((exact ⟨_,rfl,rfl,Z⟩))
theorem Zg {s:EstS}{k n:Int}(hk:s.has k=false):s.code k n=15:=by unfold EstS.code;rw [hk];rfl
theorem Vo {s:EstS}{k n:Int}(hk:s.has k=true)(hn:n<1∨16<n):s.code k n=1:=by unfold EstS.code;rw [hk,Qin Js,Qip hn]
theorem Qk7 {s:EstS}{k n:Int}(hk:s.has k=true)(hn:¬(n<1∨16<n))(h:(s.reg k).more n=true∧s.p.fr=[]):s.code k n=14:=by unfold EstS.code;rw [hk,Qin Js,Qin hn,Qip h]
theorem wT {s:EstS}{k n:Int}(hk:s.has k=true)(hn:¬(n<1∨16<n))(h:¬((s.reg k).more n=true∧s.p.fr=[])):s.code k n=0:=by unfold EstS.code;rw [hk,Qin Js,Qin hn,Qin h]
theorem kH {s:EstS}{k n:Int}(h:s.code k n≠0):s.get k n=s∧s.getV k n=0:=by unfold EstS.get EstS.getV;rw [Qin h,Qin h];exact ⟨rfl,rfl⟩
theorem RegV.more_iff {r:RegV}{n:Int}:r.reg.more n=true↔(r.pages=[]∨16<r.used+n):=decide_eq_true_iff
abbrev I6:=@RegV.more_iff
theorem wU {rv:List RegV}{r:RegV}(h:m<rv.length):(rv.set m r)[m]?=some r:=by simp [h]
theorem set_set {rv:List RegV}{r r':RegV}:(rv.set m r).set m r'=rv.set m r':=Gr ..
theorem eu (k n:Int)(Z:St Y w L)(hi:nth L i=some (ME e s)):Ka Tryz.prog Q81 [e, .int .i64 k, .int .i64 n] w fun v B=>v= .tuple #[.int .i64 (s.getV k n), .int .i64 (s.code k n)]∧St Y B (L.set i (ME e (s.get k n))):=by
 obtain ⟨ok,b,rfl⟩:=wS Z hi
 cases hk:s.has k with
 | false=>
   have O:=Zg (n:=n) hk;obtain ⟨e1,e2⟩:=kH (s:=s) (k:=k) (n:=n) V;rw [e1,bQ hi,e2,O];refine Kl Kh Tryz.func225 ?_;refine' N0;(repeat (refine Q4 ?_));refine' UQ;refine' KW;refine dp CO CO (kG _ Z hi) ?_;rintro v1 E ⟨rfl,Z⟩;rw [hk];refine' ND;refine' LK;(repeat (refine Q4 ?_));refine' Kf;refine' N0;(repeat (refine Q4 ?_));refine' Lq;((exact ⟨_,rfl,rfl,Z⟩))
 | true =>
   by_cases hn:n<1∨16<n
   · have O:=Vo hk hn;obtain ⟨e1,e2⟩:=kH (s:=s) (k:=k) (n:=n) V;rw [e1,bQ hi,e2,O];refine Kl Kh Tryz.func225 ?_;refine' N0;(repeat (refine Q4 ?_));refine' UQ;refine' KW;refine dp CO CO (kG _ Z hi) ?_;rintro v1 E ⟨rfl,Z⟩;rw [hk];refine' ND;refine' LK;(repeat (refine Q4 ?_));refine' Kd;refine' KX;(refine' Ae<;>intro O);all_goals (refine' Md;refine' dQ;(first|refine Tq rfl CO ?_|refine PT rfl CO ?_);refine' LK;(repeat (refine Q4 ?_));refine' Kf;refine' N0;(repeat (refine Q4 ?_));refine' Lq;exact ⟨_,rfl,rfl,Z⟩)
   · obtain ⟨m,rfl,hm⟩:=H8 ok hk
     have hpl:=IU ok hm;have hpr:=EstS.pages_rng ok hm;have hur:=Hk ok hm;refine Kl Kh Tryz.func225 ?_;refine' N0;(repeat (refine Q4 ?_));refine' UQ;refine' KW;refine dp CO CO (kG _ Z hi) ?_;rintro v1 E ⟨rfl,Z⟩;rw [hk];refine' ND;refine' LK;(repeat (refine Q4 ?_));refine' Kd;refine' KX;refine' Ri;refine' zm;((refine' Ln));(refine' Kg;refine' dO);(refine PT rfl CO ?_);refine' LK;(repeat (refine Q4 ?_));refine' TG;refine Qm ?_;obtain ⟨pp,rv,ho,Z⟩:=Vm Z hi;obtain ⟨r,hr,hrs⟩:=ho.at_ hm;have hlen:=ho.len;rw [hrs] at hpl hpr hur;have hpl':r.pages.length≤64:=hpl;have hur':0≤r.used∧r.used≤16:=hur;have Z:St Y E (sl 3 1 r.pv (r.pages.map Qq)::blk b 73 (pp::L9 rv)::Mp pp s.p::KV RegV.res (rv.eraseIdx m)::L.eraseIdx i):=Z.bigOut PU hr;have hpe:r.pages=[]↔r.pages.length=0:=FO.symm;refine' NH;refine' LF;refine db rfl rfl V V ?_;refine' LK;(repeat (refine Q4 ?_));refine R2 (fun ρ' B=>∃(r1:RegV) (p1:PoolS),Ki ρ' [(0, .pointer (some ⟨b,0,none⟩)),(1, .int .i64 m),(2, .int .i64 n),(8, .pointer (some ⟨b,1+m*3,none⟩))]∧(s.code m n=0)∧(r1.reg=s.regTo m n)∧(p1=(if (s.reg m).more n then s.p.take else s.p))∧(r1.pages.length≤65)∧(r1.pages≠[])∧(∀x∈r1.pages,0≤x∧x<64)∧(0≤r1.used∧r1.used+n≤16)∧St Y B (sl 3 1 r1.pv (r1.pages.map Qq)::blk b 73 (pp::L9 (rv.set m r1))::Mp pp p1::KV RegV.res (rv.eraseIdx m)::L.eraseIdx i)) ?_ ?_
     · skip
       (refine' XT;refine Pz Z rfl (Fj CQ) (Vj (j:=1) hr rfl) ?_;refine Qt Z CO (Fj CQ) C1 ?_;(refine' Ac<;>intro O);all_goals (refine' XS;refine' N9;(first|refine' Kj|(refine' Kg;refine Pz Z rfl (Fj CQ) (Vj (j:=2) hr rfl) ?_));refine' Mu;refine' ku;first|refine' Kj|(refine' Kg;refine' Af<;>intro O)));all_goals ((first|refine Tq rfl CO ?_|refine PT rfl CO ?_);refine Lf ?_;(repeat (refine Q4 ?_)))
       all_goals
        first
        | (refine' Kf
           all_goals (have hmo:(s.reg m).more n=true:=(by rw [hrs,I6,hpe];omega);refine' Rm;refine Pz Z rfl (Fj CQ) Jr ?_;refine pY CO (ei Z (Fj CQ)) ?_;rintro v4 w4 ⟨rfl,Z⟩;simp only [EV,E1] at Z;refine' LK;(repeat (refine Q4 ?_));refine' MN;rcases HL ok.pok with ⟨I,M,h3⟩|⟨k2,fr2,I,M,h3⟩);all_goals (refine' Lm;(first|(have hcd:=Qk7 hk hn ⟨hmo,I⟩;obtain ⟨e1,e2⟩:=kH (s:=s) (k:=m) (n:=n) V;rw [h3] at Z)|(obtain ⟨_,hk2,_⟩:=(GU ok hm).take ok.pok I M h3;have hcd:=wT hk hn (fun h=>by rw [I] at h;simp at h);have h64:=ok.n64));refine' zm;(first|(refine' iW)|(refine' Ri));refine Lf ?_;(repeat (refine Q4 ?_)))
           all_goals
            first
            | (refine' Kf;all_goals (refine' N0;(repeat (refine Q4 ?_));refine' NB;(repeat (refine' NC));refine' XM);all_goals (rw [e1,bQ hi,e2,hcd];have Z:St Y w4 (RegV.res r::blk b 73 (pp::L9 rv)::Mp pp s.p::KV RegV.res (rv.eraseIdx m)::L.eraseIdx i):=Z;have Z:=H7 (f:=RegV.res) (l:=rv) (k:=m) (x':=r) Z PU V;simp only [EV,E1] at Z;rw [iC hr] at Z;exact ⟨_,rfl,rfl,(Rn ho Z).back0 hi⟩))
            | (refine' Kd;all_goals (refine' N7;(repeat (refine Q4 ?_))))
           all_goals (refine' KW;refine' LW;refine Pz Z rfl (Fj CQ) (Vj (j:=1) hr rfl) ?_;refine' zm;refine Rw (cs:=[_]) CO Jr ?_;intro b1 E hb1 hf1 _ hk1;have Z:=Z.laid hb1 hf1 hk1;refine Mx rr (.inl ry) Z CO CO (Fj CQ) (Z.srcB1 (Fj CQ) rfl) CY ?_;intro v7 w7 Z;simp only [EV,E1] at Z;have Z:=Z.drop;refine' LW;refine pT Z rfl CO (Fj CQ) DI (by exact Z.oneC (Fj (by repeat constructor))) (Vk (r':=⟨r.there,v7,r.pages++[s.p.top],r.used⟩) (j:=1) hr V rfl) ?_;intro w8 Z;simp only [EV,E1] at Z;refine Lf ?_;(repeat (refine Q4 ?_));refine' Lp;refine' LW;refine pT Z rfl CO (Fj CQ) Ew Jr (Vk (r:=⟨r.there,v7,r.pages++[s.p.top],r.used⟩) (r':=⟨r.there,v7,r.pages++[s.p.top],0⟩) (j:=2) (wU V) V rfl) ?_;intro w9 Z;simp only [EV,E1] at Z;simp only [Fa,set_set] at Z);all_goals (refine Lf ?_;(repeat (refine Q4 ?_))))
        | (refine' Kd;have hmo:¬(s.reg m).more n=true:=(by rw [hrs,I6,hpe];omega);refine' N7;(repeat (refine Q4 ?_)))
       all_goals (first|(exact ⟨r,s.p,⟨rfl,rfl,rfl,rfl,trivial⟩,(wT hk hn fun h=>hmo h.1),(by unfold EstS.regTo;rw [Qin hmo,hrs]),(by rw [Qin hmo]),V,(by rw [Ne,hpe];omega),hpr,V,by rw [iC hr];exact (Z.subP CR)⟩)|(exact ⟨⟨r.there,v7,r.pages++[s.p.top],0⟩,s.p.take,⟨rfl,rfl,rfl,rfl,trivial⟩,hcd,(by unfold EstS.regTo;rw [Qip hmo,hrs];rfl),(by rw [Qip hmo]),CT,Js,(by intro x hx;rcases E8.1 hx with h|h;exact hpr x h;simp only [FD] at h;omega),(by simp only;omega),by simp only [E7];exact (Z.subP CR)⟩))
     rintro U E ⟨r1,p1,hρ,hcd,hreg,hp1,hpl1,hne,hrg,hu1,Z⟩;obtain ⟨U,rfl⟩:=ix _ hρ;have hr1:(rv.set m r1)[m]?=some r1:=wU V;have hlast:=QdC hne;have hmem:=hrg (r1.pages.getD (((r1.pages.length:Nat):Int) - 1).toNat 0) (Uf (by have:=G4.2 hne;omega));have hpos:=G4.2 hne;refine Qm ?_;refine pC [(0,none),(1,none),(2,none),(3,none),(4,none),(5,none),(6,none),(7,none),(8,none),(9,none),(10,none),(11,none),(12,none),(13,none),(14,none),(15,none),(16,none),(17,none),(18,some none)] Jk Jk ?_;have Z:=Z.drew;refine' MO;((refine Pz Z rfl (Fj CQ) (Vj (j:=1) hr1 rfl) ?_));refine' MO;((refine Pz Z rfl (Fj CQ) (Vj (j:=1) hr1 rfl) ?_));((refine Qt Z CO (Fj CQ) C1 ?_));refine' NY;((refine QA Z CO rfl (Fj CQ) V CY ?_;intro b1 o1 hel1));((refine uL Z Ja rfl (Fj CQ) rfl V ?_));refine' Pe;refine' MO;((refine Pz Z rfl (Fj CQ) (Vj (j:=2) hr1 rfl) ?_));refine' MJ;refine' LK;(repeat (refine Q4 ?_));refine' XT;((refine Pz Z rfl (Fj CQ) (Vj (j:=2) hr1 rfl) ?_));refine' XY;refine' LW;refine pT Z rfl CO (Fj CQ) Ew Jr (Vk (r:=r1) (r':=⟨r1.there,r1.pv,r1.pages,r1.used+n⟩) (j:=2) hr1 V rfl) ?_;intro w9 Z;simp only [EV,E1] at Z;simp only [set_set] at Z;have Z:=H7 (f:=RegV.res) (l:=rv) (k:=m) (x':=⟨r1.there,r1.pv,r1.pages,r1.used+n⟩) Z PU V;simp only [EV,E1] at Z;refine Lf ?_;(repeat (refine Q4 ?_));refine' KW;refine' LK;(repeat (refine Q4 ?_));refine' NB;(repeat (refine' NC));refine' XM;(((have e1:s.get m n=⟨p1,s.rs.set m ((s.regTo m n).use n)⟩:=(by unfold EstS.get;rw [Qip hcd,hp1,Fa]);have e2:s.getV m n=r1.pages.getD (((r1.pages.length:Nat):Int) - 1).toNat 0*16+r1.used:=(by unfold EstS.getV;rw [Qip hcd,←hreg,hlast];rfl);exact ⟨_,rfl,by rw [e2,hcd],(Rn (s:=s.get m n) (by rw [e1];exact ho.set (k:=m) (r':=⟨r1.there,r1.pv,r1.pages,r1.used+n⟩) (by rw [←hreg];rfl) (e1 ▸ JH ok m n)) DF).back hi⟩)))
theorem big_nil:∀(n:Nat){Y:Cx}{w:World}{L:List Res},St Y w L→St Y w (KV RegV.res (List.replicate n RegV.nil)::L)
 | 0,_,_,_,h=>h.emp (r:=emp) fun _ h=>h
 | n+1,_,_,_,h=>by
   have I:=(big_nil n h).nil (T:=3) (es:=1);exact G8 (r:=RegV.res RegV.nil) I
theorem QeR (n:Nat):(List.replicate n RegV.nil).map RegV.reg=List.replicate n Reg.none:=by rw [HA];rfl
theorem ew (n:Int)(Z:St Y w L):Ka Tryz.prog Qhk [.int .i64 n] w fun v B=>
 (n<0∨64<n)∧v= .tuple #[.pointer none, .agg ⟨[.int .i64 1, .int .i64 (-1)]⟩]∧St Y B L∨
 ∃(m:Nat) (b:Nat),n=m∧m≤64∧v= .tuple #[.pointer (some ⟨b,0,none⟩), .agg ⟨[.int .i64 0, .int .i64 0]⟩]∧St Y B (ME (.pointer (some ⟨b,0,none⟩)) (EstS.mk0 m)::L):=by
 refine Kl Kh Tryz.func79 ?_;refine' KX;refine Qb Z ?_;(intro b1 E Z);refine Lf ?_;(repeat (refine Q4 ?_));refine' KX;refine pY CO (kF _ Z) ?_;rintro v3 w3 (⟨hn,rfl,Z⟩|⟨m,b,rfl,hm,rfl,Z⟩);all_goals (refine' Rk;intro b1 E Z;refine' zm;refine On Z rfl rfl Jr (Fj CQ) Js DQ Jr ?_;intro E Z;simp only [EV,E1] at Z;refine Lf ?_;(repeat (refine Q4 ?_));refine' P2;refine' MT;refine Pz Z rfl (Fj CQ) Jr ?_;refine' Y4;refine Lf ?_;(repeat (refine Q4 ?_)))
 all_goals
  first
  | (refine' Kf
     refine Qm ?_;refine pC [(0,none),(1,none),(2,some none)] Jk Jk ?_;have Z:=Z.drew;((refine pS Z rfl (Fj CQ) Jr Jr ?_));refine' zm;refine On Z rfl rfl Jr (Fj CQ) Js DQ Jr ?_;intro E Z;simp only [EV,E1] at Z;refine Lf ?_;(repeat (refine Q4 ?_));refine' NB;(repeat (refine' NC));((refine Px CO CO (Q3 (n:=2) Jk Jk (Z.blkAt (Fj CQ)) Jr Jr) ?_;exact ⟨_,rfl, .inl ⟨hn,rfl,(Z.subP CR)⟩⟩)))
  | (refine' Kd;refine' N7;(repeat (refine Q4 ?_)))
 refine Qm ?_;have Z:=big_nil 16 Z;refine' Lp;refine pO (cs:=[_,_,_,_,_,_,_,_,_,_,_,_,_,_,_,_,_,_,_,_,_,_,_,_,_,_,_,_,_,_,_,_,_,_,_,_,_,_,_,_,_,_,_,_,_,_,_,_,_]) CO Jr ?_;refine Ma Z CO Jr ?_;(intro b1 E Z);refine mZ (cs:=[_,_]) Jr ?_;refine' zm;refine On Z rfl rfl Jr (Fj CQ) Js DQ Jr ?_;intro E Z;simp only [EV,E1] at Z;refine Lf ?_;(repeat (refine Q4 ?_));refine' NB;(repeat (refine' NC));(((refine Px CO CO (Q3 (n:=2) Jk Jk (Z.blkAt (Fj CQ)) Jr Jr) ?_;exact ⟨_,rfl, .inr ⟨m,_,rfl,hm,rfl,Rn (s:=EstS.mk0 m) (rv:=List.replicate 16 RegV.nil) ⟨rfl,QeR 16,JF hm⟩ (Z.subP CR)⟩⟩)))
end
end Go.Proofs.YteflkifmgnpbhaaGreat
namespace Go.Lir
section
structure Val where
 kind:Int
 region:Int
 thing:Int
 n:Int
deriving DecidableEq
def Val.cells (v:Val):List Value:=[.int .i64 v.kind, .int .i64 v.region, .int .i64 v.thing, .int .i64 v.n]
def Val.v (v:Val):Value:= .agg ⟨v.cells⟩
def Val.zero:Val:=⟨0,0,0,0⟩
structure Thg where
 array:Bool
 l:List Val
structure Rgn where
 there:Bool
 l:List Thg
 pages:Int
 used:Int
def Rgn.none:Rgn:=⟨false,[],0,0⟩
structure HpS where
 l:List Rgn
 left:Int
def HpS.reg (s:HpS)(k:Int):Rgn:=if 0≤k then s.l.getD k.toNat Rgn.none else Rgn.none
def HpS.has (s:HpS)(k:Int):Bool:=(s.reg k).there
def HpS.live (s:HpS):Nat:=s.l.countP fun r=>r.there
def HpS.full (s:HpS):Bool:=decide (s.live=16)
def HpS.open (s:HpS):HpS:=if s.full then s else ⟨s.l++[⟨true,[],0,0⟩],s.left⟩
def HpS.openV (s:HpS):Val:=if s.full then Val.zero else ⟨2,s.l.length,0,0⟩
def HpS.can (s:HpS)(v:Val):Bool:=decide (v.kind=2) && s.has v.region
def HpS.shut (s:HpS)(v:Val):HpS:=if s.can v then ⟨s.l.set v.region.toNat Rgn.none,s.left+(s.reg v.region).pages⟩ else s
def Rgn.more (r:Rgn)(n:Int):Bool:=decide (r.pages=0∨16<r.used+n)
def Rgn.room (r:Rgn)(n:Int):Rgn:=if r.more n then ⟨r.there,r.l,r.pages+1,n⟩ else ⟨r.there,r.l,r.pages,r.used+n⟩
def Rgn.push (r:Rgn)(t:Thg):Rgn:=⟨r.there,r.l++[t],r.pages,r.used⟩
def HpS.code (s:HpS)(v:Val)(n:Int):Int:=if !s.can v then 20 else if (s.reg v.region).more n∧s.left=0 then 14 else 0
def HpS.put (s:HpS)(v:Val)(n:Int)(t:Thg):HpS:=if s.code v n=0 then ⟨s.l.set v.region.toNat (((s.reg v.region).room n).push t),if (s.reg v.region).more n then s.left - 1 else s.left⟩ else s
def HpS.putV (s:HpS)(v:Val)(kind n:Int):Val:=if s.code v n=0 then ⟨kind,v.region,(s.reg v.region).l.length,0⟩ else Val.zero
def HpS.thg (s:HpS)(k t:Nat):Thg:=(s.reg k).l.getD t ⟨false,[]⟩
def HpS.at_ (s:HpS)(v:Val):Option (Nat×Nat):=
 if (v.kind=3∨v.kind=4)∧s.has v.region=true∧0≤v.thing∧v.thing<(s.reg v.region).l.length∧(s.thg v.region.toNat v.thing.toNat).array=decide (v.kind=4) then some (v.region.toNat,v.thing.toNat) else none
def HpS.get (s:HpS)(v:Val)(k:Int):Val×Int:=match s.at_ v with
 | none=>(Val.zero,20)
 | some (r,t)=>if 0≤k∧k<(s.thg r t).l.length then ((s.thg r t).l.getD k.toNat Val.zero,0) else (Val.zero,1)
def HpS.setC (s:HpS)(v:Val)(k:Int)(x:Val):Int:=match s.at_ v with
 | none=>20
 | some (r,t)=>if (s.thg r t).array=true∧x.kind≠1 then 20 else if 0≤k∧k<(s.thg r t).l.length then 0 else 1
def Rgn.upd (r:Rgn)(t:Nat)(x:Thg):Rgn:=⟨r.there,r.l.set t x,r.pages,r.used⟩
def Thg.upd (t:Thg)(k:Nat)(x:Val):Thg:=⟨t.array,t.l.set k x⟩
def HpS.set (s:HpS)(v:Val)(k:Int)(x:Val):HpS:=match s.at_ v with
 | none=>s
 | some (r,t)=>if s.setC v k x=0 then ⟨s.l.set r ((s.reg r).upd t ((s.thg r t).upd k.toNat x)),s.left⟩ else s
def HpS.len (s:HpS)(v:Val):Int×Int:=match s.at_ v with
 | none=>(0,20)
 | some (r,t)=>((s.thg r t).l.length,0)
def LN (l:List Val):Int:=if l.length=0 then 1 else l.length
def HpS.tuple (s:HpS)(v:Val)(l:List Val):HpS:=s.put v (LN l) ⟨false,l⟩
def Ow (n:Int):List Val:=List.replicate n.toNat ⟨1,0,0,0⟩
def HpS.arrC (s:HpS)(v:Val)(n:Int):Int:=if n<0∨15<n then 1 else s.code v (n+1)
def HpS.arr (s:HpS)(v:Val)(n:Int):HpS:=if n<0∨15<n then s else s.put v (n+1) ⟨true,Ow n⟩
def HpS.arrV (s:HpS)(v:Val)(n:Int):Val:=if n<0∨15<n then Val.zero else s.putV v 4 (n+1)

structure HpS.Ok (N:Nat) (s:HpS):Prop where
 len:s.l.length≤N
 each:∀r∈s.l,r.l.length≤N∧(∀t∈r.l,t.l.length≤1000)∧0≤r.pages∧0≤r.used∧r.used≤1000∧(r.there=false→r=Rgn.none)
 left:0≤s.left
 sum:s.left+(s.l.map Rgn.pages).sum≤1000
 live:s.live≤16

theorem rB (h:l.Perm l'):l.sum=l'.sum:=by
 induction h with
 | nil=>rfl
 | cons x _ ih=>rw [G6,G6,ih]
 | swap x y l=>simp only [G6];omega
 | trans _ _ I M=>rw [I,M]
theorem rC (h:∀x∈l,0≤x):0≤l.sum:=by
 induction l with
 | nil=>simp
 | cons x l ih=>rw [G6];have:=h x Js;have:=ih fun y hy=>h y (by simp [hy]);omega
theorem kI {α:Type}:∀{l:List α}{k:Nat}{x:α},l[k]?=some x→l.Perm (x::l.eraseIdx k)
 | [],_,_,h=>by simp at h
 | y::l,0,x,h=>by simp at h;subst h;exact .refl _
 | y::l,k+1,x,h=>((kI (l:=l) C5).cons y).trans (.swap _ _ _)
theorem nO {α:Type}:∀{l:List α}{k:Nat}{x:α},k<l.length→(l.set k x).Perm (x::l.eraseIdx k)
 | [],_,_,h=>by simp at h
 | y::l,0,x,h=> .refl _
 | y::l,k+1,x,h=>((nO (l:=l) C5).cons y).trans (.swap _ _ _)
theorem wV {l:List Rgn}{k:Nat}{r r':Rgn}(hr:l[k]?=some r):((l.set k r').map Rgn.pages).sum+r.pages=(l.map Rgn.pages).sum+r'.pages:=by
 have I:=rB ((kI hr).map Rgn.pages);have M:=rB ((nO (x:=r') (EJ.1 hr).1).map Rgn.pages);rw [Ga,G6] at I M;rw [I,M];omega
theorem ey {l:List Rgn}{k:Nat}{r r':Rgn}(hr:l[k]?=some r):((l.set k r').countP fun r=>r.there)+(if r.there then 1 else 0)=(l.countP fun r=>r.there)+if r'.there then 1 else 0:=by
 have I:=(kI hr).countP_eq fun r:Rgn=>r.there;have M:=(nO (x:=r') (EJ.1 hr).1).countP_eq fun r:Rgn=>r.there;rw [List.countP_cons] at I M;rw [I,M];omega
theorem HpS.Ok.pages {s:HpS}(h:s.Ok N):s.left≤1000∧∀r∈s.l,r.pages+s.left≤1000:=by
 have I:=h.sum;have M:=rC (l:=s.l.map Rgn.pages) (by intro x hx;obtain ⟨r,hr,rfl⟩:=Fq.1 hx;exact (h.each r hr).2.2.1);have h3:=h.left;refine ⟨V,fun r hr=>?_⟩;obtain ⟨k,hk⟩:=FL.1 hr;have h4:=rB ((kI hk).map Rgn.pages);rw [Ga,G6] at h4;have h5:=rC (l:=(s.l.eraseIdx k).map Rgn.pages) (by intro x hx;obtain ⟨r,hr,rfl⟩:=Fq.1 hx;exact (h.each r (List.mem_of_mem_eraseIdx hr)).2.2.1);omega
theorem Li {l:List α}{k:Nat}{x y:α}(h:y∈l.set k x):y=x∨y∈l:=(HH h).symm
theorem HpS.Ok.mono {s:HpS}(h:s.Ok N)(hm:N≤M0q):s.Ok M0q:=⟨by have:=h.len;omega,fun r hr=>by obtain ⟨I,M⟩:=h.each r hr;exact ⟨V,M⟩,h.left,h.sum,h.live⟩
theorem HpS.ok_set {s:HpS}(h:s.Ok N){k:Nat}{r r':Rgn}(hr:s.l[k]?=some r){left:Int}(hM:N≤M0q)(h0:0≤left)(hs:left+r'.pages=s.left+r.pages)(hl:s.live+(if r'.there then 1 else 0)≤16+if r.there then 1 else 0)
 (he:r'.l.length≤M0q∧(∀t∈r'.l,t.l.length≤1000)∧0≤r'.pages∧0≤r'.used∧r'.used≤1000∧(r'.there=false→r'=Rgn.none)):(⟨s.l.set k r',left⟩:HpS).Ok M0q:=by
 have I:=wV (r':=r') hr;have M:=ey (r':=r') hr;have h3:=h.sum;have h4:=h.len;refine ⟨by rw [Fh];omega,fun x hx=>?_,h0,by show left+((s.l.set k r').map Rgn.pages).sum≤1000;omega,?_⟩
 · rcases Li hx with rfl|hx
   · exact he
   · obtain ⟨g1,g2⟩:=h.each x hx;exact ⟨V,g2⟩
 · show (s.l.set k r').countP (fun r=>r.there)≤16;have:s.live=s.l.countP fun r=>r.there:=rfl;omega
abbrev IV:=@HpS.ok_set
theorem HpS.reg_get {s:HpS}{k:Nat}{r:Rgn}(h:s.l[k]?=some r):s.reg k=r:=by
 unfold HpS.reg;rw [Qip V,Fa,EL,h];rfl
abbrev JI:=@HpS.reg_get
theorem HpS.ok_put {s:HpS}(h:s.Ok N){v:Val}{n:Int}(hn:1≤n∧n≤1000){t:Thg}(ht:t.l.length≤1000):(s.put v n t).Ok (N+1):=by
 unfold HpS.put;split
 · rename_i O
   have hcan:s.can v=true:=by
    unfold HpS.code at O
    cases hx:s.can v with
    | true=>rfl
    | false=>rw [hx] at O;cases O
   unfold HpS.can at hcan;rw [EW] at hcan;have hh:=hcan.2;unfold HpS.has HpS.reg at hh;split at hh
   · rename_i h0
     rw [EL] at hh
     cases hk:s.l[v.region.toNat]? with
     | none=>rw [hk] at hh;cases hh
     | some r=>
       have hrg:s.reg v.region=r:=(by have:=JI hk;rw [Fi h0] at this;exact this);have hth:r.there=true:=(by rw [hk] at hh;exact hh);rw [hrg];have he:=h.each r (EK hk);have hl:=h.left;have hlive:=h.live
       have hne:r.more n=true→s.left≠0:=fun hm e=>by
        unfold HpS.code at O;rw [hrg] at O;split at O
        · cases O
        · rw [Qip ⟨hm,e⟩] at O;cases O
       (have hu:¬r.more n=true→r.used+n≤16:=fun hm=>by unfold Rgn.more at hm;rw [decide_eq_true_iff] at hm;omega);refine IV h hk V ?_ ?_ ?_ ?_
       · split
         · rename_i hm;have:=hne hm;omega
         · exact hl
       · unfold Rgn.room;split<;>simp only [Rgn.push]<;>omega
       · unfold Rgn.room;split<;>simp only [Rgn.push,hth,if_true]<;>omega
       · obtain ⟨g1,g2,g3,g4,g5,g6⟩:=he
         have e1:(r.room n).l=r.l∧(r.room n).there=r.there∧0≤(r.room n).pages∧0≤(r.room n).used∧(r.room n).used≤1000:=by
          unfold Rgn.room;split
          · exact Cp
          · rename_i hm;have:=hu hm;exact Cp
         obtain ⟨e1,e2,e3,e4,e5⟩:=e1;refine ⟨by simp [Rgn.push,e1];omega,fun x hx=>?_,e3,e4,e5,fun hf=>?_⟩
         · simp only [Rgn.push,e1,E8,FD] at hx
           rcases hx with hx|rfl
           · exact g2 x hx
           · exact ht
         · simp only [Rgn.push,e2,hth] at hf;cases hf
   · cases hh
 · exact h.mono V
abbrev IW:=@HpS.ok_put
theorem HpS.ok_shut {s:HpS}(h:s.Ok N){r:Rgn}(hk:s.l[m]?=some r):(⟨s.l.set m Rgn.none,s.left+r.pages⟩:HpS).Ok N:=by
 have he:=h.each r (EK hk);have hl:=h.left;have hlive:=h.live;exact IV h hk (E6 _) V (by simp [Rgn.none]) (by simp [Rgn.none];split<;>omega) ⟨by simp [Rgn.none],by simp [Rgn.none],by simp [Rgn.none],by simp [Rgn.none],by simp [Rgn.none],fun _=>rfl⟩
abbrev JJ:=@HpS.ok_shut
theorem HpS.ok_open {s:HpS}(h:s.Ok N):s.open.Ok (N+1):=by
 unfold HpS.open;split
 · exact h.mono V
 · rename_i hf
   have hl:s.live≠16:=fun e=>hf (decide_eq_true e);have hlive:=h.live;have M:=h.sum;have h3:=h.len;refine ⟨by simp;omega,fun r hr=>?_,h.left,by simp;omega,?_⟩
   · rcases E8.1 hr with hr|hr
     · obtain ⟨g1,g2⟩:=h.each r hr;exact ⟨V,g2⟩
     · simp only [FD] at hr;subst hr;exact ⟨by simp,by simp,by simp,by simp,by simp,fun e=>by cases e⟩
   · show (s.l++[(⟨true,[],0,0⟩:Rgn)]).countP (fun r:Rgn=>r.there)≤16;rw [Hb];have:s.live=s.l.countP fun r:Rgn=>r.there:=rfl;simp;omega
abbrev JK:=@HpS.ok_open
end
section
abbrev wr (n:Int):Int:=IntKind.i64.wrap n
def Oe (a b:Int):Int×Bool:=if b=0 then (0,false) else if b=-1 then (wr (0 - a),true) else (wr (a.tdiv b),true)
def Lk (k a b:Int):Int×Bool:=
 if k=1 then (wr (a+b),true) else if k=2 then (wr (a - b),true) else if k=3 then (wr (a*b),true)
 else if k=4 then Oe a b else if k=5 then (if (Oe a b).2 then (wr (a - wr ((Oe a b).1*b)),true) else (0,false))
 else if k=6 then (if a<b then 1 else 0,true) else if k=7 then (if a=b then 1 else 0,true) else if k=8 then (M0 .and .i64 a b,true) else if k=9 then (M0 .xor .i64 a b,true) else (0,false)
end
section
structure Frm where
 f:Nat
 b:Nat
 i:Nat
 vals:List Val
 regs:List Int
structure MS where
 h:HpS
 g:Frm
 st:List Frm
 inp:List Int
 out:List Int
 fuel:Nat
inductive Stp where
 | go (s:MS)
 | halt (e:Int)
 | done (l:List Int)
 | lost
def Ls {α:Type}(x:Option α)(f:α→Stp):Stp:=match x with
 | none=> .lost
 | some a=>f a
theorem Qu {x:Option α}{f:α→Stp}(h:x=none):Ls x f= .lost:=by rw [h];rfl
theorem Q1 {x:Option α}{f:α→Stp}{a:α}(h:x=some a):Ls x f=f a:=by rw [h];rfl
abbrev KE (n:Int):Val:=⟨1,0,0,n⟩
def Frm.val (g:Frm)(k:Int):Option Val:=if k<0 then none else g.vals[k.toNat]?
def Frm.num (g:Frm)(k:Int):Option Int:=match g.val k with
 | none=>none
 | some v=>if v.kind=1 then some v.n else none
def Frm.args (g:Frm):List Int→Option (List Val)
 | []=>some []
 | k::l=>match g.val k,g.args l with
   | some v,some vs=>some (v::vs)
   | _,_=>none
def Frm.reg (g:Frm)(k:Int):Option Int:=if k<0 then none else g.regs[k.toNat]?
def Frm.rgs (g:Frm):List Int→Option (List Int)
 | []=>some []
 | k::l=>match g.reg k,g.rgs l with
   | some v,some vs=>some (v::vs)
   | _,_=>none
def MS.put (s:MS)(vs:List Val):MS:=⟨s.h,⟨s.g.f,s.g.b,s.g.i,s.g.vals++vs,s.g.regs⟩,s.st,s.inp,s.out,s.fuel⟩
def MS.hp (s:MS)(h:HpS):MS:=⟨h,s.g,s.st,s.inp,s.out,s.fuel⟩
def MS.fr (s:MS)(g:Frm):MS:=⟨s.h,g,s.st,s.inp,s.out,s.fuel⟩
def MS.made (s:MS)(e:Int)(h:HpS)(v:Val):Stp:=if e=14 then .halt 6 else if e≠0 then .lost else .go ((s.hp h).put [v])
def NP (v:Val)(e:Int)(k:Stp):Stp:=if v.kind≠4 then .lost else if e=1 then .halt 2 else if e≠0 then .lost else k
def MS.newR (s:MS):Stp:=if s.h.full=true then .halt 6 else .go ((⟨s.h.open,⟨s.g.f,s.g.b,s.g.i,s.g.vals,s.g.regs++[s.h.openV.region]⟩,s.st,s.inp,s.out,s.fuel⟩:MS).put [s.h.openV])
def MS.inS (s:MS):Stp:=match s.inp with
 | []=> .halt 4
 | n::r=> .go ((⟨s.h,s.g,s.st,r,s.out,s.fuel⟩:MS).put [KE n])
def MS.outS (s:MS)(n:Int):Stp:=if s.out.length=2000 then .halt 8 else .go ⟨s.h,s.g,s.st,s.inp,s.out++[n],s.fuel⟩
def MS.call (m:Module)(s:MS)(x:Ins):Stp:=match m.funcs[x.k.toNat]? with
 | none=> .lost
 | some g=>Ls (s.g.rgs x.regs) fun rs=>Ls (s.g.args x.args) fun vs=>
   if (rs.length:Int)≠g.regs∨vs.length≠g.params.length then .lost else if s.st.length+1=40 then .halt 5 else .go ⟨s.h,⟨x.k.toNat,0,0,vs,rs⟩,s.g::s.st,s.inp,s.out,s.fuel⟩
def MS.ins (m:Module)(s:MS)(x:Ins):Stp:=
 if x.op=1 then .go (s.put [KE x.n])
 else if x.op=2 then Ls (s.g.num x.a) fun a=>Ls (s.g.num x.b) fun b=>if (Lk x.k a b).2=false then .halt 1 else .go (s.put [KE (Lk x.k a b).1])
 else if x.op=3 then s.newR
 else if x.op=4 then Ls (s.g.val x.a) fun v=>if s.h.can v=false then .lost else .go (s.hp (s.h.shut v))
 else if x.op=5 then Ls (s.g.val x.a) fun v=>Ls (s.g.args x.args) fun l=>s.made (s.h.code v (LN l)) (s.h.tuple v l) (s.h.putV v 3 (LN l))
 else if x.op=6 then Ls (s.g.val x.a) fun v=>if v.kind≠3 then .lost else if (s.h.get v x.k).2≠0 then .lost else .go (s.put [(s.h.get v x.k).1])
 else if x.op=7 then Ls (s.g.val x.a) fun v=>if v.kind≠3 then .lost else Ls (s.g.val x.b) fun y=>if s.h.setC v x.k y≠0 then .lost else .go (s.hp (s.h.set v x.k y))
 else if x.op=8 then Ls (s.g.val x.a) fun v=>Ls (s.g.num x.b) fun n=>if n<0∨15<n then .halt 3 else s.made (s.h.arrC v n) (s.h.arr v n) (s.h.arrV v n)
 else if x.op=9 then Ls (s.g.val x.a) fun v=>Ls (s.g.num x.b) fun n=>NP v (s.h.get v n).2 (.go (s.put [(s.h.get v n).1]))
 else if x.op=10 then Ls (s.g.val x.a) fun v=>Ls (s.g.num x.b) fun n=>Ls (s.g.num x.c) fun c=>NP v (s.h.setC v n (KE c)) (.go (s.hp (s.h.set v n (KE c))))
 else if x.op=11 then Ls (s.g.val x.a) fun v=>NP v (s.h.len v).2 (.go (s.put [KE (s.h.len v).1]))
 else if x.op=12 then s.inS
 else if x.op=13 then Ls (s.g.num x.a) fun n=>s.outS n
 else s.call m x
def MS.to (f:Fun)(s:MS)(t:To):Stp:=match f.blocks[t.block.toNat]? with
 | none=> .lost
 | some b=>Ls (s.g.rgs t.regs) fun rs=>Ls (s.g.args t.args) fun vs=>
   if (rs.length:Int)≠b.regs∨vs.length≠b.params.length then .lost else .go (s.fr ⟨s.g.f,t.block.toNat,0,vs,rs⟩)
def KB:List Val→Option (List Int)
 | []=>some []
 | v::l=>match KB l with
   | none=>none
   | some ns=>if v.kind=1 then some (v.n::ns) else none
def MS.ret (f:Fun)(s:MS)(e:Tail):Stp:=Ls (s.g.args e.args) fun vs=>if vs.length≠f.results.length then .lost else match s.st with
 | c::st=> .go ((⟨s.h,c,st,s.inp,s.out,s.fuel⟩:MS).put vs)
 | []=>match KB vs with
   | none=> .lost
   | some ns=> .done ns
def MS.fin (f:Fun)(s:MS)(e:Tail):Stp:=
 if e.op=1 then s.to f e.yes
 else if e.op=2 then Ls (s.g.num e.a) fun n=>if n≠0 then s.to f e.yes else s.to f e.no
 else s.ret f e
def MS.next (s:MS):MS:=s.fr ⟨s.g.f,s.g.b,s.g.i+1,s.g.vals,s.g.regs⟩
def MS.one (m:Module)(s:MS):Stp:=match m.funcs[s.g.f]? with
 | none=> .lost
 | some f=>match f.blocks[s.g.b]? with
   | none=> .lost
   | some b=>match b.code[s.g.i]? with
     | some x=>s.next.ins m x
     | none=>s.fin f b.fin
def MS.place (m:Module)(s:MS):Int:=match m.funcs[s.g.f]? with
 | none=>0
 | some f=>match f.blocks[s.g.b]? with
   | none=>0
   | some b=>if s.g.i<b.code.length then PX s.g.f s.g.b s.g.i else PW s.g.f s.g.b
def MS.tick (s:MS):MS:=⟨s.h,s.g,s.st,s.inp,s.out,s.fuel+1⟩
inductive Run where
 | on (s:MS)
 | over (s:MS) (e:Int) (back:List Int)
 | stuck (f:Mj)
def Run.of (m:Module)(s:MS):Stp→Run
 | .go s'=> .on s'
 | .halt e=> .over s.tick e []
 | .done l=> .over s.tick 0 l
 | .lost=> .stuck (20,s.place m)
def Run.step (m:Module)(most:Nat):Run→Run
 | .on s=>if s.fuel=most then .over s 7 [] else .of m s (s.tick.one m)
 | r=>r
def Run.steps (m:Module)(most:Nat):Nat→Run→Run
 | 0,r=>r
 | k+1,r=>Run.steps m most k (r.step m most)
def MS.start (inp:List Int)(pages:Int):MS:=⟨⟨[],pages⟩,⟨0,0,0,[],[]⟩,[],inp,[],0⟩
structure Oc where
 e:Int
 back:List Int
 out:List Int
 fuel:Int
def Run.oc:Run→Oc
 | .on s=>⟨0,[],s.out,s.fuel⟩
 | .over s e back=>⟨e,back,s.out,s.fuel⟩
 | .stuck _=>⟨0,[],[],0⟩
def Run.flt:Run→Mj
 | .stuck f=>f
 | _=>(0,0)
def Run.all (m:Module)(inp:List Int)(most:Nat)(pages:Int):Run:=Run.steps m most (most+1) (.on (MS.start inp pages))
end
end Go.Lir
namespace Go.Proofs.YteflkifmgnpbhaaGreat
open Go.Lir
structure RFrm where
 f:Nat
 b:Nat
 i:Nat
 vals:List Int
structure RS where
 e:EstS
 g:RFrm
 st:List RFrm
 inp:List Int
 out:List Int
 fuel:Nat
inductive RStp where
 | go (s:RS)
 | halt (e:Int)
 | done (l:List Int)
 | crash
def Mb {α:Type}(x:Option α)(f:α→RStp):RStp:=match x with
 | none=> .crash
 | some a=>f a
theorem Ox {x:Option α}{f:α→RStp}{a:α}(h:x=some a):Mb x f=f a:=by rw [h];rfl
def RFrm.val (g:RFrm)(k:Int):Option Int:=if k<0 then none else g.vals[k.toNat]?
def RFrm.args (g:RFrm):List Int→Option (List Int)
 | []=>some []
 | k::l=>match g.val k,g.args l with
   | some v,some vs=>some (v::vs)
   | _,_=>none
def RS.put (s:RS)(vs:List Int):RS:=⟨s.e,⟨s.g.f,s.g.b,s.g.i,s.g.vals++vs⟩,s.st,s.inp,s.out,s.fuel⟩
def RS.es (s:RS)(e:EstS):RS:=⟨e,s.g,s.st,s.inp,s.out,s.fuel⟩
def RS.fr (s:RS)(g:RFrm):RS:=⟨s.e,g,s.st,s.inp,s.out,s.fuel⟩
def EstS.word (s:EstS)(i:Int):Int:=s.p.word i
def EstS.store (s:EstS)(i x:Int):EstS:=⟨s.p.store i x,s.rs⟩
def EstS.storesA (s:EstS)(at_:Int)(k:Nat):List Int→EstS
 | []=>s
 | v::l=>(s.store (wr (at_+k)) v).storesA at_ (k+1) l
def EstS.stores (s:EstS)(at_:Int)(l:List Int):EstS:=s.storesA at_ 0 l
theorem EstS.storesA_one {at_ v:Int}:∀{l:List Int}{s:EstS}{k:Nat},s.storesA at_ k (l++[v])=(s.storesA at_ k l).store (wr (at_+(k+l.length:Nat))) v
 | [],s,k=>by simp [EstS.storesA]
 | a::l,s,k=>by
   rw [F7,EstS.storesA,EstS.storesA,EstS.storesA_one (l:=l),EY,show k+1+l.length=k+(l.length+1) by omega]
abbrev IE:=@EstS.storesA_one
theorem EstS.stores_take {s:EstS}{at_ v:Int}(h:l[q]?=some v):s.stores at_ (l.take (q+1))=(s.stores at_ (l.take q)).store (wr (at_+q)) v:=by
 obtain ⟨hq,hv⟩:=EJ.mp h;rw [HK,h];show s.storesA at_ 0 (l.take q++[v])=_;rw [IE,FY,IH V,Gi];rfl
def RS.gotR (s:RS)(r n:Int)(k:EstS→Int→RStp):RStp:=if s.e.code r n=14 then .halt 6 else k (s.e.get r n) (s.e.getV r n)
def RS.atR (s:RS)(a k:Int)(c:Int→RStp):RStp:=if k<0∨s.e.word a≤k then .halt 2 else c (wr (wr (a+1)+k))
def RS.inR (s:RS):RStp:=match s.inp with
 | []=> .halt 4
 | n::r=> .go ((⟨s.e,s.g,s.st,r,s.out,s.fuel⟩:RS).put [n])
def RS.outR (s:RS)(n:Int):RStp:=if s.out.length=2000 then .halt 8 else .go ⟨s.e,s.g,s.st,s.inp,s.out++[n],s.fuel⟩
def RS.callR (s:RS)(k:Int)(vs:List Int):RStp:=if s.st.length+1=40 then .halt 5 else .go ⟨s.e,⟨k.toNat,0,0,vs⟩,s.g::s.st,s.inp,s.out,s.fuel⟩
def RS.ins (m:Module)(s:RS)(x:Ins):RStp:=
 if x.op=1 then .go (s.put [x.n])
 else if x.op=2 then Mb (s.g.val x.a) fun a=>Mb (s.g.val x.b) fun b=>if (Lk x.k a b).2=false then .halt 1 else .go (s.put [(Lk x.k a b).1])
 else if x.op=3 then (if s.e.openV<0 then .halt 6 else .go ((s.es s.e.open).put [s.e.openV]))
 else if x.op=4 then Mb (s.g.val x.a) fun a=> .go (s.es (s.e.shut a))
 else if x.op=5 then Mb (s.g.val x.a) fun a=>Mb (s.g.args x.args) fun l=>s.gotR a (max (x.args.length:Int) 1) fun e at_=> .go ((s.es (e.stores at_ l)).put [at_])
 else if x.op=6 then Mb (s.g.val x.a) fun a=> .go (s.put [s.e.word (wr (a+x.k))])
 else if x.op=7 then Mb (s.g.val x.a) fun a=>Mb (s.g.val x.b) fun b=> .go (s.es (s.e.store (wr (a+x.k)) b))
 else if x.op=8 then Mb (s.g.val x.a) fun a=>Mb (s.g.val x.b) fun n=>if n<0∨15<n then .halt 3 else s.gotR a (1+n) fun e at_=> .go ((s.es (e.store at_ n)).put [at_])
 else if x.op=9 then Mb (s.g.val x.a) fun a=>Mb (s.g.val x.b) fun k=>s.atR a k fun q=> .go (s.put [s.e.word q])
 else if x.op=10 then Mb (s.g.val x.a) fun a=>Mb (s.g.val x.b) fun k=>Mb (s.g.val x.c) fun c=>s.atR a k fun q=> .go (s.es (s.e.store q c))
 else if x.op=11 then Mb (s.g.val x.a) fun a=> .go (s.put [s.e.word a])
 else if x.op=12 then s.inR
 else if x.op=13 then Mb (s.g.val x.a) fun n=>s.outR n
 else Mb (s.g.args x.args) fun vs=>s.callR x.k vs
def RS.to (s:RS)(t:To):RStp:=Mb (s.g.args t.args) fun vs=> .go (s.fr ⟨s.g.f,t.block.toNat,0,vs⟩)
def RS.fin (s:RS)(e:Tail):RStp:=
 if e.op=3 then Mb (s.g.args e.args) fun vs=>match s.st with
  | c::st=> .go ((⟨s.e,c,st,s.inp,s.out,s.fuel⟩:RS).put vs)
  | []=> .done vs
 else if e.op=2 then Mb (s.g.val e.a) fun n=>if n=0 then s.to e.no else s.to e.yes
 else s.to e.yes
def RS.next (s:RS):RS:=s.fr ⟨s.g.f,s.g.b,s.g.i+1,s.g.vals⟩
def RS.one (m:Module)(s:RS):RStp:=match m.funcs[s.g.f]? with
 | none=> .crash
 | some f=>match f.blocks[s.g.b]? with
   | none=> .crash
   | some b=>match b.code[s.g.i]? with
     | some x=>s.next.ins m x
     | none=>s.fin b.fin
def RS.tick (s:RS):RS:=⟨s.e,s.g,s.st,s.inp,s.out,s.fuel+1⟩
def RS.start (inp:List Int)(pages:Nat):RS:=⟨EstS.mk0 pages,⟨0,0,0,[]⟩,[],inp,[],0⟩
end Go.Proofs.YteflkifmgnpbhaaGreat
namespace Go.Proofs.YteflkifmgnpbhaaGreat
open Go.Lir
attribute [local irreducible] LC.wp Q0 Qp Qk KN Qw LO.wp Q6 Calls
theorem ez:∀(t:Ty){Y:Cx}{w:World}{L:List Res}{cs:List Value}{left:Int},KA.at Y cs t→-1≤left→left≤1000000→St Y w L→
 Ka Tryz.prog Qhy [.agg ⟨cs⟩, .int .i64 left] w fun v B=>v= .int .i64 (t.size left)∧St Y B L:=by
 intro t
 induction t using GS with
 | h k r l ih=>
   intro Y w L cs left ht I M Z;obtain ⟨v,rfl,hl⟩:=Ql ht;simp only [Ty.kind,Ty.r,Ty.l] at hl ht ⊢;have hlen:=hl.len;rw [Ty.size];refine Kl Kh Tryz.func158 ?_;refine' KU;intro p2 E Z;refine' L6;refine' NY;refine' MU;refine' S0;refine Mt Z [2] (fun A LL ρ' B=>∃(j:Nat) (n:Int),Ki ρ' A∧Ki ρ' [(1, .int .i64 n),(5, .int .i64 j)]∧(j≤l.length)∧(n≤1000000)∧(-2≤n)∧(Tys.size l (left - 1)=Tys.size (l.drop j) n)∧St Y B (LL)) (fun ρ' _=>(l.length - iv (ρ' 5)).toNat) ?_ ?_
   · exact ⟨0,left - 1,zh,zh,V,V,V,by simp,Z.sp⟩
   (rintro U E ⟨j,n,hA,hρ,hj,hn,hn1,hd,Z⟩;obtain ⟨U,rfl⟩:=Km hA hρ;refine' i5;(refine' Ae<;>intro O);all_goals (refine' Md;first|refine' Kj|(refine' Kg;refine' Ag<;>intro O)));all_goals (refine' Ld)
   all_goals
    first
    | (refine' Kd;all_goals (refine' S8);all_goals (refine ⟨_,rfl,?_,Z.sp⟩;(rw [hd];congr 1;first|(rw [Hx _ V];done)|(rw [ES V,Tys.size];done));done))
    | (refine' Kf;refine' Mi;refine' S2;refine' RI;intro b1 o1 cs1 x1 hat1 hx1 he1;obtain ⟨vl1,rfl,hl1⟩:=Ql he1;refine N8 Z ?_;refine' zm;refine' Kk (c:=ih _ (EK Ja) Ja V V Z);rintro v1 E ⟨rfl,Z⟩;refine' UX;(exact ⟨⟨j+1,_,zh,zh,V,by have:=Ty.size_rng x1 (left:=n) V;omega,by have:=Ty.size_rng x1 (left:=n) V;omega,by rw [hd,Q7 hx1,Tys.size,Qip V],Z.sp⟩,Qh V⟩))
theorem Zh (ht:KA.at Y cs t)(Z:St Y w L):
 Ka Tryz.prog Qfm [.agg ⟨cs⟩] w fun v B=>v= .bool t.great∧St Y B L:=by
 obtain ⟨v,rfl,hl⟩:=Ql ht;refine Kl Kh Tryz.func101 ?_;refine' KU;intro p1 E Z;refine' Kv;refine' MM;refine' Kk (c:=ez t ht V V Z);rintro v1 E ⟨rfl,Z⟩;refine Yk rfl rfl ?_;refine' KQ;(((refine ⟨_,rfl,?_,Z.sp⟩;(rfl);done)))
theorem je {l:List Ty}{v:Value}(hl:KA.sl Y v l)(Z:St Y w L):
 Ka Tryz.prog QdU [v] w fun u B=>u= .bool (Tys.great l)∧St Y B L:=by
 have hlen:=hl.len;unfold Tys.great;refine Kl Kh Tryz.func58 ?_;refine' MV;refine' zL;(refine' Af<;>intro O);all_goals (refine' zn)
 all_goals
  first
  | (refine' Kf;refine' KM;((refine ⟨_,rfl,?_,Z.sp⟩;(rw [decide_eq_true V,Jb]);done)))
  | (refine' Kd;refine' Ko)
 refine' Nr;refine Mt Z [0] (fun A LL ρ' B=>∃(j:Nat),Ki ρ' A∧Ki ρ' [(3, .int .i64 j)]∧(j≤l.length)∧(l.any Ty.great=(l.drop j).any Ty.great)∧St Y B (LL)) (fun ρ' _=>(l.length - iv (ρ' 3)).toNat) ?_ ?_
 · exact An
 rintro U E ⟨j,hA,hρ,hj,hd,Z⟩;obtain ⟨U,rfl⟩:=Km hA hρ;refine' S4;refine' Ab<;>intro O
 · skip
   refine' Mi;refine' KW;refine' zi;intro b1 o1 cs1 x1 hat1 hx1 he1;obtain ⟨vl1,rfl,hl1⟩:=Ql he1;refine N8 Z ?_;refine' Kw (c:=Zh Ja Z);rintro v1 E ⟨rfl,Z⟩;cases hg:x1.great;all_goals (refine' zn)
   all_goals
    first
    | (refine' Kf;refine' KM;((refine ⟨_,rfl,?_,Z.sp⟩;(rw [decide_eq_false V,hd,G7,Q7 hx1,Ig,hg,Jb]);done)))
    | (refine' Kd;refine' Ko)
   refine' Mn;(exact ⟨⟨j+1,zh,zh,V,by rw [hd,Q7 hx1,Ig,hg,G7],Z.sp⟩,Qh V⟩)
 · refine' Pn;(refine ⟨_,rfl,?_,Z.sp⟩;rw [decide_eq_false V,hd,G7,ES V];rfl;done)
theorem eA:∀(t:Ty){Y:Cx}{w:World}{L:List Res}{cs:List Value}{left:Int},KA.at Y cs t→left≤1000000→St Y w L→
 Ka Tryz.prog QgI [.agg ⟨cs⟩, .int .i64 left] w fun v B=>v= .bool (t.deepB left)∧St Y B L:=by
 intro t
 induction t using GS with
 | h k r l ih=>
   intro Y w L cs left ht I Z;obtain ⟨v,rfl,hl⟩:=Ql ht;simp only [Ty.kind,Ty.r,Ty.l] at hl ht ⊢;have hlen:=hl.len;rw [Ty.deepB];refine Kl Kh Tryz.func211 ?_;refine' KU;intro p2 E Z;refine' Ou;(refine' Ae<;>intro O);all_goals (refine' zn)
   all_goals
    first
    | (refine' Kf;refine' KM;((refine ⟨_,rfl,?_,Z.sp⟩;(rw [Qip V]);done)))
    | (refine' Kd;refine' Ko)
   refine' Nq;refine' Ob;refine Mt Z [1,10,11] (fun A LL ρ' B=>∃(j:Nat),Ki ρ' A∧Ki ρ' [(12, .int .i64 j)]∧(j≤l.length)∧(Tys.deepB l (left - 1)=Tys.deepB (l.drop j) (left - 1))∧St Y B (LL)) (fun ρ' _=>(l.length - iv (ρ' 12)).toNat) ?_ ?_
   · exact An
   rintro U E ⟨j,hA,hρ,hj,hd,Z⟩;obtain ⟨U,rfl⟩:=Km hA hρ;refine' Nd;refine' Ab<;>intro O
   · skip
     refine' XX;intro b1 o1 cs1 x1 hat1 hx1 he1;obtain ⟨vl1,rfl,hl1⟩:=Ql he1;refine' NG;intro p6 E Z;refine Kp Z ?_;intro E Z;have Z:=Z.ns;refine' RP;refine' zm;refine' NY;refine' Kk (c:=ih _ (EK Ja) Ja V Z);rintro v1 E ⟨rfl,Z⟩;cases hg:x1.deepB (left - 1);all_goals (refine' O2)
     all_goals
      first
      | (refine' Kd;refine' Ko)
      | (refine' Kf;refine' KM;((refine ⟨_,rfl,?_,Z.sp⟩;(rw [Qin V,hd,Q7 hx1,Tys.deepB,hg,Bool.false_and]);done)))
     refine' O1;(exact ⟨⟨j+1,zh,zh,V,by rw [hd,Q7 hx1,Tys.deepB,hg,Bool.true_and],Z.sp⟩,Qh V⟩)
   · refine' Pn;(refine ⟨_,rfl,?_,Z.sp⟩;rw [Qin V,hd,ES V,Tys.deepB];done)
theorem Zi: ∀ (t:Ty){Y:Cx}{w:World}{L:List Res}{cs:List Value}{regs:Int},KA.at Y cs t→St Y w L→
 Ka Tryz.prog Qee [.agg ⟨cs⟩, .int .i64 regs] w fun v B=>v= .int .i64 (t.wrong 8 regs)∧St Y B L:=by
 intro t
 induction t using GS with
 | h k r l ih =>
   intro Y w L cs regs ht Z;obtain ⟨v,rfl,hl⟩:=Ql ht;simp only [Ty.kind,Ty.r,Ty.l] at hl ht ⊢;have hlen:=hl.len;rw [Ty.wrong];refine Kl Kh Tryz.func212 ?_;refine' KU;intro p2 E Z;refine' Kv;refine SY Z [1,2] (fun A LL ρ' B=>Ki ρ' A∧Ki ρ' []∧(1≤k∧k≤4∧k≠1∧(k≠3→l.length=0)∧l.length≤8)∧St Y B (LL)) ?_ ?_
   · skip
     refine' L5;refine' P1;refine' Kn;(refine' Ac<;>intro O);all_goals (refine' Kv)
     all_goals
      first
      | (refine' Kf
         (refine' Nq;(refine' Ad<;>intro O);all_goals (refine' RL;first|refine' Kj|(refine' Kg;refine' Af<;>intro O)));all_goals (refine' Ld)
         all_goals
          first
          | (refine' Kf;all_goals (refine' KM);all_goals (refine ⟨_,rfl,?_,Z.sp⟩;(repeat (first|rw [Qip V]|rw [Qin V]));done))
          | (refine' Kd;refine' Ko)
         refine' KM;((refine ⟨_,rfl,?_,Z.sp⟩;((repeat (rw [Qin V]));rw [Gl (l:=l) V,Tys.wrong]);done)))
      | (refine' Kd
         refine' P2;(refine' Ac<;>intro O);all_goals (refine' Kv)
         all_goals
          first
          | (refine' Kf;refine' Ko)
          | (refine' Kd;refine' Lm;(refine' Ac<;>intro O);all_goals (refine' zm);all_goals refine' zn)
         all_goals
          first
          | (refine' Kf
             all_goals (refine' Ta;refine' Af<;>intro O);all_goals (refine' zn)
             all_goals
              first
              | (refine' Kf;all_goals (refine' KM);all_goals (refine ⟨_,rfl,?_,Z.sp⟩;(repeat (first|rw [Qip V]|rw [Qin V]));done))
              | (refine' Kd;all_goals refine' Ko))
          | (refine' Kd
             refine' Kn;(refine' Ac<;>intro O);all_goals (refine' Kv)
             all_goals
              first
              | (refine' Kf
                 refine' Ta;(refine' Af<;>intro O);all_goals (refine' zn)
                 all_goals
                  first
                  | (refine' Kf;refine' KM;((refine ⟨_,rfl,?_,Z.sp⟩;((repeat (first|rw [Qip V]|rw [Qin V])));done)))
                  | (refine' Kd;refine' Ko))
              | (refine' Kd;refine' KM;((refine ⟨_,rfl,?_,Z.sp⟩;((repeat (rw [Qip V])));done)))))
     all_goals (exact ⟨zh,zh,V,Z.sp⟩)
   (rintro U E ⟨hA,hρ,hk,Z⟩;obtain ⟨U,rfl⟩:=Km hA hρ;refine' Nq;(refine' Ae<;>intro O);all_goals (refine' LH;refine' Mu;first|refine' Kj|(refine' Kg;refine' Ag<;>intro O)));all_goals (refine' Ld)
   all_goals
    first
    | (refine' Kf;all_goals (refine' KM);all_goals (refine ⟨_,rfl,?_,Z.sp⟩;(repeat (first|rw [Qip V]|rw [Qin V]));done))
    | (refine' Kd;refine' Ko)
   refine' Nq;refine' Ob;refine Mt Z [1,44,45] (fun A LL ρ' B=>∃(j:Nat),Ki ρ' A∧Ki ρ' [(46, .int .i64 j)]∧(j≤l.length)∧(Tys.wrong 8 l regs=Tys.wrong 8 (l.drop j) regs)∧St Y B (LL)) (fun ρ' _=>(l.length - iv (ρ' 46)).toNat) ?_ ?_
   · exact An
   rintro U E ⟨j,hA,hρ,hj,hd,Z⟩;obtain ⟨U,rfl⟩:=Km hA hρ;refine' Nd;refine' Ab<;>intro O
   · skip
     refine' XX;intro b1 o1 cs1 x1 hat1 hx1 he1;obtain ⟨vl1,rfl,hl1⟩:=Ql he1;refine' NG;intro p6 E Z;refine Kp Z ?_;intro E Z;have Z:=Z.ns;refine' RP;refine' zm;refine' Kk (c:=ih _ (EK Ja) Ja Z);rintro v1 E ⟨rfl,Z⟩;refine' L6;(refine' Ad<;>intro O);all_goals (refine' zn)
     all_goals
      first
      | (refine' Kf;refine' Rj;((refine ⟨_,rfl,?_,Z.sp⟩;((repeat (rw [Qin V]));rw [hd,Q7 hx1,Tys.wrong,Qip Ja]);done)))
      | (refine' Kd;refine' Ko)
     refine' O1;(exact BY)
   · refine' Pn;(refine ⟨_,rfl,?_,Z.sp⟩;((repeat (rw [Qin V]));rw [hd,ES V,Tys.wrong]);done)
theorem wW (ht:KA.at Y cs t)(Z:St Y w L):
 Ka Tryz.prog Qef [.agg ⟨cs⟩, .int .i64 regs] w fun v B=>v= .int .i64 (t.fault regs)∧St Y B L:=by
 obtain ⟨v,rfl,hl⟩:=Ql ht;unfold Ty.fault;refine Kl Kh Tryz.func159 ?_;refine' KU;intro p2 E Z;refine' MU;refine' MM;refine' Kk (c:=eA t ht V Z);rintro v1 E ⟨rfl,Z⟩;cases hg:t.deepB 4;all_goals (refine' O2)
 all_goals
  first
  | (refine' Kf;refine' KM;((refine ⟨_,rfl,?_,Z.sp⟩;(rfl);done)))
  | (refine' Kd;refine' Ko)
 refine' MM;refine' zm;refine' Kk (c:=Zi t ht Z);rintro v1 E ⟨rfl,Z⟩;refine' KQ;(refine ⟨_,rfl,?_,Z.sp⟩;(rfl);done)
theorem wX:∀(t:Ty){Y:Cx}{w:World}{L:List Res}{cs:List Value}{most:Int},KA.at Y cs t→0≤most→most≤1000→St Y w L→
 Ka Tryz.prog Vc [.agg ⟨cs⟩, .int .i64 most] w fun v B=>v= .int .i64 (t.depth most)∧St Y B L:=by
 intro t
 induction t using GS with
 | h k r l ih=>
   intro Y w L cs most ht h0 I Z;obtain ⟨v,rfl,hl⟩:=Ql ht;simp only [Ty.kind,Ty.r,Ty.l] at hl ht ⊢;have hlen:=hl.len;rw [Ty.depth];refine Kl Kh Tryz.func152 ?_;refine' KU;intro p2 E Z;refine' Kv;refine' LS;refine' Nr;refine Mt Z [1,2] (fun A LL ρ' B=>∃(j:Nat) (n:Int),Ki ρ' A∧Ki ρ' [(5, .int .i64 n),(6, .int .i64 j)]∧(j≤l.length)∧(0≤n)∧(n≤1002)∧(Tys.depth l most 0=Tys.depth (l.drop j) most n)∧St Y B (LL)) (fun ρ' _=>(l.length - iv (ρ' 6)).toNat) ?_ ?_
   · exact ⟨0,0,zh,zh,V,V,V,by simp,Z.sp⟩
   (rintro U E ⟨j,n,hA,hρ,hj,hn0,hn,hd,Z⟩;obtain ⟨U,rfl⟩:=Km hA hρ;refine' i5;(refine' Ae<;>intro O);all_goals (refine' Md;refine' Mu;first|refine' Kj|(refine' Kg;refine uq rfl rfl (fun O=>?_) (fun O=>?_))));all_goals (refine' Ld)
   all_goals
    first
    | (refine' Kd
       all_goals (refine' S8);all_goals (first|(refine ⟨_,rfl,?_,Z.sp⟩;rw [hd,ES V,Tys.depth];done)|(refine ⟨_,rfl,?_,Z.sp⟩;rw [hd];cases hx:l.drop j with|nil=>rw [Tys.depth]|cons y m=>rw [Tys.depth,Qin V];done)))
    | (refine' Kf
       refine' Mi;refine' Lb;(refine' Ac<;>intro O);all_goals (refine' zn)
       all_goals
        first
        | (refine' Kf
           refine' KM;((refine ⟨_,rfl,?_,Z.sp⟩;(rw [hd];cases hx:l.drop j with|nil=>exact absurd (List.drop_eq_nil_iff.1 hx) V|cons y m=>rw [Tys.depth,Qip V,Qip V]);done)))
        | (refine' Kd;refine' Ko)
       refine' kv;intro b1 o1 cs1 x1 hat1 hx1 he1;obtain ⟨vl1,rfl,hl1⟩:=Ql he1;refine N8 Z ?_;refine' zm;refine' NY;have hb:=Ty.depth_rng x1 (most:=most - 1) V;refine' Kk (c:=ih _ (EK Ja) Ja V V Z);rintro v1 E ⟨rfl,Z⟩;refine' qF;refine' KW;(refine' Af<;>intro O);all_goals (refine' zn)
       all_goals
        first
        | (refine' Kf;refine' NH;refine' zn)
        | (refine' Kd;refine' Ko)
       all_goals (refine' Mn);all_goals (first|(exact ⟨⟨j+1,_,zh,zh,V,V,V,by rw [hd,Q7 hx1,Tys.depth,Qip V,Qin V,Qip V],Z.sp⟩,Qh V⟩)|(exact ⟨⟨j+1,_,zh,zh,V,V,V,by rw [hd,Q7 hx1,Tys.depth,Qip V,Qin V,Qin V],Z.sp⟩,Qh V⟩)))
theorem Vp:∀(t:Ty){Y:Cx}{w:World}{L:List Res}{cs:List Value}{regs:Int},KA.at Y cs t→St Y w L→
 Ka Tryz.prog Qfh [.agg ⟨cs⟩, .int .i64 regs] w fun v B=>v= .int .i64 (t.wrong 8 regs)∧St Y B L:=by
 intro t
 induction t using GS with
 | h k r l ih=>
   (intro Y w L cs regs ht Z;obtain ⟨v,rfl,hl⟩:=Ql ht;simp only [Ty.kind,Ty.r,Ty.l] at hl ht ⊢;have hlen:=hl.len;rw [Ty.wrong];refine Kl Kh Tryz.func167 ?_;refine' KU;intro p2 E Z;refine' OJ;(refine' Ae<;>intro O);all_goals (refine' LH;first|refine' Kj|(refine' Kg;refine' Af<;>intro O)));all_goals (refine' Ld)
   all_goals
    first
    | (refine' Kf;all_goals (refine' KM);all_goals (refine ⟨_,rfl,?_,Z.sp⟩;(repeat (rw [Qip V]));done))
    | (refine' Kd;refine' Ko)
   refine SY Z [1,2] (fun A LL ρ' B=>Ki ρ' A∧Ki ρ' []∧(1≤k∧k≤4∧(k=1→r=0)∧(k≠3→l.length=0))∧St Y B (LL)) ?_ ?_
   · skip
     (((refine' L5;(refine' Ac<;>intro O);all_goals (refine' LH;first|refine' Kj|(refine' Kg;refine' Ad<;>intro O)));all_goals (refine' Lw;refine' LH;first|refine' Kj|(refine' Kg;(first|(refine' Sb)|(refine' Ad<;>intro O)))));all_goals (refine' XP;refine' ML;first|refine' Kj|(refine' Kg;refine' Af<;>intro O)));all_goals (refine' Y2;refine' Ld)
     all_goals
      first
      | (refine' Kf;all_goals (refine' KM);all_goals (refine ⟨_,rfl,?_,Z.sp⟩;(repeat (first|rw [Qip V]|rw [Qin V]));done))
      | (refine' Kd;all_goals refine' Ko)
     all_goals (exact ⟨zh,zh,V,Z.sp⟩)
   rintro U E ⟨hA,hρ,hk,Z⟩;obtain ⟨U,rfl⟩:=Km hA hρ;refine' Nq;refine' zL;(refine' Af<;>intro O);all_goals (refine' zn)
   all_goals
    first
    | (refine' Kf;refine' KM;((refine ⟨_,rfl,?_,Z.sp⟩;((repeat (first|rw [Qip V]|rw [Qin V])));done)))
    | (refine' Kd;refine' Ko)
   refine SY Z [1,2] (fun A LL ρ' B=>Ki ρ' A∧Ki ρ' []∧(l.length≤8)∧(k≠1→0≤r∧r<regs)∧St Y B (LL)) ?_ ?_
   · skip
     ((refine' L5;(refine' Ad<;>intro O);all_goals (refine' LH;first|refine' Kj|(refine' Kg;refine' Ae<;>intro O)));all_goals (refine' XP;refine' Mu;first|refine' Kj|(refine' Kg;refine' Ag<;>intro O)));all_goals (refine' Y2;refine' Ld)
     all_goals
      first
      | (refine' Kf;all_goals (refine' KM);all_goals (refine ⟨_,rfl,?_,Z.sp⟩;(repeat (first|rw [Qip V]|rw [Qin V]));done))
      | (refine' Kd;all_goals refine' Ko)
     all_goals (exact ⟨zh,zh,V,V,Z.sp⟩)
   rintro U E ⟨hA,hρ,hk2,hk3,Z⟩;obtain ⟨U,rfl⟩:=Km hA hρ;refine' Nr;refine Mt Z [1,2] (fun A LL ρ' B=>∃(j:Nat),Ki ρ' A∧Ki ρ' [(5, .int .i64 j)]∧(j≤l.length)∧(Tys.wrong 8 l regs=Tys.wrong 8 (l.drop j) regs)∧St Y B (LL)) (fun ρ' _=>(l.length - iv (ρ' 5)).toNat) ?_ ?_
   · exact An
   rintro U E ⟨j,hA,hρ,hj,hd,Z⟩;obtain ⟨U,rfl⟩:=Km hA hρ;refine' P4;refine' Ab<;>intro O
   · skip
     refine' XR;intro b1 o1 cs1 x1 hat1 hx1 he1;obtain ⟨vl1,rfl,hl1⟩:=Ql he1;refine N8 Z ?_;refine' zm;refine' Kk (c:=ih _ (EK Ja) Ja Z);rintro v1 E ⟨rfl,Z⟩;refine' L6;(refine' Ad<;>intro O);all_goals (refine' zn)
     all_goals
      first
      | (refine' Kf;refine' Rj;((refine ⟨_,rfl,?_,Z.sp⟩;((repeat (rw [Qin V]));rw [hd,Q7 hx1,Tys.wrong,Qip Ja]);done)))
      | (refine' Kd;refine' Ko)
     refine' Mn;(exact BY)
   · refine' Pn;(refine ⟨_,rfl,?_,Z.sp⟩;((repeat (rw [Qin V]));rw [hd,ES V,Tys.wrong]);done)
theorem QiE (ht:KA.at Y cs t)(Z:St Y w L):
 Ka Tryz.prog Qfi [.agg ⟨cs⟩, .int .i64 regs] w fun v B=>v= .int .i64 (t.fault regs)∧St Y B L:=by
 obtain ⟨v,rfl,hl⟩:=Ql ht;have hdp:=Ty.depth_iff t (most:=4) V;unfold Ty.fault;refine Kl Kh Tryz.func112 ?_;refine' KU;intro p2 E Z;refine' MU;refine' MM;refine' Kk (c:=wX t ht V V Z);rintro v1 E ⟨rfl,Z⟩;(refine' Af<;>intro O);all_goals (refine' zn)
 all_goals
  first
  | (refine' Kf;refine' KM;((refine ⟨_,rfl,?_,Z.sp⟩;(rw [Qip];cases hg:t.deepB 4<;>simp_all<;>omega);done)))
  | (refine' Kd;refine' Ko)
 refine Qm ?_;refine' Lm;refine zv Z ?_;refine' zm;refine' Kk (c:=Vp t ht Z);rintro v1 E ⟨rfl,Z⟩;refine' zm;refine' zn;refine' zr;refine' zf;((refine ⟨_,rfl,?_,Z.sp⟩;(rw [Qin];cases hg:t.deepB 4<;>simp_all<;>omega);done))
end Go.Proofs.YteflkifmgnpbhaaGreat
namespace Go.Proofs.YteflkifmgnpbhaaGreat
open Go.Lir
set_option maxRecDepth 100000
theorem eB:M6 Tryz.prog 22=some (95,4,80,[(.int .i64 0),(.slice none 0 0),(.slice none 0 0),(.slice none 0 0)]):=by kernel_rfl
theorem kJ:∃e2,Tryz.prog.underlying 22=some (.slice e2):=⟨95,by kernel_rfl⟩
theorem Td:M6 Tryz.prog 25=some (2,1,8,[(.int .i64 0)]):=by kernel_rfl
theorem Vq:∃e2,Tryz.prog.underlying 25=some (.slice e2):=⟨2,by kernel_rfl⟩
theorem eC:M6 Tryz.prog 53=some (110,5,72,[(.int .i64 0),(.int .i64 0),(.int .i64 0),(.slice none 0 0),(.slice none 0 0)]):=by kernel_rfl
theorem kK:∃e2,Tryz.prog.underlying 53=some (.slice e2):=⟨110,by kernel_rfl⟩
theorem eD:M6 Tryz.prog 64=some (138,4,48,[(.int .i64 0),(.int .i64 0),(.int .i64 0),(.slice none 0 0)]):=by kernel_rfl
theorem kL:∃e2,Tryz.prog.underlying 64=some (.slice e2):=⟨138,by kernel_rfl⟩
theorem RQ:M6 Tryz.prog 68=some (3,1,8,[(.int .i64 0)]):=by kernel_rfl
theorem Sk:∃e2,Tryz.prog.underlying 68=some (.slice e2):=⟨3,by kernel_rfl⟩
theorem eE:M6 Tryz.prog 85=some (84,8,96,[(.int .i64 0),(.int .i64 0),(.int .i64 0),(.int .i64 0),(.int .i64 0),(.int .i64 0),(.slice none 0 0),(.slice none 0 0)]):=by kernel_rfl
theorem kM:∃e2,Tryz.prog.underlying 85=some (.slice e2):=⟨84,by kernel_rfl⟩
theorem RT:M6 Tryz.prog 86=some (115,3,40,[(.int .i64 0),(.int .i64 0),(.slice none 0 0)]):=by kernel_rfl
theorem Sm:∃e2,Tryz.prog.underlying 86=some (.slice e2):=⟨115,by kernel_rfl⟩
theorem eF:M6 Tryz.prog 93=some (92,12,208,[(.int .i64 0),(.slice none 0 0),(.slice none 0 0),(.int .i64 0),(.int .i64 0),(.int .i64 0),(.slice none 0 0),(.slice none 0 0),(.int .i64 0),(.slice none 0 0),(.slice none 0 0),(.slice none 0 0)]):=by kernel_rfl
theorem kN:∃e2,Tryz.prog.underlying 93=some (.slice e2):=⟨92,by kernel_rfl⟩
theorem kO:M6 Tryz.prog 146=some (4,1,1,[(.bool false)]):=by kernel_rfl
theorem nP:∃e2,Tryz.prog.underlying 146=some (.slice e2):=⟨4,by kernel_rfl⟩
end Go.Proofs.YteflkifmgnpbhaaGreat
namespace Go.Proofs.YteflkifmgnpbhaaGreat
open Go.Lir
attribute [local irreducible] LC.wp Q0 Qp Qk KN Qw LO.wp Q6 Calls
section
theorem Vr {l:List Ty}(hlen:l.length≤100000)(ih:∀x∈l,∀{Y:Cx}{w:World}{L:List Res}{cs:List Value},KA.at Y cs x→St Y w L→Ka Tryz.prog wy [.agg ⟨cs⟩] w fun u B=>∃c' ds,u= .agg ⟨ds⟩∧Y.Le c'∧KA.at c' ds x∧St c' B L)
 {v:Value}(hl:KA.sl Y v l)(Z:St Y w L):Ka Tryz.prog wh [v] w fun u B=>∃c',Y.Le c'∧KA.sl c' u l∧St c' B L:=by
 refine Kl Kh Tryz.func59 ?_;refine' LS;refine' LS;refine' Nr;refine Mt Z [0] (fun A LL ρ' B=>∃(c1:Cx) (j:Nat) (u:Value) (css:List (List Value)),Ki ρ' A∧Ki ρ' [(3,u),(4, .int .i64 j)]∧(Y.Le c1)∧(j≤l.length)∧(KA.ls c1 css (l.take j))∧(oneC u=true)∧St c1 B (sl 115 3 u css::LL)) (fun ρ' _=>(l.length - iv (ρ' 4)).toNat) ?_ ?_
 · exact Bh
 rintro U E ⟨c1,j,u,css,hA,hρ,hle,hj,hls,hu,Z⟩;obtain ⟨U,rfl⟩:=Km hA hρ;have hl:=Fo hl hle;refine' S4;refine' Ab<;>intro O
 · refine' Mi;refine' RN;refine' zi;intro b1 o1 cs1 x1 hat1 hx1 he1;obtain ⟨vl1,rfl,hl1⟩:=Ql he1;refine N8 Z ?_;refine' Kw (c:=ih _ (EK hx1) he1 Z);rintro v1 E ⟨c2,ds,rfl,hle2,hd,Z⟩;obtain ⟨v2,rfl,hv2⟩:=Ql hd;have hls:=I8 hls hle2;refine KO Z [_,_,_] ?_;intro b1 E Z;refine za RT Sm Z ?_;intro vp1 E css1 hls1 hv1 Z;have Z:=Z.ns;refine' UX;(exact Bu)
 · refine' S8;(obtain ⟨c3,hle3,Z,hl3⟩:=FV (r:=KA) (l:=l) (T:=115) (es:=3) (v:=u) (css:=css) (L:=L) Z.sp DB rfl V;exact ⟨_,rfl,c3,hle.trans hle3,hl3,Z⟩)
theorem eG:∀(t:Ty),t.Short→∀{Y:Cx}{w:World}{L:List Res}{cs:List Value},KA.at Y cs t→St Y w L→
 Ka Tryz.prog wy [.agg ⟨cs⟩] w fun u B=>∃c' ds,u= .agg ⟨ds⟩∧Y.Le c'∧KA.at c' ds t∧St c' B L:=by
 intro t
 induction t using GS with
 | h k r l ih=>
   intro hs Y w L cs ht Z;obtain ⟨v,rfl,hl⟩:=Ql ht;simp only [Ty.kind,Ty.r,Ty.l] at hl ht ⊢;obtain ⟨hlen,hsub⟩:=hs.parts;refine Kl Kh Tryz.func102 ?_;refine' KU;intro p1 E Z;refine Qb Z ?_;(intro p2 E Z);refine' LA;refine zC [(0,none),(1,none),(2,none),(3,none),(4,none),(5,none),(6,some (some [1,3])),(7,none),(8,some none)] ?_;have Z:=Z.drew;refine' KS;refine' TO;refine' Ot;refine' Kw (c:=Vr hlen (fun x hx=>ih x hx (hsub x hx)) hl Z);rintro v1 E ⟨c1,hle,hl1,Z⟩;obtain ⟨a1,n1,rfl⟩:=E0 hl1;refine' LZ;refine PF [_,_,_] ?_;refine' K8;((refine Kp Z ?_;intro E Z;have Z:=Z.ns));refine' K7;refine' zr;refine QO vw (Q3 (n:=3) Jk Jk (Z.blkAt fd) Jr Jr) ?_;((exact ⟨_,rfl,c1,_,rfl,hle,Ry hl1,Z.sp⟩))
theorem wY {l:List Ty}(hlen:l.length≤100000)(ih:∀x∈l,∀{Y:Cx}{w:World}{L:List Res}{cs:List Value},KA.at Y cs x→St Y w L→Ka Tryz.prog wI [.agg ⟨cs⟩] w fun u B=>∃c' ds,u= .agg ⟨ds⟩∧Y.Le c'∧KA.at c' ds x∧St c' B L)
 {v:Value}(hl:KA.sl Y v l)(Z:St Y w L):Ka Tryz.prog wA [v] w fun u B=>∃c',Y.Le c'∧KA.sl c' u l∧St c' B L:=by
 refine Kl Kh Tryz.func109 ?_;refine' LS;refine' MV;refine' Ob;refine Mt Z [6,7] (fun A LL ρ' B=>∃(c1:Cx) (j:Nat) (u:Value) (css:List (List Value)),Ki ρ' A∧Ki ρ' [(3,u),(8, .int .i64 j)]∧(Y.Le c1)∧(j≤l.length)∧(KA.ls c1 css (l.take j))∧(oneC u=true)∧St c1 B (sl 115 3 u css::LL)) (fun ρ' _=>(l.length - iv (ρ' 8)).toNat) ?_ ?_
 · exact Bh
 rintro U E ⟨c1,j,u,css,hA,hρ,hle,hj,hls,hu,Z⟩;obtain ⟨U,rfl⟩:=Km hA hρ;have hl:=Fo hl hle;refine' Nd;refine' Ab<;>intro O
 · refine' XX;intro b1 o1 cs1 x1 hat1 hx1 he1;obtain ⟨vl1,rfl,hl1⟩:=Ql he1;refine' NG;intro p5 E Z;refine Kp Z ?_;intro E Z;have Z:=Z.ns;refine' Tb;refine' Kw (c:=ih _ (EK hx1) he1 Z);rintro v1 E ⟨c2,ds,rfl,hle2,hd,Z⟩;obtain ⟨v2,rfl,hv2⟩:=Ql hd;have hls:=I8 hls hle2;refine KO Z [_,_,_] ?_;intro b1 E Z;refine za RT Sm Z ?_;intro vp1 E css1 hls1 hv1 Z;have Z:=Z.ns;refine' Kv;refine' O1;(exact Bu)
 · refine' S8;(obtain ⟨c3,hle3,Z,hl3⟩:=FV (r:=KA) (l:=l) (T:=115) (es:=3) (v:=u) (css:=css) (L:=L) Z.sp DB rfl V;exact ⟨_,rfl,c3,hle.trans hle3,hl3,Z⟩)
theorem eH:∀(t:Ty),t.Short→∀{Y:Cx}{w:World}{L:List Res}{cs:List Value},KA.at Y cs t→St Y w L→
 Ka Tryz.prog wI [.agg ⟨cs⟩] w fun u B=>∃c' ds,u= .agg ⟨ds⟩∧Y.Le c'∧KA.at c' ds t∧St c' B L:=by
 intro t
 induction t using GS with
 | h k r l ih=>
   intro hs Y w L cs ht Z;obtain ⟨v,rfl,hl⟩:=Ql ht;simp only [Ty.kind,Ty.r,Ty.l] at hl ht ⊢;obtain ⟨hlen,hsub⟩:=hs.parts;refine Kl Kh Tryz.func166 ?_;refine' KU;intro p1 E Z;refine Qb Z ?_;(intro p2 E Z);refine' Nl;refine' KJ;refine M8 [_,_,_] ?_;refine Qb Z ?_;(intro p3 E Z);((refine Kp Z ?_;intro E Z;have Z:=Z.ns));refine' Nl;refine' Kw (c:=wY hlen (fun x hx=>ih x hx (hsub x hx)) hl Z);rintro v1 E ⟨c1,hle,hl1,Z⟩;obtain ⟨a1,n1,rfl⟩:=E0 hl1;refine' XQ;intro E Z;have Z:=Z.ns;refine' RP;((refine Kp Z ?_;intro E Z;have Z:=Z.ns));refine' LM;refine QO vw (Q3 (n:=3) Jk Jk (Z.blkAt fd) Jr Jr) ?_;((exact ⟨_,rfl,c1,_,rfl,hle,Ry hl1,Z.sp⟩))
theorem bR {l:List Ty}(hlen:l.length≤100000)(hs:∀x∈l,x.Short){v:Value}(hl:KA.sl Y v l)(Z:St Y w L):Ka Tryz.prog wA [v] w fun u B=>∃c',Y.Le c'∧KA.sl c' u l∧St c' B L:=
 wY hlen (fun x hx=>eH x (hs x hx)) hl Z
end
section
theorem wZ {l:List Ty}(ih:∀x∈l,∀(y:Ty){Y:Cx}{w:World}{L:List Res}{cs ds:List Value},KA.at Y cs x→KA.at Y ds y→St Y w L→Ka Tryz.prog wE [.agg ⟨cs⟩, .agg ⟨ds⟩] w fun u B=>u= .bool (decide (x=y))∧St Y B L)
 {m:List Ty}{v:Value}(hl:KA.sl Y v l)(hm:KA.sl Y v2 m)(Z:St Y w L):Ka Tryz.prog wq [v,v2] w fun u B=>u= .bool (decide (l=m))∧St Y B L:=by
 have hlen:=hl.len;refine Kl Kh Tryz.func76 ?_;refine' MV;refine' zL;refine' zm;refine' zL;(refine' Ad<;>intro O);all_goals (refine' zn)
 all_goals
  first
  | (refine' Kf;refine' KM;((refine ⟨_,rfl,?_,Z.sp⟩;(rw [decide_eq_false];exact AX);done)))
  | (refine' Kd;refine' Ko)
 refine' Nr;refine Mt Z [0,1] (fun A LL ρ' B=>∃(j:Nat),Ki ρ' A∧Ki ρ' [(5, .int .i64 j)]∧(j≤l.length)∧(l.length=m.length)∧(l=m↔l.drop j=m.drop j)∧St Y B (LL)) (fun ρ' _=>(l.length - iv (ρ' 5)).toNat) ?_ ?_
 · exact AE
 rintro U E ⟨j,hA,hρ,hj,hlm,hd,Z⟩;obtain ⟨U,rfl⟩:=Km hA hρ;refine' S4;refine' Ab<;>intro O
 · skip
   (refine' TH;refine zD (ci 10 [8,9]) ?_;have Z:=Z.drew;refine' Me;refine' zi;intro b1 o1 cs1 x1 hat1 hx1 he1;obtain ⟨vl1,rfl,hl1⟩:=Ql he1;refine N8 Z ?_;refine' Me;refine' zi;intro b2 o2 cs2 x2 hat2 hx2 he2;obtain ⟨vl2,rfl,hl2⟩:=Ql he2;refine N8 Z ?_;refine' Kk (c:=ih _ (EK hx1) _ he1 he2 Z);rintro v1 E ⟨rfl,Z⟩;(cases hdec:decide (x1=x2));have hg:=of_decide_eq_false hdec;rotate_left;have hg:=of_decide_eq_true hdec;all_goals skip);all_goals (refine' O2)
   all_goals
    first
    | (refine' Kf;refine' KM;((refine ⟨_,rfl,?_,Z.sp⟩;(rw [decide_eq_false];rw [hd,Q7 hx1,Q7 hx2];simp [hg]);done)))
    | (refine' Kd;refine' Ko)
   refine' Mn;(exact Ce)
 · refine' Pn;(refine ⟨_,rfl,?_,Z.sp⟩;rw [decide_eq_true];rw [hd,ES V,ES V];done)
theorem rD:∀(t u:Ty){Y:Cx}{w:World}{L:List Res}{cs ds:List Value},KA.at Y cs t→KA.at Y ds u→St Y w L→
 Ka Tryz.prog wE [.agg ⟨cs⟩, .agg ⟨ds⟩] w fun v B=>v= .bool (decide (t=u))∧St Y B L:=by
 intro t
 induction t using GS with
 | h k r l ih=>
   (rintro ⟨k2,r2,m⟩ Y w L cs ds ht hu Z;obtain ⟨v,rfl,hl⟩:=Ql ht;obtain ⟨v2,rfl,hm⟩:=Ql hu;simp only [Ty.kind,Ty.r,Ty.l,Ty.mk.injEq] at hl hm ht hu ⊢;refine Kl Kh Tryz.func128 ?_;refine' KU;intro p2 E Z;refine zb Z ?_;intro p3 E Z;refine' Kv;refine' L5;refine' KJ;(refine' Ac<;>intro O);all_goals (refine' RM;first|refine' Kj|(refine' Kg;refine' Ac<;>intro O)));all_goals (refine' Lw;refine' RM;(first|refine' Kj|(refine' Kg;refine' Kk (c:=wZ ih hl hm Z);rintro v1 E ⟨rfl,Z⟩));refine' Lw;refine' KQ;refine ⟨_,rfl,?_,Z.sp⟩;(simp [*]);done)
theorem Vs {l m:List Ty}{v:Value}(hl:KA.sl Y v l)(hm:KA.sl Y v2 m)(Z:St Y w L):Ka Tryz.prog wq [v,v2] w fun u B=>u= .bool (decide (l=m))∧St Y B L:=
 wZ (fun x _=>rD x) hl hm Z
theorem Vt {l:List Ty}{f:FuncId}(hf:SI Tryz.prog f=true){m:List Ty}{v:Value}
 (hcall:∀x∈l,∀y∈m,∀{w:World}{L:List Res}{cs ds:List Value},KA.at Y cs x→KA.at Y ds y→St Y w L→Ka Tryz.prog f [.agg ⟨cs⟩, .agg ⟨ds⟩] w fun u B=>u= .bool (decide (x=y))∧St Y B L)
 (hl:KA.sl Y v l)(hm:KA.sl Y v2 m)(Z:St Y w L):Ka Tryz.prog Q1A [v,v2, .func (.func f) #[] #[]] w fun u B=>u= .bool (decide (l=m))∧St Y B L:=by
 have hlen:=hl.len;refine Kl Kh Tryz.func162 ?_;refine' MV;refine' zL;refine' zm;refine' zL;(refine' Ad<;>intro O);all_goals (refine' zn)
 all_goals
  first
  | (refine' Kf;refine' KM;((refine ⟨_,rfl,?_,Z.sp⟩;(rw [decide_eq_false];exact AX);done)))
  | (refine' Kd;refine' Ko)
 refine' Lb;refine' Ob;refine Mt Z [1,2,15,16] (fun A LL ρ' B=>∃(j:Nat),Ki ρ' A∧Ki ρ' [(17, .int .i64 j)]∧(j≤l.length)∧(l.length=m.length)∧(l=m↔l.drop j=m.drop j)∧St Y B (LL)) (fun ρ' _=>(l.length - iv (ρ' 17)).toNat) ?_ ?_
 · exact AE
 rintro U E ⟨j,hA,hρ,hj,hlm,hd,Z⟩;obtain ⟨U,rfl⟩:=Km hA hρ;refine' Nd;refine' Ab<;>intro O
 · skip
   (refine' Mi;refine' KX;refine' zi;intro b1 o1 cs1 x1 hat1 hx1 he1;obtain ⟨vl1,rfl,hl1⟩:=Ql he1;refine' NG;intro p8 E Z;refine' zm;refine Kp Z ?_;intro E Z;have Z:=Z.ns;refine' XZ;refine' zi;intro b2 o2 cs2 x2 hat2 hx2 he2;obtain ⟨vl2,rfl,hl2⟩:=Ql he2;refine' NG;intro p9 E Z;refine Kp Z ?_;intro E Z;have Z:=Z.ns;refine' L8;refine zv Z ?_;refine zv Z ?_;refine uO rfl hf Jr (hcall _ (EK hx1) _ (EK hx2) he1 he2 Z) ?_;rintro v1 E ⟨rfl,Z⟩;(cases hdec:decide (x1=x2));have hg:=of_decide_eq_false hdec;rotate_left;have hg:=of_decide_eq_true hdec;all_goals skip);all_goals (refine' O2)
   all_goals
    first
    | (refine' Kf;refine' KM;((refine ⟨_,rfl,?_,Z.sp⟩;(rw [decide_eq_false];rw [hd,Q7 hx1,Q7 hx2];simp [hg]);done)))
    | (refine' Kd;refine' Ko)
   refine' O1;(exact Ce)
 · refine' Pn;(refine ⟨_,rfl,?_,Z.sp⟩;rw [decide_eq_true];rw [hd,ES V,ES V];done)
theorem kP:∀(t u:Ty){Y:Cx}{w:World}{L:List Res}{cs ds:List Value},KA.at Y cs t→KA.at Y ds u→St Y w L→
 Ka Tryz.prog QgJ [.agg ⟨cs⟩, .agg ⟨ds⟩] w fun v B=>v= .bool (decide (t=u))∧St Y B L:=by
 intro t
 induction t using GS with
 | h k r l ih=>
   (rintro ⟨k2,r2,m⟩ Y w L cs ds ht hu Z;obtain ⟨v,rfl,hl⟩:=Ql ht;obtain ⟨v2,rfl,hm⟩:=Ql hu;simp only [Ty.kind,Ty.r,Ty.l,Ty.mk.injEq] at hl hm ht hu ⊢;refine Kl Kh Tryz.func163 ?_;refine' KU;intro p2 E Z;refine zb Z ?_;intro p3 E Z;refine' Kv;refine' L5;refine' KJ;(refine' Ac<;>intro O);all_goals (refine' RM;first|refine' Kj|(refine' Kg;refine' Ac<;>intro O)));all_goals (refine' Lw;refine' RM;(first|refine' Kj|(refine' Kg;refine' KZ (c:=Vt Jk (fun x hx y _ {_ _ _ _} I M h3=>ih x hx y I M h3) hl hm Z);rintro v1 E ⟨rfl,Z⟩));refine' Lw;refine' KQ;refine ⟨_,rfl,?_,Z.sp⟩;(simp [*]);done)
end
section
theorem kQ (hb:l.length≤1000000){v:Value}(hl:Kb.sl Y v l)(Z:St Y w L):Ka Tryz.prog Q5O [v] w fun u B=>∃c',Y.Le c'∧Kb.sl c' u l∧St c' B L:=by
 obtain ⟨a,c,hv⟩:=E0 hl
 cases a with
 | none=>
   have hl0:=Ii hl hv;subst hl0;subst hv;refine Kl Kh Tryz.func111 ?_;refine' MV;refine XF (e:=3) Jk rfl rfl ?_;refine' zn
   all_goals
    first
    | (refine' Kf;refine' KM;(exact A6))
   all_goals (refine' Kn; fail "no law for buildSlice"; refine' zm; refine za RQ Sk Z ?_; intro vp1 E css1 hls1 hv1 Z; have Z := Z.ns; refine' KQ; exact A3)
 | some a=>
   have hn:Kb.ls Y [] []:=Gd _ _ _;refine Kl Kh Tryz.func111 ?_;refine' MV;refine XF (e:=3) Jk hv rfl ?_;refine' RJ;refine' Kn;refine j4 RQ ?_;intro v1 E hf1 hs1 hz1;have Z:=Z.new (r:=sl 3 1 v1 []) hs1 hf1 (fun b hb=>Hv hb.symm);refine' zm;((refine nD RQ Sk Z ?_;intro vp1 E css1 hls1 hv1 Z;have Z:=Z.ns));refine' KQ;((obtain ⟨c3,hle3,Z,hl3⟩:=FV (r:=Kb) (l:=l) (T:=3) (es:=1) (L:=L) Z.sp hls1 rfl V;exact BA))
theorem xa {x:To}(hb1:x.regs.length≤1000000)(hb2:x.args.length≤1000000)(hx:toR.at Y cs x)(Z:St Y w L):Ka Tryz.prog Qhp [.agg ⟨cs⟩] w fun u B=>∃c' ds,u= .agg ⟨ds⟩∧Y.Le c'∧toR.at c' ds x∧St c' B L:=by
 obtain ⟨v1,v2,rfl,I,M⟩:=YJ hx;refine Kl Kh Tryz.func110 ?_;refine' KU;intro p1 E Z;refine Qb Z ?_;(intro p2 E Z);refine' LA;refine zC [(0,none),(1,none),(2,none),(3,none),(5,none),(6,none),(4,some (some [1,6])),(7,some (some [1])),(8,none),(9,some none)] ?_;have Z:=Z.drew;refine' KS;refine' TO;refine' Ot;refine' Kw (c:=kQ hb1 I Z);rintro v1 E ⟨c1,hle,hl1,Z⟩;obtain ⟨a1,n1,rfl⟩:=E0 hl1;have M:=Fo M hle;refine' Lc;refine' Kw (c:=kQ hb2 M Z);rintro v1 E ⟨c2,hle2,hl2,Z⟩;obtain ⟨a2,n2,rfl⟩:=E0 hl2;have hl1:=Fo hl1 hle2;refine' LZ;refine PF [_,_,_] ?_;refine' K8;((refine Kp Z ?_;intro E Z;have Z:=Z.ns));refine' K7;refine' zr;refine QO vw (Q3 (n:=3) Jk Jk (Z.blkAt fd) Jr Jr) ?_;((exact ⟨_,rfl,c2,_,rfl,hle.trans hle2,⟨_,_,rfl,hl1,hl2⟩,Z.sp⟩))
end
section
theorem Qhf {x:Module}(hx:Lr.at Y cs x)(Z:St Y w L):Ka Tryz.prog vY [.agg ⟨cs⟩] w fun u B=>∃b,u= .bool b∧(b=false→x.Short)∧St Y B L:=by
 obtain ⟨vf,rfl,hl⟩:=NR hx;obtain ⟨l⟩:=x;have hl:Ks.sl Y vf l:=hl;have hlen:=hl.len;refine Kl Kh Tryz.func18 ?_;refine' KU;intro p1 E Z;refine' OJ;refine' zL;(refine' Af<;>intro O);all_goals (refine' zn)
 all_goals
  first
  | (refine' Kf;refine' KM;(exact Av))
  | (refine' Kd;refine' Ko)
 refine' Nr;refine Mt Z [1] (fun A LL ρ' B=>∃(j:Nat),Ki ρ' A∧Ki ρ' [(3, .int .i64 j)]∧(j≤l.length)∧(l.length≤20)∧(∀f∈l.take j,f.Short)∧St Y B (LL)) (fun ρ' _=>(l.length - iv (ρ' 3)).toNat) ?_ ?_
 · exact AE
 rintro U E ⟨j,hA,hρ,hj,hl20,hd,Z⟩;obtain ⟨U,rfl⟩:=Km hA hρ;refine' P4;refine' Ab<;>intro O
 · skip
   ((refine' XR;intro b1 o1 cs1 x1 hat1 hx1 he1;obtain ⟨vp1,vr1,vb1,rfl,hp1,hr1,hb1⟩:=Qx he1;refine' NG;intro p4 E Z;refine Kp Z ?_;intro E Z;have Z:=Z.ns;refine' LA;refine' Ta;(refine' Af<;>intro O);all_goals (refine' LH;(first|(refine' Kj)|(refine' Kg;refine' Kw (c:=je hp1 Z);rintro v1 E ⟨rfl,Z⟩;cases hg1:Tys.great x1.params))));all_goals (refine' Lw;refine' LH;(first|(refine' Kj)|(refine' Kg;refine' Kw (c:=je hr1 Z);rintro v1 E ⟨rfl,Z⟩;cases hg2:Tys.great x1.results))));all_goals (refine' Ld)
   all_goals
    first
    | (refine' Kf;all_goals (refine' KM);all_goals (exact Av))
    | (refine' Kd;refine' Ko)
   refine Qm ?_;have hlb:=hb1.len;refine' Lm;refine' OG;refine Mt Z [1,3,4] (fun A LL ρ' B=>∃(i:Nat),Ki ρ' A∧Ki ρ' [(5, .int .i64 i)]∧(i≤x1.blocks.length)∧(x1.blocks.length≤30)∧(Tys.great x1.params=false)∧(Tys.great x1.results=false)∧(∀f∈x1.blocks.take i,f.Short)∧St Y B (LL)) (fun ρ' _=>(x1.blocks.length - iv (ρ' 5)).toNat) ?_ ?_
   · exact BQ
   rintro U E ⟨i,hA,hρ,hi,hl30,hg1,hg2,hd1,Z⟩;obtain ⟨U,rfl⟩:=Km hA hρ;refine' P4;refine' Ab<;>intro O
   · skip
     ((((((refine' XR;intro b2 o2 cs2 x2 hat2 hx2 he2;obtain ⟨vp2,vc2,ve21,ve22,ve23,ve24,ve25,rfl,hp2,hc2,he21,he22,he23,he24,he25⟩:=PV he2;refine' NG;intro p6 E Z;refine Kp Z ?_;intro E Z;have Z:=Z.ns;refine' LA;refine' Ta;(refine' Af<;>intro O);all_goals (refine' LH;(first|(refine' Kj)|(refine' Kg;refine' Kw (c:=je hp2 Z);rintro v1 E ⟨rfl,Z⟩;cases hg3:Tys.great x2.params))));all_goals (refine' XW;refine' Y1;refine' ML;first|refine' Kj|(refine' Kg;refine' Af<;>intro O)));all_goals (refine' XW;refine' XU;refine' ML;first|refine' Kj|(refine' Kg;refine' Af<;>intro O)));all_goals (refine' XW;refine' XU;refine' ML;first|refine' Kj|(refine' Kg;refine' Af<;>intro O)));all_goals (refine' XW;refine' XU;refine' ML;first|refine' Kj|(refine' Kg;refine' Af<;>intro O)));all_goals (refine' XW;refine' XU;refine' ML;first|refine' Kj|(refine' Kg;refine' Af<;>intro O)));all_goals (refine' Ld)
     all_goals
      first
      | (refine' Kf;all_goals (refine' KM);all_goals (exact Av))
      | (refine' Kd;refine' Ko)
     refine Qm ?_;have hlc:=hc2.len;refine' Lm;refine' OG;refine Mt Z [1,3,4,5,6] (fun A LL ρ' B=>∃(k:Nat),Ki ρ' A∧Ki ρ' [(7, .int .i64 k)]∧(k≤x2.code.length)∧(x2.code.length≤200)∧(Tys.great x2.params=false)∧(x2.fin.Short)∧(∀f∈x2.code.take k,f.Short)∧St Y B (LL)) (fun ρ' _=>(x2.code.length - iv (ρ' 7)).toNat) ?_ ?_
     · exact CD
     rintro U E ⟨k,hA,hρ,hk,hl200,hg3,hfin,hd2,Z⟩;obtain ⟨U,rfl⟩:=Km hA hρ;refine' P4;refine' Ab<;>intro O
     · skip
       (refine' XR;intro b3 o3 cs3 x3 hat3 hx3 he3;obtain ⟨vr3,va3,rfl,hr3,ha3⟩:=QN he3;refine' bN;refine' zL;(refine' Af<;>intro O);all_goals (refine' LH;refine' Mu;(first|(refine' Kj)|(refine' Kg;refine Tx vw rfl Ja rfl V ?_;intro b4 o4 cs4 x4 hat4 hx4 he4;rw [hx3] at hx4;obtain rfl:x3=x4:=EP hx4;obtain ⟨vr4,va4,rfl,hr4,ha4⟩:=QN he4));refine' N9;refine' nF;refine' ML;first|refine' Kj|(refine' Kg;refine' Af<;>intro O)));all_goals (refine' Ld)
       all_goals
        first
        | (refine' Kf;all_goals (refine' KM);all_goals (exact Av))
        | (refine' Kd;refine' Ko)
       refine' Mn;(exact BW)
     · refine' LV;refine' Mn;(exact ⟨⟨i+1,zh,zh,V,V,by assumption,by assumption,YI hd1 hx2 ⟨HD hg3,V,dt hd2 V,hfin⟩,Z.sp⟩,Qh V⟩)
   · refine' LV;refine' Mn;(exact ⟨⟨j+1,zh,zh,V,V,YI hd hx1 ⟨HD hg1,HD hg2,V,dt hd1 V⟩,Z.sp⟩,Qh V⟩)
 · refine' Pn;(have I:l.length≤100000:=CP;exact Cq)
end
section
variable {Y:Cx}{w:World}{L:List Res}{i:Nat}
abbrev MW (b:Nat)(vf:Value)(g:Mj)(at':Int):Res:=blk b 173 [vf, .int .i64 g.1, .int .i64 g.2, .int .i64 at']
theorem Oy {c:Int}(hc0:is=true→c≠0)(Z:St Y w L)(hi:nth L i=some (MW b vf g at')):
 Ka Tryz.prog Qa6 [.pointer (some ⟨b,0,none⟩), .bool is, .int .i64 c] w fun u B=>u= .tuple #[]∧St Y B (L.set i (MW b vf (KP g (K2 (if is=true then c else 0) at')) at')):=by
 have Z:=Z.out hi
 cases is with
 | false=>
   have e:KP g (K2 (if false=true then c else 0) at')=g:=iJ rfl;rw [e];refine Kl Kh Tryz.func103 ?_;refine' KW;refine' S1;refine' UR;refine' Ni;refine' zn
   all_goals
    first
    | (refine' Kd;refine' Ko)
   refine' QY;exact Bw
 | true=>
   have hc0:=hc0 rfl;by_cases h0:g.1=0
   · have e:KP g (K2 (if true=true then c else 0) at')=(c,at'):=(by rw [Qip rfl,YM hc0];unfold KP;rw [Qip ⟨h0,hc0⟩]);rw [e];refine Kl Kh Tryz.func103 ?_;refine' KW;((refine' Ln));((refine' Nf));((refine' LI));((refine' Sh));((refine' LU));(refine' Kg;refine' SW);refine' OZ;refine' Se;refine' RN;refine' LG;refine M8 [_,_] ?_;refine' LF;((refine iY Z ?_;intro E Z;have Z:=Z.ns));refine' Pm;exact Bw
   · rw [R4 h0];refine Kl Kh Tryz.func103 ?_;refine' KW;((refine' Ln));((refine' Nf));((refine' LI));((refine' Sh));((refine' LU));(refine' Kg;refine' PE);refine' OZ;refine' RJ;refine' QY;exact Bw
theorem Vu {s:List UInt8}{c:Nat}{v:Value}(hK:iI.sl Y v s)(Z:St Y w L):Ka Tryz.prog Q4M [v, .int .u8 c] w fun u B=>∃r:Int,u= .int .i64 r∧(0≤r↔(s.any fun b=>decide (b.toNat=c))=true)∧St Y B L:=by
 have hlen:=hK.len;refine Kl Kh Tryz.func265 ?_;refine' MV;refine' Ob;refine Mt Z [0,1,7] (fun A LL ρ' B=>∃(j:Nat),Ki ρ' A∧Ki ρ' [(8, .int .i64 j)]∧(j≤s.length)∧((s.any fun b=>decide (b.toNat=c))=((s.drop j).any fun b=>decide (b.toNat=c)))∧St Y B (LL)) (fun ρ' _=>(s.length - iv (ρ' 8)).toNat) ?_ ?_
 · exact An
 rintro U E ⟨j,hA,hρ,hj,hd,Z⟩;obtain ⟨U,rfl⟩:=Km hA hρ;refine' Nd;refine' Ab<;>intro O
 · skip
   refine' Mi;refine' Nz;refine' KW;refine' RI;intro b1 o1 cs1 x1 hat1 hx1 he1;obtain rfl:=YG he1;refine MG Z ?_;(refine' Ac<;>intro O);all_goals (refine' zn)
   all_goals
    first
    | (refine' Kf;refine' Rj;(exact ⟨_,rfl,j,rfl,by rw [hd,Q7 hx1,Ig,decide_eq_true V,Jb];simp,Z.sp⟩))
    | (refine' Kd;refine' Ko)
   refine' O1;(exact ⟨⟨j+1,zh,zh,V,by rw [hd,Q7 hx1,Ig,decide_eq_false V,G7],Z.sp⟩,Qh V⟩)
 · refine' Pn;(exact ⟨_,rfl, -1,rfl,by rw [hd,ES V];simp,Z.sp⟩)
theorem Qec {s:List UInt8}{c:Nat}{v:Value}(hK:iI.sl Y v s)(Z:St Y w L):Ka Tryz.prog Q3Z [v, .int .u8 c] w fun u B=>u= .bool (s.any fun b=>decide (b.toNat=c))∧St Y B L:=by
 refine Kl Kh Tryz.func252 ?_;refine' LS;refine' KW;refine' Kk (c:=Vu hK Z);rintro v1 E ⟨r,rfl,hr,Z⟩;(refine' Ag<;>intro O);all_goals (refine' zm;refine' zn;refine' zr;refine' zf;refine ⟨_,rfl,?_,Z.sp⟩;(cases hb:(s.any fun b=>decide (b.toNat=c))<;>simp_all);done)
theorem eI {s:ByteArray}{c:Nat}(hs:s.size≤1000000)(Z:St Y w L):Ka Tryz.prog Qk5 [.string s, .int .u8 c] w fun u B=>u= .bool (LP s c)∧St Y B L:=by
 have hle:=Fs Z;refine Kl Kh Tryz.func214 ?_;refine' Nk;refine YH (e:=5) Jk Jk Jk Z vw ?_;intro v1 E Z;obtain ⟨c1,hle2,Z,hk1⟩:=FV (r:=iI) Z (dq _) rfl (by rw [FZ];show s.size≤140737488355328;omega);refine' zm;refine' Kk (c:=Qec hk1 Z);rintro v1 E ⟨rfl,Z⟩;refine' KQ;((exact ⟨_,rfl,rfl,Ge Z.sp hle2⟩))
theorem kR {op:Int}(Z:St Y w L):Ka Tryz.prog Vg [.int .i64 op] w fun u B=>u= .string (L7 op)∧St Y B L:=by
 by_cases hb:op<1∨14<op
 · have e:L7 op=⟨#[]⟩:=(by unfold L7;rw [Qip hb]);rw [e];refine Kl Kh Tryz.func213 ?_;refine' MV;(refine' Ae<;>intro O);all_goals (refine' Md;refine' dQ;refine' Ld;refine' Kf;refine' KM;refine ⟨_,rfl,?_,Z.sp⟩;(rfl);done)
 · have hu:(Uv.map Value.string)[op.toNat]?=some (.string (L7 op)):=by
    rcases LB (op:=op) V V with rfl|rfl|rfl|rfl|rfl|rfl|rfl|rfl|rfl|rfl|rfl|rfl|rfl|rfl<;>rfl
   generalize L7 op=s at hu ⊢;refine Kl Kh Tryz.func213 ?_;refine' MV;refine' Ri;refine' zm;((refine' Ln));(refine' Kg;refine' dO);refine' UY;refine' Kn;refine Qiv (cs:=[_,_,_,_,_,_,_,_,_,_,_,_,_,_,_]) vw vw vw vw vw vw vw vw vw vw vw vw vw vw vw Jr ?_;refine' zm;refine dr (n:=15) (e:=9) Jk Jk Jk vw vw V V hu ?_;refine' KQ;(((refine ⟨_,rfl,?_,Z.sp⟩;(rfl);done)))
theorem QjK (op:Int):(L7 op).size≤1000000:=by
 by_cases hb:op<1∨14<op
 · unfold L7;rw [Qip hb];decide
 · rcases LB (op:=op) V V with rfl|rfl|rfl|rfl|rfl|rfl|rfl|rfl|rfl|rfl|rfl|rfl|rfl|rfl<;>decide
theorem Zj {n:Nat}{x:Ins}{q:Bool}{c3:Int}(hq:q=true↔(((((((LP (L7 x.op) 97=false∧x.a≠0)∨(LP (L7 x.op) 98=false∧x.b≠0))∨(LP (L7 x.op) 99=false∧x.c≠0))∨(LP (L7 x.op) 107=false∧x.k≠0))∨(LP (L7 x.op) 110=false∧x.n≠0))∨(LP (L7 x.op) 103=false∧0<x.regs.length))∨(LP (L7 x.op) 114=false∧0<x.args.length)))(h3:c3=NK n x):
 KP (KP (KP g (K2 (if x.op<1∨14<x.op then 3 else 0) at')) (K2 (if q=true then 4 else 0) at')) (K2 c3 at')=KP g (K2 (Qs n x) at'):=by
 rw [O9,O9];congr 2;subst h3;unfold Qs;by_cases hb:x.op<1∨14<x.op
 · rw [Qip hb,Qip hb];rfl
 · rw [Qin hb,Qin hb]
   obtain ⟨I,M,h3,h4,h5,h6,h7⟩:=Uw x.op hb;rw [I,M,h3,h4,h5,h6,h7] at hq;simp only [or_assoc] at hq;by_cases ho:x.odd
   · rw [Qip ho,Qip (hq.2 ho)];rfl
   · rw [Qin ho,Qin fun h=>ho (hq.1 h)];rfl
theorem Ro {a b:Int}(h:a≠0):SQ a b=a:=Qip h
theorem PI (b:Int):SQ 0 b=b:=rfl
section
attribute [local irreducible] KP K2 SQ NK Qs Nh Np
set_option maxHeartbeats 1000000 in
theorem bS {x :Ins}{n:List Fun}(hx:K1.at Y cs x)(hf:Ks.sl Y vf n)(Z:St Y w L)(hi:nth L i=some (MW b vf g at')):
 Ka Tryz.prog Qav [.pointer (some ⟨b,0,none⟩), .agg ⟨cs⟩] w fun u B=>u= .tuple #[]∧St Y B (L.set i (MW b vf (KP g (K2 (Qs n.length x) at')) at')):=by
 have Z:=Z.out hi;obtain ⟨vr,va,rfl,hr,ha⟩:=QN hx;have hlr:=hr.len;have hla:=ha.len;have hln:=hf.len;have hsz:=QjK x.op;refine Kl Kh Tryz.func164 ?_;refine' KU;intro p3 E Z;refine' zn;refine zM [0,3] (fun A ρ' B=>Ki ρ' A∧Ki ρ' []∧St Y B (blk p3 84 [.int .i64 x.op, .int .i64 x.a, .int .i64 x.b, .int .i64 x.c, .int .i64 x.k, .int .i64 x.n,vr,va]::MW b vf (KP g (K2 (if x.op<1∨14<x.op then 3 else 0) at')) at'::L.eraseIdx i)) ?_ ?_
 · refine' OK;(refine' Ae<;>intro O);all_goals (refine' LH;first|refine' Kj|(refine' Kg;refine' Af<;>intro O));all_goals (refine' Lw;refine' KZ (c:=Oy CW Z fd);rintro v1 E ⟨rfl,Z⟩;simp only [EV,E1,if_true,E2,if_false] at Z;refine' zn;exact AI)
 rintro U E ⟨hA,hρ,Z⟩;obtain ⟨U,rfl⟩:=Km hA hρ;refine' L5;refine' Kw (c:=kR Z);rintro v1 E ⟨rfl,Z⟩;refine' Kv;generalize hh:L7 x.op=h at*;refine' Kn;refine P0 Z 9 [0,3,4] (fun A LL ρ' B=>∃(q1:Bool),Ki ρ' A∧Ki ρ' [(18, .pointer (some ⟨b,0,none⟩)),(26, .bool q1)]∧(q1=true↔(LP h 97=false∧x.a≠0))∧St Y B (LL)) ?_ ?_
 · refine' Me;refine' Kk (c:=eI hsz Z);rintro v1 E ⟨rfl,Z⟩;cases ha1:LP h 97;all_goals (refine' ND;refine' LH;first|refine' Kj|(refine' Kg;refine' Ad<;>intro O));all_goals (refine' nJ;first|(exact ⟨_,zh,zh,by exact ⟨fun _=>⟨Jr,V⟩,fun _=>rfl⟩,Z.sp⟩)|(exact B0))
 rintro U E ⟨q1,hA,hρ,hq1,Z⟩;obtain ⟨U,rfl⟩:=Km hA hρ;refine P0 Z 10 [0,3,4,18] (fun A LL ρ' B=>∃(q2:Bool),Ki ρ' A∧Ki ρ' [(36, .bool q2)]∧(q2=true↔((LP h 97=false∧x.a≠0)∨(LP h 98=false∧x.b≠0)))∧St Y B (LL)) ?_ ?_
 · cases q1;all_goals (refine' Md;(first|refine' Kj|(refine' Kg;refine' Kk (c:=eI hsz Z);rintro v1 E ⟨rfl,Z⟩));cases ha2:LP h 98);all_goals (refine' TK;first|refine' Kj|(refine' Kg;refine' Ad<;>intro O));all_goals (refine' Sg;first|(exact CJ)|(exact AF)|(exact Ch))
 rintro U E ⟨q2,hA,hρ,hq2,Z⟩;obtain ⟨U,rfl⟩:=Km hA hρ;refine P0 Z 10 [0,3,4,18] (fun A LL ρ' B=>∃(q3:Bool),Ki ρ' A∧Ki ρ' [(46, .bool q3)]∧(q3=true↔(((LP h 97=false∧x.a≠0)∨(LP h 98=false∧x.b≠0))∨(LP h 99=false∧x.c≠0)))∧St Y B (LL)) ?_ ?_
 · cases q2;all_goals (refine' Md;(first|refine' Kj|(refine' Kg;refine' Kk (c:=eI hsz Z);rintro v1 E ⟨rfl,Z⟩));cases ha3:LP h 99);all_goals (refine' TK;first|refine' Kj|(refine' Kg;refine' Ad<;>intro O));all_goals (refine' Sg;first|(exact CA)|(exact AF)|(exact Co))
 rintro U E ⟨q3,hA,hρ,hq3,Z⟩;obtain ⟨U,rfl⟩:=Km hA hρ;refine P0 Z 10 [0,3,4,18] (fun A LL ρ' B=>∃(q4:Bool),Ki ρ' A∧Ki ρ' [(56, .bool q4)]∧(q4=true↔((((LP h 97=false∧x.a≠0)∨(LP h 98=false∧x.b≠0))∨(LP h 99=false∧x.c≠0))∨(LP h 107=false∧x.k≠0)))∧St Y B (LL)) ?_ ?_
 · cases q3;all_goals (refine' Md;(first|refine' Kj|(refine' Kg;refine' Kk (c:=eI hsz Z);rintro v1 E ⟨rfl,Z⟩));cases ha4:LP h 107);all_goals (refine' TK;first|refine' Kj|(refine' Kg;refine' Ad<;>intro O));all_goals (refine' Sg;first|(exact B2)|(exact AF)|(exact Cw))
 rintro U E ⟨q4,hA,hρ,hq4,Z⟩;obtain ⟨U,rfl⟩:=Km hA hρ;refine P0 Z 10 [0,3,4,18] (fun A LL ρ' B=>∃(q5:Bool),Ki ρ' A∧Ki ρ' [(66, .bool q5)]∧(q5=true↔(((((LP h 97=false∧x.a≠0)∨(LP h 98=false∧x.b≠0))∨(LP h 99=false∧x.c≠0))∨(LP h 107=false∧x.k≠0))∨(LP h 110=false∧x.n≠0)))∧St Y B (LL)) ?_ ?_
 · cases q4;all_goals (refine' Md;(first|refine' Kj|(refine' Kg;refine' Kk (c:=eI hsz Z);rintro v1 E ⟨rfl,Z⟩));cases ha5:LP h 110);all_goals (refine' TK;first|refine' Kj|(refine' Kg;refine' Ad<;>intro O));all_goals (refine' Sg;first|(exact Cf)|(exact AF)|(exact BE))
 rintro U E ⟨q5,hA,hρ,hq5,Z⟩;obtain ⟨U,rfl⟩:=Km hA hρ;refine P0 Z 11 [0,3,4,18] (fun A LL ρ' B=>∃(q6:Bool),Ki ρ' A∧Ki ρ' [(77, .bool q6)]∧(q6=true↔((((((LP h 97=false∧x.a≠0)∨(LP h 98=false∧x.b≠0))∨(LP h 99=false∧x.c≠0))∨(LP h 107=false∧x.k≠0))∨(LP h 110=false∧x.n≠0))∨(LP h 103=false∧0<x.regs.length)))∧St Y B (LL)) ?_ ?_
 · cases q5;all_goals (refine' Md;(first|refine' Kj|(refine' Kg;refine' Kk (c:=eI hsz Z);rintro v1 E ⟨rfl,Z⟩));cases ha6:LP h 103);all_goals (refine' TK;refine' ML;first|refine' Kj|(refine' Kg;refine' Af<;>intro O));all_goals (refine' Sg;first|(exact Cl)|(exact AF)|(exact Cd))
 rintro U E ⟨q6,hA,hρ,hq6,Z⟩;obtain ⟨U,rfl⟩:=Km hA hρ;refine P0 Z 11 [0,3,18] (fun A LL ρ' B=>∃(q7:Bool),Ki ρ' A∧Ki ρ' [(88, .bool q7)]∧(q7=true↔(((((((LP h 97=false∧x.a≠0)∨(LP h 98=false∧x.b≠0))∨(LP h 99=false∧x.c≠0))∨(LP h 107=false∧x.k≠0))∨(LP h 110=false∧x.n≠0))∨(LP h 103=false∧0<x.regs.length))∨(LP h 114=false∧0<x.args.length)))∧St Y B (LL)) ?_ ?_
 · cases q6;all_goals (refine' Md;(first|refine' Kj|(refine' Kg;refine' Kk (c:=eI hsz Z);rintro v1 E ⟨rfl,Z⟩));cases ha7:LP h 114);all_goals (refine' TK;refine' ML;first|refine' Kj|(refine' Kg;refine' Af<;>intro O));all_goals (refine' Sg;first|(exact ⟨_,zh,zh,by exact ⟨fun _=> .inl (hq6.1 rfl),fun _=>rfl⟩,Z.sp⟩)|(exact AF)|(exact ⟨_,zh,zh,by exact ⟨fun h=>Bool.noConfusion h,fun h=>h.elim (fun h=>hq6.2 h) (fun h=>by obtain ⟨I,M⟩:=h;first|(exfalso;omega)|(simp_all;done))⟩,Z.sp⟩))
 rintro U E ⟨q7,hA,hρ,hq7,Z⟩;obtain ⟨U,rfl⟩:=Km hA hρ;refine' KZ (c:=Oy CW Z fd);rintro v1 E ⟨rfl,Z⟩;simp only [EV,E1,if_true,E2,if_false] at Z;refine' LA;clear hq1 hq2 hq3 hq4 hq5 hq6;have hq:=hq7;clear hq7;refine' S2;refine' P1;refine' Kn;(refine' Ac<;>intro O);all_goals (refine' Kv)
 all_goals
  first
  | (refine' Kf;refine' OK;(refine' Ae<;>intro O);all_goals (refine' LH;first|refine' Kj|(refine' Kg;refine' Af<;>intro O));all_goals (refine' Lw;refine' KZ (c:=Oy CW Z fd);rintro v1 E ⟨rfl,Z⟩;simp only [EV,E1,if_true,E2,if_false] at Z);all_goals refine' zn)
  | (refine' Kd
     refine' Kn;(refine' Ac<;>intro O);all_goals (refine' Kv)
     all_goals
      first
      | (refine' Kf;refine' Lp;refine' Sc;(refine' Af<;>intro O);all_goals (refine' KZ (c:=Oy CW Z fd);rintro v1 E ⟨rfl,Z⟩;simp only [EV,E1,if_true,E2,if_false] at Z);all_goals refine' zn)
      | (refine' Kd
         refine' P2;(refine' Ac<;>intro O);all_goals (refine' Kv)
         all_goals
          first
          | (refine' Kf;refine' Ko)
          | (refine' Kd;refine' Lm;(refine' Ac<;>intro O);all_goals (refine' zm);all_goals refine' zn)
         all_goals
          first
          | (refine' Kf;all_goals (refine' OK;refine' Ae<;>intro O);all_goals (refine' LH;first|refine' Kj|(refine' Kg;refine' Ag<;>intro O));all_goals (refine' Lw;refine' KZ (c:=Oy CW Z fd);rintro v1 E ⟨rfl,Z⟩;simp only [EV,E1,if_true,E2,if_false] at Z);all_goals refine' zn)
          | (refine' Kd
             refine' Kn;(refine' Ac<;>intro O);all_goals (refine' Kv)
             all_goals
              first
              | (refine' Kf;refine Qm ?_;refine zD (ci 16 [15]) ?_;have Z:=Z.drew;refine' zm;refine' KJ;(refine' Ae<;>intro O);all_goals (refine' LH;refine' XO;refine' UP;refine' MD;refine' ML;first|refine' Kj|(refine' Kg;refine' Ag<;>intro O));all_goals (refine' Lw;refine' KZ (c:=Oy CW Z fd);rintro v1 E ⟨rfl,Z⟩;simp only [EV,E1,if_true,E2,if_false] at Z;refine' zn;refine' Lp;refine' Sc;refine' Af<;>intro O);all_goals (refine' RL;first|refine' Kj|(refine' Kg;refine' Af<;>intro O));all_goals (refine' Lw;refine' KZ (c:=Oy CW Z fd);rintro v1 E ⟨rfl,Z⟩;simp only [EV,E1,if_true,E2,if_false] at Z);all_goals refine' zn)
              | (refine' Kd;refine' Ko))))
 all_goals (refine' QY; refine ⟨_, rfl, rfl, ?_⟩; subst hh; rw [← Zj (c3 := NK n.length x) hq rfl]; clear hq hx hr ha hf hsz; have Z := Z.drop; refine F4 ?_ hi; first | (rw [show NK n.length x = 0 from DO]; first | (rw [Rz, iJ rfl]; exact Z) | exact Z | (rw [O9, PI] at Z; exact Z)) | (rw [show NK n.length x = 1 from DO]; first | exact Z | (rw [O9, Ro Jd] at Z; exact Z)) | (rw [show NK n.length x = 2 from DO]; first | exact Z | (rw [O9, PI] at Z; exact Z)) | (trace_state; fail "end"))
theorem kS {x:Fun}{t:To}(hx:Ks.at Y cs x)(ht:toR.at Y ds t)(Z:St Y w L)(hi:nth L i=some (MW b vf g at')):
 Ka Tryz.prog Qch [.pointer (some ⟨b,0,none⟩), .agg ⟨cs⟩, .agg ⟨ds⟩, .bool is] w fun u B=>u= .tuple #[]∧St Y B (L.set i (MW b vf (KP g (K2 (Nh x.blocks.length t is) at')) at')):=by
 have Z:=Z.out hi;obtain ⟨vp,vr,vb,rfl,hp,hr,hb⟩:=Qx hx;obtain ⟨v1,v2,rfl,I,M⟩:=YJ ht;have hlb:=hb.len;have hl1:=I.len;have hl2:=M.len
 cases is with
 | false=>
   ((refine Kl Kh Tryz.func215 ?_;refine' KU;intro p5 E Z;refine zb Z ?_;intro p6 E Z;refine' zn;refine' Lb;refine' O2;refine' Kf;refine' Nj;(refine' Ad<;>intro O);all_goals (refine' RL;first|refine' Kj|(refine' Kg;refine' Af<;>intro O)));all_goals (refine' Lw;refine' RL;first|refine' Kj|(refine' Kg;refine' Af<;>intro O)));all_goals (refine' Lw;refine' KZ (c:=Oy CW Z fd);rintro v1 E ⟨rfl,Z⟩;simp only [EV,E1,if_true,E2,if_false] at Z;refine' LM;refine' jH;refine ⟨_,rfl,rfl,?_⟩;have Z:=Z.drop.drop;refine F4 ?_ hi;first|(rw [show Nh x.blocks.length t false=4 from (by unfold Nh;rw [Qip rfl,Qip V])];exact Z)|(rw [show Nh x.blocks.length t false=0 from (by unfold Nh;rw [Qip rfl,Qin V])];exact Z))
 | true=>
   (((refine Kl Kh Tryz.func215 ?_;refine' KU;intro p5 E Z;refine zb Z ?_;intro p6 E Z;refine' zn;refine' Lb;refine' O2;refine' TG;refine' Nj;(refine' Ae<;>intro O);all_goals (refine' RM;refine' ML;first|refine' Kj|(refine' Kg;refine' Ag<;>intro O)));all_goals (refine' Lw;refine' KZ (c:=Oy CW Z fd);rintro v1 E ⟨rfl,Z⟩;simp only [EV,E1,if_true,E2,if_false] at Z;refine' zn;refine' Lp;refine' Sc;refine' Af<;>intro O));all_goals (refine' RL;first|refine' Kj|(refine' Kg;refine' Af<;>intro O)));all_goals (refine' Lw;refine' KZ (c:=Oy CW Z fd);rintro v1 E ⟨rfl,Z⟩;simp only [EV,E1,if_true,E2,if_false] at Z;refine' Pm;refine ⟨_,rfl,rfl,?_⟩;have Z:=Z.drop.drop;rw [O9] at Z;refine F4 ?_ hi;first|(rw [show Nh x.blocks.length t true=1 from (by unfold Nh;rw [Qin Bool.noConfusion,Qip V])];rw [Ro Jd] at Z;exact Z)|(rw [show Nh x.blocks.length t true=2 from (by unfold Nh;rw [Qin Bool.noConfusion,Qin V,Qip V])];rw [PI] at Z;exact Z)|(rw [show Nh x.blocks.length t true=0 from (by unfold Nh;rw [Qin Bool.noConfusion,Qin V,Qin V])];rw [PI] at Z;exact Z))
theorem Zk {n:Nat}{e:Tail}:KP (KP (KP (KP (KP g (K2 (if e.op<1∨3<e.op then 3 else 0) at')) (K2 (if e.op≠2∧e.a≠0∨e.op≠3∧0<e.args.length then 4 else 0) at')) (K2 (if 8<e.args.length then 2 else 0) at')) (K2 (Nh n e.yes (decide (e.op≠3))) at')) (K2 (Nh n e.no (decide (e.op=2))) at')=KP g (K2 (Np n e) at'):=by
 rw [O9,O9,O9,O9];congr 2;unfold Np;split
 · simp only [Ro (show (3:Int)≠0 by decide)]
 · rw [PI]
   split
   · simp only [Ro (show (4:Int)≠0 by decide)]
   · rw [PI]
     split
     · simp only [Ro (show (2:Int)≠0 by decide)]
     · rw [PI]
theorem bT {x:Fun}{e:Tail}(hx:Ks.at Y cs x)(he:La.at Y ds e)(Z:St Y w L)(hi:nth L i=some (MW b vf g at')):
 Ka Tryz.prog Qaw [.pointer (some ⟨b,0,none⟩), .agg ⟨cs⟩, .agg ⟨ds⟩] w fun u B=>u= .tuple #[]∧St Y B (L.set i (MW b vf (KP g (K2 (Np x.blocks.length e) at')) at')):=by
 have Z:=Z.out hi;obtain ⟨vp,vr,vb,rfl,hp,hr,hb⟩:=Qx hx;obtain ⟨v1,v2,v3,v4,v5,rfl,I,M,h3,h4,h5⟩:=PA he;have hl5:=h5.len;refine Kl Kh Tryz.func165 ?_;refine' KU;intro p4 E Z;refine zb Z ?_;intro p5 E Z;refine' zn;refine zM [0,4,5] (fun A ρ' B=>Ki ρ' A∧Ki ρ' []∧St Y B (blk p5 90 [.int .i64 e.op, .int .i64 e.a, .int .i64 e.yes.block,v1,v2, .int .i64 e.no.block,v3,v4,v5]::blk p4 95 [.int .i64 x.regs,vp,vr,vb]::MW b vf (KP g (K2 (if e.op<1∨3<e.op then 3 else 0) at')) at'::L.eraseIdx i)) ?_ ?_
 · refine' OK;(refine' Ae<;>intro O);all_goals (refine' LH;first|refine' Kj|(refine' Kg;refine' Af<;>intro O));all_goals (refine' Lw;refine' KZ (c:=Oy CW Z fd);rintro v1 E ⟨rfl,Z⟩;simp only [EV,E1,if_true,E2,if_false] at Z;refine' zn;exact AI)
 rintro U E ⟨hA,hρ,Z⟩;obtain ⟨U,rfl⟩:=Km hA hρ;refine zM [0,4,5] (fun A ρ' B=>Ki ρ' A∧Ki ρ' []∧St Y B (blk p5 90 [.int .i64 e.op, .int .i64 e.a, .int .i64 e.yes.block,v1,v2, .int .i64 e.no.block,v3,v4,v5]::blk p4 95 [.int .i64 x.regs,vp,vr,vb]::MW b vf (KP (KP g (K2 (if e.op<1∨3<e.op then 3 else 0) at')) (K2 (if e.op≠2∧e.a≠0∨e.op≠3∧0<e.args.length then 4 else 0) at')) at'::L.eraseIdx i)) ?_ ?_
 · refine' OK;(refine' Ad<;>intro O);all_goals (refine' LH;first|refine' Kj|(refine' Kg;refine' Ad<;>intro O));all_goals (refine' Lw;refine' LH;first|refine' Kj|(refine' Kg;(first|(refine' Sb)|(refine' Ad<;>intro O))));all_goals (refine' XP;refine' ML;first|refine' Kj|(refine' Kg;refine' Af<;>intro O));all_goals (refine' Y2;refine' Lw;refine' KZ (c:=Oy CW Z fd);rintro v1 E ⟨rfl,Z⟩;simp only [EV,E1,if_true,E2,if_false] at Z;refine' zn;exact ⟨zh,zh,by first|(rw [Qip (c:=e.op≠2∧e.a≠0∨e.op≠3∧0<e.args.length) V];exact Z.sp)|(rw [Qin (c:=e.op≠2∧e.a≠0∨e.op≠3∧0<e.args.length) V];exact Z.sp)⟩)
 rintro U E ⟨hA,hρ,Z⟩;obtain ⟨U,rfl⟩:=Km hA hρ;refine zM [0,4,5] (fun A ρ' B=>Ki ρ' A∧Ki ρ' []∧St Y B (blk p5 90 [.int .i64 e.op, .int .i64 e.a, .int .i64 e.yes.block,v1,v2, .int .i64 e.no.block,v3,v4,v5]::blk p4 95 [.int .i64 x.regs,vp,vr,vb]::MW b vf (KP (KP (KP g (K2 (if e.op<1∨3<e.op then 3 else 0) at')) (K2 (if e.op≠2∧e.a≠0∨e.op≠3∧0<e.args.length then 4 else 0) at')) (K2 (if 8<e.args.length then 2 else 0) at')) at'::L.eraseIdx i)) ?_ ?_
 · refine' Lp;refine' Sc;(refine' Af<;>intro O);all_goals (refine' KZ (c:=Oy CW Z fd);rintro v1 E ⟨rfl,Z⟩;simp only [EV,E1,if_true,E2,if_false] at Z;refine' zn;exact ⟨zh,zh,by first|(rw [Qip (c:=8<e.args.length) V];exact Z.sp)|(rw [Qin (c:=8<e.args.length) V];exact Z.sp)⟩)
 rintro U E ⟨hA,hρ,Z⟩;obtain ⟨U,rfl⟩:=Km hA hρ;refine' RK;refine' Sd;refine' KJ;refine Yh rfl rfl ?_;refine' M3 (c:=kS (t:=e.yes) hx ⟨_,_,rfl,I,M⟩ Z fd);rintro v1 E ⟨rfl,Z⟩;have Z:=Z.ns;refine' Tb;refine' Sd;refine' KJ;refine jV rfl rfl ?_;refine' M3 (c:=kS (t:=e.no) hx ⟨_,_,rfl,h3,h4⟩ Z fd);rintro v1 E ⟨rfl,Z⟩;have Z:=Z.ns;refine' Pm;refine ⟨_,rfl,rfl,?_⟩;rw [Zk] at Z;exact F4 Z.drop.drop hi
end
end
section
structure RFV where
 f:Nat
 b:Nat
 i:Nat
 vv:Value
 vals:List Int
def RFV.abs (x:RFV):RFrm:=⟨x.f,x.b,x.i,x.vals⟩
def RFV.cells (x:RFV):List Value:=[.int .i64 x.f, .int .i64 x.b, .int .i64 x.i,x.vv]
def RFV.res (x:RFV):Res:=sl 2 1 x.vv (x.vals.map Qq)
structure RC where
 ep:Value
 fn:Value
 lv:Value
 iv:Value
 e:Int
 bv:Value
 ov:Value
 fu:Int
 mo:Int
 dn:Bool
@[reducible] def RC.cells (x:RC):List Value:=[x.ep,x.fn,x.lv,x.iv, .int .i64 x.e,x.bv,x.ov, .int .i64 x.fu, .int .i64 x.mo, .bool x.dn]
@[reducible] def Og (fr:List RFV)(g:RFV):List (List Value):=fr.map RFV.cells++[g.cells]
theorem QG (fr:List RFV)(g:RFV):(Og fr g).length=fr.length+1:=by simp
theorem Rp (fr:List RFV)(g:RFV):(Og fr g)[fr.length]?=some g.cells:=by
 rw [ER Js];simp
theorem xb {fr:List RFV}{g g':RFV}(h:g.cells.set j u=g'.cells):(Og fr g).set fr.length (g.cells.set j u)=Og fr g':=by
 rw [h];unfold Og;rw [Gf _ _ Js];simp
@[reducible] def rL (p:Nat)(c:RC)(fr:List RFV)(g:RFV)(L:List Res):List Res:=blk p 66 c.cells::sl 138 4 c.lv (Og fr g)::sl 2 1 g.vv (g.vals.map Qq)::KV RFV.res fr::L
@[reducible] def X1 (e:Int):Value:= .iface 139 (.int .i64 e)
variable {Y:Cx}{w:World}{L:List Res}{p:Nat}{c:RC}{fr:List RFV}{g:RFV}
theorem Zl {e:Int}(Z:St Y w L):Ka Tryz.prog wv [.bool false, .int .i64 e] w fun u B=>u= .tuple #[]∧St Y B L:=by
 refine Kl Kh Tryz.func81 ?_;refine' LS;refine' TG;refine' QY;exact Ap
theorem Zm {e:Int}(Z:St Y w L):Kr Tryz.prog wv [.bool true, .int .i64 e] w (fun _ _=>False) (fun u B=>u=X1 e∧St Y B L):=by
 unfold Kr;refine Kl Kh Tryz.func81 ?_;refine' LS;refine' Kf;refine' Lp;refine' nC;refine nr rfl ?_;(repeat (refine' Qo));refine' Qi;exact AR
theorem X2 (hf:fr.length≤1000)(Z:St Y w (rL p c fr g L)):Ka Tryz.prog Q9i [.pointer (some ⟨p,0,none⟩)] w fun u B=>∃b o,u= .pointer (some ⟨b,o,none⟩)∧NJ c.lv (fr.length+1) 4 fr.length b o∧St Y B (rL p c fr g L):=by
 refine Kl Kh Tryz.func82 ?_;refine' LS;refine Qm ?_;refine zD (ci 12 [11]) ?_;have Z:=Z.drew;refine' OM;refine' OM;((refine Qt Z vw fd (QG fr g) ?_));refine' NY;rw [show ((fr.length+1:Nat):Int) - 1=fr.length by omega];((refine OW Z vw rfl fd Dr ?_;rw [QG];intro b1 o1 hel));refine' KQ;((exact Bf))
theorem RFrm.val_in {g:RFrm}{k v:Int}(h:g.val k=some v):0≤k∧k.toNat<g.vals.length∧g.vals[k.toNat]?=some v:=by
 unfold RFrm.val at h;by_cases h0:k<0
 · rw [Qip h0] at h;cases h
 · rw [Qin h0] at h;exact ⟨V,(EJ.mp h).1,h⟩
theorem P7 {k v:Int}(hf:fr.length≤1000)(Z:St Y w (rL p c fr g L))(hg:g.abs.val k=some v):Ka Tryz.prog Q9h [.pointer (some ⟨p,0,none⟩), .int .i64 k] w fun u B=>u= .int .i64 v∧St Y B (rL p c fr g L):=by
 obtain ⟨h0,hl,hv⟩:=RFrm.val_in hg;refine Kl Kh Tryz.func135 ?_;refine' Nk;refine' Kw (c:=X2 hf Z);rintro v1 E ⟨b1,o1,rfl,hel,Z⟩;refine' LW;((refine Q9 Z hel rfl fd (QG fr g) (Rp fr g) rfl ?_));refine' zm;((refine QA Z vw rfl fd V (by rw [EM];show k<(g.vals.length:Int);have:k.toNat<g.vals.length:=hl;omega) ?_;rw [EM];intro b2 o2 hel2));refine QV Z hel2 rfl fd (EM _) (show (g.vals.map Qq)[k.toNat]?=some (Qq v) by rw [EZ];rw [show g.vals[k.toNat]?=some v from hv];rfl) rfl ?_;refine' KQ;((exact Ap))
end
end Go.Proofs.YteflkifmgnpbhaaGreat
namespace Go.Proofs.YteflkifmgnpbhaaGreat
open Go.Lir
theorem QgW {g:RFrm}{k v:Int}(hd:g.args l=(g.args (l.drop q)).map fun r=>out++r)(hx:l[q]?=some k)(hv:g.val k=some v):g.args l=(g.args (l.drop (q+1))).map fun r=>(out++[v])++r:=by
 rw [hd,Q7 hx,RFrm.args,hv]
 cases g.args (l.drop (q+1)) with
 | none=>rfl
 | some r=>simp
theorem QiZ {g:RFrm}(hd:g.args l=(g.args (l.drop q)).map fun r=>out++r)(hq:l.length≤q):g.args l=some out:=by
 rw [hd,ES hq,RFrm.args];simp
theorem Zn {g:RFrm}:g.args l=(g.args (l.drop 0)).map fun r=>[]++r:=by
 rw [FG];cases g.args l<;>rfl
theorem xc {g:RFrm}{k:Int}:∀{l:List Int}{vs:List Int},g.args l=some vs→∀{q:Nat},l[q]?=some k→∃v,g.val k=some v
 | [],_,_,_,h=>by simp at h
 | a ::l,vs,h,q,hq=>by
   rw [RFrm.args] at h
   cases ha:g.val a with
   | none=>rw [ha] at h;cases h
   | some v=>
     rw [ha] at h
     cases hl:g.args l with
     | none=>rw [hl] at h;cases h
     | some r=>
       cases q with
       | zero=>simp at hq;subst hq;exact ⟨v,ha⟩
       | succ q=>exact xc hl (q:=q) (by simpa using hq)
end Go.Proofs.YteflkifmgnpbhaaGreat
namespace Go.Proofs.YteflkifmgnpbhaaGreat
open Go.Lir
attribute [local irreducible] LC.wp Q0 Qp Qk KN Qw LO.wp Q6 Calls
section
variable {Y:Cx}{w:World}{L:List Res}{p:Nat}{c:RC}{fr:List RFV}{g:RFV}
attribute [local irreducible] RFrm.val RFrm.args
theorem Q9I (l:List Int):∀c∈l.map Qq,∀u∈c,oneC u=true:=by
 intro c O u hu;obtain ⟨v,_,rfl⟩:=Fq.1 O;simp [Qq] at hu;rcases hu with rfl;rfl
def RFV.push (g:RFV)(tv:Value)(vs:List Int):RFV:=⟨g.f,g.b,g.i,tv,g.vals++vs⟩
theorem X3 (hf:fr.length≤1000)(hn:g.vals.length+vs.length≤1000000)(Z:St Y w (rL p c fr g L))(hj:nth L j=some (sl 2 1 v2 (vs.map Qq))):
 Ka Tryz.prog Q9j [.pointer (some ⟨p,0,none⟩),v2] w fun u B=>∃tv,u= .tuple #[]∧St Y B (rL p c fr (g.push tv vs) L):=by
 refine Kl Kh Tryz.func133 ?_;refine' Lp;refine' Kw (c:=X2 hf Z);rintro v1 E ⟨b1,o1,rfl,hel1,Z⟩;refine' zm;refine' Kw (c:=X2 hf Z);rintro v2 E ⟨b2,o2,rfl,hel2,Z⟩;refine' LW;((refine Q9 Z hel2 rfl fd (QG fr g) (Rp fr g) rfl ?_));refine' zm;((refine Mx Td (.inl Vq) Z vw vw (i:=2) rfl (Z.srcS (i:=j+4) hj (Q9I vs)) Dw ?_;intro v7 w7 Z;have Z:=Z.ns;have ho7:=Z.oneC (i:=2) rfl;rw [←E7] at Z));refine' LW;refine QC Z hel1 rfl vw fd (QG fr g) (Rp fr g) V ho7 (xb (g':=g.push v7 vs) rfl) ?_;intro w8 Z;have Z:=Z.ns;refine' Pm;exact ⟨_,rfl,v7,rfl,Z.sp⟩
theorem eJ {v1:Value}(hl1:l.length≤100000)(hf:fr.length≤1000)(hl:Kb.sl Y v1 l)(hv:g.abs.args l=some vs)(Z:St Y w (rL p c fr g L)):Ka Tryz.prog Q8A [.pointer (some ⟨p,0,none⟩),v1] w
 fun u B=>vs.length=l.length∧oneC u=true∧St Y B (rL p c fr g (sl 2 1 u (vs.map Qq)::L)):=by
 have hlen:=hl.len;refine Kl Kh Tryz.func143 ?_;refine' LS;refine' MV;refine' Ob;have Z:St Y _ (rL p c fr g (sl 2 1 (.slice none 0 0) (([]:List Int).map Qq)::L)):=Et;refine zo [0,8,9] (fun A ρ' B=>∃(q:Nat) (vo:Value) (out:List Int),Ki ρ' A∧Ki ρ' [(5,vo),(10, .int .i64 q)]∧(q≤l.length)∧(out.length=q)∧(oneC vo=true)∧(g.abs.args l=(g.abs.args (l.drop q)).map fun r=>out++r)∧St Y B (rL p c fr g (sl 2 1 vo (out.map Qq)::L))) (fun ρ' _=>(l.length - iv (ρ' 10)).toNat) ?_ ?_
 · exact ⟨0, .slice none 0 0,[],zh,zh,V,rfl,rfl,Zn,Z.sp⟩
 rintro U E ⟨q,vo,out,hA,hρ,hq,hol,hvo,hd,Z⟩;obtain ⟨U,rfl⟩:=Km hA hρ;refine' Nd;refine' Ab<;>intro O
 · refine' XX;intro b1 o1 cs1 x1 hat1 hx1 he1;obtain rfl:=Qy he1;refine MG Z ?_;refine' Kv;refine' RN;obtain ⟨n1,hn1⟩:=xc hv hx1;refine' Kk (c:=P7 hf Z hn1);rintro v2 w2 ⟨rfl,Z⟩;refine KO Z [_] ?_;intro b1 E Z;refine Mx Td (.inl Vq) Z vw vw (i:=5) rfl (Z.srcB (i:=0) rfl Jr CU) CZ ?_;intro v7 w7 Z;have Z:=Z.ns;have ho7:=Z.oneC (i:=5) rfl;refine' Kv;refine' O1;(exact ⟨⟨q+1,v7,out++[n1],zh,zh,V,by rw [EO,hol];rfl,ho7,QgW hd hx1 hn1,by rw [E7];exact Z.sp⟩,Qh V⟩)
 · refine' S8;(have e9:=QiZ hd V;rw [hv] at e9;cases e9;exact ⟨_,rfl,V,hvo,Z.sp⟩)
end
section
@[reducible] def rS (p:Nat)(c:RC)(fr:List RFV)(g:RFV)(s:EstS)(out:List Int)(L:List Res):List Res:=rL p c fr g (ME c.ep s::sl 2 1 c.ov (out.map Qq)::L)
variable {Y:Cx}{w:World}{L:List Res}{p:Nat}{c:RC}{fr:List RFV}{g:RFV}{s:EstS}{out:List Int}
attribute [local irreducible] RFrm.val RFrm.args
theorem nQ {pp:Value}{q:PoolS}(k:Int)(hb:c.ep= .pointer (some ⟨b,0,none⟩))(Z:St Y w (rL p c fr g (blk b 73 (pp::cs)::Mp pp q::L))):Ka Tryz.prog Q8z [.pointer (some ⟨p,0,none⟩), .int .i64 k] w fun u B=>u= .int .i64 (q.word k)∧St Y B (rL p c fr g (blk b 73 (pp::cs)::Mp pp q::L)):=by
 obtain ⟨ep,fn,lv,iv,e,bv,ov,fu,mo,dn⟩:=c;obtain rfl:ep=_:=hb;refine Kl Kh Tryz.func139 ?_;refine' Nk;refine' LG;refine' LG;refine' zm;refine' Kk (c:=et (s:=q) k Z fd);rintro v1 E ⟨rfl,Z⟩;refine' Sf;refine' L6;refine' KQ;((exact Ap))
theorem Vv (r n:Int)(Z:St Y w (rS p c fr g s out L)):Kr Tryz.prog Q9l [.pointer (some ⟨p,0,none⟩), .int .i64 r, .int .i64 n] w
 (fun u B=>s.code r n≠14∧u= .int .i64 (s.getV r n)∧St Y B (rS p c fr g (s.get r n) out L)) (fun u B=>s.code r n=14∧u=X1 6∧St Y B (rS p c fr g (s.get r n) out L)):=by
 (unfold Kr;refine Kl Kh Tryz.func198 ?_;refine' Nk;refine' LG;refine' Me;refine' KZ (c:=eu (e:=c.ep) (s:=s) r n Z fd);rintro v1 E ⟨rfl,Z⟩;have Z:=Z.ns;refine' Sf;refine' L6;(refine' Ac<;>intro O);all_goals (first|(refine' Kk (c:=Zl Z);rintro v1 E ⟨rfl,Z⟩)|(refine KF (c:=Zm Z) (p:=by rintro v9 w9 ⟨rfl,Z⟩;(repeat (refine' Qo));refine' Qi;refine .inr ⟨_,rfl,?_⟩;first|(exact ⟨V,rfl,Z.sp⟩)) (h:=fun _ _ h=>h.elim))));refine' L8;refine' KQ;(exact .inl ⟨_,rfl,V,rfl,Z.sp⟩)
end
section
variable {Y:Cx}{w:World}{L:List Res}{p:Nat}{c:RC}{fr:List RFV}{g:RFV}{s:EstS}{out:List Int}
attribute [local irreducible] RFrm.val RFrm.args EstS.get EstS.getV EstS.code EstS.word EstS.store
theorem bU {pp:Value}{q:PoolS}{x:Ins}{a k:Int}(hb:c.ep= .pointer (some ⟨b,0,none⟩))(hx:K1.at Y cs x)(hf:fr.length≤1000)(ha:g.abs.val x.a=some a)(hk:g.abs.val x.b=some k)(Z:St Y w (rL p c fr g (blk b 73 (pp::ds)::Mp pp q::L))):Kr Tryz.prog Qal [.pointer (some ⟨p,0,none⟩), .agg ⟨cs⟩] w
 (fun u B=>¬(k<0∨q.word a≤k)∧u= .int .i64 (wr (wr (a+1)+k))∧St Y B (rL p c fr g (blk b 73 (pp::ds)::Mp pp q::L))) (fun u B=>(k<0∨q.word a≤k)∧u=X1 2∧St Y B (rL p c fr g (blk b 73 (pp::ds)::Mp pp q::L))):=by
 ((obtain ⟨vr,va,rfl,hr,ha1⟩:=QN hx;unfold Kr;refine Kl Kh Tryz.func142 ?_;refine' KU;intro p3 E Z;refine' MU;refine zC [(0,none),(1,none),(2,none),(4,none),(5,none),(6,none),(3,some (some [6])),(7,some none),(8,none),(9,some none)] ?_;have Z:=Z.drew;refine' Ph;refine' N1;(refine' Kk (c:=P7 hf (show St Y _ (rL p c fr g _) from Z.sp) ha);rintro v1 E ⟨rfl,Z⟩);refine' LY;(refine' Kk (c:=P7 hf (show St Y _ (rL p c fr g _) from Z.sp) hk);rintro v2 w2 ⟨rfl,Z⟩);refine' Ku;refine' zm;refine' Oa;refine' KX;(refine' Ae<;>intro O);all_goals (refine' Md;refine' Mu;refine' Mu;(first|refine' Kj|(refine' Kg;refine' Kk (c:=nQ (q:=q) a hb (show St Y _ (rL p c fr g (blk b 73 (pp::ds)::Mp pp q::_)) from Z.sp));rintro v3 w3 ⟨rfl,Z⟩));first|refine' Kj|(refine' Kg;refine' Ag<;>intro O)));all_goals (refine' Lw;first|(refine' Kk (c:=Zl Z);rintro v1 E ⟨rfl,Z⟩)|(refine KF (c:=Zm Z) (p:=by rintro v9 w9 ⟨rfl,Z⟩;(repeat (refine' Qo));refine' Qi;refine .inr ⟨_,rfl,?_⟩;first|(exact ⟨V,rfl,Z.sp⟩)) (h:=fun _ _ h=>h.elim))));refine' L8;refine dd rfl rfl ?_;refine' zm;refine dd rfl rfl ?_;refine' KQ;(exact .inl ⟨_,rfl,V,rfl,Z.sp⟩)
end
section
variable {Y:Cx}{w:World}{L:List Res}{p:Nat}{c:RC}{fr:List RFV}{g:RFV}{s:EstS}{out:List Int}
theorem EstS.rok_store {s:EstS}(h:s.Ok)(k x:Int):(s.store k x).Ok:=⟨h.len,h.off,h.used,h.tk.store k x,IT h.pok k x,by show (s.p.store k x).n≤64;rw [Hj];exact h.n64⟩
theorem EstO.rstore {s:EstS}{rv:List RegV}(h:EstO e s b rv)(k x:Int):EstO e (s.store k x) b rv:=⟨h.he,h.hr,EstS.rok_store h.ok k x⟩
theorem nR {s:EstS}{pp:Value}{rv:List RegV}{k:Int}(h:EstO e s b rv)(Z:St Y w (blk b 73 (pp::L9 rv)::Mp pp (s.p.store k x)::KV RegV.res rv::L)):St Y w (ME e (s.store k x)::L):=Rn (s:=s.store k x) (h.rstore k x) Z
attribute [local irreducible] RFrm.val RFrm.args EstS.get EstS.getV EstS.code EstS.word EstS.store
theorem Vw {x:Ins}{a n:Int}(hx:K1.at Y cs x)(hf:fr.length≤1000)(hn:g.vals.length≤900000)(ha:g.abs.val x.a=some a)(hk:g.abs.val x.b=some n)(Z:St Y w (rS p c fr g s out L)):Kr Tryz.prog Q7w [.pointer (some ⟨p,0,none⟩), .agg ⟨cs⟩] w
 (fun u B=>¬(n<0∨15<n)∧s.code a (1+n)≠14∧u= .tuple #[]∧∃tv,St Y B (rS p c fr (g.push tv [s.getV a (1+n)]) ((s.get a (1+n)).store (s.getV a (1+n)) n) out L))
 (fun u B=>(n<0∨15<n)∧u=X1 3∧St Y B (rS p c fr g s out L)∨¬(n<0∨15<n)∧s.code a (1+n)=14∧u=X1 6∧St Y B (rS p c fr g (s.get a (1+n)) out L)):=by
 ((obtain ⟨vr,va,rfl,hr,ha1⟩:=QN hx;obtain ⟨ep,fn,lv,iv,e,bv,ov,fu,mo,dn⟩:=c;unfold Kr;refine Kl Kh Tryz.func141 ?_;refine' KU;intro p3 E Z;refine' L8;refine' KJ;refine' Kk (c:=P7 hf (show St Y _ (rL p _ fr g _) from Z.sp) hk);rintro v1 E ⟨rfl,Z⟩;refine' L6;(refine' Ae<;>intro O);all_goals (refine' Md;first|refine' Kj|(refine' Kg;refine' Af<;>intro O)));all_goals (refine' Lw;first|(refine' Kk (c:=Zl Z);rintro v1 E ⟨rfl,Z⟩)|(refine KF (c:=Zm Z) (p:=by rintro v9 w9 ⟨rfl,Z⟩;(repeat (refine' Qo));refine' Qi;refine .inr ⟨_,rfl,?_⟩;first|(exact .inl ⟨V,rfl,Z.sp⟩)) (h:=fun _ _ h=>h.elim))));refine' XZ;refine' KJ;refine' Kk (c:=P7 hf (show St Y _ (rL p _ fr g _) from Z.sp) ha);rintro v1 E ⟨rfl,Z⟩;refine' XY;refine MK (c:=Vv (s:=s) (out:=out) a (1+n) (show St Y _ (rS p _ fr g s out _) from Z.sp)) (p:=by rintro u9 w9 ⟨h14,rfl,Z⟩;(repeat (refine' Qo));refine' Qi;refine .inr ⟨_,rfl,?_⟩;exact .inr ⟨V,h14,rfl,Z.sp⟩) (h:=?_);rintro u1 w2 ⟨h14,rfl,Z⟩;refine' MU;obtain ⟨b9,pp,rv,ho,Z⟩:=Tc (Z.out (i:=4) rfl);obtain rfl:=ho.he;refine' P6;refine' LG;refine' Me;refine' KZ (c:=nM (s:=(s.get a (1+n)).p) (s.getV a (1+n)) n Z Yx);rintro v1 E ⟨rfl,Z⟩;have Z:=Z.ns;have Z:=nR ho Z;have Z:=Z.ns;refine' U3;refine KO Z [_] ?_;intro b1 E Z;have Z:=Fz (T:=2) (es:=1) (css:=[s.getV a (1+n)].map Qq) Z rfl C2 rfl;have Z:St Y _ (rL p _ fr g (sl 2 1 (.slice (some ⟨b1,0,none⟩) 1 1) ([s.getV a (1+n)].map Qq)::_)):=Z.sp;refine' Kk (c:=X3 (j:=0) hf C0 Z rfl);rintro u1 E ⟨tv,rfl,Z⟩;refine' Pm;exact .inl ⟨_,rfl,V,h14,rfl,tv,Z.sp⟩
end
end Go.Proofs.YteflkifmgnpbhaaGreat
