
/- Lemmas of the proof, part 4: what the functions of the program do (contracts), and what follows. -/
import Derived.Test.YteflkifmgnpbhaaGreatZ2
import Derived.Test.YteflkifmgnpbhaaGreatZ3
open Go Go.Lir Go.Proofs.YteflkifmgnpbhaaGreat
variable {k r c at' op a regs kd:Int}{l us:List Ty}{to:List Int}{x:Ins}{j b n q f p i d o pa pb:Nat}{y:Block}{is:Bool}{vf v u v2:Value}{g:LV}{s:JS}{cs ds:List Value}{t:To}{e:Tail}{m:Module}
set_option linter.unusedVariables false
set_option linter.unusedSimpArgs false
set_option maxHeartbeats 1000000
namespace Go.Lir
section
variable {p:Prop}
theorem Dg (h:p:=by intro _;decide):p:=h
theorem Dk (h:p:=by first|(exact AD)|(exact Az)):p:=h
theorem Dm (h:p:=by rw [e];assumption):p:=h
theorem Dp (h:p:=by rw [PJ];decide):p:=h
theorem Dq (h:p:=by rw [No (c:=1) (by unfold QF;rw [if_pos Jo]) Jd];simp):p:=h
theorem Dr (h:p:=by unfold QF;rw [if_pos Jo]):p:=h
theorem Ds (h:p:=by rw [e];simp):p:=h
theorem Dt (h:p:=by unfold Qt;rw [if_pos Jo]):p:=h
theorem Dv (h:p:=by unfold QF;rw [if_neg Jo,if_pos Ja]):p:=h
theorem DA (h:p:=by simpa using hb):p:=h
theorem DD (h:p:=by unfold Qt;rw [if_neg Jo,if_pos Ja]):p:=h
theorem DF (h:p:=by unfold Qt;rw [if_neg Jo,if_neg Jo,if_pos (hq.1 rfl)]):p:=h
theorem DH (h:p:=by unfold QF;rw [if_neg Jo,if_neg Ja,if_pos Ja]):p:=h
theorem DK (h:p:=by unfold Qt;rw [if_neg Jo,if_neg Jo,if_neg (fun h=>Bool.noConfusion (hq.2 h)),if_pos Jo]):p:=h
theorem DL (h:p:=by rw [hx2];intro h;cases h;omega):p:=h
theorem DQ (h:p:=by first|(exact AD)|(exact AO)):p:=h
theorem DS (h:p:=by unfold QF;rw [if_neg Jo,if_neg Ja,if_neg Ja,if_pos Jo]):p:=h
theorem DU (h:p:=by have:=of_decide_eq_false hop;omega):p:=h
theorem DZ (h:p:=by rw [hd,Q1 hx3,yB Ja]):p:=h
theorem D4 (h:p:=by unfold QF;rw [if_neg k1,if_neg k2,if_neg k3,if_neg k4,if_pos];refine ⟨hf0,?_⟩;rw [E1 Jo] at hq2;refine Fv fun h=>?_;have:=hq2.2 ⟨Jo,Jo,fun t ht=>Fv fun hk=>h (.inr (.inr ⟨t,ht,hk⟩))⟩;cases this):p:=h
theorem Ea (h:p:=by unfold Nw; (repeat (first | rw [if_pos Jo] | rw [if_neg Jo]))):p:=h
theorem Ej (h:p:=by unfold Ins.odd;simp only [←or_assoc];first|exact .inl (hq6.1 rfl)|exact .inr ⟨(by first|rfl|assumption),Jo⟩):p:=h
theorem Er (h:p:=by first|(exact AD)|(exact AO)|(exact Bd)):p:=h
theorem Ev (h:p:=by have:=hop.2.2.1;rwa [decide_eq_true h] at this):p:=h
theorem EB (h:p:=by have:=hop.2.2.2;rwa [decide_eq_true h] at this):p:=h
theorem EG (h:p:=by rw [hd,EP Jo,NW]):p:=h
end
end Go.Lir
namespace Go.Lir
section
variable {p:Prop}
theorem Az (h:p:=by exact kv hS rfl fd rfl):p:=h
theorem AD (h:p:=by exact Q1x hS rfl fd rfl):p:=h
theorem AK (h:p:=by exact ⟨_,rfl,_,_,rfl,hle,O3 (FL _ _ _),hS.sp⟩):p:=h
theorem AL (h:p:=by exact ⟨_,zh,zh,by exact ⟨fun _=> .inr ⟨(by first|rfl|assumption),Jo⟩,fun _=>rfl⟩,hS.sp⟩):p:=h
theorem AM (h:p:=by exact .inl ⟨_,rfl,hJ⟩):p:=h
theorem AO (h:p:=by exact mV hS rfl fd rfl rfl):p:=h
theorem A9 (h:p:=by exact ⟨_,rfl, .inl ⟨Jo,rfl,hS.sp⟩⟩):p:=h
theorem Bd (h:p:=by exact nh hS Ja rfl rfl rfl):p:=h
theorem Bf (h:p:=by exact ⟨zh,zh,by first|(rw [if_pos Jo];exact hS.sp)|(rw [if_neg Jo];exact hS.sp)⟩):p:=h
theorem Bt (h:p:=by exact .inl ⟨_,rfl,hJ,rfl,(Fi hS.sp hi)⟩):p:=h
theorem BA (h:p:=by exact ⟨_,zh,zh,by exact ⟨fun h=>Bool.noConfusion h,fun h=>absurd h.1 Jo⟩,hS.sp⟩):p:=h
theorem BB (h:p:=by exact ⟨_,by rw [T1 Jo,Q3 h1,Q3 h2,Q3 h3,if_pos (by simpa using hb)],rfl,(Fi hS.sp hi)⟩):p:=h
theorem BD (h:p:=by exact ⟨_,rfl,rfl,F9 hS hi⟩):p:=h
theorem BH (h:p:=by exact ⟨_,by rw [T1 Jo,Q3 h1,Qr h2],rfl,(Fi hS.sp hi)⟩):p:=h
theorem BI (h:p:=by exact ⟨_,by rw [ej,if_neg hne,Qr (uj hx2 hd (by simpa using hb1) (of_decide_eq_true hb))],rfl,(Fi hS.sp hi)⟩):p:=h
theorem BK (h:p:=by exact ⟨_,ej.trans (if_pos Jo),rfl,(Fi hS.sp hi)⟩):p:=h
theorem BN (h:p:=by exact ⟨_,Qr h1,rfl,(Fi hS.sp hi)⟩):p:=h
theorem BO (h:p:=by exact ⟨_,by rw [T1 Jo,Qr h1],rfl,(Fi hS.sp hi)⟩):p:=h
theorem BR (h:p:=by exact ⟨_,if_pos Jo,rfl,(Fi hS.sp hi)⟩):p:=h
theorem BS (h:p:=by exact ⟨_,by rw [if_neg Jo,hd];exact sh hx1 hx2 g1 hn (by simpa using hb),rfl,Gi (Fi hS.sp hi) hL0⟩):p:=h
theorem BT (h:p:=by exact ⟨_,by rw [if_neg Jo,hd];exact sg hx1 hx2 g1 hn,rfl,Gi (Fi hS.sp hi) hL0⟩):p:=h
theorem BX (h:p:=by exact ⟨_,by rw [T1 Jo,Q3 h1,Q3 h2,Qr h3],rfl,(Fi hS.sp hi)⟩):p:=h
theorem B0 (h:p:=by exact ⟨_,rfl,j,rfl,by rw [hd,Q1 hx1,HL,decide_eq_true Jo,Hu];simp,hS.sp⟩):p:=h
theorem B1 (h:p:=by exact ⟨_,zh,zh,by exact ⟨fun _=> .inl (hq4.1 rfl),fun _=>rfl⟩,hS.sp⟩):p:=h
theorem B2 (h:p:=by exact ⟨_,(Q3 h1).trans (if_pos (by simpa using hb)),rfl,(Fi hS.sp hi)⟩):p:=h
theorem B5 (h:p:=by exact ⟨_,zh,zh,by exact ⟨fun h=>Bool.noConfusion h,fun h=>h.elim (fun h=>hq1.2 h) (fun h=>by obtain ⟨h1,h2⟩:=h;first|(exfalso;omega)|(simp_all;done))⟩,hS.sp⟩):p:=h
theorem B7 (h:p:=by exact ⟨_,rfl, .inr (.inl ⟨Jo, .inl (.inr Jo),rfl,hS.sp⟩)⟩):p:=h
theorem Cc (h:p:=by exact ⟨_,zh,zh,by exact ⟨fun _=>⟨(by first|rfl|assumption),Jo⟩,fun _=>rfl⟩,hS.sp⟩):p:=h
theorem Cf (h:p:=by exact ⟨_,zh,zh,by exact ⟨fun h=>Bool.noConfusion h,fun h=>h.elim (fun h=>hq3.2 h) (fun h=>by obtain ⟨h1,h2⟩:=h;first|(exfalso;omega)|(simp_all;done))⟩,hS.sp⟩):p:=h
theorem Cg (h:p:=by exact ⟨_,rfl, .inr (.inl ⟨Jo, .inl (.inl Jo),rfl,hS.sp⟩)⟩):p:=h
theorem Cl (h:p:=by exact ⟨_,rfl,j,rfl,⟨fun _=>⟨x1,EI hx1,hg⟩,fun _=>by omega⟩,hS.sp⟩):p:=h
theorem Cm (h:p:=by exact ⟨⟨j+1,zh,zh,Jo,by rw [hd,Q1 hx1,ES];exact ⟨fun h=>h.resolve_left Jo, .inr⟩,hS.sp⟩,Qb Jo⟩):p:=h
theorem Cn (h:p:=by exact ⟨_,rfl,j,rfl,⟨fun _=>by rw [hd,Q1 hx1,ES];exact .inl Jo,fun _=>by omega⟩,hS.sp⟩):p:=h
theorem Cq (h:p:=by exact ⟨_,zh,zh,by exact ⟨fun h=>Bool.noConfusion h,fun h=>h.elim (fun h=>hq2.2 h) (fun h=>by obtain ⟨h1,h2⟩:=h;first|(exfalso;omega)|(simp_all;done))⟩,hS.sp⟩):p:=h
theorem Cs (h:p:=by exact ⟨cx,0, .slice none 0 0,[],[],zh,zh,Fq hS,Jo,rfl,by simp,FY _ _ _,rfl,by have hS:=hS.nil (T:=115) (es:=3);exact hS.sp⟩):p:=h
theorem Cu (h:p:=by exact ⟨_,zh,zh,by exact ⟨fun _=>⟨Jo, .inl Ja⟩,fun _=>rfl⟩,hS.sp⟩):p:=h
theorem Cv (h:p:=by exact ⟨_,zh,zh,by exact ⟨fun h=>Bool.noConfusion h,fun h=>h.elim (fun h=>hq4.2 h) (fun h=>by obtain ⟨h1,h2⟩:=h;first|(exfalso;omega)|(simp_all;done))⟩,hS.sp⟩):p:=h
theorem Cw (h:p:=by exact ⟨⟨q+1,_,_,zh,zh,Jo,by rw [sq];exact hls1,by rw [sq,EM,hlq];rfl,ho3,hS.sp⟩,Qb Jo⟩):p:=h
theorem CA (h:p:=by exact ⟨_,zh,zh,by exact ⟨fun _=> .inl (hq2.1 rfl),fun _=>rfl⟩,hS.sp⟩):p:=h
theorem CB (h:p:=by exact ⟨⟨q+1,zh,zh,Jo,by rw [bS,hk,hx2];simp;omega,hne,hS.sp⟩,Qb Jo⟩):p:=h
theorem CC (h:p:=by exact ⟨_,zh,zh,by exact ⟨fun _=>⟨Jo, .inr Ja⟩,fun _=>rfl⟩,hS.sp⟩):p:=h
theorem CF (h:p:=by exact ⟨_,by rw [Q3 h1,Q3 hts,if_pos (of_decide_eq_true hb)],rfl,Gi (Fi hS.sp hi) hle2⟩):p:=h
theorem CG (h:p:=by exact ⟨_,rfl, .inr (.inl ⟨Jo, .inr ⟨x1,hx1, .inr Jo⟩,rfl,hS.sp⟩)⟩):p:=h
theorem CK (h:p:=by exact ⟨0,_,[],zh,zh,Jo,by unfold KR;exact FY _ _ _,by unfold KR;rfl,Jo,hS.sp⟩):p:=h
theorem CL (h:p:=by exact ⟨_,zh,zh,by exact ⟨fun h=>Bool.noConfusion h,fun h=>by obtain ⟨h1,h2⟩:=h;first|(exfalso;omega)|(simp_all;done)⟩,hS.sp⟩):p:=h
theorem CR (h:p:=by exact .inl ⟨_,rfl,rfl,Jo,_,_,hls2,(JP.cls hi hS.sp)⟩):p:=h
theorem CS (h:p:=by exact ⟨_,zh,zh,by exact ⟨fun _=> .inl (hq3.1 rfl),fun _=>rfl⟩,hS.sp⟩):p:=h
theorem CT (h:p:=by exact ⟨0,_,_,zh,zh,Jo,by rw [FU],hS.sp⟩):p:=h
theorem CU (h:p:=by exact ⟨_,zh,zh,by exact ⟨fun h=>Bool.noConfusion h,fun h=>h.2.elim (fun h=>absurd h Ja) (fun h=>absurd Ja h)⟩,hS.sp⟩):p:=h
theorem CX (h:p:=by exact ⟨⟨_,j+1,_,_,us++[y],zh,zh,hL0,Jo,by simp [hus],QbK hd hx3 (by rw [hg,←hy,hg];rfl),by assumption,by assumption,hS.sp⟩,Qb Jo⟩):p:=h
theorem CY (h:p:=by exact ⟨_,rfl,by rw [if_pos Jo],(Fi hS.sp hi)⟩):p:=h
theorem CZ (h:p:=by exact ⟨zh,zh,by unfold QF;rw [if_neg k1,if_neg k2,if_neg k3,if_neg k4,if_neg (fun h=>absurd h.1 Jo)],hS.sp⟩):p:=h
theorem C0 (h:p:=by exact ⟨_,zh,zh,by exact ⟨fun _=> .inl (hq5.1 rfl),fun _=>rfl⟩,hS.sp⟩):p:=h
theorem C1 (h:p:=by exact ⟨0,_,[],[],zh,zh,Jo,FY _ _ _,rfl,rfl,by rw [FU];cases Kb s x.args<;>rfl,hS.sp⟩):p:=h
theorem C2 (h:p:=by exact ⟨_,rfl,by rw [if_pos Jo],cx,vl,css,Fq hS,by rw [if_pos Jo];exact hls,by rw [if_pos Jo];exact (F9 hS.sp hi)⟩):p:=h
theorem C9 (h:p:=by exact ⟨_,zh,zh,by exact ⟨fun h=>Bool.noConfusion h,fun h=>h.elim (fun h=>hq5.2 h) (fun h=>by obtain ⟨h1,h2⟩:=h;first|(exfalso;omega)|(simp_all;done))⟩,hS.sp⟩):p:=h
theorem Da (h:p:=by exact ⟨_,zh,zh,by exact ⟨fun _=> .inl (hq1.1 rfl),fun _=>rfl⟩,hS.sp⟩):p:=h
end
end Go.Lir
namespace Go.Lir
section
variable {p:Prop}
theorem Ai (h:p:=by first|(refine ⟨_,rfl,?_,hS.sp⟩;rw [if_pos (by have:=of_decide_eq_false hop;omega)];done)|(refine ⟨_,rfl,?_,hS.sp⟩;have ho:x.odd:=(by unfold Ins.odd;simp only [←or_assoc];first|exact .inl (hq6.1 rfl)|exact .inr ⟨(by first|rfl|assumption),Jo⟩);rw [if_neg Jo,if_pos ho];done)|(refine ⟨_,rfl,?_,hS.sp⟩;rw [if_neg Jo,if_neg hodd];unfold Nw;(repeat (first|rw [if_pos Jo]|rw [if_neg Jo]));done)):p:=h
theorem Ak (h:p:=by first|rfl|(congr 1;omega)):p:=h
theorem An (h:p:=by first|(exact ⟨_,zh,zh,cU Jo Jo Jo hx2 (by have h9:=E4 (hx1.symm.trans hx2);omega),hS.sp⟩)|(exact ⟨_,zh,zh,QhB Jo,hS.sp⟩)):p:=h
theorem Ap (h:p:=by first|(rw [fO Jo];exact ⟨_,rfl,_,_,rfl,hle,O3 (FL _ _ _),hS.sp⟩)|(rw [iT Jo hx1 Jo];exact ⟨_,rfl,_,_,rfl,hle,O3 (FL _ _ _),hS.sp⟩)|(rw [hr,pf hd hx3 hg];exact ⟨_,rfl,_,_,rfl,hle,O3 (FL _ _ _),hS.sp⟩)|(rw [hr,Qex hd Jo];obtain ⟨c3,hle3,hS,hl3⟩:=FI (r:=J7) (l:=us) (T:=115) (es:=3) (v:=u) (css:=css) (L:=L) hS.sp hls rfl Jo;exact ⟨_,rfl,c3,_,rfl,hle.trans hle3,O3 hl3,hS⟩)):p:=h
end
end Go.Lir
namespace Go.Proofs.YteflkifmgnpbhaaGreat
open Go.Lir
attribute [local irreducible] LC.wp Q0 Qh Qd Kq Qz LO.wp Q5 Calls
section
theorem fO (h:k≠1∧(r<0∨(to.length:Int)≤r)):Ty.ren (.mk k r l) to=none:=by
 rw [Ty.ren,if_pos Jo]
theorem iT {x:Int}(hk:k≠1)(hx:to[r.toNat]?=some x)(h:x<0):Ty.ren (.mk k r l) to=none:=by
 rw [Ty.ren,if_pos ⟨hk, .inr (.inr (by rw [EL,hx];exact h))⟩]
theorem QhB (h:k=1):Ty.ren (.mk k r l) to=(Tys.ren l to).map (Ty.mk k r):=by
 subst h;rw [Ty.ren,if_neg Jo];cases Tys.ren l to<;>rfl
theorem cU {x:Int}(hk:k≠1)(h0:0≤r)(h1:r<to.length)(hx:to[r.toNat]?=some x)(h:0≤x):Ty.ren (.mk k r l) to=(Tys.ren l to).map (Ty.mk k x):=by
 have hd:to.getD r.toNat 0=x:=(by rw [EL,hx];rfl);rw [Ty.ren,if_neg Jo,hd]
 cases Tys.ren l to with
 | none=>rfl
 | some m=>simp [hk]
theorem pf {x:Ty}(hd:Tys.ren l to=(Tys.ren (l.drop j) to).map (us++·))(hx:l[j]?=some x)(hn:x.ren to=none):Tys.ren l to=none:=by
 rw [hd,Q1 hx,Tys.ren,hn];rfl
theorem QbK {x y:Ty}(hd:Tys.ren l to=(Tys.ren (l.drop j) to).map (us++·))(hx:l[j]?=some x)(hn:x.ren to=some y):Tys.ren l to=(Tys.ren (l.drop (j+1)) to).map ((us++[y])++·):=by
 rw [hd,Q1 hx,Tys.ren,hn];cases Tys.ren (l.drop (j+1)) to<;>simp
theorem Qex (hd:Tys.ren l to=(Tys.ren (l.drop j) to).map (us++·))(hj:l.length≤j):Tys.ren l to=some us:=by
 rw [hd,EP hj,Tys.ren];simp
theorem UZ:∀(t:Ty),t.Short→∀{cx:Cx}{w:World}{L:List Res}{cs:List Value}{v2:Value}{to:List Int},J7.at cx cs t→JY.sl cx v2 to→St cx w L→
 JW Tryz.prog Qbx [.agg ⟨cs⟩,v2] w fun u w'=>∃c' ds,u= .tuple #[.agg ⟨ds⟩, .bool (t.ren to).isSome]∧cx.Le c'∧J7.at c' ds ((t.ren to).getD (.mk 0 0 []))∧St c' w' L:=by
 intro t
 induction t using GX with
 | h k r l ih=>
   intro hs cx w L cs v2 to ht hto hS;obtain ⟨v,rfl,hl⟩:=Qc ht;simp only [Ty.kind,Ty.r,Ty.l] at hl ht ⊢;obtain ⟨hlen,hsub⟩:=hs.parts;have hle:=Fq hS;refine Kd Kc Tryz.func263 ?_;refine' KO;intro p2 w1 hS;refine Qe hS ?_;(intro p4 w1 hS);refine' W2;refine' KK;refine Na [_,_,_] ?_;refine Qe hS ?_;(intro p6 w1 hS);((refine Ka hS ?_;intro w1 hS;have hS:=hS.ns));refine' zn;refine zM [1,2,4,6] (fun A ρ' w'=>∃(r2:Int),J2 ρ' A∧J2 ρ' []∧(Ty.ren (.mk k r l) to=(Tys.ren l to).map (Ty.mk k r2))∧St cx w' (blk p6 115 [.int .i64 k, .int .i64 r2, .slice none 0 0]::blk p4 115 [.int .i64 0, .int .i64 0, .slice none 0 0]::blk p2 115 [.int .i64 k, .int .i64 r,v]::L)) ?_ ?_
   · skip
     (refine' Ni;first|(refine' Qy)|(refine' QD)|(refine' Ad<;>intro hc));all_goals (refine' zn)
     all_goals
      first
      | (refine' JZ
         (((refine' MP;first|(refine' K0)|(refine' K1)|(refine' Ae<;>intro hc));all_goals (refine' LS;refine' Mi;refine' M0;first|refine' J1|(refine' J4;(first|(refine' Ml)|(refine' Mz)|(refine' Ag<;>intro hc)))));all_goals (refine' Pw;refine' MO;(first|refine' J1|(refine' J4;refine' Nc;intro b1 o1 cs1 x1 hat1 hx1 he1;obtain rfl:=Qs he1));refine' ck;first|refine' J1|(refine' J4;(first|(refine' K0)|(refine' K1)|(refine' Ae<;>intro hc)))));all_goals (refine' KU)
         all_goals
          first
          | (refine' JZ;all_goals (refine' Ki;refine MA [_,_,_] ?_;refine Ka hS ?_;intro w1 hS;have hS:=hS.ns;refine' LY;refine QQ vw (Q4 (n:=3) Jk Jk (hS.blkAt fd) Jr Jr) vw ?_);all_goals (first|(rw [fO Jo];exact AK)|(rw [iT Jo hx1 Jo];exact AK)))
          | (refine' J0;refine' J5)
         refine' Pb;refine' Nc;intro b2 o2 cs2 x2 hat2 hx2 he2;obtain rfl:=Qs he2;refine' M1;refine' PS;intro w1 hS;have hS:=hS.ns;refine' zn)
      | (refine' J0;refine' J5)
     all_goals ((exact An))
   rintro ρ w1 ⟨r2,hA,hρ,hr,hS⟩;obtain ⟨ρ,rfl⟩:=J3 hA hρ;refine' SQ;refine zo [1,4,6,45,46] (fun A ρ' w'=>∃(k0:Cx) (j:Nat) (u:Value) (css:List (List Value)) (us:List Ty),J2 ρ' A∧J2 ρ' [(47, .int .i64 j)]∧(cx.Le k0)∧(j≤l.length)∧(us.length=j)∧(Tys.ren l to=(Tys.ren (l.drop j) to).map (us++·))∧(J7.ls k0 css us)∧(oneC u=true)∧St k0 w' (sl 115 3 u css::blk p6 115 [.int .i64 k, .int .i64 r2,u]::blk p4 115 [.int .i64 0, .int .i64 0, .slice none 0 0]::blk p2 115 [.int .i64 k, .int .i64 r,v]::L)) (fun ρ' _=>(l.length - iv (ρ' 47)).toNat) ?_ ?_
   · exact Cs
   rintro ρ w1 ⟨k0,j,u,css,us,hA,hρ,hle2,hj,hus,hd,hls,hu,hS⟩;obtain ⟨ρ,rfl⟩:=J3 hA hρ;have hL0:=hle2;(try have hle:=hle.trans hle2);(try have hl:=hl.up hle2);(try have hto:=hto.up hle2);refine' Mq;refine' Ab<;>intro hc
   · skip
     refine' Rk;intro b3 o3 cs3 x3 hat3 hx3 he3;obtain ⟨vl3,rfl,hl3⟩:=Qc he3;refine' MI;intro p8 w1 hS;refine Ka hS ?_;intro w1 hS;have hS:=hS.ns;refine' Sp;refine' zm;refine' J9 (c:=ih _ (EI hx3) (hsub _ (EI hx3)) he3 hto hS);rintro v1 w1 ⟨c1,ds,rfl,hle2,hd1,hS⟩;obtain ⟨y,hy⟩:∃y,(x3.ren to).getD (.mk 0 0 [])=y:=⟨_,rfl⟩;rw [hy] at hd1;obtain ⟨v7,rfl,hv7⟩:=Qc hd1;(try have hle:=hle.trans hle2);(try have hL0:=hL0.trans hle2);(try have hls:=hls.up hle2);cases hg:x3.ren to;all_goals (refine' Sh;intro p9 w1 hS;refine Ka hS ?_;intro w1 hS;have hS:=hS.ns;refine' fq)
     all_goals
      first
      | (refine' JZ;refine' Ki;refine MA [_,_,_] ?_;refine Ka hS ?_;intro w1 hS;have hS:=hS.ns;refine' LY;refine QQ vw (Q4 (n:=3) Jk Jk (hS.blkAt fd) Jr Jr) vw ?_;first|(rw [fO Jo];exact AK)|(rw [iT Jo hx1 Jo];exact AK)|(rw [hr,pf hd hx3 hg];exact AK))
      | (refine' J0;refine' J5)
     refine' W1;refine KY hS [_,_,_] ?_;intro b1 w1 hS;refine za Px PZ hS ?_;intro vp1 w1 css1 hls1 hv1 hS;have hS:=hS.ns;refine' PS;intro w1 hS;have hS:=hS.ns;refine' PX;(exact CX)
   · skip;refine' K2;refine' Nr;refine Ka hS ?_;intro w1 hS;have hS:=hS.ns;refine' LY;refine QQ vw (Q4 (n:=3) Jk Jk (hS.blkAt fd) Jr Jr) vw ?_;(exact Ap)
theorem pg:∀(t:Ty),t.Short→∀{cx:Cx}{w:World}{L:List Res}{cs:List Value}{v2:Value}{to:List Int},J7.at cx cs t→JY.sl cx v2 to→St cx w L→
 JW Tryz.prog Qj1 [.agg ⟨cs⟩,v2] w fun u w'=>∃c' ds,u= .tuple #[.agg ⟨ds⟩, .bool (t.ren to).isSome]∧cx.Le c'∧J7.at c' ds ((t.ren to).getD (.mk 0 0 []))∧St c' w' L:=by
 intro t
 induction t using GX with
 | h k r l ih=>
   intro hs cx w L cs v2 to ht hto hS;obtain ⟨v,rfl,hl⟩:=Qc ht;simp only [Ty.kind,Ty.r,Ty.l] at hl ht ⊢;obtain ⟨hlen,hsub⟩:=hs.parts;have hle:=Fq hS;refine Kd Kc Tryz.func155 ?_;refine' KO;intro p2 w1 hS;refine Qe hS ?_;(intro p4 w1 hS);refine' W2;refine' KK;refine Na [_,_,_] ?_;refine Qe hS ?_;(intro p6 w1 hS);((refine Ka hS ?_;intro w1 hS;have hS:=hS.ns));refine' zn;refine zM [1,2,4,6] (fun A ρ' w'=>∃(r2:Int),J2 ρ' A∧J2 ρ' []∧(Ty.ren (.mk k r l) to=(Tys.ren l to).map (Ty.mk k r2))∧St cx w' (blk p6 115 [.int .i64 k, .int .i64 r2, .slice none 0 0]::blk p4 115 [.int .i64 0, .int .i64 0, .slice none 0 0]::blk p2 115 [.int .i64 k, .int .i64 r,v]::L)) ?_ ?_
   · skip
     (refine' Ni;first|(refine' Qy)|(refine' QD)|(refine' Ad<;>intro hc));all_goals (refine' zn)
     all_goals
      first
      | (refine' JZ
         ((refine' MP;first|(refine' K0)|(refine' K1)|(refine' Ae<;>intro hc));all_goals (refine' LS;refine' Mi;refine' M0;first|refine' J1|(refine' J4;(first|(refine' Ml)|(refine' Mz)|(refine' Ag<;>intro hc)))));all_goals (refine' KU)
         all_goals
          first
          | (refine' JZ;all_goals (refine' Ki;refine MA [_,_,_] ?_;refine Ka hS ?_;intro w1 hS;have hS:=hS.ns;refine' LY;refine QQ vw (Q4 (n:=3) Jk Jk (hS.blkAt fd) Jr Jr) vw ?_);all_goals (rw [fO Jo];exact AK))
          | (refine' J0;refine' J5)
         (refine' Re;refine' Nc;intro b1 o1 cs1 x1 hat1 hx1 he1;obtain rfl:=Qs he1;refine' M1;first|(refine' K0)|(refine' K1)|(refine' Ae<;>intro hc));all_goals (refine' zn)
         all_goals
          first
          | (refine' JZ;refine' Ki;refine MA [_,_,_] ?_;refine Ka hS ?_;intro w1 hS;have hS:=hS.ns;refine' LY;refine QQ vw (Q4 (n:=3) Jk Jk (hS.blkAt fd) Jr Jr) vw ?_;first|(rw [fO Jo];exact AK)|(rw [iT Jo hx1 Jo];exact AK))
          | (refine' J0;refine' J5)
         refine' Pb;refine' Nc;intro b2 o2 cs2 x2 hat2 hx2 he2;obtain rfl:=Qs he2;refine' M1;refine' PS;intro w1 hS;have hS:=hS.ns;refine' zn)
      | (refine' J0;refine' J5)
     all_goals ((exact An))
   rintro ρ w1 ⟨r2,hA,hρ,hr,hS⟩;obtain ⟨ρ,rfl⟩:=J3 hA hρ;refine' LU;refine zo [1,2,4,6] (fun A ρ' w'=>∃(k0:Cx) (j:Nat) (u:Value) (css:List (List Value)) (us:List Ty),J2 ρ' A∧J2 ρ' [(7, .int .i64 j)]∧(cx.Le k0)∧(j≤l.length)∧(us.length=j)∧(Tys.ren l to=(Tys.ren (l.drop j) to).map (us++·))∧(J7.ls k0 css us)∧(oneC u=true)∧St k0 w' (sl 115 3 u css::blk p6 115 [.int .i64 k, .int .i64 r2,u]::blk p4 115 [.int .i64 0, .int .i64 0, .slice none 0 0]::blk p2 115 [.int .i64 k, .int .i64 r,v]::L)) (fun ρ' _=>(l.length - iv (ρ' 7)).toNat) ?_ ?_
   · exact Cs
   rintro ρ w1 ⟨k0,j,u,css,us,hA,hρ,hle2,hj,hus,hd,hls,hu,hS⟩;obtain ⟨ρ,rfl⟩:=J3 hA hρ;have hL0:=hle2;(try have hle:=hle.trans hle2);(try have hl:=hl.up hle2);(try have hto:=hto.up hle2);refine' Rh;refine' Ab<;>intro hc
   · skip
     refine' Lj;refine' Ul;intro b3 o3 cs3 x3 hat3 hx3 he3;obtain ⟨vl3,rfl,hl3⟩:=Qc he3;refine' MZ;refine' zm;refine' J9 (c:=ih _ (EI hx3) (hsub _ (EI hx3)) he3 hto hS);rintro v1 w1 ⟨c1,ds,rfl,hle2,hd1,hS⟩;obtain ⟨y,hy⟩:∃y,(x3.ren to).getD (.mk 0 0 [])=y:=⟨_,rfl⟩;rw [hy] at hd1;obtain ⟨v7,rfl,hv7⟩:=Qc hd1;(try have hle:=hle.trans hle2);(try have hL0:=hL0.trans hle2);(try have hls:=hls.up hle2);cases hg:x3.ren to;all_goals (refine' Sh;intro p8 w1 hS;refine Ka hS ?_;intro w1 hS;have hS:=hS.ns;refine' fq)
     all_goals
      first
      | (refine' JZ;refine' Ki;refine MA [_,_,_] ?_;refine Ka hS ?_;intro w1 hS;have hS:=hS.ns;refine' LY;refine QQ vw (Q4 (n:=3) Jk Jk (hS.blkAt fd) Jr Jr) vw ?_;first|(rw [fO Jo];exact AK)|(rw [iT Jo hx1 Jo];exact AK)|(rw [hr,pf hd hx3 hg];exact AK))
      | (refine' J0;refine' J5)
     refine' W1;refine KY hS [_,_,_] ?_;intro b1 w1 hS;refine za Px PZ hS ?_;intro vp1 w1 css1 hls1 hv1 hS;have hS:=hS.ns;refine' PS;intro w1 hS;have hS:=hS.ns;refine' zn;refine' LH;(exact CX)
   · skip;refine' K2;refine' Nr;refine Ka hS ?_;intro w1 hS;have hS:=hS.ns;refine' LY;refine QQ vw (Q4 (n:=3) Jk Jk (hS.blkAt fd) Jr Jr) vw ?_;(exact Ap)
end
section
end
section
variable {cx:Cx}{w:World}{L:List Res}{i:Nat}
abbrev Mw (b:Nat)(vf:Value)(g:LV)(at':Int):Res:=blk b 173 [vf, .int .i64 g.1, .int .i64 g.2, .int .i64 at']
theorem N6 (hc0:is=true→c≠0)(hS:St cx w L)(hi:nth L i=some (Mw b vf g at')):
 JW Tryz.prog Q9a [.pointer (some ⟨b,0,none⟩), .bool is, .int .i64 c] w fun u w'=>u= .tuple #[]∧St cx w' (L.set i (Mw b vf (Kz g (KJ (if is=true then c else 0) at')) at')):=by
 have hS:=hS.out hi
 cases is with
 | false=>
   have e:Kz g (KJ (if false=true then c else 0) at')=g:=eZ rfl;rw [e];refine Kd Kc Tryz.func103 ?_;refine' KL;refine' RM;refine' fp;refine' KU
   all_goals
    first
    | (refine' JZ;all_goals (refine' SK;refine' O7;refine Na [_,_] ?_;refine' Mm;refine Ka hS ?_;intro w1 hS;have hS:=hS.ns);all_goals refine' zn)
    | (refine' J0;refine' J5)
   refine' Mo;exact BD
 | true=>
   have hc0:=hc0 rfl;by_cases h0:g.1=0
   · have e:Kz g (KJ (if true=true then c else 0) at')=(c,at'):=(by rw [if_pos rfl,PI hc0];unfold Kz;rw [if_pos ⟨h0,hc0⟩]);rw [e];refine Kd Kc Tryz.func103 ?_;refine' KL;refine' Pc;refine' SL;(first|refine' J1|(refine' J4;refine' Ql));refine' Pr;refine' zn;refine' JZ;refine' SK;refine' O7;refine Na [_,_] ?_;refine' Mm;(first|(refine Ka hS ?_;intro w1 hS;have hS:=hS.ns)|(refine cj hS ?_;intro w1 hS;have hS:=hS.ns));refine' zn;refine' Mo;exact BD
   · rw [Oa h0];refine Kd Kc Tryz.func103 ?_;refine' KL;refine' Pc;refine' SL;(first|refine' J1|(refine' J4;(first|(refine' Ql)|(refine' Qn))));refine' Pr;refine' zn;refine' PV;refine' Mo;exact BD
theorem U0 {s:List UInt8}{c:Nat}(hK:eY.sl cx v s)(hS:St cx w L):JW Tryz.prog Q4p [v, .int .u8 c] w fun u w'=>∃r:Int,u= .int .i64 r∧(0≤r↔(s.any fun b=>decide (b.toNat=c))=true)∧St cx w' L:=by
 have hlen:=hK.len;refine Kd Kc Tryz.func265 ?_;refine' NN;refine' PQ;refine LQ hS [0,1,7] (fun A LL ρ' w'=>∃(j:Nat),J2 ρ' A∧J2 ρ' [(8, .int .i64 j)]∧(j≤s.length)∧((s.any fun b=>decide (b.toNat=c))=((s.drop j).any fun b=>decide (b.toNat=c)))∧St cx w' (LL)) (fun ρ' _=>(s.length - iv (ρ' 8)).toNat) ?_ ?_
 · exact AF
 rintro ρ w1 ⟨j,hA,hρ,hj,hd,hS⟩;obtain ⟨ρ,rfl⟩:=J3 hA hρ;refine' Mq;refine' Ab<;>intro hc
 · skip
   (refine' Lj;refine' Nd;refine' KL;refine' N1;intro b1 o1 cs1 x1 hat1 hx1 he1;(first|(obtain rfl:=Qs he1)|(obtain rfl:=XW he1));refine' M1;first|(refine' Ql)|(refine' Qn)|(refine' Ac<;>intro hc));all_goals (refine' zn)
   all_goals
    first
    | (refine' JZ;refine' O9;(exact B0))
    | (refine' J0;refine' J5)
   refine' Og;(exact ⟨⟨j+1,zh,zh,Jo,by rw [hd,Q1 hx1,HL,decide_eq_false Jo,GP],hS.sp⟩,Qb Jo⟩)
 · skip;refine' OA;(first|(exact B0)|(exact ⟨_,rfl, -1,rfl,by rw [hd,EP Jo];simp,hS.sp⟩))
theorem QcR {s:List UInt8}{c:Nat}(hK:eY.sl cx v s)(hS:St cx w L):JW Tryz.prog Q3N [v, .int .u8 c] w fun u w'=>u= .bool (s.any fun b=>decide (b.toNat=c))∧St cx w' L:=by
 (refine Kd Kc Tryz.func252 ?_;refine' LG;refine' KL;refine' J9 (c:=U0 hK hS);rintro v1 w1 ⟨r,rfl,hr,hS⟩;first|(refine' Ml)|(refine' Mz)|(refine' Ag<;>intro hc));all_goals (refine' zm;refine' zn;refine' zr;refine' zf;refine ⟨_,rfl,?_,hS.sp⟩;(cases hb:(s.any fun b=>decide (b.toNat=c))<;>simp_all);done)
theorem cV {s:ByteArray}{c:Nat}(hs:s.size≤1000000)(hS:St cx w L):JW Tryz.prog QiK [.string s, .int .u8 c] w fun u w'=>u= .bool (Lk s c)∧St cx w' L:=by
 have hle:=Fq hS;refine Kd Kc Tryz.func214 ?_;refine' Oi;refine XX (e:=5) Jk Jk Jk hS vw ?_;intro v1 w1 hS;obtain ⟨c1,hle2,hS,hk1⟩:=FI (r:=eY) hS (bF _) rfl (by rw [FZ];show s.size≤140737488355328;omega);refine' zm;refine' J9 (c:=QcR hk1 hS);rintro v1 w1 ⟨rfl,hS⟩;refine' KN;((exact ⟨_,rfl,rfl,Gi hS.sp hle2⟩))
theorem iU (hS:St cx w L):JW Tryz.prog UB [.int .i64 op] w fun u w'=>u= .string (Ly op)∧St cx w' L:=by
 by_cases hb:op<1∨14<op
 · have e:Ly op=⟨#[]⟩:=(by unfold Ly;rw [if_pos hb]);rw [e];(refine Kd Kc Tryz.func213 ?_;refine' NN;first|(refine' K0)|(refine' K1)|(refine' Ae<;>intro hc));all_goals (refine' Ll;(first|refine' J1|(refine' J4;refine' QV));refine' KU;refine' JZ;refine' Kw;refine ⟨_,rfl,?_,hS.sp⟩;(rfl);done)
 · have hu:(TW.map Value.string)[op.toNat]?=some (.string (Ly op)):=by
    rcases Ld (op:=op) Jo Jo with rfl|rfl|rfl|rfl|rfl|rfl|rfl|rfl|rfl|rfl|rfl|rfl|rfl|rfl<;>rfl
   generalize Ly op=s at hu ⊢;refine Kd Kc Tryz.func213 ?_;refine' NN;(first|(refine' K0)|(refine' K1));refine' Ll;(first|refine' J1|(refine' J4;(first|(refine' QV)|(refine' KM))));refine' KU;refine' PV;refine' Ki;refine yj (cs:=[_,_,_,_,_,_,_,_,_,_,_,_,_,_,_]) vw vw vw vw vw vw vw vw vw vw vw vw vw vw vw Jr ?_;refine' zm;refine bG (n:=15) (e:=9) Jk Jk Jk vw vw Jo Jo hu ?_;refine' KN;(refine ⟨_,rfl,?_,hS.sp⟩;(rfl);done)
theorem Qit (op:Int):(Ly op).size≤1000000:=by
 by_cases hb:op<1∨14<op
 · unfold Ly;rw [if_pos hb];decide
 · rcases Ld (op:=op) Jo Jo with rfl|rfl|rfl|rfl|rfl|rfl|rfl|rfl|rfl|rfl|rfl|rfl|rfl|rfl<;>decide
theorem Yx {q:Bool}{c3:Int}(hq:q=true↔(((((((Lk (Ly x.op) 97=false∧x.a≠0)∨(Lk (Ly x.op) 98=false∧x.b≠0))∨(Lk (Ly x.op) 99=false∧x.c≠0))∨(Lk (Ly x.op) 107=false∧x.k≠0))∨(Lk (Ly x.op) 110=false∧x.n≠0))∨(Lk (Ly x.op) 103=false∧0<x.regs.length))∨(Lk (Ly x.op) 114=false∧0<x.args.length)))(h3:c3=Nw n x):
 Kz (Kz (Kz g (KJ (if x.op<1∨14<x.op then 3 else 0) at')) (KJ (if q=true then 4 else 0) at')) (KJ c3 at')=Kz g (KJ (Qj n x) at'):=by
 rw [OK,OK];congr 2;subst h3;unfold Qj;by_cases hb:x.op<1∨14<x.op
 · rw [if_pos hb,if_pos hb];rfl
 · rw [if_neg hb,if_neg hb]
   obtain ⟨h1,h2,h3,h4,h5,h6,h7⟩:=TX x.op hb;rw [h1,h2,h3,h4,h5,h6,h7] at hq;simp only [or_assoc] at hq;by_cases ho:x.odd
   · rw [if_pos ho,if_pos (hq.2 ho)];rfl
   · rw [if_neg ho,if_neg fun h=>ho (hq.1 h)];rfl
theorem Py {b:Int}(h:a≠0):RF a b=a:=if_pos h
theorem Pe (b:Int):RF 0 b=b:=rfl
section
attribute [local irreducible] Kz KJ RF Nw Qj LK QU
set_option maxHeartbeats 1000000 in
theorem aA {n:List Fun}(hx:Ky.at cx cs x)(hf:Kj.sl cx vf n)(hS:St cx w L)(hi:nth L i=some (Mw b vf g at')):
 JW Tryz.prog Q9z [.pointer (some ⟨b,0,none⟩), .agg ⟨cs⟩] w fun u w'=>u= .tuple #[]∧St cx w' (L.set i (Mw b vf (Kz g (KJ (Qj n.length x) at')) at')):=by
 have hS:=hS.out hi;obtain ⟨vr,va,rfl,hr,ha⟩:=Nh hx;have hlr:=hr.len;have hla:=ha.len;have hln:=hf.len;have hsz:=Qit x.op;refine Kd Kc Tryz.func164 ?_;refine' KO;intro p3 w1 hS;refine' zn;refine zM [0,3] (fun A ρ' w'=>J2 ρ' A∧J2 ρ' []∧St cx w' (blk p3 84 [.int .i64 x.op, .int .i64 x.a, .int .i64 x.b, .int .i64 x.c, .int .i64 x.k, .int .i64 x.n,vr,va]::Mw b vf (Kz g (KJ (if x.op<1∨14<x.op then 3 else 0) at')) at'::L.eraseIdx i)) ?_ ?_
 · skip;(refine' Pb;first|(refine' K0)|(refine' K1)|(refine' Ae<;>intro hc));all_goals (refine' LS;first|refine' J1|(refine' J4;(first|(refine' QV)|(refine' KM)|(refine' Af<;>intro hc))));all_goals (refine' Ms;refine' K5 (c:=N6 Dg hS fd);rintro v1 w1 ⟨rfl,hS⟩;simp only [E8,Fg,if_true,EX,if_false] at hS;refine' zn;exact Bf)
 rintro ρ w1 ⟨hA,hρ,hS⟩;obtain ⟨ρ,rfl⟩:=J3 hA hρ;refine' Ni;refine' Kv (c:=iU hS);rintro v1 w1 ⟨rfl,hS⟩;refine' Kg;generalize hh:Ly x.op=h at*;refine' Ki;refine Pt hS 9 [0,3,4] (fun A LL ρ' w'=>∃(q1:Bool),J2 ρ' A∧J2 ρ' [(18, .pointer (some ⟨b,0,none⟩)),(26, .bool q1)]∧(q1=true↔(Lk h 97=false∧x.a≠0))∧St cx w' (LL)) ?_ ?_
 · skip;refine' MQ;refine' J9 (c:=cV hsz hS);rintro v1 w1 ⟨rfl,hS⟩;cases ha1:Lk h 97;all_goals (refine' PK;refine' LS;first|refine' J1|(refine' J4;(first|(refine' Qy)|(refine' QD)|(refine' Ad<;>intro hc))));all_goals (refine' kP;first|(exact Cc)|(exact CL))
 rintro ρ w1 ⟨q1,hA,hρ,hq1,hS⟩;obtain ⟨ρ,rfl⟩:=J3 hA hρ;refine Pt hS 10 [0,3,4,18] (fun A LL ρ' w'=>∃(q2:Bool),J2 ρ' A∧J2 ρ' [(36, .bool q2)]∧(q2=true↔((Lk h 97=false∧x.a≠0)∨(Lk h 98=false∧x.b≠0)))∧St cx w' (LL)) ?_ ?_
 · skip;cases q1;all_goals (refine' Ll;(first|refine' J1|(refine' J4;refine' J9 (c:=cV hsz hS);rintro v1 w1 ⟨rfl,hS⟩));cases ha2:Lk h 98);all_goals (refine' SN;first|refine' J1|(refine' J4;(first|(refine' Qy)|(refine' QD)|(refine' Ad<;>intro hc))));all_goals (refine' RL;first|(exact Da)|(exact AL)|(exact B5))
 rintro ρ w1 ⟨q2,hA,hρ,hq2,hS⟩;obtain ⟨ρ,rfl⟩:=J3 hA hρ;refine Pt hS 10 [0,3,4,18] (fun A LL ρ' w'=>∃(q3:Bool),J2 ρ' A∧J2 ρ' [(46, .bool q3)]∧(q3=true↔(((Lk h 97=false∧x.a≠0)∨(Lk h 98=false∧x.b≠0))∨(Lk h 99=false∧x.c≠0)))∧St cx w' (LL)) ?_ ?_
 · skip;cases q2;all_goals (refine' Ll;(first|refine' J1|(refine' J4;refine' J9 (c:=cV hsz hS);rintro v1 w1 ⟨rfl,hS⟩));cases ha3:Lk h 99);all_goals (refine' SN;first|refine' J1|(refine' J4;(first|(refine' Qy)|(refine' QD)|(refine' Ad<;>intro hc))));all_goals (refine' RL;first|(exact CA)|(exact AL)|(exact Cq))
 rintro ρ w1 ⟨q3,hA,hρ,hq3,hS⟩;obtain ⟨ρ,rfl⟩:=J3 hA hρ;refine Pt hS 10 [0,3,4,18] (fun A LL ρ' w'=>∃(q4:Bool),J2 ρ' A∧J2 ρ' [(56, .bool q4)]∧(q4=true↔((((Lk h 97=false∧x.a≠0)∨(Lk h 98=false∧x.b≠0))∨(Lk h 99=false∧x.c≠0))∨(Lk h 107=false∧x.k≠0)))∧St cx w' (LL)) ?_ ?_
 · skip;cases q3;all_goals (refine' Ll;(first|refine' J1|(refine' J4;refine' J9 (c:=cV hsz hS);rintro v1 w1 ⟨rfl,hS⟩));cases ha4:Lk h 107);all_goals (refine' SN;first|refine' J1|(refine' J4;(first|(refine' Qy)|(refine' QD)|(refine' Ad<;>intro hc))));all_goals (refine' RL;first|(exact CS)|(exact AL)|(exact Cf))
 rintro ρ w1 ⟨q4,hA,hρ,hq4,hS⟩;obtain ⟨ρ,rfl⟩:=J3 hA hρ;refine Pt hS 10 [0,3,4,18] (fun A LL ρ' w'=>∃(q5:Bool),J2 ρ' A∧J2 ρ' [(66, .bool q5)]∧(q5=true↔(((((Lk h 97=false∧x.a≠0)∨(Lk h 98=false∧x.b≠0))∨(Lk h 99=false∧x.c≠0))∨(Lk h 107=false∧x.k≠0))∨(Lk h 110=false∧x.n≠0)))∧St cx w' (LL)) ?_ ?_
 · skip;cases q4;all_goals (refine' Ll;(first|refine' J1|(refine' J4;refine' J9 (c:=cV hsz hS);rintro v1 w1 ⟨rfl,hS⟩));cases ha5:Lk h 110);all_goals (refine' SN;first|refine' J1|(refine' J4;(first|(refine' Qy)|(refine' QD)|(refine' Ad<;>intro hc))));all_goals (refine' RL;first|(exact B1)|(exact AL)|(exact Cv))
 rintro ρ w1 ⟨q5,hA,hρ,hq5,hS⟩;obtain ⟨ρ,rfl⟩:=J3 hA hρ;refine Pt hS 11 [0,3,4,18] (fun A LL ρ' w'=>∃(q6:Bool),J2 ρ' A∧J2 ρ' [(77, .bool q6)]∧(q6=true↔((((((Lk h 97=false∧x.a≠0)∨(Lk h 98=false∧x.b≠0))∨(Lk h 99=false∧x.c≠0))∨(Lk h 107=false∧x.k≠0))∨(Lk h 110=false∧x.n≠0))∨(Lk h 103=false∧0<x.regs.length)))∧St cx w' (LL)) ?_ ?_
 · skip;cases q5;all_goals (refine' Ll;(first|refine' J1|(refine' J4;refine' J9 (c:=cV hsz hS);rintro v1 w1 ⟨rfl,hS⟩));cases ha6:Lk h 103);all_goals (refine' SN;refine' M0;first|refine' J1|(refine' J4;(first|(refine' QV)|(refine' KM)|(refine' Af<;>intro hc))));all_goals (refine' RL;first|(exact C0)|(exact AL)|(exact C9))
 rintro ρ w1 ⟨q6,hA,hρ,hq6,hS⟩;obtain ⟨ρ,rfl⟩:=J3 hA hρ;refine Pt hS 11 [0,3,18] (fun A LL ρ' w'=>∃(q7:Bool),J2 ρ' A∧J2 ρ' [(88, .bool q7)]∧(q7=true↔(((((((Lk h 97=false∧x.a≠0)∨(Lk h 98=false∧x.b≠0))∨(Lk h 99=false∧x.c≠0))∨(Lk h 107=false∧x.k≠0))∨(Lk h 110=false∧x.n≠0))∨(Lk h 103=false∧0<x.regs.length))∨(Lk h 114=false∧0<x.args.length)))∧St cx w' (LL)) ?_ ?_
 · skip;cases q6;all_goals (refine' Ll;(first|refine' J1|(refine' J4;refine' J9 (c:=cV hsz hS);rintro v1 w1 ⟨rfl,hS⟩));cases ha7:Lk h 114);all_goals (refine' SN;refine' M0;first|refine' J1|(refine' J4;(first|(refine' QV)|(refine' KM)|(refine' Af<;>intro hc))));all_goals (refine' RL;first|(exact ⟨_,zh,zh,by exact ⟨fun _=> .inl (hq6.1 rfl),fun _=>rfl⟩,hS.sp⟩)|(exact AL)|(exact ⟨_,zh,zh,by exact ⟨fun h=>Bool.noConfusion h,fun h=>h.elim (fun h=>hq6.2 h) (fun h=>by obtain ⟨h1,h2⟩:=h;first|(exfalso;omega)|(simp_all;done))⟩,hS.sp⟩))
 (rintro ρ w1 ⟨q7,hA,hρ,hq7,hS⟩;obtain ⟨ρ,rfl⟩:=J3 hA hρ;refine' K5 (c:=N6 Dg hS fd);rintro v1 w1 ⟨rfl,hS⟩;simp only [E8,Fg,if_true,EX,if_false] at hS;refine' OQ;clear hq1 hq2 hq3 hq4 hq5 hq6;have hq:=hq7;clear hq7;refine' ae;refine' Si;refine' Ki;first|(refine' Ql)|(refine' Qn)|(refine' Ac<;>intro hc));all_goals (refine' Kg)
 all_goals
  first
  | (refine' JZ;(refine' Pb;first|(refine' K0)|(refine' K1)|(refine' Ae<;>intro hc));all_goals (refine' LS;first|refine' J1|(refine' J4;(first|(refine' QV)|(refine' KM)|(refine' Af<;>intro hc))));all_goals (refine' Ms;refine' K5 (c:=N6 Dg hS fd);rintro v1 w1 ⟨rfl,hS⟩;simp only [E8,Fg,if_true,EX,if_false] at hS);all_goals refine' zn)
  | (refine' J0
     (refine' Ki;first|(refine' Ql)|(refine' Qn)|(refine' Ac<;>intro hc));all_goals (refine' Kg)
     all_goals
      first
      | (refine' JZ;(refine' Pb;refine' zL;first|(refine' QV)|(refine' KM)|(refine' Af<;>intro hc));all_goals (refine' K5 (c:=N6 Dg hS fd);rintro v1 w1 ⟨rfl,hS⟩;simp only [E8,Fg,if_true,EX,if_false] at hS);all_goals refine' zn)
      | (refine' J0
         (refine' M3;first|(refine' Ql)|(refine' Qn)|(refine' Ac<;>intro hc));all_goals (refine' Kg)
         all_goals
          first
          | (refine' JZ;refine' J5)
          | (refine' J0;(refine' Lm;first|(refine' Ql)|(refine' Qn)|(refine' Ac<;>intro hc));all_goals (refine' zm);all_goals refine' zn)
         all_goals
          first
          | (refine' JZ;all_goals (refine' Pb;first|(refine' K0)|(refine' K1)|(refine' Ae<;>intro hc));all_goals (refine' LS;first|refine' J1|(refine' J4;(first|(refine' Ml)|(refine' Mz)|(refine' Ag<;>intro hc))));all_goals (refine' Ms;refine' K5 (c:=N6 Dg hS fd);rintro v1 w1 ⟨rfl,hS⟩;simp only [E8,Fg,if_true,EX,if_false] at hS);all_goals refine' zn)
          | (refine' J0
             (refine' Ki;first|(refine' Ql)|(refine' Qn)|(refine' Ac<;>intro hc));all_goals (refine' Kg)
             all_goals
              first
              | (refine' JZ;(refine Qu ?_;refine zD (ci 16 [15]) ?_;have hS:=hS.drew;refine' zm;refine' KK;first|(refine' K0)|(refine' K1)|(refine' Ae<;>intro hc));all_goals (refine' LS;refine' Pc;refine' Ny;refine' MO;refine' M0;first|refine' J1|(refine' J4;(first|(refine' Ml)|(refine' Mz)|(refine' Ag<;>intro hc))));all_goals (refine' Ms;refine' K5 (c:=N6 Dg hS fd);rintro v1 w1 ⟨rfl,hS⟩;simp only [E8,Fg,if_true,EX,if_false] at hS;refine' zn;refine' Pb;refine' zL;first|(refine' QV)|(refine' KM)|(refine' Af<;>intro hc));all_goals (refine' Pv;first|refine' J1|(refine' J4;(first|(refine' QV)|(refine' KM)|(refine' Af<;>intro hc))));all_goals (refine' Ms;refine' K5 (c:=N6 Dg hS fd);rintro v1 w1 ⟨rfl,hS⟩;simp only [E8,Fg,if_true,EX,if_false] at hS);all_goals refine' zn)
              | (refine' J0;refine' J5))))
 all_goals (refine' Mo; refine ⟨_, rfl, rfl, ?_⟩; subst hh; rw [← Yx (c3 := Nw n.length x) hq rfl]; clear hq hx hr ha hf hsz; have hS := hS.drop; refine F9 ?_ hi; first | (rw [show Nw n.length x = 0 from Ea]; first | (rw [Mg, eZ rfl]; exact hS) | exact hS | (rw [OK, Pe] at hS; exact hS)) | (rw [show Nw n.length x = 1 from Ea]; first | exact hS | (rw [OK, Py Jd] at hS; exact hS)) | (rw [show Nw n.length x = 2 from Ea]; first | exact hS | (rw [OK, Pe] at hS; exact hS)) | (trace_state; fail "end"))
theorem iV {x:Fun}(hx:Kj.at cx cs x)(ht:toR.at cx ds t)(hS:St cx w L)(hi:nth L i=some (Mw b vf g at')):
 JW Tryz.prog Qb7 [.pointer (some ⟨b,0,none⟩), .agg ⟨cs⟩, .agg ⟨ds⟩, .bool is] w fun u w'=>u= .tuple #[]∧St cx w' (L.set i (Mw b vf (Kz g (KJ (LK x.blocks.length t is) at')) at')):=by
 have hS:=hS.out hi;obtain ⟨vp,vr,vb,rfl,hp,hr,hb⟩:=Qw hx;obtain ⟨v1,v2,rfl,h1,h2⟩:=SG ht;have hlb:=hb.len;have hl1:=h1.len;have hl2:=h2.len
 cases is with
 | false=>
   (((refine Kd Kc Tryz.func215 ?_;refine' KO;intro p5 w1 hS;refine zb hS ?_;intro p6 w1 hS;refine' zn;refine' MN;refine' Oh;refine' JZ;refine' NA;first|(refine' Qy)|(refine' QD)|(refine' Ad<;>intro hc));all_goals (refine' Pv;first|refine' J1|(refine' J4;(first|(refine' QV)|(refine' KM)|(refine' Af<;>intro hc)))));all_goals (refine' Ms;refine' Pv;first|refine' J1|(refine' J4;(first|(refine' QV)|(refine' KM)|(refine' Af<;>intro hc)))));all_goals (refine' Ms;refine' K5 (c:=N6 Dg hS fd);rintro v1 w1 ⟨rfl,hS⟩;simp only [E8,Fg,if_true,EX,if_false] at hS;refine' L8;refine' S7;refine ⟨_,rfl,rfl,?_⟩;have hS:=hS.drop.drop;refine F9 ?_ hi;first|(rw [show LK x.blocks.length t false=4 from (by unfold LK;rw [if_pos rfl,if_pos Jo])];exact hS)|(rw [show LK x.blocks.length t false=0 from (by unfold LK;rw [if_pos rfl,if_neg Jo])];exact hS))
 | true=>
   ((((refine Kd Kc Tryz.func215 ?_;refine' KO;intro p5 w1 hS;refine zb hS ?_;intro p6 w1 hS;refine' zn;refine' MN;refine' Oh;refine' PV;refine' NA;first|(refine' K0)|(refine' K1)|(refine' Ae<;>intro hc));all_goals (refine' RK;refine' M0;first|refine' J1|(refine' J4;(first|(refine' Ml)|(refine' Mz)|(refine' Ag<;>intro hc)))));all_goals (refine' Ms;refine' K5 (c:=N6 Dg hS fd);rintro v1 w1 ⟨rfl,hS⟩;simp only [E8,Fg,if_true,EX,if_false] at hS;refine' zn;refine' Pb;refine' zL;first|(refine' QV)|(refine' KM)|(refine' Af<;>intro hc)));all_goals (refine' Pv;first|refine' J1|(refine' J4;(first|(refine' QV)|(refine' KM)|(refine' Af<;>intro hc)))));all_goals (refine' Ms;refine' K5 (c:=N6 Dg hS fd);rintro v1 w1 ⟨rfl,hS⟩;simp only [E8,Fg,if_true,EX,if_false] at hS;refine' zn;refine' Mo;refine ⟨_,rfl,rfl,?_⟩;have hS:=hS.drop.drop;rw [OK] at hS;refine F9 ?_ hi;first|(rw [show LK x.blocks.length t true=1 from (by unfold LK;rw [if_neg Bool.noConfusion,if_pos Jo])];rw [Py Jd] at hS;exact hS)|(rw [show LK x.blocks.length t true=2 from (by unfold LK;rw [if_neg Bool.noConfusion,if_neg Jo,if_pos Jo])];rw [Pe] at hS;exact hS)|(rw [show LK x.blocks.length t true=0 from (by unfold LK;rw [if_neg Bool.noConfusion,if_neg Jo,if_neg Jo])];rw [Pe] at hS;exact hS))
theorem Yy:Kz (Kz (Kz (Kz (Kz g (KJ (if e.op<1∨3<e.op then 3 else 0) at')) (KJ (if e.op≠2∧e.a≠0∨e.op≠3∧0<e.args.length then 4 else 0) at')) (KJ (if 8<e.args.length then 2 else 0) at')) (KJ (LK n e.yes (decide (e.op≠3))) at')) (KJ (LK n e.no (decide (e.op=2))) at')=Kz g (KJ (QU n e) at'):=by
 rw [OK,OK,OK,OK];congr 2;unfold QU;split
 · simp only [Py (show (3:Int)≠0 by decide)]
 · rw [Pe]
   split
   · simp only [Py (show (4:Int)≠0 by decide)]
   · rw [Pe]
     split
     · simp only [Py (show (2:Int)≠0 by decide)]
     · rw [Pe]
theorem aB {x:Fun}(hx:Kj.at cx cs x)(he:K3.at cx ds e)(hS:St cx w L)(hi:nth L i=some (Mw b vf g at')):
 JW Tryz.prog Q9A [.pointer (some ⟨b,0,none⟩), .agg ⟨cs⟩, .agg ⟨ds⟩] w fun u w'=>u= .tuple #[]∧St cx w' (L.set i (Mw b vf (Kz g (KJ (QU x.blocks.length e) at')) at')):=by
 have hS:=hS.out hi;obtain ⟨vp,vr,vb,rfl,hp,hr,hb⟩:=Qw hx;obtain ⟨v1,v2,v3,v4,v5,rfl,h1,h2,h3,h4,h5⟩:=WR he;have hl5:=h5.len;refine Kd Kc Tryz.func165 ?_;refine' KO;intro p4 w1 hS;refine zb hS ?_;intro p5 w1 hS;refine' zn;refine zM [0,4,5] (fun A ρ' w'=>J2 ρ' A∧J2 ρ' []∧St cx w' (blk p5 90 [.int .i64 e.op, .int .i64 e.a, .int .i64 e.yes.block,v1,v2, .int .i64 e.no.block,v3,v4,v5]::blk p4 95 [.int .i64 x.regs,vp,vr,vb]::Mw b vf (Kz g (KJ (if e.op<1∨3<e.op then 3 else 0) at')) at'::L.eraseIdx i)) ?_ ?_
 · skip;(refine' Pb;first|(refine' K0)|(refine' K1)|(refine' Ae<;>intro hc));all_goals (refine' LS;first|refine' J1|(refine' J4;(first|(refine' QV)|(refine' KM)|(refine' Af<;>intro hc))));all_goals (refine' Ms;refine' K5 (c:=N6 Dg hS fd);rintro v1 w1 ⟨rfl,hS⟩;simp only [E8,Fg,if_true,EX,if_false] at hS;refine' zn;exact Bf)
 rintro ρ w1 ⟨hA,hρ,hS⟩;obtain ⟨ρ,rfl⟩:=J3 hA hρ;refine zM [0,4,5] (fun A ρ' w'=>J2 ρ' A∧J2 ρ' []∧St cx w' (blk p5 90 [.int .i64 e.op, .int .i64 e.a, .int .i64 e.yes.block,v1,v2, .int .i64 e.no.block,v3,v4,v5]::blk p4 95 [.int .i64 x.regs,vp,vr,vb]::Mw b vf (Kz (Kz g (KJ (if e.op<1∨3<e.op then 3 else 0) at')) (KJ (if e.op≠2∧e.a≠0∨e.op≠3∧0<e.args.length then 4 else 0) at')) at'::L.eraseIdx i)) ?_ ?_
 · skip;(refine' Pb;first|(refine' Qy)|(refine' QD)|(refine' Ad<;>intro hc));all_goals (refine' LS;first|refine' J1|(refine' J4;(first|(refine' Qy)|(refine' QD)|(refine' Ad<;>intro hc))));all_goals (refine' Ms;refine' LS;first|refine' J1|(refine' J4;(first|(refine' Qy)|(refine' QD)|(refine' Ad<;>intro hc))));all_goals (refine' X9;refine' M0;first|refine' J1|(refine' J4;(first|(refine' QV)|(refine' KM)|(refine' Af<;>intro hc))));all_goals (refine' ab;refine' Ms;refine' K5 (c:=N6 Dg hS fd);rintro v1 w1 ⟨rfl,hS⟩;simp only [E8,Fg,if_true,EX,if_false] at hS;refine' zn;exact ⟨zh,zh,by first|(rw [if_pos (c:=e.op≠2∧e.a≠0∨e.op≠3∧0<e.args.length) Jo];exact hS.sp)|(rw [if_neg (c:=e.op≠2∧e.a≠0∨e.op≠3∧0<e.args.length) Jo];exact hS.sp)⟩)
 rintro ρ w1 ⟨hA,hρ,hS⟩;obtain ⟨ρ,rfl⟩:=J3 hA hρ;refine zM [0,4,5] (fun A ρ' w'=>J2 ρ' A∧J2 ρ' []∧St cx w' (blk p5 90 [.int .i64 e.op, .int .i64 e.a, .int .i64 e.yes.block,v1,v2, .int .i64 e.no.block,v3,v4,v5]::blk p4 95 [.int .i64 x.regs,vp,vr,vb]::Mw b vf (Kz (Kz (Kz g (KJ (if e.op<1∨3<e.op then 3 else 0) at')) (KJ (if e.op≠2∧e.a≠0∨e.op≠3∧0<e.args.length then 4 else 0) at')) (KJ (if 8<e.args.length then 2 else 0) at')) at'::L.eraseIdx i)) ?_ ?_
 · skip;(refine' Pb;refine' zL;first|(refine' QV)|(refine' KM)|(refine' Af<;>intro hc));all_goals (refine' K5 (c:=N6 Dg hS fd);rintro v1 w1 ⟨rfl,hS⟩;simp only [E8,Fg,if_true,EX,if_false] at hS;refine' zn;exact ⟨zh,zh,by first|(rw [if_pos (c:=8<e.args.length) Jo];exact hS.sp)|(rw [if_neg (c:=8<e.args.length) Jo];exact hS.sp)⟩)
 rintro ρ w1 ⟨hA,hρ,hS⟩;obtain ⟨ρ,rfl⟩:=J3 hA hρ;refine' Yb;refine' Pa;refine' KK;refine Xw rfl rfl ?_;refine' Nb (c:=iV (t:=e.yes) hx ⟨_,_,rfl,h1,h2⟩ hS fd);rintro v1 w1 ⟨rfl,hS⟩;have hS:=hS.ns;refine' zn;refine' PU;refine' Pa;refine' KK;refine gE rfl rfl ?_;refine' Nb (c:=iV (t:=e.no) hx ⟨_,_,rfl,h3,h4⟩ hS fd);rintro v1 w1 ⟨rfl,hS⟩;have hS:=hS.ns;refine' zn;refine' Mo;refine ⟨_,rfl,rfl,?_⟩;rw [Yy] at hS;exact F9 hS.drop.drop hi
end
end
section
variable {cx:Cx}{w:World}{L:List Res}
theorem iW (f:Nat)(hf:f≤1000000)(hS:St cx w L):JW Tryz.prog Uu [.int .i64 f] w fun u w'=>u= .int .i64 (O5 f)∧St cx w' L:=by
 unfold O5;refine Kd Kc Tryz.func66 ?_;refine' Oi;refine' RJ;refine' Nq;refine' KN;(refine ⟨_,rfl,?_,hS.sp⟩;(exact Ak);done)
theorem QhP (f:Nat)(hf:f≤1000000)(hS:St cx w L):JW Tryz.prog QdN [.int .i64 f] w fun u w'=>u= .int .i64 (O5 f)∧St cx w' L:=by
 unfold O5;refine Kd Kc Tryz.func104 ?_;refine' Oi;refine' RJ;refine' Nq;refine' KN;(((refine ⟨_,rfl,?_,hS.sp⟩;(rfl);done)))
theorem lq (f b:Nat)(hf:f≤1000000)(hb:b≤1000000)(hS:St cx w L):JW Tryz.prog Qj5 [.int .i64 f, .int .i64 b] w fun u w'=>u= .int .i64 (Sd f b)∧St cx w' L:=by
 unfold Sd;refine Kd Kc Tryz.func113 ?_;refine' Oi;refine' RJ;refine' zm;refine' RJ;refine' Nq;refine' Nq;refine' KN;(refine ⟨_,rfl,?_,hS.sp⟩;(exact Ak);done)
theorem QfH (f b:Nat)(hf:f≤1000000)(hb:b≤1000000)(hS:St cx w L):JW Tryz.prog Qcs [.int .i64 f, .int .i64 b] w fun u w'=>u= .int .i64 (Sd f b)∧St cx w' L:=by
 unfold Sd;refine Kd Kc Tryz.func161 ?_;refine' Oi;refine' RJ;refine' zm;refine' RJ;refine' Nq;refine' Nq;refine' KN;(((refine ⟨_,rfl,?_,hS.sp⟩;(rfl);done)))
theorem ph (f b:Nat)(hf:f≤1000000)(hb:b≤1000000)(hS:St cx w L):JW Tryz.prog Yd [.int .i64 f, .int .i64 b] w fun u w'=>u= .int .i64 (Po f b)∧St cx w' L:=by
 unfold Po;refine Kd Kc Tryz.func57 ?_;refine' Oi;refine' RJ;refine' zm;refine' RJ;refine' Nq;refine' Nq;refine' KN;(refine ⟨_,rfl,?_,hS.sp⟩;(exact Ak);done)
theorem uk (f b:Nat)(hf:f≤1000000)(hb:b≤1000000)(hS:St cx w L):JW Tryz.prog Qg3 [.int .i64 f, .int .i64 b] w fun u w'=>u= .int .i64 (Po f b)∧St cx w' L:=by
 unfold Po;refine Kd Kc Tryz.func116 ?_;refine' Oi;refine' RJ;refine' zm;refine' RJ;refine' Nq;refine' Nq;refine' KN;(((refine ⟨_,rfl,?_,hS.sp⟩;(rfl);done)))
theorem pj (f b i:Nat)(hf:f≤1000000)(hb:b≤1000000)(hi:i≤1000000)(hS:St cx w L):JW Tryz.prog Yc [.int .i64 f, .int .i64 b, .int .i64 i] w fun u w'=>u= .int .i64 (OL f b i)∧St cx w' L:=by
 unfold OL;refine Kd Kc Tryz.func55 ?_;refine' Oi;refine' RJ;refine' zm;refine' RJ;refine' Nq;refine' zm;refine' Nq;refine' KN;(refine ⟨_,rfl,?_,hS.sp⟩;(exact Ak);done)
theorem um (f b i:Nat)(hf:f≤1000000)(hb:b≤1000000)(hi:i≤1000000)(hS:St cx w L):JW Tryz.prog Qg2 [.int .i64 f, .int .i64 b, .int .i64 i] w fun u w'=>u= .int .i64 (OL f b i)∧St cx w' L:=by
 unfold OL;refine Kd Kc Tryz.func115 ?_;refine' Oi;refine' RJ;refine' zm;refine' RJ;refine' Nq;refine' zm;refine' Nq;refine' KN;(((refine ⟨_,rfl,?_,hS.sp⟩;(rfl);done)))
theorem MD (hS:St cx w L):JW Tryz.prog zF [.int .i64 c, .int .i64 a] w fun u w'=>u= .agg ⟨[.int .i64 c, .int .i64 a]⟩∧St cx w' L:=by
 refine Kd Kc Tryz.func52 ?_;refine' Rf;(intro p4 w1 hS);refine' zn;refine' KL;refine Na [_,_] ?_;((refine Ka hS ?_;intro w1 hS;have hS:=hS.ns));refine' L8;refine Lw vw (Q4 (n:=2) Jk Jk (hS.blkAt fd) Jr Jr) ?_;(((refine ⟨_,rfl,?_,hS.sp⟩;(rfl);done)))
theorem pk (hl:J7.sl cx v l)(hS:St cx w L):JW Tryz.prog zN [v, .int .i64 regs] w fun u w'=>u= .int .i64 (Qm l regs)∧St cx w' L:=by
 (have hlen:=hl.len;unfold Qm;refine Kd Kc Tryz.func67 ?_;refine' NN;refine' zL;first|(refine' QV)|(refine' KM)|(refine' Af<;>intro hc));all_goals (refine' zn)
 all_goals
  first
  | (refine' JZ;refine' Kw;((refine ⟨_,rfl,?_,hS.sp⟩;(rw [if_pos Jo]);done)))
  | (refine' J0;refine' J5)
 refine' LU;refine LQ hS [0,1] (fun A LL ρ' w'=>∃(j:Nat),J2 ρ' A∧J2 ρ' [(5, .int .i64 j)]∧(j≤l.length)∧(P7 regs l=P7 regs (l.drop j))∧St cx w' (LL)) (fun ρ' _=>(l.length - iv (ρ' 5)).toNat) ?_ ?_
 · exact AF
 rintro ρ w1 ⟨j,hA,hρ,hj,hd,hS⟩;obtain ⟨ρ,rfl⟩:=J3 hA hρ;refine' Sk;refine' Ab<;>intro hc
 · skip
   (refine' Lj;refine' KL;refine' zi;intro b1 o1 cs1 x1 hat1 hx1 he1;obtain ⟨vl1,rfl,hl1⟩:=Qc he1;refine' MZ;refine' zm;refine' J9 (c:=Qhi Ja hS);rintro v1 w1 ⟨rfl,hS⟩;refine' LZ;first|(refine' Qy)|(refine' QD)|(refine' Ad<;>intro hc));all_goals (refine' zn)
   all_goals
    first
    | (refine' JZ;refine' O9;first|(refine ⟨_,rfl,?_,hS.sp⟩;rw [if_pos Jo];done)|(refine ⟨_,rfl,?_,hS.sp⟩;rw [if_neg Jo,hd,Q1 hx1,P7,Py Ja];done))
    | (refine' J0;refine' J5)
   refine' LH;(exact ⟨⟨j+1,zh,zh,Jo,by rw [hd,Q1 hx1,P7,show x1.fault regs=0 by omega,Pe],hS.sp⟩,Qb Jo⟩)
 · skip;refine' OA;(first|(refine ⟨_,rfl,?_,hS.sp⟩;rw [if_pos Jo];done)|(refine ⟨_,rfl,?_,hS.sp⟩;rw [if_neg Jo,hd,Q1 hx1,P7,Py Ja];done)|(refine ⟨_,rfl,?_,hS.sp⟩;rw [if_neg Jo,hd,EP Jo,P7];done))
theorem U1 (hS :St cx w L):JW Tryz.prog Qgi [.int .i64 op] w fun u w'=>u= .tuple #[.agg ⟨[.bool (fA op), .bool (fB op), .bool (fC op), .bool (fK op), .bool (fN op), .bool (fG op), .bool (fR op)]⟩, .bool (decide (1≤op∧op≤14))]∧St cx w' L:=by
 have hbad:(op<1∨14<op)→fA op=false∧fB op=false∧fC op=false∧fK op=false∧fN op=false∧fG op=false∧fR op=false∧decide (1≤op∧op≤14)=false:=by
  intro h;refine ⟨?_,?_,?_,?_,?_,?_,?_,?_⟩<;>(first|unfold fA|unfold fB|unfold fC|unfold fK|unfold fN|unfold fG|unfold fR|skip)<;>rw [decide_eq_false_iff_not]<;>omega
 by_cases hb:op<1∨14<op
 · obtain ⟨h1, h2, h3, h4, h5, h6, h7, h8⟩:=hbad hb
   rw [h1,h2,h3,h4,h5,h6,h7,h8];clear hbad h1 h2 h3 h4 h5 h6 h7 h8;refine Kd Kc Tryz.func150 ?_;refine' Rf;(intro p2 w1 hS);refine' Kg;refine' LU;refine' SM
   all_goals
    first
    | (refine' JZ;all_goals (refine' Ki;refine Oy [_,_,_,_,_,_,_] ?_;refine Ka hS ?_;intro w1 hS;have hS:=hS.ns;refine' LY;refine QQ vw (Q4 (n:=7) Jk Jk (hS.blkAt fd) Jr Jr) vw ?_);all_goals (refine ⟨_,rfl,?_,hS.sp⟩;(rfl);done))
    | (refine' J0
       refine' M3;refine' Ui
       all_goals
        first
        | (refine' JZ;all_goals refine' J5)
        | (refine' J0;refine' Lm;refine' Rc;refine' zm;refine' zn)
       all_goals
        first
        | (refine' JZ;all_goals (refine' Ki;refine Od [_,_,_,_,_,_,_] ?_;refine Ka hS ?_;intro w1 hS;have hS:=hS.ns;refine' LY;refine QQ vw (Q4 (n:=7) Jk Jk (hS.blkAt fd) Jr Jr) vw ?_);all_goals (refine ⟨_,rfl,?_,hS.sp⟩;(rfl);done))
        | (refine' J0
           refine' M3;refine' Ui
           all_goals
            first
            | (refine' JZ;all_goals refine' J5)
            | (refine' J0;refine' Lm;refine' Rc;refine' zm;refine' zn)
           all_goals
            first
            | (refine' JZ;all_goals (refine' Ki;refine MA [_,_,_,_,_,_,_] ?_;refine Ka hS ?_;intro w1 hS;have hS:=hS.ns;refine' LY;refine QQ vw (Q4 (n:=7) Jk Jk (hS.blkAt fd) Jr Jr) vw ?_);all_goals (refine ⟨_,rfl,?_,hS.sp⟩;(rfl);done))
            | (refine' J0
               refine' M3;refine' Ui
               all_goals
                first
                | (refine' JZ;all_goals refine' J5)
                | (refine' J0
                   refine' SM
                   all_goals
                    first
                    | (refine' JZ;all_goals refine' J5)
                    | (refine' J0;refine' Lm;refine' Rc;refine' zm;refine' zn))
               all_goals
                first
                | (refine' JZ;all_goals (refine' Ki;refine Oy [_,_,_,_,_,_,_] ?_;refine Ka hS ?_;intro w1 hS;have hS:=hS.ns;refine' LY;refine QQ vw (Q4 (n:=7) Jk Jk (hS.blkAt fd) Jr Jr) vw ?_);all_goals (refine ⟨_,rfl,?_,hS.sp⟩;(rfl);done))
                | (refine' J0
                   refine' SM
                   all_goals
                    first
                    | (refine' JZ;all_goals (refine' Ki;refine Na [_,_,_,_,_,_,_] ?_;refine Ka hS ?_;intro w1 hS;have hS:=hS.ns;refine' LY;refine QQ vw (Q4 (n:=7) Jk Jk (hS.blkAt fd) Jr Jr) vw ?_);all_goals (refine ⟨_,rfl,?_,hS.sp⟩;(rfl);done))
                    | (refine' J0
                       refine' SM
                       all_goals
                        first
                        | (refine' JZ;all_goals (refine' Ki;refine Na [_,_,_,_,_,_,_] ?_;refine Ka hS ?_;intro w1 hS;have hS:=hS.ns;refine' LY;refine QQ vw (Q4 (n:=7) Jk Jk (hS.blkAt fd) Jr Jr) vw ?_);all_goals (refine ⟨_,rfl,?_,hS.sp⟩;(rfl);done))
                        | (refine' J0
                           refine' M3;refine' Ui
                           all_goals
                            first
                            | (refine' JZ;all_goals refine' J5)
                            | (refine' J0;refine' Lm;refine' Rc;refine' zm;refine' zn)
                           all_goals
                            first
                            | (refine' JZ;all_goals (refine' Ki;refine Na [_,_,_,_,_,_,_] ?_;refine Ka hS ?_;intro w1 hS;have hS:=hS.ns;refine' LY;refine QQ vw (Q4 (n:=7) Jk Jk (hS.blkAt fd) Jr Jr) vw ?_);all_goals (refine ⟨_,rfl,?_,hS.sp⟩;(rfl);done))
                            | (refine' J0
                               refine' SM
                               all_goals
                                first
                                | (refine' JZ;all_goals (refine' Ki;refine Od [_,_,_,_,_,_,_] ?_;refine Ka hS ?_;intro w1 hS;have hS:=hS.ns;refine' LY;refine QQ vw (Q4 (n:=7) Jk Jk (hS.blkAt fd) Jr Jr) vw ?_);all_goals (refine ⟨_,rfl,?_,hS.sp⟩;(rfl);done))
                                | (refine' J0
                                   refine' SM
                                   all_goals
                                    first
                                    | (refine' JZ;all_goals (refine' Ki;refine Od [_,_,_,_,_,_,_] ?_;refine Ka hS ?_;intro w1 hS;have hS:=hS.ns;refine' LY;refine QQ vw (Q4 (n:=7) Jk Jk (hS.blkAt fd) Jr Jr) vw ?_);all_goals (refine ⟨_,rfl,?_,hS.sp⟩;(rfl);done))
                                    | (refine' J0;refine' J5)))))))))
   refine' Ki;refine MA [_,_,_,_,_,_,_] ?_;refine Ka hS ?_;intro w1 hS;have hS:=hS.ns;refine' LY;refine QQ vw (Q4 (n:=7) Jk Jk (hS.blkAt fd) Jr Jr) vw ?_;(refine ⟨_,rfl,?_,hS.sp⟩;(rfl);done)
 · clear hbad
   rcases Ld (op:=op) Jo Jo with rfl|rfl|rfl|rfl|rfl|rfl|rfl|rfl|rfl|rfl|rfl|rfl|rfl|rfl
   all_goals (clear hb;refine Kd Kc Tryz.func150 ?_;skip;refine' Rf;intro p2 w1 hS;refine' Kg;refine' LU;refine' SM)
   all_goals
    first
    | (refine' JZ;refine' Ki;refine Oy [_,_,_,_,_,_,_] ?_;refine Ka hS ?_;intro w1 hS;have hS:=hS.ns;refine' LY;refine QQ vw (Q4 (n:=7) Jk Jk (hS.blkAt fd) Jr Jr) vw ?_;((refine ⟨_,rfl,?_,hS.sp⟩;(rfl);done)))
    | (refine' J0
       all_goals (refine' M3;refine' Ui)
       all_goals
        first
        | (refine' JZ;refine' J5)
        | (refine' J0;all_goals (refine' Lm;refine' Rc;refine' zm);all_goals refine' zn)
       all_goals
        first
        | (refine' JZ;all_goals (refine' Ki;refine Od [_,_,_,_,_,_,_] ?_;refine Ka hS ?_;intro w1 hS;have hS:=hS.ns;refine' LY;refine QQ vw (Q4 (n:=7) Jk Jk (hS.blkAt fd) Jr Jr) vw ?_);all_goals (refine ⟨_,rfl,?_,hS.sp⟩;(rfl);done))
        | (refine' J0
           all_goals (refine' M3;refine' Ui)
           all_goals
            first
            | (refine' JZ;refine' J5)
            | (refine' J0;all_goals (refine' Lm;refine' Rc;refine' zm);all_goals refine' zn)
           all_goals
            first
            | (refine' JZ;all_goals (refine' Ki;refine MA [_,_,_,_,_,_,_] ?_;refine Ka hS ?_;intro w1 hS;have hS:=hS.ns;refine' LY;refine QQ vw (Q4 (n:=7) Jk Jk (hS.blkAt fd) Jr Jr) vw ?_);all_goals (refine ⟨_,rfl,?_,hS.sp⟩;(rfl);done))
            | (refine' J0
               all_goals (refine' M3;refine' Ui)
               all_goals
                first
                | (refine' JZ;refine' J5)
                | (refine' J0
                   all_goals (refine' SM)
                   all_goals
                    first
                    | (refine' JZ;refine' J5)
                    | (refine' J0;all_goals (refine' Lm;refine' Rc;refine' zm);all_goals refine' zn))
               all_goals
                first
                | (refine' JZ;all_goals (refine' Ki;refine Oy [_,_,_,_,_,_,_] ?_;refine Ka hS ?_;intro w1 hS;have hS:=hS.ns;refine' LY;refine QQ vw (Q4 (n:=7) Jk Jk (hS.blkAt fd) Jr Jr) vw ?_);all_goals (refine ⟨_,rfl,?_,hS.sp⟩;(rfl);done))
                | (refine' J0
                   all_goals (refine' SM)
                   all_goals
                    first
                    | (refine' JZ;refine' Ki;refine Na [_,_,_,_,_,_,_] ?_;refine Ka hS ?_;intro w1 hS;have hS:=hS.ns;refine' LY;refine QQ vw (Q4 (n:=7) Jk Jk (hS.blkAt fd) Jr Jr) vw ?_;((refine ⟨_,rfl,?_,hS.sp⟩;(rfl);done)))
                    | (refine' J0
                       all_goals (refine' SM)
                       all_goals
                        first
                        | (refine' JZ;refine' Ki;refine Na [_,_,_,_,_,_,_] ?_;refine Ka hS ?_;intro w1 hS;have hS:=hS.ns;refine' LY;refine QQ vw (Q4 (n:=7) Jk Jk (hS.blkAt fd) Jr Jr) vw ?_;((refine ⟨_,rfl,?_,hS.sp⟩;(rfl);done)))
                        | (refine' J0
                           all_goals (refine' M3;refine' Ui)
                           all_goals
                            first
                            | (refine' JZ;refine' J5)
                            | (refine' J0;all_goals (refine' Lm;refine' Rc;refine' zm);all_goals refine' zn)
                           all_goals
                            first
                            | (refine' JZ;all_goals (refine' Ki;refine Na [_,_,_,_,_,_,_] ?_;refine Ka hS ?_;intro w1 hS;have hS:=hS.ns;refine' LY;refine QQ vw (Q4 (n:=7) Jk Jk (hS.blkAt fd) Jr Jr) vw ?_);all_goals (refine ⟨_,rfl,?_,hS.sp⟩;(rfl);done))
                            | (refine' J0
                               all_goals (refine' SM)
                               all_goals
                                first
                                | (refine' JZ;refine' Ki;refine Od [_,_,_,_,_,_,_] ?_;refine Ka hS ?_;intro w1 hS;have hS:=hS.ns;refine' LY;refine QQ vw (Q4 (n:=7) Jk Jk (hS.blkAt fd) Jr Jr) vw ?_;((refine ⟨_,rfl,?_,hS.sp⟩;(rfl);done)))
                                | (refine' J0
                                   refine' Ki;refine' Ql;refine' Kg
                                   all_goals
                                    first
                                    | (refine' JZ;refine' Ki;refine Od [_,_,_,_,_,_,_] ?_;refine Ka hS ?_;intro w1 hS;have hS:=hS.ns;refine' LY;refine QQ vw (Q4 (n:=7) Jk Jk (hS.blkAt fd) Jr Jr) vw ?_;((refine ⟨_,rfl,?_,hS.sp⟩;(rfl);done)))))))))))
   all_goals (refine' Ki;refine MA [_,_,_,_,_,_,_] ?_;refine Ka hS ?_;intro w1 hS;have hS:=hS.ns;refine' LY;refine QQ vw (Q4 (n:=7) Jk Jk (hS.blkAt fd) Jr Jr) vw ?_;refine ⟨_,rfl,?_,hS.sp⟩;(rfl);done)
theorem U2 (hm:K6.at cx cs m)(hx:Ky.at cx ds x)(hS:St cx w L):JW Tryz.prog zY [.agg ⟨cs⟩, .agg ⟨ds⟩] w fun u w'=>u= .int .i64 (Qj m.funcs.length x)∧St cx w' L:=by
 obtain ⟨vf,rfl,hf⟩:=NV hm;obtain ⟨vr,va,rfl,hr,ha⟩:=Nh hx;have hlr:=hr.len;have hla:=ha.len;have hln:=hf.len;unfold Qj;refine Kd Kc Tryz.func94 ?_;refine' KO;intro p2 w1 hS;refine zb hS ?_;intro p3 w1 hS;refine' W2;refine' Kv (c:=U1 hS);rintro v1 w1 ⟨rfl,hS⟩;refine' Sh;(intro p5 w1 hS);((refine Ka hS ?_;intro w1 hS;have hS:=hS.ns));refine' Kg;refine PM hS [2,3,5] (fun A LL ρ' w'=>J2 ρ' A∧J2 ρ' []∧(1≤x.op∧x.op≤14)∧St cx w' (LL)) ?_ ?_
 · skip
   refine Qu ?_;cases hop:decide (1≤x.op∧x.op≤14);all_goals (refine' LF;refine' Oh)
   all_goals
    first
    | (refine' JZ;refine' Kw;((refine ⟨_,rfl,?_,hS.sp⟩;(rw [if_pos DU]);done)))
    | (refine' J0;refine' J5)
   ((exact ⟨zh,zh,by exact of_decide_eq_true hop,hS.sp⟩))
 rintro ρ w1 ⟨hA,hρ,hop,hS⟩;obtain ⟨ρ,rfl⟩:=J3 hA hρ;obtain ⟨a1,ha1⟩:∃b,fA x.op=b:=⟨_,rfl⟩;obtain ⟨a2,ha2⟩:∃b,fB x.op=b:=⟨_,rfl⟩;obtain ⟨a3,ha3⟩:∃b,fC x.op=b:=⟨_,rfl⟩;obtain ⟨a4,ha4⟩:∃b,fK x.op=b:=⟨_,rfl⟩;obtain ⟨a5,ha5⟩:∃b,fN x.op=b:=⟨_,rfl⟩;obtain ⟨a6,ha6⟩:∃b,fG x.op=b:=⟨_,rfl⟩;obtain ⟨a7,ha7⟩:∃b,fR x.op=b:=⟨_,rfl⟩;rw [ha1,ha2,ha3,ha4,ha5,ha6,ha7] at hS;refine PM hS [2,3] (fun A LL ρ' w'=>J2 ρ' A∧J2 ρ' []∧(¬x.odd)∧St cx w' (LL)) ?_ ?_
 · skip
   refine' Ki;refine Pt hS 8 [2,3,5] (fun A LL ρ' w'=>∃(q1:Bool),J2 ρ' A∧J2 ρ' [(22, .bool q1)]∧(q1=true↔(fA x.op=false∧x.a≠0))∧St cx w' (LL)) ?_ ?_
   · skip;refine' KK;cases a1;all_goals (refine' PK;refine' LS;first|refine' J1|(refine' J4;(first|(refine' Qy)|(refine' QD)|(refine' Ad<;>intro hc))));all_goals (refine' kP;first|(exact Cc)|(exact CL))
   rintro ρ w1 ⟨q1,hA,hρ,hq1,hS⟩;obtain ⟨ρ,rfl⟩:=J3 hA hρ;refine Pt hS 10 [2,3,5] (fun A LL ρ' w'=>∃(q2:Bool),J2 ρ' A∧J2 ρ' [(32, .bool q2)]∧(q2=true↔((fA x.op=false∧x.a≠0)∨(fB x.op=false∧x.b≠0)))∧St cx w' (LL)) ?_ ?_
   · skip;cases q1;all_goals (refine' LS;cases a2);all_goals (refine' SN;first|refine' J1|(refine' J4;(first|(refine' Qy)|(refine' QD)|(refine' Ad<;>intro hc))));all_goals (refine' RL;first|(exact Da)|(exact AL)|(exact B5))
   rintro ρ w1 ⟨q2,hA,hρ,hq2,hS⟩;obtain ⟨ρ,rfl⟩:=J3 hA hρ;refine Pt hS 10 [2,3,5] (fun A LL ρ' w'=>∃(q3:Bool),J2 ρ' A∧J2 ρ' [(42, .bool q3)]∧(q3=true↔(((fA x.op=false∧x.a≠0)∨(fB x.op=false∧x.b≠0))∨(fC x.op=false∧x.c≠0)))∧St cx w' (LL)) ?_ ?_
   · skip;cases q2;all_goals (refine' LS;cases a3);all_goals (refine' SN;first|refine' J1|(refine' J4;(first|(refine' Qy)|(refine' QD)|(refine' Ad<;>intro hc))));all_goals (refine' RL;first|(exact CA)|(exact AL)|(exact Cq))
   rintro ρ w1 ⟨q3,hA,hρ,hq3,hS⟩;obtain ⟨ρ,rfl⟩:=J3 hA hρ;refine Pt hS 10 [2,3,5] (fun A LL ρ' w'=>∃(q4:Bool),J2 ρ' A∧J2 ρ' [(52, .bool q4)]∧(q4=true↔((((fA x.op=false∧x.a≠0)∨(fB x.op=false∧x.b≠0))∨(fC x.op=false∧x.c≠0))∨(fK x.op=false∧x.k≠0)))∧St cx w' (LL)) ?_ ?_
   · skip;cases q3;all_goals (refine' LS;cases a4);all_goals (refine' SN;first|refine' J1|(refine' J4;(first|(refine' Qy)|(refine' QD)|(refine' Ad<;>intro hc))));all_goals (refine' RL;first|(exact CS)|(exact AL)|(exact Cf))
   rintro ρ w1 ⟨q4,hA,hρ,hq4,hS⟩;obtain ⟨ρ,rfl⟩:=J3 hA hρ;refine Pt hS 10 [2,3,5] (fun A LL ρ' w'=>∃(q5:Bool),J2 ρ' A∧J2 ρ' [(62, .bool q5)]∧(q5=true↔(((((fA x.op=false∧x.a≠0)∨(fB x.op=false∧x.b≠0))∨(fC x.op=false∧x.c≠0))∨(fK x.op=false∧x.k≠0))∨(fN x.op=false∧x.n≠0)))∧St cx w' (LL)) ?_ ?_
   · skip;cases q4;all_goals (refine' LS;cases a5);all_goals (refine' SN;first|refine' J1|(refine' J4;(first|(refine' Qy)|(refine' QD)|(refine' Ad<;>intro hc))));all_goals (refine' RL;first|(exact B1)|(exact AL)|(exact Cv))
   rintro ρ w1 ⟨q5,hA,hρ,hq5,hS⟩;obtain ⟨ρ,rfl⟩:=J3 hA hρ;refine Pt hS 11 [2,3,5] (fun A LL ρ' w'=>∃(q6:Bool),J2 ρ' A∧J2 ρ' [(73, .bool q6)]∧(q6=true↔((((((fA x.op=false∧x.a≠0)∨(fB x.op=false∧x.b≠0))∨(fC x.op=false∧x.c≠0))∨(fK x.op=false∧x.k≠0))∨(fN x.op=false∧x.n≠0))∨(fG x.op=false∧0<x.regs.length)))∧St cx w' (LL)) ?_ ?_
   · skip;cases q5;all_goals (refine' LS;cases a6);all_goals (refine' SN;refine' M0;first|refine' J1|(refine' J4;(first|(refine' QV)|(refine' KM)|(refine' Af<;>intro hc))));all_goals (refine' RL;first|(exact C0)|(exact AL)|(exact C9))
   ((rintro ρ w1 ⟨q6,hA,hρ,hq6,hS⟩;obtain ⟨ρ,rfl⟩:=J3 hA hρ;cases q6;all_goals (refine' LS;cases a7));all_goals (refine' SN;refine' M0;first|refine' J1|(refine' J4;(first|(refine' QV)|(refine' KM)|(refine' Af<;>intro hc)))));all_goals (refine' ab;refine' KU)
   all_goals
    first
    | (refine' JZ;all_goals (refine' Kw);all_goals (first|(refine ⟨_,rfl,?_,hS.sp⟩;rw [if_pos DU];done)|(refine ⟨_,rfl,?_,hS.sp⟩;have ho:x.odd:=Ej;rw [if_neg Jo,if_pos ho];done)))
    | (refine' J0;all_goals refine' J5)
   all_goals (exact ⟨zh,zh,by intro h;unfold Ins.odd at h;simp only [←or_assoc] at h;exact h.elim (fun h=>Bool.noConfusion (hq6.2 h)) (fun h=>by obtain ⟨h1,h2⟩:=h;first|(exfalso;omega)|(simp_all;done)),hS.sp⟩)
 (rintro ρ w1 ⟨hA,hρ,hodd,hS⟩;obtain ⟨ρ,rfl⟩:=J3 hA hρ;refine' Mt;clear hm hx;refine' ae;refine' Si;refine' Ki;first|(refine' Ql)|(refine' Qn)|(refine' Ac<;>intro hc));all_goals (refine' Kg)
 all_goals
  first
  | (refine' JZ
     ((refine' Ni;first|(refine' K0)|(refine' K1)|(refine' Ae<;>intro hc));all_goals (refine' LS;first|refine' J1|(refine' J4;(first|(refine' QV)|(refine' KM)|(refine' Af<;>intro hc)))));all_goals (refine' KU)
     all_goals
      first
      | (refine' JZ;all_goals (refine' Kw);all_goals (exact Ai))
      | (refine' J0;refine' J5))
  | (refine' J0
     (refine' Ki;first|(refine' Ql)|(refine' Qn)|(refine' Ac<;>intro hc));all_goals (refine' Kg)
     all_goals
      first
      | (refine' JZ
         (refine' Ni;refine' zL;first|(refine' QV)|(refine' KM)|(refine' Af<;>intro hc));all_goals (refine' zn)
         all_goals
          first
          | (refine' JZ;refine' Kw;first|(refine ⟨_,rfl,?_,hS.sp⟩;rw [if_pos DU];done)|(refine ⟨_,rfl,?_,hS.sp⟩;have ho:x.odd:=Ej;rw [if_neg Jo,if_pos ho];done)|(refine ⟨_,rfl,?_,hS.sp⟩;rw [if_neg Jo,if_neg hodd];unfold Nw;(repeat (first|rw [if_pos Jo]|rw [if_neg Jo]));done))
          | (refine' J0;refine' J5))
      | (refine' J0
         (refine' M3;first|(refine' Ql)|(refine' Qn)|(refine' Ac<;>intro hc));all_goals (refine' Kg)
         all_goals
          first
          | (refine' JZ;refine' J5)
          | (refine' J0;(refine' Lm;first|(refine' Ql)|(refine' Qn)|(refine' Ac<;>intro hc));all_goals (refine' zm);all_goals refine' zn)
         all_goals
          first
          | (refine' JZ
             (all_goals (refine' Ni;first|(refine' K0)|(refine' K1)|(refine' Ae<;>intro hc));all_goals (refine' LS;first|refine' J1|(refine' J4;(first|(refine' QV)|(refine' KM)|(refine' Af<;>intro hc)))));all_goals (refine' KU)
             all_goals
              first
              | (refine' JZ;all_goals (refine' Kw);all_goals (exact Ai))
              | (refine' J0;all_goals refine' J5))
          | (refine' J0
             (refine' Ki;first|(refine' Ql)|(refine' Qn)|(refine' Ac<;>intro hc));all_goals (refine' Kg)
             all_goals
              first
              | (refine' JZ
                 ((refine' MP;first|(refine' K0)|(refine' K1)|(refine' Ae<;>intro hc));all_goals (refine' RK;refine' M0;first|refine' J1|(refine' J4;(first|(refine' Ml)|(refine' Mz)|(refine' Ag<;>intro hc)))));all_goals (refine' KU)
                 all_goals
                  first
                  | (refine' JZ;all_goals (refine' Kw);all_goals (exact Ai))
                  | (refine' J0;refine' J5)
                 ((refine' Ni;refine' zL;first|(refine' QV)|(refine' KM)|(refine' Af<;>intro hc));all_goals (refine' Pv;first|refine' J1|(refine' J4;(first|(refine' QV)|(refine' KM)|(refine' Af<;>intro hc)))));all_goals (refine' KU)
                 all_goals
                  first
                  | (refine' JZ;all_goals (refine' Kw);all_goals (exact Ai))
                  | (refine' J0;refine' J5))
              | (refine' J0;refine' J5))))
 all_goals (refine' Kw;(exact Ai))
end
section
attribute [local irreducible] Kz KJ RF Nw Qj LK QU Qm Qt QF O5 Sd Po OL
variable {cx:Cx}{w:World}{L:List Res}{i:Nat}
theorem U3 (c:Int):(if decide (c≠0)=true then c else 0)=c:=by by_cases h:c=0<;>simp [h]
theorem aC {x:Fun}(hx:Kj.at cx cs x)(ht:toR.at cx ds t)(hS:St cx w L):
 JW Tryz.prog Uy [.agg ⟨cs⟩, .agg ⟨ds⟩, .bool is] w fun u w'=>u= .int .i64 (LK x.blocks.length t is)∧St cx w' L:=by
 obtain ⟨vp,vr,vb,rfl,hp,hr,hb⟩:=Qw hx;obtain ⟨v1,v2,rfl,h1,h2⟩:=SG ht;have hlb:=hb.len;have hb1:=h1.len;have hb2:=h2.len;unfold LK
 cases is with
 | false=>
   ((refine Kd Kc Tryz.func156 ?_;refine' KO;intro p3 w1 hS;refine zb hS ?_;intro p4 w1 hS;refine' fq;refine' JZ;refine' MP;first|(refine' Qy)|(refine' QD)|(refine' Ad<;>intro hc));all_goals (refine' Pv;refine' MO;refine' M0;(first|refine' J1|(refine' J4;refine' Nq));first|refine' J1|(refine' J4;(first|(refine' QV)|(refine' KM)|(refine' Af<;>intro hc)))));all_goals (refine' KU)
   all_goals
    first
    | (refine' JZ;all_goals (refine' Kw);all_goals (refine ⟨_,rfl,?_,hS.sp⟩;(rw [if_pos rfl];first|rw [if_pos Jo]|rw [if_neg Jo]);done))
    | (refine' J0;refine' J5)
   refine' Kw;(refine ⟨_,rfl,?_,hS.sp⟩;(rw [if_pos rfl];first|rw [if_pos Jo]|rw [if_neg Jo]);done)
 | true=>
   ((refine Kd Kc Tryz.func156 ?_;refine' KO;intro p3 w1 hS;refine zb hS ?_;intro p4 w1 hS;refine' fq;refine' PV;refine' MP;first|(refine' K0)|(refine' K1)|(refine' Ae<;>intro hc));all_goals (refine' RK;refine' M0;first|refine' J1|(refine' J4;(first|(refine' Ml)|(refine' Mz)|(refine' Ag<;>intro hc)))));all_goals (refine' KU)
   all_goals
    first
    | (refine' JZ;all_goals (refine' Kw);all_goals (refine ⟨_,rfl,?_,hS.sp⟩;rw [if_neg Bool.noConfusion];(repeat (first|rw [if_pos Jo]|rw [if_neg Jo]));done))
    | (refine' J0;refine' J5)
   ((refine' MP;refine' zL;first|(refine' QV)|(refine' KM)|(refine' Af<;>intro hc));all_goals (refine' Pv;first|refine' J1|(refine' J4;(first|(refine' QV)|(refine' KM)|(refine' Af<;>intro hc)))));all_goals (refine' KU)
   all_goals
    first
    | (refine' JZ;all_goals (refine' Kw);all_goals (refine ⟨_,rfl,?_,hS.sp⟩;rw [if_neg Bool.noConfusion];(repeat (first|rw [if_pos Jo]|rw [if_neg Jo]));done))
    | (refine' J0;refine' J5)
   refine' Kw;(refine ⟨_,rfl,?_,hS.sp⟩;rw [if_neg Bool.noConfusion];(repeat (first|rw [if_pos Jo]|rw [if_neg Jo]));done)
theorem U4 {x:Fun}(hx:Kj.at cx cs x)(he:K3.at cx ds e)(hS:St cx w L):
 JW Tryz.prog z6 [.agg ⟨cs⟩, .agg ⟨ds⟩] w fun u w'=>u= .int .i64 (QU x.blocks.length e)∧St cx w' L:=by
 ((obtain ⟨vp,vr,vb,rfl,hp,hr,hb⟩:=Qw hx;obtain ⟨v1,v2,v3,v4,v5,rfl,h1,h2,h3,h4,h5⟩:=WR he;have s5:=h5.len;unfold QU;refine Kd Kc Tryz.func96 ?_;refine' KO;intro p2 w1 hS;refine zb hS ?_;intro p3 w1 hS;refine' Sj;first|(refine' K0)|(refine' K1)|(refine' Ae<;>intro hc));all_goals (refine' LS;first|refine' J1|(refine' J4;(first|(refine' QV)|(refine' KM)|(refine' Af<;>intro hc)))));all_goals (refine' KU)
 all_goals
  first
  | (refine' JZ;all_goals (refine' Kw);all_goals (refine ⟨_,rfl,?_,hS.sp⟩;rw [if_pos Jo];done))
  | (refine' J0;refine' J5)
 refine PM hS [2,3] (fun A LL ρ' w'=>J2 ρ' A∧J2 ρ' []∧(¬(e.op<1∨3<e.op))∧(¬(e.op≠2∧e.a≠0∨e.op≠3∧0<e.args.length))∧St cx w' (LL)) ?_ ?_
 · skip
   ((((refine' Ni;first|(refine' Qy)|(refine' QD)|(refine' Ad<;>intro hc));all_goals (refine' LS;first|refine' J1|(refine' J4;(first|(refine' Qy)|(refine' QD)|(refine' Ad<;>intro hc)))));all_goals (refine' Ms;refine' Pv;first|refine' J1|(refine' J4;(first|(refine' QV)|(refine' KM)|(refine' Af<;>intro hc)))));all_goals (refine' X9;first|refine' J1|(refine' J4;(first|(refine' Qy)|(refine' QD)|(refine' Ad<;>intro hc)))));all_goals (refine' ab;refine' KU)
   all_goals
    first
    | (refine' JZ;all_goals (refine' Kw);all_goals (first|(refine ⟨_,rfl,?_,hS.sp⟩;rw [if_pos Jo];done)|(refine ⟨_,rfl,?_,hS.sp⟩;rw [if_neg Jo,if_pos Jo];done)))
    | (refine' J0;all_goals refine' J5)
   all_goals (exact ⟨zh,zh,Jo,Jo,hS.sp⟩)
 (rintro ρ w1 ⟨hA,hρ,k1,k2,hS⟩;obtain ⟨ρ,rfl⟩:=J3 hA hρ;refine' MP;refine' zL;first|(refine' QV)|(refine' KM)|(refine' Af<;>intro hc));all_goals (refine' zn)
 all_goals
  first
  | (refine' JZ;refine' Kw;first|(refine ⟨_,rfl,?_,hS.sp⟩;rw [if_pos Jo];done)|(refine ⟨_,rfl,?_,hS.sp⟩;rw [if_neg Jo,if_pos Jo];done)|(refine ⟨_,rfl,?_,hS.sp⟩;rw [if_neg k1,if_neg k2,if_pos Jo];done))
  | (refine' J0;refine' J5)
 (refine' W0;refine' Pa;refine' KK;refine Xw rfl rfl ?_;refine' K5 (c:=aC (t:=e.yes) hx ⟨_,_,rfl,h1,h2⟩ hS);rintro v1 w1 ⟨rfl,hS⟩;refine' LZ;first|(refine' Qy)|(refine' QD)|(refine' Ad<;>intro hc));all_goals (refine' zn)
 all_goals
  first
  | (refine' JZ;refine' O9;first|(refine ⟨_,rfl,?_,hS.sp⟩;rw [if_pos Jo];done)|(refine ⟨_,rfl,?_,hS.sp⟩;rw [if_neg Jo,if_pos Jo];done)|(refine ⟨_,rfl,?_,hS.sp⟩;rw [if_neg k1,if_neg k2,if_pos Jo];done)|(refine ⟨_,rfl,?_,hS.sp⟩;(rw [if_neg k1,if_neg k2,if_neg Jo];first|rw [Py Ja]|(rw [Fy.1 (by assumption:¬LK x.blocks.length e.yes (decide (e.op≠3))≠0),Pe]));done))
  | (refine' J0;refine' J5)
 refine' Nr;refine' Pa;refine' KK;refine gE rfl rfl ?_;refine' K5 (c:=aC (t:=e.no) hx ⟨_,_,rfl,h3,h4⟩ hS);rintro v1 w1 ⟨rfl,hS⟩;refine' KN;(first|(refine ⟨_,rfl,?_,hS.sp⟩;rw [if_pos Jo];done)|(refine ⟨_,rfl,?_,hS.sp⟩;rw [if_neg Jo,if_pos Jo];done)|(refine ⟨_,rfl,?_,hS.sp⟩;rw [if_neg k1,if_neg k2,if_pos Jo];done)|(refine ⟨_,rfl,?_,hS.sp⟩;(rw [if_neg k1,if_neg k2,if_neg Jo];first|rw [Py Ja]|(rw [Fy.1 (by assumption:¬LK x.blocks.length e.yes (decide (e.op≠3))≠0),Pe]));done))
theorem cW (hm:K6.at cx cs m)(hx:Ky.at cx ds x)(hS:St cx w L):JW Tryz.prog Uz [.agg ⟨cs⟩, .agg ⟨ds⟩] w fun u w'=>u= .int .i64 (Qj m.funcs.length x)∧St cx w' L:=by
 obtain ⟨vf,rfl,hf⟩:=NV hm;obtain ⟨a0,n0,rfl⟩:=EU hf;have hx':=hx;obtain ⟨vr,va,rfl,hr,ha⟩:=Nh hx;refine Kd Kc Tryz.func204 ?_;refine' KO;intro p2 w1 hS;refine zb hS ?_;intro p3 w1 hS;refine' Kg;refine' Nr;refine Oy [_,_,_,_] ?_;refine zb hS ?_;intro p8 w1 hS;refine' LZ;refine zv hS ?_;refine' J9 (c:=aA (g:=(0,0)) (at':=0) hx' hf hS KG);rintro v1 w1 ⟨rfl,hS⟩;simp only [E8] at hS;rw [LW (Sc _ _)] at hS;simp only [Mw,PJ] at hS;refine' PW;refine' Uk;refine' KN;(((refine ⟨_,rfl,?_,hS.sp⟩;(rfl);done)))
theorem cX {x:Fun}(hx:Kj.at cx cs x)(he:K3.at cx ds e)(hS:St cx w L):JW Tryz.prog UA [.agg ⟨cs⟩, .agg ⟨ds⟩] w fun u w'=>u= .int .i64 (QU x.blocks.length e)∧St cx w' L:=by
 have hx':=hx;have he':=he;obtain ⟨vp,vr,vb,rfl,hp,hr,hb⟩:=Qw hx;obtain ⟨v1,v2,v3,v4,v5,rfl,h1,h2,h3,h4,h5⟩:=WR he;refine Kd Kc Tryz.func208 ?_;refine' KO;intro p2 w1 hS;refine zb hS ?_;intro p3 w1 hS;refine' Kg;refine' Ki;refine MA [_,_,_,_] ?_;refine zb hS ?_;intro p7 w1 hS;refine' LZ;refine zv hS ?_;refine zv hS ?_;refine' K5 (c:=aB (g:=(0,0)) (at':=0) hx' he' hS fd);rintro v1 w1 ⟨rfl,hS⟩;have hS:=hS.ns;rw [LW (Sc _ _)] at hS;simp only [Mw,PJ] at hS;refine' PW;refine' Uk;refine' KN;(((refine ⟨_,rfl,?_,hS.sp⟩;(rfl);done)))
theorem pn (hl:J7.sl cx v l)(hS:St cx w L)(hi:nth L i=some (Mw b vf g at')):
 JW Tryz.prog Q99 [.pointer (some ⟨b,0,none⟩),v, .int .i64 regs] w fun u w'=>u= .tuple #[]∧St cx w' (L.set i (Mw b vf (Kz g (KJ (Qm l regs) at')) at')):=by
 have hS:=hS.out hi;have hlen:=hl.len
 have e0:Kz g (KJ (Qm l regs) at')=Kz g (KJ (RF (if 8<l.length then 2 else 0) (P7 regs l)) at'):=by
  congr 2;unfold Qm;split
  · rw [Py Jd]
  · rw [Pe]
 rw [e0];refine Kd Kc Tryz.func105 ?_;refine zM [0,1,2] (fun A ρ' w'=>J2 ρ' A∧J2 ρ' []∧St cx w' (Mw b vf (Kz g (KJ (if 8<l.length then 2 else 0) at')) at'::L.eraseIdx i)) ?_ ?_
 · skip;(refine' Oj;refine' zL;first|(refine' QV)|(refine' KM)|(refine' Af<;>intro hc));all_goals (refine' K5 (c:=N6 Dg hS fd);rintro v1 w1 ⟨rfl,hS⟩;simp only [E8,Fg,if_true,EX,if_false] at hS;refine' zn;exact Bf)
 rintro ρ w1 ⟨hA,hρ,hS⟩;obtain ⟨ρ,rfl⟩:=J3 hA hρ;refine' KH;refine' PQ;refine zo [0,2,14,15] (fun A ρ' w'=>∃(j:Nat) (h:LV),J2 ρ' A∧J2 ρ' [(16, .int .i64 j)]∧(j≤l.length)∧(Kz g (KJ (RF (if 8<l.length then 2 else 0) (P7 regs l)) at')=Kz h (KJ (P7 regs (l.drop j)) at'))∧St cx w' (Mw b vf h at'::L.eraseIdx i)) (fun ρ' _=>(l.length - iv (ρ' 16)).toNat) ?_ ?_
 · exact ⟨0,_,zh,zh,Jo,by rw [FU,OK],hS.sp⟩
 rintro ρ w1 ⟨j,h,hA,hρ,hj,hd,hS⟩;obtain ⟨ρ,rfl⟩:=J3 hA hρ;refine' Mq;refine' Ab<;>intro hc
 · skip;refine' Rk;intro b1 o1 cs1 x1 hat1 hx1 he1;obtain ⟨vl1,rfl,hl1⟩:=Qc he1;refine' MI;intro p7 w1 hS;refine Ka hS ?_;intro w1 hS;have hS:=hS.ns;refine' Sp;refine' zm;refine' J9 (c:=tp Ja hS);rintro v1 w1 ⟨rfl,hS⟩;refine' Kg;refine' Oj;refine Xw rfl rfl ?_;refine' zm;refine' K5 (c:=N6 (by intro h;exact of_decide_eq_true h) hS fd);rintro v1 w1 ⟨rfl,hS⟩;simp only [E8,Fg,U3] at hS;refine' PX;(exact ⟨⟨j+1,_,zh,zh,Jo,by rw [hd,Q1 hx1,P7,←OK],hS.sp⟩,Qb Jo⟩)
 · skip;refine' K2;refine' Mo;refine ⟨_,rfl,rfl,?_⟩;rw [hd,EP Jo,P7,Mg,eZ rfl];exact F9 hS hi
def Kn (g:LV):Value:= .agg ⟨[.int .i64 g.1, .int .i64 g.2]⟩
theorem U5 {x:Fun}(hxf:m.funcs[f]?=some x)(hyb:x.blocks[b]?=some y)(hf0:f≤1000000)(hb0:b≤1000000)(hlc:y.code.length≤100000)(hm:K6.at cx cs m)(hS:St cx w L):
 JW Tryz.prog zO [.agg ⟨cs⟩, .int .i64 f, .int .i64 b] w fun u w'=>u=Kn (QH m.funcs.length f x b y)∧St cx w' L:=by
 ((have hm':=hm;obtain ⟨vf,rfl,hf⟩:=NV hm;have hflt:=(EJ.1 hxf).1;have hblt:=(EJ.1 hyb).1;refine Kd Kc Tryz.func68 ?_;refine' KO;intro p3 w1 hS;refine Qe hS ?_;intro p6 w1 hS;refine' OR;refine' N1;intro b1 o1 cs1 x1 hat1 hx1 he1;obtain ⟨vp1,vr1,vb1,rfl,hp1,hr1,hb1⟩:=Qw he1;refine' MI;intro p7 w1 hS;refine Ka hS ?_;intro w1 hS;have hS:=hS.ns;refine' zn;have e1:x=x1:=E4 (hxf.symm.trans hx1);subst e1;refine' Ul;intro b2 o2 cs2 x2 hat2 hx2 he2;obtain ⟨vp2,vc2,ve21,ve22,ve23,ve24,ve25,rfl,hp2,hc2,he21,he22,he23,he24,he25⟩:=QZ he2;refine' MI;intro p8 w1 hS;refine Ka hS ?_;intro w1 hS;have hS:=hS.ns;refine' zn;have e2:y=x2:=E4 (hyb.symm.trans hx2);subst e2;refine' MP;refine' KK;first|(refine' K0)|(refine' K1)|(refine' Ae<;>intro hc));all_goals (refine' LS;first|refine' J1|(refine' J4;(first|(refine' QV)|(refine' KM)|(refine' Af<;>intro hc)))));all_goals (refine' KU)
 all_goals
  first
  | (refine' JZ;all_goals (refine' KL;refine' J9 (c:=lq f b hf0 hb0 hS);rintro v1 w1 ⟨rfl,hS⟩;refine' J9 (c:=MD hS);rintro v1 w1 ⟨rfl,hS⟩;refine Ka hS ?_;intro w1 hS;have hS:=hS.ns;refine' L8;refine Lw vw (Q4 (n:=2) Jk Jk (hS.blkAt fd) Jr Jr) ?_);all_goals (refine ⟨_,rfl,?_,hS.sp⟩;rw [NX (c:=1) Dt Jd];rfl;done))
  | (refine' J0;refine' J5)
 (refine' MP;refine' KK;refine' J9 (c:=pk Ja hS);rintro v1 w1 ⟨rfl,hS⟩;refine' LZ;first|(refine' Qy)|(refine' QD)|(refine' Ad<;>intro hc));all_goals (refine' zn)
 all_goals
  first
  | (refine' JZ;refine' KL;refine' zm;refine' J9 (c:=lq f b hf0 hb0 hS);rintro v1 w1 ⟨rfl,hS⟩;refine' J9 (c:=MD hS);rintro v1 w1 ⟨rfl,hS⟩;refine Ka hS ?_;intro w1 hS;have hS:=hS.ns;refine' L8;refine Lw vw (Q4 (n:=2) Jk Jk (hS.blkAt fd) Jr Jr) ?_;first|(refine ⟨_,rfl,?_,hS.sp⟩;rw [NX (c:=1) Dt Jd];rfl;done)|(refine ⟨_,rfl,?_,hS.sp⟩;rw [NX (c:=Qm y.params y.regs) DD Ja];rfl;done))
  | (refine' J0;refine' J5)
 refine' M3;refine Pt hS 17 [1,2,3,6,7,8] (fun A LL ρ' w'=>∃(q:Bool),J2 ρ' A∧J2 ρ' [(65, .bool q)]∧(q=true↔(b=0∧(y.regs≠x.regs∨y.params≠x.params)))∧St cx w' (LL)) ?_ ?_
 · skip;(refine' zm;first|(refine' Ql)|(refine' Qn)|(refine' Ac<;>intro hc));all_goals (refine' RK;first|refine' J1|(refine' J4;(first|(refine' Qy)|(refine' QD)|(refine' Ad<;>intro hc))));all_goals (refine' X9;refine' MO;first|refine' J1|(refine' J4;refine' J9 (c:=fy hp2 hp1 hS);rintro v1 w1 ⟨rfl,hS⟩;(cases hdec:decide (y.params=x.params));have hg:=of_decide_eq_false hdec;rotate_left;have hg:=of_decide_eq_true hdec;all_goals skip));all_goals (refine' Oe;refine' RL;first|(exact Cu)|(exact CC)|(exact BA)|(exact CU))
 rintro ρ w1 ⟨q,hA,hρ,hq,hS⟩;obtain ⟨ρ,rfl⟩:=J3 hA hρ;refine' zn;cases q
 all_goals
  first
  | (refine' JZ;refine' KL;refine' J9 (c:=lq f b hf0 hb0 hS);rintro v1 w1 ⟨rfl,hS⟩;refine' J9 (c:=MD hS);rintro v1 w1 ⟨rfl,hS⟩;refine Ka hS ?_;intro w1 hS;have hS:=hS.ns;refine' L8;refine Lw vw (Q4 (n:=2) Jk Jk (hS.blkAt fd) Jr Jr) ?_;first|(refine ⟨_,rfl,?_,hS.sp⟩;rw [NX (c:=1) Dt Jd];rfl;done)|(refine ⟨_,rfl,?_,hS.sp⟩;rw [NX (c:=Qm y.params y.regs) DD Ja];rfl;done)|(refine ⟨_,rfl,?_,hS.sp⟩;rw [NX (c:=9) DF Jd];rfl;done))
  | (refine' J0;refine' J5)
 refine PM hS [1,2,3,6,7,8] (fun A LL ρ' w'=>J2 ρ' A∧J2 ρ' []∧(Qt x b y=0)∧St cx w' (LL)) ?_ ?_
 · skip
   (refine' Ni;refine' zL;first|(refine' QV)|(refine' KM)|(refine' Af<;>intro hc));all_goals (refine' zn)
   all_goals
    first
    | (refine' JZ;refine' KL;refine' J9 (c:=lq f b hf0 hb0 hS);rintro v1 w1 ⟨rfl,hS⟩;refine' J9 (c:=MD hS);rintro v1 w1 ⟨rfl,hS⟩;refine Ka hS ?_;intro w1 hS;have hS:=hS.ns;refine' L8;refine Lw vw (Q4 (n:=2) Jk Jk (hS.blkAt fd) Jr Jr) ?_;first|(refine ⟨_,rfl,?_,hS.sp⟩;rw [NX (c:=1) Dt Jd];rfl;done)|(refine ⟨_,rfl,?_,hS.sp⟩;rw [NX (c:=Qm y.params y.regs) DD Ja];rfl;done)|(refine ⟨_,rfl,?_,hS.sp⟩;rw [NX (c:=9) DF Jd];rfl;done)|(refine ⟨_,rfl,?_,hS.sp⟩;rw [NX (c:=2) DK Jd];rfl;done))
    | (refine' J0;refine' J5)
   (exact ⟨zh,zh,by unfold Qt;rw [if_neg Jo,if_neg Jo,if_neg (fun h=>Bool.noConfusion (hq.2 h)),if_neg Jo],hS.sp⟩)
 rintro ρ w1 ⟨hA,hρ,hh,hS⟩;obtain ⟨ρ,rfl⟩:=J3 hA hρ;refine' LU;refine LQ hS [1,2,3,6,7,8] (fun A LL ρ' w'=>∃(j:Nat),J2 ρ' A∧J2 ρ' [(10, .int .i64 j)]∧(j≤y.code.length)∧(NW m.funcs.length f b 0 y.code=NW m.funcs.length f b j (y.code.drop j))∧St cx w' (LL)) (fun ρ' _=>(y.code.length - iv (ρ' 10)).toNat) ?_ ?_
 · exact AF
 rintro ρ w1 ⟨j,hA,hρ,hj,hd,hS⟩;obtain ⟨ρ,rfl⟩:=J3 hA hρ;refine' Rh;refine' Ab<;>intro hc
 · skip
   (refine' PT;refine zD (ci 8 [6,7]) ?_;have hS:=hS.drew;refine zv hS ?_;refine' KK;refine' N1;intro b3 o3 cs3 x3 hat3 hx3 he3;obtain ⟨vr3,va3,rfl,hr3,ha3⟩:=Nh he3;refine' MZ;refine' J9 (c:=U2 hm' Ja hS);rintro v1 w1 ⟨rfl,hS⟩;refine' LZ;first|(refine' Qy)|(refine' QD)|(refine' Ad<;>intro hc));all_goals (refine' zn)
   all_goals
    first
    | (refine' JZ;refine' KL;refine' MQ;refine' K5 (c:=pj f b j hf0 hb0 Jo hS);rintro v1 w1 ⟨rfl,hS⟩;refine' J9 (c:=MD hS);rintro v1 w1 ⟨rfl,hS⟩;refine Ka hS ?_;intro w1 hS;have hS:=hS.ns;refine' L8;refine Lw vw (Q4 (n:=2) Jk Jk (hS.blkAt fd) Jr Jr) ?_;first|(refine ⟨_,rfl,?_,hS.sp⟩;rw [NX (c:=1) Dt Jd];rfl;done)|(refine ⟨_,rfl,?_,hS.sp⟩;rw [NX (c:=Qm y.params y.regs) DD Ja];rfl;done)|(refine ⟨_,rfl,?_,hS.sp⟩;rw [NX (c:=9) DF Jd];rfl;done)|(refine ⟨_,rfl,?_,hS.sp⟩;rw [NX (c:=2) DK Jd];rfl;done)|(refine ⟨_,rfl,?_,hS.sp⟩;rw [nm (F:=(Qj m.funcs.length x3,OL f b j)) hh DZ Ja];rfl;done))
    | (refine' J0;refine' J5)
   refine' LH;(exact ⟨⟨j+1,zh,zh,Jo,by rw [hd,Q1 hx3,yA Jo],hS.sp⟩,Qb Jo⟩)
 · skip
   (refine' K2;refine' W0;refine' Pa;refine' J9 (c:=U4 (e:=y.fin) he1 ⟨_,_,_,_,_,rfl,he21,he22,he23,he24,he25⟩ hS);rintro v1 w1 ⟨rfl,hS⟩;refine' LZ;first|(refine' Qy)|(refine' QD)|(refine' Ad<;>intro hc));all_goals (refine' zn)
   all_goals
    first
    | (refine' JZ;refine' KL;refine' zm;refine' J9 (c:=ph f b hf0 hb0 hS);rintro v1 w1 ⟨rfl,hS⟩;refine' J9 (c:=MD hS);rintro v1 w1 ⟨rfl,hS⟩;refine Ka hS ?_;intro w1 hS;have hS:=hS.ns;refine' L8;refine Lw vw (Q4 (n:=2) Jk Jk (hS.blkAt fd) Jr Jr) ?_;first|(refine ⟨_,rfl,?_,hS.sp⟩;rw [NX (c:=1) Dt Jd];rfl;done)|(refine ⟨_,rfl,?_,hS.sp⟩;rw [NX (c:=Qm y.params y.regs) DD Ja];rfl;done)|(refine ⟨_,rfl,?_,hS.sp⟩;rw [NX (c:=9) DF Jd];rfl;done)|(refine ⟨_,rfl,?_,hS.sp⟩;rw [NX (c:=2) DK Jd];rfl;done)|(refine ⟨_,rfl,?_,hS.sp⟩;rw [nm (F:=(Qj m.funcs.length x3,OL f b j)) hh DZ Ja];rfl;done)|(refine ⟨_,rfl,?_,hS.sp⟩;(rw [TV hh EG];first|(rw [PI Ja];rfl)|(rw [show QU x.blocks.length y.fin=0 by omega,Mg];rfl));done))
    | (refine' J0;refine' J5)
   refine' Ki;refine MA [_,_] ?_;refine Ka hS ?_;intro w1 hS;have hS:=hS.ns;refine' L8;refine Lw vw (Q4 (n:=2) Jk Jk (hS.blkAt fd) Jr Jr) ?_;first|(refine ⟨_,rfl,?_,hS.sp⟩;rw [NX (c:=1) Dt Jd];rfl;done)|(refine ⟨_,rfl,?_,hS.sp⟩;rw [NX (c:=Qm y.params y.regs) DD Ja];rfl;done)|(refine ⟨_,rfl,?_,hS.sp⟩;rw [NX (c:=9) DF Jd];rfl;done)|(refine ⟨_,rfl,?_,hS.sp⟩;rw [NX (c:=2) DK Jd];rfl;done)|(refine ⟨_,rfl,?_,hS.sp⟩;rw [nm (F:=(Qj m.funcs.length x3,OL f b j)) hh DZ Ja];rfl;done)|(refine ⟨_,rfl,?_,hS.sp⟩;(rw [TV hh EG];first|(rw [PI Ja];rfl)|(rw [show QU x.blocks.length y.fin=0 by omega,Mg];rfl));done)
theorem U6 (hsh:m.Short)(hm:K6.at cx cs m)(hS:St cx w L):
 JW Tryz.prog zs [.agg ⟨cs⟩] w fun u w'=>u=Kn m.fault∧St cx w' L:=by
 have hm':=hm;obtain ⟨vf,rfl,hf⟩:=NV hm;have hlf:=hf.len;have hsf:=hsh.2;unfold Module.fault;refine Kd Kc Tryz.func21 ?_;refine' KO;intro p1 w1 hS;refine Qe hS ?_;(intro p2 w1 hS);refine' zn;refine PM hS [1,2] (fun A LL ρ' w'=>J2 ρ' A∧J2 ρ' []∧(1≤m.funcs.length∧m.funcs.length≤8)∧St cx w' (LL)) ?_ ?_
 · skip
   ((refine' Ni;refine' zL;first|(refine' K0)|(refine' K1)|(refine' Ae<;>intro hc));all_goals (refine' Pv;first|refine' J1|(refine' J4;(first|(refine' QV)|(refine' KM)|(refine' Af<;>intro hc)))));all_goals (refine' KU)
   all_goals
    first
    | (refine' JZ;all_goals (refine' Ki;refine' J9 (c:=MD hS);rintro v1 w1 ⟨rfl,hS⟩;refine Ka hS ?_;intro w1 hS;have hS:=hS.ns;refine' L8;refine Lw vw (Q4 (n:=2) Jk Jk (hS.blkAt fd) Jr Jr) ?_);all_goals (refine ⟨_,rfl,?_,hS.sp⟩;rw [if_pos Jo,Oa Dp,PI Jd];rfl;done))
    | (refine' J0;refine' J5)
   ((exact ⟨zh,zh,Jo,hS.sp⟩))
 rintro ρ w1 ⟨hA,hρ,hl8,hS⟩;obtain ⟨ρ,rfl⟩:=J3 hA hρ;refine' LU;refine LQ hS [1,2] (fun A LL ρ' w'=>∃(f:Nat),J2 ρ' A∧J2 ρ' [(3, .int .i64 f)]∧(f≤m.funcs.length)∧(ON m.funcs.length 0 m.funcs=ON m.funcs.length f (m.funcs.drop f))∧St cx w' (LL)) (fun ρ' _=>(m.funcs.length - iv (ρ' 3)).toNat) ?_ ?_
 · exact AF
 rintro ρ w1 ⟨f,hA,hρ,hj,hd,hS⟩;obtain ⟨ρ,rfl⟩:=J3 hA hρ;refine' Rh;refine' Ab<;>intro hc
 · skip
   ((refine' Lj;refine' Ul;intro b1 o1 cs1 x1 hat1 hx1 he1;obtain ⟨vp1,vr1,vb1,rfl,hp1,hr1,hb1⟩:=Qw he1;refine' MI;intro p4 w1 hS;refine Ka hS ?_;intro w1 hS;have hS:=hS.ns;refine' zn;have hsx:=hsf x1 (EI hx1);have hlb:=hb1.len;have hlr:=hr1.len;refine' MP;first|(refine' K0)|(refine' K1)|(refine' Ae<;>intro hc));all_goals (refine' LS;first|refine' J1|(refine' J4;(first|(refine' QV)|(refine' KM)|(refine' Af<;>intro hc)))));all_goals (refine' KU)
   all_goals
    first
    | (refine' JZ;all_goals (refine' KH;refine' Kv (c:=iW f Jo hS);rintro v1 w1 ⟨rfl,hS⟩;refine' J9 (c:=MD hS);rintro v1 w1 ⟨rfl,hS⟩;refine Ka hS ?_;intro w1 hS;have hS:=hS.ns;refine' L8;refine Lw vw (Q4 (n:=2) Jk Jk (hS.blkAt fd) Jr Jr) ?_);all_goals (first|(refine ⟨_,rfl,?_,hS.sp⟩;rw [if_pos Jo,Oa Dp,PI Jd];rfl;done)|(refine ⟨_,rfl,?_,hS.sp⟩;rw [if_neg Jo,Mg,LW Qo,hd,Q1 hx1];rw [Qf Dq,No (c:=1) Dr Jd];rfl;done)))
    | (refine' J0;refine' J5)
   (refine' MP;refine' KK;refine' J9 (c:=pk hp1 hS);rintro v1 w1 ⟨rfl,hS⟩;refine' LZ;first|(refine' Qy)|(refine' QD)|(refine' Ad<;>intro hc));all_goals (refine' zn)
   all_goals
    first
    | (refine' JZ;refine' KL;refine' Kv (c:=iW f Jo hS);rintro v1 w1 ⟨rfl,hS⟩;refine' J9 (c:=MD hS);rintro v1 w1 ⟨rfl,hS⟩;refine Ka hS ?_;intro w1 hS;have hS:=hS.ns;refine' L8;refine Lw vw (Q4 (n:=2) Jk Jk (hS.blkAt fd) Jr Jr) ?_;first|(refine ⟨_,rfl,?_,hS.sp⟩;rw [if_pos Jo,Oa Dp,PI Jd];rfl;done)|(refine ⟨_,rfl,?_,hS.sp⟩;rw [if_neg Jo,Mg,LW Qo,hd,Q1 hx1];rw [Qf Dq,No (c:=1) Dr Jd];rfl;done)|(refine ⟨_,rfl,?_,hS.sp⟩;have e:=No (n:=m.funcs.length) (f:=f) (x:=x1) (c:=Qm x1.params x1.regs) Dv Ja;rw [if_neg Jo,Mg,LW Qo,hd,Q1 hx1,Qf Dm,e];rfl;done))
    | (refine' J0;refine' J5)
   (refine' MP;refine' KK;refine' J9 (c:=pk hr1 hS);rintro v1 w1 ⟨rfl,hS⟩;refine' LZ;first|(refine' Qy)|(refine' QD)|(refine' Ad<;>intro hc));all_goals (refine' zn)
   all_goals
    first
    | (refine' JZ;refine' KL;refine' Kv (c:=iW f Jo hS);rintro v1 w1 ⟨rfl,hS⟩;refine' J9 (c:=MD hS);rintro v1 w1 ⟨rfl,hS⟩;refine Ka hS ?_;intro w1 hS;have hS:=hS.ns;refine' L8;refine Lw vw (Q4 (n:=2) Jk Jk (hS.blkAt fd) Jr Jr) ?_;first|(refine ⟨_,rfl,?_,hS.sp⟩;rw [if_pos Jo,Oa Dp,PI Jd];rfl;done)|(refine ⟨_,rfl,?_,hS.sp⟩;rw [if_neg Jo,Mg,LW Qo,hd,Q1 hx1];rw [Qf Dq,No (c:=1) Dr Jd];rfl;done)|(refine ⟨_,rfl,?_,hS.sp⟩;have e:=No (n:=m.funcs.length) (f:=f) (x:=x1) (c:=Qm x1.params x1.regs) Dv Ja;rw [if_neg Jo,Mg,LW Qo,hd,Q1 hx1,Qf Dm,e];rfl;done)|(refine ⟨_,rfl,?_,hS.sp⟩;have e:=No (n:=m.funcs.length) (f:=f) (x:=x1) (c:=Qm x1.results x1.regs) DH Ja;rw [if_neg Jo,Mg,LW Qo,hd,Q1 hx1,Qf Dm,e];rfl;done))
    | (refine' J0;refine' J5)
   refine PM hS [1,2,3,4] (fun A LL ρ' w'=>J2 ρ' A∧J2 ρ' []∧(¬(x1.regs<0∨6<x1.regs))∧(¬Qm x1.params x1.regs≠0)∧(¬Qm x1.results x1.regs≠0)∧(¬(x1.blocks.length<1∨12<x1.blocks.length))∧St cx w' (LL)) ?_ ?_
   · skip
     ((refine' Ni;refine' zL;first|(refine' K0)|(refine' K1)|(refine' Ae<;>intro hc));all_goals (refine' Pv;first|refine' J1|(refine' J4;(first|(refine' QV)|(refine' KM)|(refine' Af<;>intro hc)))));all_goals (refine' KU)
     all_goals
      first
      | (refine' JZ;all_goals (refine' KH;refine' Kv (c:=iW f Jo hS);rintro v1 w1 ⟨rfl,hS⟩;refine' J9 (c:=MD hS);rintro v1 w1 ⟨rfl,hS⟩;refine Ka hS ?_;intro w1 hS;have hS:=hS.ns;refine' L8;refine Lw vw (Q4 (n:=2) Jk Jk (hS.blkAt fd) Jr Jr) ?_);all_goals (first|(refine ⟨_,rfl,?_,hS.sp⟩;rw [if_pos Jo,Oa Dp,PI Jd];rfl;done)|(refine ⟨_,rfl,?_,hS.sp⟩;rw [if_neg Jo,Mg,LW Qo,hd,Q1 hx1];rw [Qf Dq,No (c:=1) Dr Jd];rfl;done)|(refine ⟨_,rfl,?_,hS.sp⟩;have e:=No (n:=m.funcs.length) (f:=f) (x:=x1) (c:=Qm x1.params x1.regs) Dv Ja;rw [if_neg Jo,Mg,LW Qo,hd,Q1 hx1,Qf Dm,e];rfl;done)|(refine ⟨_,rfl,?_,hS.sp⟩;have e:=No (n:=m.funcs.length) (f:=f) (x:=x1) (c:=Qm x1.results x1.regs) DH Ja;rw [if_neg Jo,Mg,LW Qo,hd,Q1 hx1,Qf Dm,e];rfl;done)|(refine ⟨_,rfl,?_,hS.sp⟩;have e:=No (n:=m.funcs.length) (f:=f) (x:=x1) (c:=2) DS Jd;rw [if_neg Jo,Mg,LW Qo,hd,Q1 hx1,Qf Ds,e];rfl;done)))
      | (refine' J0;refine' J5)
     ((exact ⟨zh,zh,Jo,by assumption,by assumption,Jo,hS.sp⟩))
   rintro ρ w1 ⟨hA,hρ,k1,k2,k3,k4,hS⟩;obtain ⟨ρ,rfl⟩:=J3 hA hρ;refine PM hS [1,2,3,4] (fun A LL ρ' w'=>J2 ρ' A∧J2 ρ' []∧(QF f x1=0)∧St cx w' (LL)) ?_ ?_
   · skip
     (refine' KH;first|(refine' Ql)|(refine' Qn)|(refine' Ac<;>intro hc));all_goals (refine' zn)
     all_goals
      first
      | (refine' JZ
         refine' Ki;refine Pt hS 9 [1,2,3,4] (fun A LL ρ' w'=>∃(q:Bool),J2 ρ' A∧J2 ρ' [(90, .bool q)]∧(q=true↔(x1.regs=0∧x1.params.length=0))∧St cx w' (LL)) ?_ ?_
         · skip;(refine' KK;first|(refine' Ql)|(refine' Qn)|(refine' Ac<;>intro hc));all_goals (refine' Pv;first|refine' J1|(refine' J4;(first|(refine' Ql)|(refine' Qn)|(refine' Ac<;>intro hc))));all_goals (refine' kP;first|(exact ⟨_,zh,zh,by exact ⟨fun _=>⟨Jo,Jo⟩,fun _=>rfl⟩,hS.sp⟩)|(exact ⟨_,zh,zh,by exact ⟨fun h=>Bool.noConfusion h,fun h=>by omega⟩,hS.sp⟩))
         rintro ρ w1 ⟨q,hA,hρ,hq,hS⟩;obtain ⟨ρ,rfl⟩:=J3 hA hρ;refine' Kg;refine' LU;refine LQ hS [1,2,3,4] (fun A LL ρ' w'=>∃(i:Nat) (q:Bool),J2 ρ' A∧J2 ρ' [(7, .bool q),(8, .int .i64 i)]∧(i≤x1.results.length)∧(q=true↔(x1.regs=0∧x1.params.length=0∧∀t∈x1.results.take i,t.kind=1))∧(f=0)∧St cx w' (LL)) (fun ρ' _=>(x1.results.length - iv (ρ' 8)).toNat) ?_ ?_
         · exact ⟨0,q,zh,zh,Jo,by rw [hq];simp,Jo,hS.sp⟩
         rintro ρ w1 ⟨i,q,hA,hρ,hi,hq2,hf0,hS⟩;obtain ⟨ρ,rfl⟩:=J3 hA hρ;refine' Rh;refine' Ab<;>intro hc
         · skip;refine' Lj;cases q;all_goals (refine' LF;refine' LS;refine' Mi;(first|refine' J1|(refine' J4;refine' zi;intro b2 o2 cs2 x2 hat2 hx2 he2;obtain ⟨vl2,rfl,hl2⟩:=Qc he2));refine' Nt;refine' ck;first|refine' J1|(refine' J4;(first|(refine' Ql)|(refine' Qn)|(refine' Ac<;>intro hc))));all_goals (refine' Ms;refine' Um;first|(exact ⟨⟨i+1,false,zh,zh,Jo,by exact ⟨fun h=>Bool.noConfusion h,fun h=>hq2.2 ⟨h.1,h.2.1,fun t ht=>h.2.2 t (GW (i:=i) (by rw [List.take_take,Nat.min_eq_left Jo];exact ht))⟩⟩,hf0,hS.sp⟩,Qb Jo⟩)|(exact ⟨⟨i+1,true,zh,zh,Jo,by exact ⟨fun _=>⟨(hq2.1 rfl).1,(hq2.1 rfl).2.1,bH (hq2.1 rfl).2.2 hx2 Ja⟩,fun _=>rfl⟩,hf0,hS.sp⟩,Qb Jo⟩)|(exact ⟨⟨i+1,false,zh,zh,Jo,by exact ⟨fun h=>Bool.noConfusion h,fun h=>absurd (h.2.2 x2 (by rw [OI hx2];simp)) Ja⟩,hf0,hS.sp⟩,Qb Jo⟩))
         · skip
           refine' K2;refine Qu ?_;cases q;all_goals (refine' LF;refine' Oh)
           all_goals
            first
            | (refine' JZ;refine' KH;refine' Kv (c:=iW f Jo hS);rintro v1 w1 ⟨rfl,hS⟩;refine' J9 (c:=MD hS);rintro v1 w1 ⟨rfl,hS⟩;refine Ka hS ?_;intro w1 hS;have hS:=hS.ns;refine' L8;refine Lw vw (Q4 (n:=2) Jk Jk (hS.blkAt fd) Jr Jr) ?_;first|(refine ⟨_,rfl,?_,hS.sp⟩;rw [if_pos Jo,Oa Dp,PI Jd];rfl;done)|(refine ⟨_,rfl,?_,hS.sp⟩;rw [if_neg Jo,Mg,LW Qo,hd,Q1 hx1];rw [Qf Dq,No (c:=1) Dr Jd];rfl;done)|(refine ⟨_,rfl,?_,hS.sp⟩;have e:=No (n:=m.funcs.length) (f:=f) (x:=x1) (c:=Qm x1.params x1.regs) Dv Ja;rw [if_neg Jo,Mg,LW Qo,hd,Q1 hx1,Qf Dm,e];rfl;done)|(refine ⟨_,rfl,?_,hS.sp⟩;have e:=No (n:=m.funcs.length) (f:=f) (x:=x1) (c:=Qm x1.results x1.regs) DH Ja;rw [if_neg Jo,Mg,LW Qo,hd,Q1 hx1,Qf Dm,e];rfl;done)|(refine ⟨_,rfl,?_,hS.sp⟩;have e:=No (n:=m.funcs.length) (f:=f) (x:=x1) (c:=2) DS Jd;rw [if_neg Jo,Mg,LW Qo,hd,Q1 hx1,Qf Ds,e];rfl;done)|(refine ⟨_,rfl,?_,hS.sp⟩;have e:=No (n:=m.funcs.length) (f:=f) (x:=x1) (c:=18) D4 Jd;rw [if_neg Jo,Mg,LW Qo,hd,Q1 hx1,Qf Ds,e];rfl;done))
            | (refine' J0;refine' J5)
           first|(exact CZ)|(exact ⟨zh,zh,by unfold QF;rw [if_neg k1,if_neg k2,if_neg k3,if_neg k4,if_neg];rintro ⟨_,h⟩;obtain ⟨a1,a2,a3⟩:=hq2.1 rfl;rw [E1 Jo] at a3;rcases h with h|h|⟨t,ht,hk⟩<;>first|(exfalso;omega)|exact hk (a3 t ht),hS.sp⟩))
      | (refine' J0;refine' J5;(exact CZ))
   rintro ρ w1 ⟨hA,hρ,hh,hS⟩;obtain ⟨ρ,rfl⟩:=J3 hA hρ;refine' Ki;refine' NY;refine LQ hS [1,2,3,4] (fun A LL ρ' w'=>∃(b:Nat),J2 ρ' A∧J2 ρ' [(9, .int .i64 b)]∧(b≤x1.blocks.length)∧(QP m.funcs.length f x1 0 x1.blocks=QP m.funcs.length f x1 b (x1.blocks.drop b))∧St cx w' (LL)) (fun ρ' _=>(x1.blocks.length - iv (ρ' 9)).toNat) ?_ ?_
   · exact AF
   rintro ρ w1 ⟨b,hA,hρ,hb,hd2,hS⟩;obtain ⟨ρ,rfl⟩:=J3 hA hρ;refine' Rh;refine' Ab<;>intro hc
   · skip
     (refine' PT;obtain ⟨y,hy⟩:∃y,x1.blocks[b]?=some y:=⟨_,EH Jo⟩;have hsy:=hsx.2.2.2 y (EI hy);refine' Lm;refine zv hS ?_;refine' MQ;refine' K5 (c:=U5 hx1 hy Jo Jo hsy.2.1 hm' hS);rintro v1 w1 ⟨rfl,hS⟩;unfold Kn;refine Qe hS ?_;intro p10 w1 hS;refine Ka hS ?_;intro w1 hS;have hS:=hS.ns;refine' OR;first|(refine' Qy)|(refine' QD)|(refine' Ad<;>intro hc));all_goals (refine' zn)
     all_goals
      first
      | (refine' JZ;refine' Nr;refine Ka hS ?_;intro w1 hS;have hS:=hS.ns;refine' L8;refine Lw vw (Q4 (n:=2) Jk Jk (hS.blkAt fd) Jr Jr) ?_;first|(refine ⟨_,rfl,?_,hS.sp⟩;rw [if_pos Jo,Oa Dp,PI Jd];rfl;done)|(refine ⟨_,rfl,?_,hS.sp⟩;rw [if_neg Jo,Mg,LW Qo,hd,Q1 hx1];rw [Qf Dq,No (c:=1) Dr Jd];rfl;done)|(refine ⟨_,rfl,?_,hS.sp⟩;have e:=No (n:=m.funcs.length) (f:=f) (x:=x1) (c:=Qm x1.params x1.regs) Dv Ja;rw [if_neg Jo,Mg,LW Qo,hd,Q1 hx1,Qf Dm,e];rfl;done)|(refine ⟨_,rfl,?_,hS.sp⟩;have e:=No (n:=m.funcs.length) (f:=f) (x:=x1) (c:=Qm x1.results x1.regs) DH Ja;rw [if_neg Jo,Mg,LW Qo,hd,Q1 hx1,Qf Dm,e];rfl;done)|(refine ⟨_,rfl,?_,hS.sp⟩;have e:=No (n:=m.funcs.length) (f:=f) (x:=x1) (c:=2) DS Jd;rw [if_neg Jo,Mg,LW Qo,hd,Q1 hx1,Qf Ds,e];rfl;done)|(refine ⟨_,rfl,?_,hS.sp⟩;have e:=No (n:=m.funcs.length) (f:=f) (x:=x1) (c:=18) D4 Jd;rw [if_neg Jo,Mg,LW Qo,hd,Q1 hx1,Qf Ds,e];rfl;done)|(refine ⟨_,rfl,?_,hS.sp⟩;have e:(QH m.funcs.length f x1 b y).1≠0:=(by assumption);have e2:OM m.funcs.length f x1=QH m.funcs.length f x1 b y:=(by rw [np hh,hd2,Q1 hy,sf e]);rw [if_neg Jo,Mg,LW Qo,hd,Q1 hx1,Qf (by rw [e2];exact e),e2];rfl;done))
      | (refine' J0;refine' J5)
     refine' LH;(exact ⟨⟨b+1,zh,zh,Jo,by rw [hd2,Q1 hy,yC Jo],hS.sp⟩,Qb Jo⟩)
   · skip;refine' K2;refine' LH;(exact ⟨⟨f+1,zh,zh,Jo,by rw [hd,Q1 hx1,yE];rw [np hh,hd2,EP Jo];rfl,hS.sp⟩,Qb Jo⟩)
 · skip;refine' K2;refine' Ki;refine MA [_,_] ?_;refine Ka hS ?_;intro w1 hS;have hS:=hS.ns;refine' L8;refine Lw vw (Q4 (n:=2) Jk Jk (hS.blkAt fd) Jr Jr) ?_;first|(refine ⟨_,rfl,?_,hS.sp⟩;rw [if_pos Jo,Oa Dp,PI Jd];rfl;done)|(refine ⟨_,rfl,?_,hS.sp⟩;rw [if_neg Jo,Mg,LW Qo,hd,Q1 hx1];rw [Qf Dq,No (c:=1) Dr Jd];rfl;done)|(refine ⟨_,rfl,?_,hS.sp⟩;have e:=No (n:=m.funcs.length) (f:=f) (x:=x1) (c:=Qm x1.params x1.regs) Dv Ja;rw [if_neg Jo,Mg,LW Qo,hd,Q1 hx1,Qf Dm,e];rfl;done)|(refine ⟨_,rfl,?_,hS.sp⟩;have e:=No (n:=m.funcs.length) (f:=f) (x:=x1) (c:=Qm x1.results x1.regs) DH Ja;rw [if_neg Jo,Mg,LW Qo,hd,Q1 hx1,Qf Dm,e];rfl;done)|(refine ⟨_,rfl,?_,hS.sp⟩;have e:=No (n:=m.funcs.length) (f:=f) (x:=x1) (c:=2) DS Jd;rw [if_neg Jo,Mg,LW Qo,hd,Q1 hx1,Qf Ds,e];rfl;done)|(refine ⟨_,rfl,?_,hS.sp⟩;have e:=No (n:=m.funcs.length) (f:=f) (x:=x1) (c:=18) D4 Jd;rw [if_neg Jo,Mg,LW Qo,hd,Q1 hx1,Qf Ds,e];rfl;done)|(refine ⟨_,rfl,?_,hS.sp⟩;have e:(QH m.funcs.length f x1 b y).1≠0:=(by assumption);have e2:OM m.funcs.length f x1=QH m.funcs.length f x1 b y:=(by rw [np hh,hd2,Q1 hy,sf e]);rw [if_neg Jo,Mg,LW Qo,hd,Q1 hx1,Qf (by rw [e2];exact e),e2];rfl;done)|(refine ⟨_,rfl,?_,hS.sp⟩;rw [if_neg Jo,Mg,LW Qo,hd,EP (l:=m.funcs) Jo,ON];rfl;done)
theorem U7 {t:Ty}(ht:J7.at cx cs t)(hS:St cx w L):JW Tryz.prog oC [.agg ⟨cs⟩] w fun u w'=>u= .bool (decide (t.kind≠1))∧St cx w' L:=by
 obtain ⟨v,rfl,hl⟩:=Qc ht;refine Kd Kc Tryz.func107 ?_;refine' KO;intro p1 w1 hS;refine' W2;refine Xw rfl rfl ?_;refine' KN;(((refine ⟨_,rfl,?_,hS.sp⟩;(rfl);done)))
theorem Yz (hl:J7.sl cx v l)(hS:St cx w L):JW Tryz.prog Q2j [v, .func (.func oC) #[] #[]] w fun u w'=>∃q,u= .bool q∧(q=true↔∃t∈l,t.kind≠1)∧St cx w' L:=by
 have hlen:=hl.len
 have hidx:∀{w:World}{L:List Res},St cx w L→JW Tryz.prog Q2z [v, .func (.func oC) #[] #[]] w fun u w'=>∃r:Int,u= .int .i64 r∧(0≤r↔∃t∈l,t.kind≠1)∧St cx w' L:=by
  intro w L hS;refine Kd Kc Tryz.func160 ?_;refine' NN;refine' PQ;refine LQ hS [0,1,7] (fun A LL ρ' w'=>∃(j:Nat),J2 ρ' A∧J2 ρ' [(8, .int .i64 j)]∧(j≤l.length)∧(∀t∈l.take j,t.kind=1)∧St cx w' (LL)) (fun ρ' _=>(l.length - iv (ρ' 8)).toNat) ?_ ?_
  · exact AF
  rintro ρ w1 ⟨j,hA,hρ,hj,hd,hS⟩;obtain ⟨ρ,rfl⟩:=J3 hA hρ;refine' Mq;refine' Ab<;>intro hc
  · skip
    (refine' Lj;refine' Nd;refine' KL;refine' N1;intro b1 o1 cs1 x1 hat1 hx1 he1;obtain ⟨vl1,rfl,hl1⟩:=Qc he1;refine' MZ;refine r9 rfl Jk Jr (U7 he1 hS) ?_;rintro v1 w1 ⟨rfl,hS⟩;(cases hdec:decide (x1.kind≠1));have hg:=of_decide_eq_false hdec;rotate_left;have hg:=of_decide_eq_true hdec;all_goals skip);all_goals (refine' zn)
    all_goals
     first
     | (refine' JZ;refine' O9;(exact Cl))
     | (refine' J0;refine' J5)
    refine' Og;(exact ⟨⟨j+1,zh,zh,Jo,bH hd hx1 (Fy.1 hg),hS.sp⟩,Qb Jo⟩)
  · skip;refine' OA;first|(exact Cl)|(exact ⟨_,rfl, -1,rfl,⟨fun h=>by omega,fun ⟨t,ht,hk⟩=>absurd (gP hd Jo t ht) hk⟩,hS.sp⟩)
 (refine Kd Kc Tryz.func106 ?_;refine' LG;refine' KL;refine' J9 (c:=hidx hS);rintro v1 w1 ⟨r,rfl,hr,hS⟩;first|(refine' Ml)|(refine' Mz)|(refine' Ag<;>intro hc));all_goals (refine' KN;first|(exact ⟨_,rfl,_,rfl,⟨fun _=>hr.1 Jo,fun _=>rfl⟩,hS.sp⟩)|(exact ⟨_,rfl,_,rfl,⟨fun h=>Bool.noConfusion h,fun h=>by have:=hr.2 h;omega⟩,hS.sp⟩))
theorem QiU {x:Fun}{q:Bool}(hq:q=true↔(b=0∧(y.regs≠x.regs∨y.params≠x.params))):
 Kz (Kz (Kz (Kz g (KJ (if y.regs<x.regs∨16<y.regs then 1 else 0) a)) (KJ (Qm y.params y.regs) a)) (KJ (if q=true then 9 else 0) a)) (KJ (if 40<y.code.length then 2 else 0) a)=Kz g (KJ (Qt x b y) a):=by
 rw [OK,OK,OK];congr 2;unfold Qt;by_cases h0:y.regs<x.regs∨16<y.regs
 · rw [if_pos h0,if_pos h0];simp only [Py (show (1:Int)≠0 by decide)]
 · rw [if_neg h0,if_neg h0,Pe]
   by_cases h:Qm y.params y.regs≠0
   · rw [if_pos h];simp only [Py h]
   · rw [if_neg h,Fy.1 h,Pe]
     by_cases hb:b=0∧(y.regs≠x.regs∨y.params≠x.params)
     · rw [if_pos hb,if_pos (hq.2 hb)];simp only [Py (show (9:Int)≠0 by decide)]
     · rw [if_neg hb,if_neg (fun h=>hb (hq.1 h)),Pe]
theorem U8 {fs:List Fun}{x:Fun}(hxf:fs[f]?=some x)(hyb:x.blocks[b]?=some y)(hf0:f≤1000000)(hb0:b≤1000000)(hlc:y.code.length≤100000)(hf:Kj.sl cx vf fs)(hS:St cx w L)(hi:nth L i=some (Mw p vf g a)):
 JW Tryz.prog Q7L [.pointer (some ⟨p,0,none⟩), .int .i64 f, .int .i64 b] w fun u w'=>u= .tuple #[]∧∃a',St cx w' (L.set i (Mw p vf (Kz g (QH fs.length f x b y)) a')):=by
 have hflt:=(EJ.1 hxf).1;have hblt:=(EJ.1 hyb).1;have hS:=hS.out hi;refine Kd Kc Tryz.func108 ?_;refine' KH;refine' Mm;refine' KK;refine' N1;intro b1 o1 cs1 x1 hat1 hx1 he1;((obtain ⟨vp1,vr1,vb1,rfl,hp1,hr1,hb1⟩:=Qw he1));refine' MI;(intro p6 w1 hS);((refine Ka hS ?_;intro w1 hS;have hS:=hS.ns));refine' zn;have e1:x=x1:=E4 (hxf.symm.trans hx1);subst e1;refine' Ul;intro b2 o2 cs2 x2 hat2 hx2 he2;((obtain ⟨vp2,vc2,ve21,ve22,ve23,ve24,ve25,rfl,hp2,hc2,he21,he22,he23,he24,he25⟩:=QZ he2));refine' MI;(intro p7 w1 hS);((refine Ka hS ?_;intro w1 hS;have hS:=hS.ns));refine' zn;have e2:y=x2:=E4 (hyb.symm.trans hx2);subst e2;refine zM [0,1,2,6,7] (fun A ρ' w'=>J2 ρ' A∧J2 ρ' []∧St cx w' (blk p7 92 [.int .i64 y.regs,vp2,vc2, .int .i64 y.fin.op, .int .i64 y.fin.a, .int .i64 y.fin.yes.block,ve21,ve22, .int .i64 y.fin.no.block,ve23,ve24,ve25]::blk p6 95 [.int .i64 x.regs,vp1,vr1,vb1]::Mw p vf g (Sd f b)::L.eraseIdx i)) ?_ ?_
 · skip;refine' SK;refine' J9 (c:=QfH f b hf0 hb0 hS);rintro v1 w1 ⟨rfl,hS⟩;refine' Mm;refine LP hS ?_;intro w1 hS;have hS:=hS.ns;refine' zn;(exact ⟨zh,zh,hS.sp⟩)
 rintro ρ w1 ⟨hA,hρ,hS⟩;obtain ⟨ρ,rfl⟩:=J3 hA hρ;refine zM [0,1,2,6,7] (fun A ρ' w'=>J2 ρ' A∧J2 ρ' []∧St cx w' (blk p7 92 [.int .i64 y.regs,vp2,vc2, .int .i64 y.fin.op, .int .i64 y.fin.a, .int .i64 y.fin.yes.block,ve21,ve22, .int .i64 y.fin.no.block,ve23,ve24,ve25]::blk p6 95 [.int .i64 x.regs,vp1,vr1,vb1]::Mw p vf (Kz g (KJ (if y.regs<x.regs∨16<y.regs then 1 else 0) (Sd f b))) (Sd f b)::L.eraseIdx i)) ?_ ?_
 · skip;(refine' Pb;refine' KK;first|(refine' K0)|(refine' K1)|(refine' Ae<;>intro hc));all_goals (refine' LS;first|refine' J1|(refine' J4;(first|(refine' QV)|(refine' KM)|(refine' Af<;>intro hc))));all_goals (refine' Ms;refine' K5 (c:=N6 (g:=_) Dg hS fd);rintro v1 w1 ⟨rfl,hS⟩;simp only [E8,Fg,if_true,EX,if_false] at hS;refine' zn;exact Bf)
 rintro ρ w1 ⟨hA,hρ,hS⟩;obtain ⟨ρ,rfl⟩:=J3 hA hρ;refine' NA;refine' KK;refine' K5 (c:=pn hp2 hS fd);rintro v1 w1 ⟨rfl,hS⟩;have hS:=hS.ns;refine' W8;refine Pt hS 18 [0,1,2,6,7] (fun A LL ρ' w'=>∃(q:Bool),J2 ρ' A∧J2 ρ' [(46, .pointer (some ⟨p,0,none⟩)),(63, .bool q)]∧(q=true↔(b=0∧(y.regs≠x.regs∨y.params≠x.params)))∧St cx w' (LL)) ?_ ?_
 · skip;(refine' MQ;first|(refine' Ql)|(refine' Qn)|(refine' Ac<;>intro hc));all_goals (refine' RK;first|refine' J1|(refine' J4;(first|(refine' Qy)|(refine' QD)|(refine' Ad<;>intro hc))));all_goals (refine' X9;refine' MO;first|refine' J1|(refine' J4;refine' K5 (c:=UG Jk (fun a _ b _ {_ _ _ _} h1 h2 h3=>iG a b h1 h2 h3) hp2 hp1 hS);rintro v1 w1 ⟨rfl,hS⟩;(cases hdec:decide (y.params=x.params));have hg:=of_decide_eq_false hdec;rotate_left;have hg:=of_decide_eq_true hdec;all_goals skip));all_goals (refine' Oe;refine' RL;first|(exact Cu)|(exact CC)|(exact BA)|(exact CU))
 rintro ρ w1 ⟨q,hA,hρ,hq,hS⟩;obtain ⟨ρ,rfl⟩:=J3 hA hρ;refine' K5 (c:=N6 (g:=_) Dg hS fd);rintro v1 w1 ⟨rfl,hS⟩;simp only [E8,Fg,if_true,EX,if_false] at hS;refine' zn;refine zM [0,1,2,6,7] (fun A ρ' w'=>J2 ρ' A∧J2 ρ' []∧St cx w' (blk p7 92 [.int .i64 y.regs,vp2,vc2, .int .i64 y.fin.op, .int .i64 y.fin.a, .int .i64 y.fin.yes.block,ve21,ve22, .int .i64 y.fin.no.block,ve23,ve24,ve25]::blk p6 95 [.int .i64 x.regs,vp1,vr1,vb1]::Mw p vf (Kz g (KJ (Qt x b y) (Sd f b))) (Sd f b)::L.eraseIdx i)) ?_ ?_
 · skip;(refine' Pb;refine' zL;first|(refine' QV)|(refine' KM)|(refine' Af<;>intro hc));all_goals (refine' K5 (c:=N6 (g:=_) Dg hS fd);rintro v1 w1 ⟨rfl,hS⟩;simp only [E8,Fg,if_true,EX,if_false] at hS;refine' zn;exact ⟨zh,zh,by rw [←QiU hq];first|(rw [if_pos (c:=40<y.code.length) Jo];exact hS.sp)|(rw [if_neg (c:=40<y.code.length) Jo];exact hS.sp)⟩)
 rintro ρ w1 ⟨hA,hρ,hS⟩;obtain ⟨ρ,rfl⟩:=J3 hA hρ;refine' LU;refine zo [0,1,2,6,7] (fun A ρ' w'=>∃(j:Nat) (h:LV) (at2:Int),J2 ρ' A∧J2 ρ' [(8, .int .i64 j)]∧(j≤y.code.length)∧(Kz (Kz g (KJ (Qt x b y) (Sd f b))) (NW fs.length f b 0 y.code)=Kz h (NW fs.length f b j (y.code.drop j)))∧St cx w' (blk p7 92 [.int .i64 y.regs,vp2,vc2, .int .i64 y.fin.op, .int .i64 y.fin.a, .int .i64 y.fin.yes.block,ve21,ve22, .int .i64 y.fin.no.block,ve23,ve24,ve25]::blk p6 95 [.int .i64 x.regs,vp1,vr1,vb1]::Mw p vf h at2::L.eraseIdx i)) (fun ρ' _=>(y.code.length - iv (ρ' 8)).toNat) ?_ ?_
 · exact CT
 ((rintro ρ w1 ⟨j,h,at2,hA,hρ,hj,hd,hS⟩;obtain ⟨ρ,rfl⟩:=J3 hA hρ;refine' Re;refine' zL;first|(refine' K0)|(refine' K1)|(refine' Ae<;>intro hc));all_goals (refine' Ll;refine' Rb;refine' SL;first|refine' J1|(refine' J4;(first|(refine' Ql)|(refine' Qn)|(refine' Ac<;>intro hc)))));all_goals (refine' KU)
 all_goals
  first
  | (refine' JZ;refine' Lj;refine' KL;refine' MQ;refine' K5 (c:=um f b j hf0 hb0 Jo hS);rintro v1 w1 ⟨rfl,hS⟩;refine' Mm;refine LP hS ?_;intro w1 hS;have hS:=hS.ns;refine' zn;have hS:St cx _ (blk p7 92 [.int .i64 y.regs,vp2,vc2, .int .i64 y.fin.op, .int .i64 y.fin.a, .int .i64 y.fin.yes.block,ve21,ve22, .int .i64 y.fin.no.block,ve23,ve24,ve25]::blk p6 95 [.int .i64 x.regs,vp1,vr1,vb1]::Mw p vf h (OL f b j)::L.eraseIdx i):=hS;refine' Pb;refine' N1;intro b3 o3 cs3 x3 hat3 hx3 he3;obtain ⟨vr3,va3,rfl,hr3,ha3⟩:=Nh he3;refine' MZ;refine' J9 (c:=aA he3 hf hS fd);rintro v1 w1 ⟨rfl,hS⟩;have hS:=hS.ns;refine' zn;refine' LH;(exact ⟨⟨j+1,_,_,zh,zh,Jo,by rw [hd,Q1 hx3,NW,bK],hS.sp⟩,Qb Jo⟩))
  | (refine' J0;all_goals (refine' K2;(first|(rw [EP Jo,NW,eZ (b:=(0,0)) rfl] at hd)|(rw [Oa (a:=h) Ja] at hd));refine' KL;refine' zm;refine' J9 (c:=uk f b hf0 hb0 hS);rintro v1 w1 ⟨rfl,hS⟩;refine' Mm;refine LP hS ?_;intro w1 hS;have hS:=hS.ns;refine' zn;have hS:St cx _ (blk p7 92 [.int .i64 y.regs,vp2,vc2, .int .i64 y.fin.op, .int .i64 y.fin.a, .int .i64 y.fin.yes.block,ve21,ve22, .int .i64 y.fin.no.block,ve23,ve24,ve25]::blk p6 95 [.int .i64 x.regs,vp1,vr1,vb1]::Mw p vf h (Po f b)::L.eraseIdx i):=hS;refine' PU;refine' Pa;refine' K5 (c:=aB (e:=y.fin) he1 ⟨_,_,_,_,_,rfl,he21,he22,he23,he24,he25⟩ hS fd);rintro v1 w1 ⟨rfl,hS⟩;have hS:=hS.ns;refine' zn);all_goals (refine' Mo;refine ⟨_,rfl,rfl,Po f b,?_⟩;have hS:=hS.drop.drop;rw [show Kz g (QH fs.length f x b y)=Kz h (KJ (QU x.blocks.length y.fin) (Po f b)) from (by unfold QH;rw [←bK,←bK,hd])];exact F9 hS hi))
theorem QiA {x:Fun}{q:Bool}(hq:q=true↔(f=0∧(0<x.regs∨0<x.params.length∨∃t∈x.results,t.kind≠1))):
 Kz (Kz (Kz (Kz (Kz g (KJ (if x.regs<0∨6<x.regs then 1 else 0) a)) (KJ (Qm x.params x.regs) a)) (KJ (Qm x.results x.regs) a)) (KJ (if x.blocks.length<1∨12<x.blocks.length then 2 else 0) a)) (KJ (if q=true then 18 else 0) a)=Kz g (KJ (QF f x) a):=by
 rw [OK,OK,OK,OK];congr 2;unfold QF;by_cases h0:x.regs<0∨6<x.regs
 · rw [if_pos h0,if_pos h0];simp only [Py (show (1:Int)≠0 by decide)]
 · rw [if_neg h0,if_neg h0,Pe]
   by_cases h:Qm x.params x.regs≠0
   · rw [if_pos h];simp only [Py h]
   · rw [if_neg h,Fy.1 h,Pe]
     by_cases h1:Qm x.results x.regs≠0
     · rw [if_pos h1];simp only [Py h1]
     · rw [if_neg h1,Fy.1 h1,Pe]
       by_cases h2:x.blocks.length<1∨12<x.blocks.length
       · rw [if_pos h2,if_pos h2];simp only [Py (show (2:Int)≠0 by decide)]
       · rw [if_neg h2,if_neg h2,Pe]
         by_cases hb:f=0∧(0<x.regs∨0<x.params.length∨∃t∈x.results,t.kind≠1)
         · rw [if_pos hb,if_pos (hq.2 hb)]
         · rw [if_neg hb,if_neg (fun h=>hb (hq.1 h))]
theorem uq (hsh:m.Short)(hm:K6.at cx cs m)(hS:St cx w L):
 JW Tryz.prog zK [.agg ⟨cs⟩] w fun u w'=>u=Kn m.fault∧St cx w' L:=by
 obtain ⟨vf,rfl,hf⟩:=NV hm;have hsl:=hsh.1;have hsf:=hsh.2;obtain ⟨a0,n0,rfl⟩:=EU hf;generalize hvf:Value.slice a0 m.funcs.length n0=vf at*;refine Kd Kc Tryz.func62 ?_;refine' KO;intro p1 w1 hS;refine Qe hS ?_;(intro p2 w1 hS);refine' Sp;refine rW (cs:=[vf, .int .i64 0, .int .i64 0, .int .i64 (-1)]) vw vw (by subst hvf;rfl) ?_;refine zb hS ?_;intro p9 w1 hS;refine' Kg;refine zM [1,2,3] (fun A ρ' w'=>J2 ρ' A∧J2 ρ' []∧St cx w' (Mw p9 vf (KJ (if m.funcs.length<1∨8<m.funcs.length then 2 else 0) (-1)) (-1)::blk p2 29 [.int .i64 0, .int .i64 0]::blk p1 24 [vf]::L)) ?_ ?_
 · skip;(have hS:St cx _ (Mw p9 vf (0,0) (-1)::blk p2 29 [.int .i64 0, .int .i64 0]::blk p1 24 [vf]::L):=hS;refine' Pb;refine' zL;first|(refine' Ql)|(refine' Qn)|(refine' Ac<;>intro hc));all_goals (refine' Pv;first|refine' J1|(refine' J4;(first|(refine' QV)|(refine' KM)|(refine' Af<;>intro hc))));all_goals (refine' Ms;refine' K5 (c:=N6 (g:=_) Dg hS fd);rintro v1 w1 ⟨rfl,hS⟩;simp only [E8,Fg,if_true,EX,if_false] at hS;refine' zn;exact ⟨zh,zh,by rw [LW (Sc _ _)] at hS;first|(rw [if_pos Jo];exact hS.sp)|(rw [if_neg Jo];exact hS.sp)⟩)
 rintro ρ w1 ⟨hA,hρ,hS⟩;obtain ⟨ρ,rfl⟩:=J3 hA hρ;refine' LU;refine zo [1,2,3] (fun A ρ' w'=>∃(f:Nat) (h:LV) (a:Int),J2 ρ' A∧J2 ρ' [(4, .int .i64 f)]∧(f≤m.funcs.length)∧(m.fault=Kz h (ON m.funcs.length f (m.funcs.drop f)))∧St cx w' (Mw p9 vf h a::blk p2 29 [.int .i64 0, .int .i64 0]::blk p1 24 [vf]::L)) (fun ρ' _=>(m.funcs.length - iv (ρ' 4)).toNat) ?_ ?_
 · exact ⟨0,_,_,zh,zh,Jo,by rw [FU];rfl,hS.sp⟩
 ((rintro ρ w1 ⟨f,h,a,hA,hρ,hj,hd,hS⟩;obtain ⟨ρ,rfl⟩:=J3 hA hρ;refine' Re;refine' zL;first|(refine' K0)|(refine' K1)|(refine' Ae<;>intro hc));all_goals (refine' Ll;refine' Rb;refine' SL;first|refine' J1|(refine' J4;(first|(refine' Ql)|(refine' Qn)|(refine' Ac<;>intro hc)))));all_goals (refine' KU)
 all_goals
  first
  | (refine' JZ
     refine' Lj;refine' Ul;intro b1 o1 cs1 x1 hat1 hx1 he1;obtain ⟨vp1,vr1,vb1,rfl,hp1,hr1,hb1⟩:=Qw he1;refine' MI;intro p5 w1 hS;refine Ka hS ?_;intro w1 hS;have hS:=hS.ns;refine' zn;have hsx:=hsf x1 (EI hx1);have hlb:=hsx.2.2.1;have hlp:=hp1.len;have hlr:=hr1.len;refine' KL;refine' Kv (c:=QhP f Jo hS);rintro v1 w1 ⟨rfl,hS⟩;refine' Mm;refine LP hS ?_;intro w1 hS;have hS:=hS.ns;refine' zn;refine zM [1,2,3,4,5] (fun A ρ' w'=>J2 ρ' A∧J2 ρ' []∧St cx w' (blk p5 95 [.int .i64 x1.regs,vp1,vr1,vb1]::Mw p9 vf (Kz h (KJ (if x1.regs<0∨6<x1.regs then 1 else 0) (O5 f))) (O5 f)::blk p2 29 [.int .i64 0, .int .i64 0]::blk p1 24 [vf]::L)) ?_ ?_
     · skip;(have hS:St cx _ (blk p5 95 [.int .i64 x1.regs,vp1,vr1,vb1]::Mw p9 vf h (O5 f)::blk p2 29 [.int .i64 0, .int .i64 0]::blk p1 24 [vf]::L):=hS;refine' Pb;first|(refine' K0)|(refine' K1)|(refine' Ae<;>intro hc));all_goals (refine' LS;first|refine' J1|(refine' J4;(first|(refine' QV)|(refine' KM)|(refine' Af<;>intro hc))));all_goals (refine' Ms;refine' K5 (c:=N6 (g:=_) Dg hS fd);rintro v1 w1 ⟨rfl,hS⟩;simp only [E8,Fg,if_true,EX,if_false] at hS;refine' zn;exact Bf)
     rintro ρ w1 ⟨hA,hρ,hS⟩;obtain ⟨ρ,rfl⟩:=J3 hA hρ;refine' NA;refine' KK;refine' K5 (c:=pn hp1 hS fd);rintro v1 w1 ⟨rfl,hS⟩;have hS:=hS.ns;refine' zn;refine' NA;refine' KK;refine' K5 (c:=pn hr1 hS fd);rintro v1 w1 ⟨rfl,hS⟩;have hS:=hS.ns;refine' zn;refine zM [1,2,3,4,5] (fun A ρ' w'=>J2 ρ' A∧J2 ρ' []∧St cx w' (blk p5 95 [.int .i64 x1.regs,vp1,vr1,vb1]::Mw p9 vf (Kz (Kz (Kz (Kz h (KJ (if x1.regs<0∨6<x1.regs then 1 else 0) (O5 f))) (KJ (Qm x1.params x1.regs) (O5 f))) (KJ (Qm x1.results x1.regs) (O5 f))) (KJ (if x1.blocks.length<1∨12<x1.blocks.length then 2 else 0) (O5 f))) (O5 f)::blk p2 29 [.int .i64 0, .int .i64 0]::blk p1 24 [vf]::L)) ?_ ?_
     · skip;(refine' Pb;refine' zL;first|(refine' Ql)|(refine' Qn)|(refine' Ac<;>intro hc));all_goals (refine' Pv;first|refine' J1|(refine' J4;(first|(refine' QV)|(refine' KM)|(refine' Af<;>intro hc))));all_goals (refine' Ms;refine' K5 (c:=N6 (g:=_) Dg hS fd);rintro v1 w1 ⟨rfl,hS⟩;simp only [E8,Fg,if_true,EX,if_false] at hS;refine' zn;exact ⟨zh,zh,by first|(rw [if_pos (c:=x1.blocks.length<1∨12<x1.blocks.length) Jo];exact hS.sp)|(rw [if_neg (c:=x1.blocks.length<1∨12<x1.blocks.length) Jo];exact hS.sp)⟩)
     rintro ρ w1 ⟨hA,hρ,hS⟩;obtain ⟨ρ,rfl⟩:=J3 hA hρ;refine zM [1,2,3,4,5] (fun A ρ' w'=>J2 ρ' A∧J2 ρ' []∧St cx w' (blk p5 95 [.int .i64 x1.regs,vp1,vr1,vb1]::Mw p9 vf (Kz h (KJ (QF f x1) (O5 f))) (O5 f)::blk p2 29 [.int .i64 0, .int .i64 0]::blk p1 24 [vf]::L)) ?_ ?_
     · skip
       refine' Lm;refine Pt hS 19 [1,2,3,4,5] (fun A LL ρ' w'=>∃(q:Bool),J2 ρ' A∧J2 ρ' [(81, .pointer (some ⟨p9,0,none⟩)),(99, .bool q)]∧(q=true↔(f=0∧(0<x1.regs∨0<x1.params.length∨∃t∈x1.results,t.kind≠1)))∧St cx w' (LL)) ?_ ?_
       · skip;(refine' MQ;first|(refine' Ql)|(refine' Qn)|(refine' Ac<;>intro hc));all_goals (refine' LS;first|refine' J1|(refine' J4;(first|(refine' QV)|(refine' KM)|(refine' Af<;>intro hc))));all_goals (refine' X9;refine' M0;first|refine' J1|(refine' J4;(first|(refine' QV)|(refine' KM)|(refine' Af<;>intro hc))));all_goals (refine' ab;refine' X9;(first|(refine' J1)|(refine' J4;refine' J9 (c:=Yz hr1 hS);rintro v1 w1 ⟨qc,rfl,hqc,hS⟩;cases qc)));all_goals (refine' RL;first|(exact ⟨_,zh,zh,by exact ⟨fun _=>⟨Jo, .inl Jo⟩,fun _=>rfl⟩,hS.sp⟩)|(exact ⟨_,zh,zh,by exact ⟨fun _=>⟨Jo, .inr (.inl Jo)⟩,fun _=>rfl⟩,hS.sp⟩)|(exact ⟨_,zh,zh,by exact ⟨fun _=>⟨Jo, .inr (.inr (hqc.1 rfl))⟩,fun _=>rfl⟩,hS.sp⟩)|(exact BA)|(exact ⟨_,zh,zh,by exact ⟨fun h=>Bool.noConfusion h,fun h=>h.2.elim (fun h=>by omega) (fun h=>h.elim (fun h=>by omega) (fun h=>Bool.noConfusion (hqc.2 h)))⟩,hS.sp⟩))
       rintro ρ w1 ⟨q,hA,hρ,hq,hS⟩;obtain ⟨ρ,rfl⟩:=J3 hA hρ;refine' K5 (c:=N6 (g:=_) Dg hS fd);rintro v1 w1 ⟨rfl,hS⟩;simp only [E8,Fg,if_true,EX,if_false] at hS;refine' zn;(exact ⟨zh,zh,by rw [←QiA hq];exact hS.sp⟩)
     rintro ρ w1 ⟨hA,hρ,hS⟩;obtain ⟨ρ,rfl⟩:=J3 hA hρ;refine' Ki;refine' NY;refine zo [1,2,3,4,5] (fun A ρ' w'=>∃(b:Nat) (h2:LV) (a2:Int),J2 ρ' A∧J2 ρ' [(6, .int .i64 b)]∧(b≤x1.blocks.length)∧(Kz (Kz h (KJ (QF f x1) (O5 f))) (QP m.funcs.length f x1 0 x1.blocks)=Kz h2 (QP m.funcs.length f x1 b (x1.blocks.drop b)))∧St cx w' (blk p5 95 [.int .i64 x1.regs,vp1,vr1,vb1]::Mw p9 vf h2 a2::blk p2 29 [.int .i64 0, .int .i64 0]::blk p1 24 [vf]::L)) (fun ρ' _=>(x1.blocks.length - iv (ρ' 6)).toNat) ?_ ?_
     · exact CT
     ((rintro ρ w1 ⟨b,h2,a2,hA,hρ,hb,hd2,hS⟩;obtain ⟨ρ,rfl⟩:=J3 hA hρ;refine' Re;refine' zL;first|(refine' K0)|(refine' K1)|(refine' Ae<;>intro hc));all_goals (refine' Ll;refine' Rb;refine' SL;first|refine' J1|(refine' J4;(first|(refine' Ql)|(refine' Qn)|(refine' Ac<;>intro hc)))));all_goals (refine' KU)
     all_goals
      first
      | (refine' JZ;refine' Lj;obtain ⟨y,hy⟩:∃y,x1.blocks[b]?=some y:=⟨_,EH Jo⟩;have hsy:=hsx.2.2.2 y (EI hy);refine' SK;refine' K5 (c:=U8 hx1 hy Jo Jo hsy.2.1 hf hS fd);rintro v1 w1 ⟨rfl,a3,hS⟩;have hS:=hS.ns;refine' zn;refine' LH;(exact ⟨⟨b+1,_,_,zh,zh,Jo,by rw [hd2,Q1 hy,QP,bK],hS.sp⟩,Qb Jo⟩))
      | (refine' J0;all_goals (refine' K2;(first|(rw [EP Jo,QP,eZ (b:=(0,0)) rfl] at hd2)|(rw [Oa (a:=h2) Ja] at hd2));refine' LH);all_goals (exact ⟨⟨f+1,h2,a2,zh,zh,Jo,by rw [hd,Q1 hx1,ON,←bK,show Kz h (OM m.funcs.length f x1)=h2 from (by unfold OM;rw [←bK,hd2])],hS.sp⟩,Qb Jo⟩)))
  | (refine' J0;all_goals (refine' K2;(first|(rw [EP Jo,ON,eZ (b:=(0,0)) rfl] at hd)|(rw [Oa (a:=h) Ja] at hd));refine' KH;refine' Mm;refine zv hS ?_;refine Ka hS ?_;intro w1 hS;have hS:=hS.ns;refine' L8;refine Lw vw (Q4 (n:=2) Jk Jk (hS.blkAt fd) Jr Jr) ?_);all_goals (refine ⟨_,rfl,?_,hS.sp⟩;rw [hd];rfl;done))
end
section
attribute [local irreducible] Ke Ls Ma MM
section
variable {P:Program}{l:List GO}{Q:QT}{ρ:Km}
variable {cx:Cx}{w:World}{L:List Res}
structure JP where
 sp:Nat
 hp:Nat
 f:Fun
 vm:Value
 vp:Value
 vr:Value
 vb:Value
structure JP.Fits (j:JP) (cx:Cx) (m:Module):Prop where
 m:Kj.sl cx j.vm m.funcs
 p:J7.sl cx j.vp j.f.params
 r:J7.sl cx j.vr j.f.results
 b:Kx.sl cx j.vb j.f.blocks
theorem JP.Fits.up {j:JP}{cx cx':Cx}(h:j.Fits cx m)(hle:cx.Le cx'):j.Fits cx' m:=⟨h.m.up hle,h.p.up hle,h.r.up hle,h.b.up hle⟩
@[reducible] def JP.cells (j:JP)(vl:Value):List Value:=[.pointer (some ⟨j.hp,0,none⟩),j.vm, .int .i64 j.f.regs,j.vp,j.vr,j.vb,vl]
def JP.res (j:JP)(h:List Bool)(vl:Value)(css:List (List Value)):Res:=star (blk j.sp 258 (j.cells vl)) (star (Yw j.hp h) (sl 115 3 vl css))
variable {j:JP}{h:List Bool}{vl:Value}{css:List (List Value)}
theorem JP.opn (hS:St cx w L)(hi:nth L i=some (j.res h vl css)):St cx w (blk j.sp 258 (j.cells vl)::Yw j.hp h::sl 115 3 vl css::L.eraseIdx i):=by
 have h1:=(hS.out hi).star;exact (I8 (h1.mv1)).mv2
abbrev HE:=@JP.opn
theorem JP.cls {h':List Bool}{vl':Value}{css':List (List Value)}(hi:nth L i=some (j.res h vl css))(hS:St cx w (blk j.sp 258 (j.cells vl')::Yw j.hp h'::sl 115 3 vl' css'::L.eraseIdx i)):St cx w (L.set i (j.res h' vl' css')):=by
 have h1:St cx w (star (Yw j.hp h') (sl 115 3 vl' css')::blk j.sp 258 (j.cells vl')::L.eraseIdx i):=Ho (hS.mv2.mv2);exact F9 (Ho h1.mv1) hi
theorem JP.cls0 (hi:nth L i=some (j.res h vl css))(hS:St cx w (blk j.sp 258 (j.cells vl)::Yw j.hp h::sl 115 3 vl css::L.eraseIdx i)):St cx w L:=by
 have h1:St cx w (star (Yw j.hp h) (sl 115 3 vl css)::blk j.sp 258 (j.cells vl)::L.eraseIdx i):=Ho (hS.mv2.mv2);exact Fi (Ho h1.mv1) hi
abbrev Ih:=@JP.cls0
theorem Ra {x:Operand}(hS:St cx w L)(hx:ρ.ev x= .pointer (some ⟨j.sp,o,none⟩))(hi:nth L i=some (j.res h vl css))(hu:(j.cells vl)[o]?=some u)(h:Q0 P l Q (upd ρ d u) w):Q0 P (⟨none, .load1 d x⟩::l) Q ρ w:=
 eW (HE hS hi) hx KG hu h
theorem lr {x:Operand}{us:List Value}(hS:St cx w L)(hx:ρ.ev x= .pointer (some ⟨j.sp,o,none⟩))(hi:nth L i=some (j.res h vl css))(hu:((j.cells vl).drop o).take n=us)(hl:us.length=n)(h:Q0 P l Q (upd ρ d (.agg ⟨us⟩)) w):Q0 P (⟨none, .loadn d n x⟩::l) Q ρ w:=
 rX (HE hS hi) hx KG hu hl h
theorem Q1x {x:Operand}(hS:St cx w L)(hx:ρ.ev x= .pointer (some ⟨j.sp,o,none⟩))(hi:nth L i=some (j.res h vl css))(hu:(j.cells vl)[o]?=some u):MX P ρ w ⟨none, .load1 d x⟩ u:=kv (HE hS hi) hx KG hu
theorem fP {x:Operand}(hS:St cx w L)(hi:nth L i=some (j.res h vl css))(hx:ρ.ev x=vl)(hn:css.length=n)(h:Q0 P l Q (upd ρ d (.int .i64 n)) w):Q0 P (⟨none, .len d x⟩::l) Q ρ w:=
 QO (HE hS hi) hx Pn hn h
end
variable {cx:Cx}{w:World}{L:List Res}{j:JP}{h:List Bool}{vl:Value}{css:List (List Value)}{i:Nat}{m:Module}
theorem U9 (hS:St cx w L)(hi:nth L i=some (j.res h vl css)):JW Tryz.prog uh [.pointer (some ⟨j.hp,0,none⟩), .int .i64 r] w fun u w'=>u= .bool (Ke h r)∧St cx w' L:=by
 obtain ⟨v,h2⟩:=fM (HE hS hi).mv1;refine (UX h2).mono ?_;rintro u w' ⟨h3,h4⟩;exact ⟨h3,Ih hi (cQ h4).mv1⟩
theorem Va (hS:St cx w L)(hi:nth L i=some (j.res h vl css)):JW Tryz.prog ua [.pointer (some ⟨j.hp,0,none⟩)] w fun u w'=>u= .int .i64 h.length∧St cx w' L:=by
 obtain ⟨v,h2⟩:=fM (HE hS hi).mv1;refine (iR h2).mono ?_;rintro u w' ⟨h3,h4⟩;exact ⟨h3,Ih hi (cQ h4).mv1⟩
theorem YA (hl:h.length≤16)(hS:St cx w L)(hi:nth L i=some (j.res h vl css)):JW Tryz.prog ug [.pointer (some ⟨j.hp,0,none⟩)] w fun u w'=>∃c',cx.Le c'∧JY.sl c' u (Ls h)∧St c' w' L:=by
 obtain ⟨v,h2⟩:=fM (HE hS hi).mv1;refine (UY hl h2).mono ?_;rintro u w' ⟨c',h3,h5,h4⟩;exact ⟨c',h3,h5,Ih hi (cQ h4).mv1⟩
theorem YB (hl:h.length<16)(hS:St cx w L)(hi:nth L i=some (j.res h vl css)):JW Tryz.prog ud [.pointer (some ⟨j.hp,0,none⟩)] w fun u w'=>u= .int .i64 h.length∧St cx w' (L.set i (j.res (h++[true]) vl css)):=by
 obtain ⟨v,h2⟩:=fM (HE hS hi).mv1;refine (cR hl h2).mono ?_;rintro u w' ⟨h3,v',h4⟩;exact ⟨h3,JP.cls hi (cQ h4).mv1⟩
theorem YC (hr:Ke h r=true)(hS:St cx w L)(hi:nth L i=some (j.res h vl css)):JW Tryz.prog ue [.pointer (some ⟨j.hp,0,none⟩), .int .i64 r] w fun u w'=>u= .bool true∧St cx w' (L.set i (j.res (h.set r.toNat false) vl css)):=by
 obtain ⟨v,h2⟩:=fM (HE hS hi).mv1;refine (cS hr h2).mono ?_;rintro u w' ⟨h3,h4⟩;exact ⟨h3,JP.cls hi (cQ h4).mv1⟩
theorem YD {xs:List Int}(hl:h.length≤16)(hx:JY.sl cx v2 xs)(hS:St cx w L)(hi:nth L i=some (j.res h vl css)):JW Tryz.prog ui [.pointer (some ⟨j.hp,0,none⟩),v2] w fun u w'=>u= .int .i64 (Ma h [] xs)∧St cx w' L:=by
 obtain ⟨v,h2⟩:=fM (HE hS hi).mv1;refine (cT hl hx h2).mono ?_;rintro u w' ⟨h3,c',h5,h4⟩;exact ⟨h3,Gi (Ih hi (cQ h4).mv1) h5⟩

@[reducible] def RU (c:Int):Value:= .iface 297 (.int .i64 c)
theorem Ru (hS:St cx w L):JW Tryz.prog pe [.bool false, .int .i64 c] w fun u w'=>u= .tuple #[]∧St cx w' L:=by
 refine Kd Kc Tryz.func240 ?_;refine' LG;refine' PV;refine' Mo;exact ⟨_,rfl,rfl,hS.sp⟩
theorem Rv (hS:St cx w L):KD Tryz.prog pe [.bool true, .int .i64 c] w (fun _ _=>False) (fun u w'=>u=RU c∧St cx w' L):=by
 unfold KD;refine Kd Kc Tryz.func240 ?_;refine' LG;refine' JZ;refine' LF;refine' y6;refine X6 rfl ?_;(repeat (first|refine' Qv|refine' QA));refine' QW;exact .inr ⟨_,rfl,rfl,hS.sp⟩
theorem Vb {b:Bool}(hS:St cx w L):KD Tryz.prog pe [.bool b, .int .i64 c] w (fun u w'=>u= .tuple #[]∧b=false∧St cx w' L) (fun u w'=>u=RU c∧b=true∧St cx w' L):=by
 cases b with
 | false=>exact ((Ru hS).mono fun u w' h=>(⟨h.1,rfl,h.2⟩:u= .tuple #[]∧false=false∧St cx w' L)).ends
 | true=>exact (Rv hS).mono (fun _ _ h=>h.elim) (fun _ _ h=>⟨h.1,rfl,h.2⟩)
theorem fQ (hls:J7.ls cx css s.l)(hS:St cx w L)(hi:nth L i=some (j.res h vl css)):KD Tryz.prog Q6R [.pointer (some ⟨j.sp,0,none⟩), .int .i64 k] w
 (fun u w'=>∃t cs,K7 s k= .ok t∧u= .agg ⟨cs⟩∧J7.at cx cs t∧St cx w' L) (fun u w'=>∃c,K7 s k= .error c∧u=RU c∧St cx w' L):=by
 (((have hlc:=hls.1;have hS:=HE hS hi;unfold KD;refine Kd Kc Tryz.func247 ?_;refine' Rf;intro p4 w1 hS;refine' PW;first|(refine' K0)|(refine' K1)|(refine' Ae<;>intro hc));all_goals (refine' Ll;refine' Pc;refine' MO;(first|refine' J1|(refine' J4;refine QO hS vw fd hlc ?_));first|refine' J1|(refine' J4;(first|(refine' Ml)|(refine' Mz)|(refine' Ag<;>intro hc)))));all_goals (refine' Ms;first|(refine' J9 (c:=Ru hS);rintro v1 w1 ⟨rfl,hS⟩)|(refine Lp (c:=Rv hS) (p:=by rintro v9 w9 ⟨rfl,hS⟩;(repeat (first|refine' Qv|refine' QA|refine fun _=>?_));refine' QW;refine .inr ⟨_,rfl,?_⟩;first|(exact ⟨_,ZV Jo,rfl,(Ih hi hS.sp)⟩)) (h:=fun _ _ h=>h.elim))));refine' OQ;obtain ⟨t,ht⟩:∃t,s.l[k.toNat]?=some t:=⟨_,EH Jo⟩;obtain ⟨d,hd,hrd⟩:=hls.2 _ _ ht;obtain ⟨vd,rfl,hld⟩:=Qc hrd;refine' W6;refine' zm;(first|(refine' Nc;intro b1 o1 cs1 x1 hat1 hx1 he1;obtain ⟨vl1,rfl,hl1⟩:=Qc he1)|(refine Ps hS ?_;intro b1 o1 hel1)|(refine Z8 hS ?_;intro b1 o1 hel1));refine NK hS hel1 rfl fd rfl hd ?_;refine Ka hS ?_;intro w1 hS;have hS:=hS.ns;refine' L8;refine Lw vw (Q4 (n:=3) Jk Jk (hS.blkAt fd) Jr Jr) ?_;(exact .inl ⟨_,rfl,t,_,X0 Jo ht,rfl,hrd,(Ih hi hS.sp)⟩)
theorem YE (hls:J7.ls cx css s.l)(hS:St cx w L)(hi:nth L i=some (j.res h vl css)):KD Tryz.prog Q7I [.pointer (some ⟨j.sp,0,none⟩), .int .i64 k, .int .i64 kd] w
 (fun u w'=>∃t cs,Kf s k kd= .ok t∧u= .agg ⟨cs⟩∧J7.at cx cs t∧St cx w' L) (fun u w'=>∃c,Kf s k kd= .error c∧u=RU c∧St cx w' L):=by
 ((have hS:=hS.out hi;unfold KD Kf;refine Kd Kc Tryz.func239 ?_;refine' Rf;intro p6 w1 hS;refine' zn;refine' KL;refine Lp (c:=fQ hls hS fd) (p:=by rintro v9 w9 ⟨c,h1,rfl,hS⟩;(repeat (first|refine' Qv|refine' QA|refine fun _=>?_));refine' QW;refine .inr ⟨_,rfl,?_⟩;exact BN) (h:=?_);rintro v1 w1 ⟨t,cs,h1,rfl,hrd,hS⟩;have hrd':=hrd;obtain ⟨vd,rfl,hld⟩:=Qc hrd;refine Qe hS ?_;intro p7 w1 hS;refine Ka hS ?_;intro w1 hS;have hS:=hS.ns;refine' OR;refine' zm;first|(refine' Qy)|(refine' QD)|(refine' Ad<;>intro hc));all_goals (first|(refine' J9 (c:=Ru hS);rintro v1 w1 ⟨rfl,hS⟩)|(refine Lp (c:=Rv hS) (p:=by rintro v9 w9 ⟨rfl,hS⟩;(repeat (first|refine' Qv|refine' QA|refine fun _=>?_));refine' QW;refine .inr ⟨_,rfl,?_⟩;first|(exact ⟨_,(Q3 h1).trans (if_pos Jo),rfl,(Fi hS.sp hi)⟩)) (h:=fun _ _ h=>h.elim))));refine' Sp;refine Ka hS ?_;intro w1 hS;have hS:=hS.ns;refine' L8;refine Lw vw (Q4 (n:=3) Jk Jk (hS.blkAt fd) Jr Jr) ?_;(exact .inl ⟨_,rfl,t,_,(Q3 h1).trans (if_neg Jo),rfl,hrd',(Fi hS.sp hi)⟩)
theorem Xa (hls:J7.ls cx css s.l)(hS:St cx w L)(hi:nth L i=some (j.res s.h vl css)):KD Tryz.prog Q9v [.pointer (some ⟨j.sp,0,none⟩), .int .i64 k, .int .i64 kd] w
 (fun u w'=>∃t cs,K4 s k kd= .ok t∧u= .agg ⟨cs⟩∧J7.at cx cs t∧St cx w' L) (fun u w'=>∃c,K4 s k kd= .error c∧u=RU c∧St cx w' L):=by
 have hS:=hS.out hi;unfold KD K4;refine Kd Kc Tryz.func243 ?_;refine' Rf;intro p6 w1 hS;refine' zn;refine' KL;refine' zm;refine NL (c:=YE hls hS fd) (p:=by rintro v9 w9 ⟨c,h1,rfl,hS⟩;(repeat (first|refine' Qv|refine' QA|refine fun _=>?_));refine' QW;refine .inr ⟨_,rfl,?_⟩;exact BN) (h:=?_);rintro v1 w1 ⟨t,cs,h1,rfl,hrd,hS⟩;have hrd':=hrd;obtain ⟨vd,rfl,hld⟩:=Qc hrd;refine Qe hS ?_;intro p7 w1 hS;refine Ka hS ?_;intro w1 hS;have hS:=hS.ns;refine' OQ;refine zD (ci 9 [6,8]) ?_;have hS:=hS.drew;refine' zm;refine' cu;refine' Mn;refine' J9 (c:=U9 hS fd);rintro v1 w1 ⟨rfl,hS⟩;refine' PK;(first|(refine' J9 (c:=Ru hS);rintro v1 w1 ⟨rfl,hS⟩)|(refine Lp (c:=Rv hS) (p:=by rintro v9 w9 ⟨rfl,hS⟩;(repeat (refine' Qv));refine' QW;refine .inr ⟨_,rfl,?_⟩;first|(exact B2)) (h:=fun _ _ h=>h.elim))|(refine Lp (c:=Vb hS) (p:=by rintro v9 w9 ⟨rfl,hb,hS⟩;(repeat (first|refine' Qv|refine' QA|refine fun _=>?_));refine' QW;refine .inr ⟨_,rfl,?_⟩;first|(exact B2)) (h:=?_);rintro v1 w1 ⟨rfl,hb,hS⟩));refine' Sp;refine Ka hS ?_;intro w1 hS;have hS:=hS.ns;refine' L8;refine Lw vw (Q4 (n:=3) Jk Jk (hS.blkAt fd) Jr Jr) ?_;(exact .inl ⟨_,rfl,t,_,(Q3 h1).trans (if_neg DA),rfl,hrd',(Fi hS.sp hi)⟩)
end
section
attribute [local irreducible] Ke Ls Ma MM
variable {cx:Cx}{w:World}{L:List Res}{j:JP}{h:List Bool}{vl:Value}{css:List (List Value)}{i:Nat}{m:Module}
theorem YF {t:Ty}(hn:s.l.length≤100000)(ht:J7.at cx cs t)(hls:J7.ls cx css s.l)(hS:St cx w L)(hi:nth L i=some (j.res h vl css)):KD Tryz.prog Q8I [.pointer (some ⟨j.sp,0,none⟩), .agg ⟨cs⟩] w
 (fun u w'=>u= .tuple #[]∧s.l.length≠80∧∃vl' css',J7.ls cx css' (s.l++[t])∧St cx w' (L.set i (j.res h vl' css'))) (fun u w'=>u=RU 2∧s.l.length=80∧St cx w' L):=by
 ((have hlc:=hls.1;have hS:=HE hS hi;have ht':=ht;obtain ⟨vd,rfl,hld⟩:=Qc ht;have hz:J7.at cx [.int .i64 0, .int .i64 0, .slice none 0 0] (.mk 0 0 []):=O3 (FL _ _ _);unfold KD;refine Kd Kc Tryz.func238 ?_;refine' KO;intro p3 w1 hS;refine' PW;refine' O7;refine QO hS vw fd hlc ?_;first|(refine' Ql)|(refine' Qn)|(refine' Ac<;>intro hc));all_goals (first|(refine' J9 (c:=Ru hS);rintro v1 w1 ⟨rfl,hS⟩)|(refine Lp (c:=Rv hS) (p:=by rintro v9 w9 ⟨rfl,hS⟩;(repeat (first|refine' Qv|refine' QA|refine fun _=>?_));refine' QW;refine .inr ⟨_,rfl,?_⟩;first|(exact ⟨rfl,Jo,(Ih hi hS.sp)⟩)) (h:=fun _ _ h=>h.elim))));refine' zn;refine P5 9 12 Jk ?_ ?_
 · skip;refine zC [(0,none),(1,none),(2,none),(3,none),(4,none),(5,none),(6,some (some [3,4])),(7,some none),(8,none),(10,none),(11,none),(9,some (some [])),(12,some none)] ?_;have hS:=hS.drew;refine' Nz;refine' Pq;refine' Rn;refine zv hS ?_;refine' KA;refine QO hS vw fd hlc ?_;refine' Lu;refine KY hS [_,_,_] ?_;intro b1 w1 hS;refine' M4;refine za Px PZ hS ?_;intro vp1 w1 css1 hls1 hv1 hS;have hS:=hS.ns;refine' KA;have hl1:=hls1.1;rw [EM,ET,Ff] at hl1;obtain ⟨d1,hd1,_⟩:=hls1.2 s.l.length (.mk 0 0 []) Js;(first|(refine' Nc;intro b1 o1 cs1 x1 hat1 hx1 he1;obtain ⟨vl1,rfl,hl1⟩:=Qc he1)|(refine Ps hS ?_;intro b1 o1 hel1));refine' KA;refine' Ri;refine' L7;refine' Lu;refine ku hS hel1 rfl rfl rfl fd rfl hd1 rfl (J7.one ht') ?_;intro w3 hS;have hS:=hS.ns;refine' M4;refine LP hS ?_;intro w1 hS;have hS:=hS.ns;refine' Lc;refine' Mo;have hls2:=JH (i:=s.l.length) hls1 ht';rw [GR _ _ (E7 _),Gl,E8] at hls2;exact CR
 · skip;refine zC [(0,none),(1,none),(2,none),(3,none),(4,none),(5,none),(6,some (some [3,4])),(7,some none),(8,none),(10,none),(11,none),(12,some (some [])),(9,some (some []))] ?_;have hS:=hS.drew;refine' Nz;refine' Pq;refine' Rn;refine zv hS ?_;refine' KA;refine QO hS vw fd hlc ?_;refine' Lu;refine KY hS [_,_,_] ?_;intro b1 w1 hS;refine' M4;refine za Px PZ hS ?_;intro vp1 w1 css1 hls1 hv1 hS;have hS:=hS.ns;refine' KA;have hl1:=hls1.1;rw [EM,ET,Ff] at hl1;obtain ⟨d1,hd1,_⟩:=hls1.2 s.l.length (.mk 0 0 []) Js;(first|(refine' Nc;intro b1 o1 cs1 x1 hat1 hx1 he1;obtain ⟨vl1,rfl,hl1⟩:=Qc he1)|(refine Ps hS ?_;intro b1 o1 hel1));refine' KA;refine' Ri;refine' L7;refine' Lu;refine LP hS ?_;intro w1 hS;have hS:=hS.ns;refine' Mu;refine ku hS hel1 rfl rfl rfl fd rfl hd1 rfl (J7.one ht') ?_;intro w3 hS;have hS:=hS.ns;refine' kO;refine' nN;refine' Mo;have hls2:=JH (i:=s.l.length) hls1 ht';rw [GR _ _ (E7 _),Gl,E8] at hls2;exact CR
theorem lu {t:Ty}(hk:0≤k)(ht:J7.at cx cs t)(hS:St cx w L):KD Tryz.prog Q6T [.pointer (some ⟨j.sp,0,none⟩), .agg ⟨cs⟩, .int .i64 k] w
 (fun u w'=>∃t' cs',OO t k= .ok t'∧u= .agg ⟨cs'⟩∧J7.at cx cs' t'∧St cx w' L) (fun u w'=>∃c,OO t k= .error c∧u=RU c∧St cx w' L):=by
 ((obtain ⟨vd,rfl,hld⟩:=Qc ht;unfold KD OO;refine Kd Kc Tryz.func246 ?_;refine' KO;intro p4 w1 hS;refine Qe hS ?_;intro p6 w1 hS;refine' zn;refine' NA;refine' zL;first|(refine' Ml)|(refine' Mz)|(refine' Ag<;>intro hc));all_goals (first|(refine' J9 (c:=Ru hS);rintro v1 w1 ⟨rfl,hS⟩)|(refine Lp (c:=Rv hS) (p:=by rintro v9 w9 ⟨rfl,hS⟩;(repeat (first|refine' Qv|refine' QA|refine fun _=>?_));refine' QW;refine .inr ⟨_,rfl,?_⟩;first|(exact ⟨_,by rw [Fk Jo],rfl,hS.sp⟩)) (h:=fun _ _ h=>h.elim))));refine' OR;refine' zm;refine eX vw rfl hld rfl hk Jo ?_;intro b1 o1 cs1 x1 hat1 hx1 he1;have he1':=he1;obtain ⟨vl1,rfl,hl1⟩:=Qc he1;refine' MZ;refine Ka hS ?_;intro w1 hS;have hS:=hS.ns;refine' L8;refine Lw vw (Q4 (n:=3) Jk Jk (hS.blkAt fd) Jr Jr) ?_;(exact .inl ⟨_,rfl,x1,_,by rw [hx1],rfl,he1',hS.sp⟩)
theorem po {l regs:List Int}{want:List Ty}{v1 v3:Value}(hsh:∀t∈want,t.Short)(hls:J7.ls cx css s.l)(h1:JY.sl cx v1 l)(h2:J7.sl cx v2 want)(h3:JY.sl cx v3 regs)(hS:St cx w L)(hi:nth L i=some (j.res h vl css)):
 KD Tryz.prog Q7K [.pointer (some ⟨j.sp,0,none⟩),v1,v2,v3] w
 (fun u w'=>Ob s l want regs= .ok ()∧u= .tuple #[]∧St cx w' L) (fun u w'=>∃c,Ob s l want regs= .error c∧u=RU c∧St cx w' L):=by
 ((have hl1:=h1.len;have hl2:=h2.len;have hS:=hS.out hi;have hle:=Fq hS;unfold KD Ob;refine Kd Kc Tryz.func250 ?_;refine' KH;refine' zL;refine' zm;refine' zL;first|(refine' Qy)|(refine' QD)|(refine' Ad<;>intro hc));all_goals (first|(refine' J9 (c:=Ru hS);rintro v1 w1 ⟨rfl,hS⟩)|(refine Lp (c:=Rv hS) (p:=by rintro v9 w9 ⟨rfl,hS⟩;(repeat (first|refine' Qv|refine' QA|refine fun _=>?_));refine' QW;refine .inr ⟨_,rfl,?_⟩;first|(exact BR)|(exact BT)|(exact BS)) (h:=fun _ _ h=>h.elim))));refine' PW;refine' PQ;refine LQ hS [0,2,3,19,20] (fun A LL ρ' w'=>∃(k0:Cx) (q:Nat),J2 ρ' A∧J2 ρ' [(21, .int .i64 q)]∧(cx.Le k0)∧(q≤l.length)∧(Nx s regs l want=Nx s regs (l.drop q) (want.drop q))∧(want.length=l.length)∧St k0 w' (LL)) (fun ρ' _=>(l.length - iv (ρ' 21)).toNat) ?_ ?_
 · exact ⟨cx,0,zh,zh,Fq hS,Jo,by rfl,Jo,hS.sp⟩
 rintro ρ w1 ⟨k0,q,hA,hρ,hle2,hq,hd,hw,hS⟩;obtain ⟨ρ,rfl⟩:=J3 hA hρ;have hL0:=hle2;(try have hle:=hle.trans hle2);(try have hls:=hls.up hle2);(try have h1:=h1.up hle2);(try have h2:=h2.up hle2);(try have h3:=h3.up hle2);refine' Mq;refine' Ab<;>intro hc
 · skip;refine' J5;refine Qu ?_;refine' bf;refine Qu ?_;refine' Lm;refine' zm;(first|(refine RD vw rfl h2 rfl Jo ?_);intro b2 o2 cs2 x2 hat2 hx2 he2;have he2':=he2;obtain ⟨vl2,rfl,hl2⟩:=Qc he2|(refine' zi;intro b1 o1 cs1 x1 hat1 hx1 he1;obtain rfl:=Qs he1));refine' M1;refine' zm;refine' zm;refine' zn;refine Qu ?_;refine' Lm;refine' zm;refine' zm;refine Lp (c:=fQ hls hS fd) (p:=by rintro v9 w9 ⟨c,g1,rfl,hS⟩;(repeat (first|refine' Qv|refine' QA|refine fun _=>?_));refine' QW;refine .inr ⟨_,rfl,?_⟩;exact ⟨_,by rw [if_neg Jo,hd];exact kH hx1 (EH Jo) g1,rfl,Gi (Fi hS.sp hi) hL0⟩) (h:=?_);rintro v1 w1 ⟨t,cs,g1,rfl,hrd,hS⟩;have hrd':=hrd;obtain ⟨vd,rfl,hld⟩:=Qc hrd;refine Qe hS ?_;intro p10 w1 hS;refine Ka hS ?_;intro w1 hS;have hS:=hS.ns;refine' zn;refine Qu ?_;refine' Lm;refine' zm;refine' zm;refine RD vw rfl h2 rfl Jo ?_;intro b2 o2 cs2 x2 hat2 hx2 he2;have he2':=he2;obtain ⟨vl2,rfl,hl2⟩:=Qc he2;refine' MZ;refine' zm;refine' J9 (c:=UZ x2 (hsh x2 (EI hx2)) he2' h3 hS);rintro v1 w1 ⟨c3,ds,rfl,hle2,hu3,hS⟩;(try have hle:=hle.trans hle2);(try have hL0:=hL0.trans hle2);(try have hl2:=hl2.up hle2);(try have he2:=he2.up hle2);(try have hls:=hls.up hle2);(try have h1:=h1.up hle2);(try have h2:=h2.up hle2);(try have h3:=h3.up hle2);have hrd':=Rep.R.up hrd' hle2;cases hn:x2.ren regs<;>rw [hn] at hu3<;>simp only [Option.getD_none,GA] at hu3<;>(have hu3':=hu3)<;>obtain ⟨vu,rfl,hlu⟩:=Qc hu3;(all_goals (refine' Sh;intro p11 w1 hS;refine Ka hS ?_;intro w1 hS;have hS:=hS.ns;refine' Kg;refine' LF;refine' PK;refine' zm;refine' Sg;refine' Sg;(first|(refine' J1)|(refine' J4;refine' J9 (c:=iG _ _ hrd' hu3' hS);rintro v1 w1 ⟨rfl,hS⟩));refine' Oe;refine' Ms;first|(refine' J9 (c:=Ru hS);rintro v1 w1 ⟨rfl,hS⟩)|(refine Lp (c:=Rv hS) (p:=by rintro v9 w9 ⟨rfl,hS⟩;(repeat (first|refine' Qv|refine' QA|refine fun _=>?_));refine' QW;refine .inr ⟨_,rfl,?_⟩;first|(exact BR)|(exact BT)|(exact BS)) (h:=fun _ _ h=>h.elim))|(refine Lp (c:=Vb hS) (p:=by rintro v9 w9 ⟨rfl,hb,hS⟩;(repeat (first|refine' Qv|refine' QA|refine fun _=>?_));refine' QW;refine .inr ⟨_,rfl,?_⟩;first|(exact BR)|(exact BT)|(exact BS)) (h:=?_);rintro v1 w1 ⟨rfl,hb,hS⟩)));refine' PX;(exact ⟨⟨_,q+1,zh,zh,hL0,Jo,by rw [hd,si hx1 hx2 g1 hn DA],hw,hS.sp⟩,Qb Jo⟩)
 · skip;refine' K2;refine' Mo;exact .inl ⟨_,rfl,(by rw [if_neg Jo,hd,sj Jo]),rfl,Gi (Fi hS.sp hi) hL0⟩
theorem Vc {s:List Int}(hK:JY.sl cx v s)(hS:St cx w L):JW Tryz.prog s9 [v, .int .i64 c] w fun u w'=>∃r:Int,u= .int .i64 r∧(0≤r↔c∈s)∧St cx w' L:=by
 have hlen:=hK.len;refine Kd Kc Tryz.func89 ?_;refine' NN;refine' PQ;refine LQ hS [0,1,7] (fun A LL ρ' w'=>∃(j:Nat),J2 ρ' A∧J2 ρ' [(8, .int .i64 j)]∧(j≤s.length)∧(c∈s↔c∈s.drop j)∧St cx w' (LL)) (fun ρ' _=>(s.length - iv (ρ' 8)).toNat) ?_ ?_
 · exact AF
 rintro ρ w1 ⟨j,hA,hρ,hj,hd,hS⟩;obtain ⟨ρ,rfl⟩:=J3 hA hρ;refine' Mq;refine' Ab<;>intro hc
 · skip
   (refine' Lj;refine' Nd;refine' KL;refine' N1;intro b1 o1 cs1 x1 hat1 hx1 he1;obtain rfl:=Qs he1;refine' M1;first|(refine' Ql)|(refine' Qn)|(refine' Ac<;>intro hc));all_goals (refine' zn)
   all_goals
    first
    | (refine' JZ;refine' O9;(exact Cn))
    | (refine' J0;refine' J5)
   refine' Og;(exact Cm)
 · skip;refine' OA;first|(exact Cn)|(exact ⟨_,rfl, -1,rfl,⟨fun h=>by omega,fun h=>by rw [hd,EP Jo] at h;cases h⟩,hS.sp⟩)
theorem QdE {s:List Int}(hK:JY.sl cx v s)(hS:St cx w L):JW Tryz.prog Q42 [v, .int .i64 c] w fun u w'=>u= .bool (decide (c∈s))∧St cx w' L:=by
 (refine Kd Kc Tryz.func262 ?_;refine' LG;refine' KL;refine' J9 (c:=Vc hK hS);rintro v1 w1 ⟨r,rfl,hr,hS⟩;first|(refine' Ml)|(refine' Mz)|(refine' Ag<;>intro hc));all_goals (refine' KN;refine ⟨_,rfl,?_,hS.sp⟩;(first|rw [decide_eq_true (hr.1 Jo)]|rw [decide_eq_false (fun h=>by have:=hr.2 h;omega)]);done)
def Pf (cx:Cx)(L:List Res)(j:JP)(i:Nat)(r:Except Int JS)(u:Value)(w':World):Prop:=u= .tuple #[]∧∃c' s' vl' css',cx.Le c'∧r= .ok s'∧J7.ls c' css' s'.l∧St c' w' (L.set i (j.res s'.h vl' css'))
def iX {α:Type}(cx:Cx)(L:List Res)(r:Except Int α)(u:Value)(w':World):Prop:=∃e,r= .error e∧u=RU e∧St cx w' L
theorem ur {h:List Bool}{p l:List Int}{x:Int}(hx:l[q]?=some x)(hd:MF h [] l=MF h (l.take q) (l.drop q))(hb:Ke h x=false):MF h [] l= .error 10:=by
 rw [hd,Q1 hx,MF,if_pos hb]
theorem uj {h:List Bool}{l:List Int}{x:Int}(hx:l[q]?=some x)(hd:MF h [] l=MF h (l.take q) (l.drop q))(hb:Ke h x=true)(ht:x∈l.take q):MF h [] l= .error 13:=by
 rw [hd,Q1 hx,MF,if_neg (by rw [hb];decide),if_pos ht]
theorem uu {h:List Bool}{l:List Int}{x:Int}(hx:l[q]?=some x)(hd:MF h [] l=MF h (l.take q) (l.drop q))(hb:Ke h x=true)(ht:x∉l.take q):MF h [] l=MF h (l.take (q+1)) (l.drop (q+1)):=by
 rw [hd,Q1 hx,MF,if_neg (by rw [hb];decide),if_neg ht,OI hx]
theorem pq {h:List Bool}{l:List Int}(hd:MF h [] l=MF h (l.take q) (l.drop q))(hq:l.length≤q):MF h [] l= .ok ():=by
 rw [hd,EP hq,MF]
theorem YG (hm:m.Short)(hk:0≤x.k∧x.k<m.funcs.length)(hn:s.l.length≤80)(hj:j.Fits cx m)(hx:Ky.at cx cs x)(hls:J7.ls cx css s.l)(hS:St cx w L)(hi:nth L i=some (j.res s.h vl css)):
 KD Tryz.prog Q7J [.pointer (some ⟨j.sp,0,none⟩), .agg ⟨cs⟩] w (Pf cx L j i (O6 m s x)) (iX cx L (O6 m s x)):=by
 ((have hS:=hS.out hi;have hle:=Fq hS;obtain ⟨vr,va,rfl,hr,ha⟩:=Nh hx;have hlr:=hr.len;have hla:=ha.len;have hm1:=hj.m;unfold KD;refine Kd Kc Tryz.func248 ?_;refine' KO;intro p3 w1 hS;refine' OQ;refine zC [(0,none),(1,none),(2,none),(3,none),(4,none),(5,none),(6,none),(7,none),(8,none),(9,some (some [4,6,8])),(10,some none)] ?_;have hS:=hS.drew;refine' SP;refine' NB;refine Ra hS rfl fd rfl ?_;refine' So;refine' KA;refine' Nc;intro b1 o1 cs1 x1 hat1 hx1 he1;obtain ⟨vp1,vr1,vb1,rfl,hp1,hr1,hb1⟩:=Qw he1;refine' W7;intro p4 w1 hS;refine' zt;refine ⟨EO.2 ⟨(by (exact AD)),EO.2 ⟨Dk,EO.2 ⟨Er,fun _ h=>(EY h).elim⟩⟩⟩,?_⟩;refine' Lx;refine Ka hS ?_;intro w1 hS;have hS:=hS.ns;refine' Lc;have ej:O6 m s x=(if (x.regs.length:Int)≠x1.regs then .error 2 else JX (MF s.h [] x.regs) fun _=>JX (Ob s x.args x1.params x.regs) fun _=>if 80<s.l.length+x1.results.length then .error 2 else .ok ⟨s.h,s.l++x1.results.map (Mp x.regs)⟩):=by {unfold O6;rw [hx1]};have hsf:=hm.2 x1 (EI hx1);have hrl:=hr1.len;refine' Ki;refine' Mn;(first|(refine fP hS fd vw hls.1 ?_)|(refine' zL));refine' Mn;first|(refine' Qy)|(refine' QD)|(refine' Ad<;>intro hc));all_goals (first|(refine' J9 (c:=Ru hS);rintro v1 w1 ⟨rfl,hS⟩)|(refine Lp (c:=Rv hS) (p:=by rintro v9 w9 ⟨rfl,hS⟩;(repeat (first|refine' Qv|refine' QA|refine fun _=>?_));refine' QW;refine .inr ⟨_,rfl,?_⟩;first|(exact BK)|(exact BI)) (h:=fun _ _ h=>h.elim))));refine' zn;refine' M3;refine' Mn;(first|(refine fP hS fd vw hls.1 ?_)|(refine' zL));refine' NY;refine LQ hS [0,3,4,28,29] (fun A LL ρ' w'=>∃(q:Nat),J2 ρ' A∧J2 ρ' [(30, .int .i64 q)]∧(q≤x.regs.length)∧(MF s.h [] x.regs=MF s.h (x.regs.take q) (x.regs.drop q))∧(¬(x.regs.length:Int)≠x1.regs)∧St cx w' (LL)) (fun ρ' _=>(x.regs.length - iv (ρ' 30)).toNat) ?_ ?_
 · exact ⟨0,zh,zh,Jo,by rfl,Jo,hS.sp⟩
 rintro ρ w1 ⟨q,hA,hρ,hq,hd,hne,hS⟩;obtain ⟨ρ,rfl⟩:=J3 hA hρ;refine' Mq;refine' Ab<;>intro hc
 · skip;refine' Lj;refine' KH;refine' zi;intro b2 o2 cs2 x2 hat2 hx2 he2;obtain rfl:=Qs he2;(first|(refine Ra hS rfl fd rfl ?_)|(refine zl hS ?_)|(refine Sf hS ?_));refine' zm;refine' LZ;refine' cu;refine' zm;refine' J9 (c:=U9 hS fd);rintro v1 w1 ⟨rfl,hS⟩;refine' PK;refine Lp (c:=Vb hS) (p:=by rintro v9 w9 ⟨rfl,hb,hS⟩;(repeat (first|refine' Qv|refine' QA|refine fun _=>?_));refine' QW;refine .inr ⟨_,rfl,?_⟩;exact ⟨_,by rw [ej,if_neg hne,Qr (ur (p:=[]) hx2 hd DA)],rfl,(Fi hS.sp hi)⟩) (h:=?_);rintro v1 w1 ⟨rfl,hb1,hS⟩;refine' zn;refine' Lm;refine' Mn;refine' zm;refine kA vw hr rfl rfl ⟨_,rfl⟩ rfl Jo Jo ?_;intro v4 hs4;rw [FU] at hs4;refine' zm;refine' J9 (c:=QdE Ja hS);rintro v1 w1 ⟨rfl,hS⟩;(first|(refine' J9 (c:=Ru hS);rintro v1 w1 ⟨rfl,hS⟩)|(refine Lp (c:=Rv hS) (p:=by rintro v9 w9 ⟨rfl,hS⟩;(repeat (refine' Qv));refine' QW;refine .inr ⟨_,rfl,?_⟩;first|(exact BK)|(exact BI)) (h:=fun _ _ h=>h.elim))|(refine Lp (c:=Vb hS) (p:=by rintro v9 w9 ⟨rfl,hb,hS⟩;(repeat (first|refine' Qv|refine' QA|refine fun _=>?_));refine' QW;refine .inr ⟨_,rfl,?_⟩;first|(exact BK)|(exact BI)) (h:=?_);rintro v1 w1 ⟨rfl,hb,hS⟩));refine' PX;(exact ⟨⟨q+1,zh,zh,Jo,by exact uu hx2 hd (by simpa using hb1) (of_decide_eq_false hb),hne,hS.sp⟩,Qb Jo⟩)
 · skip
   refine' K2;refine' KH;refine' Mn;refine' Mn;refine' Mn;refine nP (c:=po (s:=s) hsf.1.2 hls ha hp1 hr hS fd) (p:=by rintro v9 w9 ⟨c,g1,rfl,hS⟩;(repeat (first|refine' Qv|refine' QA|refine fun _=>?_));refine' QW;refine .inr ⟨_,rfl,?_⟩;exact ⟨_,by rw [ej,if_neg hne,Q3 (pq hd Jo),Qr g1],rfl,(Fi hS.sp hi)⟩) (h:=?_);rintro v1 w1 ⟨har,rfl,hS⟩;have hrg:=pq hd Jo;refine' OQ;refine zD (ci 11 [10]) ?_;have hS:=hS.drew;refine' zm;refine' cu;refine fP hS fd vw hls.1 ?_;refine' Mn;(first|(refine fP hS fd vw hls.1 ?_)|(refine' zL));refine' Nq;refine eS rfl rfl ?_;refine Lp (c:=Vb hS) (p:=by rintro v9 w9 ⟨rfl,hb,hS⟩;(repeat (first|refine' Qv|refine' QA|refine fun _=>?_));refine' QW;refine .inr ⟨_,rfl,?_⟩;exact ⟨_,by rw [ej,if_neg hne,Q3 hrg,Q3 har,if_pos (by have:=of_decide_eq_true hb;omega)],rfl,(Fi hS.sp hi)⟩) (h:=?_);rintro v1 w1 ⟨rfl,hb,hS⟩;have h80:¬80<s.l.length+x1.results.length:=(by have:=of_decide_eq_false hb;omega);refine' W8;refine' Mn;(first|(refine fP hS fd vw hls.1 ?_)|(refine' zL));refine' NY;refine zo [0,3,71,72] (fun A ρ' w'=>∃(k1:Cx) (q:Nat) (vl2:Value) (cs2:List (List Value)),J2 ρ' A∧J2 ρ' [(73, .int .i64 q)]∧(cx.Le k1)∧(q≤x1.results.length)∧(J7.ls k1 cs2 (s.l++(x1.results.take q).map (Mp x.regs)))∧St k1 w' (blk p4 95 [.int .i64 x1.regs,vp1,vr1,vb1]::blk p3 84 [.int .i64 x.op, .int .i64 x.a, .int .i64 x.b, .int .i64 x.c, .int .i64 x.k, .int .i64 x.n,vr,va]::j.res s.h vl2 cs2::L.eraseIdx i)) (fun ρ' _=>(x1.results.length - iv (ρ' 73)).toNat) ?_ ?_
   · exact ⟨cx,0,vl,css,zh,zh,Fq hS,Jo,by simpa using hls,hS.sp⟩
   rintro ρ w1 ⟨k1,q,vl2,cs2,hA,hρ,hle2,hq,hls,hS⟩;obtain ⟨ρ,rfl⟩:=J3 hA hρ;have hL1:=hle2;(try have hle:=hle.trans hle2);(try have hp1:=hp1.up hle2);(try have hr1:=hr1.up hle2);(try have hb1:=hb1.up hle2);(try have he1:=he1.up hle2);(try have hr:=hr.up hle2);(try have ha:=ha.up hle2);(try have hm1:=hm1.up hle2);refine' Mq;refine' Ab<;>intro hc
   · skip;refine' iz;refine' zi;intro b3 o3 cs3 x3 hat3 hx3 he3;obtain ⟨vl3,rfl,hl3⟩:=Qc he3;refine' MI;intro p8 w1 hS;refine Ka hS ?_;intro w1 hS;have hS:=hS.ns;refine' Sp;refine' Mn;refine' J9 (c:=UZ x3 (hsf.2.1.2 x3 (EI hx3)) he3 hr hS);rintro v1 w1 ⟨c3,ds,rfl,hle2,hu3,hS⟩;(try have hL1:=hL1.trans hle2);(try have hls:=hls.up hle2);have hu3':=hu3;obtain ⟨vu,rfl,hlu⟩:=Qc hu3;refine' Sh;intro p9 w1 hS;refine Ka hS ?_;intro w1 hS;have hS:=hS.ns;refine' Kg;refine' PU;refine Lp (c:=YF (s:=⟨s.h,_⟩) (by simp only [EM,EK,F8];omega) hu3' hls hS fd) (p:=by rintro v9 w9 ⟨rfl,h80',hS⟩;(repeat (first|refine' Qv|refine' QA|refine fun _=>?_));refine' QW;refine .inr ⟨_,rfl,?_⟩;(exfalso;simp only [EM,EK,F8] at h80';omega)) (h:=?_);rintro v1 w1 ⟨rfl,hne80,vl4,cs4,hls4,hS⟩;have hS:=hS.ns;refine' PX;(exact ⟨⟨_,q+1,vl4,cs4,zh,zh,hL1,Jo,by rw [OI hx3,Fa,←FX];exact hls4,hS.sp⟩,Qb Jo⟩)
   · skip;refine' K2;refine' Mo;refine .inl ⟨_,rfl,rfl,k1,⟨s.h,s.l++x1.results.map (Mp x.regs)⟩,vl2,cs2,hL1,by rw [ej,if_neg hne,Q3 hrg,Q3 har,if_neg h80],?_,(F9 hS.sp hi)⟩;rw [E1 Jo] at hls;exact hls
end
section
attribute [local irreducible] Ke Ls Ma MM
variable {cx:Cx}{w:World}{L:List Res}{j:JP}{h:List Bool}{vl:Value}{css:List (List Value)}{i:Nat}{m:Module}
theorem Vd (hal:x.args.length≤8)(hn:s.l.length≤80)(hx:Ky.at cx cs x)(hls:J7.ls cx css s.l)(hS:St cx w L)(hi:nth L i=some (j.res s.h vl css)):
 KD Tryz.prog Q6S [.pointer (some ⟨j.sp,0,none⟩), .agg ⟨cs⟩] w (Pf cx L j i (TZ s x)) (iX cx L (TZ s x)):=by
 have hS:=hS.out hi;obtain ⟨vr,va,rfl,hr,ha⟩:=Nh hx;unfold KD TZ;refine Kd Kc Tryz.func245 ?_;refine' KO;intro p3 w1 hS;refine' PW;refine' Mn;refine NL (c:=Xa hls hS fd) (p:=by rintro v9 w9 ⟨c,h1,rfl,hS⟩;(repeat (first|refine' Qv|refine' QA|refine fun _=>?_));refine' QW;refine .inr ⟨_,rfl,?_⟩;exact BN) (h:=?_);rintro v1 w1 ⟨t,cs1,h1,rfl,hrd,hS⟩;have hrd':=hrd;obtain ⟨vd,rfl,hld⟩:=Qc hrd;refine bp rfl rfl ?_;refine Na [_,_,_] ?_;refine Qe hS ?_;(intro p4 w1 hS);((refine Ka hS ?_;intro w1 hS;have hS:=hS.ns));refine' zn;refine' M3;refine' Mn;refine' PQ;have hS:=HM (T:=115) (es:=3) hS;refine zo [0,4,14,15] (fun A ρ' w'=>∃(q:Nat) (vo:Value) (co:List (List Value)) (ts:List Ty),J2 ρ' A∧J2 ρ' [(16, .int .i64 q)]∧(q≤x.args.length)∧(J7.ls cx co ts)∧(ts.length=q)∧(oneC vo=true)∧(Kb s x.args=JX (Kb s (x.args.drop q)) fun l=> .ok (ts++l))∧St cx w' (sl 115 3 vo co::blk p4 115 [.int .i64 3, .int .i64 t.r,vo]::blk p3 84 [.int .i64 x.op, .int .i64 x.a, .int .i64 x.b, .int .i64 x.c, .int .i64 x.k, .int .i64 x.n,vr,va]::j.res s.h vl css::L.eraseIdx i)) (fun ρ' _=>(x.args.length - iv (ρ' 16)).toNat) ?_ ?_
 · exact C1
 rintro ρ w1 ⟨q,vo,co,ts,hA,hρ,hq,hlo,hlt,hvo,hd,hS⟩;obtain ⟨ρ,rfl⟩:=J3 hA hρ;refine' Mq;refine' Ab<;>intro hc
 · skip;refine' iz;refine' zi;intro b1 o1 cs1 x1 hat1 hx1 he1;obtain rfl:=Qs he1;(first|(refine Ra hS rfl fd rfl ?_)|(refine zl hS ?_)|(refine Sf hS ?_));refine' Kg;refine zC [(0,none),(1,none),(2,none),(3,none),(4,some (some [1])),(5,some (some [1])),(6,some none),(7,none),(8,some none)] ?_;have hS:=hS.drew;refine' L6;refine' cq;refine' ix;refine' Mb;refine' zm;refine' Lu;refine Lp (c:=fQ hls hS fd) (p:=by rintro v9 w9 ⟨c,h2,rfl,hS⟩;(repeat (first|refine' Qv|refine' QA|refine fun _=>?_));refine' QW;refine .inr ⟨_,rfl,?_⟩;exact ⟨_,by rw [Q3 h1,Qr (sk hx1 hd h2)],rfl,(Fi hS.sp hi)⟩) (h:=?_);rintro v1 w1 ⟨t2,cs2,h2,rfl,hrd2,hS⟩;have hrd2':=hrd2;obtain ⟨vd2,rfl,hld2⟩:=Qc hrd2;refine' zt;refine ⟨EO.2 ⟨Dk,fun _ h=>(EY h).elim⟩,?_⟩;refine' Sa;refine KY hS [_,_,_] ?_;intro b1 w1 hS;refine' zt;refine ⟨EO.2 ⟨Dk,fun _ h=>(EY h).elim⟩,?_⟩;refine' Lx;refine za Px PZ hS ?_;intro vp1 w1 css1 hls1 hv1 hS;have hS:=hS.ns;refine' KA;refine' L7;refine' LM;refine LP hS ?_;intro w1 hS;have hS:=hS.ns;refine' Lc;refine' Og;(exact ⟨⟨q+1,_,_,ts++[t2],zh,zh,Jo,hls1,by simp [hlt],by assumption,sm hx1 hd h2,hS.sp⟩,Qb Jo⟩)
 · skip;refine' K2;have hts:=so hd Jo;obtain ⟨c1,hle2,hS,hk1⟩:=FI (r:=J7) hS hlo rfl Jo;have hT:=O3 (k:=3) (r:=t.r) hk1;have hls:=hls.up hle2;obtain ⟨ao,no,rfl⟩:=EU hk1;refine Qu ?_;refine zC [(0,none),(1,none),(2,none),(3,none),(4,none),(5,some (some [0])),(6,some none),(7,none),(8,some none)] ?_;have hS:=hS.drew;refine' L6;refine zv hS ?_;refine' Mb;refine' ag;refine Ra hS rfl fd rfl ?_;refine' Lu;refine' Kv (c:=Va hS fd);rintro v1 w1 ⟨rfl,hS⟩;refine' zt;refine ⟨EO.2 ⟨DQ,fun _ h=>(EY h).elim⟩,?_⟩;refine' Lx;refine' J9 (c:=tp hT hS);rintro v1 w1 ⟨rfl,hS⟩;refine' KA;refine Xw rfl rfl ?_;refine' LM;(first|(refine' J9 (c:=Ru hS);rintro v1 w1 ⟨rfl,hS⟩)|(refine Lp (c:=Rv hS) (p:=by rintro v9 w9 ⟨rfl,hS⟩;(repeat (refine' Qv));refine' QW;refine .inr ⟨_,rfl,?_⟩;first|(exact CF)) (h:=fun _ _ h=>h.elim))|(refine Lp (c:=Vb hS) (p:=by rintro v9 w9 ⟨rfl,hb,hS⟩;(repeat (first|refine' Qv|refine' QA|refine fun _=>?_));refine' QW;refine .inr ⟨_,rfl,?_⟩;first|(exact CF)) (h:=?_);rintro v1 w1 ⟨rfl,hb,hS⟩));refine' Lc;refine' PU;refine Lp (c:=YF (s:=s) Jo hT hls hS fd) (p:=by rintro v9 w9 ⟨rfl,h80',hS⟩;(repeat (first|refine' Qv|refine' QA|refine fun _=>?_));refine' QW;refine .inr ⟨_,rfl,?_⟩;exact ⟨_,by rw [Q3 h1,Q3 hts,if_neg (of_decide_eq_false hb),bR h80'],rfl,Gi (Fi hS.sp hi) hle2⟩) (h:=?_);rintro v1 w1 ⟨rfl,hne80,vl4,cs4,hls4,hS⟩;have hS:=hS.ns;refine' zn;refine' Mo;exact .inl ⟨_,rfl,rfl,c1,⟨s.h,_⟩,vl4,cs4,hle2,by rw [Q3 h1,Q3 hts,if_neg (of_decide_eq_false hb),bQ hne80],hls4,(F9 hS.sp hi)⟩
theorem pr (h:Qj n x=0):Nw n x=0:=by
 unfold Qj at h;split at h
 · cases h
 · split at h
   · cases h
   · exact h
theorem iY (h:Qj n x=0)(ho:x.op=6∨x.op=7):0≤x.k:=by
 have h:=pr h;unfold Nw at h;rcases ho with ho|ho<;>simp [ho] at h<;>omega
theorem Qik (h:Qj n x=0)(ho:x.op=5):x.args.length≤8:=by
 have h:=pr h;unfold Nw at h;simp [ho] at h;omega
theorem uv (h:Qj n x=0)(ho:x.op=14):0≤x.k∧x.k<n:=by
 have h:=pr h;unfold Nw at h;simp [ho] at h;omega
theorem cY (hm:m.Short)(hF:Qj m.funcs.length x=0)(hn:s.l.length≤80)(hh:s.h.length≤16)(hj:j.Fits cx m)(hx:Ky.at cx cs x)(hls:J7.ls cx css s.l)(hS:St cx w L)(hi:nth L i=some (j.res s.h vl css)):
 KD Tryz.prog Q8J [.pointer (some ⟨j.sp,0,none⟩), .agg ⟨cs⟩] w (Pf cx L j i (Kl m j.f s x)) (iX cx L (Kl m j.f s x)):=by
 (have hS:=hS.out hi;have hx':=hx;have hop:=T0 hF;have hlc:=hls.1;have hN:J7.at cx [.int .i64 1, .int .i64 0, .slice none 0 0] J8:=O3 (FL _ _ _);obtain ⟨vr,va,rfl,hr,ha⟩:=Nh hx;unfold KD;refine Kd Kc Tryz.func207 ?_;refine' KO;intro p3 w1 hS;refine' W8;refine Oy [_,_,_] ?_;refine Qe hS ?_;intro p4 w1 hS;refine Ka hS ?_;intro w1 hS;have hS:=hS.ns;refine' W8;refine' Mn;refine' Si;refine' M3;first|(refine' Ql)|(refine' Qn)|(refine' Ac<;>intro hc));all_goals (refine' Kg)
 all_goals
  first
  | (refine' JZ;refine' J5)
  | (refine' J0;(refine' Lm;first|(refine' Ql)|(refine' Qn)|(refine' Ac<;>intro hc));all_goals (refine' zm);all_goals refine' zn)
 all_goals
  first
  | (refine' JZ;all_goals (refine' PU;refine Lp (c:=YF (s:=s) Jo hN hls hS fd) (p:=by rintro v9 w9 ⟨rfl,h80,hS⟩;(repeat (first|refine' Qv|refine' QA|refine fun _=>?_));refine' QW;refine .inr ⟨_,rfl,?_⟩;exact ⟨_,by rw [WV Jo,bR h80],rfl,(Fi hS.sp hi)⟩) (h:=?_);rintro v1 w1 ⟨rfl,hne,vl4,cs4,hls4,hS⟩;have hS:=hS.ns;have hJ:Pf cx L j i (Kl m j.f s x) (.tuple #[]) w1:=⟨rfl,cx,⟨s.h,_⟩,vl4,cs4,Fq hS,by rw [WV Jo,bQ hne],hls4,(F9 hS.sp hi)⟩;refine' zn);all_goals (refine' Mo;exact AM))
  | (refine' J0
     (refine' Ki;first|(refine' Ql)|(refine' Qn)|(refine' Ac<;>intro hc));all_goals (refine' Kg)
     all_goals
      first
      | (refine' JZ;refine' KH;refine' Mn;refine NL (c:=YE (s:=s) hls hS fd) (p:=by rintro v9 w9 ⟨c,h1,rfl,hS⟩;(repeat (first|refine' Qv|refine' QA|refine fun _=>?_));refine' QW;refine .inr ⟨_,rfl,?_⟩;exact ⟨_,by rw [ZW Jo,Qr h1],rfl,(Fi hS.sp hi)⟩) (h:=?_);rintro v1 w1 ⟨t1,cs1,h1,rfl,hrd1,hS⟩;skip;refine' PW;refine' Mn;refine NL (c:=YE (s:=s) hls hS fd) (p:=by rintro v9 w9 ⟨c,h2,rfl,hS⟩;(repeat (first|refine' Qv|refine' QA|refine fun _=>?_));refine' QW;refine .inr ⟨_,rfl,?_⟩;exact ⟨_,by rw [ZW Jo,Q3 h1,Qr h2],rfl,(Fi hS.sp hi)⟩) (h:=?_);rintro v1 w1 ⟨t2,cs2,h2,rfl,hrd2,hS⟩;skip;refine' zn;refine' PU;refine Lp (c:=YF (s:=s) Jo hN hls hS fd) (p:=by rintro v9 w9 ⟨rfl,h80,hS⟩;(repeat (first|refine' Qv|refine' QA|refine fun _=>?_));refine' QW;refine .inr ⟨_,rfl,?_⟩;exact ⟨_,by rw [ZW Jo,Q3 h1,Q3 h2,bR h80],rfl,(Fi hS.sp hi)⟩) (h:=?_);rintro v1 w1 ⟨rfl,hne,vl4,cs4,hls4,hS⟩;have hS:=hS.ns;have hJ:Pf cx L j i (Kl m j.f s x) (.tuple #[]) w1:=⟨rfl,cx,⟨s.h,_⟩,vl4,cs4,Fq hS,by rw [ZW Jo,Q3 h1,Q3 h2,bQ hne],hls4,(F9 hS.sp hi)⟩;refine' zn;refine' Mo;exact AM)
      | (refine' J0
         (refine' Ki;first|(refine' Ql)|(refine' Qn)|(refine' Ac<;>intro hc));all_goals (refine' Kg)
         all_goals
          first
          | (refine' J0
             (refine' Ki;first|(refine' Ql)|(refine' Qn)|(refine' Ac<;>intro hc));all_goals (refine' Kg)
             all_goals
              first
              | (refine' JZ;(refine' KH;refine' Mn;refine NL (c:=Xa (s:=s) hls hS fd) (p:=by rintro v9 w9 ⟨c,h1,rfl,hS⟩;(repeat (first|refine' Qv|refine' QA|refine fun _=>?_));refine' QW;refine .inr ⟨_,rfl,?_⟩;exact ⟨_,by rw [bN Jo,Qr h1],rfl,(Fi hS.sp hi)⟩) (h:=?_);rintro v1 w1 ⟨t1,cs1,h1,rfl,hrd1,hS⟩;obtain ⟨vd1,rfl,hld1⟩:=Qc hrd1;refine bp rfl rfl ?_;refine' Kg;refine' KL;refine' ah;refine Ra hS rfl fd rfl ?_;first|(refine' K0)|(refine' K1)|(refine' Ae<;>intro hc));(all_goals (first|(refine' J9 (c:=Ru hS);rintro v1 w1 ⟨rfl,hS⟩)|(refine Lp (c:=Rv hS) (p:=by rintro v9 w9 ⟨rfl,hS⟩;(repeat (first|refine' Qv|refine' QA|refine fun _=>?_));refine' QW;refine .inr ⟨_,rfl,?_⟩;exact ⟨_,by rw [bN Jo,Q3 h1,if_pos Jo],rfl,(Fi hS.sp hi)⟩) (h:=fun _ _ h=>h.elim))));refine' zn;refine' LF;refine' cu;refine' zm;refine' J9 (c:=YC (WU h1).2.2.2 hS fd);rintro v1 w1 ⟨rfl,hS⟩;have hS:=hS.ns;have hJ:Pf cx L j i (Kl m j.f s x) (.tuple #[]) w1:=⟨rfl,cx,⟨s.h.set t1.r.toNat false,s.l⟩,vl,css,Fq hS,by rw [bN Jo,Q3 h1,if_neg Jo],hls,(F9 hS.sp hi)⟩;refine' zn;refine' Mo;exact AM)
              | (refine' J0
                 (refine' Ki;first|(refine' Ql)|(refine' Qn)|(refine' Ac<;>intro hc));all_goals (refine' Kg)
                 all_goals
                  first
                  | (refine' JZ;refine' PU;refine Lp (c:=Vd (Qik hF Jo) hn hx' hls hS fd) (p:=by rintro v9 w9 ⟨c,g1,rfl,hS⟩;(repeat (first|refine' Qv|refine' QA|refine fun _=>?_));refine' QW;refine .inr ⟨_,rfl,?_⟩;exact ⟨_,by rw [ff Jo];exact g1,rfl,(Fi hS.sp hi)⟩) (h:=?_);rintro v1 w1 ⟨rfl,c1,s1,vl4,cs4,hle,hr1,hls4,hS⟩;have hS:=hS.ns;have hJ:Pf cx L j i (Kl m j.f s x) (.tuple #[]) w1:=⟨rfl,c1,s1,vl4,cs4,hle,by rw [ff Jo];exact hr1,hls4,(F9 hS.sp hi)⟩;refine' zn;refine' Mo;exact AM)
                  | (refine' J0
                     (refine' Ki;first|(refine' Ql)|(refine' Qn)|(refine' Ac<;>intro hc));all_goals (refine' Kg)
                     all_goals
                      first
                      | (refine' JZ;refine zC [(0,none),(1,none),(2,none),(3,none),(4,none),(6,none),(7,none),(5,some (some [7])),(8,some (some [])),(9,some none)] ?_;have hS:=hS.drew;refine' Nz;refine' NM;refine' zm;refine' So;refine' So;refine' Lu;refine NL (c:=Xa (s:=s) hls hS fd) (p:=by rintro v9 w9 ⟨c,h1,rfl,hS⟩;(repeat (first|refine' Qv|refine' QA|refine fun _=>?_));refine' QW;refine .inr ⟨_,rfl,?_⟩;exact ⟨_,by rw [ZX Jo,Qr h1],rfl,(Fi hS.sp hi)⟩) (h:=?_);rintro v1 w1 ⟨t1,cs1,h1,rfl,hrd1,hS⟩;have hrd1':=hrd1;obtain ⟨vd1,rfl,hld1⟩:=Qc hrd1;refine' zt;refine ⟨EO.2 ⟨Dk,fun _ h=>(EY h).elim⟩,?_⟩;refine' Sa;refine NL (c:=lu (j:=j) (iY hF Jo) hrd1' hS) (p:=by rintro v9 w9 ⟨c,h2,rfl,hS⟩;(repeat (first|refine' Qv|refine' QA|refine fun _=>?_));refine' QW;refine .inr ⟨_,rfl,?_⟩;exact ⟨_,by rw [ZX Jo,Q3 h1,Qr h2],rfl,(Fi hS.sp hi)⟩) (h:=?_);rintro v1 w1 ⟨t2,cs2,h2,rfl,hrd2,hS⟩;skip;refine' zt;refine ⟨fun _ h=>(EY h).elim,?_⟩;refine' Lx;refine Lp (c:=YF (s:=s) Jo hrd2 hls hS fd) (p:=by rintro v9 w9 ⟨rfl,h80,hS⟩;(repeat (first|refine' Qv|refine' QA|refine fun _=>?_));refine' QW;refine .inr ⟨_,rfl,?_⟩;exact ⟨_,by rw [ZX Jo,Q3 h1,Q3 h2,bR h80],rfl,(Fi hS.sp hi)⟩) (h:=?_);rintro v1 w1 ⟨rfl,hne,vl4,cs4,hls4,hS⟩;have hS:=hS.ns;have hJ:Pf cx L j i (Kl m j.f s x) (.tuple #[]) w1:=⟨rfl,cx,⟨s.h,_⟩,vl4,cs4,Fq hS,by rw [ZX Jo,Q3 h1,Q3 h2,bQ hne],hls4,(F9 hS.sp hi)⟩;refine' Lc;refine' Mo;exact AM)
                      | (refine' J0
                         (refine' Ki;first|(refine' Ql)|(refine' Qn)|(refine' Ac<;>intro hc));all_goals (refine' Kg)
                         all_goals
                          first
                          | (refine' JZ
                             refine Qu ?_;refine P5 4 8 Jk ?_ ?_
                             · skip
                               refine P5 7 8 Jk ?_ ?_
                               · skip;refine zC [(0,none),(1,none),(2,none),(3,none),(5,none),(6,none),(4,some (some [6])),(7,some none),(8,some none),(9,some none)] ?_;have hS:=hS.drew;refine' Nz;refine' zm;refine' So;refine' So;refine' Lu;refine NL (c:=Xa (s:=s) hls hS fd) (p:=by rintro v9 w9 ⟨c,h1,rfl,hS⟩;(repeat (first|refine' Qv|refine' QA|refine fun _=>?_));refine' QW;refine .inr ⟨_,rfl,?_⟩;exact BO) (h:=?_);rintro v1 w1 ⟨t1,cs1,h1,rfl,hrd1,hS⟩;have hrd1':=hrd1;obtain ⟨vd1,rfl,hld1⟩:=Qc hrd1;refine' zt;refine ⟨EO.2 ⟨Dk,fun _ h=>(EY h).elim⟩,?_⟩;refine' Lx;refine NL (c:=lu (j:=j) (iY hF Jo) hrd1' hS) (p:=by rintro v9 w9 ⟨c,h2,rfl,hS⟩;(repeat (first|refine' Qv|refine' QA|refine fun _=>?_));refine' QW;refine .inr ⟨_,rfl,?_⟩;exact BH) (h:=?_);rintro v1 w1 ⟨t2,cs2,h2,rfl,hrd2,hS⟩;have hrd2':=hrd2;obtain ⟨vd2,rfl,hld2⟩:=Qc hrd2;refine' LM;refine Qe hS ?_;intro p6 w1 hS;refine' LM;refine Ka hS ?_;intro w1 hS;have hS:=hS.ns;refine' Lc;refine zC [(0,none),(1,none),(2,none),(3,none),(4,some (some [0])),(5,some none),(6,none),(7,some none)] ?_;have hS:=hS.drew;refine' L6;refine zv hS ?_;refine' KA;refine' zm;refine' So;refine' Lu;refine Lp (c:=fQ (s:=s) hls hS fd) (p:=by rintro v9 w9 ⟨c,h3,rfl,hS⟩;(repeat (first|refine' Qv|refine' QA|refine fun _=>?_));refine' QW;refine .inr ⟨_,rfl,?_⟩;exact BX) (h:=?_);rintro v1 w1 ⟨t3,cs3,h3,rfl,hrd3,hS⟩;skip;refine' zt;refine ⟨EO.2 ⟨DQ,fun _ h=>(EY h).elim⟩,?_⟩;refine' Lx;refine' J9 (c:=iG _ _ hrd2' hrd3 hS);rintro v1 w1 ⟨rfl,hS⟩;refine' KA;refine' PK;refine' LM;refine Lp (c:=Vb hS) (p:=by rintro v9 w9 ⟨rfl,hb,hS⟩;(repeat (first|refine' Qv|refine' QA|refine fun _=>?_));refine' QW;refine .inr ⟨_,rfl,?_⟩;exact BB) (h:=?_);rintro v1 w1 ⟨rfl,hb,hS⟩;refine' Lc;have hJ:Pf cx L j i (Kl m j.f s x) (.tuple #[]) w1:=⟨rfl,cx,s,vl,css,Fq hS,by rw [T1 Jo,Q3 h1,Q3 h2,Q3 h3,if_neg DA],hls,(F9 hS.sp hi)⟩;refine' Mo;exact AM
                               · skip;refine zC [(0,none),(1,none),(2,none),(3,none),(5,none),(6,none),(4,some (some [6])),(8,some (some [6])),(7,some none),(9,some none)] ?_;have hS:=hS.drew;refine' Nz;refine' zm;refine' So;refine' So;refine' Lu;refine NL (c:=Xa (s:=s) hls hS fd) (p:=by rintro v9 w9 ⟨c,h1,rfl,hS⟩;(repeat (first|refine' Qv|refine' QA|refine fun _=>?_));refine' QW;refine .inr ⟨_,rfl,?_⟩;exact BO) (h:=?_);rintro v1 w1 ⟨t1,cs1,h1,rfl,hrd1,hS⟩;have hrd1':=hrd1;obtain ⟨vd1,rfl,hld1⟩:=Qc hrd1;refine' zt;refine ⟨EO.2 ⟨Dk,fun _ h=>(EY h).elim⟩,?_⟩;refine' Sa;refine Qe hS ?_;intro p6 w1 hS;refine' zt;refine ⟨EO.2 ⟨Dk,fun _ h=>(EY h).elim⟩,?_⟩;refine' Lx;refine NL (c:=lu (j:=j) (iY hF Jo) hrd1' hS) (p:=by rintro v9 w9 ⟨c,h2,rfl,hS⟩;(repeat (first|refine' Qv|refine' QA|refine fun _=>?_));refine' QW;refine .inr ⟨_,rfl,?_⟩;exact BH) (h:=?_);rintro v1 w1 ⟨t2,cs2,h2,rfl,hrd2,hS⟩;have hrd2':=hrd2;obtain ⟨vd2,rfl,hld2⟩:=Qc hrd2;refine' LM;refine Ka hS ?_;intro w1 hS;have hS:=hS.ns;refine' Lc;refine zC [(0,none),(1,none),(2,none),(3,none),(4,some (some [0])),(5,some none),(6,none),(7,some none)] ?_;have hS:=hS.drew;refine' L6;refine zv hS ?_;refine' KA;refine' zm;refine' So;refine' Lu;refine Lp (c:=fQ (s:=s) hls hS fd) (p:=by rintro v9 w9 ⟨c,h3,rfl,hS⟩;(repeat (first|refine' Qv|refine' QA|refine fun _=>?_));refine' QW;refine .inr ⟨_,rfl,?_⟩;exact BX) (h:=?_);rintro v1 w1 ⟨t3,cs3,h3,rfl,hrd3,hS⟩;skip;refine' zt;refine ⟨EO.2 ⟨DQ,fun _ h=>(EY h).elim⟩,?_⟩;refine' Lx;refine' J9 (c:=iG _ _ hrd2' hrd3 hS);rintro v1 w1 ⟨rfl,hS⟩;refine' KA;refine' PK;refine' LM;refine Lp (c:=Vb hS) (p:=by rintro v9 w9 ⟨rfl,hb,hS⟩;(repeat (first|refine' Qv|refine' QA|refine fun _=>?_));refine' QW;refine .inr ⟨_,rfl,?_⟩;exact BB) (h:=?_);rintro v1 w1 ⟨rfl,hb,hS⟩;refine' Lc;have hJ:Pf cx L j i (Kl m j.f s x) (.tuple #[]) w1:=⟨rfl,cx,s,vl,css,Fq hS,by rw [T1 Jo,Q3 h1,Q3 h2,Q3 h3,if_neg DA],hls,(F9 hS.sp hi)⟩;refine' Mo;exact AM
                             · skip;refine zC [(0,none),(1,none),(2,none),(3,none),(5,none),(6,none),(8,some (some [3,6])),(4,some (some [6])),(7,some none),(9,some none)] ?_;have hS:=hS.drew;refine' Nz;refine' zm;refine' So;refine' So;refine' Pu;intro p6 w1 hS;refine' zt;refine ⟨EO.2 ⟨Dk,EO.2 ⟨Dk,fun _ h=>(EY h).elim⟩⟩,?_⟩;refine' Sa;refine NL (c:=Xa (s:=s) hls hS fd) (p:=by rintro v9 w9 ⟨c,h1,rfl,hS⟩;(repeat (first|refine' Qv|refine' QA|refine fun _=>?_));refine' QW;refine .inr ⟨_,rfl,?_⟩;exact BO) (h:=?_);rintro v1 w1 ⟨t1,cs1,h1,rfl,hrd1,hS⟩;have hrd1':=hrd1;obtain ⟨vd1,rfl,hld1⟩:=Qc hrd1;refine' zt;refine ⟨EO.2 ⟨Dk,fun _ h=>(EY h).elim⟩,?_⟩;refine' Lx;refine NL (c:=lu (j:=j) (iY hF Jo) hrd1' hS) (p:=by rintro v9 w9 ⟨c,h2,rfl,hS⟩;(repeat (first|refine' Qv|refine' QA|refine fun _=>?_));refine' QW;refine .inr ⟨_,rfl,?_⟩;exact BH) (h:=?_);rintro v1 w1 ⟨t2,cs2,h2,rfl,hrd2,hS⟩;have hrd2':=hrd2;obtain ⟨vd2,rfl,hld2⟩:=Qc hrd2;refine' LM;refine Ka hS ?_;intro w1 hS;have hS:=hS.ns;refine' Lc;refine zC [(0,none),(1,none),(2,none),(3,none),(4,some (some [0])),(5,some none),(6,none),(7,some none)] ?_;have hS:=hS.drew;refine' L6;refine zv hS ?_;refine' KA;refine' zm;refine' So;refine' Lu;refine Lp (c:=fQ (s:=s) hls hS fd) (p:=by rintro v9 w9 ⟨c,h3,rfl,hS⟩;(repeat (first|refine' Qv|refine' QA|refine fun _=>?_));refine' QW;refine .inr ⟨_,rfl,?_⟩;exact BX) (h:=?_);rintro v1 w1 ⟨t3,cs3,h3,rfl,hrd3,hS⟩;skip;refine' zt;refine ⟨EO.2 ⟨DQ,fun _ h=>(EY h).elim⟩,?_⟩;refine' Lx;refine' J9 (c:=iG _ _ hrd2' hrd3 hS);rintro v1 w1 ⟨rfl,hS⟩;refine' KA;refine' PK;refine' LM;refine Lp (c:=Vb hS) (p:=by rintro v9 w9 ⟨rfl,hb,hS⟩;(repeat (first|refine' Qv|refine' QA|refine fun _=>?_));refine' QW;refine .inr ⟨_,rfl,?_⟩;exact BB) (h:=?_);rintro v1 w1 ⟨rfl,hb,hS⟩;refine' Lc;have hJ:Pf cx L j i (Kl m j.f s x) (.tuple #[]) w1:=⟨rfl,cx,s,vl,css,Fq hS,by rw [T1 Jo,Q3 h1,Q3 h2,Q3 h3,if_neg DA],hls,(F9 hS.sp hi)⟩;refine' Mo;exact AM)
                          | (refine' J0
                             (refine' Ki;first|(refine' Ql)|(refine' Qn)|(refine' Ac<;>intro hc));all_goals (refine' Kg)
                             all_goals
                              first
                              | (refine' JZ;refine' KH;refine' Mn;refine NL (c:=Xa (s:=s) hls hS fd) (p:=by rintro v9 w9 ⟨c,h1,rfl,hS⟩;(repeat (first|refine' Qv|refine' QA|refine fun _=>?_));refine' QW;refine .inr ⟨_,rfl,?_⟩;exact ⟨_,by rw [ZY Jo,Qr h1],rfl,(Fi hS.sp hi)⟩) (h:=?_);rintro v1 w1 ⟨t1,cs1,h1,rfl,hrd1,hS⟩;obtain ⟨vd1,rfl,hld1⟩:=Qc hrd1;refine bp rfl rfl ?_;refine' LZ;refine' Mn;refine NL (c:=YE (s:=s) hls hS fd) (p:=by rintro v9 w9 ⟨c,h2,rfl,hS⟩;(repeat (first|refine' Qv|refine' QA|refine fun _=>?_));refine' QW;refine .inr ⟨_,rfl,?_⟩;exact ⟨_,by rw [ZY Jo,Q3 h1,Qr h2],rfl,(Fi hS.sp hi)⟩) (h:=?_);rintro v1 w1 ⟨t2,cs2,h2,rfl,hrd2,hS⟩;skip;refine' zn;refine' Oj;refine Na [_,_,_] ?_;refine Lp (c:=YF (s:=s) Jo (O3 (k:=4) (r:=t1.r) (l:=[]) (FL _ _ _)) hls hS fd) (p:=by rintro v9 w9 ⟨rfl,h80,hS⟩;(repeat (first|refine' Qv|refine' QA|refine fun _=>?_));refine' QW;refine .inr ⟨_,rfl,?_⟩;exact ⟨_,by rw [ZY Jo,Q3 h1,Q3 h2,bR h80],rfl,(Fi hS.sp hi)⟩) (h:=?_);rintro v1 w1 ⟨rfl,hne,vl4,cs4,hls4,hS⟩;have hS:=hS.ns;have hJ:Pf cx L j i (Kl m j.f s x) (.tuple #[]) w1:=⟨rfl,cx,⟨s.h,_⟩,vl4,cs4,Fq hS,by rw [ZY Jo,Q3 h1,Q3 h2,bQ hne],hls4,(F9 hS.sp hi)⟩;refine' zn)
                              | (refine' J0
                                 (refine' Ki;first|(refine' Ql)|(refine' Qn)|(refine' Ac<;>intro hc));all_goals (refine' Kg)
                                 all_goals
                                  first
                                  | (refine' JZ;refine' KH;refine' Mn;refine NL (c:=Xa (s:=s) hls hS fd) (p:=by rintro v9 w9 ⟨c,h1,rfl,hS⟩;(repeat (first|refine' Qv|refine' QA|refine fun _=>?_));refine' QW;refine .inr ⟨_,rfl,?_⟩;exact ⟨_,by rw [ZZ Jo,Qr h1],rfl,(Fi hS.sp hi)⟩) (h:=?_);rintro v1 w1 ⟨t1,cs1,h1,rfl,hrd1,hS⟩;skip;refine' PW;refine' Mn;refine NL (c:=YE (s:=s) hls hS fd) (p:=by rintro v9 w9 ⟨c,h2,rfl,hS⟩;(repeat (first|refine' Qv|refine' QA|refine fun _=>?_));refine' QW;refine .inr ⟨_,rfl,?_⟩;exact ⟨_,by rw [ZZ Jo,Q3 h1,Qr h2],rfl,(Fi hS.sp hi)⟩) (h:=?_);rintro v1 w1 ⟨t2,cs2,h2,rfl,hrd2,hS⟩;skip;refine' zn;refine' PU;refine Lp (c:=YF (s:=s) Jo hN hls hS fd) (p:=by rintro v9 w9 ⟨rfl,h80,hS⟩;(repeat (first|refine' Qv|refine' QA|refine fun _=>?_));refine' QW;refine .inr ⟨_,rfl,?_⟩;exact ⟨_,by rw [ZZ Jo,Q3 h1,Q3 h2,bR h80],rfl,(Fi hS.sp hi)⟩) (h:=?_);rintro v1 w1 ⟨rfl,hne,vl4,cs4,hls4,hS⟩;have hS:=hS.ns;have hJ:Pf cx L j i (Kl m j.f s x) (.tuple #[]) w1:=⟨rfl,cx,⟨s.h,_⟩,vl4,cs4,Fq hS,by rw [ZZ Jo,Q3 h1,Q3 h2,bQ hne],hls4,(F9 hS.sp hi)⟩;refine' zn)
                                  | (refine' J0
                                     (refine' Ki;first|(refine' Ql)|(refine' Qn)|(refine' Ac<;>intro hc));all_goals (refine' Kg)
                                     all_goals
                                      first
                                      | (refine' JZ;refine' KH;refine' Mn;refine NL (c:=Xa (s:=s) hls hS fd) (p:=by rintro v9 w9 ⟨c,h1,rfl,hS⟩;(repeat (first|refine' Qv|refine' QA|refine fun _=>?_));refine' QW;refine .inr ⟨_,rfl,?_⟩;exact ⟨_,by rw [Z0 Jo,Qr h1],rfl,(Fi hS.sp hi)⟩) (h:=?_);rintro v1 w1 ⟨t1,cs1,h1,rfl,hrd1,hS⟩;skip;refine' PW;refine' Mn;refine NL (c:=YE (s:=s) hls hS fd) (p:=by rintro v9 w9 ⟨c,h2,rfl,hS⟩;(repeat (first|refine' Qv|refine' QA|refine fun _=>?_));refine' QW;refine .inr ⟨_,rfl,?_⟩;exact ⟨_,by rw [Z0 Jo,Q3 h1,Qr h2],rfl,(Fi hS.sp hi)⟩) (h:=?_);rintro v1 w1 ⟨t2,cs2,h2,rfl,hrd2,hS⟩;skip;refine' zn;refine' LF;refine' Mn;refine NL (c:=YE (s:=s) hls hS fd) (p:=by rintro v9 w9 ⟨c,h3,rfl,hS⟩;(repeat (first|refine' Qv|refine' QA|refine fun _=>?_));refine' QW;refine .inr ⟨_,rfl,?_⟩;exact ⟨_,by rw [Z0 Jo,Q3 h1,Q3 h2,Qr h3],rfl,(Fi hS.sp hi)⟩) (h:=?_);rintro v1 w1 ⟨t3,cs3,h3,rfl,hrd3,hS⟩;skip;refine' zn;have hJ:Pf cx L j i (Kl m j.f s x) (.tuple #[]) w1:=⟨rfl,cx,s,vl,css,Fq hS,by rw [Z0 Jo,Q3 h1,Q3 h2,Q3 h3],hls,(F9 hS.sp hi)⟩)
                                      | (refine' J0
                                         (refine' Ki;first|(refine' Ql)|(refine' Qn)|(refine' Ac<;>intro hc));all_goals (refine' Kg)
                                         all_goals
                                          first
                                          | (refine' JZ;refine' KH;refine' Mn;refine NL (c:=Xa (s:=s) hls hS fd) (p:=by rintro v9 w9 ⟨c,h1,rfl,hS⟩;(repeat (first|refine' Qv|refine' QA|refine fun _=>?_));refine' QW;refine .inr ⟨_,rfl,?_⟩;exact ⟨_,by rw [bO Jo,Qr h1],rfl,(Fi hS.sp hi)⟩) (h:=?_);rintro v1 w1 ⟨t1,cs1,h1,rfl,hrd1,hS⟩;skip;refine' zn;refine' PU;refine Lp (c:=YF (s:=s) Jo hN hls hS fd) (p:=by rintro v9 w9 ⟨rfl,h80,hS⟩;(repeat (first|refine' Qv|refine' QA|refine fun _=>?_));refine' QW;refine .inr ⟨_,rfl,?_⟩;exact ⟨_,by rw [bO Jo,Q3 h1,bR h80],rfl,(Fi hS.sp hi)⟩) (h:=?_);rintro v1 w1 ⟨rfl,hne,vl4,cs4,hls4,hS⟩;have hS:=hS.ns;have hJ:Pf cx L j i (Kl m j.f s x) (.tuple #[]) w1:=⟨rfl,cx,⟨s.h,_⟩,vl4,cs4,Fq hS,by rw [bO Jo,Q3 h1,bQ hne],hls4,(F9 hS.sp hi)⟩;refine' zn)
                                          | (refine' J0
                                             (refine' Ki;first|(refine' Ql)|(refine' Qn)|(refine' Ac<;>intro hc));all_goals (refine' Kg)
                                             all_goals
                                              first
                                              | (refine' JZ;refine' LF;refine' Mn;refine NL (c:=YE (s:=s) hls hS fd) (p:=by rintro v9 w9 ⟨c,h1,rfl,hS⟩;(repeat (first|refine' Qv|refine' QA|refine fun _=>?_));refine' QW;refine .inr ⟨_,rfl,?_⟩;exact ⟨_,by rw [fg Jo,Qr h1],rfl,(Fi hS.sp hi)⟩) (h:=?_);rintro v1 w1 ⟨t1,cs1,h1,rfl,hrd1,hS⟩;skip;refine' zn;have hJ:Pf cx L j i (Kl m j.f s x) (.tuple #[]) w1:=⟨rfl,cx,s,vl,css,Fq hS,by rw [fg Jo,Q3 h1],hls,(F9 hS.sp hi)⟩)
                                              | (refine' J0
                                                 refine' Ki;refine' Ql;refine' Kg
                                                 all_goals
                                                  first
                                                  | (refine' JZ;refine' PU;refine Lp (c:=YG hm (uv hF Jo) hn hj hx' hls hS fd) (p:=by rintro v9 w9 ⟨c,g1,rfl,hS⟩;(repeat (first|refine' Qv|refine' QA|refine fun _=>?_));refine' QW;refine .inr ⟨_,rfl,?_⟩;exact ⟨_,by rw [bP Jo];exact g1,rfl,(Fi hS.sp hi)⟩) (h:=?_);rintro v1 w1 ⟨rfl,c1,s1,vl4,cs4,hle,hr1,hls4,hS⟩;have hS:=hS.ns;have hJ:Pf cx L j i (Kl m j.f s x) (.tuple #[]) w1:=⟨rfl,c1,s1,vl4,cs4,hle,by rw [bP Jo];exact hr1,hls4,(F9 hS.sp hi)⟩;refine' zn))))))
                             all_goals (refine' Mo;exact AM))))))
          | (refine' JZ;(refine' KH;refine' cu;refine' Kv (c:=Va hS fd);rintro v1 w1 ⟨rfl,hS⟩;first|(refine' Ql)|(refine' Qn)|(refine' Ac<;>intro hc));(all_goals (refine' Ll;refine' Rb;refine' Ny;(first|refine' J1|(refine' J4;refine Ra hS rfl fd rfl ?_));(first|refine' J1|(refine' J4;refine fP hS fd vw hlc ?_));first|refine' J1|(refine' J4;(first|(refine' Ql)|(refine' Qn)|(refine' Ac<;>intro hc))));all_goals (refine' Ms;first|(refine' J9 (c:=Ru hS);rintro v1 w1 ⟨rfl,hS⟩)|(refine Lp (c:=Rv hS) (p:=by rintro v9 w9 ⟨rfl,hS⟩;(repeat (first|refine' Qv|refine' QA|refine fun _=>?_));refine' QW;refine .inr ⟨_,rfl,?_⟩;exact ⟨_,by rw [fe Jo,if_pos Jo],rfl,(Fi hS.sp hi)⟩) (h:=fun _ _ h=>h.elim))));refine' zn;refine' Oj;refine' cu;refine' Kv (c:=YB (h:=s.h) Jo hS fd);rintro v1 w1 ⟨rfl,hS⟩;have hS:=hS.ns;refine Na [_,_,_] ?_;refine Lp (c:=YF (s:=s) Jo (O3 (k:=2) (r:=s.h.length) (l:=[]) (FL _ _ _)) hls hS fd) (p:=by rintro v9 w9 ⟨rfl,h80,hS⟩;(repeat (first|refine' Qv|refine' QA|refine fun _=>?_));refine' QW;refine .inr ⟨_,rfl,?_⟩;(exfalso;omega)) (h:=?_);rintro v1 w1 ⟨rfl,hne,vl4,cs4,hls4,hS⟩;have hS:=hS.ns;have hJ:Pf cx L j i (Kl m j.f s x) (.tuple #[]) w1:=⟨rfl,cx,⟨s.h++[true],_⟩,vl4,cs4,Fq hS,by rw [fe Jo,if_neg Jo],hls4,(F9 hS.sp hi)⟩;refine' zn;refine' Mo;exact AM)))
end
section
attribute [local irreducible] Ke Ls Ma MM Np KR
variable {cx:Cx}{w:World}{L:List Res}{j:JP}{h:List Bool}{vl:Value}{css:List (List Value)}{i:Nat}{m:Module}
theorem Ve (hsf:j.f.Short)(hb:0≤t.block∧t.block<j.f.blocks.length)(hfb:∀b∈j.f.blocks,j.f.regs≤b.regs)(hh:s.h.length≤16)(hj:j.Fits cx m)(hx:toR.at cx cs t)(hls:J7.ls cx css s.l)(hS:St cx w L)(hi:nth L i=some (j.res s.h vl css)):
 KD Tryz.prog Q9u [.pointer (some ⟨j.sp,0,none⟩), .agg ⟨cs⟩] w (fun u w'=>MG j.f s t= .ok ()∧u= .tuple #[]∧St cx w' L) (iX cx L (MG j.f s t)):=by
 ((have hS:=hS.out hi;obtain ⟨vr,va,rfl,hr,ha⟩:=SG hx;have hlr:=hr.len;have hbl:=hj.b;unfold KD;refine Kd Kc Tryz.func249 ?_;refine' KO;intro p3 w1 hS;refine' OQ;refine zC [(0,none),(1,none),(2,none),(3,none),(4,none),(5,none),(6,none),(7,none),(8,none),(9,some (some [4,6,8])),(10,some none)] ?_;have hS:=hS.drew;refine' SP;refine' NB;refine Ra hS rfl fd rfl ?_;refine' So;refine' KA;refine' Nc;intro b1 o1 cs1 x1 hat1 hx1 he1;obtain ⟨vp1,vc1,ve11,ve12,ve13,ve14,ve15,rfl,hp1,hc1,he11,he12,he13,he14,he15⟩:=QZ he1;refine' W7;intro p4 w1 hS;refine' zt;refine ⟨EO.2 ⟨(by (exact AD)),EO.2 ⟨Dk,EO.2 ⟨Er,fun _ h=>(EY h).elim⟩⟩⟩,?_⟩;refine' Lx;refine Ka hS ?_;intro w1 hS;have hS:=hS.ns;refine' Lc;have hbm:=EI hx1;have hf1:=hfb x1 hbm;have hsb:=hsf.2.2.2 x1 hbm;refine' Ki;refine' Mn;refine' zL;refine' Mn;first|(refine' Qy)|(refine' QD)|(refine' Ad<;>intro hc));all_goals (first|(refine' J9 (c:=Ru hS);rintro v1 w1 ⟨rfl,hS⟩)|(refine Lp (c:=Rv hS) (p:=by rintro v9 w9 ⟨rfl,hS⟩;(repeat (first|refine' Qv|refine' QA|refine fun _=>?_));refine' QW;refine .inr ⟨_,rfl,?_⟩;exact ⟨_,gW hx1 Jo,rfl,(Fi hS.sp hi)⟩) (h:=fun _ _ h=>h.elim))));refine' zn;refine' MN;refine' ah;refine Ra hS rfl fd rfl ?_;refine' NY;refine LQ hS [0,3,4,27] (fun A LL ρ' w'=>∃(q:Nat),J2 ρ' A∧J2 ρ' [(28, .int .i64 q)]∧(q≤j.f.regs.toNat)∧(Np t.regs q=true)∧(¬(t.regs.length:Int)≠x1.regs)∧St cx w' (LL)) (fun ρ' _=>(j.f.regs - iv (ρ' 28)).toNat) ?_ ?_
 · exact ⟨0,zh,zh,Jo,by unfold Np;rfl,Jo,hS.sp⟩
 rintro ρ w1 ⟨q,hA,hρ,hq,hk,hne,hS⟩;obtain ⟨ρ,rfl⟩:=J3 hA hρ;refine' Mq;refine' Ab<;>intro hc
 · skip;(refine' Lj;refine' Nd;refine' Lm;refine' Mn;refine' zm;refine' zi;intro b2 o2 cs2 x2 hat2 hx2 he2;obtain rfl:=Qs he2;(first|(refine Ra hS rfl fd rfl ?_)|(refine zl hS ?_)|(refine Sf hS ?_));refine' zm;first|(refine' Qy)|(refine' QD)|(refine' Ad<;>intro hc));(all_goals (first|(refine' J9 (c:=Ru hS);rintro v1 w1 ⟨rfl,hS⟩)|(refine Lp (c:=Rv hS) (p:=by rintro v9 w9 ⟨rfl,hS⟩;(repeat (first|refine' Qv|refine' QA|refine fun _=>?_));refine' QW;refine .inr ⟨_,rfl,?_⟩;exact ⟨_,kJ hx1 hne (kI (q:=q) Jo DL),rfl,(Fi hS.sp hi)⟩) (h:=fun _ _ h=>h.elim))));refine' PX;(exact CB)
 · skip;refine' K2;have hq':q=j.f.regs.toNat:=Dc;rw [hq'] at hk;refine Qu ?_;refine zD (ci 8 [6,7]) ?_;have hS:=hS.drew;refine' zm;refine' cu;refine' Mn;refine' J9 (c:=YD (h:=s.h) hh hr hS fd);rintro v1 w1 ⟨rfl,hS⟩;refine' LZ;refine Xw rfl rfl ?_;refine' zm;refine Lp (c:=Vb hS) (p:=by rintro v9 w9 ⟨rfl,hb,hS⟩;(repeat (first|refine' Qv|refine' QA|refine fun _=>?_));refine' QW;refine .inr ⟨_,rfl,?_⟩;exact ⟨_,T2 hx1 hne hk (of_decide_eq_true hb),rfl,(Fi hS.sp hi)⟩) (h:=?_);rintro v1 w1 ⟨rfl,hb,hS⟩;refine' zn;refine' LF;refine' Mn;refine' Mn;refine' Mn;refine nP (c:=po (s:=s) hsb.1.2 hls ha hp1 hr hS fd) (p:=by rintro v9 w9 ⟨c,g1,rfl,hS⟩;(repeat (first|refine' Qv|refine' QA|refine fun _=>?_));refine' QW;refine .inr ⟨_,rfl,?_⟩;exact ⟨_,(T3 hx1 hne hk (Fy.1 (of_decide_eq_false hb))).trans g1,rfl,(Fi hS.sp hi)⟩) (h:=?_);rintro v1 w1 ⟨har,rfl,hS⟩;refine' zn;refine' Mo;exact .inl ⟨_,rfl,(T3 hx1 hne hk (Fy.1 (of_decide_eq_false hb))).trans har,rfl,(Fi hS.sp hi)⟩
theorem cZ (hsf:j.f.Short)(hF:QU j.f.blocks.length e=0)(hfb:∀b∈j.f.blocks,j.f.regs≤b.regs)(hfr:j.f.regs≤100000)(hh:s.h.length≤16)(hj:j.Fits cx m)(hx:K3.at cx cs e)(hls:J7.ls cx css s.l)(hS:St cx w L)(hi:nth L i=some (j.res s.h vl css)):
 KD Tryz.prog Q8K [.pointer (some ⟨j.sp,0,none⟩), .agg ⟨cs⟩] w (fun u w'=>Lo j.f s e= .ok ()∧u= .tuple #[]∧St cx w' L) (iX cx L (Lo j.f s e)):=by
 (have hS:=hS.out hi;obtain ⟨v1,v2,v3,v4,v5,rfl,h1,h2,h3,h4,h5⟩:=WR hx;have hop:=SI hF;have hy:e.op≠3→0≤e.yes.block∧e.yes.block<j.f.blocks.length:=fun h=>WW Ev;have hz:e.op=2→0≤e.no.block∧e.no.block<j.f.blocks.length:=fun h=>WW EB;have hT1:toR.at cx [.int .i64 e.yes.block,v1,v2] e.yes:=⟨_,_,rfl,h1,h2⟩;have hT2:toR.at cx [.int .i64 e.no.block,v3,v4] e.no:=⟨_,_,rfl,h3,h4⟩;have hjr:=hj.r;unfold KD;refine Kd Kc Tryz.func210 ?_;refine' KO;intro p3 w1 hS;refine' W8;refine' Mn;refine' Si;refine' Ki;first|(refine' Ql)|(refine' Qn)|(refine' Ac<;>intro hc));all_goals (refine' Kg)
 all_goals
  first
  | (refine' JZ;refine' LF;refine' Pa;refine Lp (c:=Ve (s:=s) hsf (hy Jo) hfb hh hj hT1 hls hS fd) (p:=by rintro v9 w9 ⟨c,g1,rfl,hS⟩;(repeat (first|refine' Qv|refine' QA|refine fun _=>?_));refine' QW;refine .inr ⟨_,rfl,?_⟩;exact ⟨_,(kK Jo).trans g1,rfl,(Fi hS.sp hi)⟩) (h:=?_);rintro v6 w1 ⟨g1,rfl,hS⟩;have hJ:=(kK (f:=j.f) (s:=s) (e:=e) Jo).trans g1;refine' zn;refine' Mo;exact Bt)
  | (refine' J0
     (refine' Ki;first|(refine' Ql)|(refine' Qn)|(refine' Ac<;>intro hc));all_goals (refine' Kg)
     all_goals
      first
      | (refine' JZ;refine' KH;refine' Mn;refine NL (c:=YE (s:=s) hls hS fd) (p:=by rintro v9 w9 ⟨c,g1,rfl,hS⟩;(repeat (first|refine' Qv|refine' QA|refine fun _=>?_));refine' QW;refine .inr ⟨_,rfl,?_⟩;exact ⟨_,by rw [Z1 Jo,Qr g1],rfl,(Fi hS.sp hi)⟩) (h:=?_);rintro v6 w1 ⟨t1,cs1,g1,rfl,hrd1,hS⟩;refine' PW;refine' Pa;refine Lp (c:=Ve (s:=s) hsf (hy Jo) hfb hh hj hT1 hls hS fd) (p:=by rintro v9 w9 ⟨c,g2,rfl,hS⟩;(repeat (first|refine' Qv|refine' QA|refine fun _=>?_));refine' QW;refine .inr ⟨_,rfl,?_⟩;exact ⟨_,by rw [Z1 Jo,Q3 g1,Qr g2],rfl,(Fi hS.sp hi)⟩) (h:=?_);rintro v6 w1 ⟨g2,rfl,hS⟩;refine' zn;refine' LF;refine' Pa;refine Lp (c:=Ve (s:=s) hsf (hz Jo) hfb hh hj hT2 hls hS fd) (p:=by rintro v9 w9 ⟨c,g3,rfl,hS⟩;(repeat (first|refine' Qv|refine' QA|refine fun _=>?_));refine' QW;refine .inr ⟨_,rfl,?_⟩;exact ⟨_,by rw [Z1 Jo,Q3 g1,Q3 g2];exact g3,rfl,(Fi hS.sp hi)⟩) (h:=?_);rintro v6 w1 ⟨g3,rfl,hS⟩;have hJ:Lo j.f s e= .ok ():=(by rw [Z1 Jo,Q3 g1,Q3 g2];exact g3);refine' zn;refine' Mo;exact Bt)
      | (refine' J0
         refine' Ki;refine' Ql;refine' Kg
         all_goals
          first
          | (refine' J0;all_goals (refine' J5);all_goals (refine' Mo;exact Bt))
          | (refine' JZ
             refine' NN;refine' ah;refine Ra hS rfl fd rfl ?_;refine' NY;have hS:=HM (T:=3) (es:=1) hS;refine zo [0,3,34] (fun A ρ' w'=>∃(q:Nat) (vo:Value) (co:List (List Value)),J2 ρ' A∧J2 ρ' [(35, .int .i64 q),(4,vo)]∧(q≤j.f.regs.toNat)∧(JY.ls cx co (KR q))∧((KR q).length=q)∧(e.op=3)∧St cx w' (sl 3 1 vo co::blk p3 90 [.int .i64 e.op, .int .i64 e.a, .int .i64 e.yes.block,v1,v2, .int .i64 e.no.block,v3,v4,v5]::j.res s.h vl css::L.eraseIdx i)) (fun ρ' _=>(j.f.regs - iv (ρ' 35)).toNat) ?_ ?_
             · exact CK
             rintro ρ w1 ⟨q,vo,co,hA,hρ,hq,hlo,hlq,ho3,hS⟩;obtain ⟨ρ,rfl⟩:=J3 hA hρ;refine' Mq;refine' Ab<;>intro hc
             · skip;refine' Lj;refine' Nd;refine' Oj;refine KY hS [_] ?_;intro b1 w1 hS;refine za Ro RQ hS ?_;intro vp1 w1 css1 hls1 hv1 hS;have hS:=hS.ns;refine' Kg;refine' Og;(exact Cw)
             · skip;refine' K2;have hq':q=j.f.regs.toNat:=Dc;rw [hq'] at hlo;obtain ⟨c1,hle2,hS,hk1⟩:=FI (r:=JY) hS hlo rfl (by rw [←hq'];omega);have hls':=hls.up hle2;have h5':=h5.up hle2;have hjr':=hjr.up hle2;refine Qu ?_;refine zD (ci 10 [9]) ?_;have hS:=hS.drew;refine' zm;refine' Mn;refine' zm;refine' ah;refine Ra hS rfl fd rfl ?_;refine' zm;refine nP (c:=po (s:=s) hsf.2.1.2 hls' h5' hjr' hk1 hS fd) (p:=by rintro v9 w9 ⟨c,g1,rfl,hS⟩;(repeat (first|refine' Qv|refine' QA|refine fun _=>?_));refine' QW;refine .inr ⟨_,rfl,?_⟩;exact ⟨_,by rw [bT ho3,Qr g1],rfl,Gi (Fi hS.sp hi) hle2⟩) (h:=?_);rintro v6 w1 ⟨har,rfl,hS⟩;refine' zn;refine zC [(0,none),(1,none),(2,none),(3,none),(6,none),(7,none),(8,none),(9,none),(10,none),(4,some (some [10])),(5,none),(11,none),(12,some none)] ?_;have hS:=hS.drew;refine' SP;refine Ra hS rfl fd rfl ?_;refine' Mb;refine' ag;refine' NB;refine Ra hS rfl fd rfl ?_;refine' Lu;refine' Kv (c:=YA (h:=s.h) hh hS fd);rintro v1 w1 ⟨c2,hle3,hk2,hS⟩;have hS:=Gi hS hle3;have hS:=Gi hS hle2;have hl2:=hk2.len;refine' zt;refine ⟨EO.2 ⟨(by (exact AD)),fun _ h=>(EY h).elim⟩,?_⟩;refine' L6;refine' zL;refine' KA;refine eS rfl rfl ?_;refine' LM;refine Lp (c:=Vb hS) (p:=by rintro v9 w9 ⟨rfl,hb,hS⟩;(repeat (first|refine' Qv|refine' QA|refine fun _=>?_));refine' QW;refine .inr ⟨_,rfl,?_⟩;exact ⟨_,by rw [bT ho3,Q3 har,if_pos (by have:=of_decide_eq_true hb;omega)],rfl,(Fi hS.sp hi)⟩) (h:=?_);rintro v1 w1 ⟨rfl,hb,hS⟩;have hJ:Lo j.f s e= .ok ():=(by rw [bT ho3,Q3 har,if_neg (by have:=of_decide_eq_false hb;omega)]);refine' Lc;refine' Mo;exact Bt)))
end
section
attribute [local irreducible] Ke Ls Ma MM Np KR
variable {cx:Cx}{w:World}{L:List Res}{j:JP}{h:List Bool}{vl:Value}{css:List (List Value)}{i:Nat}{m:Module}
theorem QiQ {n:Int}(hS:St cx w (blk p 3 [.int .i64 n]::L)):Ua Tryz.prog tZ [.pointer (some ⟨p,0,none⟩)] .returning w fun u' w'=>u'= .returning∧St cx w' (blk p 3 [.int .i64 n]::L):=by
 unfold Ua;refine sT Kc Tryz.func237 ?_;refine' Z6;refine' ik;refine' zn;refine' Kg;refine' ij;refine' KH;refine Uf (ms:=#[]) Jk rfl ?_;refine' zn;refine' PV;refine' Ub;refine' Mo;exact ⟨⟨_,rfl⟩,rfl,hS.sp⟩
theorem QiP {n e:Int}(hS:St cx w (blk p 3 [.int .i64 n]::L)):Ua Tryz.prog tZ [.pointer (some ⟨p,0,none⟩)] (.panicking [{v:=RU e,recovered:=false}]) w fun u' w'=>u'= .panicking [{v:=RU e,recovered:=true}]∧St cx w' (blk p 3 [.int .i64 e]::L):=by
 unfold Ua;refine sT Kc Tryz.func237 ?_;refine' Z6;refine' ik;refine' zn;refine' Kg;refine' ij;refine' KH;refine Ug (ms:=#[]) Jk rfl ?_;refine' zn;refine' JZ;refine' KH;refine T9 (D:= .int .i64) Jk (by intro m;exact TypeDesc.noConfusion) rfl ?_;refine' W3;refine' PV;refine' LF;refine LP hS ?_;intro w1 hS;have hS:=hS.ns;refine' zn;refine' Ub;refine' Mo;exact ⟨⟨_,rfl⟩,rfl,hS.sp⟩
theorem uw {f:FuncId}{cap:List Value}{X:Cx→List Res→Prop}{Y:Int→Cx→List Res→Prop}(hf:PF Tryz.prog f=true)
 (hc:∀(p:Nat) (w:World),St cx w (blk p 3 [.int .i64 0]::L)→KD Tryz.prog f cap w (fun _ w'=>∃c' L',cx.Le c'∧St c' w' (blk p 3 [.int .i64 0]::L')∧X c' L') (fun u w'=>∃e c' L',u=RU e∧cx.Le c'∧St c' w' (blk p 3 [.int .i64 0]::L')∧Y e c' L'))(hS:St cx w L):
 JW Tryz.prog Qc2 [.func (.func f) #[] ⟨cap⟩] w fun u w'=>∃e c' L',u= .int .i64 e∧cx.Le c'∧St c' w' L'∧(e=0∧X c' L'∨Y e c' L'):=by
 refine zg Kc Tryz.func205 ?_;refine' Z5;refine' ig;refine' Lm;refine Qe hS ?_;(intro p2 w1 hS);refine' zn;refine' Z5;refine' nM;refine' gx;refine' zn;refine ⟨_,_,rfl,?_⟩;refine' zn;refine' ig;refine' KH;refine X5 rfl hf rfl (hc _ _ hS) (by rintro v9 w9 ⟨e,c1,L1,rfl,hle,hS,hY⟩;(repeat (first|refine' Qv|refine' QA));refine' ca;refine sJ (by intro h;cases h) Jk (QiP hS) ?_;rintro u' w' ⟨rfl,hS⟩;refine' sK;refine Lw vw (sL Jk (hS.blkAt KG) rfl) ?_;exact ⟨_,rfl,e,c1,L1,rfl,hle,hS.drop, .inr hY⟩) ?_;rintro v1 w1 ⟨c1,L1,hle,hS,hX⟩;refine' W8;refine LP hS ?_;intro w1 hS;have hS:=hS.ns;refine' L8;refine' bZ;refine sJ (by intro h;cases h) Jk (QiQ hS) ?_;rintro u1 w1 ⟨rfl,hS⟩;refine' sK;refine Lw vw (sL Jk (hS.blkAt fd) rfl) ?_;((exact ⟨_,rfl,0,c1,L1,rfl,hle,hS.drop, .inl ⟨rfl,hX⟩⟩))
theorem YH (hm:m.Short)(hF:Qj m.funcs.length x=0)(hn:s.l.length≤80)(hh:s.h.length≤16)(hj:j.Fits cx m)(hx:Ky.at cx cs x)(hls:J7.ls cx css s.l)
 (hS:St cx w (blk p 3 [.int .i64 0]::blk pb 84 cs::blk pa 207 [.pointer (some ⟨j.sp,0,none⟩)]::j.res s.h vl css::L)):
 KD Tryz.prog Q6U [.pointer (some ⟨pa,0,none⟩), .pointer (some ⟨pb,0,none⟩)] w
  (fun _ w'=>∃c' L',cx.Le c'∧St c' w' (blk p 3 [.int .i64 0]::L')∧∃s' vl' css',Kl m j.f s x= .ok s'∧J7.ls c' css' s'.l∧L'=blk pb 84 cs::blk pa 207 [.pointer (some ⟨j.sp,0,none⟩)]::j.res s'.h vl' css'::L)
  (fun u w'=>∃e c' L',u=RU e∧cx.Le c'∧St c' w' (blk p 3 [.int .i64 0]::L')∧Kl m j.f s x= .error e∧c'=cx∧L'=blk pb 84 cs::blk pa 207 [.pointer (some ⟨j.sp,0,none⟩)]::j.res s.h vl css::L):=by
 have hx':=hx;obtain ⟨vr,va,rfl,hr,ha⟩:=Nh hx;unfold KD;refine Kd Kc Tryz.func206 ?_;refine' Lm;refine zl hS ?_;refine zv hS ?_;refine Lp (c:=cY hm hF hn hh hj hx' hls hS fd) (p:=by rintro v9 w9 ⟨c,g1,rfl,hS⟩;(repeat (first|refine' Qv|refine' QA|refine fun _=>?_));refine' QW;refine .inr ⟨_,rfl,?_⟩;exact ⟨c,cx,_,rfl,Fq hS,hS,g1,rfl,rfl⟩) (h:=?_);rintro v1 w1 ⟨rfl,c1,s1,vl4,cs4,hle,hr1,hls4,hS⟩;have hS:=hS.ns;refine' zn;refine' Mo;exact .inl ⟨_,rfl,c1,_,hle,hS,s1,vl4,cs4,hr1,hls4,rfl⟩
theorem da (hm:m.Short)(hn:s.l.length≤80)(hh:s.h.length≤16)(hj:j.Fits cx m)(hx:Ky.at cx cs x)(hls:J7.ls cx css s.l)(hS:St cx w L)(hi:nth L i=some (j.res s.h vl css)):
 JW Tryz.prog Q8L [.pointer (some ⟨j.sp,0,none⟩), .agg ⟨cs⟩] w fun u w'=>u= .int .i64 (Ko m j.f s x).1∧∃c' vl' css',cx.Le c'∧J7.ls c' css' (Ko m j.f s x).2.l∧St c' w' (L.set i (j.res (Ko m j.f s x).2.h vl' css')):=by
 (have hS:=hS.out hi;have hx':=hx;obtain ⟨vr,va,rfl,hr,ha⟩:=Nh hx;unfold Ko;refine Kd Kc Tryz.func148 ?_;refine' KO;intro p2 w1 hS;refine zb hS ?_;intro p3 w1 hS;refine' SO;refine zD (ci 7 [5,6]) ?_;have hS:=hS.drew;refine' ix;refine' Mm;refine lr hS rfl fd rfl rfl ?_;(first|(refine lr hS rfl fd rfl rfl ?_)|(refine zv hS ?_));refine' J9 (c:=cW (m:=m) ⟨_,rfl,hj.m⟩ hx' hS);rintro v1 w1 ⟨rfl,hS⟩;refine' LZ;first|(refine' Qy)|(refine' QD)|(refine' Ad<;>intro hc));all_goals (refine' zn)
 all_goals
  first
  | (refine' JZ;refine' O9;(exact C2))
  | (refine' J0;refine' J5)
 refine' Ki;refine' gx;refine' Kv (c:=uw Jk (fun p w hS=>YH (s:=s) hm Jo hn hh hj hx' hls hS) hS.sp);rintro v1 w1 ⟨e,c1,L1,rfl,hle,hS,⟨rfl,s1,vl4,cs4,hr1,hls4,rfl⟩|⟨hr1,rfl,rfl⟩⟩;all_goals (refine' KN;(first|(exact C2)|(exact ⟨_,rfl,by rw [if_neg Jo,hr1],c1,vl4,cs4,hle,by rw [if_neg Jo,hr1];exact hls4,by rw [if_neg Jo,hr1];exact (F9 hS.sp hi)⟩)|(exact ⟨_,rfl,by rw [if_neg Jo,hr1],_,vl,css,Fq hS,by rw [if_neg Jo,hr1];exact hls,by rw [if_neg Jo,hr1];exact (F9 hS.sp hi)⟩)))
theorem YI {x:Tail}(hsf:j.f.Short)(hF:QU j.f.blocks.length x=0)(hfb:∀b∈j.f.blocks,j.f.regs≤b.regs)(hfr:j.f.regs≤100000)(hh:s.h.length≤16)(hj:j.Fits cx m)(hx:K3.at cx cs x)(hls:J7.ls cx css s.l)
 (hS:St cx w (blk p 3 [.int .i64 0]::blk pb 90 cs::blk pa 207 [.pointer (some ⟨j.sp,0,none⟩)]::j.res s.h vl css::L)):
 KD Tryz.prog Q6V [.pointer (some ⟨pa,0,none⟩), .pointer (some ⟨pb,0,none⟩)] w
  (fun _ w'=>∃c' L',cx.Le c'∧St c' w' (blk p 3 [.int .i64 0]::L')∧Lo j.f s x= .ok ()∧c'=cx∧L'=blk pb 90 cs::blk pa 207 [.pointer (some ⟨j.sp,0,none⟩)]::j.res s.h vl css::L)
  (fun u w'=>∃e c' L',u=RU e∧cx.Le c'∧St c' w' (blk p 3 [.int .i64 0]::L')∧Lo j.f s x= .error e∧c'=cx∧L'=blk pb 90 cs::blk pa 207 [.pointer (some ⟨j.sp,0,none⟩)]::j.res s.h vl css::L):=by
 have hx':=hx;obtain ⟨u1,u2,u3,u4,u5,rfl,h1,h2,h3,h4,h5⟩:=WR hx;unfold KD;refine Kd Kc Tryz.func209 ?_;refine' Lm;refine zl hS ?_;refine zv hS ?_;refine Lp (c:=cZ hsf hF hfb hfr hh hj hx' hls hS fd) (p:=by rintro v9 w9 ⟨c,g1,rfl,hS⟩;(repeat (first|refine' Qv|refine' QA|refine fun _=>?_));refine' QW;refine .inr ⟨_,rfl,?_⟩;exact ⟨c,cx,_,rfl,Fq hS,hS,g1,rfl,rfl⟩) (h:=?_);rintro v1 w1 ⟨hr1,rfl,hS⟩;refine' zn;refine' Mo;exact .inl ⟨_,rfl,cx,_,Fq hS,hS,hr1,rfl,rfl⟩
theorem db {x:Tail}(hsf:j.f.Short)(hfb:∀b∈j.f.blocks,j.f.regs≤b.regs)(hfr:j.f.regs≤100000)(hh:s.h.length≤16)(hj:j.Fits cx m)(hx:K3.at cx cs x)(hls:J7.ls cx css s.l)(hS:St cx w L)(hi:nth L i=some (j.res s.h vl css)):
 JW Tryz.prog Q8M [.pointer (some ⟨j.sp,0,none⟩), .agg ⟨cs⟩] w fun u w'=>u= .int .i64 (Lz j.f s x)∧St cx w' L:=by
 (have hS:=hS.out hi;have hx':=hx;obtain ⟨u1,u2,u3,u4,u5,rfl,h1,h2,h3,h4,h5⟩:=WR hx;unfold Lz;refine Kd Kc Tryz.func149 ?_;refine' KO;intro p2 w1 hS;refine zb hS ?_;intro p3 w1 hS;refine' SO;refine zD (ci 7 [5,6]) ?_;have hS:=hS.drew;refine' ix;refine' Mm;refine lr hS rfl fd rfl rfl ?_;(first|(refine lr hS rfl fd rfl rfl ?_)|(refine zv hS ?_));refine' J9 (c:=cX (x:=j.f) ⟨_,_,_,rfl,hj.p,hj.r,hj.b⟩ hx' hS);rintro v1 w1 ⟨rfl,hS⟩;refine' LZ;first|(refine' Qy)|(refine' QD)|(refine' Ad<;>intro hc));all_goals (refine' zn)
 all_goals
  first
  | (refine' JZ;refine' O9;(exact CY))
  | (refine' J0;refine' J5)
 refine' Ki;refine' gx;refine' Kv (c:=uw Jk (fun p w hS=>YI (s:=s) hsf Jo hfb hfr hh hj hx' hls hS) hS.sp);rintro v1 w1 ⟨e,c1,L1,rfl,hle,hS,⟨rfl,hr1,rfl,rfl⟩|⟨hr1,rfl,rfl⟩⟩;all_goals (refine' KN;(first|(exact CY)|(exact ⟨_,rfl,by rw [if_neg Jo,hr1],(Fi hS.sp hi)⟩)))
end
section
attribute [local irreducible] Ke Ls Ma MM Np KR Module.fault
variable {cx:Cx}{w:World}{L:List Res}{j:JP}{h:List Bool}{vl:Value}{css:List (List Value)}{i:Nat}{m:Module}
theorem Vf (hl:J7.sl cx v l)(hb:l.length≤1000000)(hS:St cx w L):JW Tryz.prog Q2Z [v] w fun u w'=>oneC u=true∧∃css,J7.ls cx css l∧St cx w' (sl 115 3 u css::L):=by
 obtain ⟨a,c,hv⟩:=EU hl
 cases a with
 | none=>
   have hl0:=IX hl hv;subst hl0;subst hv;refine Kd Kc Tryz.func203 ?_;refine' NN;refine kn (e:=115) Jk rfl rfl ?_;refine' zn
   all_goals
    first
    | (refine' JZ;refine' Kw;(exact ⟨_,rfl,rfl,[],FY _ _ _,hS.nil⟩))
   all_goals (refine' Ki; fail "no law for buildSlice"; refine' zm; refine za Px PZ hS ?_; intro vp1 w1 css1 hls1 hv1 hS; have hS := hS.ns; refine' KN; exact ⟨_, rfl, rfl, [], FY _ _ _, hS.nil⟩)
 | some a=>
   have hn:J7.ls cx [] []:=FY _ _ _;refine Kd Kc Tryz.func203 ?_;refine' NN;refine kn (e:=115) Jk hv rfl ?_;refine' zn;refine' PV;refine' Ki;refine rV Px ?_;intro v1 w1 hf1 hs1 hz1;have hS:=hS.new (r:=sl 115 3 v1 []) hs1 hf1 (fun b hb=>I2 hb.symm);refine' zm;(first|(refine za Px PZ hS ?_;intro vp1 w1 css1 hls1 hv1 hS;have hS:=hS.ns)|(refine nQ Px PZ hS ?_;intro vp1 w1 css1 hls1 hv1 hS;have hS:=hS.ns));refine' KN;(exact ⟨_,rfl,by assumption,_,hls1,hS.sp⟩)
theorem JP.shut (hS:St cx w (blk j.sp 258 (j.cells vl)::blk j.hp 296 [v]::sl 4 1 v (h.map QG)::sl 115 3 vl css::L)):St cx w (j.res h vl css::L):=by
 have h1:St cx w (Yw j.hp h::sl 115 3 vl css::blk j.sp 258 (j.cells vl)::L):=cQ (hS.perm (by
  refine List.Perm.trans (List.Perm.swap _ _ _) (List.Perm.cons _ ?_);refine List.Perm.trans (List.Perm.swap _ _ _) (List.Perm.cons _ ?_);exact List.Perm.swap _ _ _))
 exact Ho (I7 (Ho h1))
theorem dc {f b:Int}(hm:m.Short)(hx:K6.at cx cs m)(hS:St cx w L):
 JW Tryz.prog tY [.agg ⟨cs⟩, .int .i64 f, .int .i64 b] w fun u w'=>
  (m.fault.1≠0∧u= .tuple #[.pointer none,Kn m.fault]∧St cx w' L)∨
  (m.fault.1=0∧((f<0∨m.funcs.length≤f)∨∃fn,m.funcs[f.toNat]?=some fn∧(b<0∨fn.blocks.length≤b))∧u= .tuple #[.pointer none,Kn (1, -1)]∧St cx w' L)∨
  (∃(fn:Fun) (y:Block) (j:JP) (c':Cx) (vl:Value) (css:List (List Value)),m.fault.1=0∧0≤f∧0≤b∧m.funcs[f.toNat]?=some fn∧fn.blocks[b.toNat]?=some y∧u= .tuple #[.pointer (some ⟨j.sp,0,none⟩),Kn (0,0)]∧cx.Le c'∧j.Fits c' m∧j.f=fn∧J7.ls c' css y.params∧St c' w' (j.res (Mh y).h vl css::L)):=by
 (obtain ⟨vf,rfl,hf⟩:=NV hx;obtain ⟨a0,n0,rfl⟩:=EU hf;have hlf:=hf.len;refine Kd Kc Tryz.func147 ?_;refine' KO;intro p3 w1 hS;refine' zm;refine Qe hS ?_;intro p7 w1 hS;refine' zn;refine' W0;refine' Kv (c:=uq hm hx hS);rintro v1 w1 ⟨rfl,hS⟩;unfold Kn;refine Qe hS ?_;intro p8 w1 hS;refine Ka hS ?_;intro w1 hS;have hS:=hS.ns;refine' OR;first|(refine' Qy)|(refine' QD)|(refine' Ad<;>intro hc));all_goals (refine' zn)
 all_goals
  first
  | (refine' JZ;refine Qu ?_;refine zD (ci 3 [2]) ?_;have hS:=hS.drew;refine zv hS ?_;refine' zm;((refine Ka hS ?_;intro w1 hS;have hS:=hS.ns));refine' L8;refine mA vw vw (Q4 (n:=2) Jk Jk (hS.blkAt fd) Jr Jr) ?_;(exact A9))
  | (refine' J0;refine' J5)
 refine PM hS [1,2,3,7] (fun A LL ρ' w'=>J2 ρ' A∧J2 ρ' []∧(m.fault.1=0)∧(0≤f∧f<m.funcs.length∧∃fn,m.funcs[f.toNat]?=some fn∧0≤b∧b<fn.blocks.length)∧St cx w' (LL)) ?_ ?_
 · skip
   ((((refine' KH;first|(refine' K0)|(refine' K1)|(refine' Ae<;>intro hc));all_goals (refine' Ll;refine' MO;refine' M0;first|refine' J1|(refine' J4;(first|(refine' Ml)|(refine' Mz)|(refine' Ag<;>intro hc)))));all_goals (refine' Pw;first|refine' J1|(refine' J4;(first|(refine' K0)|(refine' K1)|(refine' Ae<;>intro hc)))));all_goals (refine' Pw;refine' MO;refine' Mi;(first|refine' J1|(refine' J4;refine' Nc;intro b1 o1 cs1 x1 hat1 hx1 he1;obtain ⟨vp1,vr1,vb1,rfl,hp1,hr1,hb1⟩:=Qw he1));refine' Nt;refine' nR;refine' M0;first|refine' J1|(refine' J4;(first|(refine' Ml)|(refine' Mz)|(refine' Ag<;>intro hc)))));all_goals (refine' KU;skip)
   all_goals
    first
    | (refine' J0;refine' J5)
    | (refine' JZ;all_goals (refine' Ki;refine Na [_,_] ?_;refine' zm;refine Ka hS ?_;intro w1 hS;have hS:=hS.ns;refine' L8;refine mA vw vw (Q4 (n:=2) Jk Jk (hS.blkAt fd) Jr Jr) ?_);all_goals (first|(exact A9)|(exact Cg)|(exact B7)|(exact ⟨_,rfl, .inr (.inl ⟨Jo, .inr ⟨_,EH (i:=f.toNat) Jo, .inl Jo⟩,rfl,hS.sp⟩)⟩)|(exact CG)))
   ((exact ⟨zh,zh,Jo,by refine ⟨Jo,Jo,x1,hx1,Jo,Jo⟩,hS.sp⟩))
 rintro ρ w1 ⟨hA,hρ,hz,hb,hS⟩;obtain ⟨ρ,rfl⟩:=J3 hA hρ;refine' Nr;refine' Kv (c:=QhK hm hx hS);rintro v1 w1 ⟨c1,ds,rfl,hle,hm2,hS⟩;obtain ⟨vm,rfl,hf2⟩:=NV hm2;obtain ⟨hb1,hb2,fn,hfn,hb3,hb4⟩:=hb;refine Oy [_,_,_,_,_,_,_] ?_;refine zb hS ?_;intro p45 w1 hS;refine' Kg;skip;refine' KL;refine' Uk;refine' zm;refine' Nc;intro b2 o2 cs2 x2 hat2 hx2 he2;obtain ⟨vp2,vr2,vb2,rfl,hp2,hr2,hb2⟩:=Qw he2;refine' MZ;refine' Mm;(first|(refine Ka hS ?_;intro w1 hS;have hS:=hS.ns)|(refine cj hS ?_;intro w1 hS;have hS:=hS.ns));refine' zn;obtain rfl:fn=x2:=E4 (hfn.symm.trans hx2);have hsf:=hm.2 fn (EI hfn);refine' KH;refine' Uk;refine' zm;refine' Nc;intro b3 o3 cs3 x3 hat3 hx3 he3;obtain ⟨vp3,vc3,ve31,ve32,ve33,ve34,ve35,rfl,hp3,hc3,he31,he32,he33,he34,he35⟩:=QZ he3;refine' MI;intro p10 w1 hS;refine Ka hS ?_;intro w1 hS;have hS:=hS.ns;refine' zn;refine' NA;refine' Kv (c:=iS hS);rintro v1 w1 ⟨hp,vh,rfl,hS⟩;refine' Mm;refine LP hS ?_;intro w1 hS;have hS:=hS.ns;refine' zn;refine' NA;refine' Kv (c:=Vf hp3 (by have:=(hsf.2.2.2 x3 (EI hx3)).1.1;omega) hS);rintro v1 w1 ⟨hvl,css4,hls4,hS⟩;refine' Mm;refine LP hS ?_;intro w1 hS;have hS:=hS.ns;refine' PW;refine MA [_,_] ?_;refine' zm;refine Ka hS ?_;intro w1 hS;have hS:=hS.ns;refine' L8;refine mA vw vw (Q4 (n:=2) Jk Jk (hS.blkAt fd) Jr Jr) ?_;(first|(exact A9)|(exact Cg)|(exact B7)|(exact ⟨_,rfl, .inr (.inl ⟨Jo, .inr ⟨_,EH (i:=f.toNat) Jo, .inl Jo⟩,rfl,hS.sp⟩)⟩)|(exact CG)|(exact ⟨_,rfl, .inr (.inr ⟨fn,x3,⟨p45,hp,fn,vm,vp2,vr2,vb2⟩,c1,_,css4,hz,Jo,Jo,hfn,hx3,rfl,hle,⟨hf2,hp2,hr2,hb2⟩,rfl,hls4,JP.shut (v:=vh) hS.sp⟩)⟩))
end
end Go.Proofs.YteflkifmgnpbhaaGreat
