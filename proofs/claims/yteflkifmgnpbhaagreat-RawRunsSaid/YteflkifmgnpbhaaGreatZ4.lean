
/- Lemmas of the proof, part 4: what the functions of the program do (contracts), and what follows. -/
import Derived.Test.YteflkifmgnpbhaaGreatZ3
import Derived.Test.YteflkifmgnpbhaaGreatZ2
open Go Go.Lir Go.Proofs.YteflkifmgnpbhaaGreat
variable {α:Type}{b y:Block}{pp u vf:Value}{cs ds:List Value}{q j N p1:Nat}{a k n regs i:Int}{s:MS}{e:Tail}{rv:List RegV}{l vs:List Int}{g':RFV}{f:Fun}{r d:Res}{t:To}{m:Module}{v:Val}{g:Frm}{h:HpS}{X:Stp}{p:α→Prop}
set_option linter.unusedVariables false
set_option linter.unusedSimpArgs false
set_option maxHeartbeats 1000000
namespace Go.Lir
section
variable {p:Prop}
theorem DI (h:p:=by simp only [FP,F8];omega):p:=h
theorem DJ (h:p:=by simp [Qs]):p:=h
theorem DL (h:p:=by rw [e];assumption):p:=h
theorem DQ (h:p:=by rw [FF];omega):p:=h
theorem DU (h:p:=by rw [Sc];decide):p:=h
theorem DV (h:p:=by unfold QK;rw [if_pos Jo]):p:=h
theorem DW (h:p:=by rw [e];simp):p:=h
theorem DX (h:p:=by show g.vals.length+1≤1000000;omega):p:=h
theorem DY (h:p:=by rw [Ol (c:=1) (by unfold QK;rw [if_pos Jo]) Jd];simp):p:=h
theorem DZ (h:p:=by unfold QD;rw [if_pos Jo]):p:=h
theorem D1 (h:p:=by unfold QK;rw [if_neg Jo,if_pos Ja]):p:=h
theorem D2 (h:p:=by unfold QD;rw [if_neg Jo,if_pos Ja]):p:=h
theorem D8 (h:p:=by unfold QD;rw [if_neg Jo,if_neg Jo,if_pos (hq.1 rfl)]):p:=h
theorem Eb (h:p:=by unfold QK;rw [if_neg Jo,if_neg Ja,if_pos Ja]):p:=h
theorem Ec (h:p:=by (exact AS)):p:=h
theorem Ef (h:p:=by unfold QK;rw [if_neg Jo,if_neg Ja,if_neg Ja,if_pos Jo]):p:=h
theorem Eh (h:p:=by intro h;cases h):p:=h
theorem Eo (h:p:=by unfold QD;rw [if_neg Jo,if_neg Jo,if_neg (fun h=>Bool.noConfusion (hq.2 h)),if_pos Jo]):p:=h
theorem Er (h:p:=by rw [hd,Q1 hx3,zp Ja]):p:=h
theorem Es (h:p:=by have:=of_decide_eq_false hop;omega):p:=h
theorem EF (h:p:=by first|(exact AS)|(exact Az)):p:=h
theorem EI (h:p:=by unfold QK;rw [if_neg k1,if_neg k2,if_neg k3,if_neg k4,if_pos];refine ⟨hf0,?_⟩;rw [Gd Jo] at hq2;refine Gn fun h=>?_;have:=hq2.2 ⟨Jo,Jo,fun t ht=>Gn fun hk=>h (.inr (.inr ⟨t,ht,hk⟩))⟩;cases this):p:=h
theorem EY (h:p:=by unfold Ins.odd;simp only [←or_assoc];first|exact .inl (hq6.1 rfl)|exact .inr ⟨(by first|rfl|assumption),Jo⟩):p:=h
theorem EZ (h:p:=by rw [show Value.int .i64 e.yes.block= .int .i64 ((e.yes.block.toNat:Nat):Int) by rw [Gh hb0]];exact C1):p:=h
theorem E0 (h:p:=by rw [List.eraseIdx_append_of_length_le (F6 _)];simp):p:=h
theorem E4 (h:p:=by show g.vals.length≤900000;omega):p:=h
theorem Fe (h:p:=by unfold EstS.get;rw [if_pos hc,F9]):p:=h
theorem Fq (h:p:=by intro m;exact TypeDesc.noConfusion):p:=h
theorem Fy (h:p:=by rw [hd,FJ Jo,Pk]):p:=h
end
end Go.Lir
namespace Go.Lir
section
variable {p:Prop}
theorem Az (h:p:=by exact QZ hS rfl fd rfl):p:=h
theorem AN (h:p:=by exact ⟨_,rfl,by simp [L0, *],rfl⟩):p:=h
theorem AP (h:p:=by exact oq hS rfl fd rfl rfl):p:=h
theorem AS (h:p:=by exact Qw hS hel rfl fd (Qb fr g) (Qf fr g) rfl):p:=h
theorem A9 (h:p:=by exact oE hS Ja rfl rfl rfl):p:=h
theorem Bo (h:p:=by exact ⟨⟨_,rfl⟩,rfl,hS.sp⟩):p:=h
theorem Bs (h:p:=by exact ⟨6,hX.trans (if_pos (show s.openV<0 by omega)),rfl,fr,g.nx,(by rw [QaR (show s.openV<0 by omega)] at hS;exact hS.sp)⟩):p:=h
theorem BK (h:p:=by exact ⟨_,rfl,by simp [OI, *],rfl⟩):p:=h
theorem BP (h:p:=by exact ⟨_,zh,zh,by exact ⟨fun h=>Bool.noConfusion h,fun h=>absurd h.1 Jo⟩,hS.sp⟩):p:=h
theorem BY (h:p:=by exact ⟨4,hX.trans (jL (GP.1 (by show inp.length=0;omega))),rfl,fr,g.nx,hS.sp⟩):p:=h
theorem Ca (h:p:=by exact ⟨_,zh,zh,by exact ⟨fun h=>Bool.noConfusion h,fun h=>h.2.elim (fun h=>absurd h Ja) (fun h=>absurd Ja h)⟩,hS.sp⟩):p:=h
theorem Cz (h:p:=by exact ⟨8,hX.trans (dx (by show out.length=2000;omega)),rfl,fr,g.nx,hS.sp⟩):p:=h
theorem CE (h:p:=by exact ⟨_,rfl,j,rfl,⟨fun _=>⟨x1,FC hx1,hg⟩,fun _=>by omega⟩,hS.sp⟩):p:=h
theorem CH (h:p:=by exact .inl ⟨c.lv,c.iv,c.ov,fr,⟨g.f,e.yes.block.toNat,0,vv,vs⟩,s,inp,out,bh hv,hi,rfl,hS⟩):p:=h
theorem CK (h:p:=by exact ⟨zh,zh,by unfold QK;rw [if_neg k1,if_neg k2,if_neg k3,if_neg k4,if_neg (fun h=>absurd h.1 Jo)],hS.sp⟩):p:=h
theorem CZ (h:p:=by exact ⟨_,zh,zh,by exact ⟨fun _=>⟨Jo, .inl Ja⟩,fun _=>rfl⟩,hS.sp⟩):p:=h
theorem C1 (h:p:=by exact vA (g':=⟨g.f,e.yes.block.toNat,0, .slice a2 (vs.map Qs).length n2,vs⟩)):p:=h
theorem C7 (h:p:=by exact ⟨_,zh,zh,by exact ⟨fun _=>⟨Jo, .inr Ja⟩,fun _=>rfl⟩,hS.sp⟩):p:=h
theorem C9 (h:p:=by exact ⟨0,_,_,zh,zh,Jo,by rw [GD],hS.sp⟩):p:=h
end
end Go.Lir
namespace Go.Lir
section
variable {p:Prop}
theorem Ai (h:p:=by first|(refine ⟨_,rfl,?_,hS.sp⟩;rw [if_pos (by have:=of_decide_eq_false hop;omega)];done)|(refine ⟨_,rfl,?_,hS.sp⟩;have ho:x.odd:=(by unfold Ins.odd;simp only [←or_assoc];first|exact .inl (hq6.1 rfl)|exact .inr ⟨(by first|rfl|assumption),Jo⟩);rw [if_neg Jo,if_pos ho];done)|(refine ⟨_,rfl,?_,hS.sp⟩;rw [if_neg Jo,if_neg hodd];unfold OP;(repeat (first|rw [if_pos Jo]|rw [if_neg Jo]));done)):p:=h
theorem Ak (h:p:=by first|rfl|(congr 1;omega)):p:=h
theorem Al (h:p:=by first|exact Qw hS hel rfl fd (Qb fr g) (Qf fr g) rfl|exact Qw (j:=0) hS hel rfl fd (Qb fr g) (Qf fr g) rfl|exact Qw (j:=1) hS hel rfl fd (Qb fr g) (Qf fr g) rfl|exact Qw (j:=2) hS hel rfl fd (Qb fr g) (Qf fr g) rfl):p:=h
end
end Go.Lir
namespace Go.Proofs.YteflkifmgnpbhaaGreat
open Go.Lir
attribute [local irreducible] LC.wp Q0 Qr Qj Lo QJ LO.wp Q6 Calls
section
@[reducible] def rS (p:Nat)(c:RC)(fr:List RFV)(g:RFV)(s:EstS)(out:List Int)(L:List Res):List Res:=rL p c fr g (Nz c.ep s::sl 2 1 c.ov (out.map Qs)::L)
variable {cx:Cx}{w:World}{L:List Res}{p:Nat}{c:RC}{fr:List RFV}{g:RFV}{s:EstS}{out:List Int}
attribute [local irreducible] RFrm.val RFrm.args
theorem ml {b:Nat}{pp:Value}{q:PoolS}(k:Int)(hb:c.ep= .pointer (some ⟨b,0,none⟩))(hS:St cx w (rL p c fr g (blk b 73 (pp::cs)::MW pp q::L))):KK Tryz.prog Q7W [.pointer (some ⟨p,0,none⟩), .int .i64 k] w fun u w'=>u= .int .i64 (q.word k)∧St cx w' (rL p c fr g (blk b 73 (pp::cs)::MW pp q::L)):=by
 obtain ⟨ep,fn,lv,iv,e,bv,ov,fu,mo,dn⟩:=c;obtain rfl:ep=_:=hb;refine KY KX Tryz.func139 ?_;refine' Og;refine' Oa;refine' Oa;refine' zm;refine' KU (c:=dk (s:=q) k hS fd);rintro v1 w1 ⟨rfl,hS⟩;refine' S5;refine' Mz;refine' Ly;((exact AX))
theorem Vw (r n:Int)(hS:St cx w (rS p c fr g s out L)):Li Tryz.prog Q8L [.pointer (some ⟨p,0,none⟩), .int .i64 r, .int .i64 n] w
 (fun u w'=>s.code r n≠14∧u= .int .i64 (s.getV r n)∧St cx w' (rS p c fr g (s.get r n) out L)) (fun u w'=>s.code r n=14∧u=Xz 6∧St cx w' (rS p c fr g (s.get r n) out L)):=by
 ((unfold Li;refine KY KX Tryz.func198 ?_;refine' Og;refine' Oa;refine' M7;refine' LU (c:=dm (e:=c.ep) (s:=s) r n hS fd);rintro v1 w1 ⟨rfl,hS⟩;have hS:=hS.ns;refine' S5;refine' Mz;first|(refine' Qd)|(refine' Qi)|(refine' Ac<;>intro hc));all_goals (first|(refine' KU (c:=YW hS);rintro v1 w1 ⟨rfl,hS⟩)|(refine LX (c:=YX hS) (p:=by rintro v9 w9 ⟨rfl,hS⟩;(repeat (first|refine' Qn|refine' Qp|refine fun _=>?_));refine' QP;refine .inr ⟨_,rfl,?_⟩;first|(exact ⟨Jo,rfl,hS.sp⟩)) (h:=fun _ _ h=>h.elim))));refine' Nb;refine' Ly;(exact .inl ⟨_,rfl,Jo,rfl,hS.sp⟩)
end
section
variable {cx:Cx}{w:World}{L:List Res}{p:Nat}{c:RC}{fr:List RFV}{g:RFV}{s:EstS}{out:List Int}
attribute [local irreducible] RFrm.val RFrm.args EstS.get EstS.getV EstS.code EstS.word EstS.store
theorem bj {b:Nat}{pp:Value}{q:PoolS}{x:Ins}(hb:c.ep= .pointer (some ⟨b,0,none⟩))(hx:Lz.at cx cs x)(hf:fr.length≤1000)(ha:g.abs.val x.a=some a)(hk:g.abs.val x.b=some k)(hS:St cx w (rL p c fr g (blk b 73 (pp::ds)::MW pp q::L))):Li Tryz.prog Q9L [.pointer (some ⟨p,0,none⟩), .agg ⟨cs⟩] w
 (fun u w'=>¬(k<0∨q.word a≤k)∧u= .int .i64 (wr (wr (a+1)+k))∧St cx w' (rL p c fr g (blk b 73 (pp::ds)::MW pp q::L))) (fun u w'=>(k<0∨q.word a≤k)∧u=Xz 2∧St cx w' (rL p c fr g (blk b 73 (pp::ds)::MW pp q::L))):=by
 (((obtain ⟨vr,va,rfl,hr,ha1⟩:=QY hx;unfold Li;refine KY KX Tryz.func142 ?_;refine' Lx;intro p3 w1 hS;refine' OS;refine zC [(0,none),(1,none),(2,none),(4,none),(5,none),(6,none),(3,some (some [6])),(7,some none),(8,none),(9,some none)] ?_;have hS:=hS.drew;refine' LP;refine' zm;refine' Nh;refine' U3;refine' KU (c:=P2 hf (show St cx _ (rL p c fr g _) from hS.sp) ha);rintro v1 w1 ⟨rfl,hS⟩;refine' Nj;(first|(refine' KU (c:=P2 hf (show St cx _ (rL p c fr g _) from hS.sp) ha);rintro v1 w1 ⟨rfl,hS⟩)|(refine' KU (c:=P2 hf (show St cx _ (rL p c fr g _) from hS.sp) hk);rintro v2 w2 ⟨rfl,hS⟩));refine' Sk;refine' TP;refine' Ls;first|(refine' LG)|(refine' LM)|(refine' Ae<;>intro hc));all_goals (refine' Mr;refine' MT;refine' MT;(first|refine' KP|(refine' KQ;refine' KU (c:=ml (q:=q) a hb (show St cx _ (rL p c fr g (blk b 73 (pp::ds)::MW pp q::_)) from hS.sp));rintro v3 w3 ⟨rfl,hS⟩));first|refine' KP|(refine' KQ;(first|(refine' MV)|(refine' Nu)|(refine' Ag<;>intro hc)))));all_goals (refine' MK;first|(refine' KU (c:=YW hS);rintro v1 w1 ⟨rfl,hS⟩)|(refine LX (c:=YX hS) (p:=by rintro v9 w9 ⟨rfl,hS⟩;(repeat (first|refine' Qn|refine' Qp|refine fun _=>?_));refine' QP;refine .inr ⟨_,rfl,?_⟩;first|(exact ⟨Jo,rfl,hS.sp⟩)) (h:=fun _ _ h=>h.elim))));refine' Nb;refine' jr;refine' zm;refine' jr;refine' Ly;(exact .inl ⟨_,rfl,Jo,rfl,hS.sp⟩)
end
section
variable {cx:Cx}{w:World}{L:List Res}{p:Nat}{c:RC}{fr:List RFV}{g:RFV}{s:EstS}{out:List Int}
theorem EstS.rok_store {s:EstS}(h:s.Ok)(k x:Int):(s.store k x).Ok:=⟨h.len,h.off,h.used,h.tk.store k x,JI h.pok k x,by show (s.p.store k x).n≤64;rw [HZ];exact h.n64⟩
theorem EstO.rstore {e:Value}{s:EstS}{b:Nat}(h:EstO e s b rv)(k x:Int):EstO e (s.store k x) b rv:=⟨h.he,h.hr,EstS.rok_store h.ok k x⟩
theorem mm {e:Value}{s:EstS}{b:Nat}{pp:Value}{x:Int}(h:EstO e s b rv)(hS:St cx w (blk b 73 (pp::MA rv)::MW pp (s.p.store k x)::LF RegV.res rv::L)):St cx w (Nz e (s.store k x)::L):=RQ (s:=s.store k x) (h.rstore k x) hS
attribute [local irreducible] RFrm.val RFrm.args EstS.get EstS.getV EstS.code EstS.word EstS.store
theorem Vx {x:Ins}(hx:Lz.at cx cs x)(hf:fr.length≤1000)(hn:g.vals.length≤900000)(ha:g.abs.val x.a=some a)(hk:g.abs.val x.b=some n)(hS:St cx w (rS p c fr g s out L)):Li Tryz.prog Q77 [.pointer (some ⟨p,0,none⟩), .agg ⟨cs⟩] w
 (fun u w'=>¬(n<0∨15<n)∧s.code a (1+n)≠14∧u= .tuple #[]∧∃tv,St cx w' (rS p c fr (g.push tv [s.getV a (1+n)]) ((s.get a (1+n)).store (s.getV a (1+n)) n) out L))
 (fun u w'=>(n<0∨15<n)∧u=Xz 3∧St cx w' (rS p c fr g s out L)∨¬(n<0∨15<n)∧s.code a (1+n)=14∧u=Xz 6∧St cx w' (rS p c fr g (s.get a (1+n)) out L)):=by
 (((obtain ⟨vr,va,rfl,hr,ha1⟩:=QY hx;obtain ⟨ep,fn,lv,iv,e,bv,ov,fu,mo,dn⟩:=c;unfold Li;refine KY KX Tryz.func141 ?_;refine' Lx;intro p3 w1 hS;refine' Nb;refine' Lw;refine' KU (c:=P2 hf (show St cx _ (rL p _ fr g _) from hS.sp) hk);rintro v1 w1 ⟨rfl,hS⟩;refine' Mz;first|(refine' LG)|(refine' LM)|(refine' Ae<;>intro hc));all_goals (refine' Mr;first|refine' KP|(refine' KQ;(first|(refine' QO)|(refine' QV)|(refine' Af<;>intro hc)))));all_goals (refine' MK;first|(refine' KU (c:=YW hS);rintro v1 w1 ⟨rfl,hS⟩)|(refine LX (c:=YX hS) (p:=by rintro v9 w9 ⟨rfl,hS⟩;(repeat (first|refine' Qn|refine' Qp|refine fun _=>?_));refine' QP;refine .inr ⟨_,rfl,?_⟩;first|(exact .inl ⟨Jo,rfl,hS.sp⟩)) (h:=fun _ _ h=>h.elim))));refine' zn;refine' Lu;refine' Lw;refine' KU (c:=P2 hf (show St cx _ (rL p _ fr g _) from hS.sp) ha);rintro v1 w1 ⟨rfl,hS⟩;refine' zm;refine' NH;refine Oq (c:=Vw (s:=s) (out:=out) a (1+n) (show St cx _ (rS p _ fr g s out _) from hS.sp)) (p:=by rintro u9 w9 ⟨h14,rfl,hS⟩;(repeat (first|refine' Qn|refine' Qp|refine fun _=>?_));refine' QP;refine .inr ⟨_,rfl,?_⟩;exact .inr ⟨Jo,h14,rfl,hS.sp⟩) (h:=?_);rintro u1 w2 ⟨h14,rfl,hS⟩;refine' OS;obtain ⟨b9,pp,rv,ho,hS⟩:=Vm (hS.out (i:=4) rfl);obtain rfl:=ho.he;refine' RZ;refine' Oa;refine' M7;refine' LU (c:=mg (s:=(s.get a (1+n)).p) (s.getV a (1+n)) n hS OD);rintro v1 w1 ⟨rfl,hS⟩;have hS:=hS.ns;have hS:=mm ho hS;have hS:=hS.ns;refine' zn;refine' NJ;refine LK hS [_] ?_;intro b1 w1 hS;have hS:=GS (T:=2) (es:=1) (css:=[s.getV a (1+n)].map Qs) hS rfl DJ rfl;have hS:St cx _ (rL p _ fr g (sl 2 1 (.slice (some ⟨b1,0,none⟩) 1 1) ([s.getV a (1+n)].map Qs)::_)):=hS.sp;refine' KU (c:=XB (j:=0) hf DI hS rfl);rintro u1 w1 ⟨tv,rfl,hS⟩;refine' TK;exact .inl ⟨_,rfl,Jo,h14,rfl,tv,hS.sp⟩
end
section
variable {cx:Cx}{w:World}{L:List Res}{p:Nat}{c:RC}{fr:List RFV}{g:RFV}{s:EstS}{out:List Int}
theorem EstS.stores_0 {s:EstS}:s.stores a (l.take 0)=s:=rfl
attribute [local irreducible] RFrm.val RFrm.args EstS.get EstS.getV EstS.code EstS.word EstS.store EstS.stores
theorem Vy {x:Ins}(hx:Lz.at cx cs x)(h8:x.args.length≤100)(hN:n=max (x.args.length:Int) 1)(hf:fr.length≤1000)(hn:g.vals.length≤900000)(ha:g.abs.val x.a=some a)(hv:g.abs.args x.args=some vs)(hS:St cx w (rS p c fr g s out L)):Li Tryz.prog Q76 [.pointer (some ⟨p,0,none⟩), .agg ⟨cs⟩] w
 (fun u w'=>s.code a n≠14∧u= .tuple #[]∧∃tv,St cx w' (rS p c fr (g.push tv [s.getV a n]) ((s.get a n).stores (s.getV a n) vs) out L))
 (fun u w'=>s.code a n=14∧u=Xz 6∧St cx w' (rS p c fr g (s.get a n) out L)):=by
 obtain ⟨vr,va,rfl,hr,ha1⟩:=QY hx;obtain ⟨ep,f1,l1,i1,e1,b2,o2,f2,m2,d2⟩:=c;have hsg:=fun (w:World) (L:List Res) (hS:St cx w (rS p ⟨ep,f1,l1,i1,e1,b2,o2,f2,m2,d2⟩ fr g s out L))=>Vw a n hS;rw [hN] at hsg;unfold Li;refine KY KX Tryz.func138 ?_;refine' Lx;intro p3 w1 hS;refine' MM;refine zC [(0,none),(1,none),(2,none),(3,none),(5,none),(6,none),(7,none),(8,none),(4,some (some [6])),(9,some none),(10,some none)] ?_;have hS:=hS.drew;refine' O3;refine' zm;refine' Nh;refine' Nh;refine' Ll;refine' zL;refine' Ll;refine ix rfl rfl ?_;refine' My;refine' KU (c:=P2 hf (show St cx _ (rL p _ fr g _) from hS.sp) ha);rintro v1 w1 ⟨rfl,hS⟩;refine' Nj;refine Oq (c:=hsg _ _ (show St cx _ (rS p _ fr g s out _) from hS.sp)) (p:=by rintro u9 w9 ⟨h14,rfl,hS⟩;(repeat (first|refine' Qn|refine' Qp|refine fun _=>?_));refine' QP;refine .inr ⟨_,rfl,?_⟩;rw [←hN] at h14 hS;exact ⟨h14,rfl,hS.sp⟩) (h:=?_);rintro u1 w2 ⟨h14,rfl,hS⟩;rw [←hN] at h14 hS ⊢;refine' TP;refine' RB;refine' KU (c:=dw Jo hf ha1 hv (show St cx _ (rL p _ fr g _) from hS.sp));rintro v2 w2 ⟨hvl,ho2,hS⟩;refine' aT;refine' Ry;refine zo [0,4,20,21] (fun A ρ' w'=>∃(q:Nat),KR ρ' A∧KR ρ' [(22, .int .i64 q)]∧(q≤vs.length)∧St cx w' (rS p ⟨ep,f1,l1,i1,e1,b2,o2,f2,m2,d2⟩ fr g ((s.get a n).stores (s.getV a n) (vs.take q)) out (sl 2 1 v2 (vs.map Qs)::blk p3 84 [.int .i64 x.op, .int .i64 x.a, .int .i64 x.b, .int .i64 x.c, .int .i64 x.k, .int .i64 x.n,vr,va]::L))) (fun ρ' _=>(vs.length - iv (ρ' 22)).toNat) ?_ ?_
 · exact ⟨0,zh,zh,Jo,by rw [EstS.stores_0];exact hS.sp⟩
 rintro ρ w1 ⟨q,hA,hρ,hq,hS⟩;obtain ⟨ρ,rfl⟩:=KS hA hρ;refine' NV;refine' Ab<;>intro hc
 · skip;refine' Rm;have hlt:q<vs.length:=DB;have hvq:vs[q]?=some (vs.getD q 0):=(by rw [FE,FB hlt];rfl);refine' Mj;refine PQ hS vw rfl fd DQ ?_;rw [FF];intro b2 o2 hel2;refine Qx hS hel2 rfl fd (FF _) (show (vs.map Qs)[q]?=some (Qs (vs.getD q 0)) by rw [FW,hvq];rfl) rfl ?_;refine' zm;refine' K5;obtain ⟨b9,pp,rv,ho,hS⟩:=Vm (hS.out (i:=4) rfl);obtain rfl:=ho.he;refine' RZ;refine' Oa;refine' M7;refine' jr;refine' zm;refine' LU (c:=mg (s:=((s.get a n).stores (s.getV a n) (vs.take q)).p) (wr (s.getV a n+q)) (vs.getD q 0) hS OD);rintro v1 w1 ⟨rfl,hS⟩;have hS:=hS.ns;have hS:=mm ho hS;rw [←EstS.stores_take hvq] at hS;refine' Sw;(exact ⟨⟨q+1,zh,zh,Jo,hS.sp⟩,Qc Jo⟩)
 · skip;refine' L7;refine' NJ;refine LK hS [_] ?_;intro b1 w1 hS;rw [Gd Jo] at hS;have hS:=GS (T:=2) (es:=1) (css:=[s.getV a n].map Qs) hS rfl DJ rfl;have hS:St cx _ (rL p _ fr g (sl 2 1 (.slice (some ⟨b1,0,none⟩) 1 1) ([s.getV a n].map Qs)::_)):=hS.sp;refine' KU (c:=XB (j:=0) hf DI hS rfl);rintro u1 w1 ⟨tv,rfl,hS⟩;refine' TK;exact .inl ⟨_,rfl,h14,rfl,tv,hS.sp⟩
end
section
variable {cx:Cx}{w:World}{L:List Res}{p:Nat}{c:RC}{fr:List RFV}{g:RFV}{s:EstS}{out:List Int}
attribute [local irreducible] RFrm.val RFrm.args EstS.get EstS.getV EstS.code EstS.word EstS.store EstS.stores
@[reducible] def RC.did (c:RC)(bv:Value):RC:=⟨c.ep,c.fn,c.lv,c.iv,c.e,bv,c.ov,c.fu,c.mo,true⟩
theorem dy (hx:LZ.at cx cs e)(h3:e.op=3)(h8:e.args.length≤100)(hv:g.abs.args e.args=some vs)(hS:St cx w (rS p c [] g s out L)):
 KK Tryz.prog gC [.pointer (some ⟨p,0,none⟩), .agg ⟨cs⟩] w fun u w'=>∃bv,u= .tuple #[]∧oneC bv=true∧St cx w' (rS p (c.did bv) [] g s out (sl 2 1 bv (vs.map Qs)::L)):=by
 obtain ⟨v1,v2,v3,v4,v5,rfl,k1,k2,k3,k4,k5⟩:=RM hx;have hf0:([]:List RFV).length≤1000:=DN;refine KY KX Tryz.func84 ?_;refine' Lx;intro p3 w1 hS;refine' Nb;refine' Lf (c:=XA hf0 (show St cx _ (rL p c [] g _) from hS.sp));rintro v9 w1 ⟨b9,o9,rfl,hel,hS⟩;refine' Ry;refine' Ot;refine' Qd;refine' RY;refine' Nv;(first|refine' KP|(refine' KQ;refine QL hS vw fd (show (OJ [] g).length=1 from rfl) ?_));(first|refine' KP|(refine' KQ;refine' Qd));refine' OR;refine' K5;refine' KN;refine' RX;refine' Lw;refine' KU (c:=dw Jo hf0 k5 hv (show St cx _ (rL p c [] g _) from hS.sp));rintro u2 w2 ⟨hvl,ho2,hS⟩;refine' UU;refine Mi hS ?_;intro w1 hS;have hS:=hS.ns;refine' Ma;refine Mi hS ?_;intro w1 hS;have hS:=hS.ns;refine' TK;exact ⟨_,rfl,u2,rfl,ho2,hS.sp⟩
end
section
variable {cx:Cx}{w:World}{L:List Res}{p:Nat}{c:RC}{fr:List RFV}{g:RFV}{s:EstS}{out:List Int}
attribute [local irreducible] RFrm.val RFrm.args EstS.get EstS.getV EstS.code EstS.word EstS.store EstS.stores
@[reducible] def RC.upd (c:RC)(lv iv ov:Value):RC:=⟨c.ep,c.fn,lv,iv,c.e,c.bv,ov,c.fu,c.mo,c.dn⟩
theorem Qhm {k:RFV}:((OJ (fr++[k]) g).take (fr++[k]).length).drop 0=OJ fr k:=by
 unfold OJ;rw [GD,H3 Js,Gd Js,Ga];rfl
theorem dz {k:RFV}(hS:St cx w (LF RFV.res (fr++[k])::L)):St cx w (sl 2 1 k.vv (k.vals.map Qs)::LF RFV.res fr::L):=by
 have h1:=hS.bigOut (i:=0) (k:=fr.length) (x:=k) rfl Js;have h2:(fr++[k]).eraseIdx fr.length=fr:=E0;rw [FM,h2] at h1;exact h1
theorem dA {k:RFV}(hx:LZ.at cx cs e)(h3:e.op=3)(h8:e.args.length≤100)(hv:g.abs.args e.args=some vs)(hf:fr.length≤900)(hn:k.vals.length≤900000)(hS:St cx w (rS p c (fr++[k]) g s out L)):
 KK Tryz.prog gC [.pointer (some ⟨p,0,none⟩), .agg ⟨cs⟩] w fun u w'=>∃lv tv,u= .tuple #[]∧St cx w' (rS p (c.upd lv c.iv c.ov) fr (k.push tv vs) s out L):=by
 obtain ⟨v1,v2,v3,v4,v5,rfl,k1,k2,k3,k4,k5⟩:=RM hx;have hl1:(fr++[k]).length=fr.length+1:=DN;have hf0:(fr++[k]).length≤1000:=DB;refine KY KX Tryz.func84 ?_;refine' Lx;intro p3 w1 hS;refine' Nb;refine' Lf (c:=XA hf0 (show St cx _ (rL p c (fr++[k]) g _) from hS.sp));rintro v9 w1 ⟨b9,o9,rfl,hel,hS⟩;refine' Ry;refine' Ot;refine' Qd;refine' RY;refine' Nv;(first|refine' KP|(refine' KQ;refine QL (n:=fr.length+2) hS vw fd En ?_));refine' pk;refine' OR;refine' K5;refine' KO;refine' Ot;refine' Qd;refine' K5;refine' KN;refine' O6;refine' KU (c:=dw Jo hf0 k5 hv (show St cx _ (rL p c (fr++[k]) g _) from hS.sp));rintro u2 w2 ⟨hvl,ho2,hS⟩;obtain ⟨a2,n2,rfl⟩:=hS.shape (i:=4) rfl;refine' OS;refine zD (ci 15 [14]) ?_;have hS:=hS.drew;refine' M7;refine' Oa;refine' Sz;refine QL (n:=fr.length+2) hS vw fd En ?_;refine' PV;rw [show ((fr.length+2:Nat):Int) - 1=(((fr++[k]).length:Nat):Int) by omega];refine Un (l':=0) (h':=(fr++[k]).length) hS vw (i:=1) rfl rfl ⟨_,rfl⟩ rfl En Jo ?_;intro v7 hS;rw [Qhm] at hS;have hS:=hS.ns;have ho7:=hS.oneC (i:=1) rfl;refine' Ma;refine Mi hS ?_;intro w1 hS;have hS:=hS.ns;refine' zn;refine' NJ;have hS:=dz (fr:=fr) (k:=k) (L:=blk p 66 _::sl 138 4 v7 (OJ fr k)::sl 2 1 (.slice a2 _ n2) _::Nz c.ep s::sl 2 1 c.ov (out.map Qs)::L) hS.sp;have hS:St cx _ (rL p (c.upd v7 c.iv c.ov) fr k (sl 2 1 (.slice a2 (vs.map Qs).length n2) (vs.map Qs)::Nz c.ep s::sl 2 1 c.ov (out.map Qs)::L)):=hS.sp;refine' KU (c:=XB (j:=0) (vs:=vs) Jo Jo hS rfl);rintro u1 w1 ⟨tv,rfl,hS⟩;refine' TK;exact ⟨_,rfl,v7,tv,rfl,hS.sp⟩
end
section
variable {cx:Cx}{w:World}{L:List Res}{p:Nat}{c:RC}{fr:List RFV}{g:RFV}{s:EstS}{out:List Int}
attribute [local irreducible] RFrm.val RFrm.args EstS.get EstS.getV EstS.code EstS.word EstS.store EstS.stores
theorem vA:(OJ fr g).set fr.length g'.cells=OJ fr g':=by
 unfold OJ;rw [Hp _ _ Js];simp
theorem dB (hx:LZ.at cx cs e)(h2:e.op=2)(ha:g.abs.val e.a=some 0)(h8:e.no.args.length≤100)(hb0:0≤e.no.block)(hv:g.abs.args e.no.args=some vs)(hf:fr.length≤1000)(hS:St cx w (rS p c fr g s out L)):
 KK Tryz.prog gC [.pointer (some ⟨p,0,none⟩), .agg ⟨cs⟩] w fun u w'=>∃vv,u= .tuple #[]∧St cx w' (rS p c fr ⟨g.f,e.no.block.toNat,0,vv,vs⟩ s out L):=by
 obtain ⟨v1,v2,v3,v4,v5,rfl,k1,k2,k3,k4,k5⟩:=RM hx;refine KY KX Tryz.func84 ?_;refine' Lx;intro p3 w1 hS;refine' Nb;refine' Lf (c:=XA hf (show St cx _ (rL p c fr g _) from hS.sp));rintro v9 w1 ⟨b9,o9,rfl,hel,hS⟩;refine' Ry;refine' Su;(first|(refine Qx hS hel rfl fd (Qb fr g) (Qf fr g) rfl ?_)|(refine zl hS ?_));refine' TW;refine' PD;refine' YA;refine' MK;refine' K5;refine' KO;refine' Su;(first|(refine Qx hS hel rfl fd (Qb fr g) (Qf fr g) rfl ?_)|(refine zl hS ?_));refine' gz;refine' KO;refine' Su;(first|(refine Qx hS hel rfl fd (Qb fr g) (Qf fr g) rfl ?_)|(refine zl hS ?_));refine' Qd;refine' Mr;refine' Nf;(first|refine' KP|(refine' KQ;(first|(refine Qx hS hel rfl fd (Qb fr g) (Qf fr g) rfl ?_)|(refine zl hS ?_))));(first|refine' KP|(refine' KQ;refine' KU (c:=P2 hf (show St cx _ (rL p c fr g _) from hS.sp) ha);rintro v7 w7 ⟨rfl,hS⟩));(first|refine' KP|(refine' KQ;refine' Qd));refine' OR;refine' K5;refine' KN;refine zC [(0,none),(1,none),(2,none),(3,none),(4,none),(5,none),(6,none),(7,none),(8,none),(9,none),(10,none),(11,none),(12,some (some [4,7])),(13,none),(14,none),(15,some none)] ?_;have hS:=hS.drew;refine' Td;refine' TS;refine Qx hS hel rfl fd (Qb fr g) (Qf fr g) rfl ?_;refine' TV;(first|(refine Qx hS hel rfl fd (Qb fr g) (Qf fr g) rfl ?_)|(refine zl hS ?_));refine' Sk;refine' TV;(first|(refine Qx hS hel rfl fd (Qb fr g) (Qf fr g) rfl ?_)|(refine zl hS ?_));refine' My;refine' KU (c:=dw Jo hf k4 hv (show St cx _ (rL p c fr g _) from hS.sp));rintro u2 w2 ⟨hvl,ho2,hS⟩;obtain ⟨a2,n2,rfl⟩:=hS.shape (i:=4) rfl;refine' zt;refine ⟨FG.2 ⟨Ec,FG.2 ⟨EF,fun _ h=>(FQ h).elim⟩⟩,?_⟩;refine' LP;refine OF [_,_,_,_] ?_;refine' Ll;refine' S3;refine' Mb;refine iR (css':=OJ fr ⟨g.f,e.no.block.toNat,0, .slice a2 (vs.map Qs).length n2,vs⟩) hS hel rfl vw Jr fd (Qb fr g) (Qf fr g) rfl (by simp [oneC,ho2]) (by rw [show Value.int .i64 e.no.block= .int .i64 ((e.no.block.toNat:Nat):Int) by rw [Gh hb0]];exact vA (g':=⟨g.f,e.no.block.toNat,0, .slice a2 (vs.map Qs).length n2,vs⟩)) ?_;intro w8 hS;have hS:=hS.ns;refine' LV;refine' Nm;exact ⟨_,rfl,_,rfl,hS.sp⟩
theorem dC (hx:LZ.at cx cs e)(h2:e.op=2)(h0:n≠0)(ha:g.abs.val e.a=some n)(h8:e.yes.args.length≤100)(hb0:0≤e.yes.block)(hv:g.abs.args e.yes.args=some vs)(hf:fr.length≤1000)(hS:St cx w (rS p c fr g s out L)):
 KK Tryz.prog gC [.pointer (some ⟨p,0,none⟩), .agg ⟨cs⟩] w fun u w'=>∃vv,u= .tuple #[]∧St cx w' (rS p c fr ⟨g.f,e.yes.block.toNat,0,vv,vs⟩ s out L):=by
 obtain ⟨v1,v2,v3,v4,v5,rfl,k1,k2,k3,k4,k5⟩:=RM hx;refine KY KX Tryz.func84 ?_;refine' Lx;intro p3 w1 hS;refine' Nb;refine' Lf (c:=XA hf (show St cx _ (rL p c fr g _) from hS.sp));rintro v9 w1 ⟨b9,o9,rfl,hel,hS⟩;refine' Ry;refine' Su;(first|(refine Qx hS hel rfl fd (Qb fr g) (Qf fr g) rfl ?_)|(refine zl hS ?_));refine' TW;refine' PD;refine' YA;refine' MK;refine' K5;refine' KO;refine' Su;(first|(refine Qx hS hel rfl fd (Qb fr g) (Qf fr g) rfl ?_)|(refine zl hS ?_));refine' gz;refine' KO;refine' Su;(first|(refine Qx hS hel rfl fd (Qb fr g) (Qf fr g) rfl ?_)|(refine zl hS ?_));refine' Qd;refine' Mr;refine' Nf;(first|refine' KP|(refine' KQ;(first|(refine Qx hS hel rfl fd (Qb fr g) (Qf fr g) rfl ?_)|(refine zl hS ?_))));(first|refine' KP|(refine' KQ;refine' KU (c:=P2 hf (show St cx _ (rL p c fr g _) from hS.sp) ha);rintro v7 w7 ⟨rfl,hS⟩));refine' pk;refine' OR;refine' K5;refine' KO;refine zC [(0,none),(1,none),(2,none),(3,none),(4,none),(5,none),(6,none),(7,none),(8,none),(9,none),(10,none),(11,none),(12,some (some [4,7])),(13,none),(14,none),(15,some none)] ?_;have hS:=hS.drew;refine' Td;refine' TS;refine Qx hS hel rfl fd (Qb fr g) (Qf fr g) rfl ?_;refine' TV;(first|(refine Qx hS hel rfl fd (Qb fr g) (Qf fr g) rfl ?_)|(refine zl hS ?_));refine' Sk;refine' TV;(first|(refine Qx hS hel rfl fd (Qb fr g) (Qf fr g) rfl ?_)|(refine zl hS ?_));refine' My;refine' KU (c:=dw Jo hf k2 hv (show St cx _ (rL p c fr g _) from hS.sp));rintro u2 w2 ⟨hvl,ho2,hS⟩;obtain ⟨a2,n2,rfl⟩:=hS.shape (i:=4) rfl;refine' zt;refine ⟨FG.2 ⟨Ec,FG.2 ⟨EF,fun _ h=>(FQ h).elim⟩⟩,?_⟩;refine' LP;refine OF [_,_,_,_] ?_;refine' Ll;refine' S3;refine' Mb;refine iR (css':=OJ fr ⟨g.f,e.yes.block.toNat,0, .slice a2 (vs.map Qs).length n2,vs⟩) hS hel rfl vw Jr fd (Qb fr g) (Qf fr g) rfl (by simp [oneC,ho2]) EZ ?_;intro w8 hS;have hS:=hS.ns;refine' LV;refine' Nm;exact ⟨_,rfl,_,rfl,hS.sp⟩
theorem dD (hx:LZ.at cx cs e)(h2:e.op≠2)(h3:e.op≠3)(h8:e.yes.args.length≤100)(hb0:0≤e.yes.block)(hv:g.abs.args e.yes.args=some vs)(hf:fr.length≤1000)(hS:St cx w (rS p c fr g s out L)):
 KK Tryz.prog gC [.pointer (some ⟨p,0,none⟩), .agg ⟨cs⟩] w fun u w'=>∃vv,u= .tuple #[]∧St cx w' (rS p c fr ⟨g.f,e.yes.block.toNat,0,vv,vs⟩ s out L):=by
 obtain ⟨v1,v2,v3,v4,v5,rfl,k1,k2,k3,k4,k5⟩:=RM hx;refine KY KX Tryz.func84 ?_;refine' Lx;intro p3 w1 hS;refine' Nb;refine' Lf (c:=XA hf (show St cx _ (rL p c fr g _) from hS.sp));rintro v9 w1 ⟨b9,o9,rfl,hel,hS⟩;refine' Ry;refine' Su;(first|(refine Qx hS hel rfl fd (Qb fr g) (Qf fr g) rfl ?_)|(refine zl hS ?_));refine' TW;refine' PD;refine' YA;refine' MK;refine' K5;refine' KO;refine' Su;(first|(refine Qx hS hel rfl fd (Qb fr g) (Qf fr g) rfl ?_)|(refine zl hS ?_));refine' gz;refine' KO;refine' Su;(first|(refine Qx hS hel rfl fd (Qb fr g) (Qf fr g) rfl ?_)|(refine zl hS ?_));refine' TW;refine' PD;refine' KP;refine' MK;refine' K5;refine' KO;refine zC [(0,none),(1,none),(2,none),(3,none),(4,none),(5,none),(6,none),(7,none),(8,none),(9,none),(10,none),(11,none),(12,some (some [4,7])),(13,none),(14,none),(15,some none)] ?_;have hS:=hS.drew;refine' Td;refine' TS;refine Qx hS hel rfl fd (Qb fr g) (Qf fr g) rfl ?_;refine' TV;(first|(refine Qx hS hel rfl fd (Qb fr g) (Qf fr g) rfl ?_)|(refine zl hS ?_));refine' Sk;refine' TV;(first|(refine Qx hS hel rfl fd (Qb fr g) (Qf fr g) rfl ?_)|(refine zl hS ?_));refine' My;refine' KU (c:=dw Jo hf k2 hv (show St cx _ (rL p c fr g _) from hS.sp));rintro u2 w2 ⟨hvl,ho2,hS⟩;obtain ⟨a2,n2,rfl⟩:=hS.shape (i:=4) rfl;refine' zt;refine ⟨FG.2 ⟨Ec,FG.2 ⟨EF,fun _ h=>(FQ h).elim⟩⟩,?_⟩;refine' LP;refine OF [_,_,_,_] ?_;refine' Ll;refine' S3;refine' Mb;refine iR (css':=OJ fr ⟨g.f,e.yes.block.toNat,0, .slice a2 (vs.map Qs).length n2,vs⟩) hS hel rfl vw Jr fd (Qb fr g) (Qf fr g) rfl (by simp [oneC,ho2]) EZ ?_;intro w8 hS;have hS:=hS.ns;refine' LV;refine' Nm;exact ⟨_,rfl,_,rfl,hS.sp⟩
end
section
theorem vB (b:Bool)(w:World):KK Tryz.prog QdU [.bool b] w fun v w'=>v= .int .i64 (if b then 1 else 0)∧w'=w:=by
 cases b
 all_goals
  all_goals (refine KY KX Tryz.func195 ?_;refine' Mf;refine Qo ?_;refine' Mf)
  all_goals
   first
   | (refine' KN;refine' Lh;(exact AW))
   | (refine' KO;refine' KV)
  all_goals (refine' Lh;exact AW)
theorem vC (a b:Int)(w:World):KK Tryz.prog QcC [.int .i64 a, .int .i64 b] w fun v w'=>v= .tuple #[.int .i64 (OI a b).1, .bool (OI a b).2]∧w'=w:=by
 (refine KY KX Tryz.func194 ?_;refine' Ls;refine' UY;refine' K3;first|(refine' Qd)|(refine' Qi)|(refine' Ac<;>intro hc));all_goals (refine' K5)
 all_goals
  first
  | (refine' KN;refine' Sp;(exact BK))
  | (refine' KO
     (refine' K3;first|(refine' Qd)|(refine' Qi)|(refine' Ac<;>intro hc));all_goals (refine' K5)
     all_goals
      first
      | (refine' KN;refine' Ls;refine iq rfl ?_;refine' O7;(exact BK))
      | (refine' KO;refine' KV))
 refine' Lu;refine au rfl rfl Jo ?_;refine' O7;(exact BK)
set_option maxHeartbeats 1000000 in
theorem qh (k a b : Int)(w :World):KK Tryz.prog uI [.int .i64 k, .int .i64 a, .int .i64 b] w fun v w'=>v= .tuple #[.int .i64 (L0 k a b).1, .bool (L0 k a b).2]∧w'=w:=by
 cases hd:(OI a b).2
 all_goals
  all_goals (refine KY KX Tryz.func134 ?_;refine' Ls;refine' UY;refine' K3;first|(refine' Qd)|(refine' Qi)|(refine' Ac<;>intro hc));all_goals (refine' K5)
  all_goals
   first
   | (refine' KN;all_goals (refine' Lu;refine iB rfl rfl ?_;refine' O7);all_goals (exact AN))
   | (refine' KO
      all_goals (refine' K3;first|(refine' Qd)|(refine' Qi)|(refine' Ac<;>intro hc));all_goals (refine' K5)
      all_goals
       first
       | (refine' KN;all_goals (refine' Lu;refine' l6;refine' O7);all_goals (exact AN))
       | (refine' KO
          all_goals (refine' K3;first|(refine' Qd)|(refine' Qi)|(refine' Ac<;>intro hc));all_goals (refine' K5)
          all_goals
           first
           | (refine' KN;all_goals (refine' Lu;refine' pj;refine' O7);all_goals (exact AN))
           | (refine' KO
              all_goals (refine' K3;first|(refine' Qd)|(refine' Qi)|(refine' Ac<;>intro hc));all_goals (refine' K5)
              all_goals
               first
               | (refine' KN;all_goals (refine' Lu;refine Tw rfl (vC _ _ _) ?_;rw [hd];rintro _ _ ⟨rfl,rfl⟩;refine' l9;refine' O7);all_goals (exact AN))
               | (refine' KO
                  all_goals (refine' K3;first|(refine' Qd)|(refine' Qi)|(refine' Ac<;>intro hc));all_goals (refine' K5)
                  all_goals
                   first
                   | (refine' KN
                      all_goals (refine' Lu;refine Tw rfl (vC _ _ _) ?_;rw [hd];rintro _ _ ⟨rfl,rfl⟩;refine' TM)
                      all_goals
                       first
                       | (refine' KN;refine' Sp;(exact AN))
                       | (refine' KO;refine' KV)
                      all_goals (refine' Lu;refine' zm;refine' pj;refine' l6;refine' O7);all_goals (exact AN))
                   | (refine' KO
                      all_goals (refine' K3;first|(refine' Qd)|(refine' Qi)|(refine' Ac<;>intro hc));all_goals (refine' K5)
                      all_goals
                       first
                       | (refine' KN;all_goals (refine' Lu;first|(refine' LG)|(refine' LM)|(refine' Ae<;>intro hc));all_goals (refine Tw rfl (vB _ _) ?_;rintro _ _ ⟨rfl,rfl⟩;refine' O7);all_goals (exact AN))
                       | (refine' KO
                          all_goals (refine' K3;first|(refine' Qd)|(refine' Qi)|(refine' Ac<;>intro hc));all_goals (refine' K5)
                          all_goals
                           first
                           | (refine' KN;all_goals (refine' Lu;first|(refine' Qd)|(refine' Qi)|(refine' Ac<;>intro hc));all_goals (refine Tw rfl (vB _ _) ?_;rintro _ _ ⟨rfl,rfl⟩;refine' O7);all_goals (exact AN))
                           | (refine' KO
                              all_goals (refine' K3;first|(refine' Qd)|(refine' Qi)|(refine' Ac<;>intro hc));all_goals (refine' K5)
                              all_goals
                               first
                               | (refine' KN;all_goals (refine' Lu;refine T9 rfl rfl ?_;refine' O7);all_goals (exact AN))
                               | (refine' KO
                                  all_goals (refine' K3;first|(refine' Qd)|(refine' Qi)|(refine' Ac<;>intro hc));all_goals (refine' K5)
                                  all_goals
                                   first
                                   | (refine' KN;all_goals (refine' Lu;refine iE rfl rfl ?_;refine' O7);all_goals (exact AN))
                                   | (refine' KO;all_goals (refine' KV))))))))))
  all_goals (refine' Sp;exact AN)
theorem qi {cx:Cx}{w:World}{L:List Res}{b:Int}(hS:St cx w L):KK Tryz.prog uI [.int .i64 k, .int .i64 a, .int .i64 b] w fun v w'=>v= .tuple #[.int .i64 (L0 k a b).1, .bool (L0 k a b).2]∧St cx w' L:=
 (qh k a b w).mono fun _ _ ⟨h1,h2⟩=>⟨h1,by rw [h2];exact hS⟩
end
section
theorem Pa {o:Option α}{f:α→RStp}(h:MB o f≠ .crash):∃a,o=some a∧MB o f=f a:=by
 cases o with
 | none=>exact A1
 | some a=>exact ⟨a,rfl,rfl⟩
section
variable {m:Module}{s:RS}{x:Ins}
theorem qj (h:x.op=1):s.ins m x= .go (s.put [x.n]):=by unfold RS.ins;rw [if_pos h]
theorem qk (h:x.op=2):s.ins m x=MB (s.g.val x.a) fun a=>MB (s.g.val x.b) fun b=>if (L0 x.k a b).2=false then .halt 1 else .go (s.put [(L0 x.k a b).1]):=by unfold RS.ins;rw [if_neg Jo,if_pos h]
theorem ql (h:x.op=3):s.ins m x=if s.e.openV<0 then .halt 6 else .go ((s.es s.e.open).put [s.e.openV]):=by unfold RS.ins;rw [if_neg Jo,if_neg Jo,if_pos h]
theorem qm (h:x.op=4):s.ins m x=MB (s.g.val x.a) fun a=> .go (s.es (s.e.shut a)):=by unfold RS.ins;rw [if_neg Jo,if_neg Jo,if_neg Jo,if_pos h]
theorem qn (h:x.op=5):s.ins m x=MB (s.g.val x.a) fun a=>MB (s.g.args x.args) fun l=>s.gotR a (max (x.args.length:Int) 1) fun e at_=> .go ((s.es (e.stores at_ l)).put [at_]):=by unfold RS.ins;(repeat rw [if_neg Jo]);rw [if_pos h]
theorem qo (h:x.op=6):s.ins m x=MB (s.g.val x.a) fun a=> .go (s.put [s.e.word (wr (a+x.k))]):=by unfold RS.ins;(repeat rw [if_neg Jo]);rw [if_pos h]
theorem qp (h:x.op=7):s.ins m x=MB (s.g.val x.a) fun a=>MB (s.g.val x.b) fun b=> .go (s.es (s.e.store (wr (a+x.k)) b)):=by unfold RS.ins;(repeat rw [if_neg Jo]);rw [if_pos h]
theorem qq (h:x.op=8):s.ins m x=MB (s.g.val x.a) fun a=>MB (s.g.val x.b) fun n=>if n<0∨15<n then .halt 3 else s.gotR a (1+n) fun e at_=> .go ((s.es (e.store at_ n)).put [at_]):=by unfold RS.ins;(repeat rw [if_neg Jo]);rw [if_pos h]
theorem qs (h:x.op=9):s.ins m x=MB (s.g.val x.a) fun a=>MB (s.g.val x.b) fun k=>s.atR a k fun q=> .go (s.put [s.e.word q]):=by unfold RS.ins;(repeat rw [if_neg Jo]);rw [if_pos h]
theorem jM (h:x.op=10):s.ins m x=MB (s.g.val x.a) fun a=>MB (s.g.val x.b) fun k=>MB (s.g.val x.c) fun c=>s.atR a k fun q=> .go (s.es (s.e.store q c)):=by unfold RS.ins;(repeat rw [if_neg Jo]);rw [if_pos h]
theorem jN (h:x.op=11):s.ins m x=MB (s.g.val x.a) fun a=> .go (s.put [s.e.word a]):=by unfold RS.ins;(repeat rw [if_neg Jo]);rw [if_pos h]
theorem jO (h:x.op=12):s.ins m x=s.inR:=by unfold RS.ins;(repeat rw [if_neg Jo]);rw [if_pos h]
theorem jP (h:x.op=13):s.ins m x=MB (s.g.val x.a) fun n=>s.outR n:=by unfold RS.ins;(repeat rw [if_neg Jo]);rw [if_pos h]
theorem jQ (h:x.op=14):s.ins m x=MB (s.g.args x.args) fun vs=>s.callR x.k vs:=by unfold RS.ins;(repeat rw [if_neg Jo])
theorem Vz {r:Int}{k:EstS→Int→RStp}(h:s.e.code r n=14):s.gotR r n k= .halt 6:=if_pos h
theorem bl {r:Int}{k:EstS→Int→RStp}(h:s.e.code r n≠14):s.gotR r n k=k (s.e.get r n) (s.e.getV r n):=if_neg h
theorem jR {c:Int→RStp}(h:k<0∨s.e.p.word a≤k):s.atR a k c= .halt 2:=if_pos h
theorem jS {c:Int→RStp}(h:¬(k<0∨s.e.p.word a≤k)):s.atR a k c=c (wr (wr (a+1)+k)):=if_neg h
theorem jL (e:s.inp=[]):s.inR= .halt 4:=by unfold RS.inR;rw [e]
theorem jT {r:List Int}(e:s.inp=n::r):s.inR= .go ((⟨s.e,s.g,s.st,r,s.out,s.fuel⟩:RS).put [n]):=by unfold RS.inR;rw [e]
theorem dx (e:s.out.length=2000):s.outR n= .halt 8:=if_pos e
theorem dE (e:s.out.length≠2000):s.outR n= .go ⟨s.e,s.g,s.st,s.inp,s.out++[n],s.fuel⟩:=if_neg e
theorem YZ (e:s.st.length+1=40):s.callR k vs= .halt 5:=if_pos e
theorem Y0 (e:s.st.length+1≠40):s.callR k vs= .go ⟨s.e,⟨k.toNat,0,0,vs⟩,s.g::s.st,s.inp,s.out,s.fuel⟩:=if_neg e
end
variable {cx:Cx}{w:World}{L:List Res}{p:Nat}{c:RC}{fr:List RFV}{g:RFV}{s:EstS}{out inp:List Int}{fu:Nat}{m:Module}
def Lc (s:EstS)(g:RFV)(fr:List RFV)(inp out:List Int)(fu:Nat):RS:=⟨s,g.abs,(fr.map RFV.abs).reverse,inp,out,fu⟩
def OK (p:Nat)(c:RC)(fu:Nat)(X:RStp)(cx:Cx)(L:List Res)(u:Value)(w':World):Prop:=
 ∃lv i1 ov fr' g' s' inp' out',X= .go (Lc s' g' fr' inp' out' fu)∧KM.sl cx i1 inp'∧u= .tuple #[]∧St cx w' (rS p (c.upd lv i1 ov) fr' g' s' out' L)
def VA (p:Nat)(c:RC)(s:EstS)(out:List Int)(X:RStp)(cx:Cx)(L:List Res)(u:Value)(w':World):Prop:=
 ∃e,X= .halt e∧u=Xz e∧∃fr' g',St cx w' (rS p c fr' g' s out L)
def RFV.nx (g:RFV):RFV:=⟨g.f,g.b,g.i+1,g.vv,g.vals⟩
theorem QfJ:l.map Qs++[[.int .i64 n]]=(l++[n]).map Qs:=by rw [Ga];rfl
theorem Qfq {k:RFV}:OJ fr g++[k.cells]=OJ (fr++[g]) k:=by unfold OJ;rw [Ga];rfl
theorem Y1 {k:RFV}(h:St cx w (sl 2 1 k.vv (k.vals.map Qs)::LF RFV.res fr::L)):St cx w (LF RFV.res (fr++[k])::L):=by
 have h1:St cx w (fr.map RFV.res++(RFV.res k::L)):=h.mv1.list;have h2:St cx w ((fr++[k]).map RFV.res++L):=Em;exact h2.list'
theorem QaR (h:s.openV<0):s.open=s:=by
 unfold EstS.openV at h;unfold EstS.open;split at h
 · omega
 · rename_i hl;exact if_neg hl
theorem vD:Lc s g' (fr++[g]) inp out fu=⟨s,g'.abs,g.abs::(fr.map RFV.abs).reverse,inp,out,fu⟩:=by unfold Lc;simp
attribute [local irreducible] RFrm.val RFrm.args EstS.get EstS.getV EstS.code PoolS.word EstS.store EstS.stores EstS.open EstS.openV EstS.shut RS.ins L0
theorem Y2 {x : Ins}(hx : Lz.at cx cs x)(hi:KM.sl cx c.iv inp)(hop:1≤x.op∧x.op≤14)(hk:x.op=14→0≤x.k)(h8:x.args.length≤100)(hgi:g.i≤1000)(hf:fr.length≤900)(hn:g.vals.length≤800000)(hol:out.length≤2000)(hX0:(Lc s g.nx fr inp out fu).ins m x≠ .crash)(hS:St cx w (rS p c fr g s out L)):
 Li Tryz.prog Q8K [.pointer (some ⟨p,0,none⟩), .agg ⟨cs⟩] w (OK p c fu ((Lc s g.nx fr inp out fu).ins m x) cx L) (VA p c s out ((Lc s g.nx fr inp out fu).ins m x) cx L):=by
 (obtain ⟨vr,va,rfl,hr,ha1⟩:=QY hx;obtain ⟨ep,f1,lv,i1,e1,bv,ov,f2,mo,dn⟩:=c;have hil:=hi.len;unfold Li;refine KY KX Tryz.func83 ?_;refine' Lx;intro p3 w1 hS;refine' MM;have hS:St cx _ (rS p ⟨ep,f1,lv,i1,e1,bv,ov,f2,mo,dn⟩ fr g s out (blk p3 84 [.int .i64 x.op, .int .i64 x.a, .int .i64 x.b, .int .i64 x.c, .int .i64 x.k, .int .i64 x.n,vr,va]::L)):=hS.sp;refine' Mj;refine' Lf (c:=XA Jo hS);rintro v1 w1 ⟨b9,o9,rfl,hel,hS⟩;refine' ML;refine Q5 hS hel rfl fd (Qb fr g) (Qf fr g) rfl ?_;refine' NH;rw [show ((g.i:Int)+1)=((g.i+1:Nat):Int) by omega];refine' ML;refine RL hS hel rfl vw fd (Qb fr g) (Qf fr g) Jo rfl (vy (g':=g.nx) rfl) ?_;intro w8 hS;have hS:=hS.ns;have hS:St cx _ (rS p ⟨ep,f1,lv,i1,e1,bv,ov,f2,mo,dn⟩ fr g.nx s out (blk p3 84 [.int .i64 x.op, .int .i64 x.a, .int .i64 x.b, .int .i64 x.c, .int .i64 x.k, .int .i64 x.n,vr,va]::L)):=hS.sp;refine' P0;refine' S6;refine' K3;first|(refine' Qd)|(refine' Qi)|(refine' Ac<;>intro hc));all_goals (refine' K5)
 all_goals
  first
  | (refine' KN;have hX:=qj (m:=m) (s:=Lc s g.nx fr inp out fu) (x:=x) Jo;refine' PZ;refine LK hS [_] ?_;intro b1 w1 hS;have hS:=GS (T:=2) (es:=1) (css:=[x.n].map Qs) hS rfl DJ rfl;have hS:St cx _ (rL p _ fr g.nx (sl 2 1 (.slice (some ⟨b1,0,none⟩) 1 1) ([x.n].map Qs)::_)):=hS.sp;refine' KU (c:=XB (j:=0) Jo DX hS rfl);rintro u1 w1 ⟨tv,rfl,hS⟩;refine' zn;have hG:OK p ⟨ep,f1,lv,i1,e1,bv,ov,f2,mo,dn⟩ fu ((Lc s g.nx fr inp out fu).ins m x) cx L (.tuple #[]) w1:=⟨lv,i1,ov,fr,g.nx.push tv [x.n],s,inp,out,hX,hi,rfl,hS.sp⟩)
  | (refine' KO
     (refine' K3;first|(refine' Qd)|(refine' Qi)|(refine' Ac<;>intro hc));all_goals (refine' K5)
     all_goals
      first
      | (refine' KN;refine Qo ?_;have hX:=qk (m:=m) (s:=Lc s g.nx fr inp out fu) (x:=x) Jo;rw [hX] at hX0;obtain ⟨na,hna,eX⟩:=Pa hX0;rw [eX] at hX0;have hX:=hX.trans eX;obtain ⟨nb,hnb,eX⟩:=Pa hX0;rw [eX] at hX0;have hX:=hX.trans eX;refine zC [(0,none),(1,none),(2,none),(3,none),(4,none),(6,none),(7,none),(8,none),(5,some (some [1,8])),(9,some (some [1])),(10,some none),(11,none),(12,none),(13,none),(14,none),(15,some none)] ?_;have hS:=hS.drew;refine' UW;refine' Sk;refine' Nh;refine' U3;refine' KU (c:=P2 Jo (show St cx _ (rL p _ fr g.nx _) from hS.sp) hna);rintro v1 w1 ⟨rfl,hS⟩;refine' MG;refine' KU (c:=P2 Jo (show St cx _ (rL p _ fr g.nx _) from hS.sp) hnb);rintro v1 w1 ⟨rfl,hS⟩;refine' Nj;refine' LU (c:=qi hS);rintro v1 w1 ⟨rfl,hS⟩;cases hd:(L0 x.k na nb).2;(all_goals (refine' M9;refine' TG;refine' U0;refine' Sk;refine' TP;refine' Ls;refine' Pm;first|(refine' KU (c:=YW hS);rintro v1 w1 ⟨rfl,hS⟩)|(refine LX (c:=YX hS) (p:=by rintro v9 w9 ⟨rfl,hS⟩;(repeat (first|refine' Qn|refine' Qp|refine fun _=>?_));refine' QP;refine .inr ⟨_,rfl,?_⟩;exact ⟨1,hX.trans (if_pos hd),rfl,fr,g.nx,hS.sp⟩) (h:=fun _ _ h=>h.elim))));refine' zn;refine' NJ;refine LK hS [_] ?_;intro b1 w1 hS;have hS:=GS (T:=2) (es:=1) (css:=[(L0 x.k na nb).1].map Qs) hS rfl DJ rfl;have hS:St cx _ (rL p _ fr g.nx (sl 2 1 (.slice (some ⟨b1,0,none⟩) 1 1) ([(L0 x.k na nb).1].map Qs)::_)):=hS.sp;refine' KU (c:=XB (j:=0) Jo DX hS rfl);rintro u1 w1 ⟨tv,rfl,hS⟩;refine' zn;have hG:OK p ⟨ep,f1,lv,i1,e1,bv,ov,f2,mo,dn⟩ fu ((Lc s g.nx fr inp out fu).ins m x) cx L (.tuple #[]) w1:=⟨lv,i1,ov,fr,g.nx.push tv [(L0 x.k na nb).1],s,inp,out,hX.trans (if_neg (by rw [hd];decide)),hi,rfl,hS.sp⟩)
      | (refine' KO
         (refine' K3;first|(refine' Qd)|(refine' Qi)|(refine' Ac<;>intro hc));all_goals (refine' K5)
         all_goals
          first
          | (refine' KN;(refine Qo ?_;have hX:=ql (m:=m) (s:=Lc s g.nx fr inp out fu) (x:=x) Jo;refine' RZ;refine' Lf (c:=YN (e:=ep) (s:=s) hS fd);rintro v1 w1 ⟨rfl,hS⟩;have hS:=hS.ns;refine' Mz;first|(refine' LG)|(refine' LM)|(refine' Ae<;>intro hc));(all_goals (first|(refine' KU (c:=YW hS);rintro v1 w1 ⟨rfl,hS⟩)|(refine LX (c:=YX hS) (p:=by rintro v9 w9 ⟨rfl,hS⟩;(repeat (first|refine' Qn|refine' Qp|refine fun _=>?_));refine' QP;refine .inr ⟨_,rfl,?_⟩;first|(exact Bs)) (h:=fun _ _ h=>h.elim))));refine' zn;refine' NJ;refine LK hS [_] ?_;intro b1 w1 hS;have hS:=GS (T:=2) (es:=1) (css:=[s.openV].map Qs) hS rfl DJ rfl;have hS:St cx _ (rL p _ fr g.nx (sl 2 1 (.slice (some ⟨b1,0,none⟩) 1 1) ([s.openV].map Qs)::_)):=hS.sp;refine' KU (c:=XB (j:=0) Jo DX hS rfl);rintro u1 w1 ⟨tv,rfl,hS⟩;refine' zn;have hG:OK p ⟨ep,f1,lv,i1,e1,bv,ov,f2,mo,dn⟩ fu ((Lc s g.nx fr inp out fu).ins m x) cx L (.tuple #[]) w1:=⟨lv,i1,ov,fr,g.nx.push tv [s.openV],s.open,inp,out,hX.trans (if_neg (show¬s.openV<0 by omega)),hi,rfl,hS.sp⟩)
          | (refine' KO
             (refine' K3;first|(refine' Qd)|(refine' Qi)|(refine' Ac<;>intro hc));all_goals (refine' K5)
             all_goals
              first
              | (refine' KN;have hX:=qm (m:=m) (s:=Lc s g.nx fr inp out fu) (x:=x) Jo;rw [hX] at hX0;obtain ⟨a,ha,eX⟩:=Pa hX0;rw [eX] at hX0;have hX:=hX.trans eX;refine zC [(0,none),(1,none),(2,none),(3,none),(4,none),(5,none),(6,none),(7,some (some [3])),(8,some none)] ?_;have hS:=hS.drew;refine' O3;refine' Sv;refine' U3;refine' KU (c:=P2 Jo (show St cx _ (rL p _ fr g.nx _) from hS.sp) ha);rintro v1 w1 ⟨rfl,hS⟩;refine' Nj;refine' KU (c:=YO (e:=ep) (s:=s) a hS fd);rintro v1 w1 ⟨rfl,hS⟩;have hS:=hS.ns;refine' LV;have hG:OK p ⟨ep,f1,lv,i1,e1,bv,ov,f2,mo,dn⟩ fu ((Lc s g.nx fr inp out fu).ins m x) cx L (.tuple #[]) w1:=⟨lv,i1,ov,fr,g.nx,s.shut a,inp,out,hX,hi,rfl,hS.sp⟩)
              | (refine' KO
                 (refine' K3;first|(refine' Qd)|(refine' Qi)|(refine' Ac<;>intro hc));all_goals (refine' K5)
                 all_goals
                  first
                  | (refine' KN;have hX:=qn (m:=m) (s:=Lc s g.nx fr inp out fu) (x:=x) Jo;rw [hX] at hX0;obtain ⟨a,ha,eX⟩:=Pa hX0;rw [eX] at hX0;have hX:=hX.trans eX;obtain ⟨vs,hvs,eX⟩:=Pa hX0;rw [eX] at hX0;have hX:=hX.trans eX;refine' PX;refine LX (c:=Vy (s:=s) (out:=out) (x:=x) hx h8 rfl Jo E4 ha hvs (show St cx _ (rS p ⟨ep,f1,lv,i1,e1,bv,ov,f2,mo,dn⟩ fr g.nx s out _) from hS.sp)) (p:=by rintro u9 w9 ⟨h14,rfl,hS⟩;(repeat (first|refine' Qn|refine' Qp|refine fun _=>?_));refine' QP;refine .inr ⟨_,rfl,?_⟩;rw [(jB Jo).1] at hS;exact ⟨6,hX.trans (Vz h14),rfl,fr,g.nx,hS.sp⟩) (h:=?_);rintro u1 w1 ⟨h14,rfl,tv,hS⟩;refine' zn;have hG:OK p ⟨ep,f1,lv,i1,e1,bv,ov,f2,mo,dn⟩ fu ((Lc s g.nx fr inp out fu).ins m x) cx L (.tuple #[]) w1:=⟨lv,i1,ov,fr,g.nx.push tv [s.getV a (max (x.args.length:Int) 1)],((s.get a (max (x.args.length:Int) 1)).stores (s.getV a (max (x.args.length:Int) 1)) vs),inp,out,hX.trans (bl h14),hi,rfl,hS.sp⟩)
                  | (refine' KO
                     (refine' K3;first|(refine' Qd)|(refine' Qi)|(refine' Ac<;>intro hc));all_goals (refine' K5)
                     all_goals
                      first
                      | (refine' KN;have hX:=qo (m:=m) (s:=Lc s g.nx fr inp out fu) (x:=x) Jo;rw [hX] at hX0;obtain ⟨a,ha,eX⟩:=Pa hX0;rw [eX] at hX0;have hX:=hX.trans eX;obtain ⟨b5,pp,rv,ho,hS⟩:=Vm (hS.out (i:=4) rfl);obtain rfl:=ho.he;refine zC [(0,none),(1,none),(2,none),(3,none),(4,none),(6,none),(7,none),(5,some (some [7])),(8,none),(9,some (some [])),(10,some (some [])),(11,some none)] ?_;have hS:=hS.drew;refine' Td;refine' zm;refine' Nh;refine' PY;refine' KU (c:=P2 Jo (show St cx _ (rL p _ fr g.nx _) from hS.sp) ha);rintro v1 w1 ⟨rfl,hS⟩;refine' Ni;refine' jr;refine' My;refine' KU (c:=ml (q:=s.p) (wr (a+x.k)) rfl (show St cx _ (rL p _ fr g.nx (blk b5 73 (pp::MA rv)::MW pp s.p::_)) from hS.sp));rintro v1 w1 ⟨rfl,hS⟩;refine' MG;refine LK hS [_] ?_;intro b1 w1 hS;refine' Nj;have hS:=GS (T:=2) (es:=1) (css:=[s.p.word (wr (a+x.k))].map Qs) hS rfl DJ rfl;have hS:St cx _ (rL p _ fr g.nx (sl 2 1 (.slice (some ⟨b1,0,none⟩) 1 1) ([s.p.word (wr (a+x.k))].map Qs)::_)):=hS.sp;refine' KU (c:=XB (j:=0) Jo DX hS rfl);rintro u1 w1 ⟨tv,rfl,hS⟩;refine' LV;have hG:OK p ⟨.pointer (some ⟨b5,0,none⟩),f1,lv,i1,e1,bv,ov,f2,mo,dn⟩ fu ((Lc s g.nx fr inp out fu).ins m x) cx L (.tuple #[]) w1:=by have hS:=RQ ho (show St cx _ (blk b5 73 (pp::MA rv)::MW pp s.p::LF RegV.res rv::_) from hS.sp);exact ⟨lv,i1,ov,fr,g.nx.push tv [s.p.word (wr (a+x.k))],s,inp,out,hX,hi,rfl,hS.sp⟩)
                      | (refine' KO
                         (refine' K3;first|(refine' Qd)|(refine' Qi)|(refine' Ac<;>intro hc));all_goals (refine' K5)
                         all_goals
                          first
                          | (refine' KN;have hX:=qp (m:=m) (s:=Lc s g.nx fr inp out fu) (x:=x) Jo;rw [hX] at hX0;obtain ⟨a,ha,eX⟩:=Pa hX0;rw [eX] at hX0;have hX:=hX.trans eX;obtain ⟨b0,hb0,eX⟩:=Pa hX0;rw [eX] at hX0;have hX:=hX.trans eX;obtain ⟨b5,pp,rv,ho,hS⟩:=Vm (hS.out (i:=4) rfl);obtain rfl:=ho.he;refine zC [(0,none),(1,none),(2,none),(3,none),(4,none),(5,none),(6,none),(7,none),(8,none),(9,none),(11,none),(12,none),(14,none),(15,none),(16,none),(10,some (some [3,6,12,16])),(13,none),(17,some (some [3,6,12])),(18,some none)] ?_;have hS:=hS.drew;refine' O3;refine' Sv;refine' Ll;refine' Sv;refine' Sk;refine' Nh;refine' Nh;refine' U3;refine' KU (c:=P2 Jo (show St cx _ (rL p _ fr g.nx _) from hS.sp) ha);rintro v1 w1 ⟨rfl,hS⟩;refine' Ni;refine' jr;refine' My;refine' KU (c:=P2 Jo (show St cx _ (rL p _ fr g.nx _) from hS.sp) hb0);rintro v1 w1 ⟨rfl,hS⟩;refine' Nj;refine' LU (c:=mg (s:=s.p) (wr (a+x.k)) b0 hS fd);rintro v1 w1 ⟨rfl,hS⟩;have hS:=hS.ns;refine' LV;have hG:OK p ⟨.pointer (some ⟨b5,0,none⟩),f1,lv,i1,e1,bv,ov,f2,mo,dn⟩ fu ((Lc s g.nx fr inp out fu).ins m x) cx L (.tuple #[]) w1:=by have hS:=mm ho (show St cx _ (blk b5 73 (pp::MA rv)::MW pp _::LF RegV.res rv::_) from hS.sp);exact ⟨lv,i1,ov,fr,g.nx,(s.store (wr (a+x.k)) b0),inp,out,hX,hi,rfl,hS.sp⟩)
                          | (refine' KO
                             (refine' K3;first|(refine' Qd)|(refine' Qi)|(refine' Ac<;>intro hc));all_goals (refine' K5)
                             all_goals
                              first
                              | (refine' KN;have hX:=qq (m:=m) (s:=Lc s g.nx fr inp out fu) (x:=x) Jo;rw [hX] at hX0;obtain ⟨a,ha,eX⟩:=Pa hX0;rw [eX] at hX0;have hX:=hX.trans eX;obtain ⟨n,hna,eX⟩:=Pa hX0;rw [eX] at hX0;have hX:=hX.trans eX;refine' PX;refine LX (c:=Vx (s:=s) (out:=out) (x:=x) hx Jo E4 ha hna (show St cx _ (rS p ⟨ep,f1,lv,i1,e1,bv,ov,f2,mo,dn⟩ fr g.nx s out _) from hS.sp)) (p:=by rintro u9 w9 hB;(repeat (first|refine' Qn|refine' Qp|refine fun _=>?_));refine' QP;refine .inr ⟨_,rfl,?_⟩;(rcases hB with ⟨hnn,rfl,hS⟩|⟨hnn,h14,rfl,hS⟩;(exact ⟨3,hX.trans (if_pos hnn),rfl,fr,g.nx,hS.sp⟩);(rw [(jB Jo).1] at hS;exact ⟨6,hX.trans ((if_neg hnn).trans (Vz h14)),rfl,fr,g.nx,hS.sp⟩))) (h:=?_);rintro u1 w1 ⟨hnn,h14,rfl,tv,hS⟩;refine' zn;have hG:OK p ⟨ep,f1,lv,i1,e1,bv,ov,f2,mo,dn⟩ fu ((Lc s g.nx fr inp out fu).ins m x) cx L (.tuple #[]) w1:=⟨lv,i1,ov,fr,g.nx.push tv [s.getV a (1+n)],((s.get a (1+n)).store (s.getV a (1+n)) n),inp,out,hX.trans ((if_neg hnn).trans (bl h14)),hi,rfl,hS.sp⟩)
                              | (refine' KO
                                 (refine' K3;first|(refine' Qd)|(refine' Qi)|(refine' Ac<;>intro hc));all_goals (refine' K5)
                                 all_goals
                                  first
                                  | (refine' KN;have hX:=qs (m:=m) (s:=Lc s g.nx fr inp out fu) (x:=x) Jo;rw [hX] at hX0;obtain ⟨a,ha,eX⟩:=Pa hX0;rw [eX] at hX0;have hX:=hX.trans eX;obtain ⟨k,hkk,eX⟩:=Pa hX0;rw [eX] at hX0;have hX:=hX.trans eX;obtain ⟨b5,pp,rv,ho,hS⟩:=Vm (hS.out (i:=4) rfl);obtain rfl:=ho.he;refine' RX;refine zv hS ?_;refine LX (c:=bj (q:=s.p) (x:=x) rfl hx Jo ha hkk (show St cx _ (rL p _ fr g.nx (blk b5 73 (pp::MA rv)::MW pp s.p::_)) from hS.sp)) (p:=by rintro u9 w9 ⟨hb9,rfl,hS⟩;(repeat (first|refine' Qn|refine' Qp|refine fun _=>?_));refine' QP;refine .inr ⟨_,rfl,?_⟩;have hS:=RQ ho (show St cx _ (blk b5 73 (pp::MA rv)::MW pp s.p::LF RegV.res rv::_) from hS.sp);exact ⟨2,hX.trans (jR hb9),rfl,fr,g.nx,hS.sp⟩) (h:=?_);rintro u1 w2 ⟨hnb,rfl,hS⟩;refine' KU (c:=ml (q:=s.p) (wr (wr (a+1)+k)) rfl (show St cx _ (rL p _ fr g.nx (blk b5 73 (pp::MA rv)::MW pp s.p::_)) from hS.sp));rintro v1 w1 ⟨rfl,hS⟩;refine LK hS [_] ?_;intro b1 w1 hS;have hS:=GS (T:=2) (es:=1) (css:=[s.p.word (wr (wr (a+1)+k))].map Qs) hS rfl DJ rfl;have hS:St cx _ (rL p _ fr g.nx (sl 2 1 (.slice (some ⟨b1,0,none⟩) 1 1) ([s.p.word (wr (wr (a+1)+k))].map Qs)::_)):=hS.sp;refine' KU (c:=XB (j:=0) Jo DX hS rfl);rintro u1 w1 ⟨tv,rfl,hS⟩;refine' zn;have hG:OK p ⟨.pointer (some ⟨b5,0,none⟩),f1,lv,i1,e1,bv,ov,f2,mo,dn⟩ fu ((Lc s g.nx fr inp out fu).ins m x) cx L (.tuple #[]) w1:=by have hS:=RQ ho (show St cx _ (blk b5 73 (pp::MA rv)::MW pp s.p::LF RegV.res rv::_) from hS.sp);exact ⟨lv,i1,ov,fr,g.nx.push tv [s.p.word (wr (wr (a+1)+k))],s,inp,out,hX.trans (jS hnb),hi,rfl,hS.sp⟩)
                                  | (refine' KO
                                     (refine' K3;first|(refine' Qd)|(refine' Qi)|(refine' Ac<;>intro hc));all_goals (refine' K5)
                                     all_goals
                                      first
                                      | (refine' KN;have hX:=jM (m:=m) (s:=Lc s g.nx fr inp out fu) (x:=x) Jo;rw [hX] at hX0;obtain ⟨a,ha,eX⟩:=Pa hX0;rw [eX] at hX0;have hX:=hX.trans eX;obtain ⟨k,hkk,eX⟩:=Pa hX0;rw [eX] at hX0;have hX:=hX.trans eX;obtain ⟨y,hy,eX⟩:=Pa hX0;rw [eX] at hX0;have hX:=hX.trans eX;obtain ⟨b5,pp,rv,ho,hS⟩:=Vm (hS.out (i:=4) rfl);obtain rfl:=ho.he;refine zC [(0,none),(1,none),(2,none),(3,none),(4,none),(5,none),(6,none),(7,none),(8,none),(10,none),(11,none),(12,none),(9,some (some [3,6,12])),(13,some (some [3,6])),(14,some none)] ?_;have hS:=hS.drew;refine' O3;refine' Sv;refine' Ll;refine' Sv;refine' M9;refine zv hS ?_;refine' U3;refine LX (c:=bj (q:=s.p) (x:=x) rfl hx Jo ha hkk (show St cx _ (rL p _ fr g.nx (blk b5 73 (pp::MA rv)::MW pp s.p::_)) from hS.sp)) (p:=by rintro u9 w9 ⟨hb9,rfl,hS⟩;(repeat (first|refine' Qn|refine' Qp|refine fun _=>?_));refine' QP;refine .inr ⟨_,rfl,?_⟩;have hS:=RQ ho (show St cx _ (blk b5 73 (pp::MA rv)::MW pp s.p::LF RegV.res rv::_) from hS.sp);exact ⟨2,hX.trans (jR hb9),rfl,fr,g.nx,hS.sp⟩) (h:=?_);rintro u1 w2 ⟨hnb,rfl,hS⟩;refine' MG;refine' KU (c:=P2 Jo (show St cx _ (rL p _ fr g.nx _) from hS.sp) hy);rintro v1 w1 ⟨rfl,hS⟩;refine' Nj;refine' LU (c:=mg (s:=s.p) (wr (wr (a+1)+k)) y hS fd);rintro v1 w1 ⟨rfl,hS⟩;have hS:=hS.ns;refine' LV;have hG:OK p ⟨.pointer (some ⟨b5,0,none⟩),f1,lv,i1,e1,bv,ov,f2,mo,dn⟩ fu ((Lc s g.nx fr inp out fu).ins m x) cx L (.tuple #[]) w1:=by have hS:=mm ho (show St cx _ (blk b5 73 (pp::MA rv)::MW pp _::LF RegV.res rv::_) from hS.sp);exact ⟨lv,i1,ov,fr,g.nx,(s.store (wr (wr (a+1)+k)) y),inp,out,hX.trans (jS hnb),hi,rfl,hS.sp⟩)
                                      | (refine' KO
                                         (refine' K3;first|(refine' Qd)|(refine' Qi)|(refine' Ac<;>intro hc));all_goals (refine' K5)
                                         all_goals
                                          first
                                          | (refine' KN;have hX:=jN (m:=m) (s:=Lc s g.nx fr inp out fu) (x:=x) Jo;rw [hX] at hX0;obtain ⟨a,ha,eX⟩:=Pa hX0;rw [eX] at hX0;have hX:=hX.trans eX;obtain ⟨b5,pp,rv,ho,hS⟩:=Vm (hS.out (i:=4) rfl);obtain rfl:=ho.he;refine' RX;refine' Lw;refine' KU (c:=P2 Jo (show St cx _ (rL p _ fr g.nx _) from hS.sp) ha);rintro v1 w1 ⟨rfl,hS⟩;refine' KU (c:=ml (q:=s.p) (a) rfl (show St cx _ (rL p _ fr g.nx (blk b5 73 (pp::MA rv)::MW pp s.p::_)) from hS.sp));rintro v1 w1 ⟨rfl,hS⟩;refine LK hS [_] ?_;intro b1 w1 hS;have hS:=GS (T:=2) (es:=1) (css:=[s.p.word a].map Qs) hS rfl DJ rfl;have hS:St cx _ (rL p _ fr g.nx (sl 2 1 (.slice (some ⟨b1,0,none⟩) 1 1) ([s.p.word a].map Qs)::_)):=hS.sp;refine' KU (c:=XB (j:=0) Jo DX hS rfl);rintro u1 w1 ⟨tv,rfl,hS⟩;refine' zn;have hG:OK p ⟨.pointer (some ⟨b5,0,none⟩),f1,lv,i1,e1,bv,ov,f2,mo,dn⟩ fu ((Lc s g.nx fr inp out fu).ins m x) cx L (.tuple #[]) w1:=by have hS:=RQ ho (show St cx _ (blk b5 73 (pp::MA rv)::MW pp s.p::LF RegV.res rv::_) from hS.sp);exact ⟨lv,i1,ov,fr,g.nx.push tv [s.p.word a],s,inp,out,hX,hi,rfl,hS.sp⟩)
                                          | (refine' KO
                                             (refine' K3;first|(refine' Qd)|(refine' Qi)|(refine' Ac<;>intro hc));all_goals (refine' K5)
                                             all_goals
                                              first
                                              | (refine' KN;(refine Qo ?_;have hX:=jO (m:=m) (s:=Lc s g.nx fr inp out fu) (x:=x) Jo;obtain ⟨av,nv,hiv⟩:=FK hi;refine' RZ;refine iU vw hi ?_;first|(refine' Qd)|(refine' Qi)|(refine' Ac<;>intro hc));(all_goals (first|(refine' KU (c:=YW hS);rintro v1 w1 ⟨rfl,hS⟩)|(refine LX (c:=YX hS) (p:=by rintro v9 w9 ⟨rfl,hS⟩;(repeat (first|refine' Qn|refine' Qp|refine fun _=>?_));refine' QP;refine .inr ⟨_,rfl,?_⟩;first|(first|exact Bs|exact BY)) (h:=fun _ _ h=>h.elim))));refine' MM;obtain ⟨n0,r0,hir⟩:∃n0 r0,inp=n0::r0:=Jq Jo;refine' NJ;refine' Oa;refine TA (m:=0) vw rfl hi rfl Jo ?_;intro b8 o8 cs8 x8 hat8 hx8 he8;rw [hir,Gl] at hx8;cases hx8;obtain rfl:=QB he8;refine' N8;refine LK hS [_] ?_;intro b1 w1 hS;have hS:=GS (T:=2) (es:=1) (css:=[n0].map Qs) hS rfl DJ rfl;have hS:St cx _ (rL p _ fr g.nx (sl 2 1 (.slice (some ⟨b1,0,none⟩) 1 1) ([n0].map Qs)::_)):=hS.sp;refine' KU (c:=XB (j:=0) Jo DX hS rfl);rintro u1 w1 ⟨tv,rfl,hS⟩;refine' zn;refine' NJ;refine' Oa;refine iV (l':=1) (h':=inp.length) vw hi rfl rfl rfl ⟨_,rfl⟩ Jo Jo ?_;intro v7 hk7;have hk7:KM.sl cx v7 r0:=(by rw [hir] at hk7;simpa using hk7);obtain ⟨a7,n7,rfl⟩:=FK hk7;refine' Ma;refine Mi hS ?_;intro w1 hS;have hS:=hS.ns;refine' zn;have hG:OK p ⟨ep,f1,lv,i1,e1,bv,ov,f2,mo,dn⟩ fu ((Lc s g.nx fr inp out fu).ins m x) cx L (.tuple #[]) w1:=⟨lv,_,ov,fr,g.nx.push tv [n0],s,r0,out,hX.trans (jT hir),hk7,rfl,hS.sp⟩)
                                              | (refine' KO
                                                 (refine' K3;first|(refine' Qd)|(refine' Qi)|(refine' Ac<;>intro hc));all_goals (refine' K5)
                                                 all_goals
                                                  first
                                                  | (refine' KN;(refine Qo ?_;have hX:=jP (m:=m) (s:=Lc s g.nx fr inp out fu) (x:=x) Jo;rw [hX] at hX0;obtain ⟨n,hnn,eX⟩:=Pa hX0;rw [eX] at hX0;have hX:=hX.trans eX;refine' Mj;refine' Sn;refine QL (n:=out.length) hS vw fd (FF _) ?_;first|(refine' Qd)|(refine' Qi)|(refine' Ac<;>intro hc));(all_goals (first|(refine' KU (c:=YW hS);rintro v1 w1 ⟨rfl,hS⟩)|(refine LX (c:=YX hS) (p:=by rintro v9 w9 ⟨rfl,hS⟩;(repeat (first|refine' Qn|refine' Qp|refine fun _=>?_));refine' QP;refine .inr ⟨_,rfl,?_⟩;first|(first|exact Bs|exact BY|exact Cz)) (h:=fun _ _ h=>h.elim))));refine' zn;refine zC [(0,none),(1,none),(2,none),(3,none),(4,none),(5,none),(6,none),(7,none),(8,none),(9,some (some [5])),(10,some (some [5])),(11,some (some [])),(12,none),(13,none),(14,none),(15,some none)] ?_;have hS:=hS.drew;refine' Td;refine' UX;refine' Rz;refine zl hS ?_;refine' U3;refine' KU (c:=P2 Jo (show St cx _ (rL p _ fr g.nx _) from hS.sp) hnn);rintro v1 w1 ⟨rfl,hS⟩;refine' MG;refine LK hS [_] ?_;intro b1 w1 hS;refine' MG;refine Ow YT (.inl aX) hS vw vw (v:=ov) (css:=out.map Qs) fd (hS.srcB fd Jr DH) DS ?_;intro v7 w7 hS;have hS:=hS.ns;have ho7:=hS.oneC (v:=v7) (css:=out.map Qs++[[.int .i64 n]]) fd;rw [QfJ] at hS;refine' Ni;refine' UX;refine' M6;refine' Mb;refine Mi hS ?_;intro w1 hS;have hS:=hS.ns;refine' LV;have hG:OK p ⟨ep,f1,lv,i1,e1,bv,ov,f2,mo,dn⟩ fu ((Lc s g.nx fr inp out fu).ins m x) cx L (.tuple #[]) w1:=⟨lv,i1,v7,fr,g.nx,s,inp,out++[n],hX.trans (dE (by show out.length≠2000;omega)),hi,rfl,hS.sp⟩)
                                                  | (refine' KO
                                                     refine' K3;refine' Qd;refine' K5
                                                     all_goals
                                                      first
                                                      | (refine' KN;(refine Qo ?_;have hX:=jQ (m:=m) (s:=Lc s g.nx fr inp out fu) (x:=x) Jo;rw [hX] at hX0;obtain ⟨vs,hvs,eX⟩:=Pa hX0;rw [eX] at hX0;have hX:=hX.trans eX;refine' RZ;refine QL (n:=fr.length+1) hS vw fd (Qb fr g.nx) ?_;first|(refine' Qd)|(refine' Qi)|(refine' Ac<;>intro hc));(all_goals (first|(refine' KU (c:=YW hS);rintro v1 w1 ⟨rfl,hS⟩)|(refine LX (c:=YX hS) (p:=by rintro v9 w9 ⟨rfl,hS⟩;(repeat (first|refine' Qn|refine' Qp|refine fun _=>?_));refine' QP;refine .inr ⟨_,rfl,?_⟩;first|(first|exact Bs|exact BY|exact Cz|exact ⟨5,hX.trans (YZ (by show (fr.map RFV.abs).reverse.length+1=40;rw [Ig,FF];omega)),rfl,fr,g.nx,hS.sp⟩)) (h:=fun _ _ h=>h.elim))));refine' zn;refine zC [(0,none),(1,none),(2,none),(3,none),(4,none),(5,none),(6,none),(7,none),(8,none),(9,none),(10,some (some [4,6])),(11,none),(12,some (some [4])),(13,some (some [])),(14,none),(15,none),(16,some none)] ?_;have hS:=hS.drew;refine' Td;refine' Sv;refine' Nh;refine' U3;refine' KU (c:=dw Jo Jo ha1 hvs (show St cx _ (rL p _ fr g.nx _) from hS.sp));rintro v2 w2 ⟨hvl,ho2,hS⟩;obtain ⟨a2,n2,rfl⟩:=hS.shape (i:=4) rfl;refine' Ni;refine Nn [_,_,_,_] ?_;refine' My;refine LK hS [_,_,_,_] ?_;intro b1 w1 hS;refine' MG;refine Ow dt (.inl jD) hS vw vw (v:=lv) (css:=OJ fr g.nx) fd (hS.srcB fd Jr DH) (by rw [Qb];simp only [FP,F8];omega) ?_;intro v7 w7 hS;have hS:=hS.ns;have ho7:=hS.oneC (v:=v7) fd;refine' Ni;refine' Xt;refine' MR;refine' Mb;refine Mi hS ?_;intro w1 hS;have hS:=hS.ns;refine' LV;have hG:OK p ⟨ep,f1,lv,i1,e1,bv,ov,f2,mo,dn⟩ fu ((Lc s g.nx fr inp out fu).ins m x) cx L (.tuple #[]) w1:=(by rw [show Value.int .i64 x.k= .int .i64 ((x.k.toNat:Nat):Int) by rw [Gh (hk Jo)]] at hS;have e9:OJ fr g.nx++[[.int .i64 ((x.k.toNat:Nat):Int), .int .i64 0, .int .i64 0, .slice a2 (vs.map Qs).length n2]]=OJ (fr++[g.nx]) ⟨x.k.toNat,0,0, .slice a2 (vs.map Qs).length n2,vs⟩:=Qfq (k:=⟨x.k.toNat,0,0, .slice a2 (vs.map Qs).length n2,vs⟩);rw [e9] at hS;have hS:=Y1 (k:=g.nx) (fr:=fr) (L:=_) (show St cx _ (sl 2 1 g.nx.vv (g.nx.vals.map Qs)::LF RFV.res fr::_) from hS.sp);exact ⟨v7,i1,ov,fr++[g.nx],⟨x.k.toNat,0,0, .slice a2 (vs.map Qs).length n2,vs⟩,s,inp,out,(hX.trans (Y0 (by show (fr.map RFV.abs).reverse.length+1≠40;rw [Ig,FF];omega))).trans (by rw [vD];rfl),hi,rfl,hS.sp⟩)))))))))))))))
 all_goals (refine' Nm;exact .inl ⟨_,rfl,hG⟩)
end
section
structure HT where
 Tv:TypeId
 Tt:TypeId
 Tr:TypeId
 Th:TypeId
structure ThgV where
 array:Bool
 lv:Value
 l:List Val
def ThgV.abs (t:ThgV):Thg:=⟨t.array,t.l⟩
def ThgV.cells (t:ThgV):List Value:=[.bool t.array,t.lv]
def ThgV.res (H:HT)(t:ThgV):Res:=sl H.Tv 4 t.lv (t.l.map Val.cells)
structure RgnV where
 there:Bool
 lv:Value
 l:List ThgV
 pages:Int
 used:Int
def RgnV.abs (r:RgnV):Rgn:=⟨r.there,r.l.map ThgV.abs,r.pages,r.used⟩
def RgnV.cells (r:RgnV):List Value:=[.bool r.there,r.lv, .int .i64 r.pages, .int .i64 r.used]
def RgnV.res (H:HT)(r:RgnV):Res:=star (sl H.Tt 2 r.lv (r.l.map ThgV.cells)) (LF (ThgV.res H) r.l)
def RgnV.nil:RgnV:=⟨false, .slice none 0 0,[],0,0⟩
structure HpO (N:Nat) (s:HpS) (rv:List RgnV):Prop where
 hr:rv.map RgnV.abs=s.l
 ok:s.Ok N
section
variable {cx:Cx}{w:World}{L:List Res}{H:HT}
theorem NK {x y:Res}{rv:List RgnV}{k:Nat}{r:RgnV}(hS:St cx w (x::y::LF (RgnV.res H) rv::L))(hr:rv[k]?=some r):St cx w (sl H.Tt 2 r.lv (r.l.map ThgV.cells)::LF (ThgV.res H) r.l::x::y::LF (RgnV.res H) (rv.eraseIdx k)::L):=
 J4 (hS.bigOut NT hr)
theorem qt {x y:Res}{rv:List RgnV}{k:Nat}{r:RgnV}(hk:k<rv.length)(hS:St cx w (sl H.Tt 2 r.lv (r.l.map ThgV.cells)::LF (ThgV.res H) r.l::x::y::LF (RgnV.res H) (rv.eraseIdx k)::L)):St cx w (x::y::LF (RgnV.res H) (rv.set k r)::L):=
 IG (f:=RgnV.res H) (x':=r) hS.star' NT hk
theorem gI {x:Res}{l:List ThgV}{k:Nat}{t:ThgV}(hS:St cx w (x::LF (ThgV.res H) l::L))(ht:l[k]?=some t):St cx w (sl H.Tv 4 t.lv (t.l.map Val.cells)::x::LF (ThgV.res H) (l.eraseIdx k)::L):=hS.bigOut OD ht
theorem dF {x:Res}{l:List ThgV}{k:Nat}{t:ThgV}(hk:k<l.length)(hS:St cx w (sl H.Tv 4 t.lv (t.l.map Val.cells)::x::LF (ThgV.res H) (l.eraseIdx k)::L)):St cx w (x::LF (ThgV.res H) (l.set k t)::L):=IG (f:=ThgV.res H) (x':=t) hS OD hk
theorem St.big_push {f:α→Res}{l:List α}{x:α}(h:St cx w (f x::LF f l::L)):St cx w (LF f (l++[x])::L):=by
 have h1:St cx w (l.map f++(f x::L)):=h.mv1.list;have h2:St cx w ((l++[x]).map f++L):=Em;exact h2.list'
abbrev Jy:=@St.big_push
theorem St.big_nil (f:α→Res)(h:St cx w L):St cx w (LF f []::L):=h.emp (r:=Go.Lir.emp) fun _ h=>h
abbrev IK:=@St.big_nil
theorem St.rot1 {a b c:Res}(h:St cx w (a::b::c::d::L)):St cx w (b::c::d::a::L):=St.mv3 (St.mv3 (St.mv3 h))
abbrev IL:=@St.rot1
theorem St.rot2 {a e b c:Res}(h:St cx w (a::e::b::c::d::L)):St cx w (b::c::d::a::e::L):=St.mv4 (St.mv4 (St.mv4 h))
abbrev KG:=@St.rot2
theorem St.rot3 {a e f b c:Res}(h:St cx w (a::e::f::b::c::d::L)):St cx w (b::c::d::a::e::f::L):=St.mv5 (St.mv5 (St.mv5 h))
theorem VB {f:α→Res}{l:List α}{k:Nat}{x y:α}(h:l[k]?=some x)(he:f y=f x):LF f (l.set k y)=LF f l:=by
 unfold LF;rw [G8,he,cq (by rw [FW,h];rfl)]
theorem LN {rv:List RgnV}{m:Nat}{r:RgnV}(h:rv[m]?=some r):(rv.map RgnV.cells)[m]?=some r.cells:=by rw [FW,h];rfl
theorem bm {rv:List RgnV}{m:Nat}{r':RgnV}:(rv.map RgnV.cells).set m r'.cells=(rv.set m r').map RgnV.cells:=G8.symm
theorem mn {rv:List RgnV}{m:Nat}{r r':RgnV}(h:r.cells.set j u=r'.cells):(rv.map RgnV.cells).set m (r.cells.set j u)=(rv.set m r').map RgnV.cells:=by rw [h];exact bm
theorem PK {tv:List ThgV}{m:Nat}{t:ThgV}(h:tv[m]?=some t):(tv.map ThgV.cells)[m]?=some t.cells:=by rw [FW,h];rfl
theorem bn {l:List Val}{m:Nat}(h:m<l.length):(l.map Val.cells)[m]?=some (l.getD m Val.zero).cells:=Ns Val.cells l Val.zero h
theorem P3 {rv:List RgnV}{m:Nat}{r:RgnV}(h:m<rv.length):(rv.set m r)[m]?=some r:=by simp [h]
theorem HpO.len {s:HpS}{rv:List RgnV}(h:HpO N s rv):rv.length=s.l.length:=by rw [←h.hr,FF]
theorem HpO.at_ {s:HpS}{rv:List RgnV}(h:HpO N s rv){k:Nat}(hk:k<rv.length):∃r,rv[k]?=some r∧s.reg k=r.abs∧s.l[k]?=some r.abs:=by
 refine ⟨rv[k],FB hk,?_,?_⟩
 · unfold HpS.reg;rw [if_pos Jo,F9,←h.hr,FE,FW,FB hk];rfl
 · rw [←h.hr,FW,FB hk];rfl
theorem HpO.out {s:HpS}{rv:List RgnV}(h:HpO N s rv)(hk:k<0∨(rv.length:Int)≤k):s.has k=false:=by
 have hl:=h.len;unfold HpS.has HpS.reg;split
 · rw [FE,Gb Jo];rfl
 · rfl
theorem HpO.has_in {s:HpS}{rv:List RgnV}(h:HpO N s rv)(hk:s.has k=true):∃m:Nat,k=m∧m<rv.length:=by
 by_cases hc:k<0∨(rv.length:Int)≤k
 · rw [h.out hc] at hk;cases hk
 · exact ⟨k.toNat,Jo,Jo⟩
theorem HpO.rng {s:HpS}{rv:List RgnV}(h:HpO N s rv){k:Nat}{r:RgnV}(hr:rv[k]?=some r):r.l.length≤N∧(∀t∈r.l,t.l.length≤1000)∧0≤r.pages∧0≤r.used∧r.used≤1000∧(r.there=false→r.l.length=0∧r.pages=0):=by
 have hm:r.abs∈s.l:=(by rw [←h.hr];exact Gm.2 ⟨r,FC hr,rfl⟩);obtain ⟨h1,h2,h3,h4,h5,h6⟩:=h.ok.each _ hm;refine ⟨by simpa [RgnV.abs] using h1,fun t ht=>h2 t.abs (Gm.2 ⟨t,ht,rfl⟩),h3,h4,h5,fun hf=>?_⟩;have:=h6 hf;simp only [RgnV.abs,Rgn.none,Rgn.mk.injEq,List.map_eq_nil_iff] at this;exact ⟨by rw [this.2.1];rfl,this.2.2.1⟩
end
end
section
def H0:HT:=⟨224,272,267,127⟩
def jU (N:Nat)(h:Value)(s:HpS):Res:=Res.ex fun x:Nat×Value×List RgnV=>Res.pure (h= .pointer (some ⟨x.1,0,none⟩)∧HpO N s x.2.2) (RK [blk x.1 127 [x.2.1, .int .i64 s.left, .int .i64 s.live],sl 267 4 x.2.1 (x.2.2.map RgnV.cells),LF (RgnV.res H0) x.2.2])
variable {cx:Cx}{w:World}{L:List Res}{i:Nat}{N:Nat}{h:Value}{s:HpS}
variable {b:Nat}{lv:Value}{left live:Int}{rv:List RgnV}
def jV (rv:List RgnV)(k t:Nat)(th:ThgV)(v:Value):Prop:=∃r b o,rv[k]?=some r∧r.l[t]?=some th∧v= .pointer (some ⟨b,o,none⟩)∧Oe r.lv r.l.length 2 t b o
theorem HpO.thg {k t:Nat}{r:RgnV}{th:ThgV}(ho:HpO N s rv)(hr:rv[k]?=some r)(ht:r.l[t]?=some th):s.thg k t=th.abs:=by
 obtain ⟨r',h1,h2,_⟩:=ho.at_ (FD.1 hr).1;rw [hr] at h1;cases h1;unfold HpS.thg;rw [h2];show (r.l.map ThgV.abs).getD t _=_;rw [FE,FW,ht];rfl
def RgnV.roomV (r:RgnV)(n:Int):RgnV:=if r.abs.more n then ⟨r.there,r.lv,r.l,r.pages+1,n⟩ else ⟨r.there,r.lv,r.l,r.pages,r.used+n⟩
theorem Qhp {r:RgnV}:(r.roomV n).abs=r.abs.room n∧(r.roomV n).lv=r.lv∧(r.roomV n).l=r.l:=by
 unfold RgnV.roomV Rgn.room;split<;>exact ⟨rfl,rfl,rfl⟩
theorem RgnV.more_iff {r:RgnV}:r.abs.more n=true↔(r.pages=0∨16<r.used+n):=decide_eq_true_iff
end
section
variable {cx:Cx}{w:World}{L:List Res}{i:Nat}{N:Nat}{h:Value}{s:HpS}
theorem vE {s:HpS}(hc:s.can v=false):s.code v n=20:=by unfold HpS.code;rw [hc];rfl
theorem mq {s:HpS}(hc:s.code v n≠0)(kind:Int)(t:Thg):s.put v n t=s∧s.putV v kind n=Val.zero:=by unfold HpS.put HpS.putV;rw [if_neg hc,if_neg hc];exact ⟨rfl,rfl⟩
theorem jW {a b:Value}(h1:oneC a=true)(h2:oneC b=true):∀u∈[a,b],oneC u=true:=by
 intro u hu;simp only [FX,FQ,or_false] at hu;rcases hu with rfl|rfl;exact h1;exact h2
theorem vF (l:List Val):∀c∈l.map Val.cells,∀u∈c,oneC u=true:=by
 intro c hc u hu;obtain ⟨v,_,rfl⟩:=Gm.1 hc;simp [Val.cells] at hu;rcases hu with rfl|rfl|rfl|rfl<;>rfl

def bo (r:RgnV)(v:Value)(t:ThgV):RgnV:=⟨r.there,v,r.l++[t],r.pages,r.used⟩
theorem QbZ {r:RgnV}{v:Value}{t:ThgV}:(bo r v t).abs=r.abs.push t.abs:=by simp [bo,RgnV.abs,Rgn.push]
theorem QiX {r:RgnV}:r.abs.l.length=r.l.length:=FF _
theorem QhH {s:HpS}{m:Nat}{vt vn kind:Int}{t:Thg}{r:RgnV}(hc:s.code ⟨2,m,vt,vn⟩ n=0)(hsl:s.l[m]?=some r.abs)(hrs:s.reg m=r.abs):
 s.put ⟨2,m,vt,vn⟩ n t=⟨s.l.set m ((r.abs.room n).push t),if r.abs.more n then s.left - 1 else s.left⟩∧(s.put ⟨2,m,vt,vn⟩ n t).live=s.live∧s.putV ⟨2,m,vt,vn⟩ kind n=⟨kind,m,r.abs.l.length,0⟩:=by
 have e:s.put ⟨2,m,vt,vn⟩ n t=⟨s.l.set m ((r.abs.room n).push t),if r.abs.more n then s.left - 1 else s.left⟩:=by
  unfold HpS.put;rw [if_pos hc];simp only [hrs,F9]
 refine ⟨e,?_,?_⟩
 · rw [e];have h1:=gF (r':=(r.abs.room n).push t) hsl;have h2:((r.abs.room n).push t).there=r.abs.there:=(by unfold Rgn.room;split<;>rfl);rw [h2] at h1;show (s.l.set m _).countP (fun r=>r.there)=s.l.countP fun r=>r.there;omega
 · unfold HpS.putV;rw [if_pos hc];simp only [hrs]
theorem shut_no {s:HpS}(h:s.can v=false):s.shut v=s:=by unfold HpS.shut;rw [h];rfl
theorem HpS.ok_new (hn:0≤n∧n≤1000):(⟨[],n⟩:HpS).Ok 0:=⟨F6 _,by simp,hn.1,by simp;omega,by simp [HpS.live]⟩
theorem XC (v:Val):∀u∈v.cells,oneC u=true:=by simp [Val.cells,oneC]
theorem jX {l:List Val}{k:Nat}{x:Val}:(l.map Val.cells).set k x.cells=(l.set k x).map Val.cells:=G8.symm
theorem dG {s:HpS}{x:Val}(h:s.setC v k x≠0):s.set v k x=s:=by
 unfold HpS.set;split
 · rfl
 · rw [if_neg h]
def Ti (r:RgnV)(t:Nat)(th:ThgV)(k:Nat)(x:Val):RgnV:=⟨r.there,r.lv,r.l.set t ⟨th.array,th.lv,th.l.set k x⟩,r.pages,r.used⟩
theorem VC {r:RgnV}{t k:Nat}{th:ThgV}{x:Val}:(Ti r t th k x).abs=r.abs.upd t (th.abs.upd k x):=by simp [Ti,RgnV.abs,Rgn.upd,G8];rfl
theorem Y3 {s:HpS}{x:Val}{kr t:Nat}{r:RgnV}{th:ThgV}{rv:List RgnV}(ho:HpO N s rv)(hr:rv[kr]?=some r)(hth:r.l[t]?=some th)(e0:s.at_ v=some (kr,t))(hc:s.setC v k x=0)(hk:k.toNat<th.l.length):
 s.set v k x=⟨s.l.set kr (r.abs.upd t (th.abs.upd k.toNat x)),s.left⟩∧(s.set v k x).live=s.live∧HpO N (s.set v k x) (rv.set kr (Ti r t th k.toNat x)):=by
 obtain ⟨r',h1,h2,h3⟩:=ho.at_ (FD.1 hr).1;rw [hr] at h1;cases h1
 have e:s.set v k x=⟨s.l.set kr (r.abs.upd t (th.abs.upd k.toNat x)),s.left⟩:=by
  unfold HpS.set;rw [e0];simp only [hc,if_true,h2,ho.thg hr hth]
 have hl:=gF (r':=r.abs.upd t (th.abs.upd k.toNat x)) h3;have hth2:(r.abs.upd t (th.abs.upd k.toNat x)).there=r.abs.there:=rfl;rw [hth2] at hl
 have hlive:(s.set v k x).live=s.live:=by
  rw [e];show (s.l.set kr _).countP (fun r=>r.there)=s.l.countP fun r=>r.there;omega
 obtain ⟨g1,g2,g3,g4,g5,g6⟩:=ho.rng hr;refine ⟨e,hlive,⟨by rw [G8,VC,ho.hr,e],?_⟩⟩;rw [e];have hok:=ho.ok
 have hth3:r.there=true:=by
  cases hx:r.there with
  | true=>rfl
  | false=>
    have:=(g6 hx).1;have:=(FD.1 hth).1;omega
 refine JK hok h3 (F6 _) hok.left rfl (by show s.live+_≤_;have:=hok.live;rw [hth2];omega) ⟨by simp [Rgn.upd,RgnV.abs];exact g1,fun y hy=>?_,g3,g4,g5,fun hf=>by simp [Rgn.upd,RgnV.abs,hth3] at hf⟩;rcases L8 hy with rfl|hy
 · simp only [Thg.upd,Gf];exact g2 th (FC hth)
 · obtain ⟨z,hz,rfl⟩:=Gm.1 hy;exact g2 z hz
theorem Qgr {l:List Val}(h:l.length≤1000):1≤Mv l∧Mv l≤1000:=by unfold Mv;split<;>omega
theorem Qc4:(PI ((j:Int)+1))=PI j++[⟨1,0,0,0⟩]:=by
 unfold PI;rw [show ((j:Int)+1).toNat=j+1 by omega,F9,IU]
theorem Qds {n:Nat}:(PI n).length=n:=by simp [PI]
end
section
structure FrmV where
 f:Nat
 b:Nat
 i:Nat
 vv:Value
 vals:List Val
 rv:Value
 regs:List Int
abbrev Qv (l:List Int):List (List Value):=l.map fun n=>[.int .i64 n]
def FrmV.abs (x:FrmV):Frm:=⟨x.f,x.b,x.i,x.vals,x.regs⟩
def FrmV.cells (x:FrmV):List Value:=[.int .i64 x.f, .int .i64 x.b, .int .i64 x.i,x.vv,x.rv]
def FrmV.res (x:FrmV):Res:=star (sl 224 4 x.vv (x.vals.map Val.cells)) (sl 3 1 x.rv (Qv x.regs))
structure MC where
 hp:Value
 fn:Value
 lv:Value
 iv:Value
 e:Int
 bv:Value
 ov:Value
 fu:Int
 mo:Int
 dn:Bool
 c:Int
 a:Int
@[reducible] def MC.cells (x:MC):List Value:=[x.hp,x.fn,x.lv,x.iv, .int .i64 x.e,x.bv,x.ov, .int .i64 x.fu, .int .i64 x.mo, .bool x.dn, .int .i64 x.c, .int .i64 x.a]
@[reducible] def Pb (fr:List FrmV)(g:FrmV):List (List Value):=fr.map FrmV.cells++[g.cells]
theorem Qu (fr:List FrmV)(g:FrmV):(Pb fr g).length=fr.length+1:=by simp
theorem QE (fr:List FrmV)(g:FrmV):(Pb fr g)[fr.length]?=some g.cells:=by
 rw [FI Js];simp
theorem Y4 {fr:List FrmV}{g g':FrmV}(h:g.cells.set j u=g'.cells):(Pb fr g).set fr.length (g.cells.set j u)=Pb fr g':=by
 rw [h];unfold Pb;rw [Hp _ _ Js];simp
@[reducible] def mL (p:Nat)(c:MC)(fr:List FrmV)(g:FrmV)(L:List Res):List Res:=blk p 55 c.cells::sl 110 5 c.lv (Pb fr g)::sl 224 4 g.vv (g.vals.map Val.cells)::sl 3 1 g.rv (Qv g.regs)::LF FrmV.res fr::L
@[reducible] def dH:Value:= .iface 121 (.agg ⟨[]⟩)
@[reducible] def jY (e:Int):Value:= .iface 122 (.int .i64 e)
variable {cx:Cx}{w:World}{L:List Res}{p:Nat}{c:MC}{fr:List FrmV}{g:FrmV}
end
end Go.Proofs.YteflkifmgnpbhaaGreat
namespace Go.Lir
theorem QiU {out:List Val}(hd:g.args l=(g.args (l.drop q)).map fun r=>out++r)(hx:l[q]?=some k)(hv:g.val k=some v):g.args l=(g.args (l.drop (q+1))).map fun r=>(out++[v])++r:=by
 rw [hd,Q1 hx,Frm.args,hv]
 cases g.args (l.drop (q+1)) with
 | none=>rfl
 | some r=>simp
theorem vG {out:List Val}(hd:g.args l=(g.args (l.drop q)).map fun r=>out++r)(hx:l[q]?=some k)(hv:g.val k=none):g.args l=none:=by
 rw [hd,Q1 hx,Frm.args,hv];rfl
theorem VD {out:List Val}(hd:g.args l=(g.args (l.drop q)).map fun r=>out++r)(hq:l.length≤q):g.args l=some out:=by
 rw [hd,FJ hq,Frm.args];simp
theorem dI:g.args l=(g.args (l.drop 0)).map fun r=>[]++r:=by
 rw [GD];cases g.args l<;>rfl
theorem VE {v:Int}{out:List Int}(hd:g.rgs l=(g.rgs (l.drop q)).map fun r=>out++r)(hx:l[q]?=some k)(hv:g.reg k=some v):g.rgs l=(g.rgs (l.drop (q+1))).map fun r=>(out++[v])++r:=by
 rw [hd,Q1 hx,Frm.rgs,hv]
 cases g.rgs (l.drop (q+1)) with
 | none=>rfl
 | some r=>simp
theorem vH {out:List Int}(hd:g.rgs l=(g.rgs (l.drop q)).map fun r=>out++r)(hx:l[q]?=some k)(hv:g.reg k=none):g.rgs l=none:=by
 rw [hd,Q1 hx,Frm.rgs,hv];rfl
theorem Y5 {out:List Int}(hd:g.rgs l=(g.rgs (l.drop q)).map fun r=>out++r)(hq:l.length≤q):g.rgs l=some out:=by
 rw [hd,FJ hq,Frm.rgs];simp
theorem jZ:g.rgs l=(g.rgs (l.drop 0)).map fun r=>[]++r:=by
 rw [GD];cases g.rgs l<;>rfl
theorem VF (h:g.val k=some v)(hk:v.kind=1):g.num k=some v.n:=by unfold Frm.num;rw [h];exact if_pos hk
theorem VG (h:g.val k=some v)(hk:v.kind≠1):g.num k=none:=by unfold Frm.num;rw [h];exact if_neg hk
theorem VH (h:g.val k=none):g.num k=none:=by unfold Frm.num;rw [h]
theorem dJ {v:Int}(h0:0≤k)(h:g.regs[k.toNat]?=some v):g.reg k=some v:=by unfold Frm.reg;rw [if_neg Jo];exact h
theorem VI (h:k<0∨(g.regs.length:Int)≤k):g.reg k=none:=by
 unfold Frm.reg;by_cases h0:k<0
 · rw [if_pos h0]
 · rw [if_neg h0];exact Gb Jo
end Go.Lir
namespace Go.Proofs.YteflkifmgnpbhaaGreat
open Go.Lir
attribute [local irreducible] LC.wp Q0 Qr Qj Lo QJ LO.wp Q6 Calls
section
variable {cx:Cx}{w:World}{L:List Res}{p:Nat}{c:MC}{fr:List FrmV}{g:FrmV}
attribute [local irreducible] Frm.val Frm.num Frm.args Frm.rgs Frm.reg
def FrmV.push (g:FrmV)(tv:Value)(vs:List Val):FrmV:=⟨g.f,g.b,g.i,tv,g.vals++vs,g.rv,g.regs⟩
end
section
variable {cx:Cx}{w:World}{L:List Res}{p:Nat}{c:MC}{fr:List FrmV}{g:FrmV}
attribute [local irreducible] Frm.val Frm.num Frm.args Frm.rgs Frm.reg
end
section
variable {cx:Cx}{w:World}{L:List Res}{p N:Nat}{c:MC}{fr:List FrmV}{g:FrmV}{h:HpS}{out:List Int}
attribute [local irreducible] Frm.val Frm.num Frm.args Frm.rgs Frm.reg HpS.get HpS.set HpS.setC HpS.len HpS.code HpS.put HpS.putV HpS.open HpS.shut HpS.full HpS.openV HpS.can HpS.arr HpS.arrC HpS.arrV HpS.tuple
end
section
@[reducible] def mS (p:Nat)(c:MC)(fr:List FrmV)(g:FrmV)(N:Nat)(h:HpS)(out:List Int)(L:List Res):List Res:=mL p c fr g (jU N c.hp h::sl 2 1 c.ov (Qv out)::L)
def KW (h:HpS)(g:FrmV)(fr:List FrmV)(inp out:List Int)(fu:Nat):MS:=⟨h,g.abs,(fr.map FrmV.abs).reverse,inp,out,fu⟩
@[reducible] def MC.upd (c:MC)(lv iv ov:Value):MC:=⟨c.hp,c.fn,lv,iv,c.e,c.bv,ov,c.fu,c.mo,c.dn,c.c,c.a⟩
def TX (p:Nat)(c:MC)(N:Nat)(fu:Nat)(X:Stp)(cx:Cx)(L:List Res)(u:Value)(w':World):Prop:=
 ∃lv iv ov fr' g' N' h' inp' out',X= .go (KW h' g' fr' inp' out' fu)∧KM.sl cx iv inp'∧N'≤N+1∧u= .tuple #[]∧St cx w' (mS p (c.upd lv iv ov) fr' g' N' h' out' L)
def VJ (p:Nat)(c:MC)(N:Nat)(h:HpS)(out:List Int)(X:Stp)(cx:Cx)(L:List Res)(u:Value)(w':World):Prop:=
 (X= .lost∧u=dH∧St cx w' (blk p 55 c.cells::L))∨(∃e,X= .halt e∧u=jY e∧∃fr' g' N',N'≤N+1∧St cx w' (mS p c fr' g' N' h out L))
variable {cx:Cx}{w:World}{L:List Res}{p N:Nat}{c:MC}{fr:List FrmV}{g:FrmV}{h:HpS}{out inp:List Int}{fu:Nat}
attribute [local irreducible] Frm.val Frm.num Frm.args Frm.rgs Frm.reg HpS.get HpS.set HpS.setC HpS.len HpS.code HpS.putV HpS.open HpS.shut HpS.full HpS.openV HpS.can HpS.tuple
theorem Q8S {e:Int}(he:e=14):s.made e h v= .halt 6:=if_pos he
theorem mr {e:Int}(he:e≠14)(h0:e≠0):s.made e h v= .lost:=by unfold MS.made;rw [if_neg he,if_pos h0]
theorem mu {e:Int}(he:e=0):s.made e h v= .go ((s.hp h).put [v]):=by unfold MS.made;rw [if_neg Jo,if_neg Jo]
theorem VK {h:HpS}(e:h.arrC v n≠0):h.arr v n=h:=by
 unfold HpS.arrC at e;unfold HpS.arr;split
 · rfl
 · rename_i hn;rw [if_neg hn] at e;unfold HpS.put;exact if_neg e
attribute [local irreducible] HpS.arr HpS.arrC HpS.arrV
end
section
variable {cx:Cx}{w:World}{L:List Res}{p N:Nat}{c:MC}{fr:List FrmV}{g:FrmV}{h:HpS}{out inp:List Int}{fu:Nat}{m:Module}
theorem QhS {g':FrmV}:KW h g' (fr++[g]) inp out fu=⟨h,g'.abs,g.abs::(fr.map FrmV.abs).reverse,inp,out,fu⟩:=by unfold KW;simp
theorem dK {x:Ins}{gf:Fun}(hg:m.funcs[x.k.toNat]?=some gf):s.call m x=Md (s.g.rgs x.regs) fun rs=>Md (s.g.args x.args) fun vs=>
 if (rs.length:Int)≠gf.regs∨vs.length≠gf.params.length then .lost else if s.st.length+1=40 then .halt 5 else .go ⟨s.h,⟨x.k.toNat,0,0,vs,rs⟩,s.g::s.st,s.inp,s.out,s.fuel⟩:=by unfold MS.call;rw [hg]
theorem Qhl {g':FrmV}:Pb fr g++[g'.cells]=Pb (fr++[g]) g':=by simp [Pb]
attribute [local irreducible] Frm.val Frm.num Frm.args Frm.rgs Frm.reg
end
section
variable {cx:Cx}{w:World}{L:List Res}{p N:Nat}{c:MC}{fr:List FrmV}{g:FrmV}{h:HpS}{out inp:List Int}{fu:Nat}{m:Module}
theorem qu (hb:f.blocks[t.block.toNat]?=some b):s.to f t=Md (s.g.rgs t.regs) fun rs=>Md (s.g.args t.args) fun vs=>
 if (rs.length:Int)≠b.regs∨vs.length≠b.params.length then .lost else .go (s.fr ⟨s.g.f,t.block.toNat,0,vs,rs⟩):=by unfold MS.to;rw [hb]
attribute [local irreducible] Frm.val Frm.num Frm.args Frm.rgs Frm.reg
end
end Go.Proofs.YteflkifmgnpbhaaGreat
namespace Go.Lir
theorem j0 (h:s.g.args e.args=none):s.ret f e= .lost:=by unfold MS.ret;exact PJ h
theorem j1 {vs:List Val}(h:s.g.args e.args=some vs)(hl:vs.length≠f.results.length):s.ret f e= .lost:=by unfold MS.ret;rw [Ql h,if_pos hl]
theorem j2 {vs:List Val}{c:Frm}{st:List Frm}(h:s.g.args e.args=some vs)(hl:vs.length=f.results.length)(hs:s.st=c::st):s.ret f e= .go ((⟨s.h,c,st,s.inp,s.out,s.fuel⟩:MS).put vs):=by
 unfold MS.ret;rw [Ql h,if_neg (fun hn=>hn hl),hs]
theorem j3 {vs:List Val}{ns:List Int}(h:s.g.args e.args=some vs)(hl:vs.length=f.results.length)(hs:s.st=[])(hn:Lm vs=some ns):s.ret f e= .done ns:=by
 unfold MS.ret;rw [Ql h,if_neg (fun hn=>hn hl),hs];dsimp only;rw [hn]
theorem j4 {vs:List Val}(h:s.g.args e.args=some vs)(hl:vs.length=f.results.length)(hs:s.st=[])(hn:Lm vs=none):s.ret f e= .lost:=by
 unfold MS.ret;rw [Ql h,if_neg (fun hn=>hn hl),hs];dsimp only;rw [hn]
theorem VL {l:List Val}(h:v.kind=1):Lm (v::l)=(Lm l).map fun r=>v.n::r:=by
 rw [Lm]
 cases Lm l with
 | none=>rfl
 | some ns=>exact if_pos h
theorem dL {l:List Val}(h:v.kind≠1):Lm (v::l)=none:=by
 rw [Lm]
 cases Lm l with
 | none=>rfl
 | some ns=>exact if_neg h
end Go.Lir
namespace Go.Proofs.YteflkifmgnpbhaaGreat
open Go.Lir
attribute [local irreducible] LC.wp Q0 Qr Qj Lo QJ LO.wp Q6 Calls
section
variable {cx:Cx}{w:World}{L:List Res}{p N:Nat}{c:MC}{fr:List FrmV}{g:FrmV}{h:HpS}{out inp:List Int}{fu:Nat}{m:Module}
def OL (p:Nat)(c:MC)(N:Nat)(h:HpS)(out:List Int)(X:Stp)(cx:Cx)(L:List Res)(u:Value)(w':World):Prop:=
 ∃ns bv fr' g',X= .done ns∧u= .tuple #[]∧St cx w' (mS p ⟨c.hp,c.fn,c.lv,c.iv,c.e,bv,c.ov,c.fu,c.mo,true,c.c,c.a⟩ fr' g' N h out (sl 2 1 bv (Qv ns)::L))
attribute [local irreducible] Frm.val Frm.num Frm.args Frm.rgs Frm.reg Lm
theorem VM {k:FrmV}:((Pb (fr++[k]) g).take (fr++[k]).length).drop 0=Pb fr k:=by
 unfold Pb;rw [GD,H3 Js,Gd Js,Ga];rfl
end
section
variable {cx:Cx}{w:World}{L:List Res}{p N:Nat}{c:MC}{fr:List FrmV}{g:FrmV}{h:HpS}{out inp:List Int}{fu:Nat}{m:Module}
def SD (p:Nat)(c:MC)(N:Nat)(h:HpS)(out:List Int)(fu:Nat)(X:Stp)(cx:Cx)(L:List Res)(u:Value)(w':World):Prop:=TX p c N fu X cx L u w'∨OL p c N h out X cx L u w'
theorem TX.tup (hG:TX p c N fu X cx L u w):u= .tuple #[]∧TX p c N fu X cx L u w:=⟨by obtain ⟨lv,iv,ov,fr',g',N',h',inp',out',_,_,_,hu,_⟩:=hG;exact hu,hG⟩
theorem TX.drop {r:Res}(hG:TX p c N fu X cx (r::L) u w):TX p c N fu X cx L u w:=by
 obtain ⟨lv,iv,ov,fr',g',N',h',inp',out',h1,h2,h3,h4,hS⟩:=hG;exact ⟨lv,iv,ov,fr',g',N',h',inp',out',h1,h2,h3,h4,hS.sp⟩
theorem VJ.drop {r:Res}(hB:VJ p c N h out X cx (r::L) u w):VJ p c N h out X cx L u w:=by
 rcases hB with ⟨h1,h2,hS⟩|⟨e,h1,h2,fr',g',N',h3,hS⟩
 · exact .inl ⟨h1,h2,hS.sp⟩
 · exact .inr ⟨e,h1,h2,fr',g',N',h3,hS.sp⟩
theorem OL.drop {r:Res}(hD:OL p c N h out X cx (r::L) u w):OL p c N h out X cx L u w:=by
 obtain ⟨ns,bv,fr',g',h1,h2,hS⟩:=hD;exact ⟨ns,bv,fr',g',h1,h2,hS.sp⟩
theorem TX.ok (hG:TX p c N fu X cx L u w):SD p c N h out fu X cx L u w:= .inl hG
theorem SD.drop {r:Res}(hG:SD p c N h out fu X cx (r::L) u w):SD p c N h out fu X cx L u w:=hG.elim (fun h=> .inl h.drop) (fun h=> .inr h.drop)
theorem SD.tup (hG:SD p c N h out fu X cx L u w):u= .tuple #[]∧SD p c N h out fu X cx L u w:=by
 refine ⟨?_,hG⟩;rcases hG with h|⟨ns,bv,fr',g',h1,h2,hS⟩
 · exact h.tup.1
 · exact h2
def ToOK (f:Fun)(t:To):Prop:=(0≤t.block∧t.block<f.blocks.length)∧t.regs.length≤100∧t.args.length≤100
attribute [local irreducible] Frm.val Frm.num Frm.args Frm.rgs Frm.reg Lm MS.to MS.ret TX VJ OL SD
end
end Go.Proofs.YteflkifmgnpbhaaGreat
namespace Go.Lir
section
variable {m:Module}{s:MS}{x:Ins}
theorem dM (h:x.op=1):s.ins m x= .go (s.put [Lk x.n]):=by unfold MS.ins;rw [if_pos h]
theorem qw (h:x.op=2):s.ins m x=Md (s.g.num x.a) fun a=>Md (s.g.num x.b) fun b=>if (L0 x.k a b).2=false then .halt 1 else .go (s.put [Lk (L0 x.k a b).1]):=by unfold MS.ins;rw [if_neg Jo,if_pos h]
theorem mv (h:x.op=3):s.ins m x=s.newR:=by unfold MS.ins;rw [if_neg Jo,if_neg Jo,if_pos h]
theorem qx (h:x.op=4):s.ins m x=Md (s.g.val x.a) fun v=>if s.h.can v=false then .lost else .go (s.hp (s.h.shut v)):=by unfold MS.ins;rw [if_neg Jo,if_neg Jo,if_neg Jo,if_pos h]
theorem qy (h:x.op=5):s.ins m x=Md (s.g.val x.a) fun v=>Md (s.g.args x.args) fun l=>s.made (s.h.code v (Mv l)) (s.h.tuple v l) (s.h.putV v 3 (Mv l)):=by unfold MS.ins;(repeat rw [if_neg Jo]);rw [if_pos h]
theorem qz (h:x.op=6):s.ins m x=Md (s.g.val x.a) fun v=>if v.kind≠3 then .lost else if (s.h.get v x.k).2≠0 then .lost else .go (s.put [(s.h.get v x.k).1]):=by unfold MS.ins;(repeat rw [if_neg Jo]);rw [if_pos h]
theorem mw (h:x.op=7):s.ins m x=Md (s.g.val x.a) fun v=>if v.kind≠3 then .lost else Md (s.g.val x.b) fun y=>if s.h.setC v x.k y≠0 then .lost else .go (s.hp (s.h.set v x.k y)):=by unfold MS.ins;(repeat rw [if_neg Jo]);rw [if_pos h]
theorem qA (h:x.op=9):s.ins m x=Md (s.g.val x.a) fun v=>Md (s.g.num x.b) fun n=>Oo v (s.h.get v n).2 (.go (s.put [(s.h.get v n).1])):=by unfold MS.ins;(repeat rw [if_neg Jo]);rw [if_pos h]
theorem qB (h:x.op=10):s.ins m x=Md (s.g.val x.a) fun v=>Md (s.g.num x.b) fun n=>Md (s.g.num x.c) fun c=>Oo v (s.h.setC v n (Lk c)) (.go (s.hp (s.h.set v n (Lk c)))):=by unfold MS.ins;(repeat rw [if_neg Jo]);rw [if_pos h]
theorem vI (h:x.op=11):s.ins m x=Md (s.g.val x.a) fun v=>Oo v (s.h.len v).2 (.go (s.put [Lk (s.h.len v).1])):=by unfold MS.ins;(repeat rw [if_neg Jo]);rw [if_pos h]
theorem vJ (h:x.op=12):s.ins m x=s.inS:=by unfold MS.ins;(repeat rw [if_neg Jo]);rw [if_pos h]
theorem qC (h:x.op=13):s.ins m x=Md (s.g.num x.a) fun n=>s.outS n:=by unfold MS.ins;(repeat rw [if_neg Jo]);rw [if_pos h]
theorem Y6 (h:x.op=14):s.ins m x=s.call m x:=by unfold MS.ins;(repeat rw [if_neg Jo])
theorem dN {e:Int}{k:Stp}(hv:v.kind≠4):Oo v e k= .lost:=if_pos hv
theorem vK {e:Int}{k:Stp}(hv:v.kind=4)(he:e=1):Oo v e k= .halt 2:=by unfold Oo;rw [if_neg Jo,if_pos he]
theorem my {e:Int}{k:Stp}(he:v.kind=4→e≠1∧e≠0):Oo v e k= .lost:=by
 unfold Oo;by_cases hv:v.kind=4
 · obtain ⟨h1,h2⟩:=he hv;rw [if_neg Jo,if_neg h1,if_pos h2]
 · rw [if_pos hv]
theorem Y7 {e:Int}{k:Stp}(hv:v.kind=4)(he:e=0):Oo v e k=k:=by unfold Oo;rw [if_neg Jo,if_neg Jo,if_neg Jo]
theorem qD {l:List Val}(e:h.code v (Mv l)≠0):h.tuple v l=h:=by unfold HpS.tuple HpS.put;exact if_neg e
theorem Y8 (e:h.full=true):h.open=h:=by unfold HpS.open;exact if_pos e
theorem dO (e:s.h.full=true):s.newR= .halt 6:=by unfold MS.newR;exact if_pos e
theorem qE (e:s.h.full=false):s.newR= .go ((⟨s.h.open,⟨s.g.f,s.g.b,s.g.i,s.g.vals,s.g.regs++[s.h.openV.region]⟩,s.st,s.inp,s.out,s.fuel⟩:MS).put [s.h.openV]):=by unfold MS.newR;exact if_neg (by rw [e];decide)
theorem qF (e:s.inp=[]):s.inS= .halt 4:=by unfold MS.inS;rw [e]
theorem qG {r:List Int}(e:s.inp=n::r):s.inS= .go ((⟨s.h,s.g,s.st,r,s.out,s.fuel⟩:MS).put [Lk n]):=by unfold MS.inS;rw [e]
theorem j5 (e:s.out.length=2000):s.outS n= .halt 8:=if_pos e
theorem j6 (e:s.out.length≠2000):s.outS n= .go ⟨s.h,s.g,s.st,s.inp,s.out++[n],s.fuel⟩:=if_neg e
end
end Go.Lir
namespace Go.Proofs.YteflkifmgnpbhaaGreat
open Go.Lir
attribute [local irreducible] LC.wp Q0 Qr Qj Lo QJ LO.wp Q6 Calls
section
variable {cx:Cx}{w:World}{L:List Res}{p N:Nat}{c:MC}{fr:List FrmV}{g:FrmV}{h:HpS}{out inp:List Int}{fu:Nat}{m:Module}
def FrmV.nx (g:FrmV):FrmV:=⟨g.f,g.b,g.i+1,g.vv,g.vals,g.rv,g.regs⟩
section
variable {s:MS}{x:Ins}
end
attribute [local irreducible] Frm.val Frm.num Frm.args Frm.rgs Frm.reg Lm MS.ins MS.call HpS.get HpS.set HpS.setC HpS.len HpS.code HpS.put HpS.putV HpS.open HpS.shut HpS.full HpS.openV HpS.can HpS.tuple HpS.arr HpS.arrC HpS.arrV L0 Mv
end
section
variable {cx:Cx}{w:World}{L:List Res}
theorem j7 (f:Nat)(hf:f≤1000000)(hS:St cx w L):KK Tryz.prog Va [.int .i64 f] w fun u w'=>u= .int .i64 (PT f)∧St cx w' L:=by
 unfold PT;refine KY KX Tryz.func66 ?_;refine' Og;refine' Py;refine' NH;refine' Ly;(refine ⟨_,rfl,?_,hS.sp⟩;(exact Ak);done)
theorem QhO (f:Nat)(hf:f≤1000000)(hS:St cx w L):KK Tryz.prog QdP [.int .i64 f] w fun u w'=>u= .int .i64 (PT f)∧St cx w' L:=by
 unfold PT;refine KY KX Tryz.func104 ?_;refine' Og;refine' Py;refine' NH;refine' Ly;(((refine ⟨_,rfl,?_,hS.sp⟩;(rfl);done)))
theorem mz (f b:Nat)(hf:f≤1000000)(hb:b≤1000000)(hS:St cx w L):KK Tryz.prog Qj4 [.int .i64 f, .int .i64 b] w fun u w'=>u= .int .i64 (S0 f b)∧St cx w' L:=by
 unfold S0;refine KY KX Tryz.func113 ?_;refine' Og;refine' Py;refine' zm;refine' Py;refine' NH;refine' NH;refine' Ly;(refine ⟨_,rfl,?_,hS.sp⟩;(exact Ak);done)
theorem Qfx (f b:Nat)(hf:f≤1000000)(hb:b≤1000000)(hS:St cx w L):KK Tryz.prog Qcy [.int .i64 f, .int .i64 b] w fun u w'=>u= .int .i64 (S0 f b)∧St cx w' L:=by
 unfold S0;refine KY KX Tryz.func161 ?_;refine' Og;refine' Py;refine' zm;refine' Py;refine' NH;refine' NH;refine' Ly;(((refine ⟨_,rfl,?_,hS.sp⟩;(rfl);done)))
theorem qH (f b:Nat)(hf:f≤1000000)(hb:b≤1000000)(hS:St cx w L):KK Tryz.prog YH [.int .i64 f, .int .i64 b] w fun u w'=>u= .int .i64 (Rd f b)∧St cx w' L:=by
 unfold Rd;refine KY KX Tryz.func57 ?_;refine' Og;refine' Py;refine' zm;refine' Py;refine' NH;refine' NH;refine' Ly;(refine ⟨_,rfl,?_,hS.sp⟩;(exact Ak);done)
theorem vL (f b:Nat)(hf:f≤1000000)(hb:b≤1000000)(hS:St cx w L):KK Tryz.prog QfW [.int .i64 f, .int .i64 b] w fun u w'=>u= .int .i64 (Rd f b)∧St cx w' L:=by
 unfold Rd;refine KY KX Tryz.func116 ?_;refine' Og;refine' Py;refine' zm;refine' Py;refine' NH;refine' NH;refine' Ly;(((refine ⟨_,rfl,?_,hS.sp⟩;(rfl);done)))
theorem qI (f b i:Nat)(hf:f≤1000000)(hb:b≤1000000)(hi:i≤1000000)(hS:St cx w L):KK Tryz.prog YG [.int .i64 f, .int .i64 b, .int .i64 i] w fun u w'=>u= .int .i64 (Pu f b i)∧St cx w' L:=by
 unfold Pu;refine KY KX Tryz.func55 ?_;refine' Og;refine' Py;refine' zm;refine' Py;refine' NH;refine' zm;refine' NH;refine' Ly;(refine ⟨_,rfl,?_,hS.sp⟩;(exact Ak);done)
theorem vM (f b i:Nat)(hf:f≤1000000)(hb:b≤1000000)(hi:i≤1000000)(hS:St cx w L):KK Tryz.prog QfV [.int .i64 f, .int .i64 b, .int .i64 i] w fun u w'=>u= .int .i64 (Pu f b i)∧St cx w' L:=by
 unfold Pu;refine KY KX Tryz.func115 ?_;refine' Og;refine' Py;refine' zm;refine' Py;refine' NH;refine' zm;refine' NH;refine' Ly;(((refine ⟨_,rfl,?_,hS.sp⟩;(rfl);done)))
theorem NA {c:Int}(hS:St cx w L):KK Tryz.prog R_F [.int .i64 c, .int .i64 a] w fun u w'=>u= .agg ⟨[.int .i64 c, .int .i64 a]⟩∧St cx w' L:=by
 refine KY KX Tryz.func52 ?_;refine' RW;(intro p4 w1 hS);refine' zn;refine' Lu;refine Nn [_,_] ?_;((refine K1 hS ?_;intro w1 hS;have hS:=hS.ns));refine' Mu;refine Mp vw (Q2 (n:=2) Jk Jk (hS.blkAt fd) Jr Jr) ?_;(((refine ⟨_,rfl,?_,hS.sp⟩;(rfl);done)))
theorem qJ {l:List Ty}{v:Value}(hl:K0.sl cx v l)(hS:St cx w L):KK Tryz.prog Qg4 [v, .int .i64 regs] w fun u w'=>u= .int .i64 (QA l regs)∧St cx w' L:=by
 (have hlen:=hl.len;unfold QA;refine KY KX Tryz.func67 ?_;refine' Ob;refine' zL;first|(refine' QO)|(refine' QV)|(refine' Af<;>intro hc));all_goals (refine' zn)
 all_goals
  first
  | (refine' KN;refine' Lh;((refine ⟨_,rfl,?_,hS.sp⟩;(rw [if_pos Jo]);done)))
  | (refine' KO;refine' KV)
 refine' M8;refine Mx hS [0,1] (fun A LL ρ' w'=>∃(j:Nat),KR ρ' A∧KR ρ' [(5, .int .i64 j)]∧(j≤l.length)∧(RN regs l=RN regs (l.drop j))∧St cx w' (LL)) (fun ρ' _=>(l.length - iv (ρ' 5)).toNat) ?_ ?_
 · exact AH
 rintro ρ w1 ⟨j,hA,hρ,hj,hd,hS⟩;obtain ⟨ρ,rfl⟩:=KS hA hρ;refine' Tc;refine' Ab<;>intro hc
 · skip
   (refine' MF;refine' Lu;refine' zi;intro b1 o1 cs1 x1 hat1 hx1 he1;obtain ⟨vl1,rfl,hl1⟩:=Qe he1;refine' N7;refine' zm;refine' KU (c:=Qhh Ja hS);rintro v1 w1 ⟨rfl,hS⟩;refine' Mz;first|(refine' QG)|(refine' QI)|(refine' Ad<;>intro hc));all_goals (refine' zn)
   all_goals
    first
    | (refine' KN;refine' RV;first|(refine ⟨_,rfl,?_,hS.sp⟩;rw [if_pos Jo];done)|(refine ⟨_,rfl,?_,hS.sp⟩;rw [if_neg Jo,hd,Q1 hx1,RN,Rp Ja];done))
    | (refine' KO;refine' KV)
   refine' Mk;(exact ⟨⟨j+1,zh,zh,Jo,by rw [hd,Q1 hx1,RN,show x1.fault regs=0 by omega,P1],hS.sp⟩,Qc Jo⟩)
 · skip;refine' O5;(first|(refine ⟨_,rfl,?_,hS.sp⟩;rw [if_pos Jo];done)|(refine ⟨_,rfl,?_,hS.sp⟩;rw [if_neg Jo,hd,Q1 hx1,RN,Rp Ja];done)|(refine ⟨_,rfl,?_,hS.sp⟩;rw [if_neg Jo,hd,FJ Jo,RN];done))
theorem VN {op : Int}(hS :St cx w L):KK Tryz.prog Qga [.int .i64 op] w fun u w'=>u= .tuple #[.agg ⟨[.bool (fA op), .bool (fB op), .bool (fC op), .bool (fK op), .bool (fN op), .bool (fG op), .bool (fR op)]⟩, .bool (decide (1≤op∧op≤14))]∧St cx w' L:=by
 have hbad:(op<1∨14<op)→fA op=false∧fB op=false∧fC op=false∧fK op=false∧fN op=false∧fG op=false∧fR op=false∧decide (1≤op∧op≤14)=false:=by
  intro h;refine ⟨?_,?_,?_,?_,?_,?_,?_,?_⟩<;>(first|unfold fA|unfold fB|unfold fC|unfold fK|unfold fN|unfold fG|unfold fR|skip)<;>rw [decide_eq_false_iff_not]<;>omega
 by_cases hb:op<1∨14<op
 · obtain ⟨h1, h2, h3, h4, h5, h6, h7, h8⟩:=hbad hb
   rw [h1,h2,h3,h4,h5,h6,h7,h8];clear hbad h1 h2 h3 h4 h5 h6 h7 h8;refine KY KX Tryz.func150 ?_;refine' RW;(intro p2 w1 hS);refine' UY;refine' Po
   all_goals
    first
    | (refine' KN;all_goals (refine' K3;refine PW [_,_,_,_,_,_,_] ?_;refine K1 hS ?_;intro w1 hS;have hS:=hS.ns;refine' MU;refine MQ vw (Q2 (n:=7) Jk Jk (hS.blkAt fd) Jr Jr) vw ?_);all_goals (refine ⟨_,rfl,?_,hS.sp⟩;(rfl);done))
    | (refine' KO
       refine Qo ?_;refine' Po
       all_goals
        first
        | (refine' KN;all_goals refine' KV)
        | (refine' KO;refine' Mm;refine' TW;refine' zn)
       all_goals
        first
        | (refine' KN;all_goals (refine' K3;refine OF [_,_,_,_,_,_,_] ?_;refine K1 hS ?_;intro w1 hS;have hS:=hS.ns;refine' MU;refine MQ vw (Q2 (n:=7) Jk Jk (hS.blkAt fd) Jr Jr) vw ?_);all_goals (refine ⟨_,rfl,?_,hS.sp⟩;(rfl);done))
        | (refine' KO
           refine Qo ?_;refine' Po
           all_goals
            first
            | (refine' KN;all_goals refine' KV)
            | (refine' KO;refine' Mm;refine' TW;refine' zn)
           all_goals
            first
            | (refine' KN;all_goals (refine' K3;refine M5 [_,_,_,_,_,_,_] ?_;refine K1 hS ?_;intro w1 hS;have hS:=hS.ns;refine' MU;refine MQ vw (Q2 (n:=7) Jk Jk (hS.blkAt fd) Jr Jr) vw ?_);all_goals (refine ⟨_,rfl,?_,hS.sp⟩;(rfl);done))
            | (refine' KO
               refine Qo ?_;refine' Po
               all_goals
                first
                | (refine' KN;all_goals refine' KV)
                | (refine' KO
                   refine' Po
                   all_goals
                    first
                    | (refine' KN;all_goals refine' KV)
                    | (refine' KO;refine' Mm;refine' TW;refine' zn))
               all_goals
                first
                | (refine' KN;all_goals (refine' K3;refine PW [_,_,_,_,_,_,_] ?_;refine K1 hS ?_;intro w1 hS;have hS:=hS.ns;refine' MU;refine MQ vw (Q2 (n:=7) Jk Jk (hS.blkAt fd) Jr Jr) vw ?_);all_goals (refine ⟨_,rfl,?_,hS.sp⟩;(rfl);done))
                | (refine' KO
                   refine' Po
                   all_goals
                    first
                    | (refine' KN;all_goals (refine' K3;refine Nn [_,_,_,_,_,_,_] ?_;refine K1 hS ?_;intro w1 hS;have hS:=hS.ns;refine' MU;refine MQ vw (Q2 (n:=7) Jk Jk (hS.blkAt fd) Jr Jr) vw ?_);all_goals (refine ⟨_,rfl,?_,hS.sp⟩;(rfl);done))
                    | (refine' KO
                       refine' Po
                       all_goals
                        first
                        | (refine' KN;all_goals (refine' K3;refine Nn [_,_,_,_,_,_,_] ?_;refine K1 hS ?_;intro w1 hS;have hS:=hS.ns;refine' MU;refine MQ vw (Q2 (n:=7) Jk Jk (hS.blkAt fd) Jr Jr) vw ?_);all_goals (refine ⟨_,rfl,?_,hS.sp⟩;(rfl);done))
                        | (refine' KO
                           refine Qo ?_;refine' Po
                           all_goals
                            first
                            | (refine' KN;all_goals refine' KV)
                            | (refine' KO;refine' Mm;refine' TW;refine' zn)
                           all_goals
                            first
                            | (refine' KN;all_goals (refine' K3;refine Nn [_,_,_,_,_,_,_] ?_;refine K1 hS ?_;intro w1 hS;have hS:=hS.ns;refine' MU;refine MQ vw (Q2 (n:=7) Jk Jk (hS.blkAt fd) Jr Jr) vw ?_);all_goals (refine ⟨_,rfl,?_,hS.sp⟩;(rfl);done))
                            | (refine' KO
                               refine' Po
                               all_goals
                                first
                                | (refine' KN;all_goals (refine' K3;refine OF [_,_,_,_,_,_,_] ?_;refine K1 hS ?_;intro w1 hS;have hS:=hS.ns;refine' MU;refine MQ vw (Q2 (n:=7) Jk Jk (hS.blkAt fd) Jr Jr) vw ?_);all_goals (refine ⟨_,rfl,?_,hS.sp⟩;(rfl);done))
                                | (refine' KO
                                   refine' Po
                                   all_goals
                                    first
                                    | (refine' KN;all_goals (refine' K3;refine OF [_,_,_,_,_,_,_] ?_;refine K1 hS ?_;intro w1 hS;have hS:=hS.ns;refine' MU;refine MQ vw (Q2 (n:=7) Jk Jk (hS.blkAt fd) Jr Jr) vw ?_);all_goals (refine ⟨_,rfl,?_,hS.sp⟩;(rfl);done))
                                    | (refine' KO;refine' KV)))))))))
   refine' K3;refine M5 [_,_,_,_,_,_,_] ?_;refine K1 hS ?_;intro w1 hS;have hS:=hS.ns;refine' MU;refine MQ vw (Q2 (n:=7) Jk Jk (hS.blkAt fd) Jr Jr) vw ?_;(refine ⟨_,rfl,?_,hS.sp⟩;(rfl);done)
 · clear hbad
   rcases Mc (op:=op) Jo Jo with rfl|rfl|rfl|rfl|rfl|rfl|rfl|rfl|rfl|rfl|rfl|rfl|rfl|rfl
   all_goals (clear hb;refine KY KX Tryz.func150 ?_;skip;refine' RW;intro p2 w1 hS;refine' UY;refine' Po)
   all_goals
    first
    | (refine' KN;refine' K3;refine PW [_,_,_,_,_,_,_] ?_;refine K1 hS ?_;intro w1 hS;have hS:=hS.ns;refine' MU;refine MQ vw (Q2 (n:=7) Jk Jk (hS.blkAt fd) Jr Jr) vw ?_;((refine ⟨_,rfl,?_,hS.sp⟩;(rfl);done)))
    | (refine' KO
       all_goals (refine Qo ?_;refine' Po)
       all_goals
        first
        | (refine' KN;refine' KV)
        | (refine' KO;all_goals (refine' Mm;refine' TW);all_goals refine' zn)
       all_goals
        first
        | (refine' KN;all_goals (refine' K3;refine OF [_,_,_,_,_,_,_] ?_;refine K1 hS ?_;intro w1 hS;have hS:=hS.ns;refine' MU;refine MQ vw (Q2 (n:=7) Jk Jk (hS.blkAt fd) Jr Jr) vw ?_);all_goals (refine ⟨_,rfl,?_,hS.sp⟩;(rfl);done))
        | (refine' KO
           all_goals (refine Qo ?_;refine' Po)
           all_goals
            first
            | (refine' KN;refine' KV)
            | (refine' KO;all_goals (refine' Mm;refine' TW);all_goals refine' zn)
           all_goals
            first
            | (refine' KN;all_goals (refine' K3;refine M5 [_,_,_,_,_,_,_] ?_;refine K1 hS ?_;intro w1 hS;have hS:=hS.ns;refine' MU;refine MQ vw (Q2 (n:=7) Jk Jk (hS.blkAt fd) Jr Jr) vw ?_);all_goals (refine ⟨_,rfl,?_,hS.sp⟩;(rfl);done))
            | (refine' KO
               all_goals (refine Qo ?_;refine' Po)
               all_goals
                first
                | (refine' KN;refine' KV)
                | (refine' KO
                   all_goals (refine' Po)
                   all_goals
                    first
                    | (refine' KN;refine' KV)
                    | (refine' KO;all_goals (refine' Mm;refine' TW);all_goals refine' zn))
               all_goals
                first
                | (refine' KN;all_goals (refine' K3;refine PW [_,_,_,_,_,_,_] ?_;refine K1 hS ?_;intro w1 hS;have hS:=hS.ns;refine' MU;refine MQ vw (Q2 (n:=7) Jk Jk (hS.blkAt fd) Jr Jr) vw ?_);all_goals (refine ⟨_,rfl,?_,hS.sp⟩;(rfl);done))
                | (refine' KO
                   all_goals (refine' Po)
                   all_goals
                    first
                    | (refine' KN;refine' K3;refine Nn [_,_,_,_,_,_,_] ?_;refine K1 hS ?_;intro w1 hS;have hS:=hS.ns;refine' MU;refine MQ vw (Q2 (n:=7) Jk Jk (hS.blkAt fd) Jr Jr) vw ?_;((refine ⟨_,rfl,?_,hS.sp⟩;(rfl);done)))
                    | (refine' KO
                       all_goals (refine' Po)
                       all_goals
                        first
                        | (refine' KN;refine' K3;refine Nn [_,_,_,_,_,_,_] ?_;refine K1 hS ?_;intro w1 hS;have hS:=hS.ns;refine' MU;refine MQ vw (Q2 (n:=7) Jk Jk (hS.blkAt fd) Jr Jr) vw ?_;((refine ⟨_,rfl,?_,hS.sp⟩;(rfl);done)))
                        | (refine' KO
                           all_goals (refine Qo ?_;refine' Po)
                           all_goals
                            first
                            | (refine' KN;refine' KV)
                            | (refine' KO;all_goals (refine' Mm;refine' TW);all_goals refine' zn)
                           all_goals
                            first
                            | (refine' KN;all_goals (refine' K3;refine Nn [_,_,_,_,_,_,_] ?_;refine K1 hS ?_;intro w1 hS;have hS:=hS.ns;refine' MU;refine MQ vw (Q2 (n:=7) Jk Jk (hS.blkAt fd) Jr Jr) vw ?_);all_goals (refine ⟨_,rfl,?_,hS.sp⟩;(rfl);done))
                            | (refine' KO
                               all_goals (refine' Po)
                               all_goals
                                first
                                | (refine' KN;refine' K3;refine OF [_,_,_,_,_,_,_] ?_;refine K1 hS ?_;intro w1 hS;have hS:=hS.ns;refine' MU;refine MQ vw (Q2 (n:=7) Jk Jk (hS.blkAt fd) Jr Jr) vw ?_;((refine ⟨_,rfl,?_,hS.sp⟩;(rfl);done)))
                                | (refine' KO
                                   refine' K3;refine' Qd;refine' K5
                                   all_goals
                                    first
                                    | (refine' KN;refine' K3;refine OF [_,_,_,_,_,_,_] ?_;refine K1 hS ?_;intro w1 hS;have hS:=hS.ns;refine' MU;refine MQ vw (Q2 (n:=7) Jk Jk (hS.blkAt fd) Jr Jr) vw ?_;((refine ⟨_,rfl,?_,hS.sp⟩;(rfl);done)))))))))))
   all_goals (refine' K3;refine M5 [_,_,_,_,_,_,_] ?_;refine K1 hS ?_;intro w1 hS;have hS:=hS.ns;refine' MU;refine MQ vw (Q2 (n:=7) Jk Jk (hS.blkAt fd) Jr Jr) vw ?_;refine ⟨_,rfl,?_,hS.sp⟩;(rfl);done)
theorem VO {x :Ins}(hm:LS.at cx cs m)(hx:Lz.at cx ds x)(hS:St cx w L):KK Tryz.prog Qj2 [.agg ⟨cs⟩, .agg ⟨ds⟩] w fun u w'=>u= .int .i64 (Qz m.funcs.length x)∧St cx w' L:=by
 obtain ⟨vf,rfl,hf⟩:=OE hm;obtain ⟨vr,va,rfl,hr,ha⟩:=QY hx;have hlr:=hr.len;have hla:=ha.len;have hln:=hf.len;unfold Qz;refine KY KX Tryz.func94 ?_;refine' Lx;intro p2 w1 hS;refine zb hS ?_;intro p3 w1 hS;refine' Xv;refine' Lf (c:=VN hS);rintro v1 w1 ⟨rfl,hS⟩;refine' Sm;(intro p5 w1 hS);((refine K1 hS ?_;intro w1 hS;have hS:=hS.ns));refine' K5;refine Rx hS [2,3,5] (fun A LL ρ' w'=>KR ρ' A∧KR ρ' []∧(1≤x.op∧x.op≤14)∧St cx w' (LL)) ?_ ?_
 · skip
   refine Qo ?_;cases hop:decide (1≤x.op∧x.op≤14);all_goals (refine' Mj;refine' Oy)
   all_goals
    first
    | (refine' KN;refine' Lh;((refine ⟨_,rfl,?_,hS.sp⟩;(rw [if_pos Es]);done)))
    | (refine' KO;refine' KV)
   ((exact ⟨zh,zh,by exact of_decide_eq_true hop,hS.sp⟩))
 rintro ρ w1 ⟨hA,hρ,hop,hS⟩;obtain ⟨ρ,rfl⟩:=KS hA hρ;obtain ⟨a1,ha1⟩:∃b,fA x.op=b:=⟨_,rfl⟩;obtain ⟨a2,ha2⟩:∃b,fB x.op=b:=⟨_,rfl⟩;obtain ⟨a3,ha3⟩:∃b,fC x.op=b:=⟨_,rfl⟩;obtain ⟨a4,ha4⟩:∃b,fK x.op=b:=⟨_,rfl⟩;obtain ⟨a5,ha5⟩:∃b,fN x.op=b:=⟨_,rfl⟩;obtain ⟨a6,ha6⟩:∃b,fG x.op=b:=⟨_,rfl⟩;obtain ⟨a7,ha7⟩:∃b,fR x.op=b:=⟨_,rfl⟩;rw [ha1,ha2,ha3,ha4,ha5,ha6,ha7] at hS;refine Rx hS [2,3] (fun A LL ρ' w'=>KR ρ' A∧KR ρ' []∧(¬x.odd)∧St cx w' (LL)) ?_ ?_
 · skip
   refine' K3;refine Rh hS 8 [2,3,5] (fun A LL ρ' w'=>∃(q1:Bool),KR ρ' A∧KR ρ' [(22, .bool q1)]∧(q1=true↔(fA x.op=false∧x.a≠0))∧St cx w' (LL)) ?_ ?_
   · skip;refine' Lw;cases a1;all_goals (refine' Pm;refine' Ms;first|refine' KP|(refine' KQ;(first|(refine' QG)|(refine' QI)|(refine' Ad<;>intro hc))));all_goals (refine' mb;first|(exact Dn)|(exact CB))
   rintro ρ w1 ⟨q1,hA,hρ,hq1,hS⟩;obtain ⟨ρ,rfl⟩:=KS hA hρ;refine Rh hS 10 [2,3,5] (fun A LL ρ' w'=>∃(q2:Bool),KR ρ' A∧KR ρ' [(32, .bool q2)]∧(q2=true↔((fA x.op=false∧x.a≠0)∨(fB x.op=false∧x.b≠0)))∧St cx w' (LL)) ?_ ?_
   · skip;cases q1;all_goals (refine' Ms;cases a2);all_goals (refine' TO;first|refine' KP|(refine' KQ;(first|(refine' QG)|(refine' QI)|(refine' Ad<;>intro hc))));all_goals (refine' Sr;first|(exact Ci)|(exact AL)|(exact CJ))
   rintro ρ w1 ⟨q2,hA,hρ,hq2,hS⟩;obtain ⟨ρ,rfl⟩:=KS hA hρ;refine Rh hS 10 [2,3,5] (fun A LL ρ' w'=>∃(q3:Bool),KR ρ' A∧KR ρ' [(42, .bool q3)]∧(q3=true↔(((fA x.op=false∧x.a≠0)∨(fB x.op=false∧x.b≠0))∨(fC x.op=false∧x.c≠0)))∧St cx w' (LL)) ?_ ?_
   · skip;cases q2;all_goals (refine' Ms;cases a3);all_goals (refine' TO;first|refine' KP|(refine' KQ;(first|(refine' QG)|(refine' QI)|(refine' Ad<;>intro hc))));all_goals (refine' Sr;first|(exact Cb)|(exact AL)|(exact B9))
   rintro ρ w1 ⟨q3,hA,hρ,hq3,hS⟩;obtain ⟨ρ,rfl⟩:=KS hA hρ;refine Rh hS 10 [2,3,5] (fun A LL ρ' w'=>∃(q4:Bool),KR ρ' A∧KR ρ' [(52, .bool q4)]∧(q4=true↔((((fA x.op=false∧x.a≠0)∨(fB x.op=false∧x.b≠0))∨(fC x.op=false∧x.c≠0))∨(fK x.op=false∧x.k≠0)))∧St cx w' (LL)) ?_ ?_
   · skip;cases q3;all_goals (refine' Ms;cases a4);all_goals (refine' TO;first|refine' KP|(refine' KQ;(first|(refine' QG)|(refine' QI)|(refine' Ad<;>intro hc))));all_goals (refine' Sr;first|(exact Da)|(exact AL)|(exact Dd))
   rintro ρ w1 ⟨q4,hA,hρ,hq4,hS⟩;obtain ⟨ρ,rfl⟩:=KS hA hρ;refine Rh hS 10 [2,3,5] (fun A LL ρ' w'=>∃(q5:Bool),KR ρ' A∧KR ρ' [(62, .bool q5)]∧(q5=true↔(((((fA x.op=false∧x.a≠0)∨(fB x.op=false∧x.b≠0))∨(fC x.op=false∧x.c≠0))∨(fK x.op=false∧x.k≠0))∨(fN x.op=false∧x.n≠0)))∧St cx w' (LL)) ?_ ?_
   · skip;cases q4;all_goals (refine' Ms;cases a5);all_goals (refine' TO;first|refine' KP|(refine' KQ;(first|(refine' QG)|(refine' QI)|(refine' Ad<;>intro hc))));all_goals (refine' Sr;first|(exact Dk)|(exact AL)|(exact Cj))
   rintro ρ w1 ⟨q5,hA,hρ,hq5,hS⟩;obtain ⟨ρ,rfl⟩:=KS hA hρ;refine Rh hS 11 [2,3,5] (fun A LL ρ' w'=>∃(q6:Bool),KR ρ' A∧KR ρ' [(73, .bool q6)]∧(q6=true↔((((((fA x.op=false∧x.a≠0)∨(fB x.op=false∧x.b≠0))∨(fC x.op=false∧x.c≠0))∨(fK x.op=false∧x.k≠0))∨(fN x.op=false∧x.n≠0))∨(fG x.op=false∧0<x.regs.length)))∧St cx w' (LL)) ?_ ?_
   · skip;cases q5;all_goals (refine' Ms;cases a6);all_goals (refine' TO;refine' Ng;first|refine' KP|(refine' KQ;(first|(refine' QO)|(refine' QV)|(refine' Af<;>intro hc))));all_goals (refine' Sr;first|(exact Ck)|(exact AL)|(exact Cp))
   ((rintro ρ w1 ⟨q6,hA,hρ,hq6,hS⟩;obtain ⟨ρ,rfl⟩:=KS hA hρ;cases q6;all_goals (refine' Ms;cases a7));all_goals (refine' TO;refine' Ng;first|refine' KP|(refine' KQ;(first|(refine' QO)|(refine' QV)|(refine' Af<;>intro hc)))));all_goals (refine' Yw;refine' LH)
   all_goals
    first
    | (refine' KN;all_goals (refine' Lh);all_goals (first|(refine ⟨_,rfl,?_,hS.sp⟩;rw [if_pos Es];done)|(refine ⟨_,rfl,?_,hS.sp⟩;have ho:x.odd:=EY;rw [if_neg Jo,if_pos ho];done)))
    | (refine' KO;all_goals refine' KV)
   all_goals (exact ⟨zh,zh,by intro h;unfold Ins.odd at h;simp only [←or_assoc] at h;exact h.elim (fun h=>Bool.noConfusion (hq6.2 h)) (fun h=>by obtain ⟨h1,h2⟩:=h;first|(exfalso;omega)|(simp_all;done)),hS.sp⟩)
 (rintro ρ w1 ⟨hA,hρ,hodd,hS⟩;obtain ⟨ρ,rfl⟩:=KS hA hρ;refine' Nx;clear hm hx;refine' So;refine' S6;refine' K3;first|(refine' Qd)|(refine' Qi)|(refine' Ac<;>intro hc));all_goals (refine' K5)
 all_goals
  first
  | (refine' KN
     ((refine' Ot;first|(refine' LG)|(refine' LM)|(refine' Ae<;>intro hc));all_goals (refine' Ms;first|refine' KP|(refine' KQ;(first|(refine' QO)|(refine' QV)|(refine' Af<;>intro hc)))));all_goals (refine' LH)
     all_goals
      first
      | (refine' KN;all_goals (refine' Lh);all_goals (exact Ai))
      | (refine' KO;refine' KV))
  | (refine' KO
     (refine' K3;first|(refine' Qd)|(refine' Qi)|(refine' Ac<;>intro hc));all_goals (refine' K5)
     all_goals
      first
      | (refine' KN
         (refine' U4;first|(refine' QO)|(refine' QV)|(refine' Af<;>intro hc));all_goals (refine' zn)
         all_goals
          first
          | (refine' KN;refine' Lh;first|(refine ⟨_,rfl,?_,hS.sp⟩;rw [if_pos Es];done)|(refine ⟨_,rfl,?_,hS.sp⟩;have ho:x.odd:=EY;rw [if_neg Jo,if_pos ho];done)|(refine ⟨_,rfl,?_,hS.sp⟩;rw [if_neg Jo,if_neg hodd];unfold OP;(repeat (first|rw [if_pos Jo]|rw [if_neg Jo]));done))
          | (refine' KO;refine' KV))
      | (refine' KO
         (refine Qo ?_;refine' K3;first|(refine' Qd)|(refine' Qi)|(refine' Ac<;>intro hc));all_goals (refine' K5)
         all_goals
          first
          | (refine' KN;refine' KV)
          | (refine' KO;(refine' Mm;first|(refine' Qd)|(refine' Qi)|(refine' Ac<;>intro hc));all_goals (refine' zm);all_goals refine' zn)
         all_goals
          first
          | (refine' KN
             (all_goals (refine' Ot;first|(refine' LG)|(refine' LM)|(refine' Ae<;>intro hc));all_goals (refine' Ms;first|refine' KP|(refine' KQ;(first|(refine' QO)|(refine' QV)|(refine' Af<;>intro hc)))));all_goals (refine' LH)
             all_goals
              first
              | (refine' KN;all_goals (refine' Lh);all_goals (exact Ai))
              | (refine' KO;all_goals refine' KV))
          | (refine' KO
             (refine' K3;first|(refine' Qd)|(refine' Qi)|(refine' Ac<;>intro hc));all_goals (refine' K5)
             all_goals
              first
              | (refine' KN
                 ((refine' NP;first|(refine' LG)|(refine' LM)|(refine' Ae<;>intro hc));all_goals (refine' Sj;refine' Ng;first|refine' KP|(refine' KQ;(first|(refine' MV)|(refine' Nu)|(refine' Ag<;>intro hc)))));all_goals (refine' LH)
                 all_goals
                  first
                  | (refine' KN;all_goals (refine' Lh);all_goals (exact Ai))
                  | (refine' KO;refine' KV)
                 ((refine' U4;first|(refine' QO)|(refine' QV)|(refine' Af<;>intro hc));all_goals (refine' Rn;first|refine' KP|(refine' KQ;(first|(refine' QO)|(refine' QV)|(refine' Af<;>intro hc)))));all_goals (refine' LH)
                 all_goals
                  first
                  | (refine' KN;all_goals (refine' Lh);all_goals (exact Ai))
                  | (refine' KO;refine' KV))
              | (refine' KO;refine' KV))))
 all_goals (refine' Lh;(exact Ai))
end
end Go.Proofs.YteflkifmgnpbhaaGreat
namespace Go.Lir
theorem Y9 (hf:m.funcs[s.g.f]?=some f)(hb:f.blocks[s.g.b]?=some b)(h:s.g.i<b.code.length):s.place m=Pu s.g.f s.g.b s.g.i:=by
 unfold MS.place;simp only [hf,hb];exact if_pos h
theorem Za (hf:m.funcs[s.g.f]?=some f)(hb:f.blocks[s.g.b]?=some b)(h:¬s.g.i<b.code.length):s.place m=Rd s.g.f s.g.b:=by
 unfold MS.place;simp only [hf,hb];exact if_neg h
theorem j8 {x:Ins}(hf:m.funcs[s.g.f]?=some f)(hb:f.blocks[s.g.b]?=some b)(h:b.code[s.g.i]?=some x):s.one m=s.next.ins m x:=by
 unfold MS.one;simp only [hf,hb,h]
theorem j9 (hf:m.funcs[s.g.f]?=some f)(hb:f.blocks[s.g.b]?=some b)(h:b.code.length≤s.g.i):s.one m=s.fin f b.fin:=by
 unfold MS.one;simp only [hf,hb,Gb h]
end Go.Lir
namespace Go.Proofs.YteflkifmgnpbhaaGreat
open Go.Lir
attribute [local irreducible] LC.wp Q0 Qr Qj Lo QJ LO.wp Q6 Calls
section
variable {cx:Cx}{w:World}{L:List Res}{p N:Nat}{c:MC}{fr:List FrmV}{g:FrmV}{h:HpS}{out inp:List Int}{fu:Nat}{m:Module}
@[reducible] def MC.tick (c:MC):MC:=⟨c.hp,c.fn,c.lv,c.iv,c.e,c.bv,c.ov,c.fu+1,c.mo,c.dn,c.c,c.a⟩
def Qgb (m:Module)(x:Ins):Prop:=(1≤x.op∧x.op≤14)∧(x.op=14→0≤x.k∧x.k<m.funcs.length)∧x.regs.length≤100∧x.args.length≤100
def gJ (f:Fun)(e:Tail):Prop:=e.args.length≤100∧(1≤e.op∧e.op≤3)∧(e.op≠3→ToOK f e.yes)∧(e.op=2→ToOK f e.no)
attribute [local irreducible] Frm.val Frm.num Frm.args Frm.rgs Frm.reg MS.place Pu Rd
attribute [local irreducible] MS.ins MS.fin MS.one TX VJ OL SD
end
section
attribute [local irreducible] Ln LB SZ OP Qz NM NU QA QD QK PT S0 Rd Pu
variable {cx:Cx}{w:World}{L:List Res}{i:Nat}
theorem VP (c:Int):(if decide (c≠0)=true then c else 0)=c:=by by_cases h:c=0<;>simp [h]
theorem bp {x:Fun}{is:Bool}(hx:K8.at cx cs x)(ht:toR.at cx ds t)(hS:St cx w L):
 KK Tryz.prog Ve [.agg ⟨cs⟩, .agg ⟨ds⟩, .bool is] w fun u w'=>u= .int .i64 (NM x.blocks.length t is)∧St cx w' L:=by
 obtain ⟨vp,vr,vb,rfl,hp,hr,hb⟩:=QC hx;obtain ⟨v1,v2,rfl,h1,h2⟩:=SX ht;have hlb:=hb.len;have hb1:=h1.len;have hb2:=h2.len;unfold NM
 cases is with
 | false=>
   ((refine KY KX Tryz.func156 ?_;refine' Lx;intro p3 w1 hS;refine zb hS ?_;intro p4 w1 hS;refine' gA;refine' KN;refine' NP;first|(refine' QG)|(refine' QI)|(refine' Ad<;>intro hc));all_goals (refine' Rn;refine' Nv;refine' Ng;(first|refine' KP|(refine' KQ;refine' NH));first|refine' KP|(refine' KQ;(first|(refine' QO)|(refine' QV)|(refine' Af<;>intro hc)))));all_goals (refine' LH)
   all_goals
    first
    | (refine' KN;all_goals (refine' Lh);all_goals (refine ⟨_,rfl,?_,hS.sp⟩;(rw [if_pos rfl];first|rw [if_pos Jo]|rw [if_neg Jo]);done))
    | (refine' KO;refine' KV)
   refine' Lh;(refine ⟨_,rfl,?_,hS.sp⟩;(rw [if_pos rfl];first|rw [if_pos Jo]|rw [if_neg Jo]);done)
 | true=>
   ((refine KY KX Tryz.func156 ?_;refine' Lx;intro p3 w1 hS;refine zb hS ?_;intro p4 w1 hS;refine' gA;refine' Si;refine' NP;first|(refine' LG)|(refine' LM)|(refine' Ae<;>intro hc));all_goals (refine' Sj;refine' Ng;first|refine' KP|(refine' KQ;(first|(refine' MV)|(refine' Nu)|(refine' Ag<;>intro hc)))));all_goals (refine' LH)
   all_goals
    first
    | (refine' KN;all_goals (refine' Lh);all_goals (refine ⟨_,rfl,?_,hS.sp⟩;rw [if_neg Bool.noConfusion];(repeat (first|rw [if_pos Jo]|rw [if_neg Jo]));done))
    | (refine' KO;refine' KV)
   ((refine' NP;refine' zL;first|(refine' QO)|(refine' QV)|(refine' Af<;>intro hc));all_goals (refine' Rn;first|refine' KP|(refine' KQ;(first|(refine' QO)|(refine' QV)|(refine' Af<;>intro hc)))));all_goals (refine' LH)
   all_goals
    first
    | (refine' KN;all_goals (refine' Lh);all_goals (refine ⟨_,rfl,?_,hS.sp⟩;rw [if_neg Bool.noConfusion];(repeat (first|rw [if_pos Jo]|rw [if_neg Jo]));done))
    | (refine' KO;refine' KV)
   refine' Lh;(refine ⟨_,rfl,?_,hS.sp⟩;rw [if_neg Bool.noConfusion];(repeat (first|rw [if_pos Jo]|rw [if_neg Jo]));done)
theorem VQ {x:Fun}(hx:K8.at cx cs x)(he:LZ.at cx ds e)(hS:St cx w L):
 KK Tryz.prog Qj3 [.agg ⟨cs⟩, .agg ⟨ds⟩] w fun u w'=>u= .int .i64 (NU x.blocks.length e)∧St cx w' L:=by
 ((obtain ⟨vp,vr,vb,rfl,hp,hr,hb⟩:=QC hx;obtain ⟨v1,v2,v3,v4,v5,rfl,h1,h2,h3,h4,h5⟩:=RM he;have s5:=h5.len;unfold NU;refine KY KX Tryz.func96 ?_;refine' Lx;intro p2 w1 hS;refine zb hS ?_;intro p3 w1 hS;refine' Sq;first|(refine' LG)|(refine' LM)|(refine' Ae<;>intro hc));all_goals (refine' Ms;first|refine' KP|(refine' KQ;(first|(refine' QO)|(refine' QV)|(refine' Af<;>intro hc)))));all_goals (refine' LH)
 all_goals
  first
  | (refine' KN;all_goals (refine' Lh);all_goals (refine ⟨_,rfl,?_,hS.sp⟩;rw [if_pos Jo];done))
  | (refine' KO;refine' KV)
 refine Rx hS [2,3] (fun A LL ρ' w'=>KR ρ' A∧KR ρ' []∧(¬(e.op<1∨3<e.op))∧(¬(e.op≠2∧e.a≠0∨e.op≠3∧0<e.args.length))∧St cx w' (LL)) ?_ ?_
 · skip
   ((((refine' Ot;first|(refine' QG)|(refine' QI)|(refine' Ad<;>intro hc));all_goals (refine' Ms;first|refine' KP|(refine' KQ;(first|(refine' QG)|(refine' QI)|(refine' Ad<;>intro hc)))));all_goals (refine' MK;refine' Rn;first|refine' KP|(refine' KQ;(first|(refine' QO)|(refine' QV)|(refine' Af<;>intro hc)))));all_goals (refine' YC;first|refine' KP|(refine' KQ;(first|(refine' QG)|(refine' QI)|(refine' Ad<;>intro hc)))));all_goals (refine' Yw;refine' LH)
   all_goals
    first
    | (refine' KN;all_goals (refine' Lh);all_goals (first|(refine ⟨_,rfl,?_,hS.sp⟩;rw [if_pos Jo];done)|(refine ⟨_,rfl,?_,hS.sp⟩;rw [if_neg Jo,if_pos Jo];done)))
    | (refine' KO;all_goals refine' KV)
   all_goals (exact ⟨zh,zh,Jo,Jo,hS.sp⟩)
 (rintro ρ w1 ⟨hA,hρ,k1,k2,hS⟩;obtain ⟨ρ,rfl⟩:=KS hA hρ;refine' NP;refine' zL;first|(refine' QO)|(refine' QV)|(refine' Af<;>intro hc));all_goals (refine' zn)
 all_goals
  first
  | (refine' KN;refine' Lh;first|(refine ⟨_,rfl,?_,hS.sp⟩;rw [if_pos Jo];done)|(refine ⟨_,rfl,?_,hS.sp⟩;rw [if_neg Jo,if_pos Jo];done)|(refine ⟨_,rfl,?_,hS.sp⟩;rw [if_neg k1,if_neg k2,if_pos Jo];done))
  | (refine' KO;refine' KV)
 (refine Qo ?_;refine' Nw;refine' PC;refine' Lw;refine XU rfl rfl ?_;refine' LU (c:=bp (t:=e.yes) hx ⟨_,_,rfl,h1,h2⟩ hS);rintro v1 w1 ⟨rfl,hS⟩;refine' Mz;first|(refine' QG)|(refine' QI)|(refine' Ad<;>intro hc));all_goals (refine' zn)
 all_goals
  first
  | (refine' KN;refine' RV;first|(refine ⟨_,rfl,?_,hS.sp⟩;rw [if_pos Jo];done)|(refine ⟨_,rfl,?_,hS.sp⟩;rw [if_neg Jo,if_pos Jo];done)|(refine ⟨_,rfl,?_,hS.sp⟩;rw [if_neg k1,if_neg k2,if_pos Jo];done)|(refine ⟨_,rfl,?_,hS.sp⟩;(rw [if_neg k1,if_neg k2,if_neg Jo];first|rw [Rp Ja]|(rw [Gi.1 (by assumption:¬NM x.blocks.length e.yes (decide (e.op≠3))≠0),P1]));done))
  | (refine' KO;refine' KV)
 refine' Nw;refine' PC;refine' Lw;refine iF rfl rfl ?_;refine' LU (c:=bp (t:=e.no) hx ⟨_,_,rfl,h3,h4⟩ hS);rintro v1 w1 ⟨rfl,hS⟩;refine' Ly;(first|(refine ⟨_,rfl,?_,hS.sp⟩;rw [if_pos Jo];done)|(refine ⟨_,rfl,?_,hS.sp⟩;rw [if_neg Jo,if_pos Jo];done)|(refine ⟨_,rfl,?_,hS.sp⟩;rw [if_neg k1,if_neg k2,if_pos Jo];done)|(refine ⟨_,rfl,?_,hS.sp⟩;(rw [if_neg k1,if_neg k2,if_neg Jo];first|rw [Rp Ja]|(rw [Gi.1 (by assumption:¬NM x.blocks.length e.yes (decide (e.op≠3))≠0),P1]));done))
theorem dP {x:Ins}(hm:LS.at cx cs m)(hx:Lz.at cx ds x)(hS:St cx w L):KK Tryz.prog Vf [.agg ⟨cs⟩, .agg ⟨ds⟩] w fun u w'=>u= .int .i64 (Qz m.funcs.length x)∧St cx w' L:=by
 obtain ⟨vf,rfl,hf⟩:=OE hm;obtain ⟨a0,n0,rfl⟩:=FK hf;have hx':=hx;obtain ⟨vr,va,rfl,hr,ha⟩:=QY hx;refine KY KX Tryz.func204 ?_;refine' Lx;intro p2 w1 hS;refine zb hS ?_;intro p3 w1 hS;refine' K5;refine' Nw;refine PW [_,_,_,_] ?_;refine zb hS ?_;intro p8 w1 hS;refine' Mz;refine zv hS ?_;refine' KU (c:=bf (g:=(0,0)) (at':=0) hx' hf hS Lr);rintro v1 w1 ⟨rfl,hS⟩;simp only [FM] at hS;rw [MH (SY _ _)] at hS;simp only [No,Sc] at hS;refine' Nb;refine' Sn;refine' Ly;(((refine ⟨_,rfl,?_,hS.sp⟩;(rfl);done)))
theorem dQ {x:Fun}(hx:K8.at cx cs x)(he:LZ.at cx ds e)(hS:St cx w L):KK Tryz.prog Vg [.agg ⟨cs⟩, .agg ⟨ds⟩] w fun u w'=>u= .int .i64 (NU x.blocks.length e)∧St cx w' L:=by
 have hx':=hx;have he':=he;obtain ⟨vp,vr,vb,rfl,hp,hr,hb⟩:=QC hx;obtain ⟨v1,v2,v3,v4,v5,rfl,h1,h2,h3,h4,h5⟩:=RM he;refine KY KX Tryz.func208 ?_;refine' Lx;intro p2 w1 hS;refine zb hS ?_;intro p3 w1 hS;refine' K5;refine' K3;refine M5 [_,_,_,_] ?_;refine zb hS ?_;intro p7 w1 hS;refine' Mz;refine zv hS ?_;refine zv hS ?_;refine' LU (c:=bg (g:=(0,0)) (at':=0) hx' he' hS fd);rintro v1 w1 ⟨rfl,hS⟩;have hS:=hS.ns;rw [MH (SY _ _)] at hS;simp only [No,Sc] at hS;refine' Nb;refine' Sn;refine' Ly;(((refine ⟨_,rfl,?_,hS.sp⟩;(rfl);done)))
theorem qK {l:List Ty}{v:Value}{g:Mw}{at':Int}{b:Nat}(hl:K0.sl cx v l)(hS:St cx w L)(hi:nth L i=some (No b vf g at')):
 KK Tryz.prog Q9r [.pointer (some ⟨b,0,none⟩),v, .int .i64 regs] w fun u w'=>u= .tuple #[]∧St cx w' (L.set i (No b vf (Ln g (LB (QA l regs) at')) at')):=by
 have hS:=hS.out hi;have hlen:=hl.len
 have e0:Ln g (LB (QA l regs) at')=Ln g (LB (SZ (if 8<l.length then 2 else 0) (RN regs l)) at'):=by
  congr 2;unfold QA;split
  · rw [Rp Jd]
  · rw [P1]
 rw [e0];refine KY KX Tryz.func105 ?_;refine zM [0,1,2] (fun A ρ' w'=>KR ρ' A∧KR ρ' []∧St cx w' (No b vf (Ln g (LB (if 8<l.length then 2 else 0) at')) at'::L.eraseIdx i)) ?_ ?_
 · skip;(refine' NJ;refine' zL;first|(refine' QO)|(refine' QV)|(refine' Af<;>intro hc));all_goals (refine' LU (c:=OV DG hS fd);rintro v1 w1 ⟨rfl,hS⟩;simp only [FM,FR,if_true,FV,if_false] at hS;refine' zn;exact Bc)
 rintro ρ w1 ⟨hA,hρ,hS⟩;obtain ⟨ρ,rfl⟩:=KS hA hρ;refine' Ls;refine' PF;refine zo [0,2,14,15] (fun A ρ' w'=>∃(j:Nat) (h:Mw),KR ρ' A∧KR ρ' [(16, .int .i64 j)]∧(j≤l.length)∧(Ln g (LB (SZ (if 8<l.length then 2 else 0) (RN regs l)) at')=Ln h (LB (RN regs (l.drop j)) at'))∧St cx w' (No b vf h at'::L.eraseIdx i)) (fun ρ' _=>(l.length - iv (ρ' 16)).toNat) ?_ ?_
 · exact ⟨0,_,zh,zh,Jo,by rw [GD,Pt],hS.sp⟩
 rintro ρ w1 ⟨j,h,hA,hρ,hj,hd,hS⟩;obtain ⟨ρ,rfl⟩:=KS hA hρ;refine' NV;refine' Ab<;>intro hc
 · skip;refine' S9;refine' zi;intro b1 o1 cs1 x1 hat1 hx1 he1;obtain ⟨vl1,rfl,hl1⟩:=Qe he1;refine' NO;intro p7 w1 hS;refine K1 hS ?_;intro w1 hS;have hS:=hS.ns;refine' RD;refine' zm;refine' KU (c:=uY Ja hS);rintro v1 w1 ⟨rfl,hS⟩;refine' K5;refine' NJ;refine XU rfl rfl ?_;refine' zm;refine' LU (c:=OV (by intro h;exact of_decide_eq_true h) hS fd);rintro v1 w1 ⟨rfl,hS⟩;simp only [FM,FR,VP] at hS;refine' Sw;(exact ⟨⟨j+1,_,zh,zh,Jo,by rw [hd,Q1 hx1,RN,←Pt],hS.sp⟩,Qc Jo⟩)
 · skip;refine' L7;refine' Nm;refine ⟨_,rfl,rfl,?_⟩;rw [hd,FJ Jo,RN,M4,gh rfl];exact GR hS hi
def Lg (g:Mw):Value:= .agg ⟨[.int .i64 g.1, .int .i64 g.2]⟩
theorem VS {f b:Nat}{x:Fun}(hxf:m.funcs[f]?=some x)(hyb:x.blocks[b]?=some y)(hf0:f≤1000000)(hb0:b≤1000000)(hlc:y.code.length≤100000)(hm:LS.at cx cs m)(hS:St cx w L):
 KK Tryz.prog QcG [.agg ⟨cs⟩, .int .i64 f, .int .i64 b] w fun u w'=>u=Lg (O1 m.funcs.length f x b y)∧St cx w' L:=by
 ((have hm':=hm;obtain ⟨vf,rfl,hf⟩:=OE hm;have hflt:=(FD.1 hxf).1;have hblt:=(FD.1 hyb).1;refine KY KX Tryz.func68 ?_;refine' Lx;intro p3 w1 hS;refine Qh hS ?_;intro p6 w1 hS;refine' zn;refine' cW;intro b1 o1 cs1 x1 hat1 hx1 he1;obtain ⟨vp1,vr1,vb1,rfl,hp1,hr1,hb1⟩:=QC he1;refine' NO;intro p7 w1 hS;refine K1 hS ?_;intro w1 hS;have hS:=hS.ns;refine' zn;have e1:x=x1:=FY (hxf.symm.trans hx1);subst e1;refine' cW;intro b2 o2 cs2 x2 hat2 hx2 he2;obtain ⟨vp2,vc2,ve21,ve22,ve23,ve24,ve25,rfl,hp2,hc2,he21,he22,he23,he24,he25⟩:=OZ he2;refine' NO;intro p8 w1 hS;refine K1 hS ?_;intro w1 hS;have hS:=hS.ns;refine' zn;have e2:y=x2:=FY (hyb.symm.trans hx2);subst e2;refine' NP;refine' Lw;first|(refine' LG)|(refine' LM)|(refine' Ae<;>intro hc));all_goals (refine' Ms;first|refine' KP|(refine' KQ;(first|(refine' QO)|(refine' QV)|(refine' Af<;>intro hc)))));all_goals (refine' LH)
 all_goals
  first
  | (refine' KN;all_goals (refine' Lu;refine' KU (c:=mz f b hf0 hb0 hS);rintro v1 w1 ⟨rfl,hS⟩;refine' KU (c:=NA hS);rintro v1 w1 ⟨rfl,hS⟩;refine K1 hS ?_;intro w1 hS;have hS:=hS.ns;refine' Mu;refine Mp vw (Q2 (n:=2) Jk Jk (hS.blkAt fd) Jr Jr) ?_);all_goals (refine ⟨_,rfl,?_,hS.sp⟩;rw [OQ (c:=1) DZ Jd];rfl;done))
  | (refine' KO;refine' KV)
 (refine' NP;refine' Lw;refine' KU (c:=qJ Ja hS);rintro v1 w1 ⟨rfl,hS⟩;refine' Mz;first|(refine' QG)|(refine' QI)|(refine' Ad<;>intro hc));all_goals (refine' zn)
 all_goals
  first
  | (refine' KN;refine' Lu;refine' zm;refine' KU (c:=mz f b hf0 hb0 hS);rintro v1 w1 ⟨rfl,hS⟩;refine' KU (c:=NA hS);rintro v1 w1 ⟨rfl,hS⟩;refine K1 hS ?_;intro w1 hS;have hS:=hS.ns;refine' Mu;refine Mp vw (Q2 (n:=2) Jk Jk (hS.blkAt fd) Jr Jr) ?_;first|(refine ⟨_,rfl,?_,hS.sp⟩;rw [OQ (c:=1) DZ Jd];rfl;done)|(refine ⟨_,rfl,?_,hS.sp⟩;rw [OQ (c:=QA y.params y.regs) D2 Ja];rfl;done))
  | (refine' KO;refine' KV)
 refine Qo ?_;refine' K3;refine Rh hS 17 [1,2,3,6,7,8] (fun A LL ρ' w'=>∃(q:Bool),KR ρ' A∧KR ρ' [(65, .bool q)]∧(q=true↔(b=0∧(y.regs≠x.regs∨y.params≠x.params)))∧St cx w' (LL)) ?_ ?_
 · skip;(refine' zm;first|(refine' Qd)|(refine' Qi)|(refine' Ac<;>intro hc));all_goals (refine' Sj;first|refine' KP|(refine' KQ;(first|(refine' QG)|(refine' QI)|(refine' Ad<;>intro hc))));all_goals (refine' YC;refine' Nv;first|refine' KP|(refine' KQ;refine' KU (c:=gH hp2 hp1 hS);rintro v1 w1 ⟨rfl,hS⟩;(cases hdec:decide (y.params=x.params));have hg:=of_decide_eq_false hdec;rotate_left;have hg:=of_decide_eq_true hdec;all_goals skip));all_goals (refine' OG;refine' Sr;first|(exact CZ)|(exact C7)|(exact BP)|(exact Ca))
 rintro ρ w1 ⟨q,hA,hρ,hq,hS⟩;obtain ⟨ρ,rfl⟩:=KS hA hρ;refine' zn;cases q
 all_goals
  first
  | (refine' KN;refine' Lu;refine' KU (c:=mz f b hf0 hb0 hS);rintro v1 w1 ⟨rfl,hS⟩;refine' KU (c:=NA hS);rintro v1 w1 ⟨rfl,hS⟩;refine K1 hS ?_;intro w1 hS;have hS:=hS.ns;refine' Mu;refine Mp vw (Q2 (n:=2) Jk Jk (hS.blkAt fd) Jr Jr) ?_;first|(refine ⟨_,rfl,?_,hS.sp⟩;rw [OQ (c:=1) DZ Jd];rfl;done)|(refine ⟨_,rfl,?_,hS.sp⟩;rw [OQ (c:=QA y.params y.regs) D2 Ja];rfl;done)|(refine ⟨_,rfl,?_,hS.sp⟩;rw [OQ (c:=9) D8 Jd];rfl;done))
  | (refine' KO;refine' KV)
 refine Rx hS [1,2,3,6,7,8] (fun A LL ρ' w'=>KR ρ' A∧KR ρ' []∧(QD x b y=0)∧St cx w' (LL)) ?_ ?_
 · skip
   (refine' U4;first|(refine' QO)|(refine' QV)|(refine' Af<;>intro hc));all_goals (refine' zn)
   all_goals
    first
    | (refine' KN;refine' Lu;refine' KU (c:=mz f b hf0 hb0 hS);rintro v1 w1 ⟨rfl,hS⟩;refine' KU (c:=NA hS);rintro v1 w1 ⟨rfl,hS⟩;refine K1 hS ?_;intro w1 hS;have hS:=hS.ns;refine' Mu;refine Mp vw (Q2 (n:=2) Jk Jk (hS.blkAt fd) Jr Jr) ?_;first|(refine ⟨_,rfl,?_,hS.sp⟩;rw [OQ (c:=1) DZ Jd];rfl;done)|(refine ⟨_,rfl,?_,hS.sp⟩;rw [OQ (c:=QA y.params y.regs) D2 Ja];rfl;done)|(refine ⟨_,rfl,?_,hS.sp⟩;rw [OQ (c:=9) D8 Jd];rfl;done)|(refine ⟨_,rfl,?_,hS.sp⟩;rw [OQ (c:=2) Eo Jd];rfl;done))
    | (refine' KO;refine' KV)
   (exact ⟨zh,zh,by unfold QD;rw [if_neg Jo,if_neg Jo,if_neg (fun h=>Bool.noConfusion (hq.2 h)),if_neg Jo],hS.sp⟩)
 rintro ρ w1 ⟨hA,hρ,hh,hS⟩;obtain ⟨ρ,rfl⟩:=KS hA hρ;refine' M8;refine Mx hS [1,2,3,6,7,8] (fun A LL ρ' w'=>∃(j:Nat),KR ρ' A∧KR ρ' [(10, .int .i64 j)]∧(j≤y.code.length)∧(Pk m.funcs.length f b 0 y.code=Pk m.funcs.length f b j (y.code.drop j))∧St cx w' (LL)) (fun ρ' _=>(y.code.length - iv (ρ' 10)).toNat) ?_ ?_
 · exact AH
 rintro ρ w1 ⟨j,hA,hρ,hj,hd,hS⟩;obtain ⟨ρ,rfl⟩:=KS hA hρ;refine' O4;refine' Ab<;>intro hc
 · skip
   (refine' Rm;refine zD (ci 8 [6,7]) ?_;have hS:=hS.drew;refine zv hS ?_;refine' Lw;refine' PA;intro b3 o3 cs3 x3 hat3 hx3 he3;obtain ⟨vr3,va3,rfl,hr3,ha3⟩:=QY he3;refine' N7;refine' KU (c:=VO hm' Ja hS);rintro v1 w1 ⟨rfl,hS⟩;refine' Mz;first|(refine' QG)|(refine' QI)|(refine' Ad<;>intro hc));all_goals (refine' zn)
   all_goals
    first
    | (refine' KN;refine' Lu;refine' M7;refine' LU (c:=qI f b j hf0 hb0 Jo hS);rintro v1 w1 ⟨rfl,hS⟩;refine' KU (c:=NA hS);rintro v1 w1 ⟨rfl,hS⟩;refine K1 hS ?_;intro w1 hS;have hS:=hS.ns;refine' Mu;refine Mp vw (Q2 (n:=2) Jk Jk (hS.blkAt fd) Jr Jr) ?_;first|(refine ⟨_,rfl,?_,hS.sp⟩;rw [OQ (c:=1) DZ Jd];rfl;done)|(refine ⟨_,rfl,?_,hS.sp⟩;rw [OQ (c:=QA y.params y.regs) D2 Ja];rfl;done)|(refine ⟨_,rfl,?_,hS.sp⟩;rw [OQ (c:=9) D8 Jd];rfl;done)|(refine ⟨_,rfl,?_,hS.sp⟩;rw [OQ (c:=2) Eo Jd];rfl;done)|(refine ⟨_,rfl,?_,hS.sp⟩;rw [oJ (F:=(Qz m.funcs.length x3,Pu f b j)) hh Er Ja];rfl;done))
    | (refine' KO;refine' KV)
   refine' Mk;(exact ⟨⟨j+1,zh,zh,Jo,by rw [hd,Q1 hx3,zk Jo],hS.sp⟩,Qc Jo⟩)
 · skip
   (refine' L7;refine Qo ?_;refine' Nw;refine' PC;refine' KU (c:=VQ (e:=y.fin) he1 ⟨_,_,_,_,_,rfl,he21,he22,he23,he24,he25⟩ hS);rintro v1 w1 ⟨rfl,hS⟩;refine' Mz;first|(refine' QG)|(refine' QI)|(refine' Ad<;>intro hc));all_goals (refine' zn)
   all_goals
    first
    | (refine' KN;refine' Lu;refine' zm;refine' KU (c:=qH f b hf0 hb0 hS);rintro v1 w1 ⟨rfl,hS⟩;refine' KU (c:=NA hS);rintro v1 w1 ⟨rfl,hS⟩;refine K1 hS ?_;intro w1 hS;have hS:=hS.ns;refine' Mu;refine Mp vw (Q2 (n:=2) Jk Jk (hS.blkAt fd) Jr Jr) ?_;first|(refine ⟨_,rfl,?_,hS.sp⟩;rw [OQ (c:=1) DZ Jd];rfl;done)|(refine ⟨_,rfl,?_,hS.sp⟩;rw [OQ (c:=QA y.params y.regs) D2 Ja];rfl;done)|(refine ⟨_,rfl,?_,hS.sp⟩;rw [OQ (c:=9) D8 Jd];rfl;done)|(refine ⟨_,rfl,?_,hS.sp⟩;rw [OQ (c:=2) Eo Jd];rfl;done)|(refine ⟨_,rfl,?_,hS.sp⟩;rw [oJ (F:=(Qz m.funcs.length x3,Pu f b j)) hh Er Ja];rfl;done)|(refine ⟨_,rfl,?_,hS.sp⟩;(rw [Uz hh Fy];first|(rw [Rv Ja];rfl)|(rw [show NU x.blocks.length y.fin=0 by omega,M4];rfl));done))
    | (refine' KO;refine' KV)
   refine' K3;refine M5 [_,_] ?_;refine K1 hS ?_;intro w1 hS;have hS:=hS.ns;refine' Mu;refine Mp vw (Q2 (n:=2) Jk Jk (hS.blkAt fd) Jr Jr) ?_;first|(refine ⟨_,rfl,?_,hS.sp⟩;rw [OQ (c:=1) DZ Jd];rfl;done)|(refine ⟨_,rfl,?_,hS.sp⟩;rw [OQ (c:=QA y.params y.regs) D2 Ja];rfl;done)|(refine ⟨_,rfl,?_,hS.sp⟩;rw [OQ (c:=9) D8 Jd];rfl;done)|(refine ⟨_,rfl,?_,hS.sp⟩;rw [OQ (c:=2) Eo Jd];rfl;done)|(refine ⟨_,rfl,?_,hS.sp⟩;rw [oJ (F:=(Qz m.funcs.length x3,Pu f b j)) hh Er Ja];rfl;done)|(refine ⟨_,rfl,?_,hS.sp⟩;(rw [Uz hh Fy];first|(rw [Rv Ja];rfl)|(rw [show NU x.blocks.length y.fin=0 by omega,M4];rfl));done)
theorem VU (hsh:m.Short)(hm:LS.at cx cs m)(hS:St cx w L):
 KK Tryz.prog z7 [.agg ⟨cs⟩] w fun u w'=>u=Lg m.fault∧St cx w' L:=by
 have hm':=hm;obtain ⟨vf,rfl,hf⟩:=OE hm;have hlf:=hf.len;have hsf:=hsh.2;unfold Module.fault;refine KY KX Tryz.func21 ?_;refine' Lx;intro p1 w1 hS;refine Qh hS ?_;(intro p2 w1 hS);refine' zn;refine Rx hS [1,2] (fun A LL ρ' w'=>KR ρ' A∧KR ρ' []∧(1≤m.funcs.length∧m.funcs.length≤8)∧St cx w' (LL)) ?_ ?_
 · skip
   ((refine' U4;first|(refine' LG)|(refine' LM)|(refine' Ae<;>intro hc));all_goals (refine' Rn;first|refine' KP|(refine' KQ;(first|(refine' QO)|(refine' QV)|(refine' Af<;>intro hc)))));all_goals (refine' LH)
   all_goals
    first
    | (refine' KN;all_goals (refine' K3;refine' KU (c:=NA hS);rintro v1 w1 ⟨rfl,hS⟩;refine K1 hS ?_;intro w1 hS;have hS:=hS.ns;refine' Mu;refine Mp vw (Q2 (n:=2) Jk Jk (hS.blkAt fd) Jr Jr) ?_);all_goals (refine ⟨_,rfl,?_,hS.sp⟩;rw [if_pos Jo,O0 DU,Rv Jd];rfl;done))
    | (refine' KO;refine' KV)
   ((exact ⟨zh,zh,Jo,hS.sp⟩))
 rintro ρ w1 ⟨hA,hρ,hl8,hS⟩;obtain ⟨ρ,rfl⟩:=KS hA hρ;refine' M8;refine Mx hS [1,2] (fun A LL ρ' w'=>∃(f:Nat),KR ρ' A∧KR ρ' [(3, .int .i64 f)]∧(f≤m.funcs.length)∧(Re m.funcs.length 0 m.funcs=Re m.funcs.length f (m.funcs.drop f))∧St cx w' (LL)) (fun ρ' _=>(m.funcs.length - iv (ρ' 3)).toNat) ?_ ?_
 · exact AH
 rintro ρ w1 ⟨f,hA,hρ,hj,hd,hS⟩;obtain ⟨ρ,rfl⟩:=KS hA hρ;refine' O4;refine' Ab<;>intro hc
 · skip
   ((refine' Ta;intro b1 o1 cs1 x1 hat1 hx1 he1;obtain ⟨vp1,vr1,vb1,rfl,hp1,hr1,hb1⟩:=QC he1;refine' NO;intro p4 w1 hS;refine K1 hS ?_;intro w1 hS;have hS:=hS.ns;refine' zn;have hsx:=hsf x1 (FC hx1);have hlb:=hb1.len;have hlr:=hr1.len;refine' NP;first|(refine' LG)|(refine' LM)|(refine' Ae<;>intro hc));all_goals (refine' Ms;first|refine' KP|(refine' KQ;(first|(refine' QO)|(refine' QV)|(refine' Af<;>intro hc)))));all_goals (refine' LH)
   all_goals
    first
    | (refine' KN;all_goals (refine' Ls;refine' Lf (c:=j7 f Jo hS);rintro v1 w1 ⟨rfl,hS⟩;refine' KU (c:=NA hS);rintro v1 w1 ⟨rfl,hS⟩;refine K1 hS ?_;intro w1 hS;have hS:=hS.ns;refine' Mu;refine Mp vw (Q2 (n:=2) Jk Jk (hS.blkAt fd) Jr Jr) ?_);all_goals (first|(refine ⟨_,rfl,?_,hS.sp⟩;rw [if_pos Jo,O0 DU,Rv Jd];rfl;done)|(refine ⟨_,rfl,?_,hS.sp⟩;rw [if_neg Jo,M4,MH Qt,hd,Q1 hx1];rw [Qk DY,Ol (c:=1) DV Jd];rfl;done)))
    | (refine' KO;refine' KV)
   (refine' NP;refine' Lw;refine' KU (c:=qJ hp1 hS);rintro v1 w1 ⟨rfl,hS⟩;refine' Mz;first|(refine' QG)|(refine' QI)|(refine' Ad<;>intro hc));all_goals (refine' zn)
   all_goals
    first
    | (refine' KN;refine' Lu;refine' Lf (c:=j7 f Jo hS);rintro v1 w1 ⟨rfl,hS⟩;refine' KU (c:=NA hS);rintro v1 w1 ⟨rfl,hS⟩;refine K1 hS ?_;intro w1 hS;have hS:=hS.ns;refine' Mu;refine Mp vw (Q2 (n:=2) Jk Jk (hS.blkAt fd) Jr Jr) ?_;first|(refine ⟨_,rfl,?_,hS.sp⟩;rw [if_pos Jo,O0 DU,Rv Jd];rfl;done)|(refine ⟨_,rfl,?_,hS.sp⟩;rw [if_neg Jo,M4,MH Qt,hd,Q1 hx1];rw [Qk DY,Ol (c:=1) DV Jd];rfl;done)|(refine ⟨_,rfl,?_,hS.sp⟩;have e:=Ol (n:=m.funcs.length) (f:=f) (x:=x1) (c:=QA x1.params x1.regs) D1 Ja;rw [if_neg Jo,M4,MH Qt,hd,Q1 hx1,Qk DL,e];rfl;done))
    | (refine' KO;refine' KV)
   (refine' NP;refine' Lw;refine' KU (c:=qJ hr1 hS);rintro v1 w1 ⟨rfl,hS⟩;refine' Mz;first|(refine' QG)|(refine' QI)|(refine' Ad<;>intro hc));all_goals (refine' zn)
   all_goals
    first
    | (refine' KN;refine' Lu;refine' Lf (c:=j7 f Jo hS);rintro v1 w1 ⟨rfl,hS⟩;refine' KU (c:=NA hS);rintro v1 w1 ⟨rfl,hS⟩;refine K1 hS ?_;intro w1 hS;have hS:=hS.ns;refine' Mu;refine Mp vw (Q2 (n:=2) Jk Jk (hS.blkAt fd) Jr Jr) ?_;first|(refine ⟨_,rfl,?_,hS.sp⟩;rw [if_pos Jo,O0 DU,Rv Jd];rfl;done)|(refine ⟨_,rfl,?_,hS.sp⟩;rw [if_neg Jo,M4,MH Qt,hd,Q1 hx1];rw [Qk DY,Ol (c:=1) DV Jd];rfl;done)|(refine ⟨_,rfl,?_,hS.sp⟩;have e:=Ol (n:=m.funcs.length) (f:=f) (x:=x1) (c:=QA x1.params x1.regs) D1 Ja;rw [if_neg Jo,M4,MH Qt,hd,Q1 hx1,Qk DL,e];rfl;done)|(refine ⟨_,rfl,?_,hS.sp⟩;have e:=Ol (n:=m.funcs.length) (f:=f) (x:=x1) (c:=QA x1.results x1.regs) Eb Ja;rw [if_neg Jo,M4,MH Qt,hd,Q1 hx1,Qk DL,e];rfl;done))
    | (refine' KO;refine' KV)
   refine Rx hS [1,2,3,4] (fun A LL ρ' w'=>KR ρ' A∧KR ρ' []∧(¬(x1.regs<0∨6<x1.regs))∧(¬QA x1.params x1.regs≠0)∧(¬QA x1.results x1.regs≠0)∧(¬(x1.blocks.length<1∨12<x1.blocks.length))∧St cx w' (LL)) ?_ ?_
   · skip
     ((refine' U4;first|(refine' LG)|(refine' LM)|(refine' Ae<;>intro hc));all_goals (refine' Rn;first|refine' KP|(refine' KQ;(first|(refine' QO)|(refine' QV)|(refine' Af<;>intro hc)))));all_goals (refine' LH)
     all_goals
      first
      | (refine' KN;all_goals (refine' Ls;refine' Lf (c:=j7 f Jo hS);rintro v1 w1 ⟨rfl,hS⟩;refine' KU (c:=NA hS);rintro v1 w1 ⟨rfl,hS⟩;refine K1 hS ?_;intro w1 hS;have hS:=hS.ns;refine' Mu;refine Mp vw (Q2 (n:=2) Jk Jk (hS.blkAt fd) Jr Jr) ?_);all_goals (first|(refine ⟨_,rfl,?_,hS.sp⟩;rw [if_pos Jo,O0 DU,Rv Jd];rfl;done)|(refine ⟨_,rfl,?_,hS.sp⟩;rw [if_neg Jo,M4,MH Qt,hd,Q1 hx1];rw [Qk DY,Ol (c:=1) DV Jd];rfl;done)|(refine ⟨_,rfl,?_,hS.sp⟩;have e:=Ol (n:=m.funcs.length) (f:=f) (x:=x1) (c:=QA x1.params x1.regs) D1 Ja;rw [if_neg Jo,M4,MH Qt,hd,Q1 hx1,Qk DL,e];rfl;done)|(refine ⟨_,rfl,?_,hS.sp⟩;have e:=Ol (n:=m.funcs.length) (f:=f) (x:=x1) (c:=QA x1.results x1.regs) Eb Ja;rw [if_neg Jo,M4,MH Qt,hd,Q1 hx1,Qk DL,e];rfl;done)|(refine ⟨_,rfl,?_,hS.sp⟩;have e:=Ol (n:=m.funcs.length) (f:=f) (x:=x1) (c:=2) Ef Jd;rw [if_neg Jo,M4,MH Qt,hd,Q1 hx1,Qk DW,e];rfl;done)))
      | (refine' KO;refine' KV)
     ((exact ⟨zh,zh,Jo,by assumption,by assumption,Jo,hS.sp⟩))
   rintro ρ w1 ⟨hA,hρ,k1,k2,k3,k4,hS⟩;obtain ⟨ρ,rfl⟩:=KS hA hρ;refine Rx hS [1,2,3,4] (fun A LL ρ' w'=>KR ρ' A∧KR ρ' []∧(QK f x1=0)∧St cx w' (LL)) ?_ ?_
   · skip
     (refine' Ls;first|(refine' Qd)|(refine' Qi)|(refine' Ac<;>intro hc));all_goals (refine' zn)
     all_goals
      first
      | (refine' KN
         refine' K3;refine Rh hS 9 [1,2,3,4] (fun A LL ρ' w'=>∃(q:Bool),KR ρ' A∧KR ρ' [(90, .bool q)]∧(q=true↔(x1.regs=0∧x1.params.length=0))∧St cx w' (LL)) ?_ ?_
         · skip;(refine' Lw;first|(refine' Qd)|(refine' Qi)|(refine' Ac<;>intro hc));all_goals (refine' Rn;first|refine' KP|(refine' KQ;(first|(refine' Qd)|(refine' Qi)|(refine' Ac<;>intro hc))));all_goals (refine' mb;first|(exact ⟨_,zh,zh,by exact ⟨fun _=>⟨Jo,Jo⟩,fun _=>rfl⟩,hS.sp⟩)|(exact ⟨_,zh,zh,by exact ⟨fun h=>Bool.noConfusion h,fun h=>by omega⟩,hS.sp⟩))
         rintro ρ w1 ⟨q,hA,hρ,hq,hS⟩;obtain ⟨ρ,rfl⟩:=KS hA hρ;refine' UY;refine Mx hS [1,2,3,4] (fun A LL ρ' w'=>∃(i:Nat) (q:Bool),KR ρ' A∧KR ρ' [(7, .bool q),(8, .int .i64 i)]∧(i≤x1.results.length)∧(q=true↔(x1.regs=0∧x1.params.length=0∧∀t∈x1.results.take i,t.kind=1))∧(f=0)∧St cx w' (LL)) (fun ρ' _=>(x1.results.length - iv (ρ' 8)).toNat) ?_ ?_
         · exact ⟨0,q,zh,zh,Jo,by rw [hq];simp,Jo,hS.sp⟩
         rintro ρ w1 ⟨i,q,hA,hρ,hi,hq2,hf0,hS⟩;obtain ⟨ρ,rfl⟩:=KS hA hρ;refine' O4;refine' Ab<;>intro hc
         · skip;refine' MF;cases q;all_goals (refine' Mj;refine' Ms;refine' MT;(first|refine' KP|(refine' KQ;refine' zi;intro b2 o2 cs2 x2 hat2 hx2 he2;obtain ⟨vl2,rfl,hl2⟩:=Qe he2));refine' NC;refine' cV;first|refine' KP|(refine' KQ;(first|(refine' Qd)|(refine' Qi)|(refine' Ac<;>intro hc))));all_goals (refine' MK;refine' UZ;first|(exact ⟨⟨i+1,false,zh,zh,Jo,by exact ⟨fun h=>Bool.noConfusion h,fun h=>hq2.2 ⟨h.1,h.2.1,fun t ht=>h.2.2 t (G5 (i:=i) (by rw [List.take_take,Jz Jo];exact ht))⟩⟩,hf0,hS.sp⟩,Qc Jo⟩)|(exact ⟨⟨i+1,true,zh,zh,Jo,by exact ⟨fun _=>⟨(hq2.1 rfl).1,(hq2.1 rfl).2.1,Yk (hq2.1 rfl).2.2 hx2 Ja⟩,fun _=>rfl⟩,hf0,hS.sp⟩,Qc Jo⟩)|(exact ⟨⟨i+1,false,zh,zh,Jo,by exact ⟨fun h=>Bool.noConfusion h,fun h=>absurd (h.2.2 x2 (by rw [Ux hx2];simp)) Ja⟩,hf0,hS.sp⟩,Qc Jo⟩))
         · skip
           refine' L7;refine Qo ?_;cases q;all_goals (refine' Mj;refine' Oy)
           all_goals
            first
            | (refine' KN;refine' Ls;refine' Lf (c:=j7 f Jo hS);rintro v1 w1 ⟨rfl,hS⟩;refine' KU (c:=NA hS);rintro v1 w1 ⟨rfl,hS⟩;refine K1 hS ?_;intro w1 hS;have hS:=hS.ns;refine' Mu;refine Mp vw (Q2 (n:=2) Jk Jk (hS.blkAt fd) Jr Jr) ?_;first|(refine ⟨_,rfl,?_,hS.sp⟩;rw [if_pos Jo,O0 DU,Rv Jd];rfl;done)|(refine ⟨_,rfl,?_,hS.sp⟩;rw [if_neg Jo,M4,MH Qt,hd,Q1 hx1];rw [Qk DY,Ol (c:=1) DV Jd];rfl;done)|(refine ⟨_,rfl,?_,hS.sp⟩;have e:=Ol (n:=m.funcs.length) (f:=f) (x:=x1) (c:=QA x1.params x1.regs) D1 Ja;rw [if_neg Jo,M4,MH Qt,hd,Q1 hx1,Qk DL,e];rfl;done)|(refine ⟨_,rfl,?_,hS.sp⟩;have e:=Ol (n:=m.funcs.length) (f:=f) (x:=x1) (c:=QA x1.results x1.regs) Eb Ja;rw [if_neg Jo,M4,MH Qt,hd,Q1 hx1,Qk DL,e];rfl;done)|(refine ⟨_,rfl,?_,hS.sp⟩;have e:=Ol (n:=m.funcs.length) (f:=f) (x:=x1) (c:=2) Ef Jd;rw [if_neg Jo,M4,MH Qt,hd,Q1 hx1,Qk DW,e];rfl;done)|(refine ⟨_,rfl,?_,hS.sp⟩;have e:=Ol (n:=m.funcs.length) (f:=f) (x:=x1) (c:=18) EI Jd;rw [if_neg Jo,M4,MH Qt,hd,Q1 hx1,Qk DW,e];rfl;done))
            | (refine' KO;refine' KV)
           first|(exact CK)|(exact ⟨zh,zh,by unfold QK;rw [if_neg k1,if_neg k2,if_neg k3,if_neg k4,if_neg];rintro ⟨_,h⟩;obtain ⟨a1,a2,a3⟩:=hq2.1 rfl;rw [Gd Jo] at a3;rcases h with h|h|⟨t,ht,hk⟩<;>first|(exfalso;omega)|exact hk (a3 t ht),hS.sp⟩))
      | (refine' KO;refine' KV;(exact CK))
   rintro ρ w1 ⟨hA,hρ,hh,hS⟩;obtain ⟨ρ,rfl⟩:=KS hA hρ;refine' gy;refine Mx hS [1,2,3,4] (fun A LL ρ' w'=>∃(b:Nat),KR ρ' A∧KR ρ' [(9, .int .i64 b)]∧(b≤x1.blocks.length)∧(PU m.funcs.length f x1 0 x1.blocks=PU m.funcs.length f x1 b (x1.blocks.drop b))∧St cx w' (LL)) (fun ρ' _=>(x1.blocks.length - iv (ρ' 9)).toNat) ?_ ?_
   · exact AH
   rintro ρ w1 ⟨b,hA,hρ,hb,hd2,hS⟩;obtain ⟨ρ,rfl⟩:=KS hA hρ;refine' O4;refine' Ab<;>intro hc
   · skip
     (refine' Rm;obtain ⟨y,hy⟩:∃y,x1.blocks[b]?=some y:=⟨_,FB Jo⟩;have hsy:=hsx.2.2.2 y (FC hy);refine' Mm;refine zv hS ?_;refine' M7;refine' LU (c:=VS hx1 hy Jo Jo hsy.2.1 hm' hS);rintro v1 w1 ⟨rfl,hS⟩;unfold Lg;refine Qh hS ?_;intro p10 w1 hS;refine K1 hS ?_;intro w1 hS;have hS:=hS.ns;refine' P0;first|(refine' QG)|(refine' QI)|(refine' Ad<;>intro hc));all_goals (refine' zn)
     all_goals
      first
      | (refine' KN;refine' Nw;refine K1 hS ?_;intro w1 hS;have hS:=hS.ns;refine' Mu;refine Mp vw (Q2 (n:=2) Jk Jk (hS.blkAt fd) Jr Jr) ?_;first|(refine ⟨_,rfl,?_,hS.sp⟩;rw [if_pos Jo,O0 DU,Rv Jd];rfl;done)|(refine ⟨_,rfl,?_,hS.sp⟩;rw [if_neg Jo,M4,MH Qt,hd,Q1 hx1];rw [Qk DY,Ol (c:=1) DV Jd];rfl;done)|(refine ⟨_,rfl,?_,hS.sp⟩;have e:=Ol (n:=m.funcs.length) (f:=f) (x:=x1) (c:=QA x1.params x1.regs) D1 Ja;rw [if_neg Jo,M4,MH Qt,hd,Q1 hx1,Qk DL,e];rfl;done)|(refine ⟨_,rfl,?_,hS.sp⟩;have e:=Ol (n:=m.funcs.length) (f:=f) (x:=x1) (c:=QA x1.results x1.regs) Eb Ja;rw [if_neg Jo,M4,MH Qt,hd,Q1 hx1,Qk DL,e];rfl;done)|(refine ⟨_,rfl,?_,hS.sp⟩;have e:=Ol (n:=m.funcs.length) (f:=f) (x:=x1) (c:=2) Ef Jd;rw [if_neg Jo,M4,MH Qt,hd,Q1 hx1,Qk DW,e];rfl;done)|(refine ⟨_,rfl,?_,hS.sp⟩;have e:=Ol (n:=m.funcs.length) (f:=f) (x:=x1) (c:=18) EI Jd;rw [if_neg Jo,M4,MH Qt,hd,Q1 hx1,Qk DW,e];rfl;done)|(refine ⟨_,rfl,?_,hS.sp⟩;have e:(O1 m.funcs.length f x1 b y).1≠0:=(by assumption);have e2:RO m.funcs.length f x1=O1 m.funcs.length f x1 b y:=(by rw [oK hh,hd2,Q1 hy,tz e]);rw [if_neg Jo,M4,MH Qt,hd,Q1 hx1,Qk (by rw [e2];exact e),e2];rfl;done))
      | (refine' KO;refine' KV)
     refine' Mk;(exact ⟨⟨b+1,zh,zh,Jo,by rw [hd2,Q1 hy,zq Jo],hS.sp⟩,Qc Jo⟩)
   · skip;refine' L7;refine' Mk;(exact ⟨⟨f+1,zh,zh,Jo,by rw [hd,Q1 hx1,zu];rw [oK hh,hd2,FJ Jo];rfl,hS.sp⟩,Qc Jo⟩)
 · skip;refine' L7;refine' K3;refine M5 [_,_] ?_;refine K1 hS ?_;intro w1 hS;have hS:=hS.ns;refine' Mu;refine Mp vw (Q2 (n:=2) Jk Jk (hS.blkAt fd) Jr Jr) ?_;first|(refine ⟨_,rfl,?_,hS.sp⟩;rw [if_pos Jo,O0 DU,Rv Jd];rfl;done)|(refine ⟨_,rfl,?_,hS.sp⟩;rw [if_neg Jo,M4,MH Qt,hd,Q1 hx1];rw [Qk DY,Ol (c:=1) DV Jd];rfl;done)|(refine ⟨_,rfl,?_,hS.sp⟩;have e:=Ol (n:=m.funcs.length) (f:=f) (x:=x1) (c:=QA x1.params x1.regs) D1 Ja;rw [if_neg Jo,M4,MH Qt,hd,Q1 hx1,Qk DL,e];rfl;done)|(refine ⟨_,rfl,?_,hS.sp⟩;have e:=Ol (n:=m.funcs.length) (f:=f) (x:=x1) (c:=QA x1.results x1.regs) Eb Ja;rw [if_neg Jo,M4,MH Qt,hd,Q1 hx1,Qk DL,e];rfl;done)|(refine ⟨_,rfl,?_,hS.sp⟩;have e:=Ol (n:=m.funcs.length) (f:=f) (x:=x1) (c:=2) Ef Jd;rw [if_neg Jo,M4,MH Qt,hd,Q1 hx1,Qk DW,e];rfl;done)|(refine ⟨_,rfl,?_,hS.sp⟩;have e:=Ol (n:=m.funcs.length) (f:=f) (x:=x1) (c:=18) EI Jd;rw [if_neg Jo,M4,MH Qt,hd,Q1 hx1,Qk DW,e];rfl;done)|(refine ⟨_,rfl,?_,hS.sp⟩;have e:(O1 m.funcs.length f x1 b y).1≠0:=(by assumption);have e2:RO m.funcs.length f x1=O1 m.funcs.length f x1 b y:=(by rw [oK hh,hd2,Q1 hy,tz e]);rw [if_neg Jo,M4,MH Qt,hd,Q1 hx1,Qk (by rw [e2];exact e),e2];rfl;done)|(refine ⟨_,rfl,?_,hS.sp⟩;rw [if_neg Jo,M4,MH Qt,hd,FJ (l:=m.funcs) Jo,Re];rfl;done)
theorem VV {t:Ty}(ht:K0.at cx cs t)(hS:St cx w L):KK Tryz.prog pR [.agg ⟨cs⟩] w fun u w'=>u= .bool (decide (t.kind≠1))∧St cx w' L:=by
 obtain ⟨v,rfl,hl⟩:=Qe ht;refine KY KX Tryz.func107 ?_;refine' Lx;intro p1 w1 hS;refine' Xv;refine XU rfl rfl ?_;refine' Ly;(((refine ⟨_,rfl,?_,hS.sp⟩;(rfl);done)))
theorem Zb {l:List Ty}{v:Value}(hl:K0.sl cx v l)(hS:St cx w L):KK Tryz.prog Q2x [v, .func (.func pR) #[] #[]] w fun u w'=>∃q,u= .bool q∧(q=true↔∃t∈l,t.kind≠1)∧St cx w' L:=by
 have hlen:=hl.len
 have hidx:∀{w:World}{L:List Res},St cx w L→KK Tryz.prog Q2L [v, .func (.func pR) #[] #[]] w fun u w'=>∃r:Int,u= .int .i64 r∧(0≤r↔∃t∈l,t.kind≠1)∧St cx w' L:=by
  intro w L hS;refine KY KX Tryz.func160 ?_;refine' Ob;refine' PF;refine Mx hS [0,1,7] (fun A LL ρ' w'=>∃(j:Nat),KR ρ' A∧KR ρ' [(8, .int .i64 j)]∧(j≤l.length)∧(∀t∈l.take j,t.kind=1)∧St cx w' (LL)) (fun ρ' _=>(l.length - iv (ρ' 8)).toNat) ?_ ?_
  · exact AH
  rintro ρ w1 ⟨j,hA,hρ,hj,hd,hS⟩;obtain ⟨ρ,rfl⟩:=KS hA hρ;refine' NV;refine' Ab<;>intro hc
  · skip
    (refine' MF;refine' NW;refine' Lu;refine' PA;intro b1 o1 cs1 x1 hat1 hx1 he1;obtain ⟨vl1,rfl,hl1⟩:=Qe he1;refine' N7;refine tq rfl Jk Jr (VV he1 hS) ?_;rintro v1 w1 ⟨rfl,hS⟩;(cases hdec:decide (x1.kind≠1));have hg:=of_decide_eq_false hdec;rotate_left;have hg:=of_decide_eq_true hdec;all_goals skip);all_goals (refine' zn)
    all_goals
     first
     | (refine' KN;refine' RV;(exact CE))
     | (refine' KO;refine' KV)
    refine' Rl;(exact ⟨⟨j+1,zh,zh,Jo,Yk hd hx1 (Gi.1 hg),hS.sp⟩,Qc Jo⟩)
  · skip;refine' O5;first|(exact CE)|(exact ⟨_,rfl, -1,rfl,⟨fun h=>by omega,fun ⟨t,ht,hk⟩=>absurd (cB hd Jo t ht) hk⟩,hS.sp⟩)
 (refine KY KX Tryz.func106 ?_;refine' Mf;refine' Lu;refine' KU (c:=hidx hS);rintro v1 w1 ⟨r,rfl,hr,hS⟩;first|(refine' MV)|(refine' Nu)|(refine' Ag<;>intro hc));all_goals (refine' Ly;first|(exact ⟨_,rfl,_,rfl,⟨fun _=>hr.1 Jo,fun _=>rfl⟩,hS.sp⟩)|(exact ⟨_,rfl,_,rfl,⟨fun h=>Bool.noConfusion h,fun h=>by have:=hr.2 h;omega⟩,hS.sp⟩))
theorem QiS {g:Mw}{x:Fun}{b:Nat}{q:Bool}(hq:q=true↔(b=0∧(y.regs≠x.regs∨y.params≠x.params))):
 Ln (Ln (Ln (Ln g (LB (if y.regs<x.regs∨16<y.regs then 1 else 0) a)) (LB (QA y.params y.regs) a)) (LB (if q=true then 9 else 0) a)) (LB (if 40<y.code.length then 2 else 0) a)=Ln g (LB (QD x b y) a):=by
 rw [Pt,Pt,Pt];congr 2;unfold QD;by_cases h0:y.regs<x.regs∨16<y.regs
 · rw [if_pos h0,if_pos h0];simp only [Rp (show (1:Int)≠0 by decide)]
 · rw [if_neg h0,if_neg h0,P1]
   by_cases h:QA y.params y.regs≠0
   · rw [if_pos h];simp only [Rp h]
   · rw [if_neg h,Gi.1 h,P1]
     by_cases hb:b=0∧(y.regs≠x.regs∨y.params≠x.params)
     · rw [if_pos hb,if_pos (hq.2 hb)];simp only [Rp (show (9:Int)≠0 by decide)]
     · rw [if_neg hb,if_neg (fun h=>hb (hq.1 h)),P1]
theorem VW {fs:List Fun}{f b:Nat}{x:Fun}{g:Mw}{p:Nat}(hxf:fs[f]?=some x)(hyb:x.blocks[b]?=some y)(hf0:f≤1000000)(hb0:b≤1000000)(hlc:y.code.length≤100000)(hf:K8.sl cx vf fs)(hS:St cx w L)(hi:nth L i=some (No p vf g a)):
 KK Tryz.prog Q82 [.pointer (some ⟨p,0,none⟩), .int .i64 f, .int .i64 b] w fun u w'=>u= .tuple #[]∧∃a',St cx w' (L.set i (No p vf (Ln g (O1 fs.length f x b y)) a')):=by
 have hflt:=(FD.1 hxf).1;have hblt:=(FD.1 hyb).1;have hS:=hS.out hi;refine KY KX Tryz.func108 ?_;refine' Xw;refine' Lw;refine' PA;intro b1 o1 cs1 x1 hat1 hx1 he1;((obtain ⟨vp1,vr1,vb1,rfl,hp1,hr1,hb1⟩:=QC he1));refine' NO;(intro p6 w1 hS);((refine K1 hS ?_;intro w1 hS;have hS:=hS.ns));refine' zn;have e1:x=x1:=FY (hxf.symm.trans hx1);subst e1;refine' cW;intro b2 o2 cs2 x2 hat2 hx2 he2;((obtain ⟨vp2,vc2,ve21,ve22,ve23,ve24,ve25,rfl,hp2,hc2,he21,he22,he23,he24,he25⟩:=OZ he2));refine' NO;(intro p7 w1 hS);((refine K1 hS ?_;intro w1 hS;have hS:=hS.ns));refine' zn;have e2:y=x2:=FY (hyb.symm.trans hx2);subst e2;refine zM [0,1,2,6,7] (fun A ρ' w'=>KR ρ' A∧KR ρ' []∧St cx w' (blk p7 92 [.int .i64 y.regs,vp2,vc2, .int .i64 y.fin.op, .int .i64 y.fin.a, .int .i64 y.fin.yes.block,ve21,ve22, .int .i64 y.fin.no.block,ve23,ve24,ve25]::blk p6 95 [.int .i64 x.regs,vp1,vr1,vb1]::No p vf g (S0 f b)::L.eraseIdx i)) ?_ ?_
 · skip;refine' RX;refine' KU (c:=Qfx f b hf0 hb0 hS);rintro v1 w1 ⟨rfl,hS⟩;refine' Ma;refine Mi hS ?_;intro w1 hS;have hS:=hS.ns;refine' zn;(exact ⟨zh,zh,hS.sp⟩)
 rintro ρ w1 ⟨hA,hρ,hS⟩;obtain ⟨ρ,rfl⟩:=KS hA hρ;refine zM [0,1,2,6,7] (fun A ρ' w'=>KR ρ' A∧KR ρ' []∧St cx w' (blk p7 92 [.int .i64 y.regs,vp2,vc2, .int .i64 y.fin.op, .int .i64 y.fin.a, .int .i64 y.fin.yes.block,ve21,ve22, .int .i64 y.fin.no.block,ve23,ve24,ve25]::blk p6 95 [.int .i64 x.regs,vp1,vr1,vb1]::No p vf (Ln g (LB (if y.regs<x.regs∨16<y.regs then 1 else 0) (S0 f b))) (S0 f b)::L.eraseIdx i)) ?_ ?_
 · skip;(refine' PZ;refine' Lw;first|(refine' LG)|(refine' LM)|(refine' Ae<;>intro hc));all_goals (refine' Ms;first|refine' KP|(refine' KQ;(first|(refine' QO)|(refine' QV)|(refine' Af<;>intro hc))));all_goals (refine' MK;refine' LU (c:=OV (g:=_) DG hS fd);rintro v1 w1 ⟨rfl,hS⟩;simp only [FM,FR,if_true,FV,if_false] at hS;refine' zn;exact Bc)
 rintro ρ w1 ⟨hA,hρ,hS⟩;obtain ⟨ρ,rfl⟩:=KS hA hρ;refine' O6;refine' Lw;refine' LU (c:=qK hp2 hS fd);rintro v1 w1 ⟨rfl,hS⟩;have hS:=hS.ns;refine' U5;refine Rh hS 18 [0,1,2,6,7] (fun A LL ρ' w'=>∃(q:Bool),KR ρ' A∧KR ρ' [(46, .pointer (some ⟨p,0,none⟩)),(63, .bool q)]∧(q=true↔(b=0∧(y.regs≠x.regs∨y.params≠x.params)))∧St cx w' (LL)) ?_ ?_
 · skip;(refine' M7;first|(refine' Qd)|(refine' Qi)|(refine' Ac<;>intro hc));all_goals (refine' Sj;first|refine' KP|(refine' KQ;(first|(refine' QG)|(refine' QI)|(refine' Ad<;>intro hc))));all_goals (refine' YC;refine' Nv;first|refine' KP|(refine' KQ;refine' LU (c:=Vu Jk (fun a _ b _ {_ _ _ _} h1 h2 h3=>jF a b h1 h2 h3) hp2 hp1 hS);rintro v1 w1 ⟨rfl,hS⟩;(cases hdec:decide (y.params=x.params));have hg:=of_decide_eq_false hdec;rotate_left;have hg:=of_decide_eq_true hdec;all_goals skip));all_goals (refine' OG;refine' Sr;first|(exact CZ)|(exact C7)|(exact BP)|(exact Ca))
 rintro ρ w1 ⟨q,hA,hρ,hq,hS⟩;obtain ⟨ρ,rfl⟩:=KS hA hρ;refine' LU (c:=OV (g:=_) DG hS fd);rintro v1 w1 ⟨rfl,hS⟩;simp only [FM,FR,if_true,FV,if_false] at hS;refine' zn;refine zM [0,1,2,6,7] (fun A ρ' w'=>KR ρ' A∧KR ρ' []∧St cx w' (blk p7 92 [.int .i64 y.regs,vp2,vc2, .int .i64 y.fin.op, .int .i64 y.fin.a, .int .i64 y.fin.yes.block,ve21,ve22, .int .i64 y.fin.no.block,ve23,ve24,ve25]::blk p6 95 [.int .i64 x.regs,vp1,vr1,vb1]::No p vf (Ln g (LB (QD x b y) (S0 f b))) (S0 f b)::L.eraseIdx i)) ?_ ?_
 · skip;(refine' PZ;refine' zL;first|(refine' QO)|(refine' QV)|(refine' Af<;>intro hc));all_goals (refine' LU (c:=OV (g:=_) DG hS fd);rintro v1 w1 ⟨rfl,hS⟩;simp only [FM,FR,if_true,FV,if_false] at hS;refine' zn;exact ⟨zh,zh,by rw [←QiS hq];first|(rw [if_pos (c:=40<y.code.length) Jo];exact hS.sp)|(rw [if_neg (c:=40<y.code.length) Jo];exact hS.sp)⟩)
 rintro ρ w1 ⟨hA,hρ,hS⟩;obtain ⟨ρ,rfl⟩:=KS hA hρ;refine' M8;refine zo [0,1,2,6,7] (fun A ρ' w'=>∃(j:Nat) (h:Mw) (at2:Int),KR ρ' A∧KR ρ' [(8, .int .i64 j)]∧(j≤y.code.length)∧(Ln (Ln g (LB (QD x b y) (S0 f b))) (Pk fs.length f b 0 y.code)=Ln h (Pk fs.length f b j (y.code.drop j)))∧St cx w' (blk p7 92 [.int .i64 y.regs,vp2,vc2, .int .i64 y.fin.op, .int .i64 y.fin.a, .int .i64 y.fin.yes.block,ve21,ve22, .int .i64 y.fin.no.block,ve23,ve24,ve25]::blk p6 95 [.int .i64 x.regs,vp1,vr1,vb1]::No p vf h at2::L.eraseIdx i)) (fun ρ' _=>(y.code.length - iv (ρ' 8)).toNat) ?_ ?_
 · exact C9
 ((rintro ρ w1 ⟨j,h,at2,hA,hρ,hj,hd,hS⟩;obtain ⟨ρ,rfl⟩:=KS hA hρ;refine' RB;refine' zL;first|(refine' LG)|(refine' LM)|(refine' Ae<;>intro hc));all_goals (refine' RY;refine' Tb;first|refine' KP|(refine' KQ;(first|(refine' Qd)|(refine' Qi)|(refine' Ac<;>intro hc)))));all_goals (refine' LH)
 all_goals
  first
  | (refine' KN;refine' MF;refine' Lu;refine' M7;refine' LU (c:=vM f b j hf0 hb0 Jo hS);rintro v1 w1 ⟨rfl,hS⟩;refine' Ma;refine Mi hS ?_;intro w1 hS;have hS:=hS.ns;refine' zn;have hS:St cx _ (blk p7 92 [.int .i64 y.regs,vp2,vc2, .int .i64 y.fin.op, .int .i64 y.fin.a, .int .i64 y.fin.yes.block,ve21,ve22, .int .i64 y.fin.no.block,ve23,ve24,ve25]::blk p6 95 [.int .i64 x.regs,vp1,vr1,vb1]::No p vf h (Pu f b j)::L.eraseIdx i):=hS;refine' PZ;refine' PA;intro b3 o3 cs3 x3 hat3 hx3 he3;obtain ⟨vr3,va3,rfl,hr3,ha3⟩:=QY he3;refine' N7;refine' KU (c:=bf he3 hf hS fd);rintro v1 w1 ⟨rfl,hS⟩;have hS:=hS.ns;refine' zn;refine' Mk;(exact ⟨⟨j+1,_,_,zh,zh,Jo,by rw [hd,Q1 hx3,Pk,cD],hS.sp⟩,Qc Jo⟩))
  | (refine' KO;all_goals (refine' L7;(first|(rw [FJ Jo,Pk,gh (b:=(0,0)) rfl] at hd)|(rw [O0 (a:=h) Ja] at hd));refine' Lu;refine' zm;refine' KU (c:=vL f b hf0 hb0 hS);rintro v1 w1 ⟨rfl,hS⟩;refine' Ma;refine Mi hS ?_;intro w1 hS;have hS:=hS.ns;refine' zn;have hS:St cx _ (blk p7 92 [.int .i64 y.regs,vp2,vc2, .int .i64 y.fin.op, .int .i64 y.fin.a, .int .i64 y.fin.yes.block,ve21,ve22, .int .i64 y.fin.no.block,ve23,ve24,ve25]::blk p6 95 [.int .i64 x.regs,vp1,vr1,vb1]::No p vf h (Rd f b)::L.eraseIdx i):=hS;refine' PX;refine' PC;refine' LU (c:=bg (e:=y.fin) he1 ⟨_,_,_,_,_,rfl,he21,he22,he23,he24,he25⟩ hS fd);rintro v1 w1 ⟨rfl,hS⟩;have hS:=hS.ns;refine' zn);all_goals (refine' Nm;refine ⟨_,rfl,rfl,Rd f b,?_⟩;have hS:=hS.drop.drop;rw [show Ln g (O1 fs.length f x b y)=Ln h (LB (NU x.blocks.length y.fin) (Rd f b)) from (by unfold O1;rw [←cD,←cD,hd])];exact GR hS hi))
theorem Qiv {g:Mw}{x:Fun}{f:Nat}{q:Bool}(hq:q=true↔(f=0∧(0<x.regs∨0<x.params.length∨∃t∈x.results,t.kind≠1))):
 Ln (Ln (Ln (Ln (Ln g (LB (if x.regs<0∨6<x.regs then 1 else 0) a)) (LB (QA x.params x.regs) a)) (LB (QA x.results x.regs) a)) (LB (if x.blocks.length<1∨12<x.blocks.length then 2 else 0) a)) (LB (if q=true then 18 else 0) a)=Ln g (LB (QK f x) a):=by
 rw [Pt,Pt,Pt,Pt];congr 2;unfold QK;by_cases h0:x.regs<0∨6<x.regs
 · rw [if_pos h0,if_pos h0];simp only [Rp (show (1:Int)≠0 by decide)]
 · rw [if_neg h0,if_neg h0,P1]
   by_cases h:QA x.params x.regs≠0
   · rw [if_pos h];simp only [Rp h]
   · rw [if_neg h,Gi.1 h,P1]
     by_cases h1:QA x.results x.regs≠0
     · rw [if_pos h1];simp only [Rp h1]
     · rw [if_neg h1,Gi.1 h1,P1]
       by_cases h2:x.blocks.length<1∨12<x.blocks.length
       · rw [if_pos h2,if_pos h2];simp only [Rp (show (2:Int)≠0 by decide)]
       · rw [if_neg h2,if_neg h2,P1]
         by_cases hb:f=0∧(0<x.regs∨0<x.params.length∨∃t∈x.results,t.kind≠1)
         · rw [if_pos hb,if_pos (hq.2 hb)]
         · rw [if_neg hb,if_neg (fun h=>hb (hq.1 h))]
theorem vN (hsh:m.Short)(hm:LS.at cx cs m)(hS:St cx w L):
 KK Tryz.prog QfX [.agg ⟨cs⟩] w fun u w'=>u=Lg m.fault∧St cx w' L:=by
 obtain ⟨vf,rfl,hf⟩:=OE hm;have hsl:=hsh.1;have hsf:=hsh.2;obtain ⟨a0,n0,rfl⟩:=FK hf;generalize hvf:Value.slice a0 m.funcs.length n0=vf at*;refine KY KX Tryz.func62 ?_;refine' Lx;intro p1 w1 hS;refine Qh hS ?_;(intro p2 w1 hS);refine' RD;refine iO (cs:=[vf, .int .i64 0, .int .i64 0, .int .i64 (-1)]) vw vw (by subst hvf;rfl) ?_;refine zb hS ?_;intro p9 w1 hS;refine' K5;refine zM [1,2,3] (fun A ρ' w'=>KR ρ' A∧KR ρ' []∧St cx w' (No p9 vf (LB (if m.funcs.length<1∨8<m.funcs.length then 2 else 0) (-1)) (-1)::blk p2 29 [.int .i64 0, .int .i64 0]::blk p1 24 [vf]::L)) ?_ ?_
 · skip;(have hS:St cx _ (No p9 vf (0,0) (-1)::blk p2 29 [.int .i64 0, .int .i64 0]::blk p1 24 [vf]::L):=hS;refine' PZ;refine' zL;first|(refine' Qd)|(refine' Qi)|(refine' Ac<;>intro hc));all_goals (refine' Rn;first|refine' KP|(refine' KQ;(first|(refine' QO)|(refine' QV)|(refine' Af<;>intro hc))));all_goals (refine' MK;refine' LU (c:=OV (g:=_) DG hS fd);rintro v1 w1 ⟨rfl,hS⟩;simp only [FM,FR,if_true,FV,if_false] at hS;refine' zn;exact ⟨zh,zh,by rw [MH (SY _ _)] at hS;first|(rw [if_pos Jo];exact hS.sp)|(rw [if_neg Jo];exact hS.sp)⟩)
 rintro ρ w1 ⟨hA,hρ,hS⟩;obtain ⟨ρ,rfl⟩:=KS hA hρ;refine' M8;refine zo [1,2,3] (fun A ρ' w'=>∃(f:Nat) (h:Mw) (a:Int),KR ρ' A∧KR ρ' [(4, .int .i64 f)]∧(f≤m.funcs.length)∧(m.fault=Ln h (Re m.funcs.length f (m.funcs.drop f)))∧St cx w' (No p9 vf h a::blk p2 29 [.int .i64 0, .int .i64 0]::blk p1 24 [vf]::L)) (fun ρ' _=>(m.funcs.length - iv (ρ' 4)).toNat) ?_ ?_
 · exact ⟨0,_,_,zh,zh,Jo,by rw [GD];rfl,hS.sp⟩
 ((rintro ρ w1 ⟨f,h,a,hA,hρ,hj,hd,hS⟩;obtain ⟨ρ,rfl⟩:=KS hA hρ;refine' RB;refine' zL;first|(refine' LG)|(refine' LM)|(refine' Ae<;>intro hc));all_goals (refine' RY;refine' Tb;first|refine' KP|(refine' KQ;(first|(refine' Qd)|(refine' Qi)|(refine' Ac<;>intro hc)))));all_goals (refine' LH)
 all_goals
  first
  | (refine' KN
     refine' Ta;intro b1 o1 cs1 x1 hat1 hx1 he1;obtain ⟨vp1,vr1,vb1,rfl,hp1,hr1,hb1⟩:=QC he1;refine' NO;intro p5 w1 hS;refine K1 hS ?_;intro w1 hS;have hS:=hS.ns;refine' zn;have hsx:=hsf x1 (FC hx1);have hlb:=hsx.2.2.1;have hlp:=hp1.len;have hlr:=hr1.len;refine' Lu;refine' Lf (c:=QhO f Jo hS);rintro v1 w1 ⟨rfl,hS⟩;refine' Ma;refine Mi hS ?_;intro w1 hS;have hS:=hS.ns;refine' zn;refine zM [1,2,3,4,5] (fun A ρ' w'=>KR ρ' A∧KR ρ' []∧St cx w' (blk p5 95 [.int .i64 x1.regs,vp1,vr1,vb1]::No p9 vf (Ln h (LB (if x1.regs<0∨6<x1.regs then 1 else 0) (PT f))) (PT f)::blk p2 29 [.int .i64 0, .int .i64 0]::blk p1 24 [vf]::L)) ?_ ?_
     · skip;(have hS:St cx _ (blk p5 95 [.int .i64 x1.regs,vp1,vr1,vb1]::No p9 vf h (PT f)::blk p2 29 [.int .i64 0, .int .i64 0]::blk p1 24 [vf]::L):=hS;refine' PZ;first|(refine' LG)|(refine' LM)|(refine' Ae<;>intro hc));all_goals (refine' Ms;first|refine' KP|(refine' KQ;(first|(refine' QO)|(refine' QV)|(refine' Af<;>intro hc))));all_goals (refine' MK;refine' LU (c:=OV (g:=_) DG hS fd);rintro v1 w1 ⟨rfl,hS⟩;simp only [FM,FR,if_true,FV,if_false] at hS;refine' zn;exact Bc)
     rintro ρ w1 ⟨hA,hρ,hS⟩;obtain ⟨ρ,rfl⟩:=KS hA hρ;refine' O6;refine' Lw;refine' LU (c:=qK hp1 hS fd);rintro v1 w1 ⟨rfl,hS⟩;have hS:=hS.ns;refine' Nb;refine' Lw;refine' Lw;refine' LU (c:=qK hr1 hS fd);rintro v1 w1 ⟨rfl,hS⟩;have hS:=hS.ns;refine' zn;refine zM [1,2,3,4,5] (fun A ρ' w'=>KR ρ' A∧KR ρ' []∧St cx w' (blk p5 95 [.int .i64 x1.regs,vp1,vr1,vb1]::No p9 vf (Ln (Ln (Ln (Ln h (LB (if x1.regs<0∨6<x1.regs then 1 else 0) (PT f))) (LB (QA x1.params x1.regs) (PT f))) (LB (QA x1.results x1.regs) (PT f))) (LB (if x1.blocks.length<1∨12<x1.blocks.length then 2 else 0) (PT f))) (PT f)::blk p2 29 [.int .i64 0, .int .i64 0]::blk p1 24 [vf]::L)) ?_ ?_
     · skip;(refine' PZ;refine' zL;first|(refine' Qd)|(refine' Qi)|(refine' Ac<;>intro hc));all_goals (refine' Rn;first|refine' KP|(refine' KQ;(first|(refine' QO)|(refine' QV)|(refine' Af<;>intro hc))));all_goals (refine' MK;refine' LU (c:=OV (g:=_) DG hS fd);rintro v1 w1 ⟨rfl,hS⟩;simp only [FM,FR,if_true,FV,if_false] at hS;refine' zn;exact ⟨zh,zh,by first|(rw [if_pos (c:=x1.blocks.length<1∨12<x1.blocks.length) Jo];exact hS.sp)|(rw [if_neg (c:=x1.blocks.length<1∨12<x1.blocks.length) Jo];exact hS.sp)⟩)
     rintro ρ w1 ⟨hA,hρ,hS⟩;obtain ⟨ρ,rfl⟩:=KS hA hρ;refine zM [1,2,3,4,5] (fun A ρ' w'=>KR ρ' A∧KR ρ' []∧St cx w' (blk p5 95 [.int .i64 x1.regs,vp1,vr1,vb1]::No p9 vf (Ln h (LB (QK f x1) (PT f))) (PT f)::blk p2 29 [.int .i64 0, .int .i64 0]::blk p1 24 [vf]::L)) ?_ ?_
     · skip
       refine' Mm;refine Rh hS 19 [1,2,3,4,5] (fun A LL ρ' w'=>∃(q:Bool),KR ρ' A∧KR ρ' [(81, .pointer (some ⟨p9,0,none⟩)),(99, .bool q)]∧(q=true↔(f=0∧(0<x1.regs∨0<x1.params.length∨∃t∈x1.results,t.kind≠1)))∧St cx w' (LL)) ?_ ?_
       · skip;(refine' M7;first|(refine' Qd)|(refine' Qi)|(refine' Ac<;>intro hc));all_goals (refine' Ms;first|refine' KP|(refine' KQ;(first|(refine' QO)|(refine' QV)|(refine' Af<;>intro hc))));all_goals (refine' YC;refine' Ng;first|refine' KP|(refine' KQ;(first|(refine' QO)|(refine' QV)|(refine' Af<;>intro hc))));all_goals (refine' Yw;refine' YC;(first|(refine' KP)|(refine' KQ;refine' KU (c:=Zb hr1 hS);rintro v1 w1 ⟨qc,rfl,hqc,hS⟩;cases qc)));all_goals (refine' Sr;first|(exact ⟨_,zh,zh,by exact ⟨fun _=>⟨Jo, .inl Jo⟩,fun _=>rfl⟩,hS.sp⟩)|(exact ⟨_,zh,zh,by exact ⟨fun _=>⟨Jo, .inr (.inl Jo)⟩,fun _=>rfl⟩,hS.sp⟩)|(exact ⟨_,zh,zh,by exact ⟨fun _=>⟨Jo, .inr (.inr (hqc.1 rfl))⟩,fun _=>rfl⟩,hS.sp⟩)|(exact BP)|(exact ⟨_,zh,zh,by exact ⟨fun h=>Bool.noConfusion h,fun h=>h.2.elim (fun h=>by omega) (fun h=>h.elim (fun h=>by omega) (fun h=>Bool.noConfusion (hqc.2 h)))⟩,hS.sp⟩))
       rintro ρ w1 ⟨q,hA,hρ,hq,hS⟩;obtain ⟨ρ,rfl⟩:=KS hA hρ;refine' LU (c:=OV (g:=_) DG hS fd);rintro v1 w1 ⟨rfl,hS⟩;simp only [FM,FR,if_true,FV,if_false] at hS;refine' zn;(exact ⟨zh,zh,by rw [←Qiv hq];exact hS.sp⟩)
     rintro ρ w1 ⟨hA,hρ,hS⟩;obtain ⟨ρ,rfl⟩:=KS hA hρ;refine' gy;refine zo [1,2,3,4,5] (fun A ρ' w'=>∃(b:Nat) (h2:Mw) (a2:Int),KR ρ' A∧KR ρ' [(6, .int .i64 b)]∧(b≤x1.blocks.length)∧(Ln (Ln h (LB (QK f x1) (PT f))) (PU m.funcs.length f x1 0 x1.blocks)=Ln h2 (PU m.funcs.length f x1 b (x1.blocks.drop b)))∧St cx w' (blk p5 95 [.int .i64 x1.regs,vp1,vr1,vb1]::No p9 vf h2 a2::blk p2 29 [.int .i64 0, .int .i64 0]::blk p1 24 [vf]::L)) (fun ρ' _=>(x1.blocks.length - iv (ρ' 6)).toNat) ?_ ?_
     · exact C9
     ((rintro ρ w1 ⟨b,h2,a2,hA,hρ,hb,hd2,hS⟩;obtain ⟨ρ,rfl⟩:=KS hA hρ;refine' RB;refine' zL;first|(refine' LG)|(refine' LM)|(refine' Ae<;>intro hc));all_goals (refine' RY;refine' Tb;first|refine' KP|(refine' KQ;(first|(refine' Qd)|(refine' Qi)|(refine' Ac<;>intro hc)))));all_goals (refine' LH)
     all_goals
      first
      | (refine' KN;refine' MF;obtain ⟨y,hy⟩:∃y,x1.blocks[b]?=some y:=⟨_,FB Jo⟩;have hsy:=hsx.2.2.2 y (FC hy);refine' RX;refine' LU (c:=VW hx1 hy Jo Jo hsy.2.1 hf hS fd);rintro v1 w1 ⟨rfl,a3,hS⟩;have hS:=hS.ns;refine' zn;refine' Mk;(exact ⟨⟨b+1,_,_,zh,zh,Jo,by rw [hd2,Q1 hy,PU,cD],hS.sp⟩,Qc Jo⟩))
      | (refine' KO;all_goals (refine' L7;(first|(rw [FJ Jo,PU,gh (b:=(0,0)) rfl] at hd2)|(rw [O0 (a:=h2) Ja] at hd2));refine' Mk);all_goals (exact ⟨⟨f+1,h2,a2,zh,zh,Jo,by rw [hd,Q1 hx1,Re,←cD,show Ln h (RO m.funcs.length f x1)=h2 from (by unfold RO;rw [←cD,hd2])],hS.sp⟩,Qc Jo⟩)))
  | (refine' KO;all_goals (refine' L7;(first|(rw [FJ Jo,Re,gh (b:=(0,0)) rfl] at hd)|(rw [O0 (a:=h) Ja] at hd));refine' Xw;refine zv hS ?_;refine K1 hS ?_;intro w1 hS;have hS:=hS.ns;refine' Mu;refine Mp vw (Q2 (n:=2) Jk Jk (hS.blkAt fd) Jr Jr) ?_);all_goals (refine ⟨_,rfl,?_,hS.sp⟩;rw [hd];rfl;done))
end
end Go.Proofs.YteflkifmgnpbhaaGreat
namespace Go.Lir
section
variable {P:Program}{Q:QT}{ρ:La}{w:World}{l:List GO}
end
end Go.Lir
namespace Go.Proofs.YteflkifmgnpbhaaGreat
open Go.Lir
attribute [local irreducible] LC.wp Q0 Qr Qj Lo QJ LO.wp Q6 Calls
section
variable {cx:Cx}{w:World}{L:List Res}{p N:Nat}{c:MC}{fr:List FrmV}{g:FrmV}{h:HpS}{out inp:List Int}{fu:Nat}{m:Module}
@[reducible] def MC.stk (c:MC)(a:Int):MC:=⟨c.hp,c.fn,c.lv,c.iv,c.e,c.bv,c.ov,c.fu,c.mo,c.dn,20,a⟩
@[reducible] def MC.over (c:MC)(e:Int):MC:=⟨c.hp,c.fn,c.lv,c.iv,e,c.bv,c.ov,c.fu,c.mo,true,c.c,c.a⟩
theorem SD.form (hG:SD p c N h out fu X cx L u w):∃M,St cx w (M++L)∧∀w' L2,St cx w' (M++L2)→SD p c N h out fu X cx L2 u w':=by
 rcases hG with ⟨lv,iv,ov,fr',g',N',h',inp',out',h1,h2,h3,h4,hS⟩|⟨ns,bv,fr',g',h1,h2,hS⟩
 · exact ⟨mS p (c.upd lv iv ov) fr' g' N' h' out' [],hS,fun w' L2 hS=> .inl ⟨lv,iv,ov,fr',g',N',h',inp',out',h1,h2,h3,h4,hS⟩⟩
 · exact ⟨_::_::_::_::_::_::_::_::[],hS,fun w' L2 hS=> .inr ⟨ns,bv,fr',g',h1,h2,hS⟩⟩
theorem St.app {M:List Res}(hS:St cx w (M++L)):St cx w (L++M):=hS.perm IP
def br (m:Module)(p:Nat)(c:MC)(fr:List FrmV)(g:FrmV)(N:Nat)(h:HpS)(inp out:List Int)(fu:Nat)(cx:Cx)(L:List Res)(u:Value)(w':World):Prop:=
 (c.fu=c.mo∧u=Lg (0,0)∧St cx w' (mS p (c.over 7) fr g N h out L))∨(c.fu≠c.mo∧((u=Lg (0,0)∧SD p c.tick N h out fu ((KW h g fr inp out fu).one m) cx L (.tuple #[]) w')∨
   (∃e,(KW h g fr inp out fu).one m= .halt e∧u=Lg (0,0)∧∃fr' g' N',N'≤N+1∧St cx w' (mS p (c.tick.over e) fr' g' N' h out L))∨
   ((KW h g fr inp out fu).one m= .lost∧u=Lg (20,(KW h g fr inp out fu).place m)∧St cx w' (blk p 55 (c.tick.stk ((KW h g fr inp out fu).place m)).cells::L))))
attribute [local irreducible] MS.ins MS.fin MS.one MS.place TX OL SD
end
section
variable {cx:Cx}{w:World}{L:List Res}{p:Nat}{c:RC}{fr:List RFV}{g:RFV}{s:EstS}{out inp:List Int}{fu:Nat}{m:Module}
def Rq (p:Nat)(c:RC)(s:EstS)(out:List Int)(X:RStp)(cx:Cx)(L:List Res)(u:Value)(w':World):Prop:=
 ∃ns bv fr' g',X= .done ns∧u= .tuple #[]∧St cx w' (rS p (c.did bv) fr' g' s out (sl 2 1 bv (ns.map Qs)::L))
def R0 (p:Nat)(c:RC)(s:EstS)(out:List Int)(fu:Nat)(X:RStp)(cx:Cx)(L:List Res)(u:Value)(w':World):Prop:=OK p c fu X cx L u w'∨Rq p c s out X cx L u w'
theorem OK.drop {X:RStp}{r:Res}(hG:OK p c fu X cx (r::L) u w):OK p c fu X cx L u w:=by
 obtain ⟨lv,i1,ov,fr',g',s',inp',out',h1,h2,h3,hS⟩:=hG;exact ⟨lv,i1,ov,fr',g',s',inp',out',h1,h2,h3,hS.sp⟩
theorem OK.ok {X:RStp}(hG:OK p c fu X cx L u w):R0 p c s out fu X cx L u w:= .inl hG
theorem VA.get {X:RStp}(hB:VA p c s out X cx L u w):∃e,X= .halt e∧u=Xz e∧∃fr' g',St cx w (rS p c fr' g' s out L):=hB
theorem Rq.drop {X:RStp}{r:Res}(hG:Rq p c s out X cx (r::L) u w):Rq p c s out X cx L u w:=by
 obtain ⟨ns,bv,fr',g',h1,h2,hS⟩:=hG;exact ⟨ns,bv,fr',g',h1,h2,hS.sp⟩
theorem R0.drop {X:RStp}{r:Res}(hG:R0 p c s out fu X cx (r::L) u w):R0 p c s out fu X cx L u w:=hG.elim (fun h=> .inl h.drop) (fun h=> .inr h.drop)
theorem R0.tup {X:RStp}(hG:R0 p c s out fu X cx L u w):u= .tuple #[]∧R0 p c s out fu X cx L u w:=by
 refine ⟨?_,hG⟩;rcases hG with ⟨_,_,_,_,_,_,_,_,_,_,h,_⟩|⟨_,_,_,_,_,h,_⟩
 · exact h
 · exact h
theorem R0.form {X:RStp}(hG:R0 p c s out fu X cx L u w):∃M,St cx w (M++L)∧∀w' L2,St cx w' (M++L2)→R0 p c s out fu X cx L2 u w':=by
 rcases hG with ⟨lv,i1,ov,fr',g',s',inp',out',h1,h2,h3,hS⟩|⟨ns,bv,fr',g',h1,h2,hS⟩
 · exact ⟨rS p (c.upd lv i1 ov) fr' g' s' out' [],hS,fun w' L2 hS=> .inl ⟨lv,i1,ov,fr',g',s',inp',out',h1,h2,h3,hS⟩⟩
 · exact ⟨_::_::_::_::_::_::_::[],hS,fun w' L2 hS=> .inr ⟨ns,bv,fr',g',h1,h2,hS⟩⟩
attribute [local irreducible] RFrm.val RFrm.args EstS.get EstS.getV EstS.code EstS.word EstS.store EstS.stores RS.ins
theorem ka {r:RS}(h3:e.op=3):r.fin e=MB (r.g.args e.args) fun vs=>match r.st with
 | c::st=> .go ((⟨r.e,c,st,r.inp,r.out,r.fuel⟩:RS).put vs)
 | []=> .done vs:=if_pos h3
theorem kc {r:RS}(h2:e.op=2):r.fin e=MB (r.g.val e.a) fun n=>if n=0 then r.to e.no else r.to e.yes:=(if_neg Jo).trans (if_pos h2)
theorem ke {r:RS}(h3:e.op≠3)(h2:e.op≠2):r.fin e=r.to e.yes:=(if_neg h3).trans (if_neg h2)
theorem bh {r:RS}(h:r.g.args t.args=some vs):r.to t= .go (r.fr ⟨r.g.f,t.block.toNat,0,vs⟩):=OU h
theorem qL {r:RS}(h:r.to t≠ .crash):∃vs,r.g.args t.args=some vs:=by obtain ⟨vs,hv,_⟩:=Pa (o:=r.g.args t.args) h;exact ⟨vs,hv⟩
theorem Zc (hx:LZ.at cx cs e)(hi:KM.sl cx c.iv inp)(h8:e.args.length≤100)(hy:e.op≠3→0≤e.yes.block∧e.yes.args.length≤100)(hno:e.op=2→0≤e.no.block∧e.no.args.length≤100)(hf:fr.length≤900)(hfr:∀x∈fr,x.vals.length≤900000)(hX0:(Lc s g fr inp out fu).fin e≠ .crash)(hS:St cx w (rS p c fr g s out L)):
 KK Tryz.prog gC [.pointer (some ⟨p,0,none⟩), .agg ⟨cs⟩] w (R0 p c s out fu ((Lc s g fr inp out fu).fin e) cx L):=by
 by_cases h3:e.op=3
 · rw [ka h3] at hX0 ⊢
   obtain ⟨vs,hv,eX⟩:=Pa hX0;rw [eX];rcases HE fr with rfl|⟨fr0,k,hk⟩
   · refine (dy (s:=s) (out:=out) hx h3 h8 hv hS).mono ?_;rintro u w' ⟨bv,rfl,ho,hS⟩;exact .inr ⟨vs,bv,[],g,rfl,rfl,hS⟩
   · obtain rfl:fr=fr0++[k]:=(by simpa using hk);rw [FH] at hf;refine (dA (s:=s) (out:=out) hx h3 h8 hv Jo (hfr k Js) hS).mono ?_;rintro u w' ⟨lv,tv,rfl,hS⟩;refine .inl ⟨lv,c.iv,c.ov,fr0,k.push tv vs,s,inp,out,?_,hi,rfl,hS⟩;rw [vD];rfl
 · obtain ⟨y1,y2⟩:=hy h3
   by_cases h2:e.op=2
   · rw [kc h2] at hX0 ⊢
     obtain ⟨n,hn,eX⟩:=Pa hX0;rw [eX] at hX0 ⊢;by_cases h0:n=0
     · obtain ⟨n1,n2⟩:=hno h2;rw [if_pos h0] at hX0 ⊢;obtain ⟨vs,hv⟩:=qL hX0;subst h0;refine (dB (s:=s) (out:=out) hx h2 hn n2 n1 hv Jo hS).mono ?_;rintro u w' ⟨vv,rfl,hS⟩;exact .inl ⟨c.lv,c.iv,c.ov,fr,⟨g.f,e.no.block.toNat,0,vv,vs⟩,s,inp,out,bh hv,hi,rfl,hS⟩
     · rw [if_neg h0] at hX0 ⊢;obtain ⟨vs,hv⟩:=qL hX0;refine (dC (s:=s) (out:=out) hx h2 h0 hn y2 y1 hv Jo hS).mono ?_;rintro u w' ⟨vv,rfl,hS⟩;exact CH
   · rw [ke h3 h2] at hX0 ⊢;obtain ⟨vs,hv⟩:=qL hX0;refine (dD (s:=s) (out:=out) hx h2 h3 y2 y1 hv Jo hS).mono ?_;rintro u w' ⟨vv,rfl,hS⟩;exact CH
@[reducible] def RC.over (c:RC)(e:Int):RC:=⟨c.ep,c.fn,c.lv,c.iv,e,c.bv,c.ov,c.fu,c.mo,true⟩
@[reducible] def RC.tick (c:RC):RC:=⟨c.ep,c.fn,c.lv,c.iv,c.e,c.bv,c.ov,c.fu+1,c.mo,c.dn⟩
@[reducible] def kg (p1:Nat):List Value:=[.pointer (some ⟨p1,0,none⟩)]
@[reducible] def OM (p p1:Nat):Res:=blk p1 59 [.pointer (some ⟨p,0,none⟩)]
theorem VX {p1:Nat}(hS:St cx w (OM p p1::L)):Px Tryz.prog uA (kg p1) .returning w fun u' w'=>u'= .returning∧St cx w' (OM p p1::L):=by
 unfold Px;refine mc KX Tryz.func80 ?_;refine' Sg;refine' Yv;refine' zn;refine' K5;refine' Yu;refine' Ls;refine tY (ms:=#[]) Jk rfl ?_;refine' Sy;refine' lX;refine' Nm;exact Bo
theorem vO {p1:Nat}{e:Int}(hS:St cx w (OM p p1::blk p 66 c.cells::L)):Px Tryz.prog uA (kg p1) (.panicking [{v:=Xz e,recovered:=false}]) w fun u' w'=>u'= .panicking [{v:=Xz e,recovered:=true}]∧St cx w' (OM p p1::blk p 66 (c.over e).cells::L):=by
 unfold Px;refine mc KX Tryz.func80 ?_;refine' Sg;refine' Yv;refine' zn;refine' K5;refine' Yu;refine' Ls;refine tZ (ms:=#[]) Jk rfl ?_;refine' Sx;refine' Ls;refine tS (D:= .int .i64) Jk Fq rfl ?_;refine' TM;refine' Si;refine' Mm;refine zl hS ?_;refine zl hS ?_;refine' zm;refine' Ma;refine Mi hS ?_;intro w1 hS;have hS:=hS.ns;refine' UU;refine Mi hS ?_;intro w1 hS;have hS:=hS.ns;refine' zn;refine' lX;refine' Nm;exact Bo
end
section
variable {cx:Cx}{w:World}{L:List Res}{p:Nat}{c:RC}{fr:List RFV}{g:RFV}{s:EstS}{out inp:List Int}{fu:Nat}{m:Module}
def qM (m:Module)(p:Nat)(c:RC)(fr:List RFV)(g:RFV)(s:EstS)(inp out:List Int)(fu:Nat)(cx:Cx)(L:List Res)(u:Value)(w':World):Prop:=
 u = .tuple #[]∧((c.fu=c.mo∧St cx w' (rS p (c.over 7) fr g s out L))∨(c.fu≠c.mo∧(R0 p c.tick s out fu ((Lc s g fr inp out fu).one m) cx L (.tuple #[]) w'∨
   ∃e,(Lc s g fr inp out fu).one m= .halt e∧∃fr' g',St cx w' (rS p (c.tick.over e) fr' g' s out L))))
theorem dR {x:Ins}(hf:m.funcs[g.f]?=some f)(hb:f.blocks[g.b]?=some b)(hx:b.code[g.i]?=some x):(Lc s g fr inp out fu).one m=(Lc s g.nx fr inp out fu).ins m x:=by
 unfold RS.one;rw [show m.funcs[(Lc s g fr inp out fu).g.f]?=some f from hf];simp only;rw [show f.blocks[(Lc s g fr inp out fu).g.b]?=some b from hb];simp only;rw [show b.code[(Lc s g fr inp out fu).g.i]?=some x from hx];rfl
theorem dS (hf:m.funcs[g.f]?=some f)(hb:f.blocks[g.b]?=some b)(hx:b.code.length≤g.i):(Lc s g fr inp out fu).one m=(Lc s g fr inp out fu).fin b.fin:=by
 unfold RS.one;rw [show m.funcs[(Lc s g fr inp out fu).g.f]?=some f from hf];simp only;rw [show f.blocks[(Lc s g fr inp out fu).g.b]?=some b from hb];simp only;rw [show b.code[(Lc s g fr inp out fu).g.i]?=none from Gb hx]
attribute [local irreducible] RS.ins RS.fin RS.one OK VA R0 Rq
theorem VY (hdn:c.dn=false)(hfn:K8.sl cx c.fn m.funcs)(hi:KM.sl cx c.iv inp)(hfx:m.funcs[g.f]?=some f)(hbx:f.blocks[g.b]?=some b)(hci:∀x∈b.code,Qgb m x)(hce:gJ f b.fin)(hgi:g.i≤1000)(hf:fr.length≤900)(hn:g.vals.length≤800000)(hfr:∀x∈fr,x.vals.length≤900000)(hol:out.length≤2000)(hfu:0≤c.fu∧c.fu≤10000000)(hX0:(Lc s g fr inp out fu).one m≠ .crash)(hS:St cx w (rS p c fr g s out L)):
 KK Tryz.prog uu [.pointer (some ⟨p,0,none⟩)] w (qM m p c fr g s inp out fu cx L):=by
 (((have hgf:=(FD.1 hfx).1;have hgb:=(FD.1 hbx).1;unfold qM;refine um KX Tryz.func37 ?_;refine' je;refine' UP;refine' Mm;refine zb hS ?_;intro p1 w1 hS;refine' zn;refine' je;refine' UP;refine' K3;refine zl hS ?_;refine' Ma;refine zl hS ?_;rw [hdn];refine' Sy;refine' je;refine' jg;refine' lE;refine' zn;refine ⟨_,_,rfl,?_⟩;refine' zn;refine' UP;refine Qo ?_;refine zD (ci 11 [10]) ?_;have hS:=hS.drew;refine zl hS ?_;refine' Sn;refine zl hS ?_;refine' Oa;first|(refine' Qd)|(refine' Qi)|(refine' Ac<;>intro hc));all_goals (first|(refine' KU (c:=YW hS);rintro v1 w1 ⟨rfl,hS⟩)|(refine LX (c:=YX hS) (p:=by rintro v9 w9 ⟨rfl,hS⟩;(repeat (first|refine' Qn|refine' Qp|refine fun _=>?_));refine' pe;refine jh Eh Jk (vO (c:=c) (show St cx _ (OM p p1::blk p 66 c.cells::_) from hS.sp)) ?_;rintro u' w' ⟨rfl,hS⟩;refine' ji;refine' lB;exact ⟨_,rfl,rfl, .inl ⟨Jo,hS.sp⟩⟩) (h:=fun _ _ h=>h.elim))));refine' MM;have hmo:c.fu≠c.mo:=DB;refine' Mm;refine zl hS ?_;refine' Sn;refine' NH;refine' UU;refine Mi hS ?_;intro w1 hS;have hS:=hS.ns;refine' U5;refine zl hS ?_;have hS:St cx _ (rS p c.tick fr g s out (OM p p1::L)):=hS.sp;refine' Lf (c:=XA Jo hS);rintro v1 w1 ⟨b9,o9,rfl,hel,hS⟩;refine' OS;refine zC [(0,none),(1,none),(2,none),(3,none),(4,none),(5,none),(6,none),(7,none),(8,none),(9,none),(10,none),(11,none),(12,none),(13,none),(14,none),(15,none),(16,none),(17,none),(18,some (some [0,4,8,11,15,17])),(19,some none)] ?_;have hS:=hS.drew;refine' LP;refine zl hS ?_;refine' Ll;refine' UX;refine' Rz;refine zl hS ?_;refine' M9;refine' TS;refine Qx hS hel rfl fd (Qb fr g) (Qf fr g) rfl ?_;refine' Ll;refine' zi;intro b8 o8 cs8 x8 hat8 hx8 he8;obtain rfl:x8=f:=FY (hx8.symm.trans hfx);obtain ⟨vp8,vr8,vb8,rfl,hp8,hr8,hb8⟩:=QC he8;refine' Ll;refine' Rz;refine' Yy;refine' M9;refine' TS;refine Q5 (j:=1) hS hel rfl fd (Qb fr g) (Qf fr g) rfl ?_;refine' Ll;refine' zi;intro b7 o7 cs7 x7 hat7 hx7 he7;obtain rfl:x7=b:=FY (hx7.symm.trans hbx);obtain ⟨vp7,vc7,u1,u2,u3,u4,u5,rfl,hp7,hc7,hu1,hu2,hu3,hu4,hu5⟩:=OZ he7;refine' U1;intro p3 w1 hS;refine' zt;refine ⟨FG.2 ⟨(by first|(exact Al)|(exact Az)),FG.2 ⟨(by first|(exact Al)|(exact Az)),FG.2 ⟨Ec,FG.2 ⟨(by first|(exact Al)|(exact Az)|(exact iS hS Ja rfl rfl)|(exact ga hS Ja rfl rfl)),FG.2 ⟨Ec,FG.2 ⟨(by first|(exact Al)|(exact AP)|(exact A9)),fun _ h=>(FQ h).elim⟩⟩⟩⟩⟩⟩,?_⟩;refine' L5;refine K1 hS ?_;intro w1 hS;have hS:=hS.ns;refine' LV;refine Qo ?_;refine zD (ci 8 [7]) ?_;have hS:=hS.drew;refine' PG;refine Q5 (j:=2) hS hel rfl fd (Qb fr g) (Qf fr g) rfl ?_;refine' Lw;refine' zL;first|(refine' LG)|(refine' LM)|(refine' Ae<;>intro hc));all_goals (refine' zn)
 all_goals
  first
  | (refine' KN;refine zD (ci 10 [9]) ?_;have hS:=hS.drew;refine zl hS ?_;refine' Lw;refine' PG;refine Q5 (j:=2) hS hel rfl fd (Qb fr g) (Qf fr g) rfl ?_;refine' zi;intro b6 o6 cs6 x6 hat6 hx6 he6;obtain ⟨vr6,va6,rfl,hr6,ha6⟩:=QY he6;have hX:=dR (s:=s) (fr:=fr) (inp:=inp) (out:=out) (fu:=fu) hfx hbx hx6;rw [hX] at hX0 ⊢;obtain ⟨q1,q2,q3,q4⟩:=hci _ (FC hx6);refine' N7;refine LX (c:=Y2 (c:=c.tick) (fu:=fu) (inp:=inp) he6 hi q1 (fun h=>(q2 h).1) q4 hgi hf hn hol hX0 (show St cx _ (rS p c.tick fr g s out _) from hS.sp)) (p:=by rintro v9 w9 hB;obtain ⟨e9,hh,rfl,fr',g',hS⟩:=VA.get hB;(repeat (first|refine' Qn|refine' Qp|refine fun _=>?_));refine' pe;refine jh Eh Jk (vO (c:=c.tick) (show St cx _ (OM p p1::blk p 66 c.tick.cells::_) from hS.sp)) ?_;rintro u' w' ⟨rfl,hS⟩;refine' ji;refine' lB;exact ⟨_,rfl,rfl, .inr ⟨hmo, .inr ⟨e9,hh,fr',g',hS.sp⟩⟩⟩) (h:=?_);rintro u7 w7 hG;refine' zn;have hG:R0 p c.tick s out fu ((Lc s g.nx fr inp out fu).ins m x6) cx (OM p p1::L) u7 w7:=(OK.ok hG).drop;obtain ⟨rfl,hG⟩:=hG.tup;obtain ⟨M,hS,hK⟩:=hG.form;have hS:St cx _ (OM p p1::(L++M)):=St.app hS)
  | (refine' KO;have hX:=dS (s:=s) (fr:=fr) (inp:=inp) (out:=out) (fu:=fu) hfx hbx (by show x7.code.length≤g.i;omega);rw [hX] at hX0 ⊢;obtain ⟨q1,q2,q3,q4⟩:=hce;refine' Mm;refine zl hS ?_;refine' PC;refine' KU (c:=Zc (c:=c.tick) (fu:=fu) (inp:=inp) (e:=x7.fin) ⟨_,_,_,_,_,rfl,hu1,hu2,hu3,hu4,hu5⟩ hi q1 (fun h=>⟨(q3 h).1.1,(q3 h).2.2⟩) (fun h=>⟨(q4 h).1.1,(q4 h).2.2⟩) hf hfr hX0 (show St cx _ (rS p c.tick fr g s out _) from hS.sp));rintro u7 w7 hG;refine' zn;have hG:R0 p c.tick s out fu ((Lc s g fr inp out fu).fin x7.fin) cx (OM p p1::L) u7 w7:=hG.drop;obtain ⟨rfl,hG⟩:=hG.tup;obtain ⟨M,hS,hK⟩:=hG.form;have hS:St cx _ (OM p p1::(L++M)):=St.app hS)
 all_goals (refine' cT;refine jh Eh Jk (VX hS) ?_;rintro u1 w1 ⟨rfl,hS⟩;refine' ji;refine' lB;exact ⟨_,rfl,rfl, .inr ⟨hmo, .inl (hK _ _ (St.app (L:=M) (M:=L) (show St cx _ (L++M) from hS.drop)))⟩⟩)
end
end Go.Proofs.YteflkifmgnpbhaaGreat
namespace Go.Proofs.YteflkifmgnpbhaaGreat
open Go.Lir
def Reg.lim (r:Reg)(q:Int):Int:=if q=r.last then r.used else 16
theorem Qgs (s:PoolS)(k i:Int):(s.give k).word i=s.word i:=by
 unfold PoolS.give;split<;>rfl
theorem vP:∀{s:PoolS},(s.gives l).word i=s.word i:=by
 induction l with
 | nil=>intro s;rfl
 | cons k l ih=>intro s;exact (ih (s:=s.give k)).trans (Qgs s k i)
theorem MN {s:PoolS}:s.isIn i=true↔0≤i∧i<((s.n*16:Nat):Int):=decide_eq_true_iff
theorem qN {s:PoolS}(ok:s.Ok){x:Int}(ha:s.isIn a=true)(i:Int):(s.store a x).word i=if i=a then x else s.word i:=by
 have ha':=MN.1 ha;have hl:=ok.len;unfold PoolS.store;rw [if_pos ha];unfold PoolS.word;by_cases hi:s.isIn i=true
 · have hi':=MN.1 hi
   have e:(⟨s.n,s.ws.set a.toNat x,s.fr⟩:PoolS).isIn i=true:=hi;rw [if_pos e,if_pos hi,iM Jo];by_cases h:i=a
   · subst h;rw [if_pos rfl,if_pos rfl]
   · rw [if_neg Jo,if_neg h]
 · have e:¬(⟨s.n,s.ws.set a.toNat x,s.fr⟩:PoolS).isIn i=true:=hi;rw [if_neg e,if_neg hi,if_neg (fun h:i=a=>hi (by rw [h];exact ha))]
theorem vQ {s:PoolS}(ok:s.Ok){k:Nat}{fr:List Int}(h3:s.take=⟨s.n,SB s.ws k,fr⟩)(hk:k<s.n)(i:Int):s.take.word i=if (k:Int)*16≤i∧i<(k:Int)*16+16 then 0 else s.word i:=by
 have hl:=ok.len;rw [h3];unfold PoolS.word;by_cases hi:s.isIn i=true
 · have hi':=MN.1 hi
   have e:(⟨s.n,SB s.ws k,fr⟩:PoolS).isIn i=true:=hi;rw [if_pos e,if_pos hi,←QiL hl hk,qe _ _ _ _ Jo];by_cases h:(k:Int)*16≤i∧i<(k:Int)*16+16
   · rw [if_pos Jo,if_pos h]
   · rw [if_neg Jo,if_neg h]
 · have e:¬(⟨s.n,SB s.ws k,fr⟩:PoolS).isIn i=true:=hi;rw [if_neg e,if_neg hi];split<;>rfl
theorem gK {s:EstS}(ok:s.Ok){p:PoolS}{m k:Nat}(hm:m<16){r:Reg}:(⟨p,s.rs.set m r⟩:EstS).reg k=if k=m then r else s.reg k:=by
 have:=ok.len;unfold EstS.reg;rw [if_pos Jo,F9,iM Jo];by_cases h:m=k
 · rw [if_pos h,if_pos h.symm]
 · rw [if_neg h,if_neg (I0 h),if_pos Jo]
theorem qO {s:EstS}(ok:s.Ok){k m:Nat}(hk:k<16)(hm:m<16){q:Int}(h1:q∈(s.reg k).pages)(h2:q∈(s.reg m).pages):k=m:=by
 by_cases h:k=m
 · exact h
 exfalso;have hnd:=(HJ ok hm).1;have:=(HG.1 hnd).2.2 q h2 q (Jn.2 ⟨s.reg k,List.mem_eraseIdx_iff_getElem?.2 ⟨k,h,G6 ok hk⟩,h1⟩);exact this rfl
theorem qP {r:Reg}(h:r.pages≠[]):r.last∈r.pages:=by
 unfold Reg.last;rcases HE r.pages with e|⟨l,x,e⟩
 · exact absurd e h
 · rw [e];simp
theorem qQ {s:EstS}(ok:s.Ok){k:Nat}(hk:k<16){q:Int}(h:q∈(s.reg k).pages):0≤q∧q<s.p.n∧q∉s.p.fr:=LA.1 (((HJ ok hk).2 q).1 (H7 _ h))
theorem mA {s:EstS}(ok:s.Ok){k:Nat}(hk:k<16){q:Int}:(s.reg k).lim q≤16:=by
 unfold Reg.lim;split
 · exact (H2 ok hk).2
 · exact Jx _
structure GetF (s:EstS) (m:Nat) (x:Int) (P u:Int):Prop where
 x1:1≤x
 ux:0≤u∧u+x≤16
 v:s.getV m x=P*16+u
 rs:(s.get m x).rs=s.rs.set m ⟨(s.reg m).there,((s.get m x).reg m).pages,u+x⟩
 last:((s.get m x).reg m).last=P
 mem:P∈((s.get m x).reg m).pages
 sub:∀q∈(s.reg m).pages,q∈((s.get m x).reg m).pages
 n:(s.get m x).p.n=s.p.n
 old:P∈(s.reg m).pages→P=(s.reg m).last∧u=(s.reg m).used
 new:P∉(s.reg m).pages→∀k:Nat,k<16→P∉(s.reg k).pages
 w:∀i,¬(P*16≤i∧i<P*16+16)→(s.get m x).p.word i=s.p.word i
 wz:P∉(s.reg m).pages→∀i,P*16≤i∧i<P*16+16→(s.get m x).p.word i=0
 wo:P∈(s.reg m).pages→(s.get m x).p=s.p
theorem kh {s:EstS}(ok:s.Ok){m:Nat}(hm:m<16){x:Int}(hc:s.code m x=0):∃P u,GetF s m x P u:=by
 obtain ⟨h1,h2,h3,h4⟩:=Kl hc;have hu:=H2 ok hm;have hrs:(s.get m x).rs=s.rs.set m ((s.regTo m x).use x):=Fe;have hp:(s.get m x).p=if (s.reg m).more x then s.p.take else s.p:=by unfold EstS.get;rw [if_pos hc]
 have hv:s.getV m x=(s.regTo m x).last*16+(s.regTo m x).used:=by unfold EstS.getV;rw [if_pos hc]
 have hreg:(s.get m x).reg m=(s.regTo m x).use x:=by
  have e:s.get m x=⟨(s.get m x).p,s.rs.set m ((s.regTo m x).use x)⟩:=(by rw [←hrs]);rw [e,gK ok hm,if_pos rfl]
 by_cases hmo:(s.reg m).more x=true
 · rw [if_pos hmo] at hp
   have hto:s.regTo m x=(s.reg m).grow s.p.top:=(by unfold EstS.regTo;rw [if_pos hmo]);rcases IA ok.pok with ⟨e,_⟩|⟨kk,fr,e1,e2,e3⟩
   · exact absurd ⟨hmo,e⟩ h4
   · have hfree:∀k:Nat,k<16→s.p.top∉(s.reg k).pages:=fun k hk hmem=>by
      have:=(qQ ok hk hmem).2.2;exact this (by rw [e2,e1];simp)
     have hnk:kk<s.p.n:=(by have:=ok.pok.rng kk (by rw [e1];simp);omega);refine ⟨s.p.top,0,h2,Jo,by rw [hv,hto];simp [Reg.grow,Reg.last],?_,?_,?_,?_,?_,fun h=>absurd h (hfree m hm),fun _=>hfree,fun i hi=>?_,fun _ i hi=>?_,fun h=>absurd h (hfree m hm)⟩
     · rw [hrs,hreg,hto];simp [Reg.use,Reg.grow]
     · rw [hreg,hto];simp [Reg.use,Reg.grow,Reg.last]
     · rw [hreg,hto];simp [Reg.use,Reg.grow]
     · intro q hq;rw [hreg,hto];simp [Reg.use,Reg.grow,hq]
     · rw [hp];exact J6
     · rw [hp,vQ ok.pok e3 hnk,if_neg (by rw [e2] at hi;exact hi)]
     · rw [hp,vQ ok.pok e3 hnk,if_pos (by rw [e2] at hi;exact hi)]
 · rw [if_neg hmo] at hp
   have hto:s.regTo m x=s.reg m:=(by unfold EstS.regTo;rw [if_neg hmo]);obtain ⟨h5,h6⟩:=KA hmo;have hl:=qP h5;refine ⟨(s.reg m).last,(s.reg m).used,h2,Jo,by rw [hv,hto],?_,?_,?_,?_,by rw [hp],fun _=>⟨rfl,rfl⟩,fun h=>absurd hl h,fun i _=>by rw [hp],fun h=>absurd hl h,fun _=>hp⟩
   · rw [hrs,hreg,hto];rfl
   · rw [hreg,hto];rfl
   · rw [hreg,hto];exact hl
   · intro q hq;rw [hreg,hto];exact hq
theorem GetF.reg {s:EstS}(ok:s.Ok){m k:Nat}(hm:m<16){x P u:Int}(h:GetF s m x P u):(s.get m x).reg k=if k=m then ⟨(s.reg m).there,((s.get m x).reg m).pages,u+x⟩ else s.reg k:=by
 have e:s.get m x=⟨(s.get m x).p,s.rs.set m ⟨(s.reg m).there,((s.get m x).reg m).pages,u+x⟩⟩:=(by rw [←h.rs]);have:=gK ok hm (p:=(s.get m x).p) (k:=k) (r:=⟨(s.reg m).there,((s.get m x).reg m).pages,u+x⟩);rw [←e] at this;exact this
end Go.Proofs.YteflkifmgnpbhaaGreat
namespace Go.Lir
def QW {α:Type}(x:Except Int α):Int:=match x with
 | .error c=>c
 | .ok _=>0
theorem mB {x:Except Int α}(hn:NZ x)(h:QW x=0):∃a,x= .ok a:=by
 cases x with
 | error c=>exact absurd h (hn c rfl)
 | ok a=>exact ⟨a,rfl⟩
section
variable {α:Type}{x:Except Int α}{v:Value}
theorem vR {c:Int}{p:α→Prop}(h:x= .error c):∀a,x= .ok a→p a:=fun a ha=>by rw [h] at ha;cases ha
theorem ki {b:α}{p:α→Prop}(h:x= .ok b)(hp:p b):∀a,x= .ok a→p a:=fun a ha=>by rw [h] at ha;cases ha;exact hp
theorem vS {b:α}{p:α→Prop}(h:∀a,x= .ok a→a=b)(hp:p b):∀a,x= .ok a→p a:=fun a ha=>by rw [h a ha];exact hp
theorem kj {c:Int}(h:x= .error c):(Value.tuple #[v, .int .i64 c])= .tuple #[v, .int .i64 (QW x)]:=by rw [h];rfl
theorem Zd {b:α}(h:x= .ok b):(Value.tuple #[v, .int .i64 0])= .tuple #[v, .int .i64 (QW x)]:=by rw [h];rfl
theorem qR {b:α}{c:Int}(h:x= .ok b)(hc:c=0):(Value.tuple #[v, .int .i64 c])= .tuple #[v, .int .i64 (QW x)]:=by rw [h,hc];rfl
theorem kl {c:Int}(h:QW x=c):(Value.tuple #[v, .int .i64 c])= .tuple #[v, .int .i64 (QW x)]:=by rw [h]
end
def LW (s:JS)(k kd:Int)(held:Bool):Int:=QW (if held then L4 s k kd else K6 s k kd)
section
variable {s:JS}{k kd:Int}{held:Bool}{t:Ty}
theorem mC (h:k<0∨(s.l.length:Int)≤k):LW s k kd held=1:=by
 unfold LW;cases held
 · simp only [FV,if_false,K6,Qy (aB h)];rfl
 · simp only [if_true,L4,K6,Qy (aB h)];rfl
theorem qS (h0:0≤k)(ht:s.l[k.toNat]?=some t)(hk:t.kind≠kd):LW s k kd held=9:=by
 have h1:K6 s k kd= .error 9:=(by unfold K6;rw [Q4 (Yn h0 ht)];exact if_pos hk);unfold LW;cases held
 · simp only [FV,if_false,h1];rfl
 · simp only [if_true,L4,Qy h1];rfl
theorem vT (h0:0≤k)(ht:s.l[k.toNat]?=some t)(hk:t.kind=kd)(hh:K4 s.h t.r=false):LW s k kd true=10:=by
 unfold LW;simp only [if_true,UK h0 ht hk hh];rfl
theorem vU (h0:0≤k)(ht:s.l[k.toNat]?=some t)(hk:t.kind=kd):K6 s k kd= .ok t:=by
 unfold K6;rw [Q4 (Yn h0 ht)];exact if_neg (fun h=>h hk)
theorem Ze (h0:0≤k)(ht:s.l[k.toNat]?=some t)(hk:t.kind=kd)(hh:K4 s.h t.r=true):L4 s k kd= .ok t:=by
 unfold L4;rw [Q4 (vU h0 ht hk)];exact if_neg (by rw [hh];decide)
theorem VZ (h0:0≤k)(ht:s.l[k.toNat]?=some t)(hk:t.kind=kd)(hh:held=true→K4 s.h t.r=true):LW s k kd held=0:=by
 unfold LW;cases held
 · simp only [FV,if_false,vU h0 ht hk];rfl
 · simp only [if_true,Ze h0 ht hk (hh rfl)];rfl
theorem Zf (h:LW s k kd true=0):∃t,L4 s k kd= .ok t:=mB (cN s k kd) (by unfold LW at h;simpa using h)
theorem Qgu (h:LW s k kd false=0):∃t,K6 s k kd= .ok t:=mB (UH s k kd) (by unfold LW at h;simpa using h)
theorem qT (h:LW s k kd true≠0):L4 s k kd= .error (LW s k kd true):=by
 unfold LW at h ⊢;simp only [if_true] at h ⊢
 cases hj:L4 s k kd with
 | error c=>rfl
 | ok a=>rw [hj] at h;exact A1
theorem QcU (h:LW s k kd false≠0):K6 s k kd= .error (LW s k kd false):=by
 unfold LW at h ⊢;simp only [FV,if_false] at h ⊢
 cases hj:K6 s k kd with
 | error c=>rfl
 | ok a=>rw [hj] at h;exact A1
end
def Oh:List Int→Int
 | []=>0
 | x::l=>if x≠0 then x else Oh l
def km (m:Module)(s:JS)(x:Ins):Except Int (List Ty):=match m.funcs[x.k.toNat]? with
 | none=> .error 1
 | some g=>if (x.regs.length:Int)≠g.regs then .error 2 else KL (NB s.h [] x.regs) fun _=>KL (O2 s x.args g.params x.regs) fun _=> .ok (g.results.map (Nc x.regs))
def Lv (m:Module)(f:Fun)(s:JS)(x:Ins):Except Int (List Ty):=
 if x.op=1∨x.op=12 then (.ok [KZ])
 else if x.op=2 then (KL (K6 s x.a 1) fun _=>KL (K6 s x.b 1) fun _=> .ok [KZ])
 else if x.op=3 then (if s.h.length=16 then .error 2 else .ok [.mk 2 s.h.length []])
 else if x.op=4 then (KL (L4 s x.a 2) fun t=>if t.r<f.regs then .error 11 else .ok [])
 else if x.op=5 then (KL (L4 s x.a 2) fun t=>KL (K2 s x.args) fun ts=>if 4<(Ty.mk 3 t.r ts).depth 4 then .error 19 else .ok [.mk 3 t.r ts])
 else if x.op=6 then (KL (L4 s x.a 3) fun t=>KL (Pv t x.k) fun u=> .ok [u])
 else if x.op=7 then (KL (L4 s x.a 3) fun t=>KL (Pv t x.k) fun u=>KL (L6 s x.b) fun v=>if u≠v then .error 9 else .ok [])
 else if x.op=8 then (KL (L4 s x.a 2) fun t=>KL (K6 s x.b 1) fun _=> .ok [.mk 4 t.r []])
 else if x.op=9 then (KL (L4 s x.a 4) fun _=>KL (K6 s x.b 1) fun _=> .ok [KZ])
 else if x.op=10 then (KL (L4 s x.a 4) fun _=>KL (K6 s x.b 1) fun _=>KL (K6 s x.c 1) fun _=> .ok [])
 else if x.op=11 then (KL (L4 s x.a 4) fun _=> .ok [KZ])
 else if x.op=13 then (KL (K6 s x.a 1) fun _=> .ok [])
 else km m s x
section
variable {m:Module}{f:Fun}{s:JS}{x:Ins}
theorem V0 (h:x.op=1∨x.op=12):Lv m f s x=(.ok [KZ]):=by
 unfold Lv;rw [if_pos Jo]
theorem V1 (h:x.op=2):Lv m f s x=(KL (K6 s x.a 1) fun _=>KL (K6 s x.b 1) fun _=> .ok [KZ]):=by
 unfold Lv;rw [if_neg Jo,if_pos Jo]
theorem SE (h:x.op=3):Lv m f s x=(if s.h.length=16 then .error 2 else .ok [.mk 2 s.h.length []]):=by
 unfold Lv;rw [if_neg Jo,if_neg Jo,if_pos Jo]
theorem dT (h:x.op=4):Lv m f s x=(KL (L4 s x.a 2) fun t=>if t.r<f.regs then .error 11 else .ok []):=by
 unfold Lv;rw [if_neg Jo,if_neg Jo,if_neg Jo,if_pos Jo]
theorem kn (h:x.op=5):Lv m f s x=(KL (L4 s x.a 2) fun t=>KL (K2 s x.args) fun ts=>if 4<(Ty.mk 3 t.r ts).depth 4 then .error 19 else .ok [.mk 3 t.r ts]):=by
 unfold Lv;(repeat rw [if_neg Jo]);rw [if_pos Jo]
theorem SF (h:x.op=6):Lv m f s x=(KL (L4 s x.a 3) fun t=>KL (Pv t x.k) fun u=> .ok [u]):=by
 unfold Lv;(repeat rw [if_neg Jo]);rw [if_pos Jo]
theorem gM (h:x.op=7):Lv m f s x=(KL (L4 s x.a 3) fun t=>KL (Pv t x.k) fun u=>KL (L6 s x.b) fun v=>if u≠v then .error 9 else .ok []):=by
 unfold Lv;(repeat rw [if_neg Jo]);rw [if_pos Jo]
theorem V2 (h:x.op=8):Lv m f s x=(KL (L4 s x.a 2) fun t=>KL (K6 s x.b 1) fun _=> .ok [.mk 4 t.r []]):=by
 unfold Lv;(repeat rw [if_neg Jo]);rw [if_pos Jo]
theorem V3 (h:x.op=9):Lv m f s x=(KL (L4 s x.a 4) fun _=>KL (K6 s x.b 1) fun _=> .ok [KZ]):=by
 unfold Lv;(repeat rw [if_neg Jo]);rw [if_pos Jo]
theorem qU (h:x.op=10):Lv m f s x=(KL (L4 s x.a 4) fun _=>KL (K6 s x.b 1) fun _=>KL (K6 s x.c 1) fun _=> .ok []):=by
 unfold Lv;(repeat rw [if_neg Jo]);rw [if_pos Jo]
theorem qV (h:x.op=11):Lv m f s x=(KL (L4 s x.a 4) fun _=> .ok [KZ]):=by
 unfold Lv;(repeat rw [if_neg Jo]);rw [if_pos Jo]
theorem qW (h:x.op=13):Lv m f s x=(KL (K6 s x.a 1) fun _=> .ok []):=by
 unfold Lv;(repeat rw [if_neg Jo]);rw [if_pos Jo]
theorem V4 (h:x.op=14):Lv m f s x=(km m s x):=by
 unfold Lv;(repeat rw [if_neg Jo])
end
section
variable {α β γ δ:Type}{x:Except Int α}{y:Except Int β}{z:Except Int γ}
theorem ko {c:Int}(h:c≠0):Oh (c::l)=c:=if_pos h
theorem vV (l:List Int):Oh (0::l)=Oh l:=if_neg (fun h=>h rfl)
theorem vW (hx:NZ x)(h:Oh [QW x,QW y]≠0)(g:α→β→Except Int δ):KL x (fun a=>KL y (g a))= .error (Oh [QW x,QW y]):=by
 cases x with
 | error c=>rw [show QW (.error c:Except Int α)=c from rfl,ko (hx c rfl)];rfl
 | ok a=>
   rw [show QW (.ok a:Except Int α)=0 from rfl,vV] at h ⊢
   cases y with
   | error c=>
     rw [show QW (.error c:Except Int β)=c from rfl] at h ⊢;by_cases hc:c=0
     · subst hc;exact A1
     · rw [ko hc];rfl
   | ok b=>exact A1
theorem vX (hx:NZ x)(hy:NZ y)(h:Oh [QW x,QW y]=0):∃a b,x= .ok a∧y= .ok b:=by
 cases x with
 | error c=>rw [show QW (.error c:Except Int α)=c from rfl,ko (hx c rfl)] at h;exact absurd h (hx c rfl)
 | ok a=>
   rw [show QW (.ok a:Except Int α)=0 from rfl,vV] at h
   cases y with
   | error c=>rw [show QW (.error c:Except Int β)=c from rfl,ko (hy c rfl)] at h;exact absurd h (hy c rfl)
   | ok b=>exact ⟨a,b,rfl,rfl⟩
theorem qX (hx:NZ x)(hy:NZ y)(d:δ):QW (KL x fun _=>KL y fun _=>(.ok d:Except Int δ))=Oh [QW x,QW y]:=by
 by_cases h:Oh [QW x,QW y]=0
 · obtain ⟨a,b,h1,h2⟩:=vX hx hy h;rw [h,Q4 h1,Q4 h2];rfl
 · rw [vW hx h];rfl
theorem V5 (hx:NZ x)(hy:NZ y)(hz:NZ z)(d:δ):QW (KL x fun _=>KL y fun _=>KL z fun _=>(.ok d:Except Int δ))=Oh [QW x,QW y,QW z]:=by
 cases x with
 | error c=>rw [show QW (.error c:Except Int α)=c from rfl,ko (hx c rfl)];rfl
 | ok a=>
   have:Oh [QW (.ok a:Except Int α),QW y,QW z]=Oh [QW y,QW z]:=rfl;rw [this,←qX hy hz d];rfl
theorem Zg {x:Except Int α}{f:α→Except Int β}{b:β}(h:KL x f= .ok b){p:Prop}(hp:∀a,f a= .ok b→p):p:=by
 obtain ⟨a,_,h2⟩:=Q7 h;exact hp a h2
end
section
variable {s:JS}{k kd:Int}
theorem gN:LW s k kd true=QW (L4 s k kd):=rfl
theorem Zh:LW s k kd false=QW (K6 s k kd):=rfl
end
section
variable {s:JS}{k kd:Int}{m:Module}{f:Fun}{x:Ins}
theorem qY (h:LW s k kd true=0):∃t,0≤k∧k<s.l.length∧s.l[k.toNat]?=some t∧t.kind=kd∧K4 s.h t.r=true∧L4 s k kd= .ok t:=by
 obtain ⟨t,ht⟩:=Zf h;obtain ⟨h1,h2,h3,h4⟩:=Xp ht;have:=(FD.1 h2).1;exact ⟨t,h1,Jo,h2,h3,h4,ht⟩
theorem mD {y:Except Int α}(h:QW y≠0):y= .error (QW y):=by
 cases y with
 | error c=>rfl
 | ok a=>exact A1
theorem qZ {y:Except Int Unit}(hn:NZ y)(h:QW y=0):y= .ok ():=by
 obtain ⟨_,h⟩:=mB hn h;exact h
theorem Zi {c:Int}(h:x.op=6∨x.op=7)(hj:L4 s x.a 3= .error c):Lv m f s x= .error c:=by
 rcases h with h|h
 · rw [SF h,Qy hj]
 · rw [gM h,Qy hj]
theorem Zj {t:Ty}(h:x.op=6∨x.op=7)(hj:L4 s x.a 3= .ok t)(hf:t.l[x.k.toNat]?=none):Lv m f s x= .error 9:=by
 have h1:Pv t x.k= .error 9:=(by unfold Pv;rw [hf]);rcases h with h|h
 · rw [SF h,Q4 hj,Qy h1]
 · rw [gM h,Q4 hj,Qy h1]
theorem QfH {t u:Ty}{k:Int}(h:t.l[k.toNat]?=some u):Pv t k= .ok u:=by unfold Pv;rw [h]
theorem Zk {g:Fun}(h:x.op=14)(hg:m.funcs[x.k.toNat]?=some g):Lv m f s x=(if (x.regs.length:Int)≠g.regs then .error 2 else KL (NB s.h [] x.regs) fun _=>KL (O2 s x.args g.params x.regs) fun _=> .ok (g.results.map (Nc x.regs))):=by
 rw [V4 h];unfold km;rw [hg]
end
theorem vY {n:Nat}{x:Ins}(hF:Qz n x=0)(e:x.op=5):x.args.length≤8:=by
 unfold Qz OP at hF;simp [e] at hF;omega
end Go.Lir
