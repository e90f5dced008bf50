
/- Lemmas of the proof, part 7: what the functions of the program do (contracts), and what follows. -/
import Derived.Test.YteflkifmgnpbhaaGreatZ3
import Derived.Test.YteflkifmgnpbhaaGreatZ6
import Derived.Test.YteflkifmgnpbhaaGreatZ2
import Derived.Test.YteflkifmgnpbhaaGreatZ4
import Derived.Test.YteflkifmgnpbhaaGreatZ5
open Go Go.Lir Go.Proofs.YteflkifmgnpbhaaGreat
variable {α:Type}{vs:List Val}{q es N2 N' most:Nat}{v y:Val}{P:Prop}{b j n e a pages fuel:Int}{l out2 out' xs:List Int}{v1 v2 lv u vf:Value}{c cx:Cx}{w:World}{L L':List Res}{r:Run}{css:List (List Value)}{g:Frm}{x:Ins}{cs:List Value}{X:Stp}{h2 h' h:HpS}{fr':List FrmV}{g':FrmV}{f:Fun}{t:To}{s:MS}
set_option linter.unusedVariables false
set_option linter.unusedSimpArgs false
set_option maxHeartbeats 1000000
namespace Go.Lir
section
variable {p:Prop}
theorem D7 (h:p:=by rw [he];decide):p:=h
theorem Ex (h:p:=by have hS:=GS (T:=3) (es:=1) (css:=Qv [x.b]) hS rfl (by simp [Qv]) rfl;exact AB):p:=h
theorem Ey (h:p:=by have hS:=GS (T:=182) (es:=4) (css:=[h.openV].map Val.cells) hS rfl (by simp [Val.cells]) rfl;exact AB):p:=h
theorem EO (h:p:=by first|exact .inl Jo|exact .inr (by show (h.get v0 x.k).2≠0;omega)):p:=h
theorem EX (h:p:=by have hS:=GS (T:=3) (es:=1) (css:=Qv [x.a]) hS rfl (by simp [Qv]) rfl;exact AB):p:=h
theorem E8 (h:p:=by have hS:=GS (T:=182) (es:=4) (css:=[(h.get v0 n0).1].map Val.cells) hS rfl (by simp [Val.cells]) rfl;exact AB):p:=h
theorem Fa (h:p:=by have hS:=GS (T:=182) (es:=4) (css:=[(h.get v0 x.k).1].map Val.cells) hS rfl (by simp [Val.cells]) rfl;exact AB):p:=h
theorem Fc (h:p:=by first|exact hX.trans (PJ hrs)|exact hX.trans ((Ql hrs).trans (PJ hvs))|exact Cl):p:=h
end
end Go.Lir
namespace Go.Lir
section
variable {p:Prop}
theorem AD (h:p:=by exact ⟨_,rfl,hG⟩):p:=h
theorem AU (h:p:=by exact ⟨_,rfl,Ha (hXl hv) hS fun _ _ hS=>hS.sp⟩):p:=h
theorem AZ (h:p:=by exact ⟨_,rfl,Ha (hX.trans (my he)) hS fun _ _ hS=>hS.sp⟩):p:=h
theorem A0 (h:p:=by exact ⟨_,rfl,Ha (hX.trans (mr he2 he)) hS fun _ _ hS=>hS.sp⟩):p:=h
theorem A2 (h:p:=by exact ⟨_,rfl,Hr (fr':=fr) (g':=g) (h':=h.shut v0) (out':=out) hX hi (Gg N) rfl hS.sp⟩):p:=h
theorem A3 (h:p:=by exact ⟨_,rfl,Ha hX hS fun _ _ hS=>hS.sp⟩):p:=h
theorem A6 (h:p:=by exact Qw (j:=0) hS hel rfl fd (Qu fr g) (QE fr g) rfl):p:=h
theorem Ba (h:p:=by exact ⟨_,rfl,Hr (fr':=fr) (g':=g) (h':=h.set v0 x.k y0) (out':=out) hX hi (Gg N) rfl hS.sp⟩):p:=h
theorem Bg (h:p:=by exact ⟨_,rfl,Hr (fr':=fr) (g':=g.push tv [Lk (h.len v0).1]) (h':=h) (out':=out) (hX.trans (Y7 hk4 he)) hi (Gg N) rfl hS.sp⟩):p:=h
theorem Bh (h:p:=by exact ⟨_,rfl,Im (fr':=fr) (g':=g) (N':=N+1) (hX.trans (Q8S he)) (F6 _) rfl hS.sp⟩):p:=h
theorem Bk (h:p:=by exact ⟨_,rfl,Hr (fr':=fr) (g':=g.push tv [(h.get v0 n0).1]) (h':=h) (out':=out) (hX.trans (Y7 hk4 he)) hi (Gg N) rfl hS.sp⟩):p:=h
theorem Bl (h:p:=by exact ⟨_,rfl,Hr (fr':=fr) (g':=g.push tv [(h.get v0 x.k).1]) (h':=h) (out':=out) hX hi (Gg N) rfl hS.sp⟩):p:=h
theorem Bm (h:p:=by exact ⟨_,rfl,Hr (fr':=fr) (g':=g) (h':=h.set v0 n0 (Lk c0)) (out':=out) (hX.trans (Y7 hk4 he)) hi (Gg N) rfl hS.sp⟩):p:=h
theorem Br (h:p:=by exact ⟨_,rfl,Hr (fr':=fr) (g':=g.push tv [h.arrV v0 n0]) (h':=h.arr v0 n0) (out':=out) (hX.trans (mu he)) hi (F6 _) rfl hS.sp⟩):p:=h
theorem Bt (h:p:=by exact ⟨_,rfl,Im (fr':=fr) (g':=g) (N':=N) (hX.trans (vK hk4 he)) (Gg N) rfl hS.sp⟩):p:=h
theorem Bw (h:p:=by exact ⟨_,rfl,by rw [if_pos Jo];rfl,hS⟩):p:=h
theorem Bz (h:p:=by exact ⟨_,rfl,Hr (fr':=fr) (g':=g.push tv [h.putV v0 3 (Mv vs)]) (h':=h.tuple v0 vs) (out':=out) (hX.trans (mu he)) hi (F6 _) rfl hS.sp⟩):p:=h
theorem BC (h:p:=by exact ⟨_,rfl,(by rw [hgo,if_neg (by simpa using hc)]),hS.sp⟩):p:=h
theorem BE (h:p:=by exact ⟨_,rfl,Im (fr':=fr) (g':=g) (N':=N) hX (Gg N) rfl hS.sp⟩):p:=h
theorem BH (h:p:=by exact ⟨_,rfl,(by rw [hgo,if_pos hc]),hS.sp⟩):p:=h
theorem BZ (h:p:=by exact ⟨_,rfl, .inl ⟨Jo,rfl,tv,hS⟩⟩):p:=h
theorem Cl (h:p:=by exact hX.trans ((Ql hrs).trans ((Ql hvs).trans (if_pos Jo)))):p:=h
theorem Cq (h:p:=by exact ⟨_,rfl,(by rw [hgo,if_neg (fun ha=>hn3 (ha x3 (FC hx3)))]),GY hS.sp hle5⟩):p:=h
theorem CD (h:p:=by exact ⟨_,rfl,(by rw [show gY inp fuel pages=(0,0) from if_neg Jo];rfl),hS.sp⟩):p:=h
theorem CM (h:p:=by exact ⟨_,rfl,by rw [if_neg Jo,hd,tB hx1 hx2 g1 hn (fun h=>of_decide_eq_false hdc h.symm)];rfl,GY hS.sp hL0⟩):p:=h
theorem Dj (h:p:=by exact ⟨_,rfl,by rw [if_neg Jo,hd,tA hx1 hx2 g1 hn];rfl,GY hS.sp hL0⟩):p:=h
theorem Du (h:p:=by exact ⟨_,rfl,c5,a1,a2,y1,y2,hle4.trans hle5,(by rw [hoc,hfl];dsimp only;rw [←e1,←e2];rfl),(by rw [hoc];dsimp only;rw [←e1];exact q1),(by rw [hoc];dsimp only;rw [←e2];exact q2),hS.sp⟩):p:=h
end
end Go.Lir
namespace Go.Lir
section
variable {p:Prop}
theorem Ah (h:p:=by first|exact ⟨_,rfl,Ha (hXl hv) hS fun _ _ hS=>hS.sp⟩|exact ⟨_,rfl,Ha hX hS fun _ _ hS=>hS.sp⟩):p:=h
theorem Aj (h:p:=by first|exact Qw (j:=0) hS hel rfl fd (Qu fr g) (QE fr g) rfl|exact Qw (j:=1) hS hel rfl fd (Qu fr g) (QE fr g) rfl):p:=h
theorem Am (h:p:=by first|exact ⟨_,rfl,Ha (hXl hv) hS fun _ _ hS=>hS.sp⟩|exact ⟨_,rfl,Ha hX hS fun _ _ hS=>hS.sp⟩|exact ⟨_,rfl,Ha (hX.trans (my he)) hS fun _ _ hS=>hS.sp⟩|exact ⟨_,rfl,Ha (hX.trans (mr he2 he)) hS fun _ _ hS=>hS.sp⟩|exact ⟨_,rfl,Hr (fr':=fr) (g':=g) (h':=h.shut v0) (out':=out) hX hi (Gg N) rfl hS.sp⟩|exact ⟨_,rfl,Hr (fr':=fr) (g':=g) (h':=h.set v0 x.k y0) (out':=out) hX hi (Gg N) rfl hS.sp⟩|exact ⟨_,rfl,Hr (fr':=fr) (g':=g) (h':=h.set v0 n0 (Lk c0)) (out':=out) (hX.trans (Y7 hk4 he)) hi (Gg N) rfl hS.sp⟩|exact ⟨_,rfl,Hr (fr':=fr) (g':=g.push tv [(h.get v0 x.k).1]) (h':=h) (out':=out) hX hi (Gg N) rfl hS.sp⟩|exact ⟨_,rfl,Hr (fr':=fr) (g':=g.push tv [(h.get v0 n0).1]) (h':=h) (out':=out) (hX.trans (Y7 hk4 he)) hi (Gg N) rfl hS.sp⟩|exact ⟨_,rfl,Hr (fr':=fr) (g':=g.push tv [Lk (h.len v0).1]) (h':=h) (out':=out) (hX.trans (Y7 hk4 he)) hi (Gg N) rfl hS.sp⟩|exact ⟨_,rfl,Hr (fr':=fr) (g':=g.push tv [h.putV v0 3 (Mv vs)]) (h':=h.tuple v0 vs) (out':=out) (hX.trans (mu he)) hi (F6 _) rfl hS.sp⟩|exact ⟨_,rfl,Hr (fr':=fr) (g':=g.push tv [h.arrV v0 n0]) (h':=h.arr v0 n0) (out':=out) (hX.trans (mu he)) hi (F6 _) rfl hS.sp⟩|exact ⟨_,rfl,Im (fr':=fr) (g':=g) (N':=N) hX (Gg N) rfl hS.sp⟩|exact ⟨_,rfl,Im (fr':=fr) (g':=g) (N':=N) (hX.trans (vK hk4 he)) (Gg N) rfl hS.sp⟩):p:=h
theorem Ap (h:p:=by first|exact ⟨_,rfl, .inr (.inl ⟨Jo,Jo,rfl,hS⟩)⟩|exact ⟨_,rfl, .inl ⟨Jo,Jo,rfl,hS.sp⟩⟩|exact ⟨_,rfl, .inr (.inr ⟨Jo,rfl,hS.sp⟩)⟩):p:=h
theorem Aq (h:p:=by first|exact ⟨_,rfl,Ha (hXl hv) hS fun _ _ hS=>hS.sp⟩|exact ⟨_,rfl,Ha hX hS fun _ _ hS=>hS.sp⟩|exact ⟨_,rfl,Ha (hX.trans (my he)) hS fun _ _ hS=>hS.sp⟩|exact ⟨_,rfl,Ha (hX.trans (mr he2 he)) hS fun _ _ hS=>hS.sp⟩|exact ⟨_,rfl,Hr (fr':=fr) (g':=g) (h':=h.shut v0) (out':=out) hX hi (Gg N) rfl hS.sp⟩|exact ⟨_,rfl,Hr (fr':=fr) (g':=g) (h':=h.set v0 x.k y0) (out':=out) hX hi (Gg N) rfl hS.sp⟩|exact ⟨_,rfl,Hr (fr':=fr) (g':=g) (h':=h.set v0 n0 (Lk c0)) (out':=out) (hX.trans (Y7 hk4 he)) hi (Gg N) rfl hS.sp⟩|exact ⟨_,rfl,Hr (fr':=fr) (g':=g.push tv [(h.get v0 x.k).1]) (h':=h) (out':=out) hX hi (Gg N) rfl hS.sp⟩):p:=h
theorem Av (h:p:=by first|exact ⟨_,rfl,Ha (hXl hv) hS fun _ _ hS=>hS.sp⟩|exact ⟨_,rfl,Ha hX hS fun _ _ hS=>hS.sp⟩|exact ⟨_,rfl,Ha (hX.trans (my he)) hS fun _ _ hS=>hS.sp⟩|exact ⟨_,rfl,Ha (hX.trans (mr he2 he)) hS fun _ _ hS=>hS.sp⟩|exact ⟨_,rfl,Hr (fr':=fr) (g':=g) (h':=h.shut v0) (out':=out) hX hi (Gg N) rfl hS.sp⟩|exact ⟨_,rfl,Hr (fr':=fr) (g':=g) (h':=h.set v0 x.k y0) (out':=out) hX hi (Gg N) rfl hS.sp⟩|exact ⟨_,rfl,Hr (fr':=fr) (g':=g) (h':=h.set v0 n0 (Lk c0)) (out':=out) (hX.trans (Y7 hk4 he)) hi (Gg N) rfl hS.sp⟩|exact ⟨_,rfl,Hr (fr':=fr) (g':=g.push tv [(h.get v0 x.k).1]) (h':=h) (out':=out) hX hi (Gg N) rfl hS.sp⟩|exact ⟨_,rfl,Hr (fr':=fr) (g':=g.push tv [(h.get v0 n0).1]) (h':=h) (out':=out) (hX.trans (Y7 hk4 he)) hi (Gg N) rfl hS.sp⟩):p:=h
end
end Go.Lir
namespace Go.Lir
theorem QfC (h:vs[q]?=some v):(vs.take q).map Val.n++[v.n]=(vs.take (q+1)).map Val.n:=by
 obtain ⟨hq,rfl⟩:=FD.1 h;rw [Jc hq,Ga];rfl
theorem r6:false=true↔false=true∧P:=by simp
theorem r7 (h:P):true=true↔true=true∧P:=by simp [h]
theorem r8 (h:¬P):false=true↔true=true∧P:=by simp [h]
theorem r9 {b:Bool}(hb:b=true↔∀x∈vs.take q,x.kind=1)(h:vs[q]?=some v):∀b',(b'=true↔b=true∧v.kind=1)→(b'=true↔∀x∈vs.take (q+1),x.kind=1):=by
 intro b' hb';obtain ⟨hq,rfl⟩:=FD.1 h;rw [hb',hb,Jc hq];simp only [List.forall_mem_append,Gx,forall_eq]
end Go.Lir
namespace Go.Proofs.YteflkifmgnpbhaaGreat
open Go.Lir
attribute [local irreducible] LC.wp Q0 Qr Qj Lo QJ LO.wp Q6 Calls
variable {cx:Cx}{w:World}{L:List Res}{p:Nat}{z:GZ}{fr:List FrmV}{g:FrmV}{lv:Value}{left:Int}
attribute [local irreducible] Frm.val Frm.num Frm.args Frm.rgs Frm.reg
theorem ZW (hl1:l.length≤100000)(hf:fr.length≤1000)(hl:KM.sl cx v1 l)(hS:St cx w (gL p z lv left fr g L)):KK Tryz.prog uG [.pointer (some ⟨p,0,none⟩),v1] w fun u w'=>
 (∃(vs:List Int) (v:Value),g.abs.rgs l=some vs∧vs.length=l.length∧oneC v=true∧u= .tuple #[v, .bool true]∧St cx w' (gL p z lv left fr g (sl 3 1 v (Qv vs)::L)))∨(g.abs.rgs l=none∧u= .tuple #[.slice none 0 0, .bool false]∧St cx w' (gL p z lv left fr g L)):=by
 have hlen:=hl.len;refine KY KX Tryz.func124 ?_;refine' NW;refine' Og;refine' Lf (c:=SO hf hS);rintro v1 w1 ⟨b9,o9,rfl,hel,hS⟩;refine' ML;refine Q5 hS hel rfl fd (Qu fr g) (QE fr g) rfl ?_;refine' UY;have hS:St cx _ (gL p z lv left fr g (sl 3 1 (.slice none 0 0) (Qv [])::L)):=(by have hS:=hS.nil (T:=3) (es:=1);exact AB);refine zo [1,7] (fun A ρ' w'=>∃(q:Nat) (vo:Value) (out:List Int),KR ρ' A∧KR ρ' [(6,vo),(8, .int .i64 q)]∧(q≤l.length)∧(out.length=q)∧(oneC vo=true)∧(g.abs.rgs l=(g.abs.rgs (l.drop q)).map fun r=>out++r)∧St cx w' (gL p z lv left fr g (sl 3 1 vo (Qv out)::L))) (fun ρ' _=>(l.length - iv (ρ' 8)).toNat) ?_ ?_
 · exact ⟨0, .slice none 0 0,[],zh,zh,Jo,rfl,rfl,jZ,hS.sp⟩
 rintro ρ w1 ⟨q,vo,out,hA,hρ,hq,hol,hvo,hd,hS⟩;obtain ⟨ρ,rfl⟩:=KS hA hρ;refine' Tc;refine' Ab<;>intro hc
 · skip
   ((refine' MF;refine' PB;refine' zi;intro b1 o1 cs1 x1 hat1 hx1 he1;obtain rfl:=QB he1;refine' N8;first|(refine' LG)|(refine' LM)|(refine' Ae<;>intro hc));all_goals (refine' Mr;refine' MT;(first|refine' KP|(refine' KQ;refine' zi;intro b2 o2 cs2 x2 hat2 hx2 he2;obtain rfl:=QB he2));refine' cV;refine' MT;(first|refine' KP|(refine' KQ;refine QL hS vw (i:=3) rfl (FF _) ?_));first|refine' KP|(refine' KQ;(first|(refine' MV)|(refine' Nu)|(refine' Ag<;>intro hc)))));all_goals (refine' LH)
   all_goals
    first
    | (refine' KN;all_goals (refine' Sp);all_goals (exact ⟨_,rfl, .inr ⟨vH hd hx1 (VI (by first|exact .inl Jo|(have hxx:=FY (hx1.symm.trans hx2);exact .inr (by show (g.regs.length:Int)≤x1;omega)))),rfl,hS.sp⟩⟩))
    | (refine' KO;refine' KV)
   have hxx:=FY (hx1.symm.trans hx2);obtain ⟨v9,hv9⟩:∃v,g.regs[x1.toNat]?=some v:=⟨_,FB Jo⟩;have hvg:=dJ (g:=g.abs) Jo hv9;refine' RX;refine' zm;((refine' zi;intro b3 o3 cs3 x3 hat3 hx3 he3;((obtain rfl:=QB he3))));refine' N8;rw [←FY (hx1.symm.trans hx3)];refine QN hS vw rfl (i:=3) rfl Jo DQ ?_;rw [FF];intro b4 o4 hel4;refine Qx hS hel4 rfl (i:=3) rfl (FF _) (show (Qv g.regs)[x1.toNat]?=some [.int .i64 v9] by rw [FW,hv9];rfl) rfl ?_;refine LK hS [_] ?_;intro b1 w1 hS;((refine Ow SC (.inl Tg) hS vw vw (i:=6) rfl (hS.srcB (i:=0) rfl Jr DH) DS ?_;intro v7 w7 hS;have hS:=hS.ns;have ho7:=hS.oneC (i:=6) rfl));refine' UZ;((exact ⟨⟨q+1,v7,out++[v9],zh,zh,Jo,by rw [FH,hol];rfl,ho7,VE hd hx1 hvg,by rw [Qv,Ga];exact hS.sp⟩,Qc Jo⟩))
 · skip;refine' L7;refine' Lu;refine' YB;(first|(exact ⟨_,rfl, .inr ⟨vH hd hx1 (VI (by exact .inl Jo)),rfl,hS.sp⟩⟩)|(exact ⟨_,rfl, .inl ⟨out,_,Y5 hd Jo,Jo,hvo,rfl,hS.sp⟩⟩))
theorem ZX {j:Nat}(hf:fr.length≤1000)(hn:g.vals.length+vs.length≤1000000)(hS:St cx w (gL p z lv left fr g L))(hj:nth L j=some (sl 182 4 v2 (vs.map Val.cells))):
 KK Tryz.prog uF [.pointer (some ⟨p,0,none⟩),v2] w fun u w'=>u= .int .i64 0∧∃tv,St cx w' (gL p z lv left fr (g.push tv vs) L):=by
 refine KY KX Tryz.func120 ?_;refine' Og;refine' Lf (c:=SO hf hS);rintro v1 w1 ⟨b1,o1,rfl,hel1,hS⟩;refine' zm;refine' Lf (c:=SO hf hS);rintro v2 w1 ⟨b2,o2,rfl,hel2,hS⟩;refine' ML;((refine Q5 hS hel2 rfl fd (Qu fr g) (QE fr g) rfl ?_));refine' zm;((refine Ow mU (.inl mV) hS vw vw (i:=2) rfl (hS.srcS (i:=j+5) hj (vF vs)) Fp ?_;intro v7 w7 hS;have hS:=hS.ns;have ho7:=hS.oneC (i:=2) rfl;rw [←Ga] at hS));refine' ML;refine RL hS hel1 rfl vw fd (Qu fr g) (QE fr g) Jo ho7 (Y4 (g':=g.push v7 vs) rfl) ?_;intro w8 hS;have hS:=hS.ns;refine' zn;refine' Lh;((exact ⟨_,rfl,rfl,v7,hS.sp⟩))
theorem ZY (hl1:l.length≤100000)(hf:fr.length≤1000)(hl:KM.sl cx v1 l)(hS:St cx w (gL p z lv left fr g L)):KK Tryz.prog me [.pointer (some ⟨p,0,none⟩),v1] w fun u w'=>
 (∃(vs:List Val) (v:Value) (b:Bool),g.abs.args l=some vs∧vs.length=l.length∧oneC v=true∧(b=true↔∀x∈vs,x.kind=1)∧u= .tuple #[v, .bool b]∧St cx w' (gL p z lv left fr g (sl 2 1 v (Qv (vs.map Val.n))::L)))∨(g.abs.args l=none∧u= .tuple #[.slice none 0 0, .bool false]∧St cx w' (gL p z lv left fr g L)):=by
 have hlen:=hl.len;refine KY KX Tryz.func121 ?_;refine' NW;refine zM [] (fun A ρ' w'=>∃(vs:List Val) (v3:Value) (b:Bool),KR ρ' A∧KR ρ' [(6,v3),(7, .bool b)]∧(vs.length≤100000)∧((g.abs.args l=some vs∧vs.length=l.length∧b=true)∨(g.abs.args l=none∧vs=[]∧v3= .slice none 0 0∧b=false))∧St cx w' (gL p z lv left fr g (sl 182 4 v3 (vs.map Val.cells)::L))) ?_ ?_
 · skip
   refine' NJ;refine' KU (c:=xM hl1 hf hl hS);rintro v9 w9 hv;rcases hv with ⟨vs,v3,hvs,hvl,ho3,rfl,hS⟩|⟨hvs,rfl,hS⟩
   all_goals (refine' S5;refine' K5;(first|(exact ⟨vs,v3,true,zh,zh,Jo, .inl ⟨hvs,hvl,rfl⟩,hS.sp⟩)|(exact ⟨[], .slice none 0 0,false,zh,zh,Js, .inr ⟨hvs,rfl,rfl,rfl⟩,by have hS:=hS.nil (T:=182) (es:=4);exact hS.sp⟩)))
 rintro ρ w1 ⟨vs,v3,b,hA,hρ,hvl,hvs,hS⟩;obtain ⟨ρ,rfl⟩:=KS hA hρ;refine' Mf;refine' M8;have hS:St cx _ (gL p z lv left fr g (sl 2 1 (.slice none 0 0) (Qv [])::sl 182 4 v3 (vs.map Val.cells)::L)):=E6;refine zo [6] (fun A ρ' w'=>∃(q:Nat) (vo:Value) (b1:Bool),KR ρ' A∧KR ρ' [(7, .bool b1),(8,vo),(9, .int .i64 q)]∧(q≤vs.length)∧(oneC vo=true)∧(q=0→vo= .slice none 0 0∧b1=b)∧(0<vs.length→(b1=true↔∀x∈vs.take q,x.kind=1))∧St cx w' (gL p z lv left fr g (sl 2 1 vo (Qv ((vs.take q).map Val.n))::sl 182 4 v3 (vs.map Val.cells)::L))) (fun ρ' _=>(vs.length - iv (ρ' 9)).toNat) ?_ ?_
 · exact ⟨0, .slice none 0 0,b,zh,zh,Jo,rfl,(fun _=>⟨rfl,rfl⟩),(fun h0=>by rcases hvs with ⟨_,_,rfl⟩|⟨_,rfl,_⟩;(simp);simp at h0),hS.sp⟩
 rintro ρ w1 ⟨q,vo,b1,hA,hρ,hq,hvo,hv0,hb,hS⟩;obtain ⟨ρ,rfl⟩:=KS hA hρ;refine' PB;refine QL hS vw (i:=6) rfl (FF _) ?_;refine' RU;refine' Ab<;>intro hc
 · skip
   refine' MF;refine zM [6,8,9] (fun A ρ' w'=>∃(b2:Bool),KR ρ' A∧KR ρ' [(7, .bool b2)]∧(q<vs.length)∧(b2=true↔∀x∈vs.take (q+1),x.kind=1)∧St cx w' (gL p z lv left fr g (sl 2 1 vo (Qv ((vs.take q).map Val.n))::sl 182 4 v3 (vs.map Val.cells)::L))) ?_ ?_
   · skip;obtain ⟨v9,hv9⟩:∃v,vs[q]?=some v:=⟨_,FB Jo⟩;have hrow:(vs.map Val.cells)[q]?=some v9.cells:=(by rw [FW,hv9];rfl);have hbq:=hb Jo;cases b1;all_goals (refine' Mj;refine' Mr;refine' MT;(first|refine' KP|(refine' KQ;refine PQ hS vw rfl (i:=6) rfl DQ ?_;rw [FF];intro b4 o4 hel4));refine' NC;(first|refine' KP|(refine' KQ;refine Q5 hS hel4 rfl (i:=6) rfl (FF _) hrow rfl ?_));first|refine' KP|(refine' KQ;(first|(refine' Qd)|(refine' Qi)|(refine' Ac<;>intro hc))));all_goals (refine' MK;refine' K5;exact ⟨_,zh,zh,Jo,(by first|exact r9 hbq hv9 _ r6|exact r9 hbq hv9 _ (r7 hc)|exact r9 hbq hv9 _ (r8 hc)),hS.sp⟩)
   rintro ρ w1 ⟨b2,hA,hρ,hq1,hb2,hS⟩;obtain ⟨ρ,rfl⟩:=KS hA hρ;obtain ⟨v9,hv9⟩:∃v,vs[q]?=some v:=⟨_,FB hq1⟩;have hrow:(vs.map Val.cells)[q]?=some v9.cells:=(by rw [FW,hv9];rfl);refine' RX;refine PQ hS vw rfl (i:=6) rfl DQ ?_;rw [FF];intro b5 o5 hel5;refine' M6;refine Q5 hS hel5 rfl (i:=6) rfl (FF _) hrow rfl ?_;refine LK hS [_] ?_;intro b1 w1 hS;refine Ow YT (.inl aX) hS vw vw (i:=6) rfl (hS.srcB (i:=0) rfl Jr DH) (by simp only [FF,FP,F8,GM];omega) ?_;intro v7 w7 hS;have hS:=hS.ns;have ho7:=hS.oneC (i:=6) rfl;refine' UZ;(exact ⟨⟨q+1,v7,b2,zh,zh,Jo,ho7,(fun h=>absurd h Jo),(fun _=>hb2),by rw [←QfC hv9,Qv,Ga];exact hS.sp⟩,Qc Jo⟩)
 · skip;refine' L7;refine' Lu;refine' O7;(obtain rfl:q=vs.length:=DB;rw [ID] at hS hb;rcases hvs with ⟨h1,h2,h3⟩|⟨h1,rfl,h3,h4⟩;exact ⟨_,rfl, .inl ⟨vs,_,_,h1,h2,hvo,(by by_cases h0:0<vs.length;exact hb h0;obtain ⟨_,e2⟩:=hv0 Jo;rw [e2,h3,GP.1 (show vs.length=0 by omega)];simp),rfl,hS.sp⟩⟩;obtain ⟨e1,e2⟩:=hv0 rfl;rw [e1,e2,h4];exact ⟨_,rfl, .inr ⟨h1,rfl,hS.sp⟩⟩)
end Go.Proofs.YteflkifmgnpbhaaGreat
namespace Go.Lir
section
theorem St.lent {r:Res}(h:St c w (r::L)):∃c' F,c.Le c'∧St c' w L∧r.A c'.H0 F∧(∀b,F b→c'.K b)∧∀{w':World}{L':List Res},St c' w' L'→St c w' (r::L'):=by
 obtain ⟨ok,F,⟨F1,F2,h1,h2,h3,h4⟩,hd⟩:=h;have hle:c.Le ⟨c.base,fun b=>c.K b∨F1 b,w.heap⟩:=⟨rfl,fun b hb=>⟨.inl hb,ok.same b hb⟩,ok.size,ok.lt⟩;refine ⟨⟨c.base,fun b=>c.K b∨F1 b,w.heap⟩,F1,hle,⟨⟨ok.os,ok.tape,ok.output,F6 _,fun b hb=>hb.elim (fun hb=>HB (ok.lt b hb) ok.size) (r.lt h1 b),fun b _=>rfl⟩,F2,h2,?_⟩,h1,fun b hb=> .inr hb,?_⟩
 · rintro b hb (hk|hk)
   · exact hd b ((h4 b).2 (.inr hb)) hk
   · exact h3 b hk hb
 · intro w' L' hS
   have hw:=hS.weak hle;obtain ⟨ok',F',hF',hd'⟩:=hS;refine ⟨hw.1,fun b=>F1 b∨F' b,⟨F1,F',r.loc h1 fun b hb _=>ok'.same b (.inr hb),hF',fun b hb hb'=>hd' b hb' (.inr hb),fun b=>HL⟩,?_⟩;rintro b (hb|hb) hk
   · exact hd b ((h4 b).2 (.inl hb)) hk
   · exact hd' b hb (.inl hk)
theorem St.lend {r:Rep α}{T:TypeId}{es:Nat}{v:Value}{css:List (List Value)}{l:List α}(h:St c w (sl T es v css::L))(hl:r.ls c css l)(hes:r.es=es)(hm:l.length≤140737488355328):
 ∃c',c.Le c'∧St c' w L∧r.sl c' v l∧∀{w':World}{L':List Res},St c' w' L'→St c w' (sl T es v css::L'):=by
 subst hes;obtain ⟨c',F,h1,h2,h3,h4,h5⟩:=h.lent;exact ⟨c',h1,h2,⟨css,Ir (Sl.toR h3) fun b _ hb=>h4 b hb,hl.up h1,hm⟩,h5⟩
abbrev KJ:=@St.lend
end
section
theorem sa {k:Int}(h:g.args [k]=some vs):∃v,g.val k=some v∧vs=[v]:=by
 unfold Frm.args at h
 cases hv:g.val k with
 | none=>rw [hv] at h;cases h
 | some v=>rw [hv] at h;exact ⟨v,rfl,(FY h).symm⟩
theorem sb {k:Int}(h:g.args [k]=none):g.val k=none:=by
 unfold Frm.args at h
 cases hv:g.val k with
 | none=>rfl
 | some v=>rw [hv] at h;cases h
theorem W4 {k:Int}(h:g.args [k,j]=some vs):∃v u,g.val k=some v∧g.val j=some u∧vs=[v,u]:=by
 rw [Frm.args] at h
 cases hv:g.val k with
 | none=>rw [hv] at h;cases h
 | some v=>
   rw [hv] at h
   cases ha:g.args [j] with
   | none=>rw [ha] at h;cases h
   | some l=>
     rw [ha] at h;obtain ⟨u,hu,rfl⟩:=sa ha;exact ⟨v,u,rfl,hu,(FY h).symm⟩
theorem Qg2 {k:Int}(h:g.args [k,j]=none):g.val k=none∨g.val j=none:=by
 rw [Frm.args] at h
 cases hv:g.val k with
 | none=>exact .inl rfl
 | some v=>
   rw [hv] at h
   cases ha:g.args [j] with
   | none=>exact .inr (sb ha)
   | some l=>rw [ha] at h;cases h
end
end Go.Lir
namespace Go.Proofs.YteflkifmgnpbhaaGreat
open Go.Lir
attribute [local irreducible] LC.wp Q0 Qr Qj Lo QJ LO.wp Q6 Calls
@[reducible] def gX (p:Nat)(z:GZ)(fr:List FrmV)(g:FrmV)(N:Nat)(h:HpS)(out:List Int)(L:List Res):List Res:=PM z N (.pointer (some ⟨p,1,none⟩)) h::sl 119 5 z.fv (Pb fr g)::sl 182 4 g.vv (g.vals.map Val.cells)::sl 3 1 g.rv (Qv g.regs)::LF FrmV.res1 fr::sl 2 1 z.ov (Qv out)::L
variable {cx:Cx}{w:World}{L:List Res}{p N:Nat}{z:GZ}{fr:List FrmV}{g:FrmV}{h:HpS}{out:List Int}
theorem PN (hS:St cx w (gX p z fr g N h out L)):∃lv rv,HpO N h rv∧St cx w (gL p z lv h.left fr g (sl 131 4 lv (rv.map RgnV.cells)::LF (RgnV.res H1) rv::sl 2 1 z.ov (Qv out)::L)):=by
 obtain ⟨b,lv,rv,he,ho,hS⟩:=rZ hS;cases he;exact ⟨lv,rv,ho,(hS.subP DF)⟩
theorem QX {rv:List RgnV}(ho:HpO N h rv)(hS:St cx w (gL p z lv h.left fr g (sl 131 4 lv (rv.map RgnV.cells)::LF (RgnV.res H1) rv::sl 2 1 z.ov (Qv out)::L))):St cx w (gX p z fr g N h out L):=
 Qm ho (hS.subP DF)
attribute [local irreducible] Frm.val Frm.num Frm.args Frm.rgs Frm.reg
theorem W5 {cx:Cx}:KM.ls cx (Qv l) l:=⟨by unfold Qv;simp,fun k x hx=>⟨[.int .i64 x],by unfold Qv;rw [FW,hx];rfl,rfl⟩⟩
theorem Pf (e:Int)(hS:St cx w (gX p z fr g N h out L)):KK Tryz.prog uw [.pointer (some ⟨p,0,none⟩), .int .i64 e] w fun u w'=>u= .int .i64 1∧St cx w' (gX p (z.end e) fr g N h out L):=by
 obtain ⟨lv,rv,ho,hS⟩:=PN hS;refine (ZV e hS).mono ?_;rintro u w' ⟨rfl,hS⟩;exact ⟨rfl,QX (z:=z.end e) ho hS⟩
theorem kR (hl1:l.length≤100000)(hf:fr.length≤1000)(hl:KM.sl cx v1 l)(hS:St cx w (gX p z fr g N h out L)):KK Tryz.prog pS [.pointer (some ⟨p,0,none⟩),v1] w fun u w'=>
 (∃(vs:List Val) (v:Value),g.abs.args l=some vs∧vs.length=l.length∧oneC v=true∧u= .tuple #[v, .bool true]∧St cx w' (gX p z fr g N h out (sl 182 4 v (vs.map Val.cells)::L)))∨(g.abs.args l=none∧u= .tuple #[.slice none 0 0, .bool false]∧St cx w' (gX p z fr g N h out L)):=by
 obtain ⟨lv,rv,ho,hS⟩:=PN hS;refine (xM hl1 hf hl hS).mono ?_;rintro u w' (⟨vs,v,h1,h2,h3,h4,hS⟩|⟨h1,h2,hS⟩)
 · exact .inl ⟨vs,v,h1,h2,h3,h4,QX ho (hS.subP DF)⟩
 · exact .inr ⟨h1,h2,QX ho (hS.subP DF)⟩
theorem bD (hl1:l.length≤100000)(hf:fr.length≤1000)(hl:KM.sl cx v1 l)(hS:St cx w (gX p z fr g N h out L)):KK Tryz.prog uG [.pointer (some ⟨p,0,none⟩),v1] w fun u w'=>
 (∃(vs:List Int) (v:Value),g.abs.rgs l=some vs∧vs.length=l.length∧oneC v=true∧u= .tuple #[v, .bool true]∧St cx w' (gX p z fr g N h out (sl 3 1 v (Qv vs)::L)))∨(g.abs.rgs l=none∧u= .tuple #[.slice none 0 0, .bool false]∧St cx w' (gX p z fr g N h out L)):=by
 obtain ⟨lv,rv,ho,hS⟩:=PN hS;refine (ZW hl1 hf hl hS).mono ?_;rintro u w' (⟨vs,v,h1,h2,h3,h4,hS⟩|⟨h1,h2,hS⟩)
 · exact .inl ⟨vs,v,h1,h2,h3,h4,QX ho (hS.subP DF)⟩
 · exact .inr ⟨h1,h2,QX ho (hS.subP DF)⟩
theorem W6 (hl1:l.length≤100000)(hf:fr.length≤1000)(hl:KM.sl cx v1 l)(hS:St cx w (gX p z fr g N h out L)):KK Tryz.prog me [.pointer (some ⟨p,0,none⟩),v1] w fun u w'=>
 (∃(vs:List Val) (v:Value) (b:Bool),g.abs.args l=some vs∧vs.length=l.length∧oneC v=true∧(b=true↔∀x∈vs,x.kind=1)∧u= .tuple #[v, .bool b]∧St cx w' (gX p z fr g N h out (sl 2 1 v (Qv (vs.map Val.n))::L)))∨(g.abs.args l=none∧u= .tuple #[.slice none 0 0, .bool false]∧St cx w' (gX p z fr g N h out L)):=by
 obtain ⟨lv,rv,ho,hS⟩:=PN hS;refine (ZY hl1 hf hl hS).mono ?_;rintro u w' (⟨vs,v,b,h1,h2,h3,h4,h5,hS⟩|⟨h1,h2,hS⟩)
 · exact .inl ⟨vs,v,b,h1,h2,h3,h4,h5,QX ho (hS.subP DF)⟩
 · exact .inr ⟨h1,h2,QX ho (hS.subP DF)⟩
theorem kS {k:Int}(hf:fr.length≤1000)(hS:St cx w (sl 3 1 v1 (Qv [k])::gX p z fr g N h out L)):KK Tryz.prog pS [.pointer (some ⟨p,0,none⟩),v1] w fun u w'=>
 (∃(v:Val) (sv:Value),g.abs.val k=some v∧oneC sv=true∧u= .tuple #[sv, .bool true]∧St cx w' (gX p z fr g N h out (sl 182 4 sv ([v].map Val.cells)::L)))∨(g.abs.val k=none∧u= .tuple #[.slice none 0 0, .bool false]∧St cx w' (gX p z fr g N h out L)):=by
 obtain ⟨c',hle,hS,hsl,hback⟩:=KJ (r:=KM) (l:=[k]) hS W5 rfl Js;refine (kR Js hf hsl hS).mono ?_;rintro u w' (⟨vs,v,h1,h2,h3,rfl,hS⟩|⟨h1,rfl,hS⟩)
 · obtain ⟨v0,h5,rfl⟩:=sa h1;exact .inl ⟨v0,v,h5,h3,rfl,(hback hS).drop⟩
 · exact .inr ⟨sb h1,rfl,(hback hS).drop⟩
theorem ZZ {k:Int}(hf:fr.length≤1000)(hS:St cx w (sl 3 1 v1 (Qv [k])::gX p z fr g N h out L)):KK Tryz.prog me [.pointer (some ⟨p,0,none⟩),v1] w fun u w'=>
 (∃(n:Int) (sv:Value),g.abs.num k=some n∧oneC sv=true∧u= .tuple #[sv, .bool true]∧St cx w' (gX p z fr g N h out (sl 2 1 sv (Qv [n])::L)))∨(g.abs.num k=none∧∃sv,u= .tuple #[sv, .bool false]∧St cx w' (gX p z fr g N h out L)):=by
 obtain ⟨c',hle,hS,hsl,hback⟩:=KJ (r:=KM) (l:=[k]) hS W5 rfl Js;refine (W6 Js hf hsl hS).mono ?_;rintro u w' (⟨vs,v,b,h1,h2,h3,h4,rfl,hS⟩|⟨h1,rfl,hS⟩)
 · obtain ⟨v0,h5,rfl⟩:=sa h1
   have hS:=(hback hS).drop
   cases b with
   | true=>exact .inl ⟨v0.n,v,VF h5 (h4.1 rfl v0 Js),h3,rfl,(hS.subP DF)⟩
   | false=>exact .inr ⟨VG h5 (fun h=>absurd (h4.2 DO) Jd),_,rfl,(hS.subP DF)⟩
 · exact .inr ⟨VH (sb h1),_,rfl,(hback hS).drop⟩
theorem bE {k:Int}(hf:fr.length≤1000)(hS:St cx w (sl 3 1 v1 (Qv [k,j])::gX p z fr g N h out L)):KK Tryz.prog me [.pointer (some ⟨p,0,none⟩),v1] w fun u w'=>
 (∃(n m:Int) (sv:Value),g.abs.num k=some n∧g.abs.num j=some m∧oneC sv=true∧u= .tuple #[sv, .bool true]∧St cx w' (gX p z fr g N h out (sl 2 1 sv (Qv [n,m])::L)))∨((g.abs.num k=none∨g.abs.num j=none)∧∃sv,u= .tuple #[sv, .bool false]∧St cx w' (gX p z fr g N h out L)):=by
 obtain ⟨c',hle,hS,hsl,hback⟩:=KJ (r:=KM) (l:=[k,j]) hS W5 rfl Js;refine (W6 Js hf hsl hS).mono ?_;rintro u w' (⟨vs,v,b,h1,h2,h3,h4,rfl,hS⟩|⟨h1,rfl,hS⟩)
 · obtain ⟨v0,u0,h5,h6,rfl⟩:=W4 h1
   have hS:=(hback hS).drop
   cases b with
   | true=>exact .inl ⟨v0.n,u0.n,v,VF h5 (h4.1 rfl v0 Js),VF h6 (h4.1 rfl u0 Js),h3,rfl,(hS.subP DF)⟩
   | false=>
     refine .inr ⟨?_,_,rfl,(hS.subP DF)⟩;by_cases h7:v0.kind=1
     · exact .inr (VG h6 (fun h=>absurd (h4.2 (by simpa using ⟨h7,h⟩)) Jd))
     · exact .inl (VG h5 h7)
 · exact .inr ⟨(Qg2 h1).imp VH VH,_,rfl,(hback hS).drop⟩
theorem Oi (hf:fr.length≤1000)(hn:g.vals.length+vs.length≤1000000)(hS:St cx w (sl 182 4 v2 (vs.map Val.cells)::gX p z fr g N h out L)):
 KK Tryz.prog uF [.pointer (some ⟨p,0,none⟩),v2] w fun u w'=>u= .int .i64 0∧∃tv,St cx w' (gX p z fr (g.push tv vs) N h out L):=by
 obtain ⟨lv,rv,ho,hS⟩:=PN (L:=sl 182 4 v2 (vs.map Val.cells)::L) (hS.subP DF);refine (ZX (j:=3) hf hn hS rfl).mono ?_;rintro u w' ⟨rfl,tv,hS⟩;exact ⟨rfl,tv,QX ho (hS.subP DF)⟩
end Go.Proofs.YteflkifmgnpbhaaGreat
namespace Go.Lir
theorem kT {P:Program}{ρ:La}{i d n:Nat}{T:Nat}{v:Value}{x:Operand}{m b o:Nat}(hS:St c w L)(he:Oe v n es m b o)(hx:ρ.ev x= .pointer (some ⟨b,o,none⟩))(hi:nth L i=some (sl T es v css))(hn:css.length=n)(hc:css[m]?=some cs):NS P ρ w ⟨none, .loadn d es x⟩ (.agg ⟨cs⟩):=by
 obtain ⟨F,hr,_⟩:=hS.step hi;exact ⟨_,cs,hx,(he.el hn hr).cells hc,rfl⟩
section
variable {m:Module}{s:MS}{x:Ins}
theorem mX (h:x.op=8):s.ins m x=Md (s.g.val x.a) fun v=>Md (s.g.num x.b) fun n=>if n<0∨15<n then .halt 3 else s.made (s.h.arrC v n) (s.h.arr v n) (s.h.arrV v n):=by unfold MS.ins;(repeat rw [if_neg Jo]);rw [if_pos h]
theorem Qge (h1:4≤x.op)(h2:x.op≤11)(hv:s.g.val x.a=none):s.ins m x= .lost:=by
 rcases (show x.op=4∨x.op=5∨x.op=6∨x.op=7∨x.op=8∨x.op=9∨x.op=10∨x.op=11 by omega) with h|h|h|h|h|h|h|h
 · rw [qx h,PJ hv]
 · rw [qy h,PJ hv]
 · rw [qz h,PJ hv]
 · rw [mw h,PJ hv]
 · rw [mX h,PJ hv]
 · rw [qA h,PJ hv]
 · rw [qB h,PJ hv]
 · rw [vI h,PJ hv]
theorem xN (h6:x.op=6)(hv:s.g.val x.a=some v)(hc:v.kind≠3∨(s.h.get v x.k).2≠0):s.ins m x= .lost:=by
 rw [qz h6,Ql hv];by_cases hk:v.kind=3
 · rw [if_neg Jo,if_pos Jo]
 · rw [if_pos hk]
theorem bF (h6:x.op=6)(hv:s.g.val x.a=some v)(hk:v.kind=3)(hc:(s.h.get v x.k).2=0):s.ins m x= .go (s.put [(s.h.get v x.k).1]):=by rw [qz h6,Ql hv,if_neg Jo,if_neg Jo]
theorem xO (h7:x.op=7)(hv:s.g.val x.a=some v)(hc:s.g.val x.b=none∨v.kind≠3):s.ins m x= .lost:=by
 rw [mw h7,Ql hv];by_cases hk:v.kind=3
 · rw [if_neg Jo,PJ (hc.resolve_right Jo)]
 · rw [if_pos hk]
theorem W7 (h7:x.op=7)(hv:s.g.val x.a=some v)(hy:s.g.val x.b=some y)(hc:v.kind≠3∨s.h.setC v x.k y≠0):s.ins m x= .lost:=by
 rw [mw h7,Ql hv];by_cases hk:v.kind=3
 · rw [if_neg Jo,Ql hy,if_pos Jo]
 · rw [if_pos hk]
theorem kU (h7:x.op=7)(hv:s.g.val x.a=some v)(hy:s.g.val x.b=some y)(hk:v.kind=3)(hc:s.h.setC v x.k y=0):s.ins m x= .go (s.hp (s.h.set v x.k y)):=by rw [mw h7,Ql hv,if_neg Jo,Ql hy,if_neg Jo]
theorem sc (h8:x.op=8)(hv:s.g.val x.a=some v)(hn:s.g.num x.b=none):s.ins m x= .lost:=by rw [mX h8,Ql hv,PJ hn]
theorem sd (h8:x.op=8)(hv:s.g.val x.a=some v)(hn:s.g.num x.b=some n)(hc:n<0∨15<n):s.ins m x= .halt 3:=by rw [mX h8,Ql hv,Ql hn,if_pos hc]
theorem se (h8:x.op=8)(hv:s.g.val x.a=some v)(hn:s.g.num x.b=some n)(hc:¬(n<0∨15<n)):s.ins m x=s.made (s.h.arrC v n) (s.h.arr v n) (s.h.arrV v n):=by rw [mX h8,Ql hv,Ql hn,if_neg hc]
theorem sf (h9:x.op=9)(hv:s.g.val x.a=some v)(hn:s.g.num x.b=none):s.ins m x= .lost:=by rw [qA h9,Ql hv,PJ hn]
theorem kV (h9:x.op=9)(hv:s.g.val x.a=some v)(hn:s.g.num x.b=some n):s.ins m x=Oo v (s.h.get v n).2 (.go (s.put [(s.h.get v n).1])):=by rw [qA h9,Ql hv,Ql hn]
theorem kW (h10:x.op=10)(hv:s.g.val x.a=some v)(hn:s.g.num x.b=none∨s.g.num x.c=none):s.ins m x= .lost:=by
 rw [qB h10,Ql hv]
 cases hb:s.g.num x.b with
 | none=>rfl
 | some n=>rw [Ql rfl,PJ (hn.resolve_left (by rw [hb];exact fun h=>by cases h))]
theorem bG {c:Int}(h10:x.op=10)(hv:s.g.val x.a=some v)(hn:s.g.num x.b=some n)(hc:s.g.num x.c=some c):s.ins m x=Oo v (s.h.setC v n (Lk c)) (.go (s.hp (s.h.set v n (Lk c)))):=by rw [qB h10,Ql hv,Ql hn,Ql hc]
theorem kX (h11:x.op=11)(hv:s.g.val x.a=some v):s.ins m x=Oo v (s.h.len v).2 (.go (s.put [Lk (s.h.len v).1])):=by rw [vI h11,Ql hv]
end
end Go.Lir
namespace Go.Proofs.YteflkifmgnpbhaaGreat
open Go.Lir
attribute [local irreducible] LC.wp Q0 Qr Qj Lo QJ LO.wp Q6 Calls
section
variable {cx:Cx}{w:World}{L:List Res}{p N:Nat}{z:GZ}{fr:List FrmV}{g:FrmV}{h:HpS}{out inp:List Int}{fu:Nat}
@[reducible] def GZ.upd (z:GZ)(fv iv ov:Value):GZ:=⟨z.fn,fv,iv,z.e,z.bv,ov,z.fu,z.mo,z.dn,z.c,z.a⟩
@[reducible] def GZ.bk (z:GZ)(bv:Value):GZ:=⟨z.fn,z.fv,z.iv,z.e,bv,z.ov,z.fu,z.mo,z.dn,z.c,z.a⟩
def GQ (p:Nat)(z:GZ)(N fu:Nat)(h:HpS)(out:List Int)(X:Stp)(cx:Cx)(L:List Res)(u:Value)(w':World):Prop:=
 (∃fv iv ov fr' g' N' h' inp' out',X= .go (KW h' g' fr' inp' out' fu)∧KM.sl cx iv inp'∧N'≤N+1∧u= .int .i64 0∧St cx w' (gX p (z.upd fv iv ov) fr' g' N' h' out' L))
 ∨(∃e fr' g' N',X= .halt e∧N'≤N+1∧u= .int .i64 1∧St cx w' (gX p (z.end e) fr' g' N' h out L))
 ∨(∃l bv fr' g' N',X= .done l∧N'≤N+1∧l.length≤100000∧u= .int .i64 1∧St cx w' (gX p ((z.bk bv).end 0) fr' g' N' h out (sl 2 1 bv (Qv l)::L)))
 ∨(X= .lost∧u= .int .i64 2∧∃lv left,St cx w' (MP z p lv left::L))
theorem Z0 (hS:St cx w (gX p z fr g N h out L)):∃lv left,St cx w (MP z p lv left::L):=by
 obtain ⟨lv,rv,ho,hS⟩:=PN hS;exact ⟨lv,_,hS.sp⟩
theorem GQ.lost (hX:X= .lost)(hS:St cx w (gX p z fr g N2 h2 out2 L'))(hsub:∀lv left,St cx w (MP z p lv left::L')→St cx w (MP z p lv left::L)):GQ p z N fu h out X cx L (.int .i64 2) w:=by
 obtain ⟨lv,left,hS⟩:=Z0 hS;exact .inr (.inr (.inr ⟨hX,rfl,lv,left,hsub _ _ hS⟩))
abbrev Ha:=@GQ.lost
theorem W8 (hf:fr.length≤1000)(hn:g.vals.length≤900000)(hS:St cx w (gX p z fr g N h out L)):KK Tryz.prog Qe5 [.pointer (some ⟨p,0,none⟩),v.v, .int .i64 e] w fun u w'=>
 (e=0∧u= .int .i64 0∧∃tv,St cx w' (gX p z fr (g.push tv [v]) N h out L))∨(e=14∧u= .int .i64 1∧St cx w' (gX p (z.end 6) fr g N h out L))∨(e≠0∧e≠14∧u= .int .i64 2∧St cx w' (gX p z fr g N h out L)):=by
 (unfold Val.v Val.cells;refine KY KX Tryz.func187 ?_;refine' Lx;intro p4 w1 hS;refine' Pz;first|(refine' Qd)|(refine' Qi)|(refine' Ac<;>intro hc));all_goals (refine' zn)
 all_goals
  first
  | (refine' KN;refine' Ls;have hS:St cx _ (gX p z fr g N h out L):=hS.sp;refine' KU (c:=Pf 6 hS);rintro v1 w1 ⟨rfl,hS⟩;refine' Ly;(first|exact BZ|exact ⟨_,rfl, .inr (.inl ⟨Jo,rfl,hS⟩)⟩))
  | (refine' KO;refine' KV)
 (refine' NI;first|(refine' QG)|(refine' QI)|(refine' Ad<;>intro hc));all_goals (refine' zn)
 all_goals
  first
  | (refine' KN;refine' Lh;(first|exact BZ|exact ⟨_,rfl, .inr (.inl ⟨Jo,rfl,hS⟩)⟩|exact ⟨_,rfl, .inr (.inr ⟨Jo,Jo,rfl,hS.sp⟩)⟩))
  | (refine' KO;refine' KV)
 refine' YD;refine LK hS [_,_,_,_] ?_;intro b1 w1 hS;have hS:=GS (T:=182) (es:=4) (css:=[v].map Val.cells) hS rfl (by simp [Val.cells]) rfl;have hS:St cx _ (sl 182 4 (.slice (some ⟨b1,0,none⟩) 1 1) ([v].map Val.cells)::gX p z fr g N h out L):=hS.sp;refine' KU (c:=Oi (vs:=[v]) hf DI hS);rintro v1 w1 ⟨rfl,tv,hS⟩;refine' Ly;(exact BZ)
theorem mY (hS:St cx w (gX p z fr g N h out L)):KK Tryz.prog Qbr [.pointer (some ⟨p,0,none⟩),v.v, .int .i64 e] w fun u w'=>
 (v.kind=4∧e=0∧u= .int .i64 0∧St cx w' (gX p z fr g N h out L))∨(v.kind=4∧e=1∧u= .int .i64 1∧St cx w' (gX p (z.end 2) fr g N h out L))∨((v.kind=4→e≠1∧e≠0)∧u= .int .i64 2∧St cx w' (gX p z fr g N h out L)):=by
 (unfold Val.v Val.cells;refine KY KX Tryz.func192 ?_;refine' Lx;intro p4 w1 hS;refine' Sq;first|(refine' QG)|(refine' QI)|(refine' Ad<;>intro hc));all_goals (refine' zn)
 all_goals
  first
  | (refine' KN;refine' Lh;(exact Ap))
  | (refine' KO;refine' KV)
 (refine' NI;first|(refine' Qd)|(refine' Qi)|(refine' Ac<;>intro hc));all_goals (refine' zn)
 all_goals
  first
  | (refine' KN;refine' Ls;have hS:St cx _ (gX p z fr g N h out L):=hS.sp;refine' KU (c:=Pf 2 hS);rintro v1 w1 ⟨rfl,hS⟩;refine' Ly;(exact ⟨_,rfl, .inr (.inl ⟨Jo,Jo,rfl,hS⟩)⟩))
  | (refine' KO;refine' KV)
 (refine' NI;first|(refine' QG)|(refine' QI)|(refine' Ad<;>intro hc));all_goals (refine' zn)
 all_goals
  first
  | (refine' KN;refine' Lh;(exact Ap))
  | (refine' KO;refine' KV)
 refine' Lh;((first|exact ⟨_,rfl, .inr (.inl ⟨Jo,Jo,rfl,hS⟩)⟩|exact ⟨_,rfl, .inl ⟨Jo,Jo,rfl,hS.sp⟩⟩))
end
section
variable {cx:Cx}{w:World}{L:List Res}{p N:Nat}{z:GZ}{fr:List FrmV}{g:FrmV}{h:HpS}{out inp:List Int}{fu:Nat}{m:Module}
@[reducible] def N5 (b:Nat)(x:Ins)(vr va:Value):Res:=blk b 84 [.int .i64 x.op, .int .i64 x.a, .int .i64 x.b, .int .i64 x.c, .int .i64 x.k, .int .i64 x.n,vr,va]
@[reducible] def Pp (sv:Value)(v:Val):Res:=sl 182 4 sv ([v].map Val.cells)
theorem GQ.go (hX:X= .go (KW h' g' fr' inp out' fu))(hi:KM.sl cx z.iv inp)(hN:N'≤N+1)(hu:u= .int .i64 0)(hS:St cx w (gX p z fr' g' N' h' out' L)):GQ p z N fu h out X cx L u w:=
 .inl ⟨z.fv,z.iv,z.ov,fr',g',N',h',inp,out',hX,hi,hN,hu,hS⟩
abbrev Hr:=@GQ.go
theorem GQ.halt (hX:X= .halt e)(hN:N'≤N+1)(hu:u= .int .i64 1)(hS:St cx w (gX p (z.end e) fr' g' N' h out L)):GQ p z N fu h out X cx L u w:=
 .inr (.inl ⟨e,fr',g',N',hX,hN,hu,hS⟩)
abbrev Im:=@GQ.halt
attribute [local irreducible] Frm.val Frm.num Frm.args Frm.rgs Frm.reg Lm MS.ins MS.call HpS.get HpS.set HpS.setC HpS.len HpS.code HpS.put HpS.putV HpS.open HpS.shut HpS.full HpS.openV HpS.can HpS.tuple HpS.arr HpS.arrC HpS.arrV L0 Mv
theorem ff (hx:Lz.at cx cs x)(hi:KM.sl cx z.iv inp)(hop:4≤x.op∧x.op≤11)(h8:x.args.length≤100)(hf:fr.length≤900)(hn:g.vals.length≤800000)(hN:N≤99999)(hS:St cx w (gX p z fr g N h out L)):
 KK Tryz.prog Qa0 [.pointer (some ⟨p,0,none⟩), .agg ⟨cs⟩] w (GQ p z N fu h out ((KW h g fr inp out fu).ins m x) cx L):=by
 obtain ⟨vr,va,rfl,hr,ha⟩:=QY hx;have hil:=hi.len;have hXl:=Qge (m:=m) (s:=KW h g fr inp out fu) (x:=x) hop.1 hop.2;refine KY KX Tryz.func126 ?_;refine' Lx;intro p3 w1 hS;refine' Mz;refine' Lw;refine LK hS [_] ?_;intro b1 w1 hS;have hS:St cx _ (sl 3 1 (.slice (some ⟨b1,0,none⟩) 1 1) (Qv [x.a])::gX p z fr g N h out (N5 p3 x vr va::L)):=EX;refine' KU (c:=kS Jo hS);rintro v1 w1 (⟨v0,sv,hv,ho1,rfl,hS⟩|⟨hv,rfl,hS⟩);all_goals (refine' TM)
 all_goals
  first
  | (refine' KN;refine' Lh;(exact AU))
  | (refine' KO;refine' KV)
 (refine' NP;refine' S6;refine' K3;first|(refine' Qd)|(refine' Qi)|(refine' Ac<;>intro hc));all_goals (refine' K5)
 all_goals
  first
  | (refine' KN
     refine' Nx;refine zD (ci 8 [6,7]) ?_;have hS:=hS.drew;refine' zm;refine' Ma;refine' zm;refine QN hS vw rfl fd Js Js ?_;intro b2 o2 hel2;refine OY hS hel2 rfl fd rfl rfl ?_;refine' KU (c:=W2 v0 hS fd);rintro v1 w1 ⟨rfl,hS⟩;have hS:=hS.ns;cases hcan:h.can v0;all_goals (refine' Oy)
     all_goals
      first
      | (refine' KN;refine Qo ?_;have hX:=(qx (m:=m) (s:=KW h g fr inp out fu) (x:=x) Jo).trans ((Ql hv).trans (if_pos hcan));refine' Pn;(exact Ah))
      | (refine' KO;refine' KV)
     refine Qo ?_;have hX:=(qx (m:=m) (s:=KW h g fr inp out fu) (x:=x) Jo).trans ((Ql hv).trans (if_neg (show¬h.can v0=false by rw [hcan];decide)));refine' Pn;(first|exact AU|exact A3|exact AZ|exact A0|exact A2))
  | (refine' KO
     (refine' K3;first|(refine' Qd)|(refine' Qi)|(refine' Ac<;>intro hc));all_goals (refine' K5)
     all_goals
      first
      | (refine' KN
         refine' O6;refine' KU (c:=kR Jo Jo ha (show St cx _ (gX p z fr g N h out _) from hS));rintro v1 w1 (⟨vs,sw,hvs,hvl,ho2,rfl,hS⟩|⟨hvs,rfl,hS⟩);all_goals (refine' TM)
         all_goals
          first
          | (refine' KN;refine Qo ?_;have hX:=(qy (m:=m) (s:=KW h g fr inp out fu) (x:=x) Jo).trans ((Ql hv).trans (PJ hvs));refine' Pn;(exact Ah))
          | (refine' KO;refine' KV)
         (refine Qo ?_;refine zC [(0,none),(1,none),(2,none),(3,none),(4,none),(5,none),(6,none),(7,none),(8,some (some [])),(9,none),(10,none),(11,some none),(12,some none)] ?_;have hS:=hS.drew;refine' Td;refine' UX;refine' TJ;refine QN hS vw rfl fd Js Js ?_;intro b2 o2 hel2;refine' Ll;refine OY hS hel2 rfl fd rfl rfl ?_;refine' Sk;refine' My;refine' LU (c:=Qhd (N:=N) (s:=h) (j:=6) v0 sw vs Jo Jo hS fd rfl);rintro v1 w1 ⟨rfl,hS⟩;have hS:=hS.ns;refine' Ni;refine' TG;refine' U0;refine' Mb;refine' LU (c:=W8 (v:=h.putV v0 3 (Mv vs)) Jo Jo (show St cx _ (gX p z fr g (N+1) (h.tuple v0 vs) out _) from hS));have hX:=(qy (m:=m) (s:=KW h g fr inp out fu) (x:=x) Jo).trans ((Ql hv).trans (Ql hvs));rintro v1 w1 (⟨he,rfl,tv,hS⟩|⟨he,rfl,hS⟩|⟨he,he2,rfl,hS⟩);all_goals (refine' TP;refine' Ri));all_goals (first|(first|exact AU|exact A3|exact AZ|exact A0|exact A2|exact Ba|exact Bm|exact Bl|exact Bk|exact Bg|exact Bz|exact Br|exact BE|exact Bt)|(have hS:=hS;rw [qD D7] at hS;exact Bh)))
      | (refine' KO
         (refine' K3;first|(refine' Qd)|(refine' Qi)|(refine' Ac<;>intro hc));all_goals (refine' K5)
         all_goals
          first
          | (refine' KN
             refine' O6;refine LK hS [_] ?_;intro b1 w1 hS;have hS:St cx _ (sl 3 1 (.slice (some ⟨b1,0,none⟩) 1 1) (Qv [x.b])::gX p z fr g N h out (Pp sv v0::N5 p3 x vr va::L)):=Ex;refine' KU (c:=ZZ Jo hS);rintro v1 w1 (⟨n0,sn,hn0,ho2,rfl,hS⟩|⟨hn0,sn,rfl,hS⟩);all_goals (refine' TM)
             all_goals
              first
              | (refine' KN;refine Qo ?_;have hX:=sc (m:=m) (s:=KW h g fr inp out fu) (x:=x) Jo hv hn0;refine' Pn;(exact Ah))
              | (refine' KO;refine' KV)
             ((refine' NI;refine QN hS vw rfl fd Js Js ?_;intro b2 o2 hel2;refine Qx hS hel2 rfl fd rfl rfl rfl ?_;first|(refine' LG)|(refine' LM)|(refine' Ae<;>intro hc));all_goals (refine' Mr;(first|(refine' KP)|(refine' KQ;refine QN hS vw rfl fd Js Js ?_;intro b3 o3 hel3));(first|(refine' KP)|(refine' KQ;refine Qx hS hel3 rfl fd rfl rfl rfl ?_));first|refine' KP|(refine' KQ;(first|(refine' QO)|(refine' QV)|(refine' Af<;>intro hc)))));all_goals (refine' LH)
             all_goals
              first
              | (refine' KN;all_goals (refine' Ls;refine' KU (c:=Pf 3 (show St cx _ (gX p z fr g N h out _) from hS));rintro v1 w1 ⟨rfl,hS⟩;have hX:=sd (m:=m) (s:=KW h g fr inp out fu) (x:=x) Jo hv hn0 Jo;refine' Ly);all_goals ((first|exact AU|exact A3|exact AZ|exact A0|exact A2|exact Ba|exact Bm|exact Bl|exact Bk|exact Bg|exact Bz|exact Br|exact BE)))
              | (refine' KO;refine' KV)
             (refine Qo ?_;refine zC [(0,none),(1,none),(2,none),(3,none),(4,none),(5,none),(6,none),(7,none),(8,none),(9,none),(10,some (some [])),(11,none),(12,none),(13,some none),(14,some none)] ?_;have hS:=hS.drew;refine' Td;refine' UX;refine' TJ;refine QN hS vw rfl fd Js Js ?_;intro b4 o4 hel4;refine' Ll;refine OY hS hel4 rfl fd rfl rfl ?_;refine' M9;refine QN hS vw rfl fd Js Js ?_;intro b5 o5 hel5;refine' Ll;refine Qx hS hel5 rfl fd rfl rfl rfl ?_;refine' My;refine' LU (c:=Qhi (N:=N) (s:=h) v0 n0 Jo hS fd);rintro v1 w1 ⟨rfl,hS⟩;have hS:=hS.ns;refine' Ni;refine' TG;refine' U0;refine' Mb;refine' LU (c:=W8 (v:=h.arrV v0 n0) Jo Jo (show St cx _ (gX p z fr g (N+1) (h.arr v0 n0) out _) from hS));have hX:=se (m:=m) (s:=KW h g fr inp out fu) (x:=x) Jo hv hn0 Jo;rintro v1 w1 (⟨he,rfl,tv,hS⟩|⟨he,rfl,hS⟩|⟨he,he2,rfl,hS⟩);all_goals (refine' TP;refine' Ri));all_goals (first|(first|exact AU|exact A3|exact AZ|exact A0|exact A2|exact Ba|exact Bm|exact Bl|exact Bk|exact Bg|exact Bz|exact Br|exact BE|exact Bt)|(have hS:=hS;rw [qD D7] at hS;exact Bh)|(rw [VK D7] at hS;exact Bh)))
          | (refine' KO
             (refine' K3;first|(refine' Qd)|(refine' Qi)|(refine' Ac<;>intro hc));all_goals (refine' K5)
             all_goals
              first
              | (refine' KN
                 refine Qo ?_;refine Ru 8 12 Jk ?_ ?_
                 · skip
                   ((refine zC [(0,none),(1,none),(2,none),(3,none),(4,none),(5,none),(6,none),(7,none),(8,some none),(9,none),(10,none),(11,none),(12,some (some [])),(13,some (some [])),(14,some none)] ?_;have hS:=hS.drew;refine' TQ;refine' TJ;refine QN hS vw rfl fd Js Js ?_;intro b2 o2 hel2;refine' Ll;refine OY hS hel2 rfl fd rfl rfl ?_;refine' Nh;refine' Mb;refine' LU (c:=mW v0 x.k hS fd);rintro v1 w1 ⟨rfl,hS⟩;refine' M9;refine' TG;refine' U0;refine' Rk;intro p11 w1 hS;refine' zt;refine ⟨fun _ h=>(FQ h).elim,?_⟩;refine' RI;refine Rb hS rfl rfl Jr fd Js (XC _) Jr ?_;intro w1 hS;have hS:=hS.ns;refine' Nj;refine' cX;refine' Nx;have hS:St cx _ (gX p z fr g N h out (Pp sv v0::blk p11 182 (h.get v0 x.k).1.cells::N5 p3 x vr va::L)):=hS.sp;refine' Mj;refine QN hS vw rfl fd Js Js ?_;intro b3 o3 hel3;refine' M6;refine Q5 hS hel3 rfl fd rfl rfl rfl ?_;first|(refine' QG)|(refine' QI)|(refine' Ad<;>intro hc));all_goals (refine' Mr;first|refine' KP|(refine' KQ;(first|(refine' QG)|(refine' QI)|(refine' Ad<;>intro hc)))));all_goals (refine' LH)
                   all_goals
                    first
                    | (refine' KN;all_goals (refine Qo ?_;have hX:=xN (m:=m) (s:=KW h g fr inp out fu) (x:=x) Jo hv EO;refine' Pn);all_goals ((exact Ah)))
                    | (refine' KO;refine' KV)
                   refine Qo ?_;have hX:=bF (m:=m) (s:=KW h g fr inp out fu) (x:=x) Jo hv Jo (show (h.get v0 x.k).2=0 by omega);refine' PX;refine LK hS [_,_,_,_] ?_;intro b1 w1 hS;have hS:St cx _ (Pp (.slice (some ⟨b1,0,none⟩) 1 1) (h.get v0 x.k).1::gX p z fr g N h out L):=Fa;refine' KU (c:=Oi (vs:=[(h.get v0 x.k).1]) Jo DI hS);rintro v1 w1 ⟨rfl,tv,hS⟩;refine' Ly;((exact Aq))
                 · skip
                   ((refine zC [(0,none),(1,none),(2,none),(3,none),(4,none),(5,none),(6,none),(7,none),(12,some (some [5,7])),(8,some none),(9,none),(10,none),(11,none),(13,some (some [])),(14,some none)] ?_;have hS:=hS.drew;refine' TQ;refine' TJ;refine QN hS vw rfl fd Js Js ?_;intro b2 o2 hel2;refine' Ll;refine OY hS hel2 rfl fd rfl rfl ?_;refine' Nh;refine' Rk;intro p11 w1 hS;refine' zt;refine ⟨FG.2 ⟨(by (exact kT hS hel2 rfl fd rfl rfl)),FG.2 ⟨(by first|(exact kT hS hel2 rfl fd rfl rfl)|(exact Az)),fun _ h=>(FQ h).elim⟩⟩,?_⟩;refine' L5;refine' LU (c:=mW v0 x.k hS fd);rintro v1 w1 ⟨rfl,hS⟩;refine' M9;refine' TG;refine' U0;refine' My;refine Rb hS rfl rfl Jr fd Js (XC _) Jr ?_;intro w1 hS;have hS:=hS.ns;refine' Nj;refine' cX;refine' Nx;have hS:St cx _ (gX p z fr g N h out (Pp sv v0::blk p11 182 (h.get v0 x.k).1.cells::N5 p3 x vr va::L)):=hS.sp;refine' Mj;refine QN hS vw rfl fd Js Js ?_;intro b3 o3 hel3;refine' M6;refine Q5 hS hel3 rfl fd rfl rfl rfl ?_;first|(refine' QG)|(refine' QI)|(refine' Ad<;>intro hc));all_goals (refine' Mr;first|refine' KP|(refine' KQ;(first|(refine' QG)|(refine' QI)|(refine' Ad<;>intro hc)))));all_goals (refine' LH)
                   all_goals
                    first
                    | (refine' KN;all_goals (refine Qo ?_;have hX:=xN (m:=m) (s:=KW h g fr inp out fu) (x:=x) Jo hv EO;refine' Pn);all_goals ((exact Ah)))
                    | (refine' KO;refine' KV)
                   refine Qo ?_;have hX:=bF (m:=m) (s:=KW h g fr inp out fu) (x:=x) Jo hv Jo (show (h.get v0 x.k).2=0 by omega);refine' PX;refine LK hS [_,_,_,_] ?_;intro b1 w1 hS;have hS:St cx _ (Pp (.slice (some ⟨b1,0,none⟩) 1 1) (h.get v0 x.k).1::gX p z fr g N h out L):=Fa;refine' KU (c:=Oi (vs:=[(h.get v0 x.k).1]) Jo DI hS);rintro v1 w1 ⟨rfl,tv,hS⟩;refine' Ly;(exact Aq))
              | (refine' KO
                 (refine' K3;first|(refine' Qd)|(refine' Qi)|(refine' Ac<;>intro hc));all_goals (refine' K5)
                 all_goals
                  first
                  | (refine' KN
                     ((refine' O6;refine LK hS [_] ?_;intro b1 w1 hS;have hS:St cx _ (sl 3 1 (.slice (some ⟨b1,0,none⟩) 1 1) (Qv [x.b])::gX p z fr g N h out (Pp sv v0::N5 p3 x vr va::L)):=Ex;refine' KU (c:=kS Jo hS);rintro v1 w1 (⟨y0,sn,hn0,ho2,rfl,hS⟩|⟨hn0,rfl,hS⟩);all_goals (refine' S5;refine' S8;refine zD (ci 24 [21,23]) ?_;have hS:=hS.drew;refine' zm;refine' Pm;refine' Mr;(first|(refine' KP)|(refine' KQ;refine QN hS vw rfl fd Js Js ?_;intro b3 o3 hel3));refine' NC;(first|(refine' KP)|(refine' KQ;refine Q5 hS hel3 rfl fd rfl rfl rfl ?_));first|refine' KP|(refine' KQ;(first|(refine' QG)|(refine' QI)|(refine' Ad<;>intro hc)))));all_goals (refine' PE;refine' aR;refine' Nf;refine' MT;(first|(refine' KP)|(refine' KQ;refine QN hS vw rfl fd Js Js ?_;intro b4 o4 hel4));(first|(refine' KP)|(refine' KQ;refine OY hS hel4 rfl fd rfl rfl ?_));refine' Nv;refine' MT;(first|(refine' KP)|(refine' KQ;refine QN hS vw rfl fd Js Js ?_;intro b5 o5 hel5));(first|(refine' KP)|(refine' KQ;refine OY hS hel5 rfl fd rfl rfl ?_));(first|(refine' KP)|(refine' KQ;refine' NN (c:=xK v0 x.k y0 hS fd);rintro v1 w1 ⟨rfl,hS⟩;have hS:=hS.ns));first|refine' KP|(refine' KQ;(first|(refine' QG)|(refine' QI)|(refine' Ad<;>intro hc)))));all_goals (refine' LH)
                     all_goals
                      first
                      | (refine' KN;all_goals (refine Qo ?_;have hX:MS.ins m (KW h g fr inp out fu) x= .lost:=(by first|exact xO Jo hv (.inl hn0)|exact xO Jo hv (.inr Jo)|exact W7 Jo hv hn0 (.inr (show h.setC v0 x.k y0≠0 by omega)));refine' Pn);all_goals ((exact Ah)))
                      | (refine' KO;refine' KV)
                     refine Qo ?_;have hX:=kU (m:=m) (s:=KW h g fr inp out fu) (x:=x) Jo hv hn0 Jo (show h.setC v0 x.k y0=0 by omega);refine' Pn;(first|exact AU|exact A3|exact AZ|exact A0|exact A2|exact Ba))
                  | (refine' KO
                     (refine' K3;first|(refine' Qd)|(refine' Qi)|(refine' Ac<;>intro hc));all_goals (refine' K5)
                     all_goals
                      first
                      | (refine' KN
                         refine' O6;refine LK hS [_] ?_;intro b1 w1 hS;have hS:St cx _ (sl 3 1 (.slice (some ⟨b1,0,none⟩) 1 1) (Qv [x.b])::gX p z fr g N h out (Pp sv v0::N5 p3 x vr va::L)):=Ex;refine' KU (c:=ZZ Jo hS);rintro v1 w1 (⟨n0,sn,hn0,ho2,rfl,hS⟩|⟨hn0,sn,rfl,hS⟩);all_goals (refine' TM)
                         all_goals
                          first
                          | (refine' KN;refine Qo ?_;have hX:=sf (m:=m) (s:=KW h g fr inp out fu) (x:=x) Jo hv hn0;refine' Pn;(exact Ah))
                          | (refine' KO;refine' KV)
                         refine Qo ?_;refine Ru 9 13 Jk ?_ ?_
                         · skip
                           refine zC [(0,none),(1,none),(2,none),(3,none),(4,none),(5,none),(6,none),(7,none),(8,none),(9,some none),(10,none),(11,none),(12,none),(13,some (some [])),(14,some (some [])),(15,some none)] ?_;have hS:=hS.drew;refine' TQ;refine' TJ;refine QN hS vw rfl fd Js Js ?_;intro b3 o3 hel3;refine' Ll;refine OY hS hel3 rfl fd rfl rfl ?_;refine' M9;refine QN hS vw rfl fd Js Js ?_;intro b4 o4 hel4;refine' Ll;refine Qx hS hel4 rfl fd rfl rfl rfl ?_;refine' Mb;refine' LU (c:=mW v0 n0 hS fd);rintro v1 w1 ⟨rfl,hS⟩;refine' M9;refine' TG;refine' U0;refine' Rk;intro p17 w1 hS;refine' zt;refine ⟨fun _ h=>(FQ h).elim,?_⟩;refine' RI;refine Rb hS rfl rfl Jr fd Js (XC _) Jr ?_;intro w1 hS;have hS:=hS.ns;refine' Nj;refine' cX;refine' Nx;have hS:St cx _ (gX p z fr g N h out (Pp sv v0::blk p17 182 (h.get v0 n0).1.cells::N5 p3 x vr va::L)):=hS.sp;have hX:=kV (m:=m) (s:=KW h g fr inp out fu) (x:=x) Jo hv hn0;refine' NJ;refine QN hS vw rfl fd Js Js ?_;intro b5 o5 hel5;refine OY hS hel5 rfl fd rfl rfl ?_;refine' zm;refine' LU (c:=mY (v:=v0) (e:=(h.get v0 n0).2) (show St cx _ (gX p z fr g N h out _) from hS));rintro v1 w1 (⟨hk4,he,rfl,hS⟩|⟨hk4,he,rfl,hS⟩|⟨he,rfl,hS⟩);all_goals (refine' Mz;refine' UT;refine' zn)
                           all_goals
                            first
                            | (refine' KN;all_goals (refine' RV);all_goals ((exact Am)))
                            | (refine' KO;refine' KV)
                           refine' YD;refine LK hS [_,_,_,_] ?_;intro b1 w1 hS;have hS:St cx _ (Pp (.slice (some ⟨b1,0,none⟩) 1 1) (h.get v0 n0).1::gX p z fr g N h out L):=E8;refine' KU (c:=Oi (vs:=[(h.get v0 n0).1]) Jo DI hS);rintro v1 w1 ⟨rfl,tv,hS⟩;refine' Ly;((exact Av))
                         · skip
                           refine zC [(0,none),(1,none),(2,none),(3,none),(4,none),(5,none),(6,none),(7,none),(8,none),(13,some (some [5,8])),(9,some none),(10,none),(11,none),(12,none),(14,some (some [])),(15,some none)] ?_;have hS:=hS.drew;refine' TQ;refine' TJ;refine QN hS vw rfl fd Js Js ?_;intro b3 o3 hel3;refine' Ll;refine OY hS hel3 rfl fd rfl rfl ?_;refine' M9;refine QN hS vw rfl fd Js Js ?_;intro b4 o4 hel4;refine' Ll;refine Qx hS hel4 rfl fd rfl rfl rfl ?_;refine' Rk;intro p17 w1 hS;refine' zt;refine ⟨FG.2 ⟨(by (exact kT hS hel3 rfl fd rfl rfl)),FG.2 ⟨(by first|(exact kT hS hel3 rfl fd rfl rfl)|(exact Qw (j:=0) hS hel4 rfl fd rfl rfl rfl)),fun _ h=>(FQ h).elim⟩⟩,?_⟩;refine' L5;refine' LU (c:=mW v0 n0 hS fd);rintro v1 w1 ⟨rfl,hS⟩;refine' M9;refine' TG;refine' U0;refine' My;refine Rb hS rfl rfl Jr fd Js (XC _) Jr ?_;intro w1 hS;have hS:=hS.ns;refine' Nj;refine' cX;refine' Nx;have hS:St cx _ (gX p z fr g N h out (Pp sv v0::blk p17 182 (h.get v0 n0).1.cells::N5 p3 x vr va::L)):=hS.sp;have hX:=kV (m:=m) (s:=KW h g fr inp out fu) (x:=x) Jo hv hn0;refine' NJ;refine QN hS vw rfl fd Js Js ?_;intro b5 o5 hel5;refine OY hS hel5 rfl fd rfl rfl ?_;refine' zm;refine' LU (c:=mY (v:=v0) (e:=(h.get v0 n0).2) (show St cx _ (gX p z fr g N h out _) from hS));rintro v1 w1 (⟨hk4,he,rfl,hS⟩|⟨hk4,he,rfl,hS⟩|⟨he,rfl,hS⟩);all_goals (refine' Mz;refine' UT;refine' zn)
                           all_goals
                            first
                            | (refine' KN;all_goals (refine' RV);all_goals ((exact Am)))
                            | (refine' KO;refine' KV)
                           refine' YD;refine LK hS [_,_,_,_] ?_;intro b1 w1 hS;have hS:St cx _ (Pp (.slice (some ⟨b1,0,none⟩) 1 1) (h.get v0 n0).1::gX p z fr g N h out L):=E8;refine' KU (c:=Oi (vs:=[(h.get v0 n0).1]) Jo DI hS);rintro v1 w1 ⟨rfl,tv,hS⟩;refine' Ly;(exact Av))
                      | (refine' KO
                         (refine' K3;first|(refine' Qd)|(refine' Qi)|(refine' Ac<;>intro hc));all_goals (refine' K5)
                         all_goals
                          first
                          | (refine' KN
                             (refine' O6;refine' Lw;refine uj hS [_,_] ?_;intro b1 w1 hS;have hS:St cx _ (sl 3 1 (.slice (some ⟨b1,0,none⟩) 2 2) (Qv [x.b,x.c])::gX p z fr g N h out (Pp sv v0::N5 p3 x vr va::L)):=(by have hS:=GS (T:=3) (es:=1) (css:=Qv [x.b,x.c]) hS rfl (by simp [Qv]) rfl;exact AB);refine' KU (c:=bE Jo hS);rintro v1 w1 (⟨n0,c0,sn,hn0,hc0,ho2,rfl,hS⟩|⟨hn0,sn,rfl,hS⟩);all_goals (refine' S5;refine' Pz;refine' Pm;refine' Mr;(first|(refine' KP)|(refine' KQ;refine QN hS vw rfl fd Js Js ?_;intro b3 o3 hel3));refine' NC;(first|(refine' KP)|(refine' KQ;refine Q5 hS hel3 rfl fd rfl rfl rfl ?_));first|refine' KP|(refine' KQ;(first|(refine' QG)|(refine' QI)|(refine' Ad<;>intro hc)))));all_goals (refine' LH)
                             all_goals
                              first
                              | (refine' KN;all_goals (refine Qo ?_;have hX:MS.ins m (KW h g fr inp out fu) x= .lost:=(by first|exact kW Jo hv hn0|exact (bG Jo hv hn0 hc0).trans (dN Jo));refine' Pn);all_goals ((exact Ah)))
                              | (refine' KO;refine' KV)
                             (refine Qo ?_;refine zC [(0,none),(1,none),(2,none),(3,none),(4,none),(5,none),(6,none),(7,none),(8,none),(9,none),(10,none),(11,none),(12,none),(13,none),(14,none),(15,none),(16,none),(17,some (some [3])),(18,some none),(19,some none)] ?_;have hS:=hS.drew;refine' Td;refine QN hS vw rfl fd Js Js ?_;intro b4 o4 hel4;refine' Ll;refine OY hS hel4 rfl fd rfl rfl ?_;refine' M9;refine' UX;refine' TJ;refine QN hS vw rfl fd Js Js ?_;intro b5 o5 hel5;refine' Ll;refine OY hS hel5 rfl fd rfl rfl ?_;refine' M9;refine QN hS vw rfl fd Js Js ?_;intro b6 o6 hel6;refine' Ll;refine Qx hS hel6 rfl fd rfl rfl rfl ?_;refine' M9;refine QN hS vw rfl fd Js Js ?_;intro b7 o7 hel7;refine' Ll;refine Qx hS hel7 rfl fd rfl rfl rfl ?_;refine' Ll;refine Nn [_,_,_,_] ?_;refine' My;refine' NN (c:=xK v0 n0 (Lk c0) hS fd);rintro v1 w1 ⟨rfl,hS⟩;have hS:=hS.ns;refine' zt;refine ⟨FG.2 ⟨(by (exact kT hS hel4 rfl fd rfl rfl)),fun _ h=>(FQ h).elim⟩,?_⟩;refine' L5;refine' LU (c:=mY (v:=v0) (e:=h.setC v0 n0 (Lk c0)) (show St cx _ (gX p z fr g N (h.set v0 n0 (Lk c0)) out _) from hS));have hX:=bG (m:=m) (s:=KW h g fr inp out fu) (x:=x) Jo hv hn0 hc0;rintro v1 w1 (⟨hk4,he,rfl,hS⟩|⟨hk4,he,rfl,hS⟩|⟨he,rfl,hS⟩);all_goals (refine' TP;refine' Ri));all_goals (first|(first|exact AU|exact A3|exact AZ|exact A0|exact A2|exact Ba|exact Bm|exact Bl|exact Bk|exact Bg|exact Bz|exact Br|exact BE|exact Bt)|(have hS:=hS;rw [qD D7] at hS;exact Bh)|(rw [VK D7] at hS;exact Bh)|(rw [dG D7] at hS;exact Bt)))
                          | (refine' KO;refine' KV)
                         refine Qo ?_;refine zD (ci 12 [6,11]) ?_;have hS:=hS.drew;refine' zm;refine' Ma;refine' zm;refine QN hS vw rfl fd Js Js ?_;intro b3 o3 hel3;refine OY hS hel3 rfl fd rfl rfl ?_;refine' KU (c:=ZU v0 hS fd);rintro v1 w1 ⟨rfl,hS⟩;refine' S5;refine' Pz;refine' zm;refine QN hS vw rfl fd Js Js ?_;intro b5 o5 hel5;refine OY hS hel5 rfl fd rfl rfl ?_;refine' zm;refine' LU (c:=mY (v:=v0) (e:=(h.len v0).2) (show St cx _ (gX p z fr g N h out _) from hS));have hX:=kX (m:=m) (s:=KW h g fr inp out fu) (x:=x) Jo hv;rintro v1 w1 (⟨hk4,he,rfl,hS⟩|⟨hk4,he,rfl,hS⟩|⟨he,rfl,hS⟩);all_goals (refine' Mz;refine' UT;refine' zn)
                         all_goals
                          first
                          | (refine' KN;all_goals (refine' RV);all_goals ((exact Am)))
                          | (refine' KO;refine' KV)
                         refine' Lu;refine Nn [_,_,_,_] ?_;refine LK hS [_,_,_,_] ?_;intro b1 w1 hS;have hS:St cx _ (Pp (.slice (some ⟨b1,0,none⟩) 1 1) (Lk (h.len v0).1)::gX p z fr g N h out L):=(by have hS:=GS (T:=182) (es:=4) (css:=[Lk (h.len v0).1].map Val.cells) hS rfl (by simp [Val.cells]) rfl;exact AB);refine' KU (c:=Oi (vs:=[Lk (h.len v0).1]) Jo DI hS);rintro v1 w1 ⟨rfl,tv,hS⟩;refine' Ly;(first|exact AU|exact A3|exact AZ|exact A0|exact A2|exact Ba|exact Bm|exact Bl|exact Bk|exact Bg)))))))
end
end Go.Proofs.YteflkifmgnpbhaaGreat
namespace Go.Lir
def ME (n:Int):Prop:=-9223372036854775808≤n∧n≤9223372036854775807
theorem kY (n:Int):wr n=if n % 18446744073709551616≥9223372036854775808 then n % 18446744073709551616 - 18446744073709551616 else n % 18446744073709551616:=by
 unfold wr IntKind.wrap;simp [IntKind.bits,IntKind.signed]
theorem xP (n:Int):wr n=Int.bmod n (2 ^ 64):=by
 rw [kY,Int.bmod_def];have e:((2 ^ 64:Nat):Int)=18446744073709551616:=rfl;rw [e];split<;>split<;>omega
theorem kZ (h:ME n):wr n=n:=bQ h.1 h.2
theorem sg (n:Int):ME (wr n):=by
 unfold ME;rw [kY];split<;>omega
theorem fg (a b c:Int)(h:∃q,a=b+18446744073709551616*q):wr (a+c)=wr (b+c):=by
 obtain ⟨q,rfl⟩:=h;rw [kY,kY];have:(b+18446744073709551616*q+c) % 18446744073709551616=(b+c) % 18446744073709551616:=DB;rw [this]
theorem W9 (n:Int):∃q,wr n=n+18446744073709551616*q:=by
 rw [kY];split
 · exact ⟨-(n / 18446744073709551616) - 1,Jo⟩
 · exact ⟨-(n / 18446744073709551616),Jo⟩
theorem Xa (h:∃q,a=b+18446744073709551616*q):wr a=wr b:=by
 have:=fg a b 0 h
 simpa using this
theorem QfA (hb:ME b)(h0:b≠0):wr (a - wr (wr (a.tdiv b)*b))=a.tmod b:=by
 have e:a.tmod b=a - a.tdiv b*b:=by have:=Int.mul_tdiv_add_tmod a b;rw [Int.mul_comm] at this;omega
 have hin:ME (a.tmod b):=by
  have h1:=Int.natAbs_tmod a b;have h2:=JD a.natAbs (show b.natAbs>0 by omega);unfold ME at*;omega
 obtain ⟨q1,h1⟩:=W9 (a.tdiv b);obtain ⟨q2,h2⟩:=W9 (wr (a.tdiv b)*b);rw [←kZ hin,e];refine Xa ⟨-(q1*b) - q2,?_⟩;rw [h2,h1];rw [Int.add_mul,Int.mul_sub,Int.mul_neg,Int.mul_assoc];omega

theorem Qfy {n:Nat}(x y:BitVec n):(x|||y) - (x &&& y)=x ^^^ y:=by
 have h1:(x ^^^ y) &&& (x &&& y)=0#n:=by
  ext i hi
  simp;cases x[i]<;>cases y[i]<;>simp
 have h2:(x ^^^ y)+(x &&& y)=(x ^^^ y)|||(x &&& y):=BitVec.add_eq_or_of_and_eq_zero _ _ h1
 have h3:(x ^^^ y)|||(x &&& y)=x|||y:=by
  ext i hi
  simp;cases x[i]<;>cases y[i]<;>simp
 rw [←h3,←h2,BitVec.add_sub_cancel]

theorem sh (r:BitVec 64):IntKind.i64.wrap r.toNat=r.toInt:=by
 show wr _=_;rw [xP,BitVec.toInt_eq_toNat_bmod]

theorem Qgd (a b:Int):wr (Nr .or .i64 a b - Nr .and .i64 a b)=Nr .xor .i64 a b:=by
 unfold Nr;simp only [];have e1:=sh (BitVec.ofInt 64 a|||BitVec.ofInt 64 b);have e2:=sh (BitVec.ofInt 64 a &&& BitVec.ofInt 64 b);have e3:=sh (BitVec.ofInt 64 a ^^^ BitVec.ofInt 64 b);refine JF (congrArg wr (congr (congrArg _ e1) e2)) (JF ?_ e3.symm);rw [←Qfy,BitVec.toInt_sub,xP]
theorem fh (k a b:Int):ME (L0 k a b).1:=by
 have h0:ME 0:=(by unfold ME;omega);have h1:ME 1:=by unfold ME;omega
 have hd:ME (OI a b).1:=by
  unfold OI;split
  · exact h0
  · split<;>exact sg _
 unfold L0
 repeat' split
 all_goals first|exact sg _|exact h0|exact h1|exact hd|(unfold Nr;exact sg _)|(simp;done)
end Go.Lir
namespace Go.Proofs.YteflkifmgnpbhaaGreat
open Go.Lir
attribute [local irreducible] LC.wp Q0 Qr Qj Lo QJ LO.wp Q6 Calls
theorem fj (k a b : Int)(ha :ME a)(hb:ME b)(w:World):KK Tryz.prog Vb [.int .i64 k, .int .i64 a, .int .i64 b] w fun v w'=>v= .tuple #[.int .i64 (L0 k a b).1, .bool (L0 k a b).2]∧w'=w:=by
 have hb':=hb;have ha':=ha;unfold ME at ha' hb';have hm:=fun h=>QfA (a:=a) hb h;have hx:=Qgd a b
 have hd:b≠0→OI a b=(wr (a.tdiv b),true):=by
  intro h;unfold OI;rw [if_neg h];split
  · rename_i h1;subst h1;rw [Int.tdiv_neg,Int.tdiv_one,Int.zero_sub]
  · rfl
 (((have g4:b≠0→L0 4 a b=(wr (a.tdiv b),true):=fun h=>by simp [L0,hd h]);have g5:b≠0→L0 5 a b=(a.tmod b,true):=fun h=>by simp [L0,hd h,hm h]);have z4:b=0→L0 4 a b=(0,false):=(by rintro rfl;rfl);have z5:b=0→L0 5 a b=(0,false):=(by rintro rfl;rfl);have e4:L0 4 (-9223372036854775808) (-1)=(-9223372036854775808,true):=(by decide);have e5:L0 5 (-9223372036854775808) (-1)=(0,true):=(by decide);have g9:L0 9 a b=(wr (Nr .or .i64 a b - Nr .and .i64 a b),true):=(by rw [hx];rfl);refine KY KX Tryz.func122 ?_;refine' NW;refine' Mf;refine' M8;refine' K3;first|(refine' Qd)|(refine' Qi)|(refine' Ac<;>intro hc));all_goals (refine' K5)
 all_goals
  first
  | (refine' KN;refine' Lu;refine iB rfl rfl ?_;refine' O7;(refine ⟨_,rfl,?_,rfl⟩;first|(rw [‹a=_›,‹b=-1›,‹k=4›,e4])|(rw [‹a=_›,‹b=-1›,‹k=5›,e5])|(rw [‹k=4›,g4 ‹¬b=0›])|(rw [‹k=5›,g5 ‹¬b=0›])|(rw [‹k=4›,z4 ‹b=0›])|(rw [‹k=5›,z5 ‹b=0›])|(rw [‹k=9›,g9])|simp [L0, *]))
  | (refine' KO
     (refine' K3;first|(refine' Qd)|(refine' Qi)|(refine' Ac<;>intro hc));all_goals (refine' K5)
     all_goals
      first
      | (refine' KN;refine' Lu;refine' l6;refine' O7;(refine ⟨_,rfl,?_,rfl⟩;first|(rw [‹a=_›,‹b=-1›,‹k=4›,e4])|(rw [‹a=_›,‹b=-1›,‹k=5›,e5])|(rw [‹k=4›,g4 ‹¬b=0›])|(rw [‹k=5›,g5 ‹¬b=0›])|(rw [‹k=4›,z4 ‹b=0›])|(rw [‹k=5›,z5 ‹b=0›])|(rw [‹k=9›,g9])|simp [L0, *]))
      | (refine' KO
         (refine' K3;first|(refine' Qd)|(refine' Qi)|(refine' Ac<;>intro hc));all_goals (refine' K5)
         all_goals
          first
          | (refine' KN;refine' Lu;refine' pj;refine' O7;(refine ⟨_,rfl,?_,rfl⟩;first|(rw [‹a=_›,‹b=-1›,‹k=4›,e4])|(rw [‹a=_›,‹b=-1›,‹k=5›,e5])|(rw [‹k=4›,g4 ‹¬b=0›])|(rw [‹k=5›,g5 ‹¬b=0›])|(rw [‹k=4›,z4 ‹b=0›])|(rw [‹k=5›,z5 ‹b=0›])|(rw [‹k=9›,g9])|simp [L0, *]))
          | (refine' KO
             (refine Qo ?_;refine' K3;first|(refine' Qd)|(refine' Qi)|(refine' Ac<;>intro hc));all_goals (refine' K5)
             all_goals
              first
              | (refine' KN;refine' KV)
              | (refine' KO;(refine' Mm;first|(refine' Qd)|(refine' Qi)|(refine' Ac<;>intro hc));all_goals (refine' zm);all_goals (refine' zn))
             all_goals
              first
              | (refine' KN
                 all_goals (refine' NI;first|(refine' Qd)|(refine' Qi)|(refine' Ac<;>intro hc));all_goals (refine' zn)
                 all_goals
                  first
                  | (refine' KN;all_goals (refine' Sp);all_goals (refine ⟨_,rfl,?_,rfl⟩;first|(rw [‹a=_›,‹b=-1›,‹k=4›,e4])|(rw [‹a=_›,‹b=-1›,‹k=5›,e5])|(rw [‹k=4›,g4 ‹¬b=0›])|(rw [‹k=5›,g5 ‹¬b=0›])|(rw [‹k=4›,z4 ‹b=0›])|(rw [‹k=5›,z5 ‹b=0›])|(rw [‹k=9›,g9])|simp [L0, *]))
                  | (refine' KO;all_goals (refine' KV))
                 (all_goals (refine' NI;first|(refine' Qd)|(refine' Qi)|(refine' Ac<;>intro hc));all_goals (refine' Mr;first|refine' KP|(refine' KQ;(first|(refine' Qd)|(refine' Qi)|(refine' Ac<;>intro hc)))));all_goals ((first|refine Pr rfl DA ?_|refine Ra rfl DA ?_);refine' zn)
                 all_goals
                  first
                  | (refine' KN
                     all_goals (refine' NI;refine' aS;refine' zn)
                     all_goals
                      first
                      | (refine' KN;refine' Sp;(refine ⟨_,rfl,?_,rfl⟩;first|(rw [‹a=_›,‹b=-1›,‹k=4›,e4])|(rw [‹a=_›,‹b=-1›,‹k=5›,e5])|(rw [‹k=4›,g4 ‹¬b=0›])|(rw [‹k=5›,g5 ‹¬b=0›])|(rw [‹k=4›,z4 ‹b=0›])|(rw [‹k=5›,z5 ‹b=0›])|(rw [‹k=9›,g9])|simp [L0, *]))
                      | (refine' KO;refine' KV)
                     all_goals (refine' Sp);all_goals (refine ⟨_,rfl,?_,rfl⟩;first|(rw [‹a=_›,‹b=-1›,‹k=4›,e4])|(rw [‹a=_›,‹b=-1›,‹k=5›,e5])|(rw [‹k=4›,g4 ‹¬b=0›])|(rw [‹k=5›,g5 ‹¬b=0›])|(rw [‹k=4›,z4 ‹b=0›])|(rw [‹k=5›,z5 ‹b=0›])|(rw [‹k=9›,g9])|simp [L0, *]))
                  | (refine' KO;all_goals (refine' KV))
                 all_goals (refine' NI;refine' aS;refine' zn)
                 all_goals
                  first
                  | (refine' KN;all_goals (refine' Lu;refine au rfl rfl Jo ?_;refine' O7);all_goals (refine ⟨_,rfl,?_,rfl⟩;first|(rw [‹a=_›,‹b=-1›,‹k=4›,e4])|(rw [‹a=_›,‹b=-1›,‹k=5›,e5])|(rw [‹k=4›,g4 ‹¬b=0›])|(rw [‹k=5›,g5 ‹¬b=0›])|(rw [‹k=4›,z4 ‹b=0›])|(rw [‹k=5›,z5 ‹b=0›])|(rw [‹k=9›,g9])|simp [L0, *]))
                  | (refine' KO;all_goals (refine' KV))
                 all_goals (refine' Lu;refine iD rfl rfl Jo ?_;refine' O7);all_goals (refine ⟨_,rfl,?_,rfl⟩;first|(rw [‹a=_›,‹b=-1›,‹k=4›,e4])|(rw [‹a=_›,‹b=-1›,‹k=5›,e5])|(rw [‹k=4›,g4 ‹¬b=0›])|(rw [‹k=5›,g5 ‹¬b=0›])|(rw [‹k=4›,z4 ‹b=0›])|(rw [‹k=5›,z5 ‹b=0›])|(rw [‹k=9›,g9])|simp [L0, *]))
              | (refine' KO
                 (refine' K3;first|(refine' Qd)|(refine' Qi)|(refine' Ac<;>intro hc));all_goals (refine' K5)
                 all_goals
                  first
                  | (refine' KN
                     (refine' PB;first|(refine' LG)|(refine' LM)|(refine' Ae<;>intro hc));all_goals (refine' zn)
                     all_goals
                      first
                      | (refine' KN;refine' Mj;refine' zn)
                      | (refine' KO;refine' KV)
                     all_goals (refine' Lu;refine' YB);all_goals (refine ⟨_,rfl,?_,rfl⟩;first|(rw [‹a=_›,‹b=-1›,‹k=4›,e4])|(rw [‹a=_›,‹b=-1›,‹k=5›,e5])|(rw [‹k=4›,g4 ‹¬b=0›])|(rw [‹k=5›,g5 ‹¬b=0›])|(rw [‹k=4›,z4 ‹b=0›])|(rw [‹k=5›,z5 ‹b=0›])|(rw [‹k=9›,g9])|simp [L0, *]))
                  | (refine' KO
                     (refine' K3;first|(refine' Qd)|(refine' Qi)|(refine' Ac<;>intro hc));all_goals (refine' K5)
                     all_goals
                      first
                      | (refine' KN
                         (refine' PB;first|(refine' Qd)|(refine' Qi)|(refine' Ac<;>intro hc));all_goals (refine' zn)
                         all_goals
                          first
                          | (refine' KN;refine' Mj;refine' zn)
                          | (refine' KO;refine' KV)
                         all_goals (refine' Lu;refine' YB);all_goals (refine ⟨_,rfl,?_,rfl⟩;first|(rw [‹a=_›,‹b=-1›,‹k=4›,e4])|(rw [‹a=_›,‹b=-1›,‹k=5›,e5])|(rw [‹k=4›,g4 ‹¬b=0›])|(rw [‹k=5›,g5 ‹¬b=0›])|(rw [‹k=4›,z4 ‹b=0›])|(rw [‹k=5›,z5 ‹b=0›])|(rw [‹k=9›,g9])|simp [L0, *]))
                      | (refine' KO
                         (refine' K3;first|(refine' Qd)|(refine' Qi)|(refine' Ac<;>intro hc));all_goals (refine' K5)
                         all_goals
                          first
                          | (refine' KN;refine' Lu;refine T9 rfl rfl ?_;refine' O7;(refine ⟨_,rfl,?_,rfl⟩;first|(rw [‹a=_›,‹b=-1›,‹k=4›,e4])|(rw [‹a=_›,‹b=-1›,‹k=5›,e5])|(rw [‹k=4›,g4 ‹¬b=0›])|(rw [‹k=5›,g5 ‹¬b=0›])|(rw [‹k=4›,z4 ‹b=0›])|(rw [‹k=5›,z5 ‹b=0›])|(rw [‹k=9›,g9])|simp [L0, *]))
                          | (refine' KO
                             (refine' K3;first|(refine' Qd)|(refine' Qi)|(refine' Ac<;>intro hc));all_goals (refine' K5)
                             all_goals
                              first
                              | (refine' KN;refine' Lu;refine nN rfl rfl ?_;refine' M7;refine T9 rfl rfl ?_;refine' l6;refine' O7;(refine ⟨_,rfl,?_,rfl⟩;first|(rw [‹a=_›,‹b=-1›,‹k=4›,e4])|(rw [‹a=_›,‹b=-1›,‹k=5›,e5])|(rw [‹k=4›,g4 ‹¬b=0›])|(rw [‹k=5›,g5 ‹¬b=0›])|(rw [‹k=4›,z4 ‹b=0›])|(rw [‹k=5›,z5 ‹b=0›])|(rw [‹k=9›,g9])|simp [L0, *]))
                              | (refine' KO;refine' KV))))))))
 refine' Sp;(refine ⟨_,rfl,?_,rfl⟩;first|(rw [‹a=_›,‹b=-1›,‹k=4›,e4])|(rw [‹a=_›,‹b=-1›,‹k=5›,e5])|(rw [‹k=4›,g4 ‹¬b=0›])|(rw [‹k=5›,g5 ‹¬b=0›])|(rw [‹k=4›,z4 ‹b=0›])|(rw [‹k=5›,z5 ‹b=0›])|(rw [‹k=9›,g9])|simp [L0, *])
theorem fk {k:Int}(ha:ME a)(hb:ME b)(hS:St cx w L):KK Tryz.prog Vb [.int .i64 k, .int .i64 a, .int .i64 b] w fun v w'=>v= .tuple #[.int .i64 (L0 k a b).1, .bool (L0 k a b).2]∧St cx w' L:=
 (fj k a b ha hb w).mono fun _ _ ⟨h1,h2⟩=>⟨h1,by rw [h2];exact hS⟩
end Go.Proofs.YteflkifmgnpbhaaGreat
namespace Go.Lir
section
variable {m:Module}{s:MS}{x:Ins}
theorem si (h2:x.op=2)(hn:s.g.num x.a=none∨s.g.num x.b=none):s.ins m x= .lost:=by
 rw [qw h2]
 cases ha:s.g.num x.a with
 | none=>rfl
 | some n=>rw [Ql rfl,PJ (hn.resolve_left (by rw [ha];exact fun h=>by cases h))]
theorem sj (h2:x.op=2)(ha:s.g.num x.a=some a)(hb:s.g.num x.b=some b)(hd:(L0 x.k a b).2=false):s.ins m x= .halt 1:=by rw [qw h2,Ql ha,Ql hb,if_pos hd]
theorem sk (h2:x.op=2)(ha:s.g.num x.a=some a)(hb:s.g.num x.b=some b)(hd:(L0 x.k a b).2=true):s.ins m x= .go (s.put [Lk (L0 x.k a b).1]):=by rw [qw h2,Ql ha,Ql hb,if_neg (by rw [hd];decide)]
end
end Go.Lir
namespace Go.Proofs.YteflkifmgnpbhaaGreat
open Go.Lir
attribute [local irreducible] LC.wp Q0 Qr Qj Lo QJ LO.wp Q6 Calls
section
variable {cx:Cx}{w:World}{L:List Res}{p N:Nat}{z:GZ}{fr:List FrmV}{g:FrmV}{h:HpS}{out inp:List Int}{fu:Nat}{m:Module}
theorem fm (hS:St cx w (sl 182 4 g.vv (g.vals.map Val.cells)::sl 3 1 g.rv (Qv g.regs)::LF FrmV.res1 fr::L)):St cx w (LF FrmV.res1 (fr++[g])::L):=
 Jy (f:=FrmV.res1) (x:=g) (H9 hS)
theorem xQ:((fr.map FrmV.abs).reverse).length=fr.length:=by rw [Ig,FF]
theorem mZ:Qv l++[[.int .i64 n]]=Qv (l++[n]):=by unfold Qv;rw [Ga];rfl
attribute [local irreducible] Frm.val Frm.num Frm.args Frm.rgs Frm.reg Lm MS.ins MS.call HpS.get HpS.set HpS.setC HpS.len HpS.code HpS.put HpS.putV HpS.open HpS.shut HpS.full HpS.openV HpS.can HpS.tuple HpS.arr HpS.arrC HpS.arrV L0 Mv
theorem fo (hx:Lz.at cx cs x)(hfn:K8.sl cx z.fn m.funcs)(hi:KM.sl cx z.iv inp)(hop:1≤x.op∧x.op≤14)(hk:x.op=14→0≤x.k∧x.k<m.funcs.length)(h6:x.regs.length≤100)(h8:x.args.length≤100)(hgi:g.i≤1000)(hf:fr.length≤900)(hn:g.vals.length≤800000)(hrn:g.regs.length≤800000)(hN:N≤99999)(hol:out.length≤2000)(hrg:∀v∈g.vals,ME v.n)(hS:St cx w (gX p z fr g N h out L)):
 KK Tryz.prog Qe4 [.pointer (some ⟨p,0,none⟩), .agg ⟨cs⟩] w (GQ p z N fu h out ((KW h g.nx fr inp out fu).ins m x) cx L):=by
 (obtain ⟨vr,va,rfl,hr,ha⟩:=QY hx;have hil:=hi.len;have hfl:=hfn.len;have hnn:g.nx.vals.length≤800000:=hn;refine KY KX Tryz.func74 ?_;refine' Lx;intro p3 w1 hS;refine' OS;obtain ⟨lv,rv,ho,hS⟩:=PN (p:=p) (z:=z) (fr:=fr) (g:=g) (N:=N) (h:=h) (out:=out) (L:=N5 p3 x vr va::L) hS.sp;refine' Mj;refine' Lf (c:=SO Jo hS);rintro v1 w1 ⟨b9,o9,rfl,hel,hS⟩;refine' ML;refine Q5 hS hel rfl fd (Qu fr g) (QE fr g) rfl ?_;refine' NH;rw [show ((g.i:Int)+1)=((g.i+1:Nat):Int) by omega];refine' ML;refine RL hS hel rfl vw fd (Qu fr g) (QE fr g) Jo rfl (Y4 (g':=g.nx) rfl) ?_;intro w8 hS;have hS:=hS.ns;have hS:St cx _ (gX p z fr g.nx N h out (N5 p3 x vr va::L)):=QX ho hS.sp;refine' MM;refine' Ot;refine' S6;refine' K3;first|(refine' Qd)|(refine' Qi)|(refine' Ac<;>intro hc));all_goals (refine' K5)
 all_goals
  first
  | (refine' KN;refine' O6;refine Nn [_,_,_,_] ?_;refine LK hS [_,_,_,_] ?_;intro b1 w1 hS;have hS:St cx _ (Pp (.slice (some ⟨b1,0,none⟩) 1 1) (Lk x.n)::gX p z fr g.nx N h out L):=(by have hS:=GS (T:=182) (es:=4) (css:=[Lk x.n].map Val.cells) hS rfl (by simp [Val.cells]) rfl;exact AB);refine' KU (c:=Oi (vs:=[Lk x.n]) Jo DI hS);rintro v1 w1 ⟨rfl,tv,hS⟩;have hG:GQ p z N fu h out ((KW h g.nx fr inp out fu).ins m x) cx L (.int .i64 0) _:=Hr (g':=g.nx.push tv [Lk x.n]) (dM Jo) hi (Gg N) rfl hS;refine' Ly;(exact AD))
  | (refine' KO
     (refine' K3;first|(refine' Qd)|(refine' Qi)|(refine' Ac<;>intro hc));all_goals (refine' K5)
     all_goals
      first
      | (refine' KN
         refine' O6;refine' Lw;refine uj hS [_,_] ?_;intro b1 w1 hS;have hS:St cx _ (sl 3 1 (.slice (some ⟨b1,0,none⟩) 2 2) (Qv [x.a,x.b])::gX p z fr g.nx N h out (N5 p3 x vr va::L)):=(by have hS:=GS (T:=3) (es:=1) (css:=Qv [x.a,x.b]) hS rfl (by simp [Qv]) rfl;exact AB);refine' KU (c:=bE Jo hS);rintro v1 w1 (⟨na,nb,sn,hna,hnb,ho2,rfl,hS⟩|⟨hna,sn,rfl,hS⟩);all_goals (refine' TM)
         all_goals
          first
          | (refine' KN;refine Qo ?_;have hG:GQ p z N fu h out ((KW h g.nx fr inp out fu).ins m x) cx L (.int .i64 2) _:=Ha (si Jo hna) hS fun _ _ hS=>hS.sp;refine' Pn;(exact AD))
          | (refine' KO;refine' KV)
         refine Qo ?_;refine zD (ci 14 [8,13]) ?_;have hS:=hS.drew;refine' Lw;refine' zm;refine QN hS vw rfl fd Js Js ?_;intro b2 o2 hel2;refine Qx hS hel2 rfl fd rfl rfl rfl ?_;refine' zm;refine QN hS vw rfl fd Js Js ?_;intro b3 o3 hel3;refine Qx hS hel3 rfl fd rfl rfl rfl ?_;obtain ⟨v8,hv8,e8⟩:=r5 hna;obtain ⟨v7,hv7,e7⟩:=r5 hnb;refine' LU (c:=fk (by rw [←e8];exact hrg v8 hv8) (by rw [←e7];exact hrg v7 hv7) hS);rintro v1 w1 ⟨rfl,hS⟩;cases hd:(L0 x.k na nb).2;all_goals (refine' TM)
         all_goals
          first
          | (refine' KN;refine' Ls;refine' KU (c:=Pf 1 (show St cx _ (gX p z fr g.nx N h out _) from hS));rintro v1 w1 ⟨rfl,hS⟩;have hG:GQ p z N fu h out ((KW h g.nx fr inp out fu).ins m x) cx L (.int .i64 1) _:=Im (fr':=fr) (g':=g.nx) (N':=N) (sj Jo hna hnb hd) (Gg N) rfl hS.sp;refine' Ly;(exact AD))
          | (refine' KO;refine' KV)
         refine' Lu;refine Nn [_,_,_,_] ?_;refine LK hS [_,_,_,_] ?_;intro b1 w1 hS;have hS:St cx _ (Pp (.slice (some ⟨b1,0,none⟩) 1 1) (Lk (L0 x.k na nb).1)::gX p z fr g.nx N h out L):=(by have hS:=GS (T:=182) (es:=4) (css:=[Lk (L0 x.k na nb).1].map Val.cells) hS rfl (by simp [Val.cells]) rfl;exact AB);refine' KU (c:=Oi (vs:=[Lk (L0 x.k na nb).1]) Jo DI hS);rintro v1 w1 ⟨rfl,tv,hS⟩;have hG:GQ p z N fu h out ((KW h g.nx fr inp out fu).ins m x) cx L (.int .i64 0) _:=Hr (g':=g.nx.push tv [Lk (L0 x.k na nb).1]) (sk Jo hna hnb hd) hi (Gg N) rfl hS;refine' Ly;(exact AD))
      | (refine' KO
         (refine' K3;first|(refine' Qd)|(refine' Qi)|(refine' Ac<;>intro hc));all_goals (refine' K5)
         all_goals
          first
          | (refine' KN
             refine' Xw;refine' Lf (c:=W1 (N:=N) (s:=h) Jo hS fd);rintro v1 w1 ⟨rfl,hS⟩;have hS:=hS.ns;cases hfu:h.full;all_goals (refine' Sm;intro p8 w1 hS;refine Rb hS rfl rfl Jr fd Js (XC _) Jr ?_;intro w1 hS;have hS:=hS.ns;refine' gA)
             all_goals
              first
              | (refine' KN;refine' Ls;rw [Y8 hfu] at hS;have hS:St cx _ (gX p z fr g.nx (N+1) h out L):=hS.sp;refine' KU (c:=Pf 6 hS);rintro v1 w1 ⟨rfl,hS⟩;have hG:GQ p z N fu h out ((KW h g.nx fr inp out fu).ins m x) cx L (.int .i64 1) _:=Im ((mv Jo).trans (dO hfu)) (F6 _) rfl hS;refine' Ly;(exact AD))
              | (refine' KO;refine' KV)
             refine Qo ?_;obtain ⟨lv,rv,ho,hS⟩:=PN (p:=p) (z:=z) (fr:=fr) (g:=g.nx) (N:=N+1) (h:=h.open) (out:=out) (L:=blk p8 182 h.openV.cells::N5 p3 x vr va::L) hS.sp;refine Ru 1 9 Jk ?_ ?_
             · skip
               refine Ru 3 9 Jk ?_ ?_
               · skip;refine zC [(0,none),(2,none),(7,none),(8,none),(1,some (some [8])),(3,some (some [8])),(4,none),(5,none),(6,none),(9,some (some [6])),(10,some none),(11,none),(12,none),(13,some none)] ?_;have hS:=hS.drew;refine' O3;refine' zm;refine' PY;refine' Lf (c:=SO Jo (show St cx _ (gL p z lv h.open.left fr g.nx _) from hS.sp));rintro v1 w1 ⟨b8,o8,rfl,hel8,hS⟩;refine' MG;refine' Lf (c:=SO Jo (show St cx _ (gL p z lv h.open.left fr g.nx _) from hS.sp));rintro v1 w1 ⟨b7,o7,rfl,hel7,hS⟩;refine' Ni;refine' TS;refine Q5 hS hel7 rfl fd (Qu fr g.nx) (QE fr g.nx) rfl ?_;refine' My;refine LK hS [_] ?_;intro b1 w1 hS;refine' zt;refine ⟨FG.2 ⟨(by (exact Qw hS hel7 rfl fd (Qu fr g.nx) (QE fr g.nx) rfl)),fun _ h=>(FQ h).elim⟩,?_⟩;refine' L5;refine Ow SC (.inl Tg) hS vw vw (v:=g.rv) (css:=Qv g.regs) fd (hS.srcB fd Jr DH) DS ?_;intro v7 w7 hS;have hS:=hS.ns;refine' Ll;refine' Xt;refine' M6;refine' Mb;refine RL hS hel8 rfl vw fd (Qu fr g.nx) (QE fr g.nx) Jo (hS.oneC (v:=v7) (css:=Qv g.regs++[[.int .i64 h.openV.region]]) fd) (Y4 (g':=⟨g.f,g.b,g.i+1,g.vv,g.vals,v7,g.regs++[h.openV.region]⟩) rfl) ?_;intro w8 hS;have hS:=hS.ns;rw [mZ] at hS;have hS:St cx _ (gX p z fr ⟨g.f,g.b,g.i+1,g.vv,g.vals,v7,g.regs++[h.openV.region]⟩ (N+1) h.open out (blk p8 182 h.openV.cells::L)):=QX ho hS.sp;refine' LV;refine' YD;refine LK hS [_,_,_,_] ?_;intro b1 w1 hS;have hS:St cx _ (Pp (.slice (some ⟨b1,0,none⟩) 1 1) h.openV::gX p z fr ⟨g.f,g.b,g.i+1,g.vv,g.vals,v7,g.regs++[h.openV.region]⟩ (N+1) h.open out L):=Ey;refine' KU (c:=Oi (vs:=[h.openV]) Jo DI hS);rintro v1 w1 ⟨rfl,tv,hS⟩;have hG:GQ p z N fu h out ((KW h g.nx fr inp out fu).ins m x) cx L (.int .i64 0) _:=Hr ((mv Jo).trans (qE hfu)) hi (F6 _) rfl hS;refine' Ly;(exact ⟨_,rfl,hG⟩)
               · skip;refine zC [(0,none),(2,none),(7,none),(8,none),(1,some (some [8])),(9,some (some [])),(3,some (some [8])),(4,none),(5,none),(6,none),(10,some none),(11,none),(12,none),(13,some none)] ?_;have hS:=hS.drew;refine' O3;refine' zm;refine' PY;refine' Lf (c:=SO Jo (show St cx _ (gL p z lv h.open.left fr g.nx _) from hS.sp));rintro v1 w1 ⟨b8,o8,rfl,hel8,hS⟩;refine' MG;refine LK hS [_] ?_;intro b1 w1 hS;refine' zt;refine ⟨fun _ h=>(FQ h).elim,?_⟩;refine' RI;refine' Lf (c:=SO Jo (show St cx _ (gL p z lv h.open.left fr g.nx _) from hS.sp));rintro v1 w1 ⟨b7,o7,rfl,hel7,hS⟩;refine' Ni;refine' TS;refine Q5 hS hel7 rfl fd (Qu fr g.nx) (QE fr g.nx) rfl ?_;refine' Mb;refine Ow SC (.inl Tg) hS vw vw (v:=g.rv) (css:=Qv g.regs) fd (hS.srcB fd Jr DH) DS ?_;intro v7 w7 hS;have hS:=hS.ns;refine' Ll;refine' Xt;refine' M6;refine' Mb;refine RL hS hel8 rfl vw fd (Qu fr g.nx) (QE fr g.nx) Jo (hS.oneC (v:=v7) (css:=Qv g.regs++[[.int .i64 h.openV.region]]) fd) (Y4 (g':=⟨g.f,g.b,g.i+1,g.vv,g.vals,v7,g.regs++[h.openV.region]⟩) rfl) ?_;intro w8 hS;have hS:=hS.ns;rw [mZ] at hS;have hS:St cx _ (gX p z fr ⟨g.f,g.b,g.i+1,g.vv,g.vals,v7,g.regs++[h.openV.region]⟩ (N+1) h.open out (blk p8 182 h.openV.cells::L)):=QX ho hS.sp;refine' LV;refine' YD;refine LK hS [_,_,_,_] ?_;intro b1 w1 hS;have hS:St cx _ (Pp (.slice (some ⟨b1,0,none⟩) 1 1) h.openV::gX p z fr ⟨g.f,g.b,g.i+1,g.vv,g.vals,v7,g.regs++[h.openV.region]⟩ (N+1) h.open out L):=Ey;refine' KU (c:=Oi (vs:=[h.openV]) Jo DI hS);rintro v1 w1 ⟨rfl,tv,hS⟩;have hG:GQ p z N fu h out ((KW h g.nx fr inp out fu).ins m x) cx L (.int .i64 0) _:=Hr ((mv Jo).trans (qE hfu)) hi (F6 _) rfl hS;refine' Ly;(exact ⟨_,rfl,hG⟩)
             · skip;refine zC [(0,none),(2,none),(7,none),(8,none),(9,some (some [])),(1,some (some [8])),(3,some (some [8])),(4,none),(5,none),(6,none),(10,some none),(11,none),(12,none),(13,some none)] ?_;have hS:=hS.drew;refine' O3;refine' zm;refine' PY;refine LK hS [_] ?_;intro b1 w1 hS;refine' zt;refine ⟨fun _ h=>(FQ h).elim,?_⟩;refine' RI;refine' Lf (c:=SO Jo (show St cx _ (gL p z lv h.open.left fr g.nx _) from hS.sp));rintro v1 w1 ⟨b8,o8,rfl,hel8,hS⟩;refine' MG;refine' Lf (c:=SO Jo (show St cx _ (gL p z lv h.open.left fr g.nx _) from hS.sp));rintro v1 w1 ⟨b7,o7,rfl,hel7,hS⟩;refine' Ni;refine' TS;refine Q5 hS hel7 rfl fd (Qu fr g.nx) (QE fr g.nx) rfl ?_;refine' Mb;refine Ow SC (.inl Tg) hS vw vw (v:=g.rv) (css:=Qv g.regs) fd (hS.srcB fd Jr DH) DS ?_;intro v7 w7 hS;have hS:=hS.ns;refine' Ll;refine' Xt;refine' M6;refine' Mb;refine RL hS hel8 rfl vw fd (Qu fr g.nx) (QE fr g.nx) Jo (hS.oneC (v:=v7) (css:=Qv g.regs++[[.int .i64 h.openV.region]]) fd) (Y4 (g':=⟨g.f,g.b,g.i+1,g.vv,g.vals,v7,g.regs++[h.openV.region]⟩) rfl) ?_;intro w8 hS;have hS:=hS.ns;rw [mZ] at hS;have hS:St cx _ (gX p z fr ⟨g.f,g.b,g.i+1,g.vv,g.vals,v7,g.regs++[h.openV.region]⟩ (N+1) h.open out (blk p8 182 h.openV.cells::L)):=QX ho hS.sp;refine' LV;refine' YD;refine LK hS [_,_,_,_] ?_;intro b1 w1 hS;have hS:St cx _ (Pp (.slice (some ⟨b1,0,none⟩) 1 1) h.openV::gX p z fr ⟨g.f,g.b,g.i+1,g.vv,g.vals,v7,g.regs++[h.openV.region]⟩ (N+1) h.open out L):=Ey;refine' KU (c:=Oi (vs:=[h.openV]) Jo DI hS);rintro v1 w1 ⟨rfl,tv,hS⟩;have hG:GQ p z N fu h out ((KW h g.nx fr inp out fu).ins m x) cx L (.int .i64 0) _:=Hr ((mv Jo).trans (qE hfu)) hi (F6 _) rfl hS;refine' Ly;(exact AD))
          | (refine' KO
             (refine' K3;first|(refine' Qd)|(refine' Qi)|(refine' Ac<;>intro hc));all_goals (refine' K5)
             all_goals
              first
              | (refine' KN
                 (refine' Nx;obtain ⟨lv,rv,ho,hS⟩:=PN hS;obtain ⟨av,nv,hiv⟩:=FK hi;refine' RZ;refine iU vw hi ?_;first|(refine' Qd)|(refine' Qi)|(refine' Ac<;>intro hc));all_goals (refine' zn)
                 all_goals
                  first
                  | (refine' KN;refine' Ls;have hS:St cx _ (gX p z fr g.nx N h out L):=QX ho hS.sp;refine' KU (c:=Pf 4 hS);rintro v1 w1 ⟨rfl,hS⟩;have hG:GQ p z N fu h out ((KW h g.nx fr inp out fu).ins m x) cx L (.int .i64 1) _:=Im ((vJ Jo).trans (qF (GP.1 (by show inp.length=0;omega)))) (Gg N) rfl hS;refine' Ly;(exact AD))
                  | (refine' KO;refine' KV)
                 refine Qo ?_;obtain ⟨n0,r0,hir⟩:∃n0 r0,inp=n0::r0:=Jq Jo;refine' RZ;(refine TA (m:=0) vw rfl hi rfl Jo ?_;intro b8 o8 cs8 x8 hat8 hx8 he8;rw [hir,Gl] at hx8;cases hx8;obtain rfl:=QB he8);refine' N8;refine' K5;refine' Lu;refine' Oa;refine iV (l':=1) (h':=inp.length) vw hi rfl rfl rfl ⟨_,rfl⟩ Jo Jo ?_;intro v7 hk7;have hk7:KM.sl cx v7 r0:=(by rw [hir] at hk7;simpa using hk7);have ho7:oneC v7=true:=(by obtain ⟨a7,n7,e7⟩:=FK hk7;rw [e7];rfl);refine' Ma;((refine Mi hS ?_;intro w1 hS;have hS:=hS.ns));refine' zn;refine' Lu;refine Nn [_,_,_,_] ?_;refine LK hS [_,_,_,_] ?_;intro b1 w1 hS;have hS:St cx _ (Pp (.slice (some ⟨b1,0,none⟩) 1 1) (Lk n0)::gX p (z.upd z.fv v7 z.ov) fr g.nx N h out L):=(by have hS:=GS (T:=182) (es:=4) (css:=[Lk n0].map Val.cells) hS rfl (by simp [Val.cells]) rfl;have hS:St cx _ (gX p (z.upd z.fv v7 z.ov) fr g.nx N h out (Pp (.slice (some ⟨b1,0,none⟩) 1 1) (Lk n0)::L)):=QX ho hS.sp;exact AB);refine' KU (c:=Oi (vs:=[Lk n0]) Jo DI hS);rintro v1 w1 ⟨rfl,tv,hS⟩;have hG:GQ p z N fu h out ((KW h g.nx fr inp out fu).ins m x) cx L (.int .i64 0) _:= .inl ⟨z.fv,v7,z.ov,fr,g.nx.push tv [Lk n0],N,h,r0,out,(vJ Jo).trans (qG hir),hk7,Gg N,rfl,hS⟩;refine' Ly;(exact AD))
              | (refine' KO
                 (refine' K3;first|(refine' Qd)|(refine' Qi)|(refine' Ac<;>intro hc));all_goals (refine' K5)
                 all_goals
                  first
                  | (refine' KN
                     refine' O6;refine LK hS [_] ?_;intro b1 w1 hS;have hS:St cx _ (sl 3 1 (.slice (some ⟨b1,0,none⟩) 1 1) (Qv [x.a])::gX p z fr g.nx N h out (N5 p3 x vr va::L)):=EX;refine' KU (c:=ZZ Jo hS);rintro v1 w1 (⟨n0,sn,hn0,ho2,rfl,hS⟩|⟨hn0,sn,rfl,hS⟩);all_goals (refine' TM)
                     all_goals
                      first
                      | (refine' KN;refine Qo ?_;have hG:GQ p z N fu h out ((KW h g.nx fr inp out fu).ins m x) cx L (.int .i64 2) _:=Ha ((qC Jo).trans (PJ hn0)) hS fun _ _ hS=>hS.sp;refine' Pn;(exact AD))
                      | (refine' KO;refine' KV)
                     (refine' Nx;obtain ⟨lv,rv,ho,hS⟩:=PN hS;refine' Mj;refine' Sn;refine QL (n:=out.length) hS vw fd (FF _) ?_;first|(refine' Qd)|(refine' Qi)|(refine' Ac<;>intro hc));all_goals (refine' zn)
                     all_goals
                      first
                      | (refine' KN;refine' Ls;have hS:St cx _ (gX p z fr g.nx N h out L):=QX ho hS.sp;refine' KU (c:=Pf 8 hS);rintro v1 w1 ⟨rfl,hS⟩;have hG:GQ p z N fu h out ((KW h g.nx fr inp out fu).ins m x) cx L (.int .i64 1) _:=Im ((qC Jo).trans ((Ql hn0).trans (j5 (by show out.length=2000;omega)))) (Gg N) rfl hS;refine' Ly;(exact AD))
                      | (refine' KO;refine' KV)
                     refine Qo ?_;refine zC [(0,none),(1,none),(2,none),(3,none),(4,none),(5,none),(6,none),(7,none),(8,none),(9,some (some [5])),(10,some (some [])),(11,none),(12,none),(13,none),(14,some none)] ?_;have hS:=hS.drew;refine' Td;refine' UX;refine' Rz;refine zl hS ?_;refine' M9;refine QN hS vw rfl fd Js Js ?_;intro b2 o2 hel2;refine' Ll;refine Qx hS hel2 rfl fd rfl rfl rfl ?_;refine' My;refine LK hS [_] ?_;intro b1 w1 hS;refine' zt;refine ⟨FG.2 ⟨(by first|(exact Qw (j:=0) hS hel2 rfl fd rfl rfl rfl)|(exact Az)),fun _ h=>(FQ h).elim⟩,?_⟩;refine' RI;refine Ow YT (.inl aX) hS vw vw (v:=z.ov) (css:=Qv out) fd (hS.srcB fd Jr DH) DS ?_;intro v7 w7 hS;have hS:=hS.ns;have ho7:=hS.oneC (v:=v7) (css:=Qv out++[[.int .i64 n0]]) fd;rw [mZ] at hS;refine' zt;refine ⟨fun _ h=>(FQ h).elim,?_⟩;refine' LP;refine' UX;refine' M6;refine' Mb;refine Mi hS ?_;intro w1 hS;have hS:=hS.ns;refine' LV;refine Qo ?_;have hS:St cx _ (gX p (z.upd z.fv z.iv v7) fr g.nx N h (out++[n0]) L):=QX ho hS.sp;have hG:GQ p z N fu h out ((KW h g.nx fr inp out fu).ins m x) cx L (.int .i64 0) _:= .inl ⟨z.fv,z.iv,v7,fr,g.nx,N,h,inp,out++[n0],(qC Jo).trans ((Ql hn0).trans (j6 (by show out.length≠2000;omega))),hi,Gg N,rfl,hS⟩;refine' Pn;(exact AD))
                  | (refine' KO
                     (refine' K3;first|(refine' Qd)|(refine' Qi)|(refine' Ac<;>intro hc));all_goals (refine' K5)
                     all_goals
                      first
                      | (refine' KN
                         (((refine' O6;refine' KU (c:=bD Jo Jo hr (show St cx _ (gX p z fr g.nx N h out _) from hS));rintro v1 w1 (⟨rs,sr,hrs,hrl,ho1,rfl,hS⟩|⟨hrs,rfl,hS⟩);all_goals (refine' S5;refine' Mz;refine' Lw;refine' KU (c:=kR Jo Jo ha (show St cx _ (gX p z fr g.nx N h out _) from hS));rintro v1 w1 (⟨vs,sw,hvs,hvl,ho2,rfl,hS⟩|⟨hvs,rfl,hS⟩)));all_goals (refine' S5;refine' OS;obtain ⟨lv,rv,ho,hS⟩:=PN hS;have hk0:=(hk Jo).1;have hk1:=(hk Jo).2;refine zC [(0,none),(1,none),(2,none),(3,none),(4,none),(5,none),(6,none),(7,none),(8,none),(9,some (some [4,6,8])),(10,some none)] ?_;have hS:=hS.drew;refine' TQ;refine' js;refine' Nh;refine' Ll;refine' zj;intro b1 o1 cs1 x1 hat1 hx1 he1;obtain ⟨vp1,vr1,vb1,rfl,hp1,hr1,hb1⟩:=QC he1;have hX:=(Y6 (m:=m) (s:=KW h g.nx fr inp out fu) (x:=x) Jo).trans (dK hx1);refine' U1;intro p17 w1 hS;refine' Nj;refine K1 hS ?_;intro w1 hS;have hS:=hS.ns;refine' LV;refine' NI;refine' Pm;refine' Mr;refine' OG;refine' PE;refine' Yx;refine' Nv;first|refine' KP|(refine' KQ;(first|(refine' QG)|(refine' QI)|(refine' Ad<;>intro hc)))));all_goals (refine' PE;refine' Yx;refine' Nv;refine' Ng;first|refine' KP|(refine' KQ;(first|(refine' QG)|(refine' QI)|(refine' Ad<;>intro hc)))));all_goals (refine' LH)
                         all_goals
                          first
                          | (refine' KN;all_goals (refine Qo ?_;have hG:GQ p z N fu h out ((KW h g.nx fr inp out fu).ins m x) cx L (.int .i64 2) _:=Ha (out2:=out) (h2:=h) (N2:=N) (fr:=fr) (g:=g.nx) (L':=L) Fc (QX ho hS.sp) fun _ _ hS=>hS;refine' Pn);all_goals (exact AD))
                          | (refine' KO;refine' KV)
                         (refine' NI;refine' Oa;refine QL hS vw fd (Qu fr g.nx) ?_;first|(refine' Qd)|(refine' Qi)|(refine' Ac<;>intro hc));all_goals (refine' zn)
                         all_goals
                          first
                          | (refine' KN;refine' Ls;have hS:St cx _ (gX p z fr g.nx N h out L):=QX ho hS.sp;refine' KU (c:=Pf 5 hS);rintro v1 w1 ⟨rfl,hS⟩;have hG:GQ p z N fu h out ((KW h g.nx fr inp out fu).ins m x) cx L (.int .i64 1) _:=Im (hX.trans ((Ql hrs).trans ((Ql hvs).trans ((if_neg Jo).trans (if_pos (by show ((fr.map FrmV.abs).reverse).length+1=40;rw [xQ];omega)))))) (Gg N) rfl hS;refine' Ly;(exact AD))
                          | (refine' KO;refine' KV)
                         refine Qo ?_;obtain ⟨a1,n1,e1⟩:=hS.shape (v:=sr) (css:=Qv rs) fd;obtain ⟨a2,n2,e2⟩:=hS.shape (v:=sw) (css:=vs.map Val.cells) fd;rw [e1,e2];refine zC [(0,none),(1,none),(2,none),(3,none),(4,none),(5,none),(6,none),(7,none),(8,none),(9,none),(10,some (some [4])),(11,some (some [])),(12,none),(13,none),(14,some none)] ?_;have hS:=hS.drew;refine' Td;refine' Sv;refine' Nh;refine' M9;refine' TJ;refine OF [_,_,_,_,_] ?_;refine' My;refine LK hS [_,_,_,_,_] ?_;intro b1 w1 hS;refine' MG;refine Ow QiA (.inl QgB) hS vw vw (v:=z.fv) (css:=Pb fr g.nx) fd (hS.srcB fd Jr (by simp [oneC,ho1,ho2])) (by rw [Qu];simp only [FP,F8];omega) ?_;intro v7 w7 hS;have hS:=hS.ns;have ho7:=hS.oneC (v:=v7) fd;refine' Ni;refine' Xt;refine' MR;refine' Mb;((refine Mi hS ?_;intro w1 hS;have hS:=hS.ns));refine' LV;refine Qo ?_;rw [←e1,←e2] at hS;rw [show (Value.int .i64 x.k)= .int .i64 ((x.k.toNat:Nat):Int) by rw [Gh hk0]] at hS;have e9:Pb fr g.nx++[[.int .i64 ((x.k.toNat:Nat):Int), .int .i64 0, .int .i64 0,sw,sr]]=Pb (fr++[g.nx]) ⟨x.k.toNat,0,0,sw,vs,sr,rs⟩:=Qhl (g':=⟨x.k.toNat,0,0,sw,vs,sr,rs⟩);rw [e9] at hS;have hS:=fm (g:=g.nx) (fr:=fr) (L:=MP (z.upd v7 z.iv z.ov) p lv h.left::sl 119 5 v7 (Pb (fr++[g.nx]) ⟨x.k.toNat,0,0,sw,vs,sr,rs⟩)::sl 182 4 sw (vs.map Val.cells)::sl 3 1 sr (Qv rs)::sl 131 4 lv (rv.map RgnV.cells)::LF (RgnV.res H1) rv::sl 2 1 z.ov (Qv out)::L) hS.sp;have hS:St cx _ (gX p (z.upd v7 z.iv z.ov) (fr++[g.nx]) ⟨x.k.toNat,0,0,sw,vs,sr,rs⟩ N h out L):=QX ho hS.sp;have hG:GQ p z N fu h out ((KW h g.nx fr inp out fu).ins m x) cx L (.int .i64 0) _:= .inl ⟨v7,z.iv,z.ov,fr++[g.nx],⟨x.k.toNat,0,0,sw,vs,sr,rs⟩,N,h,inp,out,hX.trans ((Ql hrs).trans ((Ql hvs).trans ((if_neg Jo).trans ((if_neg (by show¬((fr.map FrmV.abs).reverse).length+1=40;rw [xQ];omega)).trans (by rw [QhS];rfl))))),hi,Gg N,rfl,hS⟩;refine' Pn;(exact AD))
                      | (refine' KO;refine' KV)))
             refine' YD;refine' KU (c:=ff (m:=m) (inp:=inp) (fu:=fu) hx hi Jo h8 Jo hnn hN (show St cx _ (gX p z fr g.nx N h out L) from hS.sp));intro u9 w9 hG;refine' Ly;(exact AD))))
end
section
variable {cx:Cx}{w:World}{L:List Res}{p N:Nat}{z:GZ}{fr:List FrmV}{g:FrmV}{h:HpS}{out inp:List Int}{fu:Nat}{m:Module}
@[reducible] def FrmV.fb (g:FrmV)(b:Nat):FrmV:=⟨g.f,b,g.i,g.vv,g.vals,g.rv,g.regs⟩
@[reducible] def FrmV.fi (g:FrmV)(i:Nat):FrmV:=⟨g.f,g.b,i,g.vv,g.vals,g.rv,g.regs⟩
@[reducible] def FrmV.fv (g:FrmV)(v:Value)(l:List Val):FrmV:=⟨g.f,g.b,g.i,v,l,g.rv,g.regs⟩
attribute [local irreducible] Frm.val Frm.num Frm.args Frm.rgs Frm.reg
theorem Xb (hx:toR.at cx cs t)(hfn:K8.sl cx z.fn m.funcs)(hi:KM.sl cx z.iv inp)(hfx:m.funcs[g.f]?=some f)(hb0:0≤t.block)(hb1:t.block<f.blocks.length)(h6:t.regs.length≤100)(h8:t.args.length≤100)(hf:fr.length≤1000)(hS:St cx w (gX p z fr g N h out L)):
 KK Tryz.prog Qg9 [.pointer (some ⟨p,0,none⟩), .agg ⟨cs⟩] w (GQ p z N fu h out ((KW h g fr inp out fu).to f t) cx L):=by
 (((obtain ⟨vr,va,rfl,hr,ha⟩:=SX hx;have hfl:=hfn.len;have hgf:=(FD.1 hfx).1;refine KY KX Tryz.func127 ?_;refine' Lx;intro p3 w1 hS;refine' OS;obtain ⟨lv,rv,ho,hS⟩:=PN (p:=p) (z:=z) (fr:=fr) (g:=g) (N:=N) (h:=h) (out:=out) (L:=blk p3 88 [.int .i64 t.block,vr,va]::L) hS.sp;refine' Mj;refine' Lf (c:=SO hf hS);rintro v1 w1 ⟨b9,o9,rfl,hel,hS⟩;refine' OS;refine zC [(0,none),(1,none),(2,none),(3,none),(4,none),(5,none),(6,none),(7,none),(8,none),(9,none),(10,none),(11,none),(12,none),(13,none),(14,none),(15,none),(16,some (some [4,8,11,13,15])),(17,some none)] ?_;have hS:=hS.drew;refine' TQ;refine' js;refine' M9;refine' TS;refine Qx hS hel rfl fd (Qu fr g) (QE fr g) rfl ?_;refine' Ll;refine' zi;intro b8 o8 cs8 x8 hat8 hx8 he8;obtain rfl:f=x8:=FY (hfx.symm.trans hx8);obtain ⟨vp8,vr8,vb8,rfl,hp8,hr8,hb8⟩:=QC he8;refine' Ll;refine' Rz;refine' Yy;refine' Nh;refine' Ll;refine' zj;intro b1 o1 cs1 x1 hat1 hx1 he1;obtain ⟨vp1,vc1,e1,e2,e3,e4,e5,rfl,hp1,hc1,he11,he12,he13,he14,he15⟩:=OZ he1;have hX:=qu (s:=KW h g fr inp out fu) hx1;refine' U1;intro p6 w1 hS;refine' zt;refine ⟨FG.2 ⟨(by first|(exact A6)|(exact Az)),FG.2 ⟨(by (exact A6)),FG.2 ⟨(by first|(exact A6)|(exact Az)|(exact iS hS Ja rfl rfl)|(exact ga hS Ja rfl rfl)),FG.2 ⟨(by first|(exact A6)|(exact Az)),FG.2 ⟨(by first|(exact A6)|(exact AP)|(exact A9)),fun _ h=>(FQ h).elim⟩⟩⟩⟩⟩,?_⟩;refine' L5;refine K1 hS ?_;intro w1 hS;have hS:=hS.ns;refine' LV;refine' O6;refine' KU (c:=bD Jo hf hr (show St cx _ (gX p z fr g N h out _) from QX ho hS.sp));rintro v1 w1 (⟨rs,sr,hrs,hrl,ho1,rfl,hS⟩|⟨hrs,rfl,hS⟩);all_goals (refine' S5;refine' Mz;refine' Lw;refine' KU (c:=kR Jo hf ha (show St cx _ (gX p z fr g N h out _) from hS));rintro v1 w1 (⟨vs,sw,hvs,hvl,ho2,rfl,hS⟩|⟨hvs,rfl,hS⟩)));all_goals (refine' S5;refine' Pz;refine' Pm;refine' Mr;refine' OG;refine' PE;refine' Yx;refine' Nv;first|refine' KP|(refine' KQ;(first|(refine' QG)|(refine' QI)|(refine' Ad<;>intro hc)))));all_goals (refine' PE;refine' Yx;refine' Nv;refine' Ng;first|refine' KP|(refine' KQ;(first|(refine' QG)|(refine' QI)|(refine' Ad<;>intro hc)))));all_goals (refine' LH)
 all_goals
  first
  | (refine' KN;all_goals (refine Qo ?_;have hG:GQ p z N fu h out ((KW h g fr inp out fu).to f t) cx L (.int .i64 2) _:=Ha Fc hS fun _ _ hS=>hS.sp;refine' Pn);all_goals (exact AD))
  | (refine' KO;refine' KV)
 refine Qo ?_;obtain ⟨lv,rv,ho,hS⟩:=PN hS;have eb:Value.int .i64 t.block= .int .i64 ((t.block.toNat:Nat):Int):=(by rw [Gh hb0]);refine' RX;refine' zm;refine' Lw;refine' M7;refine' ML;refine RL hS hel rfl vw fd (Qu fr g) (QE fr g) Jo rfl (Y4 (g':=g.fb t.block.toNat) (by rw [eb];rfl)) ?_;intro w8 hS;have hS:=hS.ns;refine' ML;refine RL hS hel rfl vw fd (Qu fr (g.fb t.block.toNat)) (QE fr (g.fb t.block.toNat)) Jo rfl (Y4 (g':=(g.fb t.block.toNat).fi 0) rfl) ?_;intro w8 hS;have hS:=hS.ns;refine' ML;refine RL hS hel rfl vw fd (Qu fr ((g.fb t.block.toNat).fi 0)) (QE fr ((g.fb t.block.toNat).fi 0)) Jo ho2 (Y4 (g':=((g.fb t.block.toNat).fi 0).fv sw vs) rfl) ?_;intro w8 hS;have hS:=hS.ns;refine' ML;refine RL hS hel rfl vw fd (Qu fr (((g.fb t.block.toNat).fi 0).fv sw vs)) (QE fr (((g.fb t.block.toNat).fi 0).fv sw vs)) Jo ho1 (Y4 (g':=⟨g.f,t.block.toNat,0,sw,vs,sr,rs⟩) rfl) ?_;intro w8 hS;have hS:=hS.ns;refine' MM;have hS:St cx _ (gX p z fr ⟨g.f,t.block.toNat,0,sw,vs,sr,rs⟩ N h out L):=QX ho hS.sp;have hG:GQ p z N fu h out ((KW h g fr inp out fu).to f t) cx L (.int .i64 0) _:=Hr (hX.trans ((Ql hrs).trans ((Ql hvs).trans (if_neg Jo)))) hi (Gg N) rfl hS;refine' Pn;((exact AD))
end
end Go.Proofs.YteflkifmgnpbhaaGreat
namespace Go.Lir
theorem Z1 {l:List Val}(h:∀x∈l,x.kind=1):Lm l=some (l.map Val.n):=by
 induction l with
 | nil=>rfl
 | cons v l ih=>rw [VL (h v Js),ih fun x hx=>h x D0];rfl
theorem Z2 {l:List Val}(h:¬∀x∈l,x.kind=1):Lm l=none:=by
 induction l with
 | nil=>exact absurd Js h
 | cons v l ih=>
   by_cases hk:v.kind=1
   · rw [VL hk,ih fun h2=>h fun x hx=>by rcases FX.1 hx with rfl|hx;(exact hk);exact h2 x hx];rfl
   · exact dL hk
end Go.Lir
namespace Go.Proofs.YteflkifmgnpbhaaGreat
open Go.Lir
attribute [local irreducible] LC.wp Q0 Qr Qj Lo QJ LO.wp Q6 Calls
section
variable {cx:Cx}{w:World}{L:List Res}{p N:Nat}{z:GZ}{fr:List FrmV}{g:FrmV}{h:HpS}{out inp:List Int}{fu:Nat}{m:Module}
theorem GQ.drop {r:Res}(hG:GQ p z N fu h out X cx (r::L) u w):GQ p z N fu h out X cx L u w:=by
 rcases hG with ⟨fv,iv,ov,fr',g',N',h',inp',out',h1,h2,h3,h4,hS⟩|⟨e,fr',g',N',h1,h2,h3,hS⟩|⟨l,bv,fr',g',N',h1,h2,h3,h4,hS⟩|⟨h1,h2,lv,left,hS⟩
 · exact .inl ⟨fv,iv,ov,fr',g',N',h',inp',out',h1,h2,h3,h4,hS.sp⟩
 · exact .inr (.inl ⟨e,fr',g',N',h1,h2,h3,hS.sp⟩)
 · exact .inr (.inr (.inl ⟨l,bv,fr',g',N',h1,h2,h3,h4,hS.sp⟩))
 · exact .inr (.inr (.inr ⟨h1,h2,lv,left,hS.sp⟩))
theorem fp {k:FrmV}(hS:St cx w (LF FrmV.res1 (fr++[k])::L)):St cx w (sl 182 4 k.vv (k.vals.map Val.cells)::sl 3 1 k.rv (Qv k.regs)::LF FrmV.res1 fr::L):=by
 have h1:=hS.bigOut (i:=0) (k:=fr.length) (x:=k) rfl Js;have h2:(fr++[k]).eraseIdx fr.length=fr:=E0;rw [FM,h2] at h1;exact J4 h1
@[reducible] def Tq (b:Nat)(e:Tail)(v1 v2 v3 v4 v5:Value):Res:=blk b 90 [.int .i64 e.op, .int .i64 e.a, .int .i64 e.yes.block,v1,v2, .int .i64 e.no.block,v3,v4,v5]
attribute [local irreducible] Frm.val Frm.num Frm.args Frm.rgs Frm.reg Lm MS.to MS.ret GQ
theorem GQ.lost' (hX:X= .lost)(hS:St cx w (gX p z fr g N2 h2 out2 L'))(hsub:∀lv left,St cx w (MP z p lv left::L')→St cx w (MP z p lv left::L)):GQ p z N fu h out X cx L (.int .i64 2) w:=Ha hX hS hsub
abbrev Kr:=@GQ.lost'
theorem fq {e:Tail}(hx:LZ.at cx cs e)(hfn:K8.sl cx z.fn m.funcs)(hi:KM.sl cx z.iv inp)(hfx:m.funcs[g.f]?=some f)(h8:e.args.length≤100)(hop:e.op=3)(hf:fr.length≤900)(hn:∀x∈fr,x.vals.length≤900000)(hS:St cx w (gX p z fr g N h out L)):
 KK Tryz.prog uy [.pointer (some ⟨p,0,none⟩), .agg ⟨cs⟩] w (GQ p z N fu h out ((KW h g fr inp out fu).ret f e) cx L):=by
 (obtain ⟨v1,v2,v3,v4,v5,rfl,k1,k2,k3,k4,k5⟩:=RM hx;have hfl:=hfn.len;have hgf:=(FD.1 hfx).1;refine KY KX Tryz.func75 ?_;refine' Lx;intro p3 w1 hS;refine' Sq;refine' S6;refine Qo ?_;have hS:St cx _ (gX p z fr g N h out (Tq p3 e v1 v2 v3 v4 v5::L)):=hS.sp;refine' Mm;refine' gz;refine' KO;refine' Po;refine' Si;refine' O6;refine' KU (c:=kR Jo Jo k5 (show St cx _ (gX p z fr g N h out _) from hS));rintro u1 w1 (⟨vs,sw,hvs,hvl,ho2,rfl,hS⟩|⟨hvs,rfl,hS⟩);all_goals (refine' S5;refine' S8;obtain ⟨lv,rv,ho,hS⟩:=PN hS;refine zC [(0,none),(1,none),(2,none),(3,none),(4,none),(5,none),(6,none),(7,none),(8,none),(9,none),(10,none),(11,some (some [9])),(12,none),(13,none),(14,none),(15,none),(16,none),(17,none),(18,none),(19,none),(20,some none)] ?_;have hS:=hS.drew;refine' O3;refine' Pm;refine' M9;refine' MT;refine' Ll;refine' Yx;refine' Ll;refine' MT;refine' Ll;refine' aR;refine' Ll;refine' Nf;refine' Ll;refine' Nf;refine' Ll;refine' TH;refine' Ll;refine' MT;refine' My;(first|(refine' KP)|(refine' KQ;refine' Lf (c:=SO Jo (show St cx _ (gL p z lv h.left fr g _) from hS));rintro v9 w1 ⟨b9,o9,rfl,hel,hS⟩));refine' Ni;refine' aR;refine' Ll;refine' NC;refine' Ll;(first|(refine' KP)|(refine' KQ;refine Qx hS hel rfl fd (Qu fr g) (QE fr g) rfl ?_));refine' Ll;(first|(refine' KP)|(refine' KQ;refine' zi;intro b8 o8 cs8 x8 hat8 hx8 he8;obtain rfl:f=x8:=FY (hfx.symm.trans hx8);obtain ⟨vp8,vr8,vb8,rfl,hp8,hr8,hb8⟩:=QC he8));refine' Ll;refine' NC;refine' Ll;refine' l3;refine' Ll;refine' Ng;refine' Ll;first|refine' KP|(refine' KQ;(first|(refine' QG)|(refine' QI)|(refine' Ad<;>intro hc)))));all_goals (refine' Mb;refine' MK;refine' LV)
 all_goals
  first
  | (refine' KN;all_goals (refine Qo ?_;have hG:GQ p z N fu h out ((KW h g fr inp out fu).ret f e) cx L (.int .i64 2) _:=Kr (out2:=out) (h2:=h) (N2:=N) (fr:=fr) (g:=g) (L':=L) (by first|exact j0 hvs|exact j1 hvs Jo) (QX ho hS.sp) fun _ _ hS=>hS;refine' Pn);all_goals (exact AD))
  | (refine' KO;refine' KV)
 (refine' NI;refine' Oa;refine QL hS vw fd (Qu fr g) ?_;first|(refine' QO)|(refine' QV)|(refine' Af<;>intro hc));all_goals (refine' zn)
 all_goals
  first
  | (refine' KN;obtain ⟨fr0,k,rfl⟩:∃fr0 k,fr=fr0++[k]:=(by rcases HE fr with rfl|⟨fr0,k,hk⟩;(exact absurd hc Js);exact ⟨fr0,k,by simpa using hk⟩);have hl1:(fr0++[k]).length=fr0.length+1:=DN;have hst:(KW h g (fr0++[k]) inp out fu).st=k.abs::(fr0.map FrmV.abs).reverse:=(by unfold KW;simp);have hkn:=hn k Js;refine Qo ?_;refine zD (ci 15 [14]) ?_;have hS:=hS.drew;refine' M7;refine' Oa;refine' Sz;refine QL (n:=fr0.length+2) hS vw fd (by rw [Qu];omega) ?_;refine' PV;rw [show ((fr0.length+2:Nat):Int) - 1=(((fr0++[k]).length:Nat):Int) by omega];refine Un (l':=0) (h':=(fr0++[k]).length) hS vw fd rfl ⟨_,rfl⟩ rfl (by rw [Qu];omega) Jo ?_;intro v7 hS;rw [VM] at hS;have hS:=hS.ns;have ho7:=hS.oneC (v:=v7) fd;refine' Ma;((refine Mi hS ?_;intro w1 hS;have hS:=hS.ns));refine' MM;have hS:=fp (fr:=fr0) (k:=k) (L:=MP (z.upd v7 z.iv z.ov) p lv h.left::sl 119 5 v7 (Pb fr0 k)::sl 182 4 sw (vs.map Val.cells)::sl 131 4 lv (rv.map RgnV.cells)::LF (RgnV.res H1) rv::sl 2 1 z.ov (Qv out)::L) hS.sp;have hS:St cx _ (gX p (z.upd v7 z.iv z.ov) fr0 k N h out (sl 182 4 sw (vs.map Val.cells)::L)):=QX ho hS.sp;refine' NJ;have hS:St cx _ (sl 182 4 sw (vs.map Val.cells)::gX p (z.upd v7 z.iv z.ov) fr0 k N h out L):=hS.sp;refine' KU (c:=Oi Jo Jo hS);rintro u1 w1 ⟨rfl,tv,hS⟩;have hG:GQ p z N fu h out ((KW h g (fr0++[k]) inp out fu).ret f e) cx L (.int .i64 0) _:=(by unfold GQ;exact .inl ⟨v7,z.iv,z.ov,fr0,k.push tv vs,N,h,inp,out,j2 hvs Jo hst,hi,Gg N,rfl,hS⟩);refine' Ly;(exact AD))
  | (refine' KO;obtain rfl:fr=[]:=GP.1 Jo;refine' KV)
 refine' O6;refine' KU (c:=W6 Jo Js k5 (show St cx _ (gX p z [] g N h out _) from QX ho hS.sp));rintro u1 w1 (⟨vs2,sn,b9,hvs2,hvl2,ho3,hb9,rfl,hS⟩|⟨hvs2,rfl,hS⟩);rotate_left;rw [hvs] at hvs2;cases hvs2;rw [hvs] at hvs2;cases hvs2;cases b9;all_goals (refine' TM)
 all_goals
  first
  | (refine' KN;refine Qo ?_;have hG:GQ p z N fu h out ((KW h g [] inp out fu).ret f e) cx L (.int .i64 2) _:=Kr (j4 hvs Jo rfl (Z2 fun hh=>absurd (hb9.2 hh) Jd)) hS fun _ _ hS=>hS.sp;refine' Pn;(exact AD))
  | (refine' KO;refine' KV)
 refine Qo ?_;obtain ⟨lv,rv,ho,hS⟩:=PN hS;refine' NJ;refine' UU;((refine Mi hS ?_;intro w1 hS;have hS:=hS.ns));refine' MM;have hS:St cx _ (gX p (z.bk sn) [] g N h out (sl 2 1 sn (Qv (vs.map Val.n))::L)):=QX (z:=z.bk sn) ho hS.sp;refine' Mj;refine' KU (c:=Pf 0 hS);rintro u1 w1 ⟨rfl,hS⟩;have hG:GQ p z N fu h out ((KW h g [] inp out fu).ret f e) cx L (.int .i64 1) _:=(by unfold GQ;exact .inr (.inr (.inl ⟨vs.map Val.n,sn,[],g,N,j3 hvs Jo rfl (Z1 (hb9.1 rfl)),Gg N,by rw [FF];omega,rfl,hS⟩)));refine' Ly;((exact AD))
end
section
variable {cx:Cx}{w:World}{L:List Res}{p N:Nat}{z:GZ}{fr:List FrmV}{g:FrmV}{h:HpS}{out inp:List Int}{fu:Nat}{m:Module}
attribute [local irreducible] Frm.val Frm.num Frm.args Frm.rgs Frm.reg Lm MS.to MS.ret GQ
theorem fw {e:Tail}(hx:LZ.at cx cs e)(hfn:K8.sl cx z.fn m.funcs)(hi:KM.sl cx z.iv inp)(hfx:m.funcs[g.f]?=some f)(he:gJ f e)(hf:fr.length≤900)(hn:∀x∈fr,x.vals.length≤900000)(hS:St cx w (gX p z fr g N h out L)):
 KK Tryz.prog uy [.pointer (some ⟨p,0,none⟩), .agg ⟨cs⟩] w (GQ p z N fu h out ((KW h g fr inp out fu).fin f e) cx L):=by
 obtain ⟨h8,hop,hy,hno⟩:=he;rcases (show e.op=1∨e.op=2∨e.op=3 by omega) with h1|h1|h1
 · have hX:(KW h g fr inp out fu).fin f e=(KW h g fr inp out fu).to f e.yes:=if_pos h1;obtain ⟨⟨y1,y2⟩,y3,y4⟩:=hy Jo;rw [hX];obtain ⟨v1,v2,v3,v4,v5,rfl,k1,k2,k3,k4,k5⟩:=RM hx;refine KY KX Tryz.func75 ?_;refine' Lx;intro p3 w1 hS;refine' Sq;refine' S6;refine Qo ?_;have hS:St cx _ (gX p z fr g N h out (Tq p3 e v1 v2 v3 v4 v5::L)):=hS.sp;refine' Mm;refine' Qd;refine' K5;refine' KN;refine' Ls;refine' PC;refine' KU (c:=Xb (t:=e.yes) (inp:=inp) (fu:=fu) ⟨_,_,rfl,k1,k2⟩ hfn hi hfx y1 y2 y3 y4 Jo hS);intro u1 w1 hG;refine' Ly;((exact ⟨_,rfl,hG.drop⟩))
 · have hX:(KW h g fr inp out fu).fin f e=Md (g.abs.num e.a) fun n=>if n≠0 then (KW h g fr inp out fu).to f e.yes else (KW h g fr inp out fu).to f e.no:=(if_neg Jo).trans (if_pos h1)
   obtain ⟨⟨y1,y2⟩,y3,y4⟩:=hy Jo;obtain ⟨⟨n1,n2⟩,n3,n4⟩:=hno h1;rw [hX];obtain ⟨v1,v2,v3,v4,v5,rfl,k1,k2,k3,k4,k5⟩:=RM hx;refine KY KX Tryz.func75 ?_;refine' Lx;intro p3 w1 hS;refine' Sq;refine' S6;refine Qo ?_;have hS:St cx _ (gX p z fr g N h out (Tq p3 e v1 v2 v3 v4 v5::L)):=hS.sp;refine' Mm;refine' gz;refine' KO;refine' K3;refine' Qd;refine' K5;refine' KN;refine' O6;refine LK hS [_] ?_;intro b1 w1 hS;have hS:St cx _ (sl 3 1 (.slice (some ⟨b1,0,none⟩) 1 1) (Qv [e.a])::gX p z fr g N h out (Tq p3 e v1 v2 v3 v4 v5::L)):=(by have hS:=GS (T:=3) (es:=1) (css:=Qv [e.a]) hS rfl (by simp [Qv]) rfl;exact AB);refine' KU (c:=ZZ Jo hS);rintro u1 w1 (⟨n0,sn,hn0,ho2,rfl,hS⟩|⟨hn0,sn,rfl,hS⟩);all_goals (refine' TM)
   all_goals
    first
    | (refine' KN;refine Qo ?_;have hG:GQ p z N fu h out (Md (g.abs.num e.a) fun n=>if n≠0 then (KW h g fr inp out fu).to f e.yes else (KW h g fr inp out fu).to f e.no) cx L (.int .i64 2) _:=Kr (PJ hn0) hS fun _ _ hS=>hS.sp;refine' Pn;(exact AD))
    | (refine' KO;refine' KV)
   (refine' NI;rw [Ql hn0];refine QN hS vw rfl fd Js Js ?_;intro b2 o2 hel2;refine Qx hS hel2 rfl fd rfl rfl rfl ?_;first|(refine' Qd)|(refine' Qi)|(refine' Ac<;>intro hc));all_goals (refine' zn)
   all_goals
    first
    | (refine' KN;refine Qo ?_;rw [if_neg (show¬n0≠0 by omega)];refine' Mj;refine' PC;refine' KU (c:=Xb (t:=e.no) (inp:=inp) (fu:=fu) ⟨_,_,rfl,k3,k4⟩ hfn hi hfx n1 n2 n3 n4 Jo (show St cx _ (gX p z fr g N h out (Tq p3 e v1 v2 v3 v4 v5::L)) from hS.sp));intro u1 w1 hG;have hG:=hG.drop;refine' Ly;(exact AD))
    | (refine' KO;refine' KV)
   refine Qo ?_;rw [if_pos (show n0≠0 by omega)];refine' Mj;refine' PC;refine' KU (c:=Xb (t:=e.yes) (inp:=inp) (fu:=fu) ⟨_,_,rfl,k1,k2⟩ hfn hi hfx y1 y2 y3 y4 Jo (show St cx _ (gX p z fr g N h out (Tq p3 e v1 v2 v3 v4 v5::L)) from hS.sp));intro u1 w1 hG;have hG:=hG.drop;refine' Ly;((exact AD))
 · have hX:(KW h g fr inp out fu).fin f e=(KW h g fr inp out fu).ret f e:=(if_neg Jo).trans (if_neg Jo);rw [hX];exact fq hx hfn hi hfx h8 h1 hf hn hS
end
section
variable {cx:Cx}{w:World}{L:List Res}{p N:Nat}{z:GZ}{fr:List FrmV}{g:FrmV}{h:HpS}{out inp:List Int}{fu:Nat}{m:Module}
@[reducible] def GZ.tick (z:GZ):GZ:=⟨z.fn,z.fv,z.iv,z.e,z.bv,z.ov,z.fu+1,z.mo,z.dn,z.c,z.a⟩
@[reducible] def GZ.stk (z:GZ)(c a:Int):GZ:=⟨z.fn,z.fv,z.iv,z.e,z.bv,z.ov,z.fu,z.mo,z.dn,c,a⟩
def xR (p:Nat)(z:GZ)(N fu most:Nat)(h:HpS)(out:List Int)(X:Stp)(at_:Int)(fr:List FrmV)(g:FrmV)(cx:Cx)(L:List Res)(u:Value)(w':World):Prop:=
 (fu=most∧u=Lg (0,0)∧St cx w' (gX p (z.end 7) fr g N h out L))
 ∨(fu≠most∧u=Lg (0,0)∧∃k,k≠2∧GQ p z.tick N (fu+1) h out X cx L (.int .i64 k) w')
 ∨(fu≠most∧X= .lost∧u=Lg (20,at_)∧∃lv left,St cx w' (MP (z.tick.stk 20 at_) p lv left::L))
attribute [local irreducible] Frm.val Frm.num Frm.args Frm.rgs Frm.reg Lm MS.ins MS.fin MS.one MS.place
theorem Z3 {b:Block}(hfn:K8.sl cx z.fn m.funcs)(hi:KM.sl cx z.iv inp)(hfx:m.funcs[g.f]?=some f)(hbx:f.blocks[g.b]?=some b)(hci:∀x∈b.code,Qgb m x)(hce:gJ f b.fin)(hgi:g.i≤1000)(kf:g.f≤1000000)(kb:g.b≤1000000)(hf:fr.length≤900)(hn:g.vals.length≤800000)(hrn:g.regs.length≤800000)(hfr:∀x∈fr,x.vals.length≤900000)(hN:N≤99999)(hol:out.length≤2000)(hrg:∀v∈g.vals,ME v.n)(hdn:z.dn=false)(hc0:z.c=0)(ha0:z.a=0)(hfu:z.fu=fu)(hmo:z.mo=most)(hfm:fu≤1000000)(hS:St cx w (gX p z fr g N h out L)):
 KK Tryz.prog ur [.pointer (some ⟨p,0,none⟩)] w (xR p z N fu most h out ((KW h g fr inp out (fu+1)).one m) ((KW h g fr inp out fu).place m) fr g cx L):=by
 (have hgf:=(FD.1 hfx).1;have hgb:=(FD.1 hbx).1;refine KY KX Tryz.func24 ?_;refine' RW;intro p2 w1 hS;refine' MM;refine Qo ?_;obtain ⟨lv,rv,ho,hS⟩:=PN (p:=p) (fr:=fr) (g:=g) (N:=N) (h:=h) (out:=out) (L:=blk p2 29 [.int .i64 0, .int .i64 0]::L) hS.sp;refine' RZ;rw [hdn];refine' RY;refine' Tb;refine' jq;refine' LH;refine' Si;refine' Nx;refine zD (ci 10 [9]) ?_;have hS:=hS.drew;refine' zm;refine' Sn;refine' Sz;first|(refine' Qd)|(refine' Qi)|(refine' Ac<;>intro hc));all_goals (refine' zn)
 all_goals
  first
  | (refine' KN;refine' Ls;have hS:St cx _ (gX p z fr g N h out (blk p2 29 [.int .i64 0, .int .i64 0]::L)):=QX ho hS.sp;refine' KU (c:=Pf 7 hS);rintro v1 w1 ⟨rfl,hS⟩;refine' U5;refine M5 [_,_] ?_;refine K1 hS ?_;intro w1 hS;have hS:=hS.ns;refine' Mu;refine Mp vw (Q2 (n:=2) Jk Jk (hS.blkAt fd) Jr Jr) ?_;(exact Bf))
  | (refine' KO;refine' KV)
 (refine' Ls;refine' Sn;refine' NH;refine' UU;refine Mi hS ?_;intro w1 hS;have hS:=hS.ns;refine' Nb;refine' Lf (c:=SO (z:=z.tick) Jo (show St cx _ (gL p z.tick lv h.left fr g _) from hS.sp));rintro v1 w1 ⟨b9,o9,rfl,hel,hS⟩;refine' OS;refine zC [(0,none),(1,none),(2,none),(3,none),(4,none),(5,none),(6,none),(7,none),(8,none),(9,none),(10,none),(11,none),(12,none),(13,none),(14,none),(15,none),(16,none),(17,none),(18,some (some [4,8,11,15,17])),(19,some none)] ?_;have hS:=hS.drew;refine' TQ;refine' js;refine' M9;refine' TS;refine Qx hS hel rfl fd (Qu fr g) (QE fr g) rfl ?_;refine' Ll;refine' zi;intro b8 o8 cs8 x8 hat8 hx8 he8;obtain rfl:f=x8:=FY (hfx.symm.trans hx8);obtain ⟨vp8,vr8,vb8,rfl,hp8,hr8,hb8⟩:=QC he8;refine' Ll;refine' Rz;refine' Yy;refine' M9;refine' TS;refine Q5 (j:=1) hS hel rfl fd (Qu fr g) (QE fr g) rfl ?_;refine' Ll;refine' zi;intro b7 o7 cs7 x7 hat7 hx7 he7;obtain rfl:b=x7:=FY (hbx.symm.trans hx7);obtain ⟨vp7,vc7,u1,u2,u3,u4,u5,rfl,hp7,hc7,hu1,hu2,hu3,hu4,hu5⟩:=OZ he7;refine' U1;intro p4 w1 hS;refine' zt;refine ⟨FG.2 ⟨(by first|(exact Aj)|(exact Az)),FG.2 ⟨(by (exact A6)),FG.2 ⟨(by first|(exact Aj)|(exact Az)|(exact iS hS Ja rfl rfl)|(exact ga hS Ja rfl rfl)),FG.2 ⟨(by (exact Aj)),FG.2 ⟨(by first|(exact Aj)|(exact AP)|(exact A9)),fun _ h=>(FQ h).elim⟩⟩⟩⟩⟩,?_⟩;refine' L5;refine K1 hS ?_;intro w1 hS;have hS:=hS.ns;refine' LV;refine Qo ?_;refine zD (ci 10 [8,9]) ?_;have hS:=hS.drew;refine' PG;refine Qx hS hel rfl fd (Qu fr g) (QE fr g) rfl ?_;refine' PG;refine Q5 (j:=1) hS hel rfl fd (Qu fr g) (QE fr g) rfl ?_;refine' KU (c:=qH g.f g.b kf kb hS);rintro v1 w1 ⟨rfl,hS⟩;refine' K5;refine' Mf;refine' Nx;refine zD (ci 8 [7]) ?_;have hS:=hS.drew;refine' PG;refine Q5 (j:=2) hS hel rfl fd (Qu fr g) (QE fr g) rfl ?_;refine' Lw;refine' zL;first|(refine' LG)|(refine' LM)|(refine' Ae<;>intro hc));all_goals (refine' zn)
 all_goals
  first
  | (refine' KN
     refine Qo ?_;refine zD (ci 14 [12,13]) ?_;have hS:=hS.drew;refine' PG;refine Qx hS hel rfl fd (Qu fr g) (QE fr g) rfl ?_;refine' PG;refine Q5 (j:=1) hS hel rfl fd (Qu fr g) (QE fr g) rfl ?_;refine' PG;refine Q5 (j:=2) hS hel rfl fd (Qu fr g) (QE fr g) rfl ?_;refine' LU (c:=qI g.f g.b g.i kf kb Jo hS);rintro v1 w1 ⟨rfl,hS⟩;refine' K5;refine zD (ci 11 [9,10]) ?_;have hS:=hS.drew;refine' zm;refine' Lw;refine' PG;refine Q5 (j:=2) hS hel rfl fd (Qu fr g) (QE fr g) rfl ?_;(refine' zi;intro b6 o6 cs6 x6 hat6 hx6 he6;obtain ⟨vr6,va6,rfl,hr6,ha6⟩:=QY he6);refine' N7;have hX:=j8 (s:=KW h g fr inp out (fu+1)) hfx hbx hx6;have hP:=Y9 (s:=KW h g fr inp out fu) hfx hbx (FD.1 hx6).1;obtain ⟨i1,i2,i3,i4⟩:=hci x6 (FC hx6);refine' KU (c:=fo (z:=z.tick) (inp:=inp) (fu:=fu+1) (m:=m) he6 hfn hi i1 i2 i3 i4 hgi hf hn hrn hN hol hrg (show St cx _ (gX p z.tick fr g N h out _) from QX ho hS.sp));intro u9 w1 hG;rw [show MS.ins m (KW h g.nx fr inp out (fu+1)) x6=(KW h g fr inp out (fu+1)).one m from hX.symm] at hG;rcases hG with ⟨fv,iv,ov,fr',g',N',h',inp',out',h1,h2,h3,rfl,hS⟩|⟨e,fr',g',N',h1,h2,rfl,hS⟩|⟨l,bv,fr',g',N',h1,h2,h3,rfl,hS⟩|⟨h1,rfl,lv9,left9,hS⟩
     all_goals (refine' zm);all_goals refine' zn)
  | (refine' KO
     refine' Mj;refine' PC;have hX:=j9 (s:=KW h g fr inp out (fu+1)) hfx hbx (by show b.code.length≤g.i;omega);have hP:=Za (s:=KW h g fr inp out fu) hfx hbx (by show¬g.i<b.code.length;omega);refine' KU (c:=fw (z:=z.tick) (e:=b.fin) (inp:=inp) (fu:=fu+1) (m:=m) ⟨_,_,_,_,_,rfl,hu1,hu2,hu3,hu4,hu5⟩ hfn hi hfx hce hf hfr (show St cx _ (gX p z.tick fr g N h out _) from QX ho hS.sp));intro u9 w1 hG;rw [←hX] at hG;rcases hG with ⟨fv,iv,ov,fr',g',N',h',inp',out',h1,h2,h3,rfl,hS⟩|⟨e,fr',g',N',h1,h2,rfl,hS⟩|⟨l,bv,fr',g',N',h1,h2,h3,rfl,hS⟩|⟨h1,rfl,lv9,left9,hS⟩
     all_goals (refine' zm);all_goals refine' zn)
 all_goals (refine' Nx;(first|(obtain ⟨lv2,rv2,ho2,hS⟩:=PN hS)|skip);refine' Mj;refine' aS;refine' zn)
 all_goals
  first
  | (refine' KN;all_goals (refine' NJ;refine' KU (c:=NA hS);rintro v1 w1 ⟨rfl,hS⟩;refine' Ma;(first|(refine K1 hS ?_;intro w1 hS;have hS:=hS.ns)|(refine gv hS ?_;intro w1 hS;have hS:=hS.ns)));all_goals refine' zn)
  | (refine' KO;all_goals refine' KV)
 all_goals (refine' Xw;refine zv hS ?_;refine K1 hS ?_;intro w1 hS;have hS:=hS.ns;refine' Mu;refine Mp vw (Q2 (n:=2) Jk Jk (hS.blkAt fd) Jr Jr) ?_;(first|(first|exact Bf|exact ⟨_,rfl, .inr (.inl ⟨Jo,by show Value.agg ⟨[.int .i64 z.c, .int .i64 z.a]⟩=_;rw [hc0,ha0];rfl,0,by decide, .inl ⟨fv,iv,ov,fr',g',N',h',inp',out',h1,h2,h3,rfl,QX ho2 hS.sp⟩⟩)⟩|exact ⟨_,rfl, .inr (.inl ⟨Jo,by show Value.agg ⟨[.int .i64 z.c, .int .i64 z.a]⟩=_;rw [hc0,ha0];rfl,1,by decide, .inr (.inl ⟨e,fr',g',N',h1,h2,rfl,QX ho2 hS.sp⟩)⟩)⟩|exact ⟨_,rfl, .inr (.inl ⟨Jo,by show Value.agg ⟨[.int .i64 z.c, .int .i64 z.a]⟩=_;rw [hc0,ha0];rfl,1,by decide, .inr (.inr (.inl ⟨l,bv,fr',g',N',h1,h2,h3,rfl,QX ho2 hS.sp⟩))⟩)⟩)|(rw [hP];exact ⟨_,rfl, .inr (.inr ⟨Jo,h1,rfl,lv9,left9,hS.sp⟩)⟩)))
end
end Go.Proofs.YteflkifmgnpbhaaGreat
namespace Go.Lir
def VR (l:List Val):Prop:=∀v∈l,ME v.n
def TR (t:Thg):Prop:=t.l.length≤1000∧VR t.l
def RR (r:Rgn):Prop:=∀t∈r.l,TR t
def HR (h:HpS):Prop:=∀r∈h.l,RR r
structure Rg (s:MS):Prop where
 g:VR s.g.vals
 st:∀x∈s.st,VR x.vals
 h:HR s.h
 inp:∀n∈s.inp,ME n
theorem bH:ME 0:=by unfold ME;omega
theorem fx {n:Nat}(h:n≤1000):ME n:=by unfold ME;omega
theorem VR.nil:VR []:=fun v hv=>by cases hv
theorem VR.one (h:ME v.n):VR [v]:=fun u hu=>by rw [Gx.1 hu];exact h
theorem VR.app {a b:List Val}(ha:VR a)(hb:VR b):VR (a++b):=fun v hv=>(F5.1 hv).elim (ha v) (hb v)
theorem RR.none:RR Rgn.none:=fun t ht=>by cases ht
abbrev Kb:=@RR.none
theorem TR.dflt:TR ⟨false,[]⟩:=⟨Gt _,VR.nil⟩
theorem val_in {k:Int}(hg:VR g.vals)(h:g.val k=some v):ME v.n:=by
 unfold Frm.val at h;split at h
 · cases h
 · exact hg v (FC h)
theorem fy {k:Int}(hg:VR g.vals)(h:g.num k=some n):ME n:=by
 obtain ⟨v,hv,rfl⟩:=r5 h;exact hg v hv
theorem lg {g:Frm}(hg:VR g.vals):∀{l:List Int}{vs:List Val},g.args l=some vs→VR vs
 | [],vs,h=>by rw [Frm.args] at h;cases h;exact VR.nil
 | k ::l,vs,h=>by
   rw [Frm.args] at h
   cases hv:g.val k with
   | none=>rw [hv] at h;cases h
   | some v=>
     rw [hv] at h
     cases hl:g.args l with
     | none=>rw [hl] at h;cases h
     | some us=>
       rw [hl] at h;cases h;intro u hu;rcases FX.1 hu with rfl|hu
       · exact val_in hg hv
       · exact lg hg hl u hu
theorem sm {P:α→Prop}{l:List α}{k:Nat}{d:α}(h:∀x∈l,P x)(hd:P d):P (l.getD k d):=by
 rw [FE]
 cases hk:l[k]? with
 | none=>exact hd
 | some x=>exact h x (FC hk)
theorem HR.reg (hh:HR h)(k:Int):RR (h.reg k):=by
 unfold HpS.reg;split
 · exact sm (P:=RR) hh Kb
 · exact Kb
theorem HR.thg (hh:HR h)(k t:Nat):TR (h.thg k t):=sm (P:=TR) (hh.reg k) TR.dflt
theorem HR.upd {l:List Rgn}{k:Nat}{r:Rgn}(hh:HR ⟨l,a⟩)(hr:RR r):HR ⟨l.set k r,b⟩:=fun q hq=>by
 rcases L8 hq with rfl|hq
 · exact hr
 · exact hh q hq
theorem HR.open (hh:HR h):HR h.open:=by
 unfold HpS.open;split
 · exact hh
 · intro r hr
   rcases F5.1 hr with hr|hr
   · exact hh r hr
   · rw [Gx.1 hr];exact Kb
theorem Xc:ME h.openV.n:=by
 unfold HpS.openV;split<;>exact bH
theorem HR.shut (hh:HR h)(v:Val):HR (h.shut v):=by
 unfold HpS.shut;split
 · exact HR.upd (a:=h.left) hh Kb
 · exact hh
theorem HR.put (hh:HR h)(v:Val)(n:Int){t:Thg}(ht:TR t):HR (h.put v n t):=by
 unfold HpS.put;split
 · refine HR.upd (a:=h.left) hh fun u hu=>?_
   have hl:(((h.reg v.region).room n).push t).l=(h.reg v.region).l++[t]:=(by unfold Rgn.room;split<;>rfl);rw [hl] at hu;rcases F5.1 hu with hu|hu
   · exact hh.reg _ u hu
   · rw [Gx.1 hu];exact ht
 · exact hh
theorem xS {k:Int}:ME (h.putV v k n).n:=by
 unfold HpS.putV;split<;>exact bH
theorem HR.arr (hh:HR h)(v:Val)(n:Int):HR (h.arr v n):=by
 unfold HpS.arr;split
 · exact hh
 · refine hh.put v _ ⟨?_,fun u hu=>?_⟩
   · show (List.replicate _ _).length≤1000;rw [Gw];omega
   · rw [GX hu];exact bH
theorem Z4:ME (h.arrV v n).n:=by
 unfold HpS.arrV;split
 · exact bH
 · exact xS
theorem Xd (hh:HR h)(v:Val)(k:Int):ME (h.get v k).1.n:=by
 unfold HpS.get;split
 · exact bH
 · split
   · exact sm (P:=fun v:Val=>ME v.n) (hh.thg _ _).2 bH
   · exact bH
theorem fD (hh:HR h)(v:Val):ME (h.len v).1:=by
 unfold HpS.len;split
 · exact bH
 · exact fx (hh.thg _ _).1
theorem HR.set (hh:HR h)(v:Val)(k:Int){x:Val}(hx:ME x.n):HR (h.set v k x):=by
 unfold HpS.set;split
 · exact hh
 · rename_i r t _
   split
   · refine HR.upd (a:=h.left) hh fun u hu=>?_
     rcases L8 hu with rfl|hu
     · refine ⟨by show ((h.thg r t).l.set _ _).length≤_;rw [Gf];exact (hh.thg r t).1,fun y hy=>?_⟩
       rcases L8 hy with rfl|hy
       · exact hx
       · exact (hh.thg r t).2 y hy
     · exact hh.reg _ u hu
   · exact hh
section
variable {m:Module}{s:MS}
theorem Rg.put (h:Rg s)(hv:VR vs):Rg (s.put vs):=⟨h.g.app hv,h.st,h.h,h.inp⟩
theorem Rg.hp (h:Rg s){q:HpS}(hq:HR q):Rg (s.hp q):=⟨h.g,h.st,hq,h.inp⟩
theorem Rg.made (h:Rg s){q:HpS}(hq:HR q)(hv:ME v.n):(s.made e q v).All Rg:=by
 unfold MS.made;exact FZ (fun _=>trivial) fun _=>FZ (fun _=>trivial) fun _=>(h.hp hq).put (.one hv)
theorem Rg.ins (h:Rg s)(hx:Qz m.funcs.length x=0)(hn:ME x.n):(s.ins m x).All Rg:=by
 obtain ⟨q1,q2⟩:=ez hx;have h1:∀(v:Val),ME v.n→(Stp.go (s.put [v])).All Rg:=fun v hv=>h.put (.one hv);have h2:∀(q:HpS),HR q→(Stp.go (s.hp q)).All Rg:=fun q hq=>h.hp hq;unfold MS.ins
 refine FZ (fun _=>h1 _ hn) fun _=>FZ (fun _=>F4 fun a _=>F4 fun b _=>FZ (fun _=>trivial) fun _=>h1 _ (fh _ _ _)) fun _=>FZ (fun _=>?_) fun _=>
  FZ (fun _=>F4 fun v _=>FZ (fun _=>trivial) fun _=>h2 _ (h.h.shut v)) fun _=>FZ (fun _=>F4 fun v _=>F4 fun l hl=>h.made (h.h.put v _ ⟨by have:=eA hl;show l.length≤_;omega,lg h.g hl⟩) xS) fun _=>
  FZ (fun _=>F4 fun v _=>FZ (fun _=>trivial) fun _=>FZ (fun _=>trivial) fun _=>h1 _ (Xd h.h _ _)) fun _=>
  FZ (fun _=>F4 fun v _=>FZ (fun _=>trivial) fun _=>F4 fun y hy=>FZ (fun _=>trivial) fun _=>h2 _ (h.h.set _ _ (val_in h.g hy))) fun _=>
  FZ (fun _=>F4 fun v _=>F4 fun n _=>FZ (fun _=>trivial) fun _=>h.made (h.h.arr _ _) Z4) fun _=>
  FZ (fun _=>F4 fun v _=>F4 fun n _=>gS (h1 _ (Xd h.h _ _))) fun _=>
  FZ (fun _=>F4 fun v _=>F4 fun n _=>F4 fun c hc=>gS (h2 _ (h.h.set _ _ (fy h.g hc)))) fun _=>
  FZ (fun _=>F4 fun v _=>gS (h1 _ (fD h.h _))) fun _=>FZ (fun _=>?_) fun _=>FZ (fun _=>F4 fun n _=>?_) fun _=>?_
 · unfold MS.newR;exact FZ (fun _=>trivial) fun _=>⟨h.g.app (.one Xc),h.st,h.h.open,h.inp⟩
 · unfold MS.inS
   cases hi:s.inp with
   | nil=>exact trivial
   | cons n r=>exact ⟨h.g.app (.one (h.inp n (by rw [hi];simp))),h.st,h.h,fun q hq=>h.inp q (by rw [hi];exact Gr _ hq)⟩
 · unfold MS.outS;exact FZ (fun _=>trivial) fun _=>⟨h.g,h.st,h.h,h.inp⟩
 · unfold MS.call
   split
   · exact trivial
   · refine F4 fun rs _=>F4 fun vs hv=>FZ (fun _=>trivial) fun _=>FZ (fun _=>trivial) fun _=>?_
     refine ⟨lg h.g hv,fun y hy=>?_,h.h,h.inp⟩;rcases FX.1 hy with rfl|hy
     · exact h.g
     · exact h.st y hy
theorem Rg.to (h:Rg s):(s.to f t).All Rg:=by
 unfold MS.to;split
 · exact trivial
 · exact F4 fun rs _=>F4 fun vs hv=>FZ (fun _=>trivial) fun _=>⟨lg h.g hv,h.st,h.h,h.inp⟩
theorem Rg.fin (h:Rg s){e:Tail}{n:Nat}(he:NU n e=0):(s.fin f e).All Rg:=by
 unfold MS.fin;refine FZ (fun _=>h.to) fun _=>FZ (fun _=>F4 fun n _=>FZ (fun _=>h.to) fun _=>h.to) fun _=>?_;unfold MS.ret;refine F4 fun vs hv=>FZ (fun _=>trivial) fun _=>?_
 cases hs:s.st with
 | cons c st=>exact Rg.put (s:=⟨s.h,c,st,s.inp,s.out,s.fuel⟩) ⟨h.st c (by rw [hs];simp),fun x hx=>h.st x (by rw [hs];exact Gr _ hx),h.h,h.inp⟩ (lg h.g hv)
 | nil=>
   dsimp only
   cases hi:Lm vs with
   | none=>exact trivial
   | some ns=>show ns.length≤8;rw [rI hi,eA hv];exact mO he
theorem Rg.one {k:Nat}(h:Rg s)(hB:Bnd m k s)(hM:m.fault.1=0)(hR:m.InR):(s.one m).All Rg:=by
 obtain ⟨f,b,hf,hb,hi,hv,hr⟩:=hB.cur;obtain ⟨-,q1,q2⟩:=Xr hM hf hb;unfold MS.one;rw [hf];dsimp only;rw [hb];dsimp only
 cases hx:b.code[s.g.i]? with
 | none=>exact h.fin q2
 | some x=>
   have hxm:=FC hx;have hxr:=((hR f (FC hf)).2.2.2 b (FC hb)).2.2.1 x hxm;exact Rg.ins (s:=s.next) ⟨h.g,h.st,h.h,h.inp⟩ (q1 x hxm) hxr.1.2.2.2.2.2
theorem Rg.start {inp:List Int}(hi:∀n∈inp,ME n):Rg (MS.start inp pages):=⟨VR.nil,fun x hx=>(by cases hx),fun r hr=>(by cases hr),hi⟩
end
end Go.Lir
namespace Go.Proofs.YteflkifmgnpbhaaGreat
open Go.Lir
attribute [local irreducible] LC.wp Q0 Qr Qj Lo QJ LO.wp Q6 Calls
section
variable {cx:Cx}{w:World}{L:List Res}{p N:Nat}{z:GZ}{fr:List FrmV}{g:FrmV}{h:HpS}{out inp:List Int}{fu:Nat}{m:Module}
@[reducible] def Z5 (fn fv iv:Value)(fuel:Int):GZ:=⟨fn,fv,iv,0, .slice none 0 0, .slice none 0 0,0,fuel,false,0,0⟩
theorem Xe {v:Value}(hp:0≤pages∧pages≤1000)(hi:KM.sl cx v inp)(hS:St cx w L):KK Tryz.prog U8 [.agg ⟨[vf]⟩,v, .int .i64 fuel, .int .i64 pages] w fun u w'=>
 ∃p fv,u= .pointer (some ⟨p,0,none⟩)∧St cx w' (gX p (Z5 vf fv v fuel) [] Rs 0 ⟨[],pages⟩ [] L):=by
 obtain ⟨av,nv,hv⟩:=hi.shape;subst hv;refine KY KX Tryz.func22 ?_;refine' Lx;intro p4 w1 hS;refine' K5;refine' Nw;refine' zm;refine PW [_,_] ?_;refine M5 [_,_,_,_,_] ?_;refine LK hS [_,_,_,_,_] ?_;intro b1 w1 hS;refine' M7;refine pf [_,_,_,_,_,_,_,_,_,_,_,_,_] ?_;refine zb hS ?_;intro p17 w1 hS;refine' Ly;((have hS:=GS (T:=119) (es:=5) (css:=Pb [] Rs) (hS.out (r:=blk b1 119 [.int .i64 0, .int .i64 0, .int .i64 0, .slice none 0 0, .slice none 0 0]) fd) rfl (by simp [Pb,FrmV.cells]) rfl;simp only [IE,Hx] at hS;have hS:=IK FrmV.res1 (IK (RgnV.res H1) hS);have hS:=hS.nil (T:=182) (es:=4);have hS:=hS.nil (T:=3) (es:=1);have hS:=hS.nil (T:=2) (es:=1);have hS:=hS.nil (T:=131) (es:=4);exact ⟨_,rfl,p17,_,rfl,QX (z:=Z5 vf (.slice (some ⟨b1,0,none⟩) 1 1) (.slice av inp.length nv) fuel) (lv:= .slice none 0 0) (rv:=[]) ⟨rfl,HpS.ok_new hp⟩ hS.sp⟩))
end
section
variable {cx:Cx}{w:World}{L:List Res}{p N:Nat}{c:MC}{z:GZ}{fr:List FrmV}{g:FrmV}{h:HpS}{out inp back:List Int}{m:Module}
def PR (m:Module)(most:Nat)(c:MC)(fr:List FrmV)(g:FrmV)(N:Nat)(h:HpS)(inp out back:List Int):Run→Prop
 | .on s=>s=KW h g fr inp out s.fuel∧back=[]∧c.dn=false∧c.c=0∧c.e=0∧c.fu=s.fuel∧s.fuel≤most∧c.mo=most∧N≤s.fuel∧Bnd m s.fuel s
 | .over s e b=>h=s.h∧out=s.out∧back=b∧c.dn=true∧c.e=e∧c.fu=s.fuel∧out.length≤2000∧back.length≤100000
 | .stuck _=>False
def DR (m:Module)(most:Nat)(z:GZ)(fr:List FrmV)(g:FrmV)(N:Nat)(h:HpS)(inp out back:List Int):Run→Prop
 | .on s=>s=KW h g fr inp out s.fuel∧back=[]∧z.dn=false∧(z.c=0∧z.a=0)∧z.e=0∧z.fu=s.fuel∧s.fuel≤most∧z.mo=most∧N≤s.fuel∧Bnd m s.fuel s∧Rg s
 | .over s e b=>h=s.h∧out=s.out∧back=b∧z.dn=true∧(z.c=0∧z.a=0)∧z.e=e∧z.fu=s.fuel∧N≤most+1∧out.length≤2000∧back.length≤100000
 | .stuck _=>False
theorem lh (hB:Bnd m s.fuel s)(hM:m.fault.1=0):(s.tick.one m).All (Bnd m (s.fuel+1)):=KI (s:=s.tick) (k:=s.fuel) ⟨hB.cur,hB.st,hB.sl,hB.out⟩ hM
theorem so (hR:Rg s)(hB:Bnd m s.fuel s)(hM:m.fault.1=0)(hIn:m.InR):(s.tick.one m).All Rg:=Rg.one (s:=s.tick) (k:=s.fuel) ⟨hR.g,hR.st,hR.h,hR.inp⟩ ⟨hB.cur,hB.st,hB.sl,hB.out⟩ hM hIn
theorem PR.step (hP:PR m most c fr g N h inp out back (.on s))(hM:m.fault.1=0)(hi:KM.sl cx c.iv inp)(hs:br m p c fr g N h inp out (s.fuel+1) cx (sl 2 1 c.bv []::L) u w):
 (∀f,Run.step m most (.on s)≠ .stuck f)∧(u=Lg (0,0)∧∃c' fr' g' N' h' inp' out' back',PR m most c' fr' g' N' h' inp' out' back' (Run.step m most (.on s))∧c'.fn=c.fn∧KM.sl cx c'.iv inp'∧TZ c'<TZ c∧St cx w (mS p c' fr' g' N' h' out' (sl 2 1 c'.bv (Qv back')::L)))∨
 ∃(f:Int) (c':MC),Run.step m most (.on s)= .stuck (20,f)∧u=Lg (20,f)∧c'.c=20∧c'.a=f∧St cx w (blk p 55 c'.cells::L):=by
 obtain ⟨hms, -,hdn,hc0,he0,hfu,hkm,hmo,hN,hB⟩:=hP;generalize hk:s.fuel=k at*;subst hms;rcases hs with ⟨h7,rfl,hS⟩|⟨hlt,hs⟩
 · have hst:Run.step m most (.on (KW h g fr inp out k))= .over (KW h g fr inp out k) 7 []:=if_pos (show k=most by omega);rw [hst];refine .inl ⟨fun f hf=>(by cases hf),rfl,c.over 7,fr,g,N,h,inp,out,[],⟨rfl,rfl,rfl,rfl,rfl,hfu,hB.out,Gt _⟩,rfl,hi,?_,hS⟩;unfold TZ;rw [hdn];show 2*(c.mo - c.fu).toNat+0<2*(c.mo - c.fu).toNat+1;omega
 · have hst:Run.step m most (.on (KW h g fr inp out k))= .of m (KW h g fr inp out k) ((KW h g fr inp out (k+1)).one m):=if_neg (show¬k=most by omega)
   have hB1:((KW h g fr inp out (k+1)).one m).All (Bnd m (k+1)):=lh (s:=KW h g fr inp out k) hB hM;have hmm:2*(c.mo - (c.fu+1)).toNat+1<2*(c.mo - c.fu).toNat+1:=DB;have hmz:2*(c.mo - (c.fu+1)).toNat+0<2*(c.mo - c.fu).toNat+1:=DB;rcases hs with ⟨rfl,hG⟩|⟨e,hX,rfl,fr',g',N',hN',hS⟩|⟨hX,rfl,hS⟩
   · rcases hG with ⟨lv,iv,ov,fr',g',N',h',inp',out',hX,hi',hN', -,hS⟩|⟨ns,bv,fr',g',hX, -,hS⟩
     · rw [hX] at hst hB1
       rw [hst];refine .inl ⟨fun f hf=>(by cases hf),rfl,c.tick.upd lv iv ov,fr',g',N',h',inp',out',[],⟨rfl,rfl,hdn,hc0,he0,?_,?_,hmo,?_,hB1⟩,rfl,hi',?_,hS⟩
       · show c.fu+1=((k+1:Nat):Int);omega
       · show k+1≤most;omega
       · show N'≤k+1;omega
       · unfold TZ;rw [hdn];exact hmm
     · rw [hX] at hst hB1
       rw [hst];refine .inl ⟨fun f hf=>(by cases hf),rfl,⟨c.hp,c.fn,c.lv,c.iv,c.e,bv,c.ov,c.fu+1,c.mo,true,c.c,c.a⟩,fr',g',N,h,inp,out,ns,⟨rfl,rfl,rfl,rfl,he0,?_,hB.out,?_⟩,rfl,hi,?_,(hS.subP DF)⟩
       · show c.fu+1=((k+1:Nat):Int);omega
       · have h8:ns.length≤8:=hB1;omega
       · unfold TZ;rw [hdn];exact hmz
   · rw [hX] at hst
     rw [hst];refine .inl ⟨fun f hf=>(by cases hf),rfl,c.tick.over e,fr',g',N',h,inp,out,[],⟨rfl,rfl,rfl,rfl,rfl,?_,hB.out,Gt _⟩,rfl,hi,?_,hS⟩
     · show c.fu+1=((k+1:Nat):Int);omega
     · unfold TZ;rw [hdn];exact hmz
   · rw [hX] at hst;rw [hst];exact .inr ⟨_,c.tick.stk ((KW h g fr inp out (k+1)).place m),rfl,rfl,rfl,rfl,(hS.subP DF)⟩
theorem DR.step (hP:DR m most z fr g N h inp out back (.on s))(hM:m.fault.1=0)(hIn:m.InR)(hi:KM.sl cx z.iv inp)(hs:xR p z N s.fuel most h out ((KW h g fr inp out (s.fuel+1)).one m) ((KW h g fr inp out s.fuel).place m) fr g cx (sl 2 1 z.bv []::L) u w):
 (u=Lg (0,0)∧∃z' fr' g' N' h' inp' out' back',DR m most z' fr' g' N' h' inp' out' back' (Run.step m most (.on s))∧z'.fn=z.fn∧KM.sl cx z'.iv inp'∧St cx w (gX p z' fr' g' N' h' out' (sl 2 1 z'.bv (Qv back')::L)))∨
 ∃(f:Int) (z':GZ) (lv:Value) (left:Int),Run.step m most (.on s)= .stuck (20,f)∧u=Lg (20,f)∧z'.c=20∧z'.a=f∧z'.dn=false∧St cx w (MP z' p lv left::L):=by
 obtain ⟨hms, -,hdn,⟨hc0,ha0⟩,he0,hfu,hkm,hmo,hN,hB,hR⟩:=hP;generalize hk:s.fuel=k at*;subst hms;have hst:k≠most→Run.step m most (.on (KW h g fr inp out k))= .of m (KW h g fr inp out k) ((KW h g fr inp out (k+1)).one m):=fun hne=>if_neg (show¬k=most from hne);have hB1:((KW h g fr inp out (k+1)).one m).All (Bnd m (k+1)):=lh (s:=KW h g fr inp out k) hB hM;have hR1:((KW h g fr inp out (k+1)).one m).All Rg:=so (s:=KW h g fr inp out k) hR hB hM hIn;rcases hs with ⟨h7,rfl,hS⟩|⟨hlt,rfl,q,hq,hG⟩|⟨hlt,hX,rfl,lv,left,hS⟩
 · have hs7:Run.step m most (.on (KW h g fr inp out k))= .over (KW h g fr inp out k) 7 []:=if_pos (show k=most by omega);rw [hs7];exact .inl ⟨rfl,z.end 7,fr,g,N,h,inp,out,[],⟨rfl,rfl,rfl,rfl,⟨hc0,ha0⟩,rfl,hfu,Jo,hB.out,Gt _⟩,rfl,hi,hS⟩
 · have hst:=hst hlt
   rcases hG with ⟨fv,iv,ov,fr',g',N',h',inp',out',hX,hi',hN', -,hS⟩|⟨e,fr',g',N',hX,hN', -,hS⟩|⟨l,bv,fr',g',N',hX,hN',hl, -,hS⟩|⟨-,hu, -⟩
   · rw [hX] at hst hB1 hR1
     rw [hst];refine .inl ⟨rfl,z.tick.upd fv iv ov,fr',g',N',h',inp',out',[],⟨rfl,rfl,hdn,⟨hc0,ha0⟩,he0,?_,?_,hmo,?_,hB1,hR1⟩,rfl,hi',hS⟩
     · show z.fu+1=((k+1:Nat):Int);omega
     · show k+1≤most;omega
     · show N'≤k+1;omega
   · rw [hX] at hst;rw [hst];refine .inl ⟨rfl,z.tick.end e,fr',g',N',h,inp,out,[],⟨rfl,rfl,rfl,rfl,⟨hc0,ha0⟩,rfl,?_,Jo,hB.out,Gt _⟩,rfl,hi,hS⟩;show z.fu+1=((k+1:Nat):Int);omega
   · rw [hX] at hst;rw [hst];refine .inl ⟨rfl,(z.tick.bk bv).end 0,fr',g',N',h,inp,out,l,⟨rfl,rfl,rfl,rfl,⟨hc0,ha0⟩,rfl,?_,Jo,hB.out,hl⟩,rfl,hi,(hS.subP DF)⟩;show z.fu+1=((k+1:Nat):Int);omega
   · cases hu;exact absurd rfl hq
 · have hst:=hst hlt;rw [hX] at hst;rw [hst];exact .inr ⟨_,z.tick.stk 20 ((KW h g fr inp out k).place m),lv,left,rfl,rfl,rfl,rfl,hdn,(hS.subP DF)⟩
end
section
variable {cx:Cx}{w:World}{L:List Res}{p N:Nat}{c:MC}{z:GZ}{fr:List FrmV}{g:FrmV}{h:HpS}{out inp back:List Int}{m:Module}
theorem Z6 {k:Nat}(hB:Bnd m k (KW h g fr inp out k))(hM:m.fault.1=0)(hk:k≤most)(hm:most≤20000):∃f b,m.funcs[g.f]?=some f∧f.blocks[g.b]?=some b∧(∀x∈b.code,Qgb m x)∧gJ f b.fin∧g.i≤1000∧g.f≤1000000∧g.b≤1000000∧fr.length≤900∧g.vals.length≤800000∧g.regs.length≤800000∧(∀x∈fr,x.vals.length≤900000)∧out.length≤2000:=by
 obtain ⟨f,b,hf,hb,h1,h2,h3⟩:=hB.cur;obtain ⟨q0,q1,q2⟩:=Xr hM hf hb;obtain ⟨e1,e2,e3,e4⟩:=gm q2;have hcl:=(aJ q0).2.2.2.2;have hfl:=oT hM;have hbl:=(UJ (S1 hM hf)).2.2.2.2;have hgf:=(FD.1 hf).1;have hgb:=(FD.1 hb).1;have hsl:=hB.sl;have hst:(KW h g fr inp out k).st.length=fr.length:=(by show (fr.map FrmV.abs).reverse.length=_;simp);have h1:g.i≤b.code.length:=h1;have h2:g.vals.length≤8+8*k:=h2;have h3:g.regs.length≤16+k:=h3;have hgf:g.f<m.funcs.length:=hgf;have hgb:g.b<f.blocks.length:=hgb;have hto:∀{t:To},NM f.blocks.length t true=0→ToOK f t:=fun ht=>⟨Yo ht,by have:=kF ht;omega,by have:=kF ht;omega⟩;refine ⟨f,b,hf,hb,fun x hx=>⟨aC (q1 x hx),WB (q1 x hx),by have:=ez (q1 x hx);omega,by have:=ez (q1 x hx);omega⟩,⟨by have:=mO q2;omega,⟨e1,e2⟩,fun hq=>hto E1,fun hq=>hto Fz⟩,Jo,Jo,Jo,Jo,Jo,Jo,?_,hB.out⟩;intro x hx;obtain ⟨f9,b9,_,_,_,h9,_⟩:=hB.st x.abs (by show x.abs∈(fr.map FrmV.abs).reverse;rw [List.mem_reverse];exact Kt hx);have h9:x.vals.length≤8+8*k:=h9;omega
theorem Z7 (hP:DR m most z fr g N h inp out back (.on s))(hM:m.fault.1=0)(hIn:m.InR)(hmo:most≤20000)(hfn:K8.sl cx z.fn m.funcs)(hi:KM.sl cx z.iv inp)(hS:St cx w (gX p z fr g N h out (sl 2 1 z.bv (Qv back)::L))):
 KK Tryz.prog ur [.pointer (some ⟨p,0,none⟩)] w fun u w'=>
  (u=Lg (0,0)∧∃z' fr' g' N' h' inp' out' back',DR m most z' fr' g' N' h' inp' out' back' (Run.step m most (.on s))∧z'.fn=z.fn∧KM.sl cx z'.iv inp'∧St cx w' (gX p z' fr' g' N' h' out' (sl 2 1 z'.bv (Qv back')::L)))∨
  ∃(f:Int) (z':GZ) (lv:Value) (left:Int),Run.step m most (.on s)= .stuck (20,f)∧u=Lg (20,f)∧z'.c=20∧z'.a=f∧z'.dn=false∧St cx w' (MP z' p lv left::L):=by
 have hP':=hP;obtain ⟨hms,rfl,hdn,⟨hc0,ha0⟩,he0,hfu,hkm,hmo2,hN,hB,hR⟩:=hP;rw [hms] at hB;have hRg:∀v∈g.vals,ME v.n:=(by rw [hms] at hR;exact hR.g);obtain ⟨f,b,hf,hb,k1,k2,k3,k4,k5,k6,k7,k8,k9,k10⟩:=Z6 hB hM hkm hmo;exact (Z3 (m:=m) (f:=f) (b:=b) (inp:=inp) (fu:=s.fuel) (most:=most) hfn hi hf hb k1 k2 k3 k4 k5 k6 k7 k8 k9 Jo k10 hRg hdn hc0 ha0 hfu hmo2 Jo hS).mono fun u w' hs=>hP'.step hM hIn hi hs
end
section
variable {cx:Cx}{w:World}{L:List Res}{p N:Nat}{c:MC}{z:GZ}{fr:List FrmV}{g:FrmV}{h:HpS}{out inp back:List Int}{m:Module}
def gY (inp:List Int)(fuel pages:Int):Mw:=if 200<inp.length∨fuel<0∨20000<fuel∨pages<0∨64<pages then (1, -1) else (0,0)
theorem xU {v:Value}(hi:KM.sl cx v inp)(hS:St cx w L):KK Tryz.prog zZ [v, .int .i64 fuel, .int .i64 pages] w fun u w'=>u=Lg (gY inp fuel pages)∧St cx w' L:=by
 (((((have hil:=hi.len;refine KY KX Tryz.func15 ?_;refine' RW;intro p6 w1 hS;refine' zn;refine' NI;refine' zL;first|(refine' QO)|(refine' QV)|(refine' Af<;>intro hc));all_goals (refine' Mr;first|refine' KP|(refine' KQ;(first|(refine' LG)|(refine' LM)|(refine' Ae<;>intro hc)))));all_goals (refine' PE;first|refine' KP|(refine' KQ;(first|(refine' QO)|(refine' QV)|(refine' Af<;>intro hc)))));all_goals (refine' PE;first|refine' KP|(refine' KQ;(first|(refine' LG)|(refine' LM)|(refine' Ae<;>intro hc)))));all_goals (refine' PE;first|refine' KP|(refine' KQ;(first|(refine' QO)|(refine' QV)|(refine' Af<;>intro hc)))));all_goals (refine' LH)
 all_goals
  first
  | (refine' KN;all_goals (refine' K3;refine' KU (c:=NA hS);rintro v1 w1 ⟨rfl,hS⟩;refine K1 hS ?_;intro w1 hS;have hS:=hS.ns;refine' Mu;refine Mp vw (Q2 (n:=2) Jk Jk (hS.blkAt fd) Jr Jr) ?_);all_goals ((first|exact CD|exact ⟨_,rfl,(by rw [show gY inp fuel pages=(1, -1) from if_pos Jo];rfl),hS.sp⟩)))
  | (refine' KO;refine' KV)
 refine' K3;refine M5 [_,_] ?_;refine K1 hS ?_;intro w1 hS;have hS:=hS.ns;refine' Mu;refine Mp vw (Q2 (n:=2) Jk Jk (hS.blkAt fd) Jr Jr) ?_;(exact CD)
theorem DR.on {most:Nat}{r:Run}(hD:DR m most z fr g N h inp out back r)(hz:z.dn=false):∃s,r= .on s:=by
 cases r with
 | on s=>exact ⟨s,rfl⟩
 | over s e b=>obtain ⟨-, -, -,h4, -⟩:=hD;rw [hz] at h4;cases h4
 | stuck f=>exact hD.elim
theorem DR.over {most:Nat}{r:Run}(hD:DR m most z fr g N h inp out back r)(hz:z.dn=true):r= .over ⟨h,(match r with| .over s _ _=>s.g|_=>⟨0,0,0,[],[]⟩),(match r with| .over s _ _=>s.st|_=>[]),(match r with| .over s _ _=>s.inp|_=>[]),out,(match r with| .over s _ _=>s.fuel|_=>0)⟩ z.e back:=by
 cases r with
 | on s=>obtain ⟨-, -,h4, -⟩:=hD;rw [hz] at h4;cases h4
 | over s e b=>obtain ⟨rfl,rfl,rfl, -, -,rfl, -⟩:=hD;rfl
 | stuck f=>exact hD.elim
theorem PR.same {fr2:List FrmV}{g2:FrmV}{inp2 back2:List Int}(hP:PR m most c fr g N h inp out back r)(hD:DR m most z fr2 g2 N2 h2 inp2 out2 back2 r):h2=h∧out2=out∧back2=back∧z.dn=c.dn∧z.fu=c.fu∧z.e=c.e∧out.length≤2000∧back.length≤100000∧N2≤most+1:=by
 cases r with
 | on s=>
   obtain ⟨a1,a2,a3,a4,a5,a6,a7,a8,a9,a10⟩:=hP;obtain ⟨b1,b2,b3,b4,b5,b6,b7,b8,b9,b10,b11⟩:=hD;have e1:s.h=h:=(by rw [a1];rfl);have e2:s.h=h2:=(by rw [b1];rfl);have e3:s.out=out:=(by rw [a1];rfl);have e4:s.out=out2:=(by rw [b1];rfl);refine ⟨by rw [←e1,←e2],by rw [←e3,←e4],by rw [a2,b2],by rw [a3,b3],by rw [a6,b6],by rw [a5,b5],by rw [←e3];exact a10.out,by rw [a2];exact Gt _,Jo⟩
 | over s e b=>
   obtain ⟨a1,a2,a3,a4,a5,a6,a7,a8⟩:=hP;obtain ⟨b1,b2,b3,b4,b5,b6,b7,b8,b9,b10⟩:=hD;exact ⟨by rw [a1,b1],by rw [a2,b2],by rw [a3,b3],by rw [a4,b4],by rw [a6,b7],by rw [a5,b6],a7,a8,b8⟩
 | stuck f=>exact hP.elim
theorem PR.first {hp fn iv:Value}(hM:m.fault.1=0)(h0:0≤fuel):PR m fuel.toNat (ZB hp fn lv iv fuel) [] Rs 0 ⟨[],pages⟩ inp [] [] (.on (MS.start inp pages)):=
 ⟨rfl,rfl,rfl,rfl,rfl,rfl,Gt _,(Gh h0).symm,Gt _,Jw hM inp pages⟩
theorem DR.first {fn fv iv:Value}(hM:m.fault.1=0)(h0:0≤fuel)(hin:∀n∈inp,ME n):DR m fuel.toNat (Z5 fn fv iv fuel) [] Rs 0 ⟨[],pages⟩ inp [] [] (.on (MS.start inp pages)):=
 ⟨rfl,rfl,rfl,⟨rfl,rfl⟩,rfl,rfl,Gt _,(Gh h0).symm,Gt _,Jw hM inp pages,Rg.start hin⟩
theorem RA.on {a:Run}(hA:RA m most a (.on s))(hP:PR m most c fr g N h inp out back (.on s)):RA m most a (Run.step m most (.on s)):=by
 obtain ⟨a1,a2,a3,a4,a5,a6,a7,a8,a9,a10⟩:=hP;by_cases hk:s.fuel=most
 · rw [show Run.step m most (.on s)= .over s 7 [] from if_pos hk];exact Kq hA hk
 · rw [show Run.step m most (.on s)= .of m s (s.tick.one m) from if_neg hk];exact BL
end
end Go.Proofs.YteflkifmgnpbhaaGreat
namespace Go.Proofs.YteflkifmgnpbhaaGreat
open Go.Lir
section
variable {N:Nat}{z:GZ}{fr:List FrmV}{g:FrmV}{h:HpS}{out inp back:List Int}{m:Module}
theorem DR.fin {a:Run}(hD:DR m most z fr g N h inp out back r)(hA:RA m most a r)(hz:z.dn=true):a.flt=(0,0)∧a.oc=⟨z.e,back,out,z.fu⟩∧z.c=0∧z.a=0:=by
 cases r with
 | on s=>obtain ⟨-, -,h4, -⟩:=hD;rw [hz] at h4;cases h4
 | over s e b=>
   obtain ⟨b1,b2,b3,b4,⟨b5,b9⟩,b6,b7, -⟩:=hD;have hA:a= .over s e b:=hA;refine ⟨by rw [hA];rfl,by rw [hA,b2,b3,b6,b7];rfl,b5,b9⟩
 | stuck f=>exact hD.elim
theorem RA.stuck {a:Run}{f:Mw}(hA:RA m most a r)(hr:r= .stuck f):a.flt=f∧a.oc=⟨0,[],[],0⟩:=by
 subst hr;have hA:a= .stuck f:=hA;exact ⟨by rw [hA];rfl,by rw [hA];rfl⟩
end
section
variable {N:Nat}{z:GZ}{fr:List FrmV}{g:FrmV}{h:HpS}{out inp back:List Int}{m:Module}
theorem RA.onD {a:Run}(hA:RA m most a (.on s))(hP:DR m most z fr g N h inp out back (.on s)):RA m most a (Run.step m most (.on s)):=by
 obtain ⟨a1,a2,a3,a4,a5,a6,a7, -⟩:=hP;by_cases hk:s.fuel=most
 · rw [show Run.step m most (.on s)= .over s 7 [] from if_pos hk];exact Kq hA hk
 · rw [show Run.step m most (.on s)= .of m s (s.tick.one m) from if_neg hk];exact BL
theorem DR.lens (hD:DR m most z fr g N h inp out back r):out.length≤2000∧back.length≤100000:=by
 cases r with
 | on s=>
   obtain ⟨a1,a2,a3,a4,a5,a6,a7,a8,a9,a10, -⟩:=hD;have e3:s.out=out:=(by rw [a1];rfl);exact ⟨by rw [←e3];exact a10.out,by rw [a2];exact Gt _⟩
 | over s e b=>
   obtain ⟨-, -, -, -, -, -, -, -,a7,a8⟩:=hD;exact ⟨a7,a8⟩
 | stuck f=>exact hD.elim
end
end Go.Proofs.YteflkifmgnpbhaaGreat
namespace Go.Lir
def fE (w:World)(p most:Nat):Nat:=2*((most:Int) - iv (eF w p 8)).toNat+ZD (eF w p 10)
end Go.Lir
namespace Go.Proofs.YteflkifmgnpbhaaGreat
open Go.Lir
attribute [local irreducible] LC.wp Q0 Qr Qj Lo QJ LO.wp Q6 Calls
section
variable {cx:Cx}{w:World}{L:List Res}{p N:Nat}{z:GZ}{fr:List FrmV}{g:FrmV}{h:HpS}{out inp back:List Int}{m:Module}
theorem xV {lv:Value}{left:Int}(hS:St cx w (MP z p lv left::L)):fE w p most=2*((most:Int) - z.fu).toNat+ZD (.bool z.dn):=by
 unfold fE;rw [kH (j:=8) hS (i:=0) rfl rfl,kH (j:=10) hS (i:=0) rfl rfl];rfl
theorem DR.less {z':GZ}{inp' back':List Int}(hD:DR m most z fr g N h inp out back (.on s))(hD':DR m most z' fr' g' N' h' inp' out' back' (Run.step m most (.on s))):2*((most:Int) - z'.fu).toNat+ZD (.bool z'.dn)<2*((most:Int) - z.fu).toNat+ZD (.bool z.dn):=by
 obtain ⟨-, -,a3, -, -,a6,a7, -⟩:=hD;have e1:ZD (.bool false)=1:=rfl;have e2:ZD (.bool true)=0:=rfl;by_cases hk:s.fuel=most
 · rw [show Run.step m most (.on s)= .over s 7 [] from if_pos hk] at hD';obtain ⟨-, -, -,b4, -, -,b7, -⟩:=hD';rw [a3,b4,a6,b7,e1,e2];omega
 · rw [show Run.step m most (.on s)= .of m s (s.tick.one m) from if_neg hk] at hD'
   cases hX:s.tick.one m with
   | go s'=>
     rw [hX] at hD';obtain ⟨-, -,b3, -, -,b6, -⟩:=hD';have:=q8 hX;rw [a3,b3,a6,b6,e1,this];omega
   | halt e=>
     rw [hX] at hD';obtain ⟨-, -, -,b4, -, -,b7, -⟩:=hD';have:z'.fu=((s.fuel+1:Nat):Int):=b7;rw [a3,b4,a6,this,e1,e2];omega
   | done l=>
     rw [hX] at hD';obtain ⟨-, -, -,b4, -, -,b7, -⟩:=hD';have:z'.fu=((s.fuel+1:Nat):Int):=b7;rw [a3,b4,a6,this,e1,e2];omega
   | lost=>rw [hX] at hD';exact hD'.elim
attribute [local irreducible] DR RA Run.all Run.oc Run.flt
theorem Z8 {v:Value}(hM:m.fault.1=0)(hIn:m.InR)(hin:∀n∈inp,ME n)(hf0:0≤fuel)(hf1:fuel≤20000)(hp:0≤pages∧pages≤1000)(hf:K8.sl cx vf m.funcs)(hi:KM.sl cx v inp)(hS:St cx w L):
 KK Tryz.prog dd [.agg ⟨[vf]⟩,v, .int .i64 fuel, .int .i64 pages] w fun u w'=>∃c' a1 a2 y1 y2,cx.Le c'∧u= .tuple #[.agg ⟨[.int .i64 (Run.all m inp fuel.toNat pages).oc.e, .slice a1 (Run.all m inp fuel.toNat pages).oc.back.length y1, .slice a2 (Run.all m inp fuel.toNat pages).oc.out.length y2, .int .i64 (Run.all m inp fuel.toNat pages).oc.fuel]⟩,Lg (Run.all m inp fuel.toNat pages).flt]∧KM.sl c' (.slice a1 (Run.all m inp fuel.toNat pages).oc.back.length y1) (Run.all m inp fuel.toNat pages).oc.back∧KM.sl c' (.slice a2 (Run.all m inp fuel.toNat pages).oc.out.length y2) (Run.all m inp fuel.toNat pages).oc.out∧St c' w' L:=by
 have hDf:=fun fv=>DR.first (inp:=inp) (pages:=pages) (fn:=vf) (fv:=fv) (iv:=v) hM hf0 hin;obtain ⟨af,nf,rfl⟩:=FK hf;refine KY KX Tryz.func34 ?_;refine' Lx;intro p4 w1 hS;refine Qh hS ?_;(intro p8 w1 hS);refine Qh hS ?_;(intro p9 w1 hS);refine' RD;refine' M7;refine' zm;refine' NN (c:=Xe hp hi hS);rintro v1 w1 ⟨q,fv,rfl,hS⟩;refine' K5;refine' gx;refine zo [8,9,10] (fun A ρ' w'=>∃(r:Run) (z:GZ) (fr:List FrmV) (g:FrmV) (N:Nat) (h:HpS) (inp2 out back:List Int),KR ρ' A∧KR ρ' []∧(RA m fuel.toNat (Run.all m inp fuel.toNat pages) r)∧(DR m fuel.toNat z fr g N h inp2 out back r)∧(K8.sl cx z.fn m.funcs)∧(KM.sl cx z.iv inp2)∧St cx w' (gX q z fr g N h out (sl 2 1 z.bv (Qv back)::blk p9 29 [.int .i64 0, .int .i64 0]::blk p8 33 [.int .i64 0, .slice none 0 0, .slice none 0 0, .int .i64 0]::L))) (fun _ w'=>fE w' q fuel.toNat) ?_ ?_
 · exact ⟨.on (MS.start inp pages),Z5 (.slice af m.funcs.length nf) fv v fuel,[],Rs,0,⟨[],pages⟩,inp,[],[],zh,zh,RA.first,(hDf fv),hf,hi,by have hS:=hS.nil (T:=2) (es:=1);exact hS.sp⟩
 rintro ρ w1 ⟨r,z,fr,g,N,h,inp2,out,back,hA,hρ,hRA,hD,hfn2,hin2,hS⟩;obtain ⟨ρ,rfl⟩:=KS hA hρ;refine' Nx;obtain ⟨lv1,rv1,ho1,hS⟩:=PN hS;have hm0:=xV (most:=fuel.toNat) hS;refine' RZ;cases hdn:z.dn;all_goals (refine' Oy)
 all_goals
  first
  | (refine' KN
     refine' KV;refine' bT;refine' Ls;obtain ⟨s,rfl⟩:=hD.on hdn;have hRA':RA m fuel.toNat (Run.all m inp fuel.toNat pages) (Run.step m fuel.toNat (.on s)):=RA.onD hRA hD;refine' Lf (c:=Z7 hD hM hIn Jo hfn2 hin2 (QX ho1 hS));rintro v1 w1 (⟨rfl,z',fr3,g3,N3,h3,inp3,out3,back3,hD',hfn3,hin3,hS⟩|⟨f8,z8,lv8,left8,hr8,rfl,hz1,hz2,hz3,hS⟩);all_goals (unfold Lg;dsimp only;refine Qh hS ?_;intro p11 w1 hS;refine K1 hS ?_;intro w1 hS;have hS:=hS.ns;refine' P0;refine' UT;refine' zn)
     all_goals
      first
      | (refine' KN;refine Qo ?_;obtain ⟨hfl,hoc⟩:=RA.stuck hRA' hr8;refine zC [(0,none),(1,none),(2,some (some [1])),(3,some none)] ?_;have hS:=hS.drew;refine' LP;refine M5 [_,_,_,_] ?_;refine' Ll;refine zv hS ?_;refine' My;((refine K1 hS ?_;intro w1 hS;have hS:=hS.ns));refine' Nj;((refine K1 hS ?_;intro w1 hS;have hS:=hS.ns));refine' LV;refine' zr;refine lN vw (Q2 (n:=4) Jk Jk (hS.blkAt fd) Jr Jr) vw (Q2 (n:=2) Jk Jk (hS.blkAt fd) Jr Jr) ?_;(first|exact Du|exact ⟨_,rfl,cx,none,none,0,0,Gj hS,(by rw [hoc,hfl];rfl),(by rw [hoc];exact Gz _ _ _),(by rw [hoc];exact Gz _ _ _),hS.sp⟩))
      | (refine' KO;refine' KV)
     (exact ⟨⟨Run.step m fuel.toNat (.on s),z',fr3,g3,N3,h3,inp3,out3,back3,zh,zh,hRA',hD',(by rw [hfn3];exact hfn2),hin3,hS.sp⟩,(by obtain ⟨lv2,rv2,ho2,hS⟩:=PN (p:=q) (z:=z') (fr:=fr3) (g:=g3) (N:=N3) (h:=h3) (out:=out3) (L:=L) hS.sp;rw [xV (most:=fuel.toNat) hS,hm0];exact DR.less hD hD')⟩))
  | (refine' KO;obtain ⟨hfl,hoc,hzc,hza⟩:=DR.fin hD hRA hdn;refine' L7;refine Qo ?_;have hol:out.length≤2000∧back.length≤100000:=DR.lens hD;obtain ⟨c4,hle4,hS,q1⟩:=GF (r:=KM) (l:=back) (hS.out (r:=sl 2 1 z.bv (Qv back)) fd) wX rfl Jo;simp only [IE,Hx] at hS;obtain ⟨c5,hle5,hS,q2⟩:=GF (r:=KM) (l:=out) (hS.out (r:=sl 2 1 z.ov (Qv out)) fd) wX rfl Jo;simp only [IE,Hx] at hS;have q1:=GJ q1 hle5;obtain ⟨a1,y1,e1⟩:=FK q1;obtain ⟨a2,y2,e2⟩:=FK q2;have o1:oneC z.bv=true:=(by rw [e1];rfl);have o2:oneC z.ov=true:=(by rw [e2];rfl);refine' Mj;refine' Ma;refine zv hS ?_;refine M5 [_,_] ?_;refine Rb hS rfl rfl Jr fd Js (by show∀u∈[Value.int .i64 z.e,z.bv,z.ov, .int .i64 z.fu],oneC u=true;simp only [FX,FQ,or_false,forall_eq_or_imp,forall_eq];exact ⟨rfl,o1,o2,rfl⟩) Jr ?_;intro w1 hS;have hS:=hS.ns;((refine K1 hS ?_;intro w1 hS;have hS:=hS.ns));refine' Mu;refine lN vw (Q2 (n:=4) Jk Jk (hS.blkAt fd) Jr Jr) vw (Q2 (n:=2) Jk Jk (hS.blkAt fd) Jr Jr) ?_;(exact Du))
end
section
attribute [local irreducible] K4 Mq MY Xo NG
variable {cx:Cx}{w:World}{L:List Res}
def RF (hp:Nat)(h:List Bool):Res:=Res.ex fun v=>star (blk hp 163 [v]) (sl 4 1 v (h.map QH))
theorem fF {hp:Nat}{h:List Bool}(hS:St cx w (RF hp h::L)):∃v,St cx w (blk hp 163 [v]::sl 4 1 v (h.map QH)::L):=by
 obtain ⟨v,hS⟩:=St.ex hS;exact ⟨v,hS.star⟩
theorem bI {hp:Nat}{h:List Bool}{v:Value}(hS:St cx w (blk hp 163 [v]::sl 4 1 v (h.map QH)::L)):St cx w (RF hp h::L):=Kw v hS.star'
theorem Xf {hp:Nat}{h:List Bool}{v:Value}{r:Int}(hS:St cx w (blk hp 163 [v]::sl 4 1 v (h.map QH)::L)):
 KK Tryz.prog uJ [.pointer (some ⟨hp,0,none⟩), .int .i64 r] w fun u w'=>u= .bool (K4 h r)∧St cx w' (blk hp 163 [v]::sl 4 1 v (h.map QH)::L):=by
 ((have hlen:(h.map QH).length=h.length:=FF _;refine KY KX Tryz.func153 ?_;refine' Og;first|(refine' MV)|(refine' Nu)|(refine' Ag<;>intro hc));all_goals (refine' Ss;refine' Nf;(first|refine' KP|(refine' KQ;(first|(refine Qx hS hel1 rfl OD (Ns QH h false Jo) rfl ?_)|(refine zl hS ?_))));refine' Yx;first|refine' KP|(refine' KQ;(first|(refine' LG)|(refine' LM)|(refine' Ae<;>intro hc)))));all_goals (refine' PE;refine' aR;refine' Nf;(first|refine' KP|(refine' KQ;(first|(refine Qx hS hel1 rfl OD (Ns QH h false Jo) rfl ?_)|(refine zl hS ?_))));refine' MT;(first|refine' KP|(refine' KQ;(first|(refine' N9;intro b1 o1 cs1 x1 hat1 hx1 he1;obtain rfl:=QB he1)|(refine Rf hS ?_;intro b1 o1 hel1)|(refine aO hS ?_;intro b1 o1 hel1))));(first|refine' KP|(refine' KQ;(first|(refine Qx hS hel1 rfl OD (Ns QH h false Jo) rfl ?_)|(refine zl hS ?_)|(refine S4 hS ?_)|(refine cU hS ?_)|(refine jj hS ?_)|(refine jk hS ?_))));refine' Xx;(exact Au))
theorem xW {hp:Nat}{h:List Bool}{v:Value}(hl:h.length≤16)(hS:St cx w (blk hp 163 [v]::sl 4 1 v (h.map QH)::L)):
 KK Tryz.prog uC [.pointer (some ⟨hp,0,none⟩)] w fun u w'=>∃c',cx.Le c'∧KM.sl c' u (Mq h)∧St c' w' (blk hp 163 [v]::sl 4 1 v (h.map QH)::L):=by
 have hlen:(h.map QH).length=h.length:=FF _;refine KY KX Tryz.func100 ?_;refine' Mf;refine' Mf;refine' M8;have hS:=Ic (T:=3) (es:=1) hS;refine zo [0] (fun A ρ' w'=>∃(j:Nat) (vo:Value) (co:List (List Value)),KR ρ' A∧KR ρ' [(4, .int .i64 j),(3,vo)]∧(j≤h.length)∧(KM.ls cx co (NG h j))∧St cx w' (sl 3 1 vo co::blk hp 163 [v]::sl 4 1 v (h.map QH)::L)) (fun ρ' _=>(h.length - iv (ρ' 4)).toNat) ?_ ?_
 · exact Dv
 rintro ρ w1 ⟨j,vo,co,hA,hρ,hj,hls,hS⟩;obtain ⟨ρ,rfl⟩:=KS hA hρ;have hll:=oM h j;have hsu:=lP h j;refine' PB;refine' Ma;(first|(refine Qx hS Ja rfl NT (Ns QH h false Jo) rfl ?_)|(refine zl hS ?_));refine' aT;refine' RU;refine' Ab<;>intro hc
 · skip
   refine' MF;refine' Xw;(first|(refine Qx hS Ja rfl NT (Ns QH h false Jo) rfl ?_)|(refine zl hS ?_));refine' zm;(first|(refine' N9;intro b1 o1 cs1 x1 hat1 hx1 he1;obtain rfl:=QB he1)|(refine Rf hS ?_;intro b1 o1 hel1));(first|(refine Qx hS Ja rfl NT (Ns QH h false Jo) rfl ?_)|(refine zl hS ?_)|(refine S4 hS ?_)|(refine cU hS ?_)|(refine jj hS ?_)|(refine jk hS ?_));refine' zn;refine' Aa<;>intro hc
   · skip;refine' NJ;refine LK hS [_] ?_;intro b1 w1 hS;refine za SC Tg hS ?_;intro vp1 w1 css1 hls1 hv1 hS;have hS:=hS.ns;refine' UZ;(exact Co)
   · skip;refine' KV;refine' Mk;(exact Ao)
 · skip;refine' U2;(refine ⟨_,rfl,?_⟩;obtain ⟨c',hle,hS',hk⟩:=GF (r:=KM) hS hls rfl Jo;refine ⟨c',hle,?_,hS'⟩;rw [show j=h.length by omega] at hk;unfold Mq;exact hk)
theorem Xg {s:List Int}{c:Int}{v:Value}(hK:KM.sl cx v s)(hS:St cx w L):KK Tryz.prog pV [v, .int .i64 c] w fun u w'=>u= .bool (decide (c∈s))∧St cx w' L:=by
 have hlen:=hK.len;refine KY KX Tryz.func154 ?_;refine' Mf;refine' M8;refine Mx hS [0,1] (fun A LL ρ' w'=>∃(j:Nat),KR ρ' A∧KR ρ' [(5, .int .i64 j)]∧(j≤s.length)∧(c∈s↔c∈s.drop j)∧St cx w' (LL)) (fun ρ' _=>(s.length - iv (ρ' 5)).toNat) ?_ ?_
 · exact AH
 rintro ρ w1 ⟨j,hA,hρ,hj,hd,hS⟩;obtain ⟨ρ,rfl⟩:=KS hA hρ;refine' Tc;refine' Ab<;>intro hc
 · skip
   (refine' MF;refine' Lu;refine' zi;intro b1 o1 cs1 x1 hat1 hx1 he1;obtain rfl:=QB he1;refine' N8;refine' zm;first|(refine' Qd)|(refine' Qi)|(refine' Ac<;>intro hc));all_goals (refine' zn)
   all_goals
    first
    | (refine' KN;refine' Lh;((refine ⟨_,rfl,?_,hS.sp⟩;(rw [decide_eq_true];rw [hd,Q1 hx1,FX];exact .inl Jo);done)))
    | (refine' KO;refine' KV)
   refine' Mk;(exact Dh)
 · skip;refine' O5;(first|(refine ⟨_,rfl,?_,hS.sp⟩;rw [decide_eq_true];rw [hd,Q1 hx1,FX];exact .inl Jo;done)|(refine ⟨_,rfl,?_,hS.sp⟩;rw [decide_eq_false];rw [hd,FJ Jo];exact FQ;done))
theorem Z9 {hp:Nat}{h:List Bool}{v:Value}(hl:h.length≤16)(hx:KM.sl cx v2 xs)(hS:St cx w (blk hp 163 [v]::sl 4 1 v (h.map QH)::L)):
 KK Tryz.prog uK [.pointer (some ⟨hp,0,none⟩),v2] w fun u w'=>u= .int .i64 (MY h [] xs)∧St cx w' (blk hp 163 [v]::sl 4 1 v (h.map QH)::L):=by
 have hxl:=hx.len;have hll:(Mq h).length≤h.length:=(by unfold Mq;exact oM _ _);rw [zF];refine KY KX Tryz.func157 ?_;refine' Mf;refine' M8;refine Mx hS [0,1] (fun A LL ρ' w'=>∃(j:Nat),KR ρ' A∧KR ρ' [(5, .int .i64 j)]∧(j≤xs.length)∧(Xo h xs [] xs=Xo h xs (xs.take j) (xs.drop j))∧St cx w' (LL)) (fun ρ' _=>(xs.length - iv (ρ' 5)).toNat) ?_ ?_
 · exact BA
 rintro ρ w1 ⟨j,hA,hρ,hj,hgo,hS⟩;obtain ⟨ρ,rfl⟩:=KS hA hρ;refine' Tc;refine' Ab<;>intro hc
 · skip
   refine' MF;refine' NI;refine' M7;refine' zi;intro b1 o1 cs1 x1 hat1 hx1 he1;obtain rfl:=QB he1;refine' N8;rw [Q1 hx1,Xo] at hgo;refine' KU (c:=Xf hS);rintro v1 w1 ⟨rfl,hS⟩;refine' Oy;refine' Aa<;>intro hc
   · skip;refine' Lh;(exact BC)
   · skip
     have hc1:K4 h x1=true:=D6;rw [if_pos hc1] at hgo;refine' KV;refine Qo ?_;refine zD (ci 8 [7]) ?_;have hS:=hS.drew;refine' M7;((refine iV vw hx rfl rfl ⟨_,rfl⟩ rfl Jo Jo ?_;intro v4 hs4;rw [GD] at hs4));refine' M7;refine' zi;intro b2 o2 cs2 x2 hat2 hx2 he2;((obtain rfl:=QB he2));refine' N8;refine' KU (c:=Xg hs4 hS);rintro v1 w1 ⟨rfl,hS⟩;obtain rfl:x1=x2:=FY (hx1.symm.trans hx2);refine' zn;refine' Ab<;>intro hc
     · skip;refine' Lh;first|(exact BC)|(exact BH)
     · skip;refine' KV;refine' Mk;(exact ⟨⟨j+1,zh,zh,Jo,by rw [hgo,if_neg hc,Ux hx1],hS.sp⟩,Qc Jo⟩)
 · skip
   refine' L7;refine' Ls;refine' Lf (c:=xW (L:=L) hl hS.sp);rintro v5 w5 ⟨c5,hle5,hk5,hS⟩;have hx5:=hx.up hle5;have hie:j=xs.length:=DB;subst hie;rw [ID,List.drop_length,Xo] at hgo;refine' UY;refine Mx hS [1,6] (fun A LL ρ' w'=>∃(q:Nat),KR ρ' A∧KR ρ' [(7, .int .i64 q)]∧(q≤(Mq h).length)∧(∀y∈(Mq h).take q,y∈xs)∧St c5 w' (LL)) (fun ρ' _=>((Mq h).length - iv (ρ' 7)).toNat) ?_ ?_
   · exact AH
   rintro ρ w1 ⟨q,hA,hρ,hq,hall,hS⟩;obtain ⟨ρ,rfl⟩:=KS hA hρ;refine' Tc;refine' Ab<;>intro hc
   · skip
     refine' MF;refine' Lu;refine' PA;intro b3 o3 cs3 x3 hat3 hx3 he3;obtain rfl:=QB he3;refine' N8;refine' KU (c:=Xg hx5 hS);rintro v1 w1 ⟨rfl,hS⟩;refine' Oy;refine' Aa<;>intro hc
     · skip;have hn3:x3∉xs:=D6;refine' Lh;first|(exact BC)|(exact BH)|(exact Cq)
     · skip;have hn3:x3∈xs:=D6;refine' KV;refine' Mk;((exact ⟨⟨q+1,zh,zh,Jo,Yk hall hx3 hn3,hS.sp⟩,Qc Jo⟩))
   · skip;refine' O5;first|(exact BC)|(exact BH)|(exact Cq)|(exact ⟨_,rfl,(by rw [hgo,if_pos (cB hall Jo)]),GY hS.sp hle5⟩)
theorem fH (hS:St cx w L):KK Tryz.prog Qg7 [.int .i64 n] w fun u w'=>∃hp v,u= .pointer (some ⟨hp,0,none⟩)∧St cx w' (blk hp 163 [v]::sl 4 1 v ((List.replicate (min n 16).toNat true).map QH)::L):=by
 refine KY KX Tryz.func93 ?_;refine' Mf;refine' K3;refine M5 [_] ?_;refine zb hS ?_;intro p6 w1 hS;refine' UY;have hS:=Ic (T:=4) (es:=1) hS;refine zo [0,3] (fun A ρ' w'=>∃(j:Nat) (v:Value),KR ρ' A∧KR ρ' [(4, .int .i64 j)]∧(j≤(min n 16).toNat)∧St cx w' (sl 4 1 v ((List.replicate j true).map QH)::blk p6 163 [v]::L)) (fun ρ' _=>(min n 16 - iv (ρ' 4)).toNat) ?_ ?_
 · exact ⟨0,_,zh,zh,Jo,hS.sp⟩
 ((rintro ρ w1 ⟨j,v,hA,hρ,hj,hS⟩;obtain ⟨ρ,rfl⟩:=KS hA hρ;refine' PB;first|(refine' LG)|(refine' LM)|(refine' Ae<;>intro hc));all_goals (refine' Mr;first|refine' KP|(refine' KQ;(first|(refine' LG)|(refine' LM)|(refine' Ae<;>intro hc)))));all_goals (refine' LH)
 all_goals
  first
  | (refine' KN;refine' MF;refine' NJ;refine' Oa;refine LK hS [_] ?_;intro b1 w1 hS;refine Ow jE (.inl mj) hS vw vw fd (hS.srcB1 fd rfl) DE ?_;intro vp w2 hS;have hS:=hS.ns;rw [show (List.replicate j true).map QH++[[Value.bool true]]=(List.replicate (j+1) true).map QH by rw [IU,Ga];rfl] at hS;refine' Ma;refine Mi hS ?_;intro w1 hS;have hS:=hS.ns;refine' zn;refine' Mk;(exact ⟨⟨j+1,_,zh,zh,Jo,hS.sp⟩,Qc Jo⟩))
  | (refine' KO;all_goals (refine' U2);all_goals (exact Dm))
end
section
attribute [local irreducible] K4 Mq MY NG Om LJ LW
variable {cx:Cx}{w:World}{L:List Res}{j:JP}{h:List Bool}{vl:Value}{css:List (List Value)}{i:Nat}{m:Module}
@[reducible] def JP.kcells (j:JP)(vl:Value):List Value:=[j.vm, .int .i64 j.f.regs,j.vp,j.vr,j.vb, .pointer (some ⟨j.hp,0,none⟩),vl]
theorem Xh {hp:Nat}{r:Int}(hS:St cx w L)(hi:nth L i=some (RF hp h)):KK Tryz.prog uJ [.pointer (some ⟨hp,0,none⟩), .int .i64 r] w fun u w'=>u= .bool (K4 h r)∧St cx w' L:=by
 obtain ⟨v,h2⟩:=fF (hS.out hi);refine (Xf h2).mono ?_;rintro u w' ⟨h3,h4⟩;exact ⟨h3,Gc (bI h4) hi⟩
theorem aa {hp:Nat}(hl:h.length≤16)(hS:St cx w L)(hi:nth L i=some (RF hp h)):KK Tryz.prog uC [.pointer (some ⟨hp,0,none⟩)] w fun u w'=>∃c',cx.Le c'∧KM.sl c' u (Mq h)∧St c' w' L:=by
 obtain ⟨v,h2⟩:=fF (hS.out hi);refine (xW hl h2).mono ?_;rintro u w' ⟨c',h3,h5,h4⟩;exact ⟨c',h3,h5,Gc (bI h4) hi⟩
theorem ae {hp:Nat}(hl:h.length≤16)(hx:KM.sl cx v2 xs)(hS:St cx w L)(hi:nth L i=some (RF hp h)):KK Tryz.prog uK [.pointer (some ⟨hp,0,none⟩),v2] w fun u w'=>u= .int .i64 (MY h [] xs)∧St cx w' L:=by
 obtain ⟨v,h2⟩:=fF (hS.out hi);refine (Z9 hl hx h2).mono ?_;rintro u w' ⟨h3,h4⟩;exact ⟨h3,Gc (bI h4) hi⟩
theorem R5 {s:JS}{k kd:Int}{held:Bool}(hls:K0.ls cx css s.l)(hS:St cx w (blk j.sp 158 (j.kcells vl)::RF j.hp s.h::sl 115 3 vl css::L)):
 KK Tryz.prog QcP [.pointer (some ⟨j.sp,0,none⟩), .int .i64 k, .int .i64 kd, .bool held] w fun u w'=>u= .int .i64 (LW s k kd held)∧St cx w' (blk j.sp 158 (j.kcells vl)::RF j.hp s.h::sl 115 3 vl css::L):=by
 ((have hlc:=hls.1;refine KY KX Tryz.func98 ?_;refine' Ob;first|(refine' LG)|(refine' LM)|(refine' Ae<;>intro hc));all_goals (refine' Ss;refine' Nv;(first|refine' KP|(refine' KQ;refine QL hS vw fd hlc ?_));first|refine' KP|(refine' KQ;(first|(refine' MV)|(refine' Nu)|(refine' Ag<;>intro hc)))));all_goals (refine' LH)
 all_goals
  first
  | (refine' KN;all_goals (refine' Lh);all_goals (refine ⟨_,rfl,?_,hS.sp⟩;rw [mC Jo];done))
  | (refine' KO;refine' KV)
 (refine' Nx;obtain ⟨t,ht⟩:∃t,s.l[k.toNat]?=some t:=⟨_,FB Jo⟩;obtain ⟨d,hd,hrd⟩:=hls.2 _ _ ht;obtain ⟨vd,rfl,hld⟩:=Qe hrd;refine' RZ;refine' zm;(first|(refine' N9;intro b1 o1 cs1 x1 hat1 hx1 he1;obtain ⟨vl1,rfl,hl1⟩:=Qe he1)|(refine Rf hS ?_;intro b1 o1 hel1)|(refine aO hS ?_;intro b1 o1 hel1));refine' M6;refine Qx hS hel1 rfl fd rfl hd rfl ?_;refine' zm;first|(refine' QG)|(refine' QI)|(refine' Ad<;>intro hc));all_goals (refine' zn)
 all_goals
  first
  | (refine' KN;refine' Lh;first|(refine ⟨_,rfl,?_,hS.sp⟩;rw [mC Jo];done)|(refine ⟨_,rfl,?_,hS.sp⟩;rw [qS Jo ht Jo];done))
  | (refine' KO;refine' KV)
 (refine' Nx;cases held;all_goals (refine zD (ci 17 [14,16]) ?_;have hS:=hS.drew;refine' zm;refine' RY;refine' Nv;refine' Xs;refine' Nv;refine' MT;(first|refine' KP|(refine' KQ;(first|(refine' N9;intro b2 o2 cs2 x2 hat2 hx2 he2;obtain ⟨vl2,rfl,hl2⟩:=Qe he2)|(refine Rf hS ?_;intro b2 o2 hel2)|(refine aO hS ?_;intro b2 o2 hel2))));refine' NC;(first|refine' KP|(refine' KQ;refine Q5 (j:=1) hS hel2 rfl fd rfl hd rfl ?_));first|refine' KP|(refine' KQ;refine' KU (c:=Xh hS fd);rintro v1 w1 ⟨rfl,hS⟩;cases hb:K4 s.h t.r)));all_goals (refine' OG;refine' LH)
 all_goals
  first
  | (refine' KN;refine' Lh;first|(refine ⟨_,rfl,?_,hS.sp⟩;rw [mC Jo];done)|(refine ⟨_,rfl,?_,hS.sp⟩;rw [qS Jo ht Jo];done)|(refine ⟨_,rfl,?_,hS.sp⟩;rw [vT Jo ht Jo hb];done))
  | (refine' KO;all_goals refine' KV)
 all_goals (refine' Lh;first|(refine ⟨_,rfl,?_,hS.sp⟩;rw [mC Jo];done)|(refine ⟨_,rfl,?_,hS.sp⟩;rw [qS Jo ht Jo];done)|(refine ⟨_,rfl,?_,hS.sp⟩;rw [vT Jo ht Jo hb];done)|(refine ⟨_,rfl,?_,hS.sp⟩;rw [VZ Jo ht Jo (fun h=>Bool.noConfusion h)];done)|(refine ⟨_,rfl,?_,hS.sp⟩;rw [VZ Jo ht Jo (fun _=>hb)];done))
theorem sq {s:JS}{regs:List Int}{want:List Ty}{v3:Value}(hsh:∀t∈want,t.Short)(hls:K0.ls cx css s.l)(h1:KM.sl cx v1 l)(h2:K0.sl cx v2 want)(h3:KM.sl cx v3 regs)(hS:St cx w (blk j.sp 158 (j.kcells vl)::RF j.hp s.h::sl 115 3 vl css::L)):
 KK Tryz.prog QcQ [.pointer (some ⟨j.sp,0,none⟩),v1,v2,v3] w fun u w'=>u= .int .i64 (QW (O2 s l want regs))∧St cx w' (blk j.sp 158 (j.kcells vl)::RF j.hp s.h::sl 115 3 vl css::L):=by
 (have hl1:=h1.len;have hl2:=h2.len;have hlc:=hls.1;have hle:=Gj hS;have hlsX:=hls.2;unfold O2;refine KY KX Tryz.func99 ?_;refine' Ob;(first|(refine QL hS vw fd hlc ?_)|(refine' zL));refine' zm;(first|(refine QL hS vw fd hlc ?_)|(refine' zL));first|(refine' QG)|(refine' QI)|(refine' Ad<;>intro hc));all_goals (refine' zn)
 all_goals
  first
  | (refine' KN;refine' Lh;(exact Bw))
  | (refine' KO;refine' KV)
 refine' M8;refine Mx hS [0,1,2,3] (fun A LL ρ' w'=>∃(k0:Cx) (q:Nat),KR ρ' A∧KR ρ' [(9, .int .i64 q)]∧(cx.Le k0)∧(q≤l.length)∧(Ox s regs l want=Ox s regs (l.drop q) (want.drop q))∧(want.length=l.length)∧St k0 w' (LL)) (fun ρ' _=>(l.length - iv (ρ' 9)).toNat) ?_ ?_
 · exact ⟨cx,0,zh,zh,Gj hS,Jo,by rfl,Jo,hS.sp⟩
 rintro ρ w1 ⟨k0,q,hA,hρ,hle2,hq,hd,hw,hS⟩;obtain ⟨ρ,rfl⟩:=KS hA hρ;have hL0:=hle2;(try have hle:=hle.trans hle2);(try have hls:=hls.up hle2);(try have h1:=h1.up hle2);(try have h2:=h2.up hle2);(try have h3:=h3.up hle2);refine' PB;(first|(refine QL hS vw fd hlc ?_)|(refine' zL));refine' RU;refine' Ab<;>intro hc
 · skip
   ((refine' MF;refine' Nx;refine zD (ci 17 [16]) ?_;have hS:=hS.drew;refine' M7;refine' zi;intro b1 o1 cs1 x1 hat1 hx1 he1;obtain rfl:=QB he1;refine' N8;first|(refine' LG)|(refine' LM)|(refine' Ae<;>intro hc));all_goals (refine' Mr;refine' MT;(first|refine' KP|(refine' KQ;refine TA vw rfl h1 rfl Jo ?_;intro b8 o8 cs8 x8 hat8 hx8 he8;obtain rfl:=QB he8;obtain rfl:x1=x8:=FY (hx1.symm.trans hx8)));refine' cV;refine' Xs;refine' Nv;(first|refine' KP|(refine' KQ;refine QL hS vw fd hlc ?_));first|refine' KP|(refine' KQ;(first|(refine' MV)|(refine' Nu)|(refine' Ag<;>intro hc)))));all_goals (refine' LH)
   all_goals
    first
    | (refine' KO;refine' KV)
    | (refine' KN;all_goals (refine' Lh);all_goals (first|(exact Bw)|(exact ⟨_,rfl,by rw [if_neg Jo,hd,lS hx1 (FB Jo) (aB Jo)];rfl,GY hS.sp hL0⟩)))
   refine Qo ?_;obtain ⟨t,ht⟩:∃t,s.l[x1.toNat]?=some t:=⟨_,FB Jo⟩;obtain ⟨d,hdt,hrd⟩:=hls.2 _ _ ht;have g1:=Yn Jo ht;refine' Mm;refine' zm;refine' zm;((refine' zi;intro b2 o2 cs2 x2 hat2 hx2 he2;((obtain ⟨vl2,rfl,hl2⟩:=Qe he2))));refine' N7;refine' zm;refine' KU (c:=rT x2 (hsh x2 (FC hx2)) he2 h3 hS);rintro v1 w1 ⟨c3,ds,rfl,hle2,hu3,hS⟩;(try have hle:=hle.trans hle2);(try have hL0:=hL0.trans hle2);(try have hl2:=hl2.up hle2);(try have he2:=he2.up hle2);(try have hls:=hls.up hle2);(try have h1:=h1.up hle2);(try have h2:=h2.up hle2);(try have h3:=h3.up hle2);have hrd:=IW hrd hle2;(have hrd':=hrd);obtain ⟨vd,rfl,hld⟩:=Qe hrd;rcases hn:x2.ren regs with _|y<;>rw [hn] at hu3<;>simp only [Option.getD_none,Hn] at hu3<;>(have hu3':=hu3)<;>obtain ⟨vu,rfl,hlu⟩:=Qe hu3
   all_goals (refine' Sm;intro p10 w1 hS;refine K1 hS ?_;intro w1 hS;have hS:=hS.ns;refine' OS;refine zD (ci 17 [14,16]) ?_;have hS:=hS.drew;refine' zm;refine' Pm;refine' zm;refine' Sh;refine' Xs;refine' Nv;refine' MT;refine' MT;(first|refine' KP|(refine' KQ;refine TA vw rfl h1 rfl Jo ?_;intro b4 o4 cs4 x4 hat4 hx4 he4;obtain rfl:=QB he4;obtain rfl:x1=x4:=FY (hx1.symm.trans hx4)));refine' cV;(first|refine' KP|(refine' KQ;refine QN hS vw rfl fd Jo Jo ?_;intro b5 o5 hel5));(first|refine' KP|(refine' KQ;refine OY hS hel5 rfl fd rfl hdt ?_));first|refine' KP|(refine' KQ;refine' KU (c:=qg _ _ hu3' hrd' hS);rintro v1 w1 ⟨rfl,hS⟩;cases hdc:decide (y=t)));all_goals (refine' OG;refine' LH)
   all_goals
    first
    | (refine' KN;all_goals (refine' Lh);all_goals (first|(exact Bw)|(exact ⟨_,rfl,by rw [if_neg Jo,hd,lS hx1 (FB Jo) (aB Jo)];rfl,GY hS.sp hL0⟩)|(exact Dj)|(exact CM)))
    | (refine' KO;refine' KV)
   refine' Mk;(exact ⟨⟨_,q+1,zh,zh,hL0,Jo,by rw [hd,tC hx1 hx2 g1 hn (of_decide_eq_true hdc).symm],hw,hS.sp⟩,Qc Jo⟩)
 · skip;refine' O5;first|(exact Bw)|(exact ⟨_,rfl,by rw [if_neg Jo,hd,lS hx1 (FB Jo) (aB Jo)];rfl,GY hS.sp hL0⟩)|(exact Dj)|(exact CM)|(exact ⟨_,rfl,by rw [if_neg Jo,hd,tD Jo];rfl,GY hS.sp hL0⟩)
theorem m6 {v:Value}(hn:xs.length≤1000)(hS:St cx w (sl 3 1 v (xs.map Qs)::L)):KK Tryz.prog YJ [v] w fun u w'=>u= .int .i64 (Oh xs)∧St cx w' (sl 3 1 v (xs.map Qs)::L):=by
 have hlc:(xs.map Qs).length=xs.length:=FF _;refine KY KX Tryz.func151 ?_;refine' Mf;refine' M8;refine Mx hS [0] (fun A LL ρ' w'=>∃(q:Nat),KR ρ' A∧KR ρ' [(3, .int .i64 q)]∧(q≤xs.length)∧(Oh xs=Oh (xs.drop q))∧St cx w' (LL)) (fun ρ' _=>(xs.length - iv (ρ' 3)).toNat) ?_ ?_
 · exact BA
 rintro ρ w1 ⟨q,hA,hρ,hq,hd,hS⟩;obtain ⟨ρ,rfl⟩:=KS hA hρ;refine' PB;refine QL hS vw fd hlc ?_;refine' RU;refine' Ab<;>intro hc
 · skip
   (refine' Rm;obtain ⟨x,hx⟩:∃x,xs[q]?=some x:=⟨_,FB Jo⟩;have hxc:(xs.map Qs)[q]?=some (Qs x):=(by rw [FW,hx];rfl);refine' NJ;refine PQ hS vw rfl fd Jo ?_;intro b1 o1 hel1;refine Qx hS hel1 rfl fd rfl hxc rfl ?_;first|(refine' QG)|(refine' QI)|(refine' Ad<;>intro hc));all_goals (refine' zn)
   all_goals
    first
    | (refine' KN;refine' Lu;refine PQ hS vw rfl fd Jo ?_;intro b2 o2 hel2;refine Qx hS hel2 rfl fd rfl hxc rfl ?_;refine' Ly;((refine ⟨_,rfl,?_,hS.sp⟩;(rw [hd,Q1 hx,Oh,if_pos Jo]);done)))
    | (refine' KO;refine' KV)
   refine' Mk;(exact ⟨⟨q+1,zh,zh,Jo,by rw [hd,Q1 hx,Oh,if_neg Jo],hS.sp⟩,Qc Jo⟩)
 · skip;refine' O5;(first|(refine ⟨_,rfl,?_,hS.sp⟩;rw [hd,Q1 hx,Oh,if_pos Jo];done)|(refine ⟨_,rfl,?_,hS.sp⟩;rw [hd,FJ Jo];rfl;done))
end
end Go.Proofs.YteflkifmgnpbhaaGreat
