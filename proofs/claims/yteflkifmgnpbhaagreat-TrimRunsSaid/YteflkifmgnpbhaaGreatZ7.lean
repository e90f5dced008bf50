
/- Lemmas of the proof, part 7: what the functions of the program do (contracts), and what follows. -/
import Derived.Test.YteflkifmgnpbhaaGreatZ2
import Derived.Test.YteflkifmgnpbhaaGreatZ6
import Derived.Test.YteflkifmgnpbhaaGreatZ5
import Derived.Test.YteflkifmgnpbhaaGreatZ4
import Derived.Test.YteflkifmgnpbhaaGreatZ3
open Go Go.Lir Go.Proofs.YteflkifmgnpbhaaGreat
variable {l out2:List Int}{v y:Val}{v2 v1 u lv:Value}{e fuel pages b n a:Int}{f:Fun}{cs:List Value}{rv:List RgnV}{j q N2 N' most:Nat}{x:Ins}{g:Frm}{vs:List Val}{P:Prop}{cx:Cx}{w:World}{L L':List Res}{X:Stp}{h2 h:HpS}{fr':List FrmV}{g':FrmV}{t:To}{r:Run}{s:MS}
set_option linter.unusedVariables false
set_option linter.unusedSimpArgs false
set_option maxHeartbeats 1000000
namespace Go.Lir
section
variable {p:Prop}
theorem Dd (h:p:=by exact EK _):p:=h
theorem Dj (h:p:=by simp only [ET,Ff];omega):p:=h
theorem Dn (h:p:=by first|exact AN|rfl):p:=h
theorem Dw (h:p:=by first|omega|(simp only [EK,EM,ET,Ff,Fe,FO];omega)):p:=h
theorem DB (h:p:=by rw [he];decide):p:=h
theorem DC (h:p:=by rw [EK];simp only [ET,Ff];omega):p:=h
theorem DV (h:p:=by unfold HpS.get;rw [e0];first|done|fail):p:=h
theorem DY (h:p:=by have hS:=Gp (T:=3) (es:=1) (css:=Qq [x.b]) hS rfl (by simp [Qq]) rfl;exact AA):p:=h
theorem D1 (h:p:=by rw [hge,if_pos ⟨hta,hx1⟩]):p:=h
theorem D9 (h:p:=by have hS:=Gp (T:=182) (es:=4) (css:=[h.openV].map Val.cells) hS rfl (by simp [Val.cells]) rfl;exact AA):p:=h
theorem Ed (h:p:=by unfold HpS.can;rw [decide_eq_false hk,IN]):p:=h
theorem Ef (h:p:=by have hS:=Gp (T:=182) (es:=4) (css:=[(h.get v0 n0).1].map Val.cells) hS rfl (by simp [Val.cells]) rfl;exact AA):p:=h
theorem Ei (h:p:=by (conv=>lhs;whnf);first|done|exact rfl):p:=h
theorem Ek (h:p:=by have hS:=Gp (T:=182) (es:=4) (css:=[(h.get v0 x.k).1].map Val.cells) hS rfl (by simp [Val.cells]) rfl;exact AA):p:=h
theorem En (h:p:=by first|exact hX.trans (OV hrs)|exact hX.trans ((Qg hrs).trans (OV hvs))|exact CM):p:=h
theorem Et (h:p:=by have hS:=Gp (T:=3) (es:=1) (css:=Qq [x.a]) hS rfl (by simp [Qq]) rfl;exact AA):p:=h
theorem Ez (h:p:=by first|omega|(simp only [EK,EM,ET,Ff,Fe,FO];omega)|(simp;done)|(simp;omega)):p:=h
theorem EA (h:p:=by unfold HpS.can;rw [hh,Bool.and_false]):p:=h
theorem EF (h:p:=by first|exact .inl Jo|exact .inr (by show (h.get v0 x.k).2≠0;omega)):p:=h
end
end Go.Lir
namespace Go.Lir
section
variable {p:Prop}
theorem AA (h:p:=by exact hS.sp):p:=h
theorem AB (h:p:=by exact ⟨_,rfl,hG⟩):p:=h
theorem AN (h:p:=by exact EK _):p:=h
theorem AP (h:p:=by exact ⟨_,rfl,rfl,(Qk ho (L:=L.eraseIdx i) hS.sp).back hi⟩):p:=h
theorem AR (h:p:=by exact ⟨_,rfl,Gj (hXl hv) hS fun _ _ hS=>hS.sp⟩):p:=h
theorem AT (h:p:=by exact ⟨_,rfl,Gj hX hS fun _ _ hS=>hS.sp⟩):p:=h
theorem AU (h:p:=by exact ⟨_,rfl,GD (fr':=fr) (g':=g) (h':=h.shut v0) (out':=out) hX hi (Fs N) rfl hS.sp⟩):p:=h
theorem AV (h:p:=by exact ⟨_,rfl,Gj (hX.trans (lU he2 he)) hS fun _ _ hS=>hS.sp⟩):p:=h
theorem AW (h:p:=by exact ⟨_,rfl,Gj (hX.trans (lY he)) hS fun _ _ hS=>hS.sp⟩):p:=h
theorem AY (h:p:=by exact ⟨_,rfl,GD (fr':=fr) (g':=g) (h':=h.set v0 x.k y0) (out':=out) hX hi (Fs N) rfl hS.sp⟩):p:=h
theorem A3 (h:p:=by exact QX (j:=0) hS hel rfl fd (Qp fr g) (QB fr g) rfl):p:=h
theorem A5 (h:p:=by exact ⟨_,rfl,rfl,(Qk ho (L:=L.eraseIdx i) hS.sp).back0 hi⟩):p:=h
theorem A6 (h:p:=by exact ⟨_,rfl,GD (fr':=fr) (g':=g) (h':=h.set v0 n0 (Ku c0)) (out':=out) (hX.trans (Zl hk4 he)) hi (Fs N) rfl hS.sp⟩):p:=h
theorem A8 (h:p:=by exact ⟨_,rfl,GD (fr':=fr) (g':=g.push tv [(h.get v0 x.k).1]) (h':=h) (out':=out) hX hi (Fs N) rfl hS.sp⟩):p:=h
theorem Ba (h:p:=by exact ⟨_,rfl,GD (fr':=fr) (g':=g.push tv [(h.get v0 n0).1]) (h':=h) (out':=out) (hX.trans (Zl hk4 he)) hi (Fs N) rfl hS.sp⟩):p:=h
theorem Bc (h:p:=by exact ⟨_,rfl,GD (fr':=fr) (g':=g.push tv [Ku (h.len v0).1]) (h':=h) (out':=out) (hX.trans (Zl hk4 he)) hi (Fs N) rfl hS.sp⟩):p:=h
theorem Bg (h:p:=by exact ⟨_,rfl,Hy (fr':=fr) (g':=g) (N':=N+1) (hX.trans (Q8B he)) (E7 _) rfl hS.sp⟩):p:=h
theorem Bi (h:p:=by exact ⟨_,rfl,GD (fr':=fr) (g':=g.push tv [h.putV v0 3 (LB vs)]) (h':=h.tuple v0 vs) (out':=out) (hX.trans (lV he)) hi (E7 _) rfl hS.sp⟩):p:=h
theorem Bo (h:p:=by exact ⟨_,rfl,Hy (fr':=fr) (g':=g) (N':=N) (hX.trans (wB hk4 he)) (Fs N) rfl hS.sp⟩):p:=h
theorem Bu (h:p:=by exact ⟨_,rfl,Hy (fr':=fr) (g':=g) (N':=N) hX (Fs N) rfl hS.sp⟩):p:=h
theorem Bw (h:p:=by exact ⟨_,rfl,GD (fr':=fr) (g':=g.push tv [h.arrV v0 n0]) (h':=h.arr v0 n0) (out':=out) (hX.trans (lV he)) hi (E7 _) rfl hS.sp⟩):p:=h
theorem Bz (h:p:=by exact ⟨_,rfl, .inl ⟨Jo,rfl,tv,hS⟩⟩):p:=h
theorem BF (h:p:=by exact ⟨_,rfl,rfl,(Qk ho1 (L:=L.eraseIdx i) hS.sp).back hi⟩):p:=h
theorem BG (h:p:=by exact ⟨_,rfl,hS.sp, .inl ⟨by rw [e1];simp [hta,hk4],rfl⟩⟩):p:=h
theorem BL (h:p:=by exact ⟨_,rfl,hS.sp, .inl ⟨e0,rfl⟩⟩):p:=h
theorem CJ (h:p:=by exact ⟨_,rfl,by unfold HpS.len;rw [e0];simp only [ho.thg hr hth];rfl,(Qk ho (L:=L.eraseIdx i) hS.sp).back0 hi⟩):p:=h
theorem CM (h:p:=by exact hX.trans ((Qg hrs).trans ((Qg hvs).trans (if_pos Jo)))):p:=h
theorem C4 (h:p:=by exact ⟨_,rfl,(by rw [show ee inp fuel pages=(0,0) from if_neg Jo];rfl),hS.sp⟩):p:=h
theorem C8 (h:p:=by exact ⟨⟨j+1,n+1,zh,zh,Jo,(by rw [hcs,hn,if_pos (show r.abs.there=true from hc)]),hS.sp⟩,Qb Jo⟩):p:=h
end
end Go.Lir
namespace Go.Lir
section
variable {p:Prop}
theorem Ah (h:p:=by first|exact ⟨_,rfl,Gj (hXl hv) hS fun _ _ hS=>hS.sp⟩|exact ⟨_,rfl,Gj hX hS fun _ _ hS=>hS.sp⟩):p:=h
theorem Aj (h:p:=by first|exact QX (j:=0) hS hel rfl fd (Qp fr g) (QB fr g) rfl|exact QX (j:=1) hS hel rfl fd (Qp fr g) (QB fr g) rfl):p:=h
theorem Al (h:p:=by first|exact ⟨_,rfl,Gj (hXl hv) hS fun _ _ hS=>hS.sp⟩|exact ⟨_,rfl,Gj hX hS fun _ _ hS=>hS.sp⟩|exact ⟨_,rfl,Gj (hX.trans (lY he)) hS fun _ _ hS=>hS.sp⟩|exact ⟨_,rfl,Gj (hX.trans (lU he2 he)) hS fun _ _ hS=>hS.sp⟩|exact ⟨_,rfl,GD (fr':=fr) (g':=g) (h':=h.shut v0) (out':=out) hX hi (Fs N) rfl hS.sp⟩|exact ⟨_,rfl,GD (fr':=fr) (g':=g) (h':=h.set v0 x.k y0) (out':=out) hX hi (Fs N) rfl hS.sp⟩|exact ⟨_,rfl,GD (fr':=fr) (g':=g) (h':=h.set v0 n0 (Ku c0)) (out':=out) (hX.trans (Zl hk4 he)) hi (Fs N) rfl hS.sp⟩|exact ⟨_,rfl,GD (fr':=fr) (g':=g.push tv [(h.get v0 x.k).1]) (h':=h) (out':=out) hX hi (Fs N) rfl hS.sp⟩|exact ⟨_,rfl,GD (fr':=fr) (g':=g.push tv [(h.get v0 n0).1]) (h':=h) (out':=out) (hX.trans (Zl hk4 he)) hi (Fs N) rfl hS.sp⟩|exact ⟨_,rfl,GD (fr':=fr) (g':=g.push tv [Ku (h.len v0).1]) (h':=h) (out':=out) (hX.trans (Zl hk4 he)) hi (Fs N) rfl hS.sp⟩|exact ⟨_,rfl,GD (fr':=fr) (g':=g.push tv [h.putV v0 3 (LB vs)]) (h':=h.tuple v0 vs) (out':=out) (hX.trans (lV he)) hi (E7 _) rfl hS.sp⟩|exact ⟨_,rfl,GD (fr':=fr) (g':=g.push tv [h.arrV v0 n0]) (h':=h.arr v0 n0) (out':=out) (hX.trans (lV he)) hi (E7 _) rfl hS.sp⟩|exact ⟨_,rfl,Hy (fr':=fr) (g':=g) (N':=N) hX (Fs N) rfl hS.sp⟩|exact ⟨_,rfl,Hy (fr':=fr) (g':=g) (N':=N) (hX.trans (wB hk4 he)) (Fs N) rfl hS.sp⟩):p:=h
theorem Au (h:p:=by first|(obtain ⟨e1,e2⟩:=lT (s:=s) (v:=⟨2,m,vt,vn⟩) (n:=n) Jo (if arr then 4 else 3) ⟨arr,tl⟩;rw [e1,e2,hcd];exact ⟨_,rfl,rfl,(Qk ho1 (L:=L.eraseIdx i) hS.sp).back hi⟩)|(have hS:St cx _ (ThgV.res H1 ⟨arr,tlv,tl⟩::Lb (ThgV.res H1) (r.roomV n).l::sl H1.Tt 2 v7 (((r.roomV n).l++[(⟨arr,tlv,tl⟩:ThgV)]).map ThgV.cells)::L5 z b lv lf::sl 131 4 lv ((rv.set m (aJ (r.roomV n) v7 ⟨arr,tlv,tl⟩)).map RgnV.cells)::Lb (RgnV.res H1) ((rv.set m (r.roomV n)).eraseIdx m)::L.eraseIdx i):=(by rw [Fa];exact hS.sp);have hS:=oX (H:=H1) (rv:=rv.set m (r.roomV n)) (k:=m) (r:=aJ (r.roomV n) v7 ⟨arr,tlv,tl⟩) (by rw [Fe];omega) (Ib hS).mv1;rw [Hv] at hS;obtain ⟨e6,e7,e8⟩:=QhG (t:=⟨arr,tl⟩) (kind:=if arr then 4 else 3) hcd hsl hrs;have ho2:HpO (N+1) (s.put ⟨2,m,vt,vn⟩ n ⟨arr,tl⟩) (rv.set m (aJ (r.roomV n) v7 ⟨arr,tlv,tl⟩)):=⟨by rw [F4,QbP,e3,ho.hr,e6];rfl,HpS.ok_put hok hn htl⟩;rw [e8,hcd];exact ⟨_,rfl,by rw [QiZ,hc];rfl,(Qk ho2 (by rw [e6];rw [←hlf];exact hS)).back hi⟩)):p:=h
theorem Av (h:p:=by first|exact ⟨_,rfl, .inr (.inl ⟨Jo,Jo,rfl,hS⟩)⟩|exact ⟨_,rfl, .inl ⟨Jo,Jo,rfl,hS.sp⟩⟩|exact ⟨_,rfl, .inr (.inr ⟨Jo,rfl,hS.sp⟩)⟩):p:=h
theorem Aw (h:p:=by first|exact ⟨_,rfl,Gj (hXl hv) hS fun _ _ hS=>hS.sp⟩|exact ⟨_,rfl,Gj hX hS fun _ _ hS=>hS.sp⟩|exact ⟨_,rfl,Gj (hX.trans (lY he)) hS fun _ _ hS=>hS.sp⟩|exact ⟨_,rfl,Gj (hX.trans (lU he2 he)) hS fun _ _ hS=>hS.sp⟩|exact ⟨_,rfl,GD (fr':=fr) (g':=g) (h':=h.shut v0) (out':=out) hX hi (Fs N) rfl hS.sp⟩|exact ⟨_,rfl,GD (fr':=fr) (g':=g) (h':=h.set v0 x.k y0) (out':=out) hX hi (Fs N) rfl hS.sp⟩|exact ⟨_,rfl,GD (fr':=fr) (g':=g) (h':=h.set v0 n0 (Ku c0)) (out':=out) (hX.trans (Zl hk4 he)) hi (Fs N) rfl hS.sp⟩|exact ⟨_,rfl,GD (fr':=fr) (g':=g.push tv [(h.get v0 x.k).1]) (h':=h) (out':=out) hX hi (Fs N) rfl hS.sp⟩):p:=h
theorem Ax (h:p:=by first|exact ⟨_,rfl,Gj (hXl hv) hS fun _ _ hS=>hS.sp⟩|exact ⟨_,rfl,Gj hX hS fun _ _ hS=>hS.sp⟩|exact ⟨_,rfl,Gj (hX.trans (lY he)) hS fun _ _ hS=>hS.sp⟩|exact ⟨_,rfl,Gj (hX.trans (lU he2 he)) hS fun _ _ hS=>hS.sp⟩|exact ⟨_,rfl,GD (fr':=fr) (g':=g) (h':=h.shut v0) (out':=out) hX hi (Fs N) rfl hS.sp⟩|exact ⟨_,rfl,GD (fr':=fr) (g':=g) (h':=h.set v0 x.k y0) (out':=out) hX hi (Fs N) rfl hS.sp⟩|exact ⟨_,rfl,GD (fr':=fr) (g':=g) (h':=h.set v0 n0 (Ku c0)) (out':=out) (hX.trans (Zl hk4 he)) hi (Fs N) rfl hS.sp⟩|exact ⟨_,rfl,GD (fr':=fr) (g':=g.push tv [(h.get v0 x.k).1]) (h':=h) (out':=out) hX hi (Fs N) rfl hS.sp⟩|exact ⟨_,rfl,GD (fr':=fr) (g':=g.push tv [(h.get v0 n0).1]) (h':=h) (out':=out) (hX.trans (Zl hk4 he)) hi (Fs N) rfl hS.sp⟩):p:=h
end
end Go.Lir
namespace Go.Proofs.YteflkifmgnpbhaaGreat
open Go.Lir
attribute [local irreducible] LC.wp Q0 Qh Qd Kq Qz LO.wp Q5 Calls
section
variable {cx:Cx}{w:World}{L:List Res}{m:Module}{inp:List Int}
theorem wO {m:List Int}{v:Value}(hl:JY.sl cx v l)(hm:JY.sl cx v2 m)(hS:St cx w L):JW Tryz.prog zS [v,v2] w fun u w'=>u= .bool (decide (l=m))∧St cx w' L:=by
 (have hlen:=hl.len;refine Kd Kc Tryz.func78 ?_;refine' NN;refine' zL;refine' zm;refine' zL;first|(refine' Qy)|(refine' QD)|(refine' Ad<;>intro hc));all_goals (refine' zn)
 all_goals
  first
  | (refine' JZ;refine' Kw;((refine ⟨_,rfl,?_,hS.sp⟩;(rw [decide_eq_false];exact AJ);done)))
  | (refine' J0;refine' J5)
 refine' LU;refine LQ hS [0,1] (fun A LL ρ' w'=>∃(j:Nat),J2 ρ' A∧J2 ρ' [(5, .int .i64 j)]∧(j≤l.length)∧(l.length=m.length)∧(l=m↔l.drop j=m.drop j)∧St cx w' (LL)) (fun ρ' _=>(l.length - iv (ρ' 5)).toNat) ?_ ?_
 · exact A1
 rintro ρ w1 ⟨j,hA,hρ,hj,hlm,hd,hS⟩;obtain ⟨ρ,rfl⟩:=J3 hA hρ;refine' Sk;refine' Ab<;>intro hc
 · skip
   (refine' PT;refine zD (ci 9 [8]) ?_;have hS:=hS.drew;refine' MQ;refine' zi;intro b1 o1 cs1 x1 hat1 hx1 he1;obtain rfl:=Qs he1;refine' M1;refine' MQ;refine' zi;intro b2 o2 cs2 x2 hat2 hx2 he2;obtain rfl:=Qs he2;refine' M1;first|(refine' Qy)|(refine' QD)|(refine' Ad<;>intro hc));all_goals (refine' zn)
   all_goals
    first
    | (refine' JZ;refine' Kw;first|(refine ⟨_,rfl,?_,hS.sp⟩;rw [decide_eq_false];exact AJ;done)|(refine ⟨_,rfl,?_,hS.sp⟩;rw [decide_eq_false];rw [hd,Q1 hx1,Q1 hx2];simp [*];done))
    | (refine' J0;refine' J5)
   refine' LH;(exact CD)
 · skip;refine' OA;(exact As)
theorem Qhl {e2 f f2:Int}{xs ys xs2 ys2:List Int}{v3 v4:Value}(h1:JY.sl cx v1 xs)(h2:JY.sl cx v2 ys)(h3:JY.sl cx v3 xs2)(h4:JY.sl cx v4 ys2)(hS:St cx w L):
 JW Tryz.prog zx [.agg ⟨[.int .i64 e,v1,v2, .int .i64 f]⟩, .agg ⟨[.int .i64 e2,v3,v4, .int .i64 f2]⟩] w fun u w'=>u= .bool (decide (e=e2∧xs=xs2∧ys=ys2∧f=f2))∧St cx w' L:=by
 ((((refine Kd Kc Tryz.func31 ?_;refine' KO;intro p2 w1 hS;refine zb hS ?_;intro p3 w1 hS;refine' W2;refine' KK;first|(refine' Ql)|(refine' Qn)|(refine' Ac<;>intro hc));all_goals (refine' RK;(first|(refine' J1)|(refine' J4;refine' J9 (c:=wO h1 h3 hS);rintro v1 w1 ⟨rfl,hS⟩;(cases hdec:decide (xs=xs2));have hg:=of_decide_eq_false hdec;rotate_left;have hg:=of_decide_eq_true hdec;all_goals skip))));all_goals (refine' Sn;(first|(refine' J1)|(refine' J4;refine' J9 (c:=wO h2 h4 hS);rintro v1 w1 ⟨rfl,hS⟩;(cases hdec:decide (ys=ys2));have hg:=of_decide_eq_false hdec;rotate_left;have hg:=of_decide_eq_true hdec;all_goals skip))));all_goals (refine' Sn;first|refine' J1|(refine' J4;(first|(refine' Ql)|(refine' Qn)|(refine' Ac<;>intro hc)))));all_goals (refine' Un;refine ⟨_,rfl,?_,hS.sp⟩;(simp [*]);done)
theorem ef (hx:K6.at cx cs m)(hS:St cx w L):JW Tryz.prog Us [.agg ⟨cs⟩, .int .i64 fuel] w fun u w'=>∃b,u= .bool b∧(b=false→m.Few∧fuel≤3000)∧St cx w' L:=by
 (have hx':=hx;obtain ⟨vf,rfl,hf⟩:=NV hx;refine Kd Kc Tryz.func14 ?_;refine' KO;intro p2 w1 hS;refine' Kg;refine' Nr;refine' Kv (c:=QfU hx' hS);rintro v1 w1 ⟨b,rfl,hb,hS⟩;cases b;all_goals (refine' Ll;first|refine' J1|(refine' J4;(first|(refine' QV)|(refine' KM)|(refine' Af<;>intro hc)))));all_goals (refine' Un;(first|exact ⟨_,rfl,true,rfl,(fun h=>by cases h),hS.sp⟩|exact ⟨_,rfl,_,rfl,(fun h9=>⟨hb rfl,by first|omega|(have:=of_decide_eq_false h9;omega)⟩),hS.sp⟩))
end
section
variable {cx:Cx}{w:World}{L:List Res}{m:Module}{inp:List Int}
theorem R5.ok (hz:SC m inp fuel pages=(0,0))(hs:R5 m inp fuel pages cx L u w):m.runs.1=0∧∃c' v1 v2,cx.Le c'∧u= .tuple #[wM (Run.all m inp fuel.toNat pages).oc v1 v2,Kn (0,0)]∧JY.sl c' v1 (Run.all m inp fuel.toNat pages).oc.back∧JY.sl c' v2 (Run.all m inp fuel.toNat pages).oc.out∧St c' w L:=by
 rcases hs with ⟨h1,_⟩|⟨_,h1⟩
 · rw [hz] at h1;exact absurd rfl h1
 · exact h1
theorem R5.bad (hz:(SC m inp fuel pages).1≠0)(hs:R5 m inp fuel pages cx L u w):u= .tuple #[.agg ⟨[.int .i64 0, .slice none 0 0, .slice none 0 0, .int .i64 0]⟩,Kn (SC m inp fuel pages)]∧St cx w L:=by
 rcases hs with ⟨_,h1⟩|⟨h1,_⟩
 · exact h1
 · rw [h1] at hz;exact absurd rfl hz
end
section
def H1:HT:=⟨182,278,131,46⟩
structure GZ where
 fn:Value
 fv:Value
 iv:Value
 e:Int
 bv:Value
 ov:Value
 fu:Int
 mo:Int
 dn:Bool
 c:Int
 a:Int
@[reducible] def L5 (z:GZ)(b:Nat)(lv:Value)(left:Int):Res:=blk b 49 [z.fn,lv, .int .i64 left,z.fv,z.iv, .int .i64 z.e,z.bv,z.ov, .int .i64 z.fu, .int .i64 z.mo, .bool z.dn, .int .i64 z.c, .int .i64 z.a]
abbrev Rz (z:GZ)(b:Nat)(lv:Value)(left:Int)(rv:List RgnV)(L:List Res):List Res:=L5 z b lv left::sl 131 4 lv (rv.map RgnV.cells)::Lb (RgnV.res H1) rv::L
def O0 (z:GZ)(N:Nat)(h:Value)(s:HpS):Res:=Res.ex fun x:Nat×Value×List RgnV=>Res.pure (h= .pointer (some ⟨x.1,1,none⟩)∧HpO N s x.2.2) (P6 [L5 z x.1 x.2.1 s.left,sl 131 4 x.2.1 (x.2.2.map RgnV.cells),Lb (RgnV.res H1) x.2.2])
variable {z:GZ}{cx:Cx}{w:World}{L:List Res}{i:Nat}{N:Nat}{h:Value}{s:HpS}
theorem qJ (hS:St cx w (O0 z N h s::L)):∃b lv rv,h= .pointer (some ⟨b,1,none⟩)∧HpO N s rv∧St cx w (Rz z b lv s.left rv L):=by
 obtain ⟨⟨b,lv,rv⟩,h⟩:=hS.ex;obtain ⟨⟨h0,h1⟩,h2⟩:=h.pure;exact ⟨b,lv,rv,h0,h1,h2.list⟩
theorem Qk {b:Nat}(ho:HpO N s rv)(hS:St cx w (Rz z b lv s.left rv L)):St cx w (O0 z N (.pointer (some ⟨b,1,none⟩)) s::L):=
 St.ex' (b,lv,rv) (St.pure' ⟨rfl,ho⟩ (Jq hS))
theorem eg (hS:St cx w L){b:Nat}(hi:nth L i=some (O0 z N (.pointer (some ⟨b,1,none⟩)) s)):∃lv rv,HpO N s rv∧St cx w (Rz z b lv s.left rv (L.eraseIdx i)):=by
 obtain ⟨b',lv,rv,he,ho,h⟩:=qJ (hS.out hi);cases he;exact ⟨lv,rv,ho,h⟩
theorem eh (hS:St cx w L)(hi:nth L i=some (O0 z N h s)):s.Ok N∧∃b,h= .pointer (some ⟨b,1,none⟩):=by
 obtain ⟨b,lv,rv,he,ho,_⟩:=qJ (hS.out hi);exact ⟨ho.ok,b,he⟩

variable {b:Nat}{lv:Value}{left:Int}{rv:List RgnV}
theorem ei (k:Int)(ho:HpO N s rv)(hS:St cx w (Rz z b lv left rv L)):JW Tryz.prog QcC [.pointer (some ⟨b,1,none⟩), .int .i64 k] w fun v w'=>v= .bool (s.has k)∧St cx w' (Rz z b lv left rv L):=by
 rcases (show (k<0∨(rv.length:Int)≤k)∨∃m:Nat,k=m∧m<rv.length by (by_cases h:k<0∨(rv.length:Int)≤k;(exact .inl h);exact .inr ⟨k.toNat,Jo,Jo⟩)) with hk|⟨m,rfl,hm⟩
 · have e0:=ho.out hk;(refine Kd Kc Tryz.func222 ?_;refine' Oi;first|(refine' Ml)|(refine' Mz)|(refine' Ag<;>intro hc));all_goals (refine' Ll;refine' Pc;refine' Nt;refine' aa;refine' X8;(first|refine' J1|(refine' J4;(first|(refine' K0)|(refine' K1))));refine' Rl;refine' RM;refine' RM;refine' Un;exact ⟨_,rfl,by rw [e0],hS⟩)
 · obtain ⟨r,hr,hrs,_⟩:=ho.at_ hm;have e0:s.has m=r.there:=(by unfold HpS.has;rw [hrs];rfl);refine Kd Kc Tryz.func222 ?_;refine' Oi;refine' Ml;refine' Ll;refine' Pc;refine' Nt;(first|refine' J1|(refine' J4;(first|(refine Q2 hS Ja rfl fd Dd (KW hr) rfl ?_)|(refine zl hS ?_))));refine' X8;(first|refine' J1|(refine' J4;refine' K0));refine' Pr;refine' Ll;refine' Rb;refine' Nt;(first|refine' J1|(refine' J4;(first|(refine Q2 hS Ja rfl fd Dd (KW hr) rfl ?_)|(refine zl hS ?_))));refine' Mi;(first|refine' J1|(refine' J4;(first|(refine' Nc;intro b1 o1 cs1 x1 hat1 hx1 he1;obtain ⟨vp1,vr1,vb1,rfl,hp1,hr1,hb1⟩:=Qw he1)|(refine Ps hS ?_;intro b1 o1 hel1))));refine' Nt;(first|refine' J1|(refine' J4;refine Q2 hS Ja rfl fd Dn (KW hr) rfl ?_));refine' Pr;refine' KN;(exact ⟨_,rfl,by rw [e0],hS⟩)
theorem l3 (v:Val)(ho:HpO N s rv)(hS:St cx w (Rz z b lv left rv L)):JW Tryz.prog Q9F [.pointer (some ⟨b,1,none⟩),v.v] w fun u w'=>St cx w' (Rz z b lv left rv L)∧(s.at_ v=none∧u= .pointer none∨∃k t th,s.at_ v=some (k,t)∧js rv k t th u):=by
 by_cases hv:v.kind=3∨v.kind=4
 · cases hh:s.has v.region with
   | false=>
     (have e0:s.at_ v=none:=(by unfold HpS.at_;rw [if_neg (by rw [hh];simp)]);refine Kd Kc Tryz.func224 ?_;refine' Ki;refine NJ hS vw Jr ?_;intro b3 w1 hS;simp only [Val.cells] at hS;refine' SO;refine zD (ci 35 [12,34]) ?_;have hS:=hS.drew;refine' KK;first|(refine' Qy)|(refine' QD)|(refine' Ad<;>intro hc));all_goals (refine' LS;refine' fo;refine' Pw;refine' MO;(first|refine' J1|(refine' J4;refine' J9 (c:=ei _ ho (HX hS));rintro v1 w1 ⟨rfl,hS⟩;rw [hh]));refine' Oe;refine' Rl;refine' fp;refine' J1;refine' Pr;refine' zm;refine' RM;refine' RM;refine' RM;refine' J1;refine' Pr;refine' zn;refine' JZ;refine' Kw;exact BL)
   | true=>
     obtain ⟨vk,vr,vt,vn⟩:=v;have hv':vk=3∨vk=4:=hv;obtain ⟨m,rfl,hm⟩:=ho.has_in hh;obtain ⟨r,hr,hrs,_⟩:=ho.at_ hm;have hrl:(s.reg (m:Int)).l.length=r.l.length:=(by rw [hrs];exact AN);have hrn:=(ho.rng hr).1;have hmt:(m:Int).toNat=m:=Dc;by_cases ht:0≤vt∧vt<r.l.length
     · obtain ⟨t,rfl⟩:=HQ ht.1
       have htt:(t:Int).toNat=t:=Dc;obtain ⟨th,hth⟩:∃th,r.l[t]?=some th:=⟨_,EH Jo⟩;have hthg:=ho.thg hr hth
       have e1:s.at_ ⟨vk,m,t,vn⟩=if th.array=decide (vk=4) then some (m,t) else none:=by
        unfold HpS.at_;simp only [hmt,htt,hthg,hh,hrl];by_cases ha:th.array=decide (vk=4)
        · rw [if_pos ⟨hv',trivial,ht.1,ht.2,ha⟩,if_pos ha]
        · rw [if_neg (fun h=>ha h.2.2.2.2),if_neg ha]
       ((refine Kd Kc Tryz.func224 ?_;refine' Ki;refine NJ hS vw Jr ?_;intro b3 w1 hS;simp only [Val.cells] at hS;refine' SO;refine zD (ci 35 [12,34]) ?_;have hS:=hS.drew;refine' L7;(first|(refine Q2 hS Ja rfl fd Dd (KW hr) rfl ?_)|(refine Q2 (MR (H:=H1) hS hr) Ja rfl KG Dd (OY hth) rfl ?_)|(refine zl hS ?_));first|(refine' Qy)|(refine' QD)|(refine' Ad<;>intro hc));all_goals (refine' zm;refine' Ny;(first|refine' J1|(refine' J4;(first|(refine Q2 hS Ja rfl fd Dd (KW hr) rfl ?_)|(refine Q2 (MR (H:=H1) hS hr) Ja rfl KG Dd (OY hth) rfl ?_)|(refine zl hS ?_))));refine' fo;refine' Pw;refine' Ny;(first|refine' J1|(refine' J4;(first|(refine Q2 hS Ja rfl fd Dd (KW hr) rfl ?_)|(refine Q2 (MR (H:=H1) hS hr) Ja rfl KG Dd (OY hth) rfl ?_)|(refine zl hS ?_))));(first|refine' J1|(refine' J4;refine' J9 (c:=ei _ ho (HX hS));rintro v1 w1 ⟨rfl,hS⟩;rw [hh]));refine' Oe;refine' Rl;refine' Ny;(first|refine' J1|(refine' J4;(first|(refine Q2 hS Ja rfl fd Dd (KW hr) rfl ?_)|(refine Q2 (MR (H:=H1) hS hr) Ja rfl KG Dd (OY hth) rfl ?_)|(refine zl hS ?_))));(first|refine' J1|(refine' J4;(first|(refine' K0)|(refine' K1))));refine' Rl;refine' Ny;(first|refine' J1|(refine' J4;(first|(refine Q2 hS Ja rfl fd Dd (KW hr) rfl ?_)|(refine Q2 (MR (H:=H1) hS hr) Ja rfl KG Dd (OY hth) rfl ?_)|(refine zl hS ?_))));refine' Pc;refine' Nt;(first|refine' J1|(refine' J4;(first|(refine Q2 hS Ja rfl fd Dd (KW hr) rfl ?_)|(refine Q2 (MR (H:=H1) hS hr) Ja rfl KG Dd (OY hth) rfl ?_)|(refine zl hS ?_))));refine' Ny;(first|refine' J1|(refine' J4;(first|(refine Q2 hS Ja rfl fd Dd (KW hr) rfl ?_)|(refine Q2 (MR (H:=H1) hS hr) Ja rfl KG Dd (OY hth) rfl ?_)|(refine zl hS ?_))));(first|refine' J1|(refine' J4;(first|(refine ML (MR (H:=H1) hS hr) vw rfl KG Ez ?_;rw [EK];intro b5 o5 hel5)|(refine' Nc;intro b1 o1 cs1 x1 hat1 hx1 he1;obtain ⟨vp1,vr1,vb1,rfl,hp1,hr1,hb1⟩:=Qw he1)|(refine Ps hS ?_;intro b1 o1 hel1))));refine' Nt;(first|refine' J1|(refine' J4;refine Q2 hS Ja rfl fd Dn (KW hr) rfl ?_));(first|(refine' J1)|(refine' J4;refine QO (MR (H:=H1) hS hr) vw KG Dd ?_))));all_goals ((first|refine' J1|(refine' J4;(first|(refine' Ml)|(refine' Mz))));refine' KU)
       all_goals
        first
        | (refine' JZ;all_goals (refine' Kw);all_goals (exact BG))
        | (refine' J0;all_goals refine' J5)
       all_goals (refine Qu ?_;have hS:St cx _ (Rz z b lv left rv _):=(by exact hS);refine zD (ci 13 [12]) ?_;have hS:=hS.drew;refine' zm;refine' Pq;refine' MH;(first|(refine Q2 hS Ja rfl fd Dd (KW hr) rfl ?_)|(refine Q2 (MR (H:=H1) hS hr) Ja rfl KG Dd (OY hth) rfl ?_)|(refine zl hS ?_));refine' L7;(first|(refine Q2 hS Ja rfl fd Dn (KW hr) rfl ?_)|(refine Q2 (MR (H:=H1) hS hr) Ja rfl KG Dd (OY hth) rfl ?_)|(refine zl hS ?_));(first|(refine ML (MR (H:=H1) hS hr) vw rfl KG Ez ?_;rw [EK];intro b5 o5 hel5)|(refine' Nc;intro b2 o2 cs2 x2 hat2 hx2 he2;obtain ⟨vp2,vr2,vb2,rfl,hp2,hr2,hb2⟩:=Qw he2)|(refine Ps hS ?_;intro b2 o2 hel2));refine' MH;refine Q2 hS Ja rfl fd Dn (KW hr) rfl ?_;refine' L7;(first|(refine Q2 hS Ja rfl fd Dn (KW hr) rfl ?_)|(refine Q2 (MR (H:=H1) hS hr) Ja rfl KG Dd (OY hth) rfl ?_)|(refine zl hS ?_));refine ML (MR (H:=H1) hS hr) vw rfl KG Dw ?_;rw [EK];intro b5 o5 hel5;refine' zm;refine' zn;refine Qu ?_;refine Qu ?_;refine zD (ci 8 [7]) ?_;have hS:=hS.drew;refine' zm;refine' Pq;refine' MH;(first|(refine Q2 hS Ja rfl fd Dd (KW hr) rfl ?_)|(refine Q2 (MR (H:=H1) hS hr) Ja rfl KG Dd (OY hth) rfl ?_));refine' L7;(first|(refine Q2 hS Ja rfl fd Dn (KW hr) rfl ?_)|(refine Q2 (MR (H:=H1) hS hr) Ja rfl KG Dd (OY hth) rfl ?_)|(refine zl hS ?_));cases hta:th.array<;>by_cases hk4:vk=4<;>first|(refine rK rfl rfl hk4 ?_)|(refine rM rfl rfl hk4 ?_));all_goals ((first|refine XS Jk rfl rfl rfl ?_|refine ZS Jk rfl rfl ?_);refine' zn)
       all_goals
        first
        | (refine' JZ;all_goals (refine' Kw);all_goals (exact BG))
        | (refine' J0;all_goals refine' J5)
       all_goals (refine' O9;(first|exact BG|exact ⟨_,rfl,hS.sp, .inr ⟨m,t,th,by rw [e1];simp [hta,hk4],r,b5,o5,hr,hth,rfl,hel5⟩⟩))
     · have e0:s.at_ ⟨vk,m,vt,vn⟩=none:=(by unfold HpS.at_;rw [if_neg fun h=>ht ⟨h.2.2.1,by have:=h.2.2.2.1;simp only [hrl] at this;exact this⟩]);(refine Kd Kc Tryz.func224 ?_;refine' Ki;refine NJ hS vw Jr ?_;intro b3 w1 hS;simp only [Val.cells] at hS;refine' SO;refine zD (ci 35 [12,34]) ?_;have hS:=hS.drew;refine' L7;(first|(refine Q2 hS Ja rfl fd Dd (KW hr) rfl ?_)|(refine zl hS ?_));first|(refine' Qy)|(refine' QD)|(refine' Ad<;>intro hc));all_goals (refine' zm;refine' Ny;(first|refine' J1|(refine' J4;(first|(refine Q2 hS Ja rfl fd Dd (KW hr) rfl ?_)|(refine zl hS ?_))));refine' fo;refine' Pw;refine' Ny;(first|refine' J1|(refine' J4;(first|(refine Q2 hS Ja rfl fd Dd (KW hr) rfl ?_)|(refine zl hS ?_))));(first|refine' J1|(refine' J4;refine' J9 (c:=ei _ ho (HX hS));rintro v1 w1 ⟨rfl,hS⟩;rw [hh]));refine' Oe;refine' Rl;refine' Ny;(first|refine' J1|(refine' J4;(first|(refine Q2 hS Ja rfl fd Dd (KW hr) rfl ?_)|(refine zl hS ?_))));first|refine' J1|(refine' J4;(first|(refine' K0)|(refine' K1)|(refine' Ae<;>intro hc))));all_goals (refine' Rl;refine' Ny;(first|refine' J1|(refine' J4;(first|(refine Q2 hS Ja rfl fd Dd (KW hr) rfl ?_)|(refine zl hS ?_))));refine' Pc;refine' Nt;(first|refine' J1|(refine' J4;(first|(refine Q2 hS Ja rfl fd Dd (KW hr) rfl ?_)|(refine zl hS ?_))));refine' Ny;(first|refine' J1|(refine' J4;(first|(refine Q2 hS Ja rfl fd Dd (KW hr) rfl ?_)|(refine zl hS ?_))));(first|refine' J1|(refine' J4;(first|(refine' Nc;intro b1 o1 cs1 x1 hat1 hx1 he1;obtain ⟨vp1,vr1,vb1,rfl,hp1,hr1,hb1⟩:=Qw he1)|(refine Ps hS ?_;intro b1 o1 hel1))));refine' Nt;(first|refine' J1|(refine' J4;refine Q2 hS Ja rfl fd Dn (KW hr) rfl ?_));(first|refine' J1|(refine' J4;refine QO (MR (H:=H1) hS hr) vw KG Dd ?_));(first|refine' J1|(refine' J4;refine' Ml));refine' KU;refine' JZ;refine' Kw;exact BL)
 · have e0:s.at_ v=none:=(by unfold HpS.at_;rw [if_neg fun h=>hv h.1]);refine Kd Kc Tryz.func224 ?_;refine' Ki;refine NJ hS vw Jr ?_;intro b3 w1 hS;simp only [Val.cells] at hS;refine' SO;refine zD (ci 35 [12,34]) ?_;have hS:=hS.drew;refine' KK;refine' Qy;refine' LS;(first|refine' J1|(refine' J4;refine' Qy));refine' Pr;refine' zm;refine' RM;refine' J1;refine' Pr;refine' zm;refine' fp;refine' J1;refine' Pr;refine' zm;refine' RM;refine' RM;refine' RM;refine' J1;refine' Pr;refine' zn;refine' JZ;refine' Kw;(exact BL)
end
section
variable {z:GZ}{cx:Cx}{w:World}{L:List Res}{i:Nat}{N:Nat}{h:Value}{s:HpS}
theorem QiD:NH Tryz.prog 129=some (278,2,32,[.bool false, .slice none 0 0]):=by kernel_rfl
theorem QiE:NH Tryz.prog 44=some (131,4,48,[.bool false, .slice none 0 0, .int .i64 0, .int .i64 0]):=by kernel_rfl
theorem l4:NH Tryz.prog 117=some (182,4,32,[.int .i64 0, .int .i64 0, .int .i64 0, .int .i64 0]):=by kernel_rfl
theorem QgF:∃e2,Tryz.prog.underlying 129=some (.slice e2):=⟨278,by kernel_rfl⟩
theorem QgG:∃e2,Tryz.prog.underlying 44=some (.slice e2):=⟨131,by kernel_rfl⟩
theorem l5:∃e2,Tryz.prog.underlying 117=some (.slice e2):=⟨182,by kernel_rfl⟩
theorem Qi2 {l:List Rgn}(h:j<l.length):(l.take (j+1)).countP (fun r=>r.there)=(l.take j).countP (fun r=>r.there)+if (l.getD j Rgn.none).there then 1 else 0:=by
 rw [yd Rgn.none h,HC,List.countP_singleton]
theorem wP {b:Nat}{left:Int}(ho:HpO N s rv)(hN:N≤100000)(hS:St cx w (Rz z b lv left rv L)):JW Tryz.prog zu [.pointer (some ⟨b,1,none⟩)] w fun u w'=>u= .int .i64 s.live∧St cx w' (Rz z b lv left rv L):=by
 have hlen:=ho.len;have hsl:=ho.ok.len;refine Kd Kc Tryz.func28 ?_;refine' LG;refine' LG;refine' LU;refine zo [] (fun A ρ' w'=>∃(j n:Nat),J2 ρ' A∧J2 ρ' [(0, .pointer (some ⟨b,1,none⟩)),(3, .int .i64 n),(4, .int .i64 j)]∧(j≤rv.length)∧(n=(s.l.take j).countP (fun r=>r.there))∧St cx w' (Rz z b lv left rv L)) (fun ρ' _=>(rv.length - iv (ρ' 4)).toNat) ?_ ?_
 · exact ⟨0,0,zh,zh,Jo,(by first|omega|assumption|rfl),hS.sp⟩
 rintro ρ w1 ⟨j,n,hA,hρ,hj,hn,hS⟩;obtain ⟨ρ,rfl⟩:=J3 hA hρ;have hcl:=Hg (p:=fun r:Rgn=>r.there) (l:=s.l.take j);have htl:=List.length_take_le j s.l;refine' O8;refine' MU;(first|(refine Q2 hS Ja rfl fd Dd (KW hr) rfl ?_)|(refine zl hS ?_));refine' cp;refine' PN;refine' Ab<;>intro hc
 · skip
   refine' PT;obtain ⟨r,hr,hrs,hsl2⟩:=ho.at_ (k:=j) Jo;have hcs:=Qi2 (l:=s.l) (j:=j) Jo;have hrg:s.l.getD j Rgn.none=r.abs:=(by rw [EL,hsl2];rfl);rw [hrg] at hcs;refine' LF;refine' MU;(first|(refine Q2 hS Ja rfl fd Dd (KW hr) rfl ?_)|(refine zl hS ?_));refine' zm;(first|(refine' Nc;intro b1 o1 cs1 x1 hat1 hx1 he1;obtain ⟨vp1,vr1,vb1,rfl,hp1,hr1,hb1⟩:=Qw he1)|(refine Ps hS ?_;intro b1 o1 hel1));refine' MH;refine Q2 hS Ja rfl fd Dn (KW hr) rfl ?_;refine' zn;refine' Aa<;>intro hc
   · skip;refine' LH;refine' LH;(exact C8)
   · skip;refine' J5;refine' LH;(first|(exact C8)|(exact ⟨⟨j+1,n,zh,zh,Jo,(by rw [hcs,hn,if_neg (show¬r.abs.there=true from by rw [show r.abs.there=false from hc];simp)];rfl),hS.sp⟩,Qb Jo⟩))
 · skip;refine' Up;(have hn':n=s.live:=(by unfold HpS.live;rw [hn,E1 Jo]);exact ⟨_,rfl,by rw [hn'],hS⟩)
theorem Wx (hN:N≤100000)(hS:St cx w L)(hi:nth L i=some (O0 z N h s)):JW Tryz.prog Qbh [h] w fun u w'=>u= .tuple #[s.openV.v, .bool (!s.full)]∧St cx w' (L.set i (O0 z (N+1) h s.open)):=by
 obtain ⟨hok,b,rfl⟩:=eh hS hi;obtain ⟨lv,rv,ho,hS⟩:=eg hS hi;have hlv:=hok.live;have hlen:=ho.len;have hsl:=hok.len
 cases hf:s.full with
 | true=>
   have h16:s.live=16:=of_decide_eq_true hf;have e1:s.open=s:=D0;have e2:s.openV=Val.zero:=(by unfold HpS.openV;rw [hf];rfl);rw [e1,e2];refine Kd Kc Tryz.func123 ?_;refine' Rf;(intro p2 w1 hS);refine' PO;refine' Kv (c:=wP ho hN (HX hS));rintro v1 w1 ⟨rfl,hS⟩;refine' Ml;refine' zn;refine' JZ;refine' Ki;refine MA [_,_,_,_] ?_;((refine Ka hS ?_;intro w1 hS;have hS:=hS.ns));refine' LY;refine QQ vw (Q4 (n:=4) Jk Jk (hS.blkAt fd) Jr Jr) vw ?_;((exact ⟨_,rfl,rfl,(Qk (⟨ho.hr,hok.mono Jo⟩:HpO (N+1) s rv) (L:=L.eraseIdx i) hS.sp).back hi⟩))
 | false=>
   have h16:s.live≠16:=of_decide_eq_false hf;have e1:s.open=⟨s.l++[⟨true,[],0,0⟩],s.left⟩:=D0;have e2:s.openV=⟨2,s.l.length,0,0⟩:=(by unfold HpS.openV;rw [hf];rfl);have ho2:HpO (N+1) s.open (rv++[⟨true, .slice none 0 0,[],0,0⟩]):=⟨by rw [Fa,ho.hr,e1];rfl,HpS.ok_open hok⟩;refine Kd Kc Tryz.func123 ?_;refine' Rf;intro p2 w1 hS;refine' PO;refine' Kv (c:=wP ho hN (HX hS));rintro v1 w1 ⟨rfl,hS⟩;(first|(refine' Ml)|(refine' Mz));refine' zn;refine' PV;refine' KL;refine' MU;refine zl hS ?_;refine Oy [_,_,_,_] ?_;refine KY hS [_,_,_,_] ?_;intro b1 w1 hS;refine Nv QiE (.inl QgG) hS vw vw fd (hS.srcB fd Jr Dl) Dw ?_;intro v7 w7 hS;have hS:=hS.ns;refine' MU;refine LP hS ?_;intro w1 hS;have hS:=hS.ns;refine' PW;refine' MU;refine zl hS ?_;refine QO (n:=rv.length+1) hS vw fd Js ?_;refine' PL;rw [show ((rv.length+1:Nat):Int) - 1=s.l.length by omega];refine Na [_,_,_,_] ?_;refine Ka hS ?_;intro w1 hS;have hS:=hS.ns;refine' LY;refine QQ vw (Q4 (n:=4) Jk Jk (hS.blkAt fd) Jr Jr) vw ?_;(rw [e2];refine ⟨_,rfl,rfl,(Qk (lv:=v7) ho2 (L:=L.eraseIdx i) ?_).back hi⟩;have hS:St cx _ (Lb (RgnV.res H1) rv::L5 z b v7 s.left::sl 131 4 v7 ((rv++[(⟨true, .slice none 0 0,[],0,0⟩:RgnV)]).map RgnV.cells)::L.eraseIdx i):=(by rw [Fa];exact AA);have hS:=Ho (HM (T:=H1.Tt) (es:=2) (HW (ThgV.res H1) hS));have hS:=Ib (f:=RgnV.res H1) (l:=rv) (x:=⟨true, .slice none 0 0,[],0,0⟩) hS;rw [e1];exact hS.sp)
theorem QiT {k:Nat}(hk:k<rv.length){x y:Res}(hS:St cx w (x::y::Lb (RgnV.res H1) (rv.eraseIdx k)::L)):St cx w (x::y::Lb (RgnV.res H1) (rv.set k RgnV.nil)::L):=
 oX (H:=H1) (r:=RgnV.nil) hk (HM (HW (ThgV.res H1) hS))
theorem Wy (v:Val)(hS:St cx w L)(hi:nth L i=some (O0 z N h s)):JW Tryz.prog Qbg [h,v.v] w fun u w'=>u= .bool (s.can v)∧St cx w' (L.set i (O0 z N h (s.shut v))):=by
 obtain ⟨hok,b,rfl⟩:=eh hS hi;obtain ⟨lv,rv,ho,hS⟩:=eg hS hi;by_cases hk:v.kind=2
 · cases hh:s.has v.region with
   | false=>
     have hcan:s.can v=false:=EA;rw [shut_no hcan,hcan];refine Kd Kc Tryz.func186 ?_;refine' Ki;refine NJ hS vw Jr ?_;intro b6 w1 hS;simp only [Val.cells] at hS;refine' Sj;refine' WY;refine' Ll;refine' MO;(first|refine' J1|(refine' J4;refine' J9 (c:=ei _ ho (HX hS));rintro v1 w1 ⟨rfl,hS⟩;rw [hh]));refine' Oe;refine' KU;refine' JZ;refine' Kw;(exact AP)
   | true=>
     obtain ⟨vk,vr,vt,vn⟩:=v;obtain rfl:vk=2:=hk;obtain ⟨m,rfl,hm⟩:=ho.has_in hh;replace hh:s.has (m:Int)=true:=hh;obtain ⟨r,hr,hrs,hsl⟩:=ho.at_ hm;have hcan:s.can ⟨2,m,vt,vn⟩=true:=(by unfold HpS.can;rw [hh];rfl);have hrn:=ho.rng hr;have hpg:=hok.pages;have hpr':r.pages+s.left≤1000:=hpg.2 r.abs (EI hsl);have hl0:=hok.left;have hlm:(rv.map RgnV.cells).length=rv.length:=EK _;have e1:s.shut ⟨2,m,vt,vn⟩=⟨s.l.set m Rgn.none,s.left+r.pages⟩:=(by unfold HpS.shut;rw [if_pos hcan];simp only [hrs,E5];rfl);have ho2:HpO N (s.shut ⟨2,m,vt,vn⟩) (rv.set m RgnV.nil):=⟨by rw [F4,ho.hr,e1];rfl,by rw [e1];exact HpS.ok_shut hok hsl⟩;rw [hcan];refine Kd Kc Tryz.func186 ?_;refine' Ki;refine NJ hS vw Jr ?_;intro b6 w1 hS;simp only [Val.cells] at hS;refine' Kg;refine' M3;refine' L7;(first|(refine Q2 hS hel rfl fd hlm (KW hr) rfl ?_)|(refine zl hS ?_));refine' WY;refine' Ll;refine' Ny;(first|refine' J1|(refine' J4;(first|(refine Q2 hS hel rfl fd hlm (KW hr) rfl ?_)|(refine zl hS ?_))));(first|refine' J1|(refine' J4;refine' J9 (c:=ei _ ho (HX hS));rintro v1 w1 ⟨rfl,hS⟩;rw [hh]));refine' Oe;refine' KU;refine' PV;refine Qu ?_;refine zD (ci 17 [16]) ?_;have hS:=hS.drew;refine' RN;(first|(refine Q2 hS hel rfl fd hlm (KW hr) rfl ?_)|(refine zl hS ?_));refine' RN;(first|(refine Q2 hS hel rfl fd hlm (KW hr) rfl ?_)|(refine zl hS ?_));refine' L7;(first|(refine Q2 hS hel rfl fd hlm (KW hr) rfl ?_)|(refine zl hS ?_));refine ML hS vw rfl fd Jo ?_;rw [hlm];intro b12 o12 hel;refine' MH;refine Q2 hS hel rfl fd hlm (KW hr) rfl ?_;refine' Nq;refine' MU;refine LP hS ?_;intro w1 hS;have hS:=hS.ns;refine' OQ;refine zD (ci 9 [8]) ?_;have hS:=hS.drew;refine' RN;(first|(refine Q2 hS hel rfl fd hlm (KW hr) rfl ?_)|(refine zl hS ?_));refine' L7;(first|(refine Q2 hS hel rfl fd hlm (KW hr) rfl ?_)|(refine zl hS ?_));refine MA [_,_,_,_] ?_;refine ML hS vw rfl fd Jo ?_;rw [hlm];intro b12 o12 hel;refine r5 hS hel rfl rfl Jr fd hlm (KW hr) rfl Dl (ax (r':=RgnV.nil)) ?_;intro w8 hS;have hS:=hS.ns;have hS:=QiT hm ((MR (H:=H1) hS hr).drop.drop);refine' zn;refine' Kw;(exact ⟨_,rfl,rfl,(Qk ho2 (L:=L.eraseIdx i) (by rw [e1];exact hS.sp)).back hi⟩)
 · have hcan:s.can v=false:=Ed;rw [shut_no hcan,hcan];refine Kd Kc Tryz.func186 ?_;refine' Ki;refine NJ hS vw Jr ?_;intro b6 w1 hS;simp only [Val.cells] at hS;refine' Sj;refine' Qy;refine' zm;refine' RM;refine' J1;refine' Pr;refine' zn;refine' JZ;refine' Kw;((exact AP))
theorem Zv (v:Val)(hS:St cx w L)(hi:nth L i=some (O0 z N h s)):JW Tryz.prog QcF [h,v.v] w fun u w'=>u= .tuple #[.int .i64 (s.len v).1, .int .i64 (s.len v).2]∧St cx w' L:=by
 obtain ⟨hok,b,rfl⟩:=eh hS hi;obtain ⟨lv,rv,ho,hS⟩:=eg hS hi;refine Kd Kc Tryz.func193 ?_;refine' Ki;refine NJ hS vw Jr ?_;intro b6 w1 hS;refine' zm;refine' LZ;refine zv hS ?_;refine' J9 (c:=l3 v ho (HX hS));rintro v1 w1 ⟨hS,(⟨e0,rfl⟩|⟨k,t,th,e0,r,b7,o7,hr,hth,rfl,hel⟩)⟩;all_goals (refine' PO;(first|refine mX (e:=278) Jk rfl rfl ?_|refine mY (e:=278) Jk rfl rfl ?_);refine' zn)
 all_goals
  first
  | (refine' JZ;refine' KH;refine' N4;(first|exact CJ|exact ⟨_,rfl,by unfold HpS.len;rw [e0],(Qk ho (L:=L.eraseIdx i) hS.sp).back0 hi⟩))
  | (refine' J0;refine' J5)
 refine' KH;refine' MU;refine Q2 (MR (H:=H1) hS hr) hel rfl KG (EK _) (OY hth) rfl ?_;refine QO (fL (H:=H1) (MR (H:=H1) hS hr) hth) vw KG Dd ?_;refine' zm;refine' N4;(exact CJ)
theorem l6 (v:Val)(k:Int)(hS:St cx w L)(hi:nth L i=some (O0 z N h s)):JW Tryz.prog QcG [h,v.v, .int .i64 k] w fun u w'=>u= .tuple #[(s.get v k).1.v, .int .i64 (s.get v k).2]∧St cx w' L:=by
 obtain ⟨hok,b,rfl⟩:=eh hS hi;obtain ⟨lv,rv,ho,hS⟩:=eg hS hi;refine Kd Kc Tryz.func190 ?_;refine' Ki;refine NJ hS vw Jr ?_;intro b6 w1 hS;refine Qe hS ?_;intro b8 w1 hS;refine' LZ;refine zv hS ?_;refine' J9 (c:=l3 v ho (JU hS));rintro v1 w1 ⟨hS,(⟨e0,rfl⟩|⟨kr,t,th,e0,r,b7,o7,hr,hth,rfl,hel⟩)⟩;all_goals (refine' PO;(first|refine mX (e:=278) Jk rfl rfl ?_|refine mY (e:=278) Jk rfl rfl ?_);refine' zn)
 all_goals
  first
  | (refine' J0;refine' J5)
  | (refine' JZ;refine' Ki;refine MA [_,_,_,_] ?_;refine Ka hS ?_;intro w1 hS;have hS:=hS.ns;refine' LY;refine QQ vw (Q4 (n:=4) Jk Jk (hS.blkAt fd) Jr Jr) vw ?_;((have hge:s.get v k=(Val.zero,20):=DV;rw [hge];exact A5)))
 refine' LU;have hge:s.get v k=(if 0≤k∧k<th.l.length then (th.l.getD k.toNat Val.zero,0) else (Val.zero,1)):=(by unfold HpS.get;rw [e0];simp only [ho.thg hr hth];rfl);have hth1:=(ho.rng hr).2.1 th (EI hth);refine zo [] (fun A ρ' w'=>∃(j:Nat),J2 ρ' A∧J2 ρ' [(0, .pointer (some ⟨b,1,none⟩)),(2, .int .i64 k),(6, .pointer (some ⟨b8,0,none⟩)),(8, .pointer (some ⟨b7,o7,none⟩)),(9, .int .i64 j)]∧(j≤th.l.length)∧(¬(0≤k∧k<j))∧St cx w' (Rz z b lv s.left rv (blk b8 182 [.int .i64 0, .int .i64 0, .int .i64 0, .int .i64 0]::L.eraseIdx i))) (fun ρ' _=>(th.l.length - iv (ρ' 9)).toNat) ?_ ?_
 · exact ⟨0,zh,zh,Jo,Jo,hS.sp⟩
 rintro ρ w1 ⟨j,hA,hρ,hj,hjk,hS⟩;obtain ⟨ρ,rfl⟩:=J3 hA hρ;refine' O8;refine' MU;refine Q2 (MR (H:=H1) hS hr) hel rfl KG (EK _) (OY hth) rfl ?_;refine QO (fL (H:=H1) (MR (H:=H1) hS hr) hth) vw KG Dd ?_;refine' PN;refine' Ab<;>intro hc
 · skip
   (refine' Lj;refine' KL;first|(refine' Ql)|(refine' Qn)|(refine' Ac<;>intro hc));all_goals (refine' zn)
   all_goals
    first
    | (refine' JZ;refine' KH;refine' MU;refine Q2 (MR (H:=H1) hS hr) hel rfl KG (EK _) (OY hth) rfl ?_;refine' zm;refine ML (fL (H:=H1) (MR (H:=H1) hS hr) hth) vw rfl KG Dw ?_;rw [EK];intro b9 o9 hel9;refine NK (fL (H:=H1) (MR (H:=H1) hS hr) hth) hel9 rfl KG (EK _) (ay Jo) ?_;refine SF hS rfl rfl Jr fd Js (Xe _) Jr ?_;intro w1 hS;have hS:=hS.ns;refine' LY;refine QQ vw (Q4 (n:=4) Jk Jk (hS.blkAt fd) Jr Jr) vw ?_;(first|(have hge:s.get v k=(Val.zero,20):=DV;rw [hge];exact A5)|(rw [if_neg Jo] at hge;rw [hge];exact A5)|(obtain rfl:k=(j:Int):=Dc;rw [if_pos Jo,E5] at hge;rw [hge];exact A5)))
    | (refine' J0;refine' J5)
   refine' LH;(exact ⟨⟨j+1,zh,zh,Jo,Jo,hS.sp⟩,Qb Jo⟩)
 · skip;refine' K2;refine' Ki;refine MA [_,_,_,_] ?_;refine Ka hS ?_;intro w1 hS;have hS:=hS.ns;refine' LY;refine QQ vw (Q4 (n:=4) Jk Jk (hS.blkAt fd) Jr Jr) vw ?_;((first|(have hge:s.get v k=(Val.zero,20):=DV;rw [hge];exact A5)|(rw [if_neg Jo] at hge;rw [hge];exact A5)))
theorem wQ (v:Val)(k:Int)(x:Val)(hS:St cx w L)(hi:nth L i=some (O0 z N h s)):JW Tryz.prog QcD [h,v.v, .int .i64 k,x.v] w fun u w'=>u= .int .i64 (s.setC v k x)∧St cx w' (L.set i (O0 z N h (s.set v k x))):=by
 obtain ⟨hok,b,rfl⟩:=eh hS hi;obtain ⟨lv,rv,ho,hS⟩:=eg hS hi
 cases e0:s.at_ v with
 | none=>
   have hc1:s.setC v k x=20:=(by unfold HpS.setC;rw [e0]);rw [dK Jo,hc1];refine Kd Kc Tryz.func191 ?_;refine' Ki;refine NJ hS vw Jr ?_;intro b6 w1 hS;refine NJ hS vw Jr ?_;intro b8 w1 hS;refine' LZ;refine zv hS ?_;refine' J9 (c:=l3 v ho (JU hS));rintro v1 w1 ⟨hS,hx⟩;obtain ⟨_,rfl⟩:=hx.resolve_right (fun ⟨_,_,_,e1,_⟩=>by rw [e0] at e1;cases e1);refine' PO;refine mX (e:=278) Jk rfl rfl ?_;refine' zm;refine' RM;refine' RM;refine' J1;refine' Pr;refine' zn;refine' JZ;refine' Kw;((exact AP))
 | some p=>
   obtain ⟨kr,t⟩:=p;refine Kd Kc Tryz.func191 ?_;refine' Ki;refine NJ hS vw Jr ?_;intro b6 w1 hS;refine NJ hS vw Jr ?_;intro b8 w1 hS;simp only [Val.cells] at hS;refine' LZ;refine zv hS ?_;refine' J9 (c:=l3 v ho (JU hS));rintro v1 w1 ⟨hS,hx⟩;obtain ⟨kr',t',th,e1,r,b7,o7,hr,hth,rfl,hel⟩:=hx.resolve_left (fun h=>by rw [e0] at h;cases h.1);rw [e0] at e1;cases e1;have hge:s.setC v k x=(if th.array=true∧x.kind≠1 then 20 else if 0≤k∧k<th.l.length then 0 else 1):=(by unfold HpS.setC;rw [e0];simp only [ho.thg hr hth];rfl);have hth1:=(ho.rng hr).2.1 th (EI hth);refine' Kg;refine zM [] (fun A ρ' w'=>J2 ρ' A∧J2 ρ' [(0, .pointer (some ⟨b,1,none⟩)),(2, .int .i64 k),(7, .pointer (some ⟨b8,0,none⟩)),(9, .pointer (some ⟨b7,o7,none⟩))]∧(¬(th.array=true∧x.kind≠1))∧St cx w' (Rz z b lv s.left rv (blk b8 182 [.int .i64 x.kind, .int .i64 x.region, .int .i64 x.thing, .int .i64 x.n]::L.eraseIdx i))) ?_ ?_
   · skip
     refine Qu ?_;refine' Lm;refine' zm;refine mY (e:=278) Jk rfl rfl ?_;refine' zm;refine' Mi;refine' Rb;refine' Nt;refine' J4;refine Q2 (j:=0) (u:= .bool th.array) (MR (H:=H1) hS hr) hel rfl KG (EK _) (OY hth) rfl ?_;cases hta:th.array<;>by_cases hx1:x.kind=1;all_goals (refine' Mi;refine' Ny;(first|refine' J1|(refine' J4;(first|(refine Q2 (MR (H:=H1) hS hr) hel rfl KG (EK _) (OY hth) rfl ?_)|(refine zl hS ?_))));refine' fo;refine' ab;refine' KU)
     all_goals
      first
      | (refine' JZ;refine' Kw;((have hc1:s.setC v k x=20:=D1;rw [dK Jo,hc1];exact AP)))
      | (refine' J0;all_goals refine' J5)
     all_goals (exact ⟨zh,zh,(by simp [hta,hx1]),hS.sp⟩)
   rintro ρ w1 ⟨hA,hρ,hta,hS⟩;obtain ⟨ρ,rfl⟩:=J3 hA hρ;refine' LU;refine zo [] (fun A ρ' w'=>∃(j:Nat),J2 ρ' A∧J2 ρ' [(0, .pointer (some ⟨b,1,none⟩)),(2, .int .i64 k),(7, .pointer (some ⟨b8,0,none⟩)),(9, .pointer (some ⟨b7,o7,none⟩)),(10, .int .i64 j)]∧(j≤th.l.length)∧(¬(0≤k∧k<j))∧St cx w' (Rz z b lv s.left rv (blk b8 182 [.int .i64 x.kind, .int .i64 x.region, .int .i64 x.thing, .int .i64 x.n]::L.eraseIdx i))) (fun ρ' _=>(th.l.length - iv (ρ' 10)).toNat) ?_ ?_
   · exact ⟨0,zh,zh,Jo,Jo,hS.sp⟩
   rintro ρ w1 ⟨j,hA,hρ,hj,hjk,hS⟩;obtain ⟨ρ,rfl⟩:=J3 hA hρ;refine' O8;refine' MU;refine Q2 (MR (H:=H1) hS hr) hel rfl KG (EK _) (OY hth) rfl ?_;refine QO (fL (H:=H1) (MR (H:=H1) hS hr) hth) vw KG Dd ?_;refine' PN;refine' Ab<;>intro hc
   · skip
     (refine' Lj;refine' KL;first|(refine' Ql)|(refine' Qn)|(refine' Ac<;>intro hc));all_goals (refine' zn)
     all_goals
      first
      | (refine' JZ;refine Qu ?_;have hS:=fL (H:=H1) (MR (H:=H1) hS hr) hth;refine zD (ci 8 [7]) ?_;have hS:=hS.drew;refine' RN;refine Q2 hS hel rfl fd (EK _) (OY hth) rfl ?_;refine' zm;refine zv hS ?_;refine ML hS vw rfl KG Dw ?_;rw [EK];intro b9 o9 hel9;refine r5 hS hel9 rfl rfl Jr KG (EK _) (ay Jo) rfl (Xe x) ju ?_;intro w8 hS;have hS:=hS.ns;have hS:=cM (H:=H1) (l:=r.l) (k:=t) (t:=⟨th.array,th.lv,th.l.set j x⟩) (EJ.1 hth).1 hS;refine' zn;refine' Kw;(first|(have hc1:s.setC v k x=20:=D1;rw [dK Jo,hc1];exact AP)|(have hc1:s.setC v k x=1:=(by rw [hge,if_neg hta,if_neg Jo]);rw [dK Jo,hc1];exact AP)|(obtain rfl:k=(j:Int):=Dc;have hc1:s.setC v (j:Int) x=0:=(by rw [hge,if_neg hta,if_pos Jo]);obtain ⟨e1,e2,ho2⟩:=Zh ho hr hth e0 hc1 Jo;rw [hc1];rw [E5] at ho2 e1;have htc:((r.l.set t ⟨th.array,th.lv,th.l.set j x⟩).map ThgV.cells)=r.l.map ThgV.cells:=(by rw [F4];exact kq (by rw [EN,hth];rfl));rw [←htc] at hS;have hS:=oX (H:=H1) (rv:=rv) (k:=kr) (r:=Sy r t th j x) (EJ.1 hr).1 (L:=L.eraseIdx i) (by unfold Sy;exact AA);refine ⟨_,rfl,rfl,(Qk (lv:=lv) ho2 (L:=L.eraseIdx i) ?_).back hi⟩;have hbc:((rv.set kr (Sy r t th j x)).map RgnV.cells)=rv.map RgnV.cells:=(by rw [F4];exact kq (by rw [EN,hr];rfl));unfold Rz;rw [hbc,e1];exact hS)))
      | (refine' J0;refine' J5)
     refine' LH;(exact ⟨⟨j+1,zh,zh,Jo,Jo,hS.sp⟩,Qb Jo⟩)
   · skip;refine' OA;((first|(have hc1:s.setC v k x=20:=D1;rw [dK Jo,hc1];exact AP)|(have hc1:s.setC v k x=1:=(by rw [hge,if_neg hta,if_neg Jo]);rw [dK Jo,hc1];exact AP)))
theorem wR (v :Val)(n:Int)(arr:Bool)(tlv:Value)(tl:List Val)(hn:1≤n∧n≤1000)(hN:N≤100000)(htl:tl.length≤1000)(h1:oneC tlv=true)(hS:St cx w (sl H1.Tv 4 tlv (tl.map Val.cells)::L))(hi:nth L i=some (O0 z N h s)):
 JW Tryz.prog QcE [h,v.v, .agg ⟨[.bool arr,tlv]⟩, .int .i64 n] w fun u w'=>u= .tuple #[(s.putV v (if arr then 4 else 3) n).v, .int .i64 (s.code v n)]∧St cx w' (L.set i (O0 z (N+1) h (s.put v n ⟨arr,tl⟩))):=by
 obtain ⟨hok,b,rfl⟩:=eh hS.drop hi;obtain ⟨lv,rv,ho,hS⟩:=eg hS (i:=i+1) hi;simp only [F6] at hS;have ho1:HpO (N+1) s rv:=⟨ho.hr,hok.mono Jo⟩;by_cases hk:v.kind=2
 · cases hh :s.has v.region with
   | false=>
     have hcan:s.can v=false:=EA;have hc:=wq (n:=n) hcan;obtain ⟨e1,e2⟩:=lT (s:=s) (v:=v) (n:=n) Jo (if arr then 4 else 3) ⟨arr,tl⟩;rw [e1,e2,hc];refine Kd Kc Tryz.func223 ?_;refine' Ki;refine NJ hS vw Jr ?_;intro b6 w1 hS;simp only [Val.cells] at hS;refine NJ hS vw Jr ?_;intro b9 w1 hS;refine Qe hS ?_;intro b10 w1 hS;refine' Sj;refine' WY;refine' Ll;refine' MO;(first|refine' J1|(refine' J4;refine' J9 (c:=ei _ ho (St.rot3 hS));rintro v1 w1 ⟨rfl,hS⟩;rw [hh]));refine' Oe;refine' KU;refine' JZ;refine' Ki;refine MA [_,_,_,_] ?_;refine Ka hS ?_;intro w1 hS;have hS:=hS.ns;refine' LY;refine QQ vw (Q4 (n:=4) Jk Jk (hS.blkAt fd) Jr Jr) vw ?_;(exact BF)
   | true=>
     (obtain ⟨vk,vr,vt,vn⟩:=v;obtain rfl:vk=2:=hk;obtain ⟨m,rfl,hm⟩:=ho.has_in hh;replace hh:s.has (m:Int)=true:=hh;obtain ⟨r,hr,hrs,hsl⟩:=ho.at_ hm;have hcan:s.can ⟨2,m,vt,vn⟩=true:=(by unfold HpS.can;rw [hh];rfl);have hrn:=ho.rng hr;have hpg:=hok.pages;have hpr':r.pages+s.left≤1000:=hpg.2 r.abs (EI hsl);have hl0:=hok.left;have hlm:(rv.map RgnV.cells).length=rv.length:=EK _;have hls:∀r',((rv.set m r').map RgnV.cells).length=rv.length:=fun r'=>by rw [EK,Fe]);have hcd:s.code ⟨2,m,vt,vn⟩ n=if r.abs.more n=true∧s.left=0 then 14 else 0:=by unfold HpS.code;rw [hcan];simp only [IV,EX,if_false,hrs]
     have hmi:r.abs.more n=true↔(r.pages=0∨16<r.used+n):=RgnV.more_iff;obtain ⟨e3,e4,e5⟩:=Qhq (r:=r) (n:=n);refine Kd Kc Tryz.func223 ?_;refine' Ki;refine NJ hS vw Jr ?_;intro b6 w1 hS;simp only [Val.cells] at hS;refine NJ hS vw Jr ?_;intro b9 w1 hS;refine Qe hS ?_;intro b10 w1 hS;refine' Kg;refine' M3;refine' L7;(first|(refine Q2 hS hel rfl fd hlm (KW hr) rfl ?_)|(refine Q2 hS hel rfl fd (hls _) (KW (Pd Jo)) rfl ?_)|(refine zl hS ?_));refine' WY;refine' Ll;refine' Ny;(first|refine' J1|(refine' J4;(first|(refine Q2 hS hel rfl fd hlm (KW hr) rfl ?_)|(refine Q2 hS hel rfl fd (hls _) (KW (Pd Jo)) rfl ?_)|(refine zl hS ?_))));(first|refine' J1|(refine' J4;refine' J9 (c:=ei _ ho (St.rot3 hS));rintro v1 w1 ⟨rfl,hS⟩;rw [hh]));refine' Oe;refine' KU;refine' PV;refine Qu ?_;refine zD (ci 8 [7]) ?_;have hS:=hS.drew;refine' RN;(first|(refine Q2 hS hel rfl fd hlm (KW hr) rfl ?_)|(refine Q2 hS hel rfl fd (hls _) (KW (Pd Jo)) rfl ?_)|(refine zl hS ?_));refine' L7;(first|(refine Q2 hS hel rfl fd hlm (KW hr) rfl ?_)|(refine Q2 hS hel rfl fd (hls _) (KW (Pd Jo)) rfl ?_)|(refine zl hS ?_));refine ML hS vw rfl fd Jo ?_;rw [hlm];intro b12 o12 hel;refine' Kg;refine zM [] (fun A ρ' w'=>∃(r1:RgnV) (lf:Int),J2 ρ' A∧J2 ρ' [(0, .pointer (some ⟨b,1,none⟩)),(3, .int .i64 n),(5, .pointer (some ⟨b6,0,none⟩)),(6, .pointer (some ⟨b9,0,none⟩)),(8, .pointer (some ⟨b10,0,none⟩)),(10, .pointer (some ⟨b12,o12,none⟩))]∧(s.code ⟨2,m,vt,vn⟩ n=0)∧((⟨r1.there,r1.lv,r1.l,r1.pages,r1.used+n⟩:RgnV)=r.roomV n)∧(lf=(if r.abs.more n then s.left - 1 else s.left))∧(0≤r1.used∧r1.used≤1000)∧St cx w' (L5 z b lv lf::sl 131 4 lv ((rv.set m r1).map RgnV.cells)::Lb (RgnV.res H1) rv::blk b10 182 [.int .i64 0, .int .i64 0, .int .i64 0, .int .i64 0]::blk b9 278 [.bool arr,tlv]::blk b6 182 [.int .i64 2, .int .i64 m, .int .i64 vt, .int .i64 vn]::sl H1.Tv 4 tlv (tl.map Val.cells)::L.eraseIdx i)) ?_ ?_
     · skip
       ((refine' KH;refine' MU;refine Q2 hS hel rfl fd hlm (KW hr) rfl ?_;first|(refine' Ql)|(refine' Qn)|(refine' Ac<;>intro hc));all_goals (refine' Ll;refine' Pc;refine' Nt;(first|refine' J1|(refine' J4;refine Q2 hS hel rfl fd hlm (KW hr) rfl ?_));(first|refine' J1|(refine' J4;refine' PL));first|refine' J1|(refine' J4;(first|(refine' QV)|(refine' KM)|(refine' Af<;>intro hc)))));all_goals (refine' KU)
       all_goals
        first
        | (refine' J0;have hmo:¬r.abs.more n=true:=(by rw [hmi];omega);refine' J5)
        | (refine' JZ
           all_goals (have hmo:r.abs.more n=true:=hmi.2 Jo;refine' MN;refine' MU;(first|(refine Q2 hS hel rfl fd hlm (KW hr) rfl ?_)|(refine Q2 hS hel rfl fd (hls _) (KW (Pd Jo)) rfl ?_)|(refine zl hS ?_));first|(refine' Ql)|(refine' Qn)|(refine' Ac<;>intro hc));all_goals (refine' zn)
           all_goals
            first
            | (refine' J0;all_goals (rw [if_neg Jo] at hcd);all_goals refine' J5)
            | (refine' JZ
               all_goals (rw [if_pos ⟨hmo,Jo⟩] at hcd;refine' Ki;refine MA [_,_,_,_] ?_;refine Ka hS ?_;intro w1 hS;have hS:=hS.ns;refine' LY;refine QQ vw (Q4 (n:=4) Jk Jk (hS.blkAt fd) Jr Jr) vw ?_);all_goals (obtain ⟨e1,e2⟩:=lT (s:=s) (v:=⟨2,m,vt,vn⟩) (n:=n) Jo (if arr then 4 else 3) ⟨arr,tl⟩;rw [e1,e2,hcd];exact BF))
           all_goals (refine' KH;refine' MU;(first|(refine Q2 hS hel rfl fd hlm (KW hr) rfl ?_)|(refine Q2 hS hel rfl fd (hls _) (KW (Pd Jo)) rfl ?_)|(refine zl hS ?_));refine' PL;refine' MU;refine LP hS ?_;intro w1 hS;have hS:=hS.ns;refine' PW;refine' MU;refine Q2 hS hel rfl fd hlm (KW hr) rfl ?_;refine' Nq;refine' MU;refine O2 hS hel rfl vw fd hlm (KW hr) Jo Jr (lj (r':=⟨r.there,r.lv,r.l,r.pages+1,r.used⟩) rfl) ?_;intro w8 hS;have hS:=hS.ns;refine' zn;refine' LF;refine' MU;refine O2 hS hel rfl vw fd (hls _) (KW (Pd (r:=⟨r.there,r.lv,r.l,r.pages+1,r.used⟩) Jo)) Jo Jr (lj (r':=⟨r.there,r.lv,r.l,r.pages+1,0⟩) rfl) ?_;intro w8 hS;have hS:=hS.ns;rw [Hv] at hS);all_goals refine' zn)
       all_goals (first|(exact ⟨r,s.left,zh,zh,(by rw [hcd,if_neg (fun h=>hmo h.1)]),(by unfold RgnV.roomV;rw [if_neg hmo]),(by rw [if_neg hmo]),Jo,by rw [kq hr];exact hS.sp⟩)|(exact ⟨⟨r.there,r.lv,r.l,r.pages+1,0⟩,s.left - 1,zh,zh,hcd,(by unfold RgnV.roomV;rw [if_pos hmo,Int.zero_add]),(by rw [if_pos hmo]),Js,hS.sp⟩))
     rintro ρ w1 ⟨r1,lf,hA,hρ,hcd,hr1,hlf,hu1,hS⟩;obtain ⟨ρ,rfl⟩:=J3 hA hρ;refine' KH;refine' MU;refine Q2 hS hel rfl fd (hls _) (KW (Pd (r:=r1) Jo)) rfl ?_;refine' zm;refine' Nq;refine' MU;refine O2 hS hel rfl vw fd (hls _) (KW (Pd (r:=r1) Jo)) Jo Jr (lj (r':=⟨r1.there,r1.lv,r1.l,r1.pages,r1.used+n⟩) rfl) ?_;intro w8 hS;have hS:=hS.ns;rw [Hv,hr1] at hS;have hbig:Lb (RgnV.res H1) rv=Lb (RgnV.res H1) (rv.set m (r.roomV n)):=(UO hr (by unfold RgnV.res;rw [e4,e5])).symm;rw [hbig] at hS;have hS:=MR (H:=H1) hS (Pd Jo);have hrl:=hrn.1;rw [←e5] at hrl;refine' OQ;refine zC [(0,none),(1,none),(2,none),(3,none),(4,none),(5,none),(6,some (some [4])),(7,some (some [])),(8,none),(9,none),(10,some none)] ?_;have hS:=hS.drew;refine' Nz;refine' NM;refine' Ri;refine' NB;(first|(refine Q2 hS hel rfl fd hlm (KW hr) rfl ?_)|(refine Q2 hS hel rfl fd (hls _) (KW (Pd Jo)) rfl ?_));refine' KA;refine zv hS ?_;refine' Lu;refine KY hS [_,_] ?_;intro b1 w1 hS;refine' zt;refine ⟨EO.2 ⟨(by (exact QX hS hel rfl fd (hls _) (KW (Pd Jo)) rfl)),fun _ h=>(EY h).elim⟩,?_⟩;refine' Sa;refine Nv QiD (.inl QgF) hS vw vw fd (hS.srcB fd Jr (jt rfl h1)) Dw ?_;intro v7 w7 hS;have hS:=hS.ns;have hS:=hS.drop;refine' zt;refine ⟨fun _ h=>(EY h).elim,?_⟩;refine' L6;refine' Ri;refine' Uo;refine O2 hS hel rfl vw fd (hls (r.roomV n)) (KW (Pd (r:=r.roomV n) Jo)) Jo (by first|rfl|assumption|exact hS.oneC fd) (lj (r':=aJ (r.roomV n) v7 ⟨arr,tlv,tl⟩) rfl) ?_;intro w8 hS;have hS:=hS.ns;rw [Hv] at hS;refine' Lc;refine' LG;refine' M3;refine' L7;(first|(refine Q2 hS hel rfl fd hlm (KW hr) rfl ?_)|(refine Q2 hS hel rfl fd (hls _) (KW (Pd Jo)) rfl ?_)|(refine zl hS ?_));refine' zn;refine' Aa<;>intro hc
     · skip;refine' Lm;refine' Kg;refine Qu ?_;refine zD (ci 12 [10,11]) ?_;have hS:=hS.drew;refine' zm;refine' L7;(first|(refine Q2 hS hel rfl fd hlm (KW hr) rfl ?_)|(refine Q2 hS hel rfl fd (hls _) (KW (Pd Jo)) rfl ?_)|(refine zl hS ?_));refine' RN;refine Q2 (j:=1) (u:=v7) hS hel rfl fd (hls _) (KW (Pd (r:=aJ (r.roomV n) v7 ⟨arr,tlv,tl⟩) Jo)) rfl ?_;refine QO (n:=r.l.length+1) hS vw fd (by simp [e5]) ?_;refine' PL;rw [show ((r.l.length+1:Nat):Int) - 1=r.l.length by omega];refine Od [_,_,_,_] ?_;refine Ka hS ?_;intro w1 hS;have hS:=hS.ns;refine' LY;refine QQ vw (Q4 (n:=4) Jk Jk (hS.blkAt fd) Jr Jr) vw ?_;((exact Au))
     · skip;refine' J5;refine Qu ?_;refine zD (ci 12 [10,11]) ?_;have hS:=hS.drew;refine' zm;refine' L7;(first|(refine Q2 hS hel rfl fd hlm (KW hr) rfl ?_)|(refine Q2 hS hel rfl fd (hls _) (KW (Pd Jo)) rfl ?_)|(refine zl hS ?_));refine' RN;refine Q2 (j:=1) (u:=v7) hS hel rfl fd (hls _) (KW (Pd (r:=aJ (r.roomV n) v7 ⟨arr,tlv,tl⟩) Jo)) rfl ?_;refine QO (n:=r.l.length+1) hS vw fd (by simp [e5]) ?_;refine' PL;rw [show ((r.l.length+1:Nat):Int) - 1=r.l.length by omega];refine Od [_,_,_,_] ?_;refine Ka hS ?_;intro w1 hS;have hS:=hS.ns;refine' LY;refine QQ vw (Q4 (n:=4) Jk Jk (hS.blkAt fd) Jr Jr) vw ?_;((exact Au))
 · have hcan:s.can v=false:=Ed;have hc:=wq (n:=n) hcan;obtain ⟨e1,e2⟩:=lT (s:=s) (v:=v) (n:=n) Jo (if arr then 4 else 3) ⟨arr,tl⟩;rw [e1,e2,hc];refine Kd Kc Tryz.func223 ?_;refine' Ki;refine NJ hS vw Jr ?_;intro b6 w1 hS;simp only [Val.cells] at hS;refine NJ hS vw Jr ?_;intro b9 w1 hS;refine Qe hS ?_;intro b10 w1 hS;refine' Sj;refine' Qy;refine' zm;refine' RM;refine' J1;refine' Pr;refine' zn;refine' JZ;refine' Ki;refine MA [_,_,_,_] ?_;((refine Ka hS ?_;intro w1 hS;have hS:=hS.ns));refine' LY;refine QQ vw (Q4 (n:=4) Jk Jk (hS.blkAt fd) Jr Jr) vw ?_;((exact BF))
theorem Qhf (v:Val)(vl:Value)(l:List Val)(hN:N≤100000)(hl:l.length≤1000)(hS:St cx w L)(hi:nth L i=some (O0 z N h s))(hj:nth L j=some (sl H1.Tv 4 vl (l.map Val.cells))):
 JW Tryz.prog Q9G [h,v.v,vl] w fun u w'=>u= .tuple #[(s.putV v 3 (LB l)).v, .int .i64 (s.code v (LB l))]∧St cx w' (L.set i (O0 z (N+1) h (s.tuple v l))):=by
 have hlen:(l.map Val.cells).length=l.length:=EK _;refine Kd Kc Tryz.func188 ?_;refine' Ki;refine NJ hS vw Jr ?_;intro b4 w1 hS;simp only [Val.cells] at hS;refine Qe hS ?_;intro b6 w1 hS;refine' Kg;refine' Oi;refine QO hS vw (show nth (_::_::L) (j+2)=_ from hj) hlen ?_;refine' Kg;refine zM [] (fun A ρ' w'=>∃(wn:Int),J2 ρ' A∧J2 ρ' [(0,h),(2,vl),(4, .pointer (some ⟨b4,0,none⟩)),(6, .pointer (some ⟨b6,0,none⟩)),(8, .slice none 0 0),(9, .int .i64 wn)]∧(wn=LB l)∧St cx w' (blk b6 182 [.int .i64 0, .int .i64 0, .int .i64 0, .int .i64 0]::blk b4 182 [.int .i64 v.kind, .int .i64 v.region, .int .i64 v.thing, .int .i64 v.n]::L)) ?_ ?_
 · skip
   (refine' KH;first|(refine' Ql)|(refine' Qn)|(refine' Ac<;>intro hc));all_goals (refine' zn)
   all_goals
    first
    | (refine' JZ;refine' LF;refine' zn)
    | (refine' J0;refine' J5)
   all_goals ((first|(exact ⟨1,zh,zh,(by unfold LB;rw [if_pos Jo]),hS.sp⟩)|(exact ⟨(l.length:Int),zh,zh,(by unfold LB;rw [if_neg Jo]),hS.sp⟩)))
 rintro ρ w1 ⟨wn,hA,hρ,hw,hS⟩;obtain ⟨ρ,rfl⟩:=J3 hA hρ;refine Qu ?_;refine zC [(0,none),(1,none),(2,none),(3,none),(6,none),(4,some (some [1])),(5,none),(7,some none),(8,none),(9,none),(10,some none),(11,some none)] ?_;have hS:=hS.drew;refine' Nz;refine zv hS ?_;refine' Mb;refine' NM;refine' zm;refine' Lu;((have hS:=hS.nil (T:=H1.Tv) (es:=4);refine Nv l4 (.inl l5) hS vw vw KG (St.srcS (i:=j+3) (T:=H1.Tv) (v:=vl) (css:=l.map Val.cells) hS hj (wu l)) (by rw [hlen,Ff];omega) ?_;intro v2 w2 hS;simp only [E8,HY] at hS;have hone:=hS.oneC KG;obtain ⟨a_,c_,rfl⟩:=hS.shape KG;subst hw));refine' MB;refine Oy [_,_] ?_;refine' LM;refine' Nb (c:=wR v (LB l) false _ l (Qgx hl) hN hl hone hS (show nth (_::_::L) (i+2)=_ from hi));rintro v2 w2 ⟨rfl,hS⟩;have hS:=hS.ns;refine' W4;refine' W4;refine' LM;((refine SF hS rfl rfl Jr fd Js (Xe _) Jr ?_;intro w1 hS;have hS:=hS.ns));refine' W5;refine' zr;refine QQ vw (Q4 (n:=4) Jk Jk (hS.blkAt fd) Jr Jr) vw ?_;((exact ⟨_,rfl,rfl,hS.drop.drop⟩))
theorem Qhj (v:Val)(n:Int)(hN:N≤100000)(hS:St cx w L)(hi:nth L i=some (O0 z N h s)):
 JW Tryz.prog Q7b [h,v.v, .int .i64 n] w fun u w'=>u= .tuple #[(s.arrV v n).v, .int .i64 (s.arrC v n)]∧St cx w' (L.set i (O0 z (N+1) h (s.arr v n))):=by
 by_cases hn:n<0∨15<n
 · have e1:s.arr v n=s:=(by unfold HpS.arr;rw [if_pos hn]);have e2:s.arrV v n=Val.zero:=(by unfold HpS.arrV;rw [if_pos hn]);have e3:s.arrC v n=1:=(by unfold HpS.arrC;rw [if_pos hn]);rw [e1,e2,e3];obtain ⟨hok,b,rfl⟩:=eh hS hi;(refine Kd Kc Tryz.func189 ?_;refine' Ki;refine NJ hS vw Jr ?_;intro b4 w1 hS;simp only [Val.cells] at hS;refine Qe hS ?_;intro b6 w1 hS;refine' PO;first|(refine' K0)|(refine' K1)|(refine' Ae<;>intro hc));all_goals (refine' Ll;(first|refine' J1|(refine' J4;refine' QV));refine' KU;refine' JZ;refine' Ki;refine MA [_,_,_,_] ?_;refine Ka hS ?_;intro w1 hS;have hS:=hS.ns;refine' LY;refine QQ vw (Q4 (n:=4) Jk Jk (hS.blkAt fd) Jr Jr) vw ?_;refine ⟨_,rfl,rfl,?_⟩;obtain ⟨lv,rv,ho,hS⟩:=eg hS.drop.drop hi;exact (Qk (⟨ho.hr,hok.mono Jo⟩:HpO (N+1) s rv) hS).back hi)
 · obtain ⟨m,rfl⟩:=HQ (show 0≤n by omega)
   have e1:s.arr v m=s.put v (m+1) ⟨true,OU m⟩:=(by unfold HpS.arr;rw [if_neg hn]);have e2:s.arrV v m=s.putV v 4 (m+1):=(by unfold HpS.arrV;rw [if_neg hn]);have e3:s.arrC v m=s.code v (m+1):=(by unfold HpS.arrC;rw [if_neg hn]);rw [e1,e2,e3];refine Kd Kc Tryz.func189 ?_;refine' Ki;refine NJ hS vw Jr ?_;intro b4 w1 hS;simp only [Val.cells] at hS;refine Qe hS ?_;intro b6 w1 hS;refine' PO;(first|(refine' K0)|(refine' K1));refine' Ll;(first|refine' J1|(refine' J4;(first|(refine' QV)|(refine' KM))));refine' KU;refine' PV;refine' Ki;refine Oy [_,_] ?_;refine Qe hS ?_;intro b8 w1 hS;refine SF hS rfl rfl Jr fd Js (by first|exact Xe _|exact jt rfl rfl) Jr ?_;intro w1 hS;have hS:=hS.ns;refine' zn;refine' LU;have hS:=hS.nil (T:=H1.Tv) (es:=4);refine zo [] (fun A ρ' w'=>∃(j:Nat) (va:Value),J2 ρ' A∧J2 ρ' [(0,h),(2, .int .i64 m),(4, .pointer (some ⟨b4,0,none⟩)),(6, .pointer (some ⟨b6,0,none⟩)),(8, .pointer (some ⟨b8,0,none⟩)),(9, .int .i64 j)]∧(j≤m)∧St cx w' (sl H1.Tv 4 va ((OU j).map Val.cells)::blk b8 278 [.bool true,va]::blk b6 182 [.int .i64 0, .int .i64 0, .int .i64 0, .int .i64 0]::blk b4 182 [.int .i64 v.kind, .int .i64 v.region, .int .i64 v.thing, .int .i64 v.n]::L)) (fun ρ' _=>(m - iv (ρ' 9)).toNat) ?_ ?_
   · exact ⟨0, .slice none 0 0,zh,zh,Jo,hS.sp⟩
   rintro ρ w1 ⟨j,va,hA,hρ,hj,hS⟩;obtain ⟨ρ,rfl⟩:=J3 hA hρ;have hnl:=Qdq (n:=j);refine' O8;refine' PN;refine' Ab<;>intro hc
   · skip;refine' Lj;refine' ae;refine Oy [_,_,_,_] ?_;refine KY hS [_,_,_,_] ?_;intro b1 w1 hS;refine Nv l4 (.inl l5) hS vw vw fd (hS.srcB fd Jr Dl) Dw ?_;intro v7 w7 hS;have hS:=hS.ns;refine' L7;refine LP hS ?_;intro w1 hS;have hS:=hS.ns;refine' zn;refine' LH;(exact ⟨⟨j+1,_,zh,zh,Jo,by rw [show ((j+1:Nat):Int)=(j:Int)+1 by omega,QbU,Fa];exact hS.sp⟩,Qb Jo⟩)
   · skip;refine' K2;obtain rfl:j=m:=Dc;have hone:=hS.oneC KG;refine' Yb;refine zv hS ?_;refine' zm;refine' Nq;refine' Nb (c:=wR v (j+1) true va (OU j) Jo hN Jo hone hS (show nth (_::_::_::L) (i+3)=_ from hi));rintro v2 w2 ⟨rfl,hS⟩;have hS:=hS.ns;refine' sR;refine SF hS rfl rfl Jr fd Js (by exact Xe _) Jr ?_;intro w1 hS;have hS:=hS.ns;refine' LY;refine QQ vw (Q4 (n:=4) Jk Jk (hS.blkAt fd) Jr Jr) vw ?_;(exact ⟨_,rfl,rfl,hS.drop.drop.drop⟩)
end
end Go.Proofs.YteflkifmgnpbhaaGreat
namespace Go.Lir
theorem en {k:Int}(h0:0≤k)(h:g.vals[k.toNat]?=some v):g.val k=some v:=by unfold Frm.val;rw [if_neg Jo];exact h
theorem Wz {k:Int}(h:k<0∨(g.vals.length:Int)≤k):g.val k=none:=by
 unfold Frm.val;by_cases h0:k<0
 · rw [if_pos h0]
 · rw [if_neg h0];exact Fk Jo
theorem qK {k:Int}(h:g.num k=some n):∃v∈g.vals,v.n=n:=by
 unfold Frm.num Frm.val at h;split at h
 · cases h
 · rename_i v hv
   split at hv
   · cases hv
   · split at h
     · exact ⟨v,EI hv,E4 h⟩
     · cases h
end Go.Lir
namespace Go.Proofs.YteflkifmgnpbhaaGreat
open Go.Lir
attribute [local irreducible] LC.wp Q0 Qh Qd Kq Qz LO.wp Q5 Calls
theorem QiF:NH Tryz.prog 47=some (119,5,72,[.int .i64 0, .int .i64 0, .int .i64 0, .slice none 0 0, .slice none 0 0]):=by kernel_rfl
theorem QgH:∃e2,Tryz.prog.underlying 47=some (.slice e2):=⟨119,by kernel_rfl⟩
def FrmV.res1 (x:FrmV):Res:=star (sl 182 4 x.vv (x.vals.map Val.cells)) (sl 3 1 x.rv (Qq x.regs))
@[reducible] def gL (p:Nat)(z:GZ)(lv:Value)(left:Int)(fr:List FrmV)(g:FrmV)(L:List Res):List Res:=L5 z p lv left::sl 119 5 z.fv (Ou fr g)::sl 182 4 g.vv (g.vals.map Val.cells)::sl 3 1 g.rv (Qq g.regs)::Lb FrmV.res1 fr::L
@[reducible] def GZ.end (z:GZ)(e:Int):GZ:=⟨z.fn,z.fv,z.iv,e,z.bv,z.ov,z.fu,z.mo,true,z.c,z.a⟩
variable {cx:Cx}{w:World}{L:List Res}{p:Nat}{z:GZ}{fr:List FrmV}{g:FrmV}{lv:Value}{left:Int}
theorem Zw (e:Int)(hS:St cx w (L5 z p lv left::L)):JW Tryz.prog sZ [.pointer (some ⟨p,0,none⟩), .int .i64 e] w fun u w'=>u= .int .i64 1∧St cx w' (L5 (z.end e) p lv left::L):=by
 refine Kd Kc Tryz.func72 ?_;refine' LG;refine' KL;refine' zm;refine' Mm;((refine LP hS ?_;intro w1 hS;have hS:=hS.ns));refine' ah;((refine LP hS ?_;intro w1 hS;have hS:=hS.ns));refine' zn;refine' Kw;((exact ⟨_,rfl,rfl,hS.sp⟩))
theorem R6 (hf:fr.length≤1000)(hS:St cx w (gL p z lv left fr g L)):JW Tryz.prog zP [.pointer (some ⟨p,0,none⟩)] w fun u w'=>∃b o,u= .pointer (some ⟨b,o,none⟩)∧Nn z.fv (fr.length+1) 5 fr.length b o∧St cx w' (gL p z lv left fr g L):=by
 refine Kd Kc Tryz.func73 ?_;refine' LG;refine Qu ?_;refine zD (ci 12 [11]) ?_;have hS:=hS.drew;refine' Uq;refine' Uq;((refine QO hS vw fd (Qp fr g) ?_));refine' PL;rw [show ((fr.length+1:Nat):Int) - 1=fr.length by omega];((refine ML hS vw rfl fd (by rw [Qp];omega) ?_;rw [Qp];intro b1 o1 hel));refine' KN;((exact ⟨_,rfl,b1,o1,rfl,hel,hS.sp⟩))
attribute [local irreducible] Frm.val Frm.num Frm.args Frm.rgs Frm.reg
theorem wS (hl1:l.length≤100000)(hf:fr.length≤1000)(hl:JY.sl cx v1 l)(hS:St cx w (gL p z lv left fr g L)):JW Tryz.prog oD [.pointer (some ⟨p,0,none⟩),v1] w fun u w'=>
 (∃(vs:List Val) (v:Value),g.abs.args l=some vs∧vs.length=l.length∧oneC v=true∧u= .tuple #[v, .bool true]∧St cx w' (gL p z lv left fr g (sl 182 4 v (vs.map Val.cells)::L)))∨(g.abs.args l=none∧u= .tuple #[.slice none 0 0, .bool false]∧St cx w' (gL p z lv left fr g L)):=by
 have hlen:=hl.len;refine Kd Kc Tryz.func125 ?_;refine' Nd;refine' Oi;refine' Kv (c:=R6 hf hS);rintro v1 w1 ⟨b9,o9,rfl,hel,hS⟩;refine' MU;refine Q2 hS hel rfl fd (Qp fr g) (QB fr g) rfl ?_;refine' Kg;refine' LU;have hS:St cx _ (gL p z lv left fr g (sl 182 4 (.slice none 0 0) (([]:List Val).map Val.cells)::L)):=(by have hS:=hS.nil (T:=182) (es:=4);exact AA);refine zo [1,7] (fun A ρ' w'=>∃(q:Nat) (vo:Value) (out:List Val),J2 ρ' A∧J2 ρ' [(6,vo),(8, .int .i64 q)]∧(q≤l.length)∧(out.length=q)∧(oneC vo=true)∧(g.abs.args l=(g.abs.args (l.drop q)).map fun r=>out++r)∧St cx w' (gL p z lv left fr g (sl 182 4 vo (out.map Val.cells)::L))) (fun ρ' _=>(l.length - iv (ρ' 8)).toNat) ?_ ?_
 · exact ⟨0, .slice none 0 0,[],zh,zh,Jo,rfl,rfl,dM,hS.sp⟩
 rintro ρ w1 ⟨q,vo,out,hA,hρ,hq,hol,hvo,hd,hS⟩;obtain ⟨ρ,rfl⟩:=J3 hA hρ;refine' Sk;refine' Ab<;>intro hc
 · skip
   ((refine' Lj;refine' O8;refine' zi;intro b1 o1 cs1 x1 hat1 hx1 he1;obtain rfl:=Qs he1;refine' M1;first|(refine' K0)|(refine' K1)|(refine' Ae<;>intro hc));all_goals (refine' Ll;refine' Mi;(first|refine' J1|(refine' J4;refine' zi;intro b2 o2 cs2 x2 hat2 hx2 he2;obtain rfl:=Qs he2));refine' ck;refine' Mi;(first|refine' J1|(refine' J4;refine QO hS vw fd (EK _) ?_));first|refine' J1|(refine' J4;(first|(refine' Ml)|(refine' Mz)|(refine' Ag<;>intro hc)))));all_goals (refine' KU)
   all_goals
    first
    | (refine' JZ;all_goals (refine' KH;refine' N4);all_goals (exact ⟨_,rfl, .inr ⟨wv hd hx1 (Wz (by first|exact .inl Jo|(have hxx:=E4 (hx1.symm.trans hx2);exact .inr (by show (g.vals.length:Int)≤x1;omega)))),rfl,hS.sp⟩⟩))
    | (refine' J0;refine' J5)
   have hxx:=E4 (hx1.symm.trans hx2);obtain ⟨v9,hv9⟩:∃v,g.vals[x1.toNat]?=some v:=⟨_,EH Jo⟩;have hvg:=en (g:=g.abs) Jo hv9;refine' SK;refine' zm;((refine' zi;intro b3 o3 cs3 x3 hat3 hx3 he3;((obtain rfl:=Qs he3))));refine' M1;rw [←E4 (hx1.symm.trans hx3)];refine QJ hS vw rfl fd Jo Df ?_;rw [EK];intro b4 o4 hel4;refine NK hS hel4 rfl fd (EK _) (show (g.vals.map Val.cells)[x1.toNat]?=some v9.cells by rw [EN,hv9];rfl) ?_;unfold Val.cells;refine KY hS [_,_,_,_] ?_;intro b1 w1 hS;((refine Nv l4 (.inl l5) hS vw vw (i:=6) rfl (hS.srcB (i:=0) rfl Jr Dl) DC ?_;intro v7 w7 hS;have hS:=hS.ns;have ho7:=hS.oneC (i:=6) rfl));refine' Um;((exact ⟨⟨q+1,v7,out++[v9],zh,zh,Jo,by rw [EM,hol];rfl,ho7,QiW hd hx1 hvg,by rw [Fa];exact hS.sp⟩,Qb Jo⟩))
 · skip;refine' K2;refine' KL;refine' N4;(first|(exact ⟨_,rfl, .inr ⟨wv hd hx1 (Wz (by exact .inl Jo)),rfl,hS.sp⟩⟩)|(exact ⟨_,rfl, .inl ⟨out,_,Wb hd Jo,Jo,hvo,rfl,hS.sp⟩⟩))
end Go.Proofs.YteflkifmgnpbhaaGreat
namespace Go.Lir
theorem QfM (h:vs[q]?=some v):(vs.take q).map Val.n++[v.n]=(vs.take (q+1)).map Val.n:=by
 obtain ⟨hq,rfl⟩:=EJ.1 h;rw [Is hq,Fa];rfl
theorem qL:false=true↔false=true∧P:=by simp
theorem qM (h:P):true=true↔true=true∧P:=by simp [h]
theorem qN (h:¬P):false=true↔true=true∧P:=by simp [h]
theorem qO {b:Bool}(hb:b=true↔∀x∈vs.take q,x.kind=1)(h:vs[q]?=some v):∀b',(b'=true↔b=true∧v.kind=1)→(b'=true↔∀x∈vs.take (q+1),x.kind=1):=by
 intro b' hb';obtain ⟨hq,rfl⟩:=EJ.1 h;rw [hb',hb,Is hq];simp only [List.forall_mem_append,Fp,forall_eq]
end Go.Lir
namespace Go.Proofs.YteflkifmgnpbhaaGreat
open Go.Lir
attribute [local irreducible] LC.wp Q0 Qh Qd Kq Qz LO.wp Q5 Calls
variable {cx:Cx}{w:World}{L:List Res}{p:Nat}{z:GZ}{fr:List FrmV}{g:FrmV}{lv:Value}{left:Int}
attribute [local irreducible] Frm.val Frm.num Frm.args Frm.rgs Frm.reg
theorem Zx (hl1:l.length≤100000)(hf:fr.length≤1000)(hl:JY.sl cx v1 l)(hS:St cx w (gL p z lv left fr g L)):JW Tryz.prog tf [.pointer (some ⟨p,0,none⟩),v1] w fun u w'=>
 (∃(vs:List Int) (v:Value),g.abs.rgs l=some vs∧vs.length=l.length∧oneC v=true∧u= .tuple #[v, .bool true]∧St cx w' (gL p z lv left fr g (sl 3 1 v (Qq vs)::L)))∨(g.abs.rgs l=none∧u= .tuple #[.slice none 0 0, .bool false]∧St cx w' (gL p z lv left fr g L)):=by
 have hlen:=hl.len;refine Kd Kc Tryz.func124 ?_;refine' Nd;refine' Oi;refine' Kv (c:=R6 hf hS);rintro v1 w1 ⟨b9,o9,rfl,hel,hS⟩;refine' MU;refine Q2 hS hel rfl fd (Qp fr g) (QB fr g) rfl ?_;refine' Kg;refine' LU;have hS:St cx _ (gL p z lv left fr g (sl 3 1 (.slice none 0 0) (Qq [])::L)):=(by have hS:=hS.nil (T:=3) (es:=1);exact AA);refine zo [1,7] (fun A ρ' w'=>∃(q:Nat) (vo:Value) (out:List Int),J2 ρ' A∧J2 ρ' [(6,vo),(8, .int .i64 q)]∧(q≤l.length)∧(out.length=q)∧(oneC vo=true)∧(g.abs.rgs l=(g.abs.rgs (l.drop q)).map fun r=>out++r)∧St cx w' (gL p z lv left fr g (sl 3 1 vo (Qq out)::L))) (fun ρ' _=>(l.length - iv (ρ' 8)).toNat) ?_ ?_
 · exact ⟨0, .slice none 0 0,[],zh,zh,Jo,rfl,rfl,jw,hS.sp⟩
 rintro ρ w1 ⟨q,vo,out,hA,hρ,hq,hol,hvo,hd,hS⟩;obtain ⟨ρ,rfl⟩:=J3 hA hρ;refine' Sk;refine' Ab<;>intro hc
 · skip
   ((refine' Lj;refine' O8;refine' zi;intro b1 o1 cs1 x1 hat1 hx1 he1;obtain rfl:=Qs he1;refine' M1;first|(refine' K0)|(refine' K1)|(refine' Ae<;>intro hc));all_goals (refine' Ll;refine' Mi;(first|refine' J1|(refine' J4;refine' zi;intro b2 o2 cs2 x2 hat2 hx2 he2;obtain rfl:=Qs he2));refine' ck;refine' Mi;(first|refine' J1|(refine' J4;refine QO hS vw (i:=3) rfl (EK _) ?_));first|refine' J1|(refine' J4;(first|(refine' Ml)|(refine' Mz)|(refine' Ag<;>intro hc)))));all_goals (refine' KU)
   all_goals
    first
    | (refine' JZ;all_goals (refine' KH;refine' N4);all_goals (exact ⟨_,rfl, .inr ⟨wx hd hx1 (Wg (by first|exact .inl Jo|(have hxx:=E4 (hx1.symm.trans hx2);exact .inr (by show (g.regs.length:Int)≤x1;omega)))),rfl,hS.sp⟩⟩))
    | (refine' J0;refine' J5)
   have hxx:=E4 (hx1.symm.trans hx2);obtain ⟨v9,hv9⟩:∃v,g.regs[x1.toNat]?=some v:=⟨_,EH Jo⟩;have hvg:=dN (g:=g.abs) Jo hv9;refine' SK;refine' zm;((refine' zi;intro b3 o3 cs3 x3 hat3 hx3 he3;((obtain rfl:=Qs he3))));refine' M1;rw [←E4 (hx1.symm.trans hx3)];refine QJ hS vw rfl (i:=3) rfl Jo Df ?_;rw [EK];intro b4 o4 hel4;refine QY hS hel4 rfl (i:=3) rfl (EK _) (show (Qq g.regs)[x1.toNat]?=some [.int .i64 v9] by rw [EN,hv9];rfl) rfl ?_;refine KY hS [_] ?_;intro b1 w1 hS;((refine Nv Ro (.inl RQ) hS vw vw (i:=6) rfl (hS.srcB (i:=0) rfl Jr Dl) DC ?_;intro v7 w7 hS;have hS:=hS.ns;have ho7:=hS.oneC (i:=6) rfl));refine' Um;((exact ⟨⟨q+1,v7,out++[v9],zh,zh,Jo,by rw [EM,hol];rfl,ho7,Wc hd hx1 hvg,by rw [Qq,Fa];exact hS.sp⟩,Qb Jo⟩))
 · skip;refine' K2;refine' KL;refine' N4;(first|(exact ⟨_,rfl, .inr ⟨wx hd hx1 (Wg (by exact .inl Jo)),rfl,hS.sp⟩⟩)|(exact ⟨_,rfl, .inl ⟨out,_,Zj hd Jo,Jo,hvo,rfl,hS.sp⟩⟩))
theorem Zy (hf:fr.length≤1000)(hn:g.vals.length+vs.length≤1000000)(hS:St cx w (gL p z lv left fr g L))(hj:nth L j=some (sl 182 4 v2 (vs.map Val.cells))):
 JW Tryz.prog te [.pointer (some ⟨p,0,none⟩),v2] w fun u w'=>u= .int .i64 0∧∃tv,St cx w' (gL p z lv left fr (g.push tv vs) L):=by
 refine Kd Kc Tryz.func120 ?_;refine' Oi;refine' Kv (c:=R6 hf hS);rintro v1 w1 ⟨b1,o1,rfl,hel1,hS⟩;refine' zm;refine' Kv (c:=R6 hf hS);rintro v2 w1 ⟨b2,o2,rfl,hel2,hS⟩;refine' MU;((refine Q2 hS hel2 rfl fd (Qp fr g) (QB fr g) rfl ?_));refine' zm;((refine Nv l4 (.inl l5) hS vw vw (i:=2) rfl (hS.srcS (i:=j+5) hj (wu vs)) (by rw [EK,EK];omega) ?_;intro v7 w7 hS;have hS:=hS.ns;have ho7:=hS.oneC (i:=2) rfl;rw [←Fa] at hS));refine' MU;refine O2 hS hel1 rfl vw fd (Qp fr g) (QB fr g) Jo ho7 (Zi (g':=g.push v7 vs) rfl) ?_;intro w8 hS;have hS:=hS.ns;refine' zn;refine' Kw;((exact ⟨_,rfl,rfl,v7,hS.sp⟩))
theorem Zz (hl1:l.length≤100000)(hf:fr.length≤1000)(hl:JY.sl cx v1 l)(hS:St cx w (gL p z lv left fr g L)):JW Tryz.prog kQ [.pointer (some ⟨p,0,none⟩),v1] w fun u w'=>
 (∃(vs:List Val) (v:Value) (b:Bool),g.abs.args l=some vs∧vs.length=l.length∧oneC v=true∧(b=true↔∀x∈vs,x.kind=1)∧u= .tuple #[v, .bool b]∧St cx w' (gL p z lv left fr g (sl 2 1 v (Qq (vs.map Val.n))::L)))∨(g.abs.args l=none∧u= .tuple #[.slice none 0 0, .bool false]∧St cx w' (gL p z lv left fr g L)):=by
 have hlen:=hl.len;refine Kd Kc Tryz.func121 ?_;refine' Nd;refine zM [] (fun A ρ' w'=>∃(vs:List Val) (v3:Value) (b:Bool),J2 ρ' A∧J2 ρ' [(6,v3),(7, .bool b)]∧(vs.length≤100000)∧((g.abs.args l=some vs∧vs.length=l.length∧b=true)∨(g.abs.args l=none∧vs=[]∧v3= .slice none 0 0∧b=false))∧St cx w' (gL p z lv left fr g (sl 182 4 v3 (vs.map Val.cells)::L))) ?_ ?_
 · skip
   refine' Oj;refine' J9 (c:=wS hl1 hf hl hS);rintro v9 w9 hv;rcases hv with ⟨vs,v3,hvs,hvl,ho3,rfl,hS⟩|⟨hvs,rfl,hS⟩
   all_goals (refine' Uj;refine' Kg;(first|(exact ⟨vs,v3,true,zh,zh,Jo, .inl ⟨hvs,hvl,rfl⟩,hS.sp⟩)|(exact ⟨[], .slice none 0 0,false,zh,zh,Js, .inr ⟨hvs,rfl,rfl,rfl⟩,by have hS:=hS.nil (T:=182) (es:=4);exact hS.sp⟩)))
 rintro ρ w1 ⟨vs,v3,b,hA,hρ,hvl,hvs,hS⟩;obtain ⟨ρ,rfl⟩:=J3 hA hρ;refine' LG;refine' LU;have hS:St cx _ (gL p z lv left fr g (sl 2 1 (.slice none 0 0) (Qq [])::sl 182 4 v3 (vs.map Val.cells)::L)):=(by have hS:=hS.nil (T:=2) (es:=1);exact AA);refine zo [6] (fun A ρ' w'=>∃(q:Nat) (vo:Value) (b1:Bool),J2 ρ' A∧J2 ρ' [(7, .bool b1),(8,vo),(9, .int .i64 q)]∧(q≤vs.length)∧(oneC vo=true)∧(q=0→vo= .slice none 0 0∧b1=b)∧(0<vs.length→(b1=true↔∀x∈vs.take q,x.kind=1))∧St cx w' (gL p z lv left fr g (sl 2 1 vo (Qq ((vs.take q).map Val.n))::sl 182 4 v3 (vs.map Val.cells)::L))) (fun ρ' _=>(vs.length - iv (ρ' 9)).toNat) ?_ ?_
 · exact ⟨0, .slice none 0 0,b,zh,zh,Jo,rfl,(fun _=>⟨rfl,rfl⟩),(fun h0=>by rcases hvs with ⟨_,_,rfl⟩|⟨_,rfl,_⟩;(simp);simp at h0),hS.sp⟩
 rintro ρ w1 ⟨q,vo,b1,hA,hρ,hq,hvo,hv0,hb,hS⟩;obtain ⟨ρ,rfl⟩:=J3 hA hρ;refine' O8;refine QO hS vw (i:=6) rfl (EK _) ?_;refine' PN;refine' Ab<;>intro hc
 · skip
   refine' Lj;refine zM [6,8,9] (fun A ρ' w'=>∃(b2:Bool),J2 ρ' A∧J2 ρ' [(7, .bool b2)]∧(q<vs.length)∧(b2=true↔∀x∈vs.take (q+1),x.kind=1)∧St cx w' (gL p z lv left fr g (sl 2 1 vo (Qq ((vs.take q).map Val.n))::sl 182 4 v3 (vs.map Val.cells)::L))) ?_ ?_
   · skip;obtain ⟨v9,hv9⟩:∃v,vs[q]?=some v:=⟨_,EH Jo⟩;have hrow:(vs.map Val.cells)[q]?=some v9.cells:=(by rw [EN,hv9];rfl);have hbq:=hb Jo;cases b1;all_goals (refine' LF;refine' Ll;refine' Mi;(first|refine' J1|(refine' J4;refine ML hS vw rfl (i:=6) rfl Df ?_;rw [EK];intro b4 o4 hel4));refine' Nt;(first|refine' J1|(refine' J4;refine Q2 hS hel4 rfl (i:=6) rfl (EK _) hrow rfl ?_));first|refine' J1|(refine' J4;(first|(refine' Ql)|(refine' Qn)|(refine' Ac<;>intro hc))));all_goals (refine' Ms;refine' Kg;exact ⟨_,zh,zh,Jo,(by first|exact qO hbq hv9 _ qL|exact qO hbq hv9 _ (qM hc)|exact qO hbq hv9 _ (qN hc)),hS.sp⟩)
   rintro ρ w1 ⟨b2,hA,hρ,hq1,hb2,hS⟩;obtain ⟨ρ,rfl⟩:=J3 hA hρ;obtain ⟨v9,hv9⟩:∃v,vs[q]?=some v:=⟨_,EH hq1⟩;have hrow:(vs.map Val.cells)[q]?=some v9.cells:=(by rw [EN,hv9];rfl);refine' SK;refine ML hS vw rfl (i:=6) rfl Df ?_;rw [EK];intro b5 o5 hel5;refine' MH;refine Q2 hS hel5 rfl (i:=6) rfl (EK _) hrow rfl ?_;refine KY hS [_] ?_;intro b1 w1 hS;refine Nv UD (.inl aj) hS vw vw (i:=6) rfl (hS.srcB (i:=0) rfl Jr Dl) (by simp only [EK,ET,Ff,F8];omega) ?_;intro v7 w7 hS;have hS:=hS.ns;have ho7:=hS.oneC (i:=6) rfl;refine' Um;(exact ⟨⟨q+1,v7,b2,zh,zh,Jo,ho7,(fun h=>absurd h Jo),(fun _=>hb2),by rw [←QfM hv9,Qq,Fa];exact hS.sp⟩,Qb Jo⟩)
 · skip;refine' K2;refine' KL;refine' zm;refine' N4;(obtain rfl:q=vs.length:=Dc;rw [HS] at hS hb;rcases hvs with ⟨h1,h2,h3⟩|⟨h1,rfl,h3,h4⟩;exact ⟨_,rfl, .inl ⟨vs,_,_,h1,h2,hvo,(by by_cases h0:0<vs.length;exact hb h0;obtain ⟨_,e2⟩:=hv0 Jo;rw [e2,h3,Gt.1 (show vs.length=0 by omega)];simp),rfl,hS.sp⟩⟩;obtain ⟨e1,e2⟩:=hv0 rfl;rw [e1,e2,h4];exact ⟨_,rfl, .inr ⟨h1,rfl,hS.sp⟩⟩)
end Go.Proofs.YteflkifmgnpbhaaGreat
namespace Go.Lir
theorem qP {k:Int}(h:g.args [k]=some vs):∃v,g.val k=some v∧vs=[v]:=by
 unfold Frm.args at h
 cases hv:g.val k with
 | none=>rw [hv] at h;cases h
 | some v=>rw [hv] at h;exact ⟨v,rfl,(E4 h).symm⟩
theorem qQ {k:Int}(h:g.args [k]=none):g.val k=none:=by
 unfold Frm.args at h
 cases hv:g.val k with
 | none=>rfl
 | some v=>rw [hv] at h;cases h
theorem WA {k j:Int}(h:g.args [k,j]=some vs):∃v u,g.val k=some v∧g.val j=some u∧vs=[v,u]:=by
 rw [Frm.args] at h
 cases hv:g.val k with
 | none=>rw [hv] at h;cases h
 | some v=>
   rw [hv] at h
   cases ha:g.args [j] with
   | none=>rw [ha] at h;cases h
   | some l=>
     rw [ha] at h;obtain ⟨u,hu,rfl⟩:=qP ha;exact ⟨v,u,rfl,hu,(E4 h).symm⟩
theorem Qga {k j:Int}(h:g.args [k,j]=none):g.val k=none∨g.val j=none:=by
 rw [Frm.args] at h
 cases hv:g.val k with
 | none=>exact .inl rfl
 | some v=>
   rw [hv] at h
   cases ha:g.args [j] with
   | none=>exact .inr (qQ ha)
   | some l=>rw [ha] at h;cases h
end Go.Lir
namespace Go.Proofs.YteflkifmgnpbhaaGreat
open Go.Lir
attribute [local irreducible] LC.wp Q0 Qh Qd Kq Qz LO.wp Q5 Calls
@[reducible] def gX (p:Nat)(z:GZ)(fr:List FrmV)(g:FrmV)(N:Nat)(h:HpS)(out:List Int)(L:List Res):List Res:=O0 z N (.pointer (some ⟨p,1,none⟩)) h::sl 119 5 z.fv (Ou fr g)::sl 182 4 g.vv (g.vals.map Val.cells)::sl 3 1 g.rv (Qq g.regs)::Lb FrmV.res1 fr::sl 2 1 z.ov (Qq out)::L
variable {cx:Cx}{w:World}{L:List Res}{p N:Nat}{z:GZ}{fr:List FrmV}{g:FrmV}{h:HpS}{out:List Int}
theorem O1 (hS:St cx w (gX p z fr g N h out L)):∃lv rv,HpO N h rv∧St cx w (gL p z lv h.left fr g (sl 131 4 lv (rv.map RgnV.cells)::Lb (RgnV.res H1) rv::sl 2 1 z.ov (Qq out)::L)):=by
 obtain ⟨b,lv,rv,he,ho,hS⟩:=qJ hS;cases he;exact ⟨lv,rv,ho,(hS.subP Di)⟩
theorem QN (ho:HpO N h rv)(hS:St cx w (gL p z lv h.left fr g (sl 131 4 lv (rv.map RgnV.cells)::Lb (RgnV.res H1) rv::sl 2 1 z.ov (Qq out)::L))):St cx w (gX p z fr g N h out L):=
 Qk ho (hS.subP Di)
attribute [local irreducible] Frm.val Frm.num Frm.args Frm.rgs Frm.reg
theorem WB {cx:Cx}:JY.ls cx (Qq l) l:=⟨by unfold Qq;simp,fun k x hx=>⟨[.int .i64 x],by unfold Qq;rw [EN,hx];rfl,rfl⟩⟩
theorem Ov (e:Int)(hS:St cx w (gX p z fr g N h out L)):JW Tryz.prog sZ [.pointer (some ⟨p,0,none⟩), .int .i64 e] w fun u w'=>u= .int .i64 1∧St cx w' (gX p (z.end e) fr g N h out L):=by
 obtain ⟨lv,rv,ho,hS⟩:=O1 hS;refine (Zw e hS).mono ?_;rintro u w' ⟨rfl,hS⟩;exact ⟨rfl,QN (z:=z.end e) ho hS⟩
theorem jO (hl1:l.length≤100000)(hf:fr.length≤1000)(hl:JY.sl cx v1 l)(hS:St cx w (gX p z fr g N h out L)):JW Tryz.prog oD [.pointer (some ⟨p,0,none⟩),v1] w fun u w'=>
 (∃(vs:List Val) (v:Value),g.abs.args l=some vs∧vs.length=l.length∧oneC v=true∧u= .tuple #[v, .bool true]∧St cx w' (gX p z fr g N h out (sl 182 4 v (vs.map Val.cells)::L)))∨(g.abs.args l=none∧u= .tuple #[.slice none 0 0, .bool false]∧St cx w' (gX p z fr g N h out L)):=by
 obtain ⟨lv,rv,ho,hS⟩:=O1 hS;refine (wS hl1 hf hl hS).mono ?_;rintro u w' (⟨vs,v,h1,h2,h3,h4,hS⟩|⟨h1,h2,hS⟩)
 · exact .inl ⟨vs,v,h1,h2,h3,h4,QN ho (hS.subP Di)⟩
 · exact .inr ⟨h1,h2,QN ho (hS.subP Di)⟩
theorem aO (hl1:l.length≤100000)(hf:fr.length≤1000)(hl:JY.sl cx v1 l)(hS:St cx w (gX p z fr g N h out L)):JW Tryz.prog tf [.pointer (some ⟨p,0,none⟩),v1] w fun u w'=>
 (∃(vs:List Int) (v:Value),g.abs.rgs l=some vs∧vs.length=l.length∧oneC v=true∧u= .tuple #[v, .bool true]∧St cx w' (gX p z fr g N h out (sl 3 1 v (Qq vs)::L)))∨(g.abs.rgs l=none∧u= .tuple #[.slice none 0 0, .bool false]∧St cx w' (gX p z fr g N h out L)):=by
 obtain ⟨lv,rv,ho,hS⟩:=O1 hS;refine (Zx hl1 hf hl hS).mono ?_;rintro u w' (⟨vs,v,h1,h2,h3,h4,hS⟩|⟨h1,h2,hS⟩)
 · exact .inl ⟨vs,v,h1,h2,h3,h4,QN ho (hS.subP Di)⟩
 · exact .inr ⟨h1,h2,QN ho (hS.subP Di)⟩
theorem WC (hl1:l.length≤100000)(hf:fr.length≤1000)(hl:JY.sl cx v1 l)(hS:St cx w (gX p z fr g N h out L)):JW Tryz.prog kQ [.pointer (some ⟨p,0,none⟩),v1] w fun u w'=>
 (∃(vs:List Val) (v:Value) (b:Bool),g.abs.args l=some vs∧vs.length=l.length∧oneC v=true∧(b=true↔∀x∈vs,x.kind=1)∧u= .tuple #[v, .bool b]∧St cx w' (gX p z fr g N h out (sl 2 1 v (Qq (vs.map Val.n))::L)))∨(g.abs.args l=none∧u= .tuple #[.slice none 0 0, .bool false]∧St cx w' (gX p z fr g N h out L)):=by
 obtain ⟨lv,rv,ho,hS⟩:=O1 hS;refine (Zz hl1 hf hl hS).mono ?_;rintro u w' (⟨vs,v,b,h1,h2,h3,h4,h5,hS⟩|⟨h1,h2,hS⟩)
 · exact .inl ⟨vs,v,b,h1,h2,h3,h4,h5,QN ho (hS.subP Di)⟩
 · exact .inr ⟨h1,h2,QN ho (hS.subP Di)⟩
theorem jP {k:Int}(hf:fr.length≤1000)(hS:St cx w (sl 3 1 v1 (Qq [k])::gX p z fr g N h out L)):JW Tryz.prog oD [.pointer (some ⟨p,0,none⟩),v1] w fun u w'=>
 (∃(v:Val) (sv:Value),g.abs.val k=some v∧oneC sv=true∧u= .tuple #[sv, .bool true]∧St cx w' (gX p z fr g N h out (sl 182 4 sv ([v].map Val.cells)::L)))∨(g.abs.val k=none∧u= .tuple #[.slice none 0 0, .bool false]∧St cx w' (gX p z fr g N h out L)):=by
 obtain ⟨c',hle,hS,hsl,hback⟩:=Jb (r:=JY) (l:=[k]) hS WB rfl Js;refine (jO Js hf hsl hS).mono ?_;rintro u w' (⟨vs,v,h1,h2,h3,rfl,hS⟩|⟨h1,rfl,hS⟩)
 · obtain ⟨v0,h5,rfl⟩:=qP h1;exact .inl ⟨v0,v,h5,h3,rfl,(hback hS).drop⟩
 · exact .inr ⟨qQ h1,rfl,(hback hS).drop⟩
theorem ZA {k:Int}(hf:fr.length≤1000)(hS:St cx w (sl 3 1 v1 (Qq [k])::gX p z fr g N h out L)):JW Tryz.prog kQ [.pointer (some ⟨p,0,none⟩),v1] w fun u w'=>
 (∃(n:Int) (sv:Value),g.abs.num k=some n∧oneC sv=true∧u= .tuple #[sv, .bool true]∧St cx w' (gX p z fr g N h out (sl 2 1 sv (Qq [n])::L)))∨(g.abs.num k=none∧∃sv,u= .tuple #[sv, .bool false]∧St cx w' (gX p z fr g N h out L)):=by
 obtain ⟨c',hle,hS,hsl,hback⟩:=Jb (r:=JY) (l:=[k]) hS WB rfl Js;refine (WC Js hf hsl hS).mono ?_;rintro u w' (⟨vs,v,b,h1,h2,h3,h4,rfl,hS⟩|⟨h1,rfl,hS⟩)
 · obtain ⟨v0,h5,rfl⟩:=qP h1
   have hS:=(hback hS).drop
   cases b with
   | true=>exact .inl ⟨v0.n,v,Wd h5 (h4.1 rfl v0 Js),h3,rfl,(hS.subP Di)⟩
   | false=>exact .inr ⟨We h5 (fun h=>absurd (h4.2 Dh) Jd),_,rfl,(hS.subP Di)⟩
 · exact .inr ⟨Wf (qQ h1),_,rfl,(hback hS).drop⟩
theorem aP {k j:Int}(hf:fr.length≤1000)(hS:St cx w (sl 3 1 v1 (Qq [k,j])::gX p z fr g N h out L)):JW Tryz.prog kQ [.pointer (some ⟨p,0,none⟩),v1] w fun u w'=>
 (∃(n m:Int) (sv:Value),g.abs.num k=some n∧g.abs.num j=some m∧oneC sv=true∧u= .tuple #[sv, .bool true]∧St cx w' (gX p z fr g N h out (sl 2 1 sv (Qq [n,m])::L)))∨((g.abs.num k=none∨g.abs.num j=none)∧∃sv,u= .tuple #[sv, .bool false]∧St cx w' (gX p z fr g N h out L)):=by
 obtain ⟨c',hle,hS,hsl,hback⟩:=Jb (r:=JY) (l:=[k,j]) hS WB rfl Js;refine (WC Js hf hsl hS).mono ?_;rintro u w' (⟨vs,v,b,h1,h2,h3,h4,rfl,hS⟩|⟨h1,rfl,hS⟩)
 · obtain ⟨v0,u0,h5,h6,rfl⟩:=WA h1
   have hS:=(hback hS).drop
   cases b with
   | true=>exact .inl ⟨v0.n,u0.n,v,Wd h5 (h4.1 rfl v0 Js),Wd h6 (h4.1 rfl u0 Js),h3,rfl,(hS.subP Di)⟩
   | false=>
     refine .inr ⟨?_,_,rfl,(hS.subP Di)⟩;by_cases h7:v0.kind=1
     · exact .inr (We h6 (fun h=>absurd (h4.2 (by simpa using ⟨h7,h⟩)) Jd))
     · exact .inl (We h5 h7)
 · exact .inr ⟨(Qga h1).imp Wf Wf,_,rfl,(hback hS).drop⟩
theorem Nl (hf:fr.length≤1000)(hn:g.vals.length+vs.length≤1000000)(hS:St cx w (sl 182 4 v2 (vs.map Val.cells)::gX p z fr g N h out L)):
 JW Tryz.prog te [.pointer (some ⟨p,0,none⟩),v2] w fun u w'=>u= .int .i64 0∧∃tv,St cx w' (gX p z fr (g.push tv vs) N h out L):=by
 obtain ⟨lv,rv,ho,hS⟩:=O1 (L:=sl 182 4 v2 (vs.map Val.cells)::L) (hS.subP Di);refine (Zy (j:=3) hf hn hS rfl).mono ?_;rintro u w' ⟨rfl,tv,hS⟩;exact ⟨rfl,tv,QN ho (hS.subP Di)⟩
end Go.Proofs.YteflkifmgnpbhaaGreat
namespace Go.Lir
theorem jQ {P:Program}{ρ:Km}{c:Cx}{i d n:Nat}{T es:Nat}{v:Value}{css:List (List Value)}{x:Operand}{m b o:Nat}(hS:St c w L)(he:Nn v n es m b o)(hx:ρ.ev x= .pointer (some ⟨b,o,none⟩))(hi:nth L i=some (sl T es v css))(hn:css.length=n)(hc:css[m]?=some cs):MX P ρ w ⟨none, .loadn d es x⟩ (.agg ⟨cs⟩):=by
 obtain ⟨F,hr,_⟩:=hS.step hi;exact ⟨_,cs,hx,(he.el hn hr).cells hc,rfl⟩
section
variable {m:Module}{s:MS}{x:Ins}
theorem l7 (h:x.op=8):s.ins m x=obind (s.g.val x.a) fun v=>obind (s.g.num x.b) fun n=>if n<0∨15<n then .halt 3 else s.made (s.h.arrC v n) (s.h.arr v n) (s.h.arrV v n):=by unfold MS.ins;(repeat rw [if_neg Jo]);rw [if_pos h]
theorem Qgk (h1:4≤x.op)(h2:x.op≤11)(hv:s.g.val x.a=none):s.ins m x= .lost:=by
 rcases (show x.op=4∨x.op=5∨x.op=6∨x.op=7∨x.op=8∨x.op=9∨x.op=10∨x.op=11 by omega) with h|h|h|h|h|h|h|h
 · rw [qo h,OV hv]
 · rw [qp h,OV hv]
 · rw [qq h,OV hv]
 · rw [lX h,OV hv]
 · rw [l7 h,OV hv]
 · rw [qt h,OV hv]
 · rw [qu h,OV hv]
 · rw [wy h,OV hv]
theorem wT (h6:x.op=6)(hv:s.g.val x.a=some v)(hc:v.kind≠3∨(s.h.get v x.k).2≠0):s.ins m x= .lost:=by
 rw [qq h6,Qg hv];by_cases hk:v.kind=3
 · rw [if_neg Jo,if_pos Jo]
 · rw [if_pos hk]
theorem aQ (h6:x.op=6)(hv:s.g.val x.a=some v)(hk:v.kind=3)(hc:(s.h.get v x.k).2=0):s.ins m x= .go (s.put [(s.h.get v x.k).1]):=by rw [qq h6,Qg hv,if_neg Jo,if_neg Jo]
theorem wU (h7:x.op=7)(hv:s.g.val x.a=some v)(hc:s.g.val x.b=none∨v.kind≠3):s.ins m x= .lost:=by
 rw [lX h7,Qg hv];by_cases hk:v.kind=3
 · rw [if_neg Jo,OV (hc.resolve_right Jo)]
 · rw [if_pos hk]
theorem WD (h7:x.op=7)(hv:s.g.val x.a=some v)(hy:s.g.val x.b=some y)(hc:v.kind≠3∨s.h.setC v x.k y≠0):s.ins m x= .lost:=by
 rw [lX h7,Qg hv];by_cases hk:v.kind=3
 · rw [if_neg Jo,Qg hy,if_pos Jo]
 · rw [if_pos hk]
theorem jR (h7:x.op=7)(hv:s.g.val x.a=some v)(hy:s.g.val x.b=some y)(hk:v.kind=3)(hc:s.h.setC v x.k y=0):s.ins m x= .go (s.hp (s.h.set v x.k y)):=by rw [lX h7,Qg hv,if_neg Jo,Qg hy,if_neg Jo]
theorem qR (h8:x.op=8)(hv:s.g.val x.a=some v)(hn:s.g.num x.b=none):s.ins m x= .lost:=by rw [l7 h8,Qg hv,OV hn]
theorem qS (h8:x.op=8)(hv:s.g.val x.a=some v)(hn:s.g.num x.b=some n)(hc:n<0∨15<n):s.ins m x= .halt 3:=by rw [l7 h8,Qg hv,Qg hn,if_pos hc]
theorem qT (h8:x.op=8)(hv:s.g.val x.a=some v)(hn:s.g.num x.b=some n)(hc:¬(n<0∨15<n)):s.ins m x=s.made (s.h.arrC v n) (s.h.arr v n) (s.h.arrV v n):=by rw [l7 h8,Qg hv,Qg hn,if_neg hc]
theorem qU (h9:x.op=9)(hv:s.g.val x.a=some v)(hn:s.g.num x.b=none):s.ins m x= .lost:=by rw [qt h9,Qg hv,OV hn]
theorem jS (h9:x.op=9)(hv:s.g.val x.a=some v)(hn:s.g.num x.b=some n):s.ins m x=Nf v (s.h.get v n).2 (.go (s.put [(s.h.get v n).1])):=by rw [qt h9,Qg hv,Qg hn]
theorem jT (h10:x.op=10)(hv:s.g.val x.a=some v)(hn:s.g.num x.b=none∨s.g.num x.c=none):s.ins m x= .lost:=by
 rw [qu h10,Qg hv]
 cases hb:s.g.num x.b with
 | none=>rfl
 | some n=>rw [Qg rfl,OV (hn.resolve_left (by rw [hb];exact fun h=>by cases h))]
theorem aR {c:Int}(h10:x.op=10)(hv:s.g.val x.a=some v)(hn:s.g.num x.b=some n)(hc:s.g.num x.c=some c):s.ins m x=Nf v (s.h.setC v n (Ku c)) (.go (s.hp (s.h.set v n (Ku c)))):=by rw [qu h10,Qg hv,Qg hn,Qg hc]
theorem jU (h11:x.op=11)(hv:s.g.val x.a=some v):s.ins m x=Nf v (s.h.len v).2 (.go (s.put [Ku (s.h.len v).1])):=by rw [wy h11,Qg hv]
end
end Go.Lir
namespace Go.Proofs.YteflkifmgnpbhaaGreat
open Go.Lir
attribute [local irreducible] LC.wp Q0 Qh Qd Kq Qz LO.wp Q5 Calls
section
variable {cx:Cx}{w:World}{L:List Res}{p N:Nat}{z:GZ}{fr:List FrmV}{g:FrmV}{h:HpS}{out inp:List Int}{fu:Nat}
@[reducible] def GZ.upd (z:GZ)(fv iv ov:Value):GZ:=⟨z.fn,fv,iv,z.e,z.bv,ov,z.fu,z.mo,z.dn,z.c,z.a⟩
@[reducible] def GZ.bk (z:GZ)(bv:Value):GZ:=⟨z.fn,z.fv,z.iv,z.e,bv,z.ov,z.fu,z.mo,z.dn,z.c,z.a⟩
def GQ (p:Nat)(z:GZ)(N fu:Nat)(h:HpS)(out:List Int)(X:Stp)(cx:Cx)(L:List Res)(u:Value)(w':World):Prop:=
 (∃fv iv ov fr' g' N' h' inp' out',X= .go (J6 h' g' fr' inp' out' fu)∧JY.sl cx iv inp'∧N'≤N+1∧u= .int .i64 0∧St cx w' (gX p (z.upd fv iv ov) fr' g' N' h' out' L))
 ∨(∃e fr' g' N',X= .halt e∧N'≤N+1∧u= .int .i64 1∧St cx w' (gX p (z.end e) fr' g' N' h out L))
 ∨(∃l bv fr' g' N',X= .done l∧N'≤N+1∧l.length≤100000∧u= .int .i64 1∧St cx w' (gX p ((z.bk bv).end 0) fr' g' N' h out (sl 2 1 bv (Qq l)::L)))
 ∨(X= .lost∧u= .int .i64 2∧∃lv left,St cx w' (L5 z p lv left::L))
theorem ZB (hS:St cx w (gX p z fr g N h out L)):∃lv left,St cx w (L5 z p lv left::L):=by
 obtain ⟨lv,rv,ho,hS⟩:=O1 hS;exact ⟨lv,_,hS.sp⟩
theorem GQ.lost (hX:X= .lost)(hS:St cx w (gX p z fr g N2 h2 out2 L'))(hsub:∀lv left,St cx w (L5 z p lv left::L')→St cx w (L5 z p lv left::L)):GQ p z N fu h out X cx L (.int .i64 2) w:=by
 obtain ⟨lv,left,hS⟩:=ZB hS;exact .inr (.inr (.inr ⟨hX,rfl,lv,left,hsub _ _ hS⟩))
abbrev Gj:=@GQ.lost
theorem WE (hf:fr.length≤1000)(hn:g.vals.length≤900000)(hS:St cx w (gX p z fr g N h out L)):JW Tryz.prog QdZ [.pointer (some ⟨p,0,none⟩),v.v, .int .i64 e] w fun u w'=>
 (e=0∧u= .int .i64 0∧∃tv,St cx w' (gX p z fr (g.push tv [v]) N h out L))∨(e=14∧u= .int .i64 1∧St cx w' (gX p (z.end 6) fr g N h out L))∨(e≠0∧e≠14∧u= .int .i64 2∧St cx w' (gX p z fr g N h out L)):=by
 (unfold Val.v Val.cells;refine Kd Kc Tryz.func187 ?_;refine' KO;intro p4 w1 hS;refine' PO;first|(refine' Ql)|(refine' Qn)|(refine' Ac<;>intro hc));all_goals (refine' zn)
 all_goals
  first
  | (refine' JZ;refine' KH;have hS:St cx _ (gX p z fr g N h out L):=hS.sp;refine' J9 (c:=Ov 6 hS);rintro v1 w1 ⟨rfl,hS⟩;refine' KN;(first|exact Bz|exact ⟨_,rfl, .inr (.inl ⟨Jo,rfl,hS⟩)⟩))
  | (refine' J0;refine' J5)
 (refine' MN;first|(refine' Qy)|(refine' QD)|(refine' Ad<;>intro hc));all_goals (refine' zn)
 all_goals
  first
  | (refine' JZ;refine' Kw;(first|exact Bz|exact ⟨_,rfl, .inr (.inl ⟨Jo,rfl,hS⟩)⟩|exact ⟨_,rfl, .inr (.inr ⟨Jo,Jo,rfl,hS.sp⟩)⟩))
  | (refine' J0;refine' J5)
 refine' Yb;refine KY hS [_,_,_,_] ?_;intro b1 w1 hS;have hS:=Gp (T:=182) (es:=4) (css:=[v].map Val.cells) hS rfl (by simp [Val.cells]) rfl;have hS:St cx _ (sl 182 4 (.slice (some ⟨b1,0,none⟩) 1 1) ([v].map Val.cells)::gX p z fr g N h out L):=hS.sp;refine' J9 (c:=Nl (vs:=[v]) hf Dj hS);rintro v1 w1 ⟨rfl,tv,hS⟩;refine' KN;(exact Bz)
theorem l8 (hS:St cx w (gX p z fr g N h out L)):JW Tryz.prog Qbm [.pointer (some ⟨p,0,none⟩),v.v, .int .i64 e] w fun u w'=>
 (v.kind=4∧e=0∧u= .int .i64 0∧St cx w' (gX p z fr g N h out L))∨(v.kind=4∧e=1∧u= .int .i64 1∧St cx w' (gX p (z.end 2) fr g N h out L))∨((v.kind=4→e≠1∧e≠0)∧u= .int .i64 2∧St cx w' (gX p z fr g N h out L)):=by
 (unfold Val.v Val.cells;refine Kd Kc Tryz.func192 ?_;refine' KO;intro p4 w1 hS;refine' Sj;first|(refine' Qy)|(refine' QD)|(refine' Ad<;>intro hc));all_goals (refine' zn)
 all_goals
  first
  | (refine' JZ;refine' Kw;(exact Av))
  | (refine' J0;refine' J5)
 (refine' MN;first|(refine' Ql)|(refine' Qn)|(refine' Ac<;>intro hc));all_goals (refine' zn)
 all_goals
  first
  | (refine' JZ;refine' KH;have hS:St cx _ (gX p z fr g N h out L):=hS.sp;refine' J9 (c:=Ov 2 hS);rintro v1 w1 ⟨rfl,hS⟩;refine' KN;(exact ⟨_,rfl, .inr (.inl ⟨Jo,Jo,rfl,hS⟩)⟩))
  | (refine' J0;refine' J5)
 (refine' MN;first|(refine' Qy)|(refine' QD)|(refine' Ad<;>intro hc));all_goals (refine' zn)
 all_goals
  first
  | (refine' JZ;refine' Kw;(exact Av))
  | (refine' J0;refine' J5)
 refine' Kw;((first|exact ⟨_,rfl, .inr (.inl ⟨Jo,Jo,rfl,hS⟩)⟩|exact ⟨_,rfl, .inl ⟨Jo,Jo,rfl,hS.sp⟩⟩))
end
section
variable {cx:Cx}{w:World}{L:List Res}{p N:Nat}{z:GZ}{fr:List FrmV}{g:FrmV}{h:HpS}{out inp:List Int}{fu:Nat}{m:Module}
@[reducible] def M9 (b:Nat)(x:Ins)(vr va:Value):Res:=blk b 84 [.int .i64 x.op, .int .i64 x.a, .int .i64 x.b, .int .i64 x.c, .int .i64 x.k, .int .i64 x.n,vr,va]
@[reducible] def OE (sv:Value)(v:Val):Res:=sl 182 4 sv ([v].map Val.cells)
theorem GQ.go {h':HpS}{out':List Int}(hX:X= .go (J6 h' g' fr' inp out' fu))(hi:JY.sl cx z.iv inp)(hN:N'≤N+1)(hu:u= .int .i64 0)(hS:St cx w (gX p z fr' g' N' h' out' L)):GQ p z N fu h out X cx L u w:=
 .inl ⟨z.fv,z.iv,z.ov,fr',g',N',h',inp,out',hX,hi,hN,hu,hS⟩
abbrev GD:=@GQ.go
theorem GQ.halt (hX:X= .halt e)(hN:N'≤N+1)(hu:u= .int .i64 1)(hS:St cx w (gX p (z.end e) fr' g' N' h out L)):GQ p z N fu h out X cx L u w:=
 .inr (.inl ⟨e,fr',g',N',hX,hN,hu,hS⟩)
abbrev Hy:=@GQ.halt
attribute [local irreducible] Frm.val Frm.num Frm.args Frm.rgs Frm.reg Kr MS.ins MS.call HpS.get HpS.set HpS.setC HpS.len HpS.code HpS.put HpS.putV HpS.open HpS.shut HpS.full HpS.openV HpS.can HpS.tuple HpS.arr HpS.arrC HpS.arrV Lv LB
theorem et (hx:Ky.at cx cs x)(hi:JY.sl cx z.iv inp)(hop:4≤x.op∧x.op≤11)(h8:x.args.length≤100)(hf:fr.length≤900)(hn:g.vals.length≤800000)(hN:N≤99999)(hS:St cx w (gX p z fr g N h out L)):
 JW Tryz.prog Q9H [.pointer (some ⟨p,0,none⟩), .agg ⟨cs⟩] w (GQ p z N fu h out ((J6 h g fr inp out fu).ins m x) cx L):=by
 obtain ⟨vr,va,rfl,hr,ha⟩:=Nh hx;have hil:=hi.len;have hXl:=Qgk (m:=m) (s:=J6 h g fr inp out fu) (x:=x) hop.1 hop.2;refine Kd Kc Tryz.func126 ?_;refine' KO;intro p3 w1 hS;refine' LZ;refine' KK;refine KY hS [_] ?_;intro b1 w1 hS;have hS:St cx _ (sl 3 1 (.slice (some ⟨b1,0,none⟩) 1 1) (Qq [x.a])::gX p z fr g N h out (M9 p3 x vr va::L)):=Et;refine' J9 (c:=jP Jo hS);rintro v1 w1 (⟨v0,sv,hv,ho1,rfl,hS⟩|⟨hv,rfl,hS⟩);all_goals (refine' W3)
 all_goals
  first
  | (refine' JZ;refine' Kw;(exact AR))
  | (refine' J0;refine' J5)
 (refine' MP;refine' Si;refine' Ki;first|(refine' Ql)|(refine' Qn)|(refine' Ac<;>intro hc));all_goals (refine' Kg)
 all_goals
  first
  | (refine' JZ
     refine' Mt;refine zD (ci 8 [6,7]) ?_;have hS:=hS.drew;refine' zm;refine' Mm;refine' zm;refine QJ hS vw rfl fd Js Js ?_;intro b2 o2 hel2;refine NK hS hel2 rfl fd rfl rfl ?_;refine' J9 (c:=Wy v0 hS fd);rintro v1 w1 ⟨rfl,hS⟩;have hS:=hS.ns;cases hcan:h.can v0;all_goals (refine' Oh)
     all_goals
      first
      | (refine' JZ;refine Qu ?_;have hX:=(qo (m:=m) (s:=J6 h g fr inp out fu) (x:=x) Jo).trans ((Qg hv).trans (if_pos hcan));refine' Oz;(exact Ah))
      | (refine' J0;refine' J5)
     refine Qu ?_;have hX:=(qo (m:=m) (s:=J6 h g fr inp out fu) (x:=x) Jo).trans ((Qg hv).trans (if_neg (show¬h.can v0=false by rw [hcan];decide)));refine' Oz;(first|exact AR|exact AT|exact AW|exact AV|exact AU))
  | (refine' J0
     (refine' Ki;first|(refine' Ql)|(refine' Qn)|(refine' Ac<;>intro hc));all_goals (refine' Kg)
     all_goals
      first
      | (refine' JZ
         refine' NA;refine' J9 (c:=jO Jo Jo ha (show St cx _ (gX p z fr g N h out _) from hS));rintro v1 w1 (⟨vs,sw,hvs,hvl,ho2,rfl,hS⟩|⟨hvs,rfl,hS⟩);all_goals (refine' W3)
         all_goals
          first
          | (refine' JZ;refine Qu ?_;have hX:=(qp (m:=m) (s:=J6 h g fr inp out fu) (x:=x) Jo).trans ((Qg hv).trans (OV hvs));refine' Oz;(exact Ah))
          | (refine' J0;refine' J5)
         (refine Qu ?_;refine zC [(0,none),(1,none),(2,none),(3,none),(4,none),(5,none),(6,none),(7,none),(8,some (some [])),(9,none),(10,none),(11,some none),(12,some none)] ?_;have hS:=hS.drew;refine' Nz;refine' NM;refine' ag;refine' NM;refine QJ hS vw rfl fd Js Js ?_;intro b2 o2 hel2;refine' KA;refine NK hS hel2 rfl fd rfl rfl ?_;refine' KA;refine' zm;refine' Lu;refine' K5 (c:=Qhf (N:=N) (s:=h) (j:=6) v0 sw vs Jo Jo hS fd rfl);rintro v1 w1 ⟨rfl,hS⟩;have hS:=hS.ns;refine' MB;refine' Uh;refine' W4;refine' LM;refine' K5 (c:=WE (v:=h.putV v0 3 (LB vs)) Jo Jo (show St cx _ (gX p z fr g (N+1) (h.tuple v0 vs) out _) from hS));have hX:=(qp (m:=m) (s:=J6 h g fr inp out fu) (x:=x) Jo).trans ((Qg hv).trans (Qg hvs));rintro v1 w1 (⟨he,rfl,tv,hS⟩|⟨he,rfl,hS⟩|⟨he,he2,rfl,hS⟩);all_goals (refine' W5;refine' PY));all_goals (first|(first|exact AR|exact AT|exact AW|exact AV|exact AU|exact AY|exact A6|exact A8|exact Ba|exact Bc|exact Bi|exact Bw|exact Bu|exact Bo)|(have hS:=hS;rw [qx DB] at hS;exact Bg)))
      | (refine' J0
         (refine' Ki;first|(refine' Ql)|(refine' Qn)|(refine' Ac<;>intro hc));all_goals (refine' Kg)
         all_goals
          first
          | (refine' JZ
             refine' NA;refine KY hS [_] ?_;intro b1 w1 hS;have hS:St cx _ (sl 3 1 (.slice (some ⟨b1,0,none⟩) 1 1) (Qq [x.b])::gX p z fr g N h out (OE sv v0::M9 p3 x vr va::L)):=DY;refine' J9 (c:=ZA Jo hS);rintro v1 w1 (⟨n0,sn,hn0,ho2,rfl,hS⟩|⟨hn0,sn,rfl,hS⟩);all_goals (refine' W3)
             all_goals
              first
              | (refine' JZ;refine Qu ?_;have hX:=qR (m:=m) (s:=J6 h g fr inp out fu) (x:=x) Jo hv hn0;refine' Oz;(exact Ah))
              | (refine' J0;refine' J5)
             ((refine' MN;refine QJ hS vw rfl fd Js Js ?_;intro b2 o2 hel2;refine QY hS hel2 rfl fd rfl rfl rfl ?_;first|(refine' K0)|(refine' K1)|(refine' Ae<;>intro hc));all_goals (refine' Ll;(first|(refine' J1)|(refine' J4;refine QJ hS vw rfl fd Js Js ?_;intro b3 o3 hel3));(first|(refine' J1)|(refine' J4;refine QY hS hel3 rfl fd rfl rfl rfl ?_));first|refine' J1|(refine' J4;(first|(refine' QV)|(refine' KM)|(refine' Af<;>intro hc)))));all_goals (refine' KU)
             all_goals
              first
              | (refine' JZ;all_goals (refine' KH;refine' J9 (c:=Ov 3 (show St cx _ (gX p z fr g N h out _) from hS));rintro v1 w1 ⟨rfl,hS⟩;have hX:=qS (m:=m) (s:=J6 h g fr inp out fu) (x:=x) Jo hv hn0 Jo;refine' KN);all_goals ((first|exact AR|exact AT|exact AW|exact AV|exact AU|exact AY|exact A6|exact A8|exact Ba|exact Bc|exact Bi|exact Bw|exact Bu)))
              | (refine' J0;refine' J5)
             (refine Qu ?_;refine zC [(0,none),(1,none),(2,none),(3,none),(4,none),(5,none),(6,none),(7,none),(8,none),(9,none),(10,some (some [])),(11,none),(12,none),(13,some none),(14,some none)] ?_;have hS:=hS.drew;refine' Nz;refine' NM;refine' ag;refine' NM;refine QJ hS vw rfl fd Js Js ?_;intro b4 o4 hel4;refine' KA;refine NK hS hel4 rfl fd rfl rfl ?_;refine' Mb;refine QJ hS vw rfl fd Js Js ?_;intro b5 o5 hel5;refine' KA;refine QY hS hel5 rfl fd rfl rfl rfl ?_;refine' Lu;refine' K5 (c:=Qhj (N:=N) (s:=h) v0 n0 Jo hS fd);rintro v1 w1 ⟨rfl,hS⟩;have hS:=hS.ns;refine' MB;refine' Uh;refine' W4;refine' LM;refine' K5 (c:=WE (v:=h.arrV v0 n0) Jo Jo (show St cx _ (gX p z fr g (N+1) (h.arr v0 n0) out _) from hS));have hX:=qT (m:=m) (s:=J6 h g fr inp out fu) (x:=x) Jo hv hn0 Jo;rintro v1 w1 (⟨he,rfl,tv,hS⟩|⟨he,rfl,hS⟩|⟨he,he2,rfl,hS⟩);all_goals (refine' W5;refine' PY));all_goals (first|(first|exact AR|exact AT|exact AW|exact AV|exact AU|exact AY|exact A6|exact A8|exact Ba|exact Bc|exact Bi|exact Bw|exact Bu|exact Bo)|(have hS:=hS;rw [qx DB] at hS;exact Bg)|(rw [Wi DB] at hS;exact Bg)))
          | (refine' J0
             (refine' Ki;first|(refine' Ql)|(refine' Qn)|(refine' Ac<;>intro hc));all_goals (refine' Kg)
             all_goals
              first
              | (refine' JZ
                 refine Qu ?_;refine P5 8 12 Jk ?_ ?_
                 · skip
                   ((refine zC [(0,none),(1,none),(2,none),(3,none),(4,none),(5,none),(6,none),(7,none),(8,some none),(9,none),(10,none),(11,none),(12,some (some [])),(13,some (some [])),(14,some none)] ?_;have hS:=hS.drew;refine' SP;refine' NM;refine QJ hS vw rfl fd Js Js ?_;intro b2 o2 hel2;refine' KA;refine NK hS hel2 rfl fd rfl rfl ?_;refine' N0;refine' LM;refine' K5 (c:=l6 v0 x.k hS fd);rintro v1 w1 ⟨rfl,hS⟩;refine' Mb;refine' Uh;refine' W4;refine' Pu;intro p11 w1 hS;refine' zt;refine ⟨fun _ h=>(EY h).elim,?_⟩;refine' Sa;refine SF hS rfl rfl Jr fd Js (Xe _) Jr ?_;intro w1 hS;have hS:=hS.ns;refine' M4;refine' cr;refine' Mt;have hS:St cx _ (gX p z fr g N h out (OE sv v0::blk p11 182 (h.get v0 x.k).1.cells::M9 p3 x vr va::L)):=hS.sp;refine' LF;refine QJ hS vw rfl fd Js Js ?_;intro b3 o3 hel3;refine' MH;refine Q2 hS hel3 rfl fd rfl rfl rfl ?_;first|(refine' Qy)|(refine' QD)|(refine' Ad<;>intro hc));all_goals (refine' Ll;first|refine' J1|(refine' J4;(first|(refine' Qy)|(refine' QD)|(refine' Ad<;>intro hc)))));all_goals (refine' KU)
                   all_goals
                    first
                    | (refine' JZ;all_goals (refine Qu ?_;have hX:=wT (m:=m) (s:=J6 h g fr inp out fu) (x:=x) Jo hv EF;refine' Oz);all_goals ((exact Ah)))
                    | (refine' J0;refine' J5)
                   refine Qu ?_;have hX:=aQ (m:=m) (s:=J6 h g fr inp out fu) (x:=x) Jo hv Jo (show (h.get v0 x.k).2=0 by omega);refine' PU;refine KY hS [_,_,_,_] ?_;intro b1 w1 hS;have hS:St cx _ (OE (.slice (some ⟨b1,0,none⟩) 1 1) (h.get v0 x.k).1::gX p z fr g N h out L):=Ek;refine' J9 (c:=Nl (vs:=[(h.get v0 x.k).1]) Jo Dj hS);rintro v1 w1 ⟨rfl,tv,hS⟩;refine' KN;((exact Aw))
                 · skip
                   ((refine zC [(0,none),(1,none),(2,none),(3,none),(4,none),(5,none),(6,none),(7,none),(12,some (some [5,7])),(8,some none),(9,none),(10,none),(11,none),(13,some (some [])),(14,some none)] ?_;have hS:=hS.drew;refine' SP;refine' NM;refine QJ hS vw rfl fd Js Js ?_;intro b2 o2 hel2;refine' KA;refine NK hS hel2 rfl fd rfl rfl ?_;refine' N0;refine' Pu;intro p11 w1 hS;refine' zt;refine ⟨EO.2 ⟨(by (exact jQ hS hel2 rfl fd rfl rfl)),EO.2 ⟨(by first|(exact jQ hS hel2 rfl fd rfl rfl)|(exact Az)),fun _ h=>(EY h).elim⟩⟩,?_⟩;refine' Lx;refine' K5 (c:=l6 v0 x.k hS fd);rintro v1 w1 ⟨rfl,hS⟩;refine' Mb;refine' Uh;refine' W4;refine' Lu;refine SF hS rfl rfl Jr fd Js (Xe _) Jr ?_;intro w1 hS;have hS:=hS.ns;refine' M4;refine' cr;refine' Mt;have hS:St cx _ (gX p z fr g N h out (OE sv v0::blk p11 182 (h.get v0 x.k).1.cells::M9 p3 x vr va::L)):=hS.sp;refine' LF;refine QJ hS vw rfl fd Js Js ?_;intro b3 o3 hel3;refine' MH;refine Q2 hS hel3 rfl fd rfl rfl rfl ?_;first|(refine' Qy)|(refine' QD)|(refine' Ad<;>intro hc));all_goals (refine' Ll;first|refine' J1|(refine' J4;(first|(refine' Qy)|(refine' QD)|(refine' Ad<;>intro hc)))));all_goals (refine' KU)
                   all_goals
                    first
                    | (refine' JZ;all_goals (refine Qu ?_;have hX:=wT (m:=m) (s:=J6 h g fr inp out fu) (x:=x) Jo hv EF;refine' Oz);all_goals ((exact Ah)))
                    | (refine' J0;refine' J5)
                   refine Qu ?_;have hX:=aQ (m:=m) (s:=J6 h g fr inp out fu) (x:=x) Jo hv Jo (show (h.get v0 x.k).2=0 by omega);refine' PU;refine KY hS [_,_,_,_] ?_;intro b1 w1 hS;have hS:St cx _ (OE (.slice (some ⟨b1,0,none⟩) 1 1) (h.get v0 x.k).1::gX p z fr g N h out L):=Ek;refine' J9 (c:=Nl (vs:=[(h.get v0 x.k).1]) Jo Dj hS);rintro v1 w1 ⟨rfl,tv,hS⟩;refine' KN;(exact Aw))
              | (refine' J0
                 (refine' Ki;first|(refine' Ql)|(refine' Qn)|(refine' Ac<;>intro hc));all_goals (refine' Kg)
                 all_goals
                  first
                  | (refine' JZ
                     ((refine' NA;refine KY hS [_] ?_;intro b1 w1 hS;have hS:St cx _ (sl 3 1 (.slice (some ⟨b1,0,none⟩) 1 1) (Qq [x.b])::gX p z fr g N h out (OE sv v0::M9 p3 x vr va::L)):=DY;refine' J9 (c:=jP Jo hS);rintro v1 w1 (⟨y0,sn,hn0,ho2,rfl,hS⟩|⟨hn0,rfl,hS⟩);all_goals (refine' Uj;refine' SO;refine zD (ci 24 [21,23]) ?_;have hS:=hS.drew;refine' zm;refine' PK;refine' Ll;(first|(refine' J1)|(refine' J4;refine QJ hS vw rfl fd Js Js ?_;intro b3 o3 hel3));refine' Nt;(first|(refine' J1)|(refine' J4;refine Q2 hS hel3 rfl fd rfl rfl rfl ?_));first|refine' J1|(refine' J4;(first|(refine' Qy)|(refine' QD)|(refine' Ad<;>intro hc)))));all_goals (refine' Pw;refine' Rb;refine' Ny;refine' Mi;(first|(refine' J1)|(refine' J4;refine QJ hS vw rfl fd Js Js ?_;intro b4 o4 hel4));(first|(refine' J1)|(refine' J4;refine NK hS hel4 rfl fd rfl rfl ?_));refine' MO;refine' Mi;(first|(refine' J1)|(refine' J4;refine QJ hS vw rfl fd Js Js ?_;intro b5 o5 hel5));(first|(refine' J1)|(refine' J4;refine NK hS hel5 rfl fd rfl rfl ?_));(first|(refine' J1)|(refine' J4;refine' Nb (c:=wQ v0 x.k y0 hS fd);rintro v1 w1 ⟨rfl,hS⟩;have hS:=hS.ns));first|refine' J1|(refine' J4;(first|(refine' Qy)|(refine' QD)|(refine' Ad<;>intro hc)))));all_goals (refine' KU)
                     all_goals
                      first
                      | (refine' JZ;all_goals (refine Qu ?_;have hX:MS.ins m (J6 h g fr inp out fu) x= .lost:=(by first|exact wU Jo hv (.inl hn0)|exact wU Jo hv (.inr Jo)|exact WD Jo hv hn0 (.inr (show h.setC v0 x.k y0≠0 by omega)));refine' Oz);all_goals ((exact Ah)))
                      | (refine' J0;refine' J5)
                     refine Qu ?_;have hX:=jR (m:=m) (s:=J6 h g fr inp out fu) (x:=x) Jo hv hn0 Jo (show h.setC v0 x.k y0=0 by omega);refine' Oz;(first|exact AR|exact AT|exact AW|exact AV|exact AU|exact AY))
                  | (refine' J0
                     (refine' Ki;first|(refine' Ql)|(refine' Qn)|(refine' Ac<;>intro hc));all_goals (refine' Kg)
                     all_goals
                      first
                      | (refine' JZ
                         refine' NA;refine KY hS [_] ?_;intro b1 w1 hS;have hS:St cx _ (sl 3 1 (.slice (some ⟨b1,0,none⟩) 1 1) (Qq [x.b])::gX p z fr g N h out (OE sv v0::M9 p3 x vr va::L)):=DY;refine' J9 (c:=ZA Jo hS);rintro v1 w1 (⟨n0,sn,hn0,ho2,rfl,hS⟩|⟨hn0,sn,rfl,hS⟩);all_goals (refine' W3)
                         all_goals
                          first
                          | (refine' JZ;refine Qu ?_;have hX:=qU (m:=m) (s:=J6 h g fr inp out fu) (x:=x) Jo hv hn0;refine' Oz;(exact Ah))
                          | (refine' J0;refine' J5)
                         refine Qu ?_;refine P5 9 13 Jk ?_ ?_
                         · skip
                           refine zC [(0,none),(1,none),(2,none),(3,none),(4,none),(5,none),(6,none),(7,none),(8,none),(9,some none),(10,none),(11,none),(12,none),(13,some (some [])),(14,some (some [])),(15,some none)] ?_;have hS:=hS.drew;refine' SP;refine' NM;refine QJ hS vw rfl fd Js Js ?_;intro b3 o3 hel3;refine' KA;refine NK hS hel3 rfl fd rfl rfl ?_;refine' Mb;refine QJ hS vw rfl fd Js Js ?_;intro b4 o4 hel4;refine' KA;refine QY hS hel4 rfl fd rfl rfl rfl ?_;refine' LM;refine' K5 (c:=l6 v0 n0 hS fd);rintro v1 w1 ⟨rfl,hS⟩;refine' Mb;refine' Uh;refine' W4;refine' Pu;intro p17 w1 hS;refine' zt;refine ⟨fun _ h=>(EY h).elim,?_⟩;refine' Sa;refine SF hS rfl rfl Jr fd Js (Xe _) Jr ?_;intro w1 hS;have hS:=hS.ns;refine' M4;refine' cr;refine' Mt;have hS:St cx _ (gX p z fr g N h out (OE sv v0::blk p17 182 (h.get v0 n0).1.cells::M9 p3 x vr va::L)):=hS.sp;have hX:=jS (m:=m) (s:=J6 h g fr inp out fu) (x:=x) Jo hv hn0;refine' Oj;refine QJ hS vw rfl fd Js Js ?_;intro b5 o5 hel5;refine NK hS hel5 rfl fd rfl rfl ?_;refine' zm;refine' K5 (c:=l8 (v:=v0) (e:=(h.get v0 n0).2) (show St cx _ (gX p z fr g N h out _) from hS));rintro v1 w1 (⟨hk4,he,rfl,hS⟩|⟨hk4,he,rfl,hS⟩|⟨he,rfl,hS⟩);all_goals (refine' LZ;refine' WY;refine' zn)
                           all_goals
                            first
                            | (refine' JZ;all_goals (refine' O9);all_goals ((exact Al)))
                            | (refine' J0;refine' J5)
                           refine' Yb;refine KY hS [_,_,_,_] ?_;intro b1 w1 hS;have hS:St cx _ (OE (.slice (some ⟨b1,0,none⟩) 1 1) (h.get v0 n0).1::gX p z fr g N h out L):=Ef;refine' J9 (c:=Nl (vs:=[(h.get v0 n0).1]) Jo Dj hS);rintro v1 w1 ⟨rfl,tv,hS⟩;refine' KN;((exact Ax))
                         · skip
                           refine zC [(0,none),(1,none),(2,none),(3,none),(4,none),(5,none),(6,none),(7,none),(8,none),(13,some (some [5,8])),(9,some none),(10,none),(11,none),(12,none),(14,some (some [])),(15,some none)] ?_;have hS:=hS.drew;refine' SP;refine' NM;refine QJ hS vw rfl fd Js Js ?_;intro b3 o3 hel3;refine' KA;refine NK hS hel3 rfl fd rfl rfl ?_;refine' Mb;refine QJ hS vw rfl fd Js Js ?_;intro b4 o4 hel4;refine' KA;refine QY hS hel4 rfl fd rfl rfl rfl ?_;refine' Pu;intro p17 w1 hS;refine' zt;refine ⟨EO.2 ⟨(by (exact jQ hS hel3 rfl fd rfl rfl)),EO.2 ⟨(by first|(exact jQ hS hel3 rfl fd rfl rfl)|(exact QX (j:=0) hS hel4 rfl fd rfl rfl rfl)),fun _ h=>(EY h).elim⟩⟩,?_⟩;refine' Lx;refine' K5 (c:=l6 v0 n0 hS fd);rintro v1 w1 ⟨rfl,hS⟩;refine' Mb;refine' Uh;refine' W4;refine' Lu;refine SF hS rfl rfl Jr fd Js (Xe _) Jr ?_;intro w1 hS;have hS:=hS.ns;refine' M4;refine' cr;refine' Mt;have hS:St cx _ (gX p z fr g N h out (OE sv v0::blk p17 182 (h.get v0 n0).1.cells::M9 p3 x vr va::L)):=hS.sp;have hX:=jS (m:=m) (s:=J6 h g fr inp out fu) (x:=x) Jo hv hn0;refine' Oj;refine QJ hS vw rfl fd Js Js ?_;intro b5 o5 hel5;refine NK hS hel5 rfl fd rfl rfl ?_;refine' zm;refine' K5 (c:=l8 (v:=v0) (e:=(h.get v0 n0).2) (show St cx _ (gX p z fr g N h out _) from hS));rintro v1 w1 (⟨hk4,he,rfl,hS⟩|⟨hk4,he,rfl,hS⟩|⟨he,rfl,hS⟩);all_goals (refine' LZ;refine' WY;refine' zn)
                           all_goals
                            first
                            | (refine' JZ;all_goals (refine' O9);all_goals ((exact Al)))
                            | (refine' J0;refine' J5)
                           refine' Yb;refine KY hS [_,_,_,_] ?_;intro b1 w1 hS;have hS:St cx _ (OE (.slice (some ⟨b1,0,none⟩) 1 1) (h.get v0 n0).1::gX p z fr g N h out L):=Ef;refine' J9 (c:=Nl (vs:=[(h.get v0 n0).1]) Jo Dj hS);rintro v1 w1 ⟨rfl,tv,hS⟩;refine' KN;(exact Ax))
                      | (refine' J0
                         (refine' Ki;first|(refine' Ql)|(refine' Qn)|(refine' Ac<;>intro hc));all_goals (refine' Kg)
                         all_goals
                          first
                          | (refine' JZ
                             (refine' NA;refine' KK;refine nO hS [_,_] ?_;intro b1 w1 hS;have hS:St cx _ (sl 3 1 (.slice (some ⟨b1,0,none⟩) 2 2) (Qq [x.b,x.c])::gX p z fr g N h out (OE sv v0::M9 p3 x vr va::L)):=(by have hS:=Gp (T:=3) (es:=1) (css:=Qq [x.b,x.c]) hS rfl (by simp [Qq]) rfl;exact AA);refine' J9 (c:=aP Jo hS);rintro v1 w1 (⟨n0,c0,sn,hn0,hc0,ho2,rfl,hS⟩|⟨hn0,sn,rfl,hS⟩);all_goals (refine' Uj;refine' PO;refine' PK;refine' Ll;(first|(refine' J1)|(refine' J4;refine QJ hS vw rfl fd Js Js ?_;intro b3 o3 hel3));refine' Nt;(first|(refine' J1)|(refine' J4;refine Q2 hS hel3 rfl fd rfl rfl rfl ?_));first|refine' J1|(refine' J4;(first|(refine' Qy)|(refine' QD)|(refine' Ad<;>intro hc)))));all_goals (refine' KU)
                             all_goals
                              first
                              | (refine' JZ;all_goals (refine Qu ?_;have hX:MS.ins m (J6 h g fr inp out fu) x= .lost:=(by first|exact jT Jo hv hn0|exact (aR Jo hv hn0 hc0).trans (dR Jo));refine' Oz);all_goals ((exact Ah)))
                              | (refine' J0;refine' J5)
                             (refine Qu ?_;refine zC [(0,none),(1,none),(2,none),(3,none),(4,none),(5,none),(6,none),(7,none),(8,none),(9,none),(10,none),(11,none),(12,none),(13,none),(14,none),(15,none),(16,none),(17,some (some [3])),(18,some none),(19,some none)] ?_;have hS:=hS.drew;refine' Nz;refine' NM;refine QJ hS vw rfl fd Js Js ?_;intro b4 o4 hel4;refine' KA;refine NK hS hel4 rfl fd rfl rfl ?_;refine' Mb;refine' ag;refine' NM;refine QJ hS vw rfl fd Js Js ?_;intro b5 o5 hel5;refine' KA;refine NK hS hel5 rfl fd rfl rfl ?_;refine' Mb;refine QJ hS vw rfl fd Js Js ?_;intro b6 o6 hel6;refine' KA;refine QY hS hel6 rfl fd rfl rfl rfl ?_;refine' Mb;refine QJ hS vw rfl fd Js Js ?_;intro b7 o7 hel7;refine' KA;refine QY hS hel7 rfl fd rfl rfl rfl ?_;refine' KA;refine Na [_,_,_,_] ?_;refine' Lu;refine' Nb (c:=wQ v0 n0 (Ku c0) hS fd);rintro v1 w1 ⟨rfl,hS⟩;have hS:=hS.ns;refine' zt;refine ⟨EO.2 ⟨(by (exact jQ hS hel4 rfl fd rfl rfl)),fun _ h=>(EY h).elim⟩,?_⟩;refine' Lx;refine' K5 (c:=l8 (v:=v0) (e:=h.setC v0 n0 (Ku c0)) (show St cx _ (gX p z fr g N (h.set v0 n0 (Ku c0)) out _) from hS));have hX:=aR (m:=m) (s:=J6 h g fr inp out fu) (x:=x) Jo hv hn0 hc0;rintro v1 w1 (⟨hk4,he,rfl,hS⟩|⟨hk4,he,rfl,hS⟩|⟨he,rfl,hS⟩);all_goals (refine' W5;refine' PY));all_goals (first|(first|exact AR|exact AT|exact AW|exact AV|exact AU|exact AY|exact A6|exact A8|exact Ba|exact Bc|exact Bi|exact Bw|exact Bu|exact Bo)|(have hS:=hS;rw [qx DB] at hS;exact Bg)|(rw [Wi DB] at hS;exact Bg)|(rw [dK DB] at hS;exact Bo)))
                          | (refine' J0;refine' J5)
                         refine Qu ?_;refine zD (ci 12 [6,11]) ?_;have hS:=hS.drew;refine' zm;refine' Mm;refine' zm;refine QJ hS vw rfl fd Js Js ?_;intro b3 o3 hel3;refine NK hS hel3 rfl fd rfl rfl ?_;refine' J9 (c:=Zv v0 hS fd);rintro v1 w1 ⟨rfl,hS⟩;refine' Uj;refine' PO;refine' zm;refine QJ hS vw rfl fd Js Js ?_;intro b5 o5 hel5;refine NK hS hel5 rfl fd rfl rfl ?_;refine' zm;refine' K5 (c:=l8 (v:=v0) (e:=(h.len v0).2) (show St cx _ (gX p z fr g N h out _) from hS));have hX:=jU (m:=m) (s:=J6 h g fr inp out fu) (x:=x) Jo hv;rintro v1 w1 (⟨hk4,he,rfl,hS⟩|⟨hk4,he,rfl,hS⟩|⟨he,rfl,hS⟩);all_goals (refine' LZ;refine' WY;refine' zn)
                         all_goals
                          first
                          | (refine' JZ;all_goals (refine' O9);all_goals ((exact Al)))
                          | (refine' J0;refine' J5)
                         refine' KL;refine Na [_,_,_,_] ?_;refine KY hS [_,_,_,_] ?_;intro b1 w1 hS;have hS:St cx _ (OE (.slice (some ⟨b1,0,none⟩) 1 1) (Ku (h.len v0).1)::gX p z fr g N h out L):=(by have hS:=Gp (T:=182) (es:=4) (css:=[Ku (h.len v0).1].map Val.cells) hS rfl (by simp [Val.cells]) rfl;exact AA);refine' J9 (c:=Nl (vs:=[Ku (h.len v0).1]) Jo Dj hS);rintro v1 w1 ⟨rfl,tv,hS⟩;refine' KN;(first|exact AR|exact AT|exact AW|exact AV|exact AU|exact AY|exact A6|exact A8|exact Ba|exact Bc)))))))
end
end Go.Proofs.YteflkifmgnpbhaaGreat
namespace Go.Lir
def LN (n:Int):Prop:=-9223372036854775808≤n∧n≤9223372036854775807
theorem jV (n:Int):wr n=if n % 18446744073709551616≥9223372036854775808 then n % 18446744073709551616 - 18446744073709551616 else n % 18446744073709551616:=by
 unfold wr IntKind.wrap;simp [IntKind.bits,IntKind.signed]
theorem wV (n:Int):wr n=Int.bmod n (2 ^ 64):=by
 rw [jV,Int.bmod_def];have e:((2 ^ 64:Nat):Int)=18446744073709551616:=rfl;rw [e];split<;>split<;>omega
theorem jW (h:LN n):wr n=n:=ZN h.1 h.2
theorem qV (n:Int):LN (wr n):=by
 unfold LN;rw [jV];split<;>omega
theorem eu (a b c:Int)(h:∃q,a=b+18446744073709551616*q):wr (a+c)=wr (b+c):=by
 obtain ⟨q,rfl⟩:=h;rw [jV,jV];have:(b+18446744073709551616*q+c) % 18446744073709551616=(b+c) % 18446744073709551616:=Dc;rw [this]
theorem WG (n:Int):∃q,wr n=n+18446744073709551616*q:=by
 rw [jV];split
 · exact ⟨-(n / 18446744073709551616) - 1,Jo⟩
 · exact ⟨-(n / 18446744073709551616),Jo⟩
theorem WH (h:∃q,a=b+18446744073709551616*q):wr a=wr b:=by
 have:=eu a b 0 h
 simpa using this
theorem QfK (hb:LN b)(h0:b≠0):wr (a - wr (wr (a.tdiv b)*b))=a.tmod b:=by
 have e:a.tmod b=a - a.tdiv b*b:=by have:=Int.mul_tdiv_add_tmod a b;rw [Int.mul_comm] at this;omega
 have hin:LN (a.tmod b):=by
  have h1:=Int.natAbs_tmod a b;have h2:=IM a.natAbs (show b.natAbs>0 by omega);unfold LN at*;omega
 obtain ⟨q1,h1⟩:=WG (a.tdiv b);obtain ⟨q2,h2⟩:=WG (wr (a.tdiv b)*b);rw [←jW hin,e];refine WH ⟨-(q1*b) - q2,?_⟩;rw [h2,h1];rw [Int.add_mul,Int.mul_sub,Int.mul_neg,Int.mul_assoc];omega

theorem QfI {n:Nat}(x y:BitVec n):(x|||y) - (x &&& y)=x ^^^ y:=by
 have h1:(x ^^^ y) &&& (x &&& y)=0#n:=by
  ext i hi
  simp;cases x[i]<;>cases y[i]<;>simp
 have h2:(x ^^^ y)+(x &&& y)=(x ^^^ y)|||(x &&& y):=BitVec.add_eq_or_of_and_eq_zero _ _ h1
 have h3:(x ^^^ y)|||(x &&& y)=x|||y:=by
  ext i hi
  simp;cases x[i]<;>cases y[i]<;>simp
 rw [←h3,←h2,BitVec.add_sub_cancel]

theorem qW (r:BitVec 64):IntKind.i64.wrap r.toNat=r.toInt:=by
 show wr _=_;rw [wV,BitVec.toInt_eq_toNat_bmod]

theorem Qgj (a b:Int):wr (MY .or .i64 a b - MY .and .i64 a b)=MY .xor .i64 a b:=by
 unfold MY;simp only [];have e1:=qW (BitVec.ofInt 64 a|||BitVec.ofInt 64 b);have e2:=qW (BitVec.ofInt 64 a &&& BitVec.ofInt 64 b);have e3:=qW (BitVec.ofInt 64 a ^^^ BitVec.ofInt 64 b);refine Hl (congrArg wr (congr (congrArg _ e1) e2)) (Hl ?_ e3.symm);rw [←QfI,BitVec.toInt_sub,wV]
theorem ew (k a b:Int):LN (Lv k a b).1:=by
 have h0:LN 0:=(by unfold LN;omega);have h1:LN 1:=by unfold LN;omega
 have hd:LN (Rr a b).1:=by
  unfold Rr;split
  · exact h0
  · split<;>exact qV _
 unfold Lv
 repeat' split
 all_goals first|exact qV _|exact h0|exact h1|exact hd|(unfold MY;exact qV _)|(simp;done)
end Go.Lir
namespace Go.Proofs.YteflkifmgnpbhaaGreat
open Go.Lir
attribute [local irreducible] LC.wp Q0 Qh Qd Kq Qz LO.wp Q5 Calls
theorem ey (k a b : Int)(ha :LN a)(hb:LN b)(w:World):JW Tryz.prog Uv [.int .i64 k, .int .i64 a, .int .i64 b] w fun v w'=>v= .tuple #[.int .i64 (Lv k a b).1, .bool (Lv k a b).2]∧w'=w:=by
 have hb':=hb;have ha':=ha;unfold LN at ha' hb';have hm:=fun h=>QfK (a:=a) hb h;have hx:=Qgj a b
 have hd:b≠0→Rr a b=(wr (a.tdiv b),true):=by
  intro h;unfold Rr;rw [if_neg h];split
  · rename_i h1;subst h1;rw [Int.tdiv_neg,Int.tdiv_one,Int.zero_sub]
  · rfl
 (((have g4:b≠0→Lv 4 a b=(wr (a.tdiv b),true):=fun h=>by simp [Lv,hd h]);have g5:b≠0→Lv 5 a b=(a.tmod b,true):=fun h=>by simp [Lv,hd h,hm h]);have z4:b=0→Lv 4 a b=(0,false):=(by rintro rfl;rfl);have z5:b=0→Lv 5 a b=(0,false):=(by rintro rfl;rfl);have e4:Lv 4 (-9223372036854775808) (-1)=(-9223372036854775808,true):=(by decide);have e5:Lv 5 (-9223372036854775808) (-1)=(0,true):=(by decide);have g9:Lv 9 a b=(wr (MY .or .i64 a b - MY .and .i64 a b),true):=(by rw [hx];rfl);refine Kd Kc Tryz.func122 ?_;refine' Nd;refine' LG;refine' LU;refine' Ki;first|(refine' Ql)|(refine' Qn)|(refine' Ac<;>intro hc));all_goals (refine' Kg)
 all_goals
  first
  | (refine' JZ;refine' KL;refine ki rfl rfl ?_;refine' zm;refine' N4;(refine ⟨_,rfl,?_,rfl⟩;first|(rw [‹a=_›,‹b=-1›,‹k=4›,e4])|(rw [‹a=_›,‹b=-1›,‹k=5›,e5])|(rw [‹k=4›,g4 ‹¬b=0›])|(rw [‹k=5›,g5 ‹¬b=0›])|(rw [‹k=4›,z4 ‹b=0›])|(rw [‹k=5›,z5 ‹b=0›])|(rw [‹k=9›,g9])|simp [Lv, *]))
  | (refine' J0
     (refine' Ki;first|(refine' Ql)|(refine' Qn)|(refine' Ac<;>intro hc));all_goals (refine' Kg)
     all_goals
      first
      | (refine' JZ;refine' KL;(first|(refine ki rfl rfl ?_)|(refine mH rfl rfl ?_));refine' zm;refine' N4;(refine ⟨_,rfl,?_,rfl⟩;first|(rw [‹a=_›,‹b=-1›,‹k=4›,e4])|(rw [‹a=_›,‹b=-1›,‹k=5›,e5])|(rw [‹k=4›,g4 ‹¬b=0›])|(rw [‹k=5›,g5 ‹¬b=0›])|(rw [‹k=4›,z4 ‹b=0›])|(rw [‹k=5›,z5 ‹b=0›])|(rw [‹k=9›,g9])|simp [Lv, *]))
      | (refine' J0
         (refine' Ki;first|(refine' Ql)|(refine' Qn)|(refine' Ac<;>intro hc));all_goals (refine' Kg)
         all_goals
          first
          | (refine' JZ;refine' KL;(first|(refine ki rfl rfl ?_)|(refine mH rfl rfl ?_)|(refine bt rfl rfl ?_));refine' zm;refine' N4;(refine ⟨_,rfl,?_,rfl⟩;first|(rw [‹a=_›,‹b=-1›,‹k=4›,e4])|(rw [‹a=_›,‹b=-1›,‹k=5›,e5])|(rw [‹k=4›,g4 ‹¬b=0›])|(rw [‹k=5›,g5 ‹¬b=0›])|(rw [‹k=4›,z4 ‹b=0›])|(rw [‹k=5›,z5 ‹b=0›])|(rw [‹k=9›,g9])|simp [Lv, *]))
          | (refine' J0
             (refine' M3;first|(refine' Ql)|(refine' Qn)|(refine' Ac<;>intro hc));all_goals (refine' Kg)
             all_goals
              first
              | (refine' JZ;refine' J5)
              | (refine' J0;(refine' Lm;first|(refine' Ql)|(refine' Qn)|(refine' Ac<;>intro hc));all_goals (refine' zm);all_goals (refine' zn))
             all_goals
              first
              | (refine' JZ
                 all_goals (refine' MN;first|(refine' Ql)|(refine' Qn)|(refine' Ac<;>intro hc));all_goals (refine' zn)
                 all_goals
                  first
                  | (refine' JZ;all_goals (refine' KH;refine' N4);all_goals (refine ⟨_,rfl,?_,rfl⟩;first|(rw [‹a=_›,‹b=-1›,‹k=4›,e4])|(rw [‹a=_›,‹b=-1›,‹k=5›,e5])|(rw [‹k=4›,g4 ‹¬b=0›])|(rw [‹k=5›,g5 ‹¬b=0›])|(rw [‹k=4›,z4 ‹b=0›])|(rw [‹k=5›,z5 ‹b=0›])|(rw [‹k=9›,g9])|simp [Lv, *]))
                  | (refine' J0;all_goals (refine' J5))
                 (all_goals (refine' MN;first|(refine' Ql)|(refine' Qn)|(refine' Ac<;>intro hc));all_goals (refine' Ll;first|refine' J1|(refine' J4;(first|(refine' Ql)|(refine' Qn)|(refine' Ac<;>intro hc)))));all_goals ((first|refine rH rfl Ei ?_|refine rI rfl Ei ?_);refine' zn)
                 all_goals
                  first
                  | (refine' JZ
                     all_goals (refine' MN;refine' Rc;refine' zn)
                     all_goals
                      first
                      | (refine' JZ;refine' KH;refine' N4;(refine ⟨_,rfl,?_,rfl⟩;first|(rw [‹a=_›,‹b=-1›,‹k=4›,e4])|(rw [‹a=_›,‹b=-1›,‹k=5›,e5])|(rw [‹k=4›,g4 ‹¬b=0›])|(rw [‹k=5›,g5 ‹¬b=0›])|(rw [‹k=4›,z4 ‹b=0›])|(rw [‹k=5›,z5 ‹b=0›])|(rw [‹k=9›,g9])|simp [Lv, *]))
                      | (refine' J0;refine' J5)
                     all_goals (refine' KH;refine' N4);all_goals (refine ⟨_,rfl,?_,rfl⟩;first|(rw [‹a=_›,‹b=-1›,‹k=4›,e4])|(rw [‹a=_›,‹b=-1›,‹k=5›,e5])|(rw [‹k=4›,g4 ‹¬b=0›])|(rw [‹k=5›,g5 ‹¬b=0›])|(rw [‹k=4›,z4 ‹b=0›])|(rw [‹k=5›,z5 ‹b=0›])|(rw [‹k=9›,g9])|simp [Lv, *]))
                  | (refine' J0;all_goals (refine' J5))
                 all_goals (refine' MN;refine' Rc;refine' zn)
                 all_goals
                  first
                  | (refine' JZ;all_goals (refine' KL;refine gC rfl rfl Jo ?_;refine' zm;refine' N4);all_goals (refine ⟨_,rfl,?_,rfl⟩;first|(rw [‹a=_›,‹b=-1›,‹k=4›,e4])|(rw [‹a=_›,‹b=-1›,‹k=5›,e5])|(rw [‹k=4›,g4 ‹¬b=0›])|(rw [‹k=5›,g5 ‹¬b=0›])|(rw [‹k=4›,z4 ‹b=0›])|(rw [‹k=5›,z5 ‹b=0›])|(rw [‹k=9›,g9])|simp [Lv, *]))
                  | (refine' J0;all_goals (refine' J5))
                 all_goals (refine' KL;refine gD rfl rfl Jo ?_;refine' zm;refine' N4);all_goals (refine ⟨_,rfl,?_,rfl⟩;first|(rw [‹a=_›,‹b=-1›,‹k=4›,e4])|(rw [‹a=_›,‹b=-1›,‹k=5›,e5])|(rw [‹k=4›,g4 ‹¬b=0›])|(rw [‹k=5›,g5 ‹¬b=0›])|(rw [‹k=4›,z4 ‹b=0›])|(rw [‹k=5›,z5 ‹b=0›])|(rw [‹k=9›,g9])|simp [Lv, *]))
              | (refine' J0
                 (refine' Ki;first|(refine' Ql)|(refine' Qn)|(refine' Ac<;>intro hc));all_goals (refine' Kg)
                 all_goals
                  first
                  | (refine' JZ
                     (refine' O8;first|(refine' K0)|(refine' K1)|(refine' Ae<;>intro hc));all_goals (refine' zn)
                     all_goals
                      first
                      | (refine' JZ;refine' LF;refine' zn)
                      | (refine' J0;refine' J5)
                     all_goals (refine' KL;refine' N4);all_goals (refine ⟨_,rfl,?_,rfl⟩;first|(rw [‹a=_›,‹b=-1›,‹k=4›,e4])|(rw [‹a=_›,‹b=-1›,‹k=5›,e5])|(rw [‹k=4›,g4 ‹¬b=0›])|(rw [‹k=5›,g5 ‹¬b=0›])|(rw [‹k=4›,z4 ‹b=0›])|(rw [‹k=5›,z5 ‹b=0›])|(rw [‹k=9›,g9])|simp [Lv, *]))
                  | (refine' J0
                     (refine' Ki;first|(refine' Ql)|(refine' Qn)|(refine' Ac<;>intro hc));all_goals (refine' Kg)
                     all_goals
                      first
                      | (refine' JZ
                         (refine' O8;first|(refine' Ql)|(refine' Qn)|(refine' Ac<;>intro hc));all_goals (refine' zn)
                         all_goals
                          first
                          | (refine' JZ;refine' LF;refine' zn)
                          | (refine' J0;refine' J5)
                         all_goals (refine' KL;refine' N4);all_goals (refine ⟨_,rfl,?_,rfl⟩;first|(rw [‹a=_›,‹b=-1›,‹k=4›,e4])|(rw [‹a=_›,‹b=-1›,‹k=5›,e5])|(rw [‹k=4›,g4 ‹¬b=0›])|(rw [‹k=5›,g5 ‹¬b=0›])|(rw [‹k=4›,z4 ‹b=0›])|(rw [‹k=5›,z5 ‹b=0›])|(rw [‹k=9›,g9])|simp [Lv, *]))
                      | (refine' J0
                         (refine' Ki;first|(refine' Ql)|(refine' Qn)|(refine' Ac<;>intro hc));all_goals (refine' Kg)
                         all_goals
                          first
                          | (refine' JZ;refine' KL;refine ZR rfl rfl ?_;refine' zm;refine' N4;(refine ⟨_,rfl,?_,rfl⟩;first|(rw [‹a=_›,‹b=-1›,‹k=4›,e4])|(rw [‹a=_›,‹b=-1›,‹k=5›,e5])|(rw [‹k=4›,g4 ‹¬b=0›])|(rw [‹k=5›,g5 ‹¬b=0›])|(rw [‹k=4›,z4 ‹b=0›])|(rw [‹k=5›,z5 ‹b=0›])|(rw [‹k=9›,g9])|simp [Lv, *]))
                          | (refine' J0
                             (refine' Ki;first|(refine' Ql)|(refine' Qn)|(refine' Ac<;>intro hc));all_goals (refine' Kg)
                             all_goals
                              first
                              | (refine' JZ;refine' KL;refine mI rfl rfl ?_;refine' MQ;refine ZR rfl rfl ?_;(first|(refine ki rfl rfl ?_)|(refine mH rfl rfl ?_));refine' zm;refine' N4;(refine ⟨_,rfl,?_,rfl⟩;first|(rw [‹a=_›,‹b=-1›,‹k=4›,e4])|(rw [‹a=_›,‹b=-1›,‹k=5›,e5])|(rw [‹k=4›,g4 ‹¬b=0›])|(rw [‹k=5›,g5 ‹¬b=0›])|(rw [‹k=4›,z4 ‹b=0›])|(rw [‹k=5›,z5 ‹b=0›])|(rw [‹k=9›,g9])|simp [Lv, *]))
                              | (refine' J0;refine' J5))))))))
 refine' KH;refine' N4;(refine ⟨_,rfl,?_,rfl⟩;first|(rw [‹a=_›,‹b=-1›,‹k=4›,e4])|(rw [‹a=_›,‹b=-1›,‹k=5›,e5])|(rw [‹k=4›,g4 ‹¬b=0›])|(rw [‹k=5›,g5 ‹¬b=0›])|(rw [‹k=4›,z4 ‹b=0›])|(rw [‹k=5›,z5 ‹b=0›])|(rw [‹k=9›,g9])|simp [Lv, *])
theorem ez {k:Int}(ha:LN a)(hb:LN b)(hS:St cx w L):JW Tryz.prog Uv [.int .i64 k, .int .i64 a, .int .i64 b] w fun v w'=>v= .tuple #[.int .i64 (Lv k a b).1, .bool (Lv k a b).2]∧St cx w' L:=
 (ey k a b ha hb w).mono fun _ _ ⟨h1,h2⟩=>⟨h1,by rw [h2];exact hS⟩
end Go.Proofs.YteflkifmgnpbhaaGreat
namespace Go.Lir
section
variable {m:Module}{s:MS}{x:Ins}
theorem qX (h2:x.op=2)(hn:s.g.num x.a=none∨s.g.num x.b=none):s.ins m x= .lost:=by
 rw [qn h2]
 cases ha:s.g.num x.a with
 | none=>rfl
 | some n=>rw [Qg rfl,OV (hn.resolve_left (by rw [ha];exact fun h=>by cases h))]
theorem qY (h2:x.op=2)(ha:s.g.num x.a=some a)(hb:s.g.num x.b=some b)(hd:(Lv x.k a b).2=false):s.ins m x= .halt 1:=by rw [qn h2,Qg ha,Qg hb,if_pos hd]
theorem qZ (h2:x.op=2)(ha:s.g.num x.a=some a)(hb:s.g.num x.b=some b)(hd:(Lv x.k a b).2=true):s.ins m x= .go (s.put [Ku (Lv x.k a b).1]):=by rw [qn h2,Qg ha,Qg hb,if_neg (by rw [hd];decide)]
end
end Go.Lir
namespace Go.Proofs.YteflkifmgnpbhaaGreat
open Go.Lir
attribute [local irreducible] LC.wp Q0 Qh Qd Kq Qz LO.wp Q5 Calls
section
variable {cx:Cx}{w:World}{L:List Res}{p N:Nat}{z:GZ}{fr:List FrmV}{g:FrmV}{h:HpS}{out inp:List Int}{fu:Nat}{m:Module}
theorem eA (hS:St cx w (sl 182 4 g.vv (g.vals.map Val.cells)::sl 3 1 g.rv (Qq g.regs)::Lb FrmV.res1 fr::L)):St cx w (Lb FrmV.res1 (fr++[g])::L):=
 Ib (f:=FrmV.res1) (x:=g) (Ho hS)
theorem wW:((fr.map FrmV.abs).reverse).length=fr.length:=by rw [List.length_reverse,EK]
theorem l9:Qq l++[[.int .i64 n]]=Qq (l++[n]):=by unfold Qq;rw [Fa];rfl
attribute [local irreducible] Frm.val Frm.num Frm.args Frm.rgs Frm.reg Kr MS.ins MS.call HpS.get HpS.set HpS.setC HpS.len HpS.code HpS.put HpS.putV HpS.open HpS.shut HpS.full HpS.openV HpS.can HpS.tuple HpS.arr HpS.arrC HpS.arrV Lv LB
theorem eB (hx:Ky.at cx cs x)(hfn:Kj.sl cx z.fn m.funcs)(hi:JY.sl cx z.iv inp)(hop:1≤x.op∧x.op≤14)(hk:x.op=14→0≤x.k∧x.k<m.funcs.length)(h6:x.regs.length≤100)(h8:x.args.length≤100)(hgi:g.i≤1000)(hf:fr.length≤900)(hn:g.vals.length≤800000)(hrn:g.regs.length≤800000)(hN:N≤99999)(hol:out.length≤2000)(hrg:∀v∈g.vals,LN v.n)(hS:St cx w (gX p z fr g N h out L)):
 JW Tryz.prog zQ [.pointer (some ⟨p,0,none⟩), .agg ⟨cs⟩] w (GQ p z N fu h out ((J6 h g.nx fr inp out fu).ins m x) cx L):=by
 (obtain ⟨vr,va,rfl,hr,ha⟩:=Nh hx;have hil:=hi.len;have hfl:=hfn.len;have hnn:g.nx.vals.length≤800000:=hn;refine Kd Kc Tryz.func74 ?_;refine' KO;intro p3 w1 hS;refine' Kg;refine Qu ?_;obtain ⟨lv,rv,ho,hS⟩:=O1 (p:=p) (z:=z) (fr:=fr) (g:=g) (N:=N) (h:=h) (out:=out) (L:=M9 p3 x vr va::L) hS.sp;refine' LF;refine' Kv (c:=R6 Jo hS);rintro v1 w1 ⟨b9,o9,rfl,hel,hS⟩;refine' MU;refine Q2 hS hel rfl fd (Qp fr g) (QB fr g) rfl ?_;refine' Nq;rw [show ((g.i:Int)+1)=((g.i+1:Nat):Int) by omega];refine' MU;refine O2 hS hel rfl vw fd (Qp fr g) (QB fr g) Jo rfl (Zi (g':=g.nx) rfl) ?_;intro w8 hS;have hS:=hS.ns;have hS:St cx _ (gX p z fr g.nx N h out (M9 p3 x vr va::L)):=QN ho hS.sp;refine' zn;refine' MP;refine' Si;refine' Ki;first|(refine' Ql)|(refine' Qn)|(refine' Ac<;>intro hc));all_goals (refine' Kg)
 all_goals
  first
  | (refine' JZ;refine' NA;refine Na [_,_,_,_] ?_;refine KY hS [_,_,_,_] ?_;intro b1 w1 hS;have hS:St cx _ (OE (.slice (some ⟨b1,0,none⟩) 1 1) (Ku x.n)::gX p z fr g.nx N h out L):=(by have hS:=Gp (T:=182) (es:=4) (css:=[Ku x.n].map Val.cells) hS rfl (by simp [Val.cells]) rfl;exact AA);refine' J9 (c:=Nl (vs:=[Ku x.n]) Jo Dj hS);rintro v1 w1 ⟨rfl,tv,hS⟩;have hG:GQ p z N fu h out ((J6 h g.nx fr inp out fu).ins m x) cx L (.int .i64 0) _:=GD (g':=g.nx.push tv [Ku x.n]) (dQ Jo) hi (Fs N) rfl hS;refine' KN;(exact AB))
  | (refine' J0
     (refine' Ki;first|(refine' Ql)|(refine' Qn)|(refine' Ac<;>intro hc));all_goals (refine' Kg)
     all_goals
      first
      | (refine' JZ
         refine' NA;refine' KK;refine nO hS [_,_] ?_;intro b1 w1 hS;have hS:St cx _ (sl 3 1 (.slice (some ⟨b1,0,none⟩) 2 2) (Qq [x.a,x.b])::gX p z fr g.nx N h out (M9 p3 x vr va::L)):=(by have hS:=Gp (T:=3) (es:=1) (css:=Qq [x.a,x.b]) hS rfl (by simp [Qq]) rfl;exact AA);refine' J9 (c:=aP Jo hS);rintro v1 w1 (⟨na,nb,sn,hna,hnb,ho2,rfl,hS⟩|⟨hna,sn,rfl,hS⟩);all_goals (refine' W3)
         all_goals
          first
          | (refine' JZ;refine Qu ?_;have hG:GQ p z N fu h out ((J6 h g.nx fr inp out fu).ins m x) cx L (.int .i64 2) _:=Gj (qX Jo hna) hS fun _ _ hS=>hS.sp;refine' Oz;(exact AB))
          | (refine' J0;refine' J5)
         refine Qu ?_;refine zD (ci 14 [8,13]) ?_;have hS:=hS.drew;refine' KK;refine' zm;refine QJ hS vw rfl fd Js Js ?_;intro b2 o2 hel2;refine QY hS hel2 rfl fd rfl rfl rfl ?_;refine' zm;refine QJ hS vw rfl fd Js Js ?_;intro b3 o3 hel3;refine QY hS hel3 rfl fd rfl rfl rfl ?_;obtain ⟨v8,hv8,e8⟩:=qK hna;obtain ⟨v7,hv7,e7⟩:=qK hnb;refine' K5 (c:=ez (by rw [←e8];exact hrg v8 hv8) (by rw [←e7];exact hrg v7 hv7) hS);rintro v1 w1 ⟨rfl,hS⟩;cases hd:(Lv x.k na nb).2;all_goals (refine' W3)
         all_goals
          first
          | (refine' JZ;refine' KH;refine' J9 (c:=Ov 1 (show St cx _ (gX p z fr g.nx N h out _) from hS));rintro v1 w1 ⟨rfl,hS⟩;have hG:GQ p z N fu h out ((J6 h g.nx fr inp out fu).ins m x) cx L (.int .i64 1) _:=Hy (fr':=fr) (g':=g.nx) (N':=N) (qY Jo hna hnb hd) (Fs N) rfl hS.sp;refine' KN;(exact AB))
          | (refine' J0;refine' J5)
         refine' KL;refine Na [_,_,_,_] ?_;refine KY hS [_,_,_,_] ?_;intro b1 w1 hS;have hS:St cx _ (OE (.slice (some ⟨b1,0,none⟩) 1 1) (Ku (Lv x.k na nb).1)::gX p z fr g.nx N h out L):=(by have hS:=Gp (T:=182) (es:=4) (css:=[Ku (Lv x.k na nb).1].map Val.cells) hS rfl (by simp [Val.cells]) rfl;exact AA);refine' J9 (c:=Nl (vs:=[Ku (Lv x.k na nb).1]) Jo Dj hS);rintro v1 w1 ⟨rfl,tv,hS⟩;have hG:GQ p z N fu h out ((J6 h g.nx fr inp out fu).ins m x) cx L (.int .i64 0) _:=GD (g':=g.nx.push tv [Ku (Lv x.k na nb).1]) (qZ Jo hna hnb hd) hi (Fs N) rfl hS;refine' KN;(exact AB))
      | (refine' J0
         (refine' Ki;first|(refine' Ql)|(refine' Qn)|(refine' Ac<;>intro hc));all_goals (refine' Kg)
         all_goals
          first
          | (refine' JZ
             refine' KH;refine' Mm;refine' Kv (c:=Wx (N:=N) (s:=h) Jo hS fd);rintro v1 w1 ⟨rfl,hS⟩;have hS:=hS.ns;cases hfu:h.full;all_goals (refine' Sh;intro p8 w1 hS;refine SF hS rfl rfl Jr fd Js (Xe _) Jr ?_;intro w1 hS;have hS:=hS.ns;refine' fq)
             all_goals
              first
              | (refine' JZ;refine' KH;rw [Zm hfu] at hS;have hS:St cx _ (gX p z fr g.nx (N+1) h out L):=hS.sp;refine' J9 (c:=Ov 6 hS);rintro v1 w1 ⟨rfl,hS⟩;have hG:GQ p z N fu h out ((J6 h g.nx fr inp out fu).ins m x) cx L (.int .i64 1) _:=Hy ((lW Jo).trans (dS hfu)) (E7 _) rfl hS;refine' KN;(exact AB))
              | (refine' J0;refine' J5)
             refine Qu ?_;obtain ⟨lv,rv,ho,hS⟩:=O1 (p:=p) (z:=z) (fr:=fr) (g:=g.nx) (N:=N+1) (h:=h.open) (out:=out) (L:=blk p8 182 h.openV.cells::M9 p3 x vr va::L) hS.sp;refine P5 1 9 Jk ?_ ?_
             · skip
               refine P5 3 9 Jk ?_ ?_
               · skip;refine zC [(0,none),(2,none),(7,none),(8,none),(1,some (some [8])),(3,some (some [8])),(4,none),(5,none),(6,none),(9,some (some [6])),(10,some none),(11,none),(12,none),(13,some none)] ?_;have hS:=hS.drew;refine' Nz;refine' zm;refine' Rm;refine' Kv (c:=R6 Jo (show St cx _ (gL p z lv h.open.left fr g.nx _) from hS.sp));rintro v1 w1 ⟨b8,o8,rfl,hel8,hS⟩;refine' Mu;refine' Kv (c:=R6 Jo (show St cx _ (gL p z lv h.open.left fr g.nx _) from hS.sp));rintro v1 w1 ⟨b7,o7,rfl,hel7,hS⟩;refine' MB;refine' Ri;refine' NB;refine Q2 hS hel7 rfl fd (Qp fr g.nx) (QB fr g.nx) rfl ?_;refine' Lu;refine KY hS [_] ?_;intro b1 w1 hS;refine' zt;refine ⟨EO.2 ⟨(by (exact QX hS hel7 rfl fd (Qp fr g.nx) (QB fr g.nx) rfl)),fun _ h=>(EY h).elim⟩,?_⟩;refine' Lx;refine Nv Ro (.inl RQ) hS vw vw (v:=g.rv) (css:=Qq g.regs) fd (hS.srcB fd Jr Dl) DC ?_;intro v7 w7 hS;have hS:=hS.ns;refine' KA;refine' Ri;refine' Uo;refine O2 hS hel8 rfl vw fd (Qp fr g.nx) (QB fr g.nx) Jo (hS.oneC (v:=v7) (css:=Qq g.regs++[[.int .i64 h.openV.region]]) fd) (Zi (g':=⟨g.f,g.b,g.i+1,g.vv,g.vals,v7,g.regs++[h.openV.region]⟩) rfl) ?_;intro w8 hS;have hS:=hS.ns;rw [l9] at hS;have hS:St cx _ (gX p z fr ⟨g.f,g.b,g.i+1,g.vv,g.vals,v7,g.regs++[h.openV.region]⟩ (N+1) h.open out (blk p8 182 h.openV.cells::L)):=QN ho hS.sp;refine' Lc;refine' Yb;refine KY hS [_,_,_,_] ?_;intro b1 w1 hS;have hS:St cx _ (OE (.slice (some ⟨b1,0,none⟩) 1 1) h.openV::gX p z fr ⟨g.f,g.b,g.i+1,g.vv,g.vals,v7,g.regs++[h.openV.region]⟩ (N+1) h.open out L):=D9;refine' J9 (c:=Nl (vs:=[h.openV]) Jo Dj hS);rintro v1 w1 ⟨rfl,tv,hS⟩;have hG:GQ p z N fu h out ((J6 h g.nx fr inp out fu).ins m x) cx L (.int .i64 0) _:=GD ((lW Jo).trans (qy hfu)) hi (E7 _) rfl hS;refine' KN;(exact ⟨_,rfl,hG⟩)
               · skip;refine zC [(0,none),(2,none),(7,none),(8,none),(1,some (some [8])),(9,some (some [])),(3,some (some [8])),(4,none),(5,none),(6,none),(10,some none),(11,none),(12,none),(13,some none)] ?_;have hS:=hS.drew;refine' Nz;refine' zm;refine' Rm;refine' Kv (c:=R6 Jo (show St cx _ (gL p z lv h.open.left fr g.nx _) from hS.sp));rintro v1 w1 ⟨b8,o8,rfl,hel8,hS⟩;refine' Mu;refine KY hS [_] ?_;intro b1 w1 hS;refine' zt;refine ⟨fun _ h=>(EY h).elim,?_⟩;refine' Sa;refine' Kv (c:=R6 Jo (show St cx _ (gL p z lv h.open.left fr g.nx _) from hS.sp));rintro v1 w1 ⟨b7,o7,rfl,hel7,hS⟩;refine' MB;refine' Ri;refine' NB;refine Q2 hS hel7 rfl fd (Qp fr g.nx) (QB fr g.nx) rfl ?_;refine' LM;refine Nv Ro (.inl RQ) hS vw vw (v:=g.rv) (css:=Qq g.regs) fd (hS.srcB fd Jr Dl) DC ?_;intro v7 w7 hS;have hS:=hS.ns;refine' KA;refine' Ri;refine' Uo;refine O2 hS hel8 rfl vw fd (Qp fr g.nx) (QB fr g.nx) Jo (hS.oneC (v:=v7) (css:=Qq g.regs++[[.int .i64 h.openV.region]]) fd) (Zi (g':=⟨g.f,g.b,g.i+1,g.vv,g.vals,v7,g.regs++[h.openV.region]⟩) rfl) ?_;intro w8 hS;have hS:=hS.ns;rw [l9] at hS;have hS:St cx _ (gX p z fr ⟨g.f,g.b,g.i+1,g.vv,g.vals,v7,g.regs++[h.openV.region]⟩ (N+1) h.open out (blk p8 182 h.openV.cells::L)):=QN ho hS.sp;refine' Lc;refine' Yb;refine KY hS [_,_,_,_] ?_;intro b1 w1 hS;have hS:St cx _ (OE (.slice (some ⟨b1,0,none⟩) 1 1) h.openV::gX p z fr ⟨g.f,g.b,g.i+1,g.vv,g.vals,v7,g.regs++[h.openV.region]⟩ (N+1) h.open out L):=D9;refine' J9 (c:=Nl (vs:=[h.openV]) Jo Dj hS);rintro v1 w1 ⟨rfl,tv,hS⟩;have hG:GQ p z N fu h out ((J6 h g.nx fr inp out fu).ins m x) cx L (.int .i64 0) _:=GD ((lW Jo).trans (qy hfu)) hi (E7 _) rfl hS;refine' KN;(exact ⟨_,rfl,hG⟩)
             · skip;refine zC [(0,none),(2,none),(7,none),(8,none),(9,some (some [])),(1,some (some [8])),(3,some (some [8])),(4,none),(5,none),(6,none),(10,some none),(11,none),(12,none),(13,some none)] ?_;have hS:=hS.drew;refine' Nz;refine' zm;refine' Rm;refine KY hS [_] ?_;intro b1 w1 hS;refine' zt;refine ⟨fun _ h=>(EY h).elim,?_⟩;refine' Sa;refine' Kv (c:=R6 Jo (show St cx _ (gL p z lv h.open.left fr g.nx _) from hS.sp));rintro v1 w1 ⟨b8,o8,rfl,hel8,hS⟩;refine' Mu;refine' Kv (c:=R6 Jo (show St cx _ (gL p z lv h.open.left fr g.nx _) from hS.sp));rintro v1 w1 ⟨b7,o7,rfl,hel7,hS⟩;refine' MB;refine' Ri;refine' NB;refine Q2 hS hel7 rfl fd (Qp fr g.nx) (QB fr g.nx) rfl ?_;refine' LM;refine Nv Ro (.inl RQ) hS vw vw (v:=g.rv) (css:=Qq g.regs) fd (hS.srcB fd Jr Dl) DC ?_;intro v7 w7 hS;have hS:=hS.ns;refine' KA;refine' Ri;refine' Uo;refine O2 hS hel8 rfl vw fd (Qp fr g.nx) (QB fr g.nx) Jo (hS.oneC (v:=v7) (css:=Qq g.regs++[[.int .i64 h.openV.region]]) fd) (Zi (g':=⟨g.f,g.b,g.i+1,g.vv,g.vals,v7,g.regs++[h.openV.region]⟩) rfl) ?_;intro w8 hS;have hS:=hS.ns;rw [l9] at hS;have hS:St cx _ (gX p z fr ⟨g.f,g.b,g.i+1,g.vv,g.vals,v7,g.regs++[h.openV.region]⟩ (N+1) h.open out (blk p8 182 h.openV.cells::L)):=QN ho hS.sp;refine' Lc;refine' Yb;refine KY hS [_,_,_,_] ?_;intro b1 w1 hS;have hS:St cx _ (OE (.slice (some ⟨b1,0,none⟩) 1 1) h.openV::gX p z fr ⟨g.f,g.b,g.i+1,g.vv,g.vals,v7,g.regs++[h.openV.region]⟩ (N+1) h.open out L):=D9;refine' J9 (c:=Nl (vs:=[h.openV]) Jo Dj hS);rintro v1 w1 ⟨rfl,tv,hS⟩;have hG:GQ p z N fu h out ((J6 h g.nx fr inp out fu).ins m x) cx L (.int .i64 0) _:=GD ((lW Jo).trans (qy hfu)) hi (E7 _) rfl hS;refine' KN;(exact AB))
          | (refine' J0
             (refine' Ki;first|(refine' Ql)|(refine' Qn)|(refine' Ac<;>intro hc));all_goals (refine' Kg)
             all_goals
              first
              | (refine' JZ
                 (refine' Mt;obtain ⟨lv,rv,ho,hS⟩:=O1 hS;obtain ⟨av,nv,hiv⟩:=EU hi;refine' W6;refine kz vw hi ?_;first|(refine' Ql)|(refine' Qn)|(refine' Ac<;>intro hc));all_goals (refine' zn)
                 all_goals
                  first
                  | (refine' JZ;refine' KH;have hS:St cx _ (gX p z fr g.nx N h out L):=QN ho hS.sp;refine' J9 (c:=Ov 4 hS);rintro v1 w1 ⟨rfl,hS⟩;have hG:GQ p z N fu h out ((J6 h g.nx fr inp out fu).ins m x) cx L (.int .i64 1) _:=Hy ((wA Jo).trans (qz (Gt.1 (by show inp.length=0;omega)))) (Fs N) rfl hS;refine' KN;(exact AB))
                  | (refine' J0;refine' J5)
                 refine Qu ?_;obtain ⟨n0,r0,hir⟩:∃n0 r0,inp=n0::r0:=List.exists_cons_of_length_pos Jo;refine' W6;(refine RD (m:=0) vw rfl hi rfl Jo ?_;intro b8 o8 cs8 x8 hat8 hx8 he8;rw [hir,FJ] at hx8;cases hx8;obtain rfl:=Qs he8);refine' M1;refine' Kg;refine' KL;refine' O7;refine kA (l':=1) (h':=inp.length) vw hi rfl rfl rfl ⟨_,rfl⟩ Jo Jo ?_;intro v7 hk7;have hk7:JY.sl cx v7 r0:=(by rw [hir] at hk7;simpa using hk7);have ho7:oneC v7=true:=(by obtain ⟨a7,n7,e7⟩:=EU hk7;rw [e7];rfl);refine' Mm;((refine LP hS ?_;intro w1 hS;have hS:=hS.ns));refine' zn;refine' KL;refine Na [_,_,_,_] ?_;refine KY hS [_,_,_,_] ?_;intro b1 w1 hS;have hS:St cx _ (OE (.slice (some ⟨b1,0,none⟩) 1 1) (Ku n0)::gX p (z.upd z.fv v7 z.ov) fr g.nx N h out L):=(by have hS:=Gp (T:=182) (es:=4) (css:=[Ku n0].map Val.cells) hS rfl (by simp [Val.cells]) rfl;have hS:St cx _ (gX p (z.upd z.fv v7 z.ov) fr g.nx N h out (OE (.slice (some ⟨b1,0,none⟩) 1 1) (Ku n0)::L)):=QN ho hS.sp;exact AA);refine' J9 (c:=Nl (vs:=[Ku n0]) Jo Dj hS);rintro v1 w1 ⟨rfl,tv,hS⟩;have hG:GQ p z N fu h out ((J6 h g.nx fr inp out fu).ins m x) cx L (.int .i64 0) _:= .inl ⟨z.fv,v7,z.ov,fr,g.nx.push tv [Ku n0],N,h,r0,out,(wA Jo).trans (qA hir),hk7,Fs N,rfl,hS⟩;refine' KN;(exact AB))
              | (refine' J0
                 (refine' Ki;first|(refine' Ql)|(refine' Qn)|(refine' Ac<;>intro hc));all_goals (refine' Kg)
                 all_goals
                  first
                  | (refine' JZ
                     refine' NA;refine KY hS [_] ?_;intro b1 w1 hS;have hS:St cx _ (sl 3 1 (.slice (some ⟨b1,0,none⟩) 1 1) (Qq [x.a])::gX p z fr g.nx N h out (M9 p3 x vr va::L)):=Et;refine' J9 (c:=ZA Jo hS);rintro v1 w1 (⟨n0,sn,hn0,ho2,rfl,hS⟩|⟨hn0,sn,rfl,hS⟩);all_goals (refine' W3)
                     all_goals
                      first
                      | (refine' JZ;refine Qu ?_;have hG:GQ p z N fu h out ((J6 h g.nx fr inp out fu).ins m x) cx L (.int .i64 2) _:=Gj ((qw Jo).trans (OV hn0)) hS fun _ _ hS=>hS.sp;refine' Oz;(exact AB))
                      | (refine' J0;refine' J5)
                     (refine' Mt;obtain ⟨lv,rv,ho,hS⟩:=O1 hS;refine' LF;refine' Uk;refine QO (n:=out.length) hS vw fd (EK _) ?_;first|(refine' Ql)|(refine' Qn)|(refine' Ac<;>intro hc));all_goals (refine' zn)
                     all_goals
                      first
                      | (refine' JZ;refine' KH;have hS:St cx _ (gX p z fr g.nx N h out L):=QN ho hS.sp;refine' J9 (c:=Ov 8 hS);rintro v1 w1 ⟨rfl,hS⟩;have hG:GQ p z N fu h out ((J6 h g.nx fr inp out fu).ins m x) cx L (.int .i64 1) _:=Hy ((qw Jo).trans ((Qg hn0).trans (jC (by show out.length=2000;omega)))) (Fs N) rfl hS;refine' KN;(exact AB))
                      | (refine' J0;refine' J5)
                     refine Qu ?_;refine zC [(0,none),(1,none),(2,none),(3,none),(4,none),(5,none),(6,none),(7,none),(8,none),(9,some (some [5])),(10,some (some [])),(11,none),(12,none),(13,none),(14,some none)] ?_;have hS:=hS.drew;refine' Nz;refine' NM;refine' ag;refine' NB;refine zl hS ?_;refine' Mb;refine QJ hS vw rfl fd Js Js ?_;intro b2 o2 hel2;refine' KA;refine QY hS hel2 rfl fd rfl rfl rfl ?_;refine' Lu;refine KY hS [_] ?_;intro b1 w1 hS;refine' zt;refine ⟨EO.2 ⟨(by first|(exact QX (j:=0) hS hel2 rfl fd rfl rfl rfl)|(exact Az)),fun _ h=>(EY h).elim⟩,?_⟩;refine' Sa;refine Nv UD (.inl aj) hS vw vw (v:=z.ov) (css:=Qq out) fd (hS.srcB fd Jr Dl) DC ?_;intro v7 w7 hS;have hS:=hS.ns;have ho7:=hS.oneC (v:=v7) (css:=Qq out++[[.int .i64 n0]]) fd;rw [l9] at hS;refine' zt;refine ⟨fun _ h=>(EY h).elim,?_⟩;refine' L6;refine' ag;refine' Uo;refine LP hS ?_;intro w1 hS;have hS:=hS.ns;refine' Lc;refine Qu ?_;have hS:St cx _ (gX p (z.upd z.fv z.iv v7) fr g.nx N h (out++[n0]) L):=QN ho hS.sp;have hG:GQ p z N fu h out ((J6 h g.nx fr inp out fu).ins m x) cx L (.int .i64 0) _:= .inl ⟨z.fv,z.iv,v7,fr,g.nx,N,h,inp,out++[n0],(qw Jo).trans ((Qg hn0).trans (jD (by show out.length≠2000;omega))),hi,Fs N,rfl,hS⟩;refine' Oz;(exact AB))
                  | (refine' J0
                     (refine' Ki;first|(refine' Ql)|(refine' Qn)|(refine' Ac<;>intro hc));all_goals (refine' Kg)
                     all_goals
                      first
                      | (refine' JZ
                         (((refine' NA;refine' J9 (c:=aO Jo Jo hr (show St cx _ (gX p z fr g.nx N h out _) from hS));rintro v1 w1 (⟨rs,sr,hrs,hrl,ho1,rfl,hS⟩|⟨hrs,rfl,hS⟩);all_goals (refine' Uj;refine' LZ;refine' KK;refine' J9 (c:=jO Jo Jo ha (show St cx _ (gX p z fr g.nx N h out _) from hS));rintro v1 w1 (⟨vs,sw,hvs,hvl,ho2,rfl,hS⟩|⟨hvs,rfl,hS⟩)));all_goals (refine' Uj;refine' Kg;refine Qu ?_;obtain ⟨lv,rv,ho,hS⟩:=O1 hS;have hk0:=(hk Jo).1;have hk1:=(hk Jo).2;refine zC [(0,none),(1,none),(2,none),(3,none),(4,none),(5,none),(6,none),(7,none),(8,none),(9,some (some [4,6,8])),(10,some none)] ?_;have hS:=hS.drew;refine' SP;refine' iy;refine' Rn;refine' zj;intro b1 o1 cs1 x1 hat1 hx1 he1;obtain ⟨vp1,vr1,vb1,rfl,hp1,hr1,hb1⟩:=Qw he1;have hX:=(Zk (m:=m) (s:=J6 h g.nx fr inp out fu) (x:=x) Jo).trans (dO hx1);refine' W7;intro p17 w1 hS;refine' M4;refine Ka hS ?_;intro w1 hS;have hS:=hS.ns;refine' Lc;refine' MN;refine' PK;refine' Ll;refine' Oe;refine' Pw;refine' X8;refine' MO;first|refine' J1|(refine' J4;(first|(refine' Qy)|(refine' QD)|(refine' Ad<;>intro hc)))));all_goals (refine' Pw;refine' X8;refine' MO;refine' M0;first|refine' J1|(refine' J4;(first|(refine' Qy)|(refine' QD)|(refine' Ad<;>intro hc)))));all_goals (refine' KU)
                         all_goals
                          first
                          | (refine' JZ;all_goals (refine Qu ?_;have hG:GQ p z N fu h out ((J6 h g.nx fr inp out fu).ins m x) cx L (.int .i64 2) _:=Gj (out2:=out) (h2:=h) (N2:=N) (fr:=fr) (g:=g.nx) (L':=L) En (QN ho hS.sp) fun _ _ hS=>hS;refine' Oz);all_goals (exact AB))
                          | (refine' J0;refine' J5)
                         (refine' MN;refine' O7;refine QO hS vw fd (Qp fr g.nx) ?_;first|(refine' Ql)|(refine' Qn)|(refine' Ac<;>intro hc));all_goals (refine' zn)
                         all_goals
                          first
                          | (refine' JZ;refine' KH;have hS:St cx _ (gX p z fr g.nx N h out L):=QN ho hS.sp;refine' J9 (c:=Ov 5 hS);rintro v1 w1 ⟨rfl,hS⟩;have hG:GQ p z N fu h out ((J6 h g.nx fr inp out fu).ins m x) cx L (.int .i64 1) _:=Hy (hX.trans ((Qg hrs).trans ((Qg hvs).trans ((if_neg Jo).trans (if_pos (by show ((fr.map FrmV.abs).reverse).length+1=40;rw [wW];omega)))))) (Fs N) rfl hS;refine' KN;(exact AB))
                          | (refine' J0;refine' J5)
                         refine Qu ?_;obtain ⟨a1,n1,e1⟩:=hS.shape (v:=sr) (css:=Qq rs) fd;obtain ⟨a2,n2,e2⟩:=hS.shape (v:=sw) (css:=vs.map Val.cells) fd;rw [e1,e2];refine zC [(0,none),(1,none),(2,none),(3,none),(4,none),(5,none),(6,none),(7,none),(8,none),(9,none),(10,some (some [4])),(11,some (some [])),(12,none),(13,none),(14,some none)] ?_;have hS:=hS.drew;refine' Nz;refine' NM;refine' Pq;refine' N0;refine' N0;refine' Mb;refine' NM;refine Od [_,_,_,_,_] ?_;refine' Lu;refine KY hS [_,_,_,_,_] ?_;intro b1 w1 hS;refine' Mu;refine Nv QiF (.inl QgH) hS vw vw (v:=z.fv) (css:=Ou fr g.nx) fd (hS.srcB fd Jr (by simp [oneC,ho1,ho2])) (by rw [Qp];simp only [ET,Ff];omega) ?_;intro v7 w7 hS;have hS:=hS.ns;have ho7:=hS.oneC (v:=v7) fd;refine' MB;refine' Ri;refine' L7;refine' LM;((refine LP hS ?_;intro w1 hS;have hS:=hS.ns));refine' Lc;refine Qu ?_;rw [←e1,←e2] at hS;rw [show (Value.int .i64 x.k)= .int .i64 ((x.k.toNat:Nat):Int) by rw [Fb hk0]] at hS;have e9:Ou fr g.nx++[[.int .i64 ((x.k.toNat:Nat):Int), .int .i64 0, .int .i64 0,sw,sr]]=Ou (fr++[g.nx]) ⟨x.k.toNat,0,0,sw,vs,sr,rs⟩:=Qho (g':=⟨x.k.toNat,0,0,sw,vs,sr,rs⟩);rw [e9] at hS;have hS:=eA (g:=g.nx) (fr:=fr) (L:=L5 (z.upd v7 z.iv z.ov) p lv h.left::sl 119 5 v7 (Ou (fr++[g.nx]) ⟨x.k.toNat,0,0,sw,vs,sr,rs⟩)::sl 182 4 sw (vs.map Val.cells)::sl 3 1 sr (Qq rs)::sl 131 4 lv (rv.map RgnV.cells)::Lb (RgnV.res H1) rv::sl 2 1 z.ov (Qq out)::L) hS.sp;have hS:St cx _ (gX p (z.upd v7 z.iv z.ov) (fr++[g.nx]) ⟨x.k.toNat,0,0,sw,vs,sr,rs⟩ N h out L):=QN ho hS.sp;have hG:GQ p z N fu h out ((J6 h g.nx fr inp out fu).ins m x) cx L (.int .i64 0) _:= .inl ⟨v7,z.iv,z.ov,fr++[g.nx],⟨x.k.toNat,0,0,sw,vs,sr,rs⟩,N,h,inp,out,hX.trans ((Qg hrs).trans ((Qg hvs).trans ((if_neg Jo).trans ((if_neg (by show¬((fr.map FrmV.abs).reverse).length+1=40;rw [wW];omega)).trans (by rw [QhU];rfl))))),hi,Fs N,rfl,hS⟩;refine' Oz;(exact AB))
                      | (refine' J0;refine' J5)))
             refine' Yb;refine' J9 (c:=et (m:=m) (inp:=inp) (fu:=fu) hx hi Jo h8 Jo hnn hN (show St cx _ (gX p z fr g.nx N h out L) from hS.sp));intro u9 w9 hG;refine' KN;(exact AB))))
end
section
variable {cx:Cx}{w:World}{L:List Res}{p N:Nat}{z:GZ}{fr:List FrmV}{g:FrmV}{h:HpS}{out inp:List Int}{fu:Nat}{m:Module}
@[reducible] def FrmV.fb (g:FrmV)(b:Nat):FrmV:=⟨g.f,b,g.i,g.vv,g.vals,g.rv,g.regs⟩
@[reducible] def FrmV.fi (g:FrmV)(i:Nat):FrmV:=⟨g.f,g.b,i,g.vv,g.vals,g.rv,g.regs⟩
@[reducible] def FrmV.fv (g:FrmV)(v:Value)(l:List Val):FrmV:=⟨g.f,g.b,g.i,v,l,g.rv,g.regs⟩
attribute [local irreducible] Frm.val Frm.num Frm.args Frm.rgs Frm.reg
theorem WJ (hx:toR.at cx cs t)(hfn:Kj.sl cx z.fn m.funcs)(hi:JY.sl cx z.iv inp)(hfx:m.funcs[g.f]?=some f)(hb0:0≤t.block)(hb1:t.block<f.blocks.length)(h6:t.regs.length≤100)(h8:t.args.length≤100)(hf:fr.length≤1000)(hS:St cx w (gX p z fr g N h out L)):
 JW Tryz.prog Qgh [.pointer (some ⟨p,0,none⟩), .agg ⟨cs⟩] w (GQ p z N fu h out ((J6 h g fr inp out fu).to f t) cx L):=by
 (((obtain ⟨vr,va,rfl,hr,ha⟩:=SG hx;have hfl:=hfn.len;have hgf:=(EJ.1 hfx).1;refine Kd Kc Tryz.func127 ?_;refine' KO;intro p3 w1 hS;refine' Kg;refine Qu ?_;obtain ⟨lv,rv,ho,hS⟩:=O1 (p:=p) (z:=z) (fr:=fr) (g:=g) (N:=N) (h:=h) (out:=out) (L:=blk p3 88 [.int .i64 t.block,vr,va]::L) hS.sp;refine' LF;refine' Kv (c:=R6 hf hS);rintro v1 w1 ⟨b9,o9,rfl,hel,hS⟩;refine' Kg;refine Qu ?_;refine zC [(0,none),(1,none),(2,none),(3,none),(4,none),(5,none),(6,none),(7,none),(8,none),(9,none),(10,none),(11,none),(12,none),(13,none),(14,none),(15,none),(16,some (some [4,8,11,13,15])),(17,some none)] ?_;have hS:=hS.drew;refine' SP;refine' iy;refine' Mb;refine' Ri;refine' NB;refine QY hS hel rfl fd (Qp fr g) (QB fr g) rfl ?_;refine' KA;refine' zi;intro b8 o8 cs8 x8 hat8 hx8 he8;obtain rfl:f=x8:=E4 (hfx.symm.trans hx8);obtain ⟨vp8,vr8,vb8,rfl,hp8,hr8,hb8⟩:=Qw he8;refine' KA;refine' NB;refine' cm;refine' Rn;refine' zj;intro b1 o1 cs1 x1 hat1 hx1 he1;obtain ⟨vp1,vc1,e1,e2,e3,e4,e5,rfl,hp1,hc1,he11,he12,he13,he14,he15⟩:=QZ he1;have hX:=qm (s:=J6 h g fr inp out fu) hx1;refine' W7;intro p6 w1 hS;refine' zt;refine ⟨EO.2 ⟨(by first|(exact A3)|(exact Az)),EO.2 ⟨(by (exact A3)),EO.2 ⟨(by first|(exact A3)|(exact Az)|(exact ky hS Ja rfl rfl)|(exact gN hS Ja rfl rfl)),EO.2 ⟨(by first|(exact A3)|(exact Az)),EO.2 ⟨(by first|(exact A3)|(exact AO)|(exact Bd)),fun _ h=>(EY h).elim⟩⟩⟩⟩⟩,?_⟩;refine' Lx;refine Ka hS ?_;intro w1 hS;have hS:=hS.ns;refine' Lc;refine' NA;refine' J9 (c:=aO Jo hf hr (show St cx _ (gX p z fr g N h out _) from QN ho hS.sp));rintro v1 w1 (⟨rs,sr,hrs,hrl,ho1,rfl,hS⟩|⟨hrs,rfl,hS⟩);all_goals (refine' Uj;refine' LZ;refine' KK;refine' J9 (c:=jO Jo hf ha (show St cx _ (gX p z fr g N h out _) from hS));rintro v1 w1 (⟨vs,sw,hvs,hvl,ho2,rfl,hS⟩|⟨hvs,rfl,hS⟩)));all_goals (refine' Uj;refine' PO;refine' PK;refine' Ll;refine' Oe;refine' Pw;refine' X8;refine' MO;first|refine' J1|(refine' J4;(first|(refine' Qy)|(refine' QD)|(refine' Ad<;>intro hc)))));all_goals (refine' Pw;refine' X8;refine' MO;refine' M0;first|refine' J1|(refine' J4;(first|(refine' Qy)|(refine' QD)|(refine' Ad<;>intro hc)))));all_goals (refine' KU)
 all_goals
  first
  | (refine' JZ;all_goals (refine Qu ?_;have hG:GQ p z N fu h out ((J6 h g fr inp out fu).to f t) cx L (.int .i64 2) _:=Gj En hS fun _ _ hS=>hS.sp;refine' Oz);all_goals (exact AB))
  | (refine' J0;refine' J5)
 refine Qu ?_;obtain ⟨lv,rv,ho,hS⟩:=O1 hS;have eb:Value.int .i64 t.block= .int .i64 ((t.block.toNat:Nat):Int):=(by rw [Fb hb0]);refine' SK;refine' zm;refine' KK;refine' MQ;refine' MU;refine O2 hS hel rfl vw fd (Qp fr g) (QB fr g) Jo rfl (Zi (g':=g.fb t.block.toNat) (by rw [eb];rfl)) ?_;intro w8 hS;have hS:=hS.ns;refine' MU;refine O2 hS hel rfl vw fd (Qp fr (g.fb t.block.toNat)) (QB fr (g.fb t.block.toNat)) Jo rfl (Zi (g':=(g.fb t.block.toNat).fi 0) rfl) ?_;intro w8 hS;have hS:=hS.ns;refine' MU;refine O2 hS hel rfl vw fd (Qp fr ((g.fb t.block.toNat).fi 0)) (QB fr ((g.fb t.block.toNat).fi 0)) Jo ho2 (Zi (g':=((g.fb t.block.toNat).fi 0).fv sw vs) rfl) ?_;intro w8 hS;have hS:=hS.ns;refine' MU;refine O2 hS hel rfl vw fd (Qp fr (((g.fb t.block.toNat).fi 0).fv sw vs)) (QB fr (((g.fb t.block.toNat).fi 0).fv sw vs)) Jo ho1 (Zi (g':=⟨g.f,t.block.toNat,0,sw,vs,sr,rs⟩) rfl) ?_;intro w8 hS;have hS:=hS.ns;refine' OQ;have hS:St cx _ (gX p z fr ⟨g.f,t.block.toNat,0,sw,vs,sr,rs⟩ N h out L):=QN ho hS.sp;have hG:GQ p z N fu h out ((J6 h g fr inp out fu).to f t) cx L (.int .i64 0) _:=GD (hX.trans ((Qg hrs).trans ((Qg hvs).trans (if_neg Jo)))) hi (Fs N) rfl hS;refine' Oz;((exact AB))
end
end Go.Proofs.YteflkifmgnpbhaaGreat
namespace Go.Lir
theorem ZC {l:List Val}(h:∀x∈l,x.kind=1):Kr l=some (l.map Val.n):=by
 induction l with
 | nil=>rfl
 | cons v l ih=>rw [Wj (h v Js),ih fun x hx=>h x Du];rfl
theorem ZD {l:List Val}(h:¬∀x∈l,x.kind=1):Kr l=none:=by
 induction l with
 | nil=>exact absurd Js h
 | cons v l ih=>
   by_cases hk:v.kind=1
   · rw [Wj hk,ih fun h2=>h fun x hx=>by rcases ES.1 hx with rfl|hx;(exact hk);exact h2 x hx];rfl
   · exact dP hk
end Go.Lir
namespace Go.Proofs.YteflkifmgnpbhaaGreat
open Go.Lir
attribute [local irreducible] LC.wp Q0 Qh Qd Kq Qz LO.wp Q5 Calls
section
variable {cx:Cx}{w:World}{L:List Res}{p N:Nat}{z:GZ}{fr:List FrmV}{g:FrmV}{h:HpS}{out inp:List Int}{fu:Nat}{m:Module}
theorem GQ.drop {r:Res}(hG:GQ p z N fu h out X cx (r::L) u w):GQ p z N fu h out X cx L u w:=by
 rcases hG with ⟨fv,iv,ov,fr',g',N',h',inp',out',h1,h2,h3,h4,hS⟩|⟨e,fr',g',N',h1,h2,h3,hS⟩|⟨l,bv,fr',g',N',h1,h2,h3,h4,hS⟩|⟨h1,h2,lv,left,hS⟩
 · exact .inl ⟨fv,iv,ov,fr',g',N',h',inp',out',h1,h2,h3,h4,hS.sp⟩
 · exact .inr (.inl ⟨e,fr',g',N',h1,h2,h3,hS.sp⟩)
 · exact .inr (.inr (.inl ⟨l,bv,fr',g',N',h1,h2,h3,h4,hS.sp⟩))
 · exact .inr (.inr (.inr ⟨h1,h2,lv,left,hS.sp⟩))
theorem eC {k:FrmV}(hS:St cx w (Lb FrmV.res1 (fr++[k])::L)):St cx w (sl 182 4 k.vv (k.vals.map Val.cells)::sl 3 1 k.rv (Qq k.regs)::Lb FrmV.res1 fr::L):=by
 have h1:=hS.bigOut (i:=0) (k:=fr.length) (x:=k) rfl Js;have h2:(fr++[k]).eraseIdx fr.length=fr:=(by rw [List.eraseIdx_append_of_length_le (E7 _)];simp);rw [E8,h2] at h1;exact I8 h1
@[reducible] def SD (b:Nat)(e:Tail)(v1 v2 v3 v4 v5:Value):Res:=blk b 90 [.int .i64 e.op, .int .i64 e.a, .int .i64 e.yes.block,v1,v2, .int .i64 e.no.block,v3,v4,v5]
attribute [local irreducible] Frm.val Frm.num Frm.args Frm.rgs Frm.reg Kr MS.to MS.ret GQ
theorem GQ.lost' (hX:X= .lost)(hS:St cx w (gX p z fr g N2 h2 out2 L'))(hsub:∀lv left,St cx w (L5 z p lv left::L')→St cx w (L5 z p lv left::L)):GQ p z N fu h out X cx L (.int .i64 2) w:=Gj hX hS hsub
abbrev JA:=@GQ.lost'
theorem eD {e:Tail}(hx:K3.at cx cs e)(hfn:Kj.sl cx z.fn m.funcs)(hi:JY.sl cx z.iv inp)(hfx:m.funcs[g.f]?=some f)(h8:e.args.length≤100)(hop:e.op=3)(hf:fr.length≤900)(hn:∀x∈fr,x.vals.length≤900000)(hS:St cx w (gX p z fr g N h out L)):
 JW Tryz.prog s6 [.pointer (some ⟨p,0,none⟩), .agg ⟨cs⟩] w (GQ p z N fu h out ((J6 h g fr inp out fu).ret f e) cx L):=by
 (obtain ⟨v1,v2,v3,v4,v5,rfl,k1,k2,k3,k4,k5⟩:=WR hx;have hfl:=hfn.len;have hgf:=(EJ.1 hfx).1;refine Kd Kc Tryz.func75 ?_;refine' KO;intro p3 w1 hS;refine' Sj;refine' Si;refine Qu ?_;have hS:St cx _ (gX p z fr g N h out (SD p3 e v1 v2 v3 v4 v5::L)):=hS.sp;refine' Lm;refine' Ui;refine' J0;refine' SM;refine' PV;refine' NA;refine' J9 (c:=jO Jo Jo k5 (show St cx _ (gX p z fr g N h out _) from hS));rintro u1 w1 (⟨vs,sw,hvs,hvl,ho2,rfl,hS⟩|⟨hvs,rfl,hS⟩);all_goals (refine' Uj;refine' SO;obtain ⟨lv,rv,ho,hS⟩:=O1 hS;refine zC [(0,none),(1,none),(2,none),(3,none),(4,none),(5,none),(6,none),(7,none),(8,none),(9,none),(10,none),(11,some (some [9])),(12,none),(13,none),(14,none),(15,none),(16,none),(17,none),(18,none),(19,none),(20,some none)] ?_;have hS:=hS.drew;refine' Nz;refine' PK;refine' Mb;refine' Mi;refine' KA;refine' X8;refine' KA;refine' Mi;refine' KA;refine' Rb;refine' KA;refine' Ny;refine' KA;refine' Ny;refine' KA;refine' aa;refine' KA;refine' Mi;refine' Lu;(first|(refine' J1)|(refine' J4;refine' Kv (c:=R6 Jo (show St cx _ (gL p z lv h.left fr g _) from hS));rintro v9 w1 ⟨b9,o9,rfl,hel,hS⟩));refine' MB;refine' Rb;refine' KA;refine' Nt;refine' KA;(first|(refine' J1)|(refine' J4;refine QY hS hel rfl fd (Qp fr g) (QB fr g) rfl ?_));refine' KA;(first|(refine' J1)|(refine' J4;refine' zi;intro b8 o8 cs8 x8 hat8 hx8 he8;obtain rfl:f=x8:=E4 (hfx.symm.trans hx8);obtain ⟨vp8,vr8,vb8,rfl,hp8,hr8,hb8⟩:=Qw he8));refine' KA;refine' Nt;refine' KA;refine' nR;refine' KA;refine' M0;refine' KA;first|refine' J1|(refine' J4;(first|(refine' Qy)|(refine' QD)|(refine' Ad<;>intro hc)))));all_goals (refine' LM;refine' Ms;refine' Lc)
 all_goals
  first
  | (refine' JZ;all_goals (refine Qu ?_;have hG:GQ p z N fu h out ((J6 h g fr inp out fu).ret f e) cx L (.int .i64 2) _:=JA (out2:=out) (h2:=h) (N2:=N) (fr:=fr) (g:=g) (L':=L) (by first|exact jx hvs|exact jy hvs Jo) (QN ho hS.sp) fun _ _ hS=>hS;refine' Oz);all_goals (exact AB))
  | (refine' J0;refine' J5)
 (refine' MN;refine' O7;refine QO hS vw fd (Qp fr g) ?_;first|(refine' QV)|(refine' KM)|(refine' Af<;>intro hc));all_goals (refine' zn)
 all_goals
  first
  | (refine' JZ;obtain ⟨fr0,k,rfl⟩:∃fr0 k,fr=fr0++[k]:=(by rcases H4 fr with rfl|⟨fr0,k,hk⟩;(exact absurd hc Js);exact ⟨fr0,k,by simpa using hk⟩);have hl1:(fr0++[k]).length=fr0.length+1:=(by simp);have hst:(J6 h g (fr0++[k]) inp out fu).st=k.abs::(fr0.map FrmV.abs).reverse:=(by unfold J6;simp);have hkn:=hn k Js;refine Qu ?_;refine zD (ci 15 [14]) ?_;have hS:=hS.drew;refine' MQ;refine' O7;refine' Uq;refine QO (n:=fr0.length+2) hS vw fd (by rw [Qp];omega) ?_;refine' PL;rw [show ((fr0.length+2:Nat):Int) - 1=(((fr0++[k]).length:Nat):Int) by omega];refine Tx (l':=0) (h':=(fr0++[k]).length) hS vw fd rfl ⟨_,rfl⟩ rfl (by rw [Qp];omega) Jo ?_;intro v7 hS;rw [Wk] at hS;have hS:=hS.ns;have ho7:=hS.oneC (v:=v7) fd;refine' Mm;((refine LP hS ?_;intro w1 hS;have hS:=hS.ns));refine' OQ;have hS:=eC (fr:=fr0) (k:=k) (L:=L5 (z.upd v7 z.iv z.ov) p lv h.left::sl 119 5 v7 (Ou fr0 k)::sl 182 4 sw (vs.map Val.cells)::sl 131 4 lv (rv.map RgnV.cells)::Lb (RgnV.res H1) rv::sl 2 1 z.ov (Qq out)::L) hS.sp;have hS:St cx _ (gX p (z.upd v7 z.iv z.ov) fr0 k N h out (sl 182 4 sw (vs.map Val.cells)::L)):=QN ho hS.sp;refine' Oj;have hS:St cx _ (sl 182 4 sw (vs.map Val.cells)::gX p (z.upd v7 z.iv z.ov) fr0 k N h out L):=hS.sp;refine' J9 (c:=Nl Jo Jo hS);rintro u1 w1 ⟨rfl,tv,hS⟩;have hG:GQ p z N fu h out ((J6 h g (fr0++[k]) inp out fu).ret f e) cx L (.int .i64 0) _:=(by unfold GQ;exact .inl ⟨v7,z.iv,z.ov,fr0,k.push tv vs,N,h,inp,out,jz hvs Jo hst,hi,Fs N,rfl,hS⟩);refine' KN;(exact AB))
  | (refine' J0;obtain rfl:fr=[]:=Gt.1 Jo;refine' J5)
 refine' NA;refine' J9 (c:=WC Jo Js k5 (show St cx _ (gX p z [] g N h out _) from QN ho hS.sp));rintro u1 w1 (⟨vs2,sn,b9,hvs2,hvl2,ho3,hb9,rfl,hS⟩|⟨hvs2,rfl,hS⟩);rotate_left;rw [hvs] at hvs2;cases hvs2;rw [hvs] at hvs2;cases hvs2;cases b9;all_goals (refine' W3)
 all_goals
  first
  | (refine' JZ;refine Qu ?_;have hG:GQ p z N fu h out ((J6 h g [] inp out fu).ret f e) cx L (.int .i64 2) _:=JA (jB hvs Jo rfl (ZD fun hh=>absurd (hb9.2 hh) Jd)) hS fun _ _ hS=>hS.sp;refine' Oz;(exact AB))
  | (refine' J0;refine' J5)
 refine Qu ?_;obtain ⟨lv,rv,ho,hS⟩:=O1 hS;refine' Oj;refine' ah;((refine LP hS ?_;intro w1 hS;have hS:=hS.ns));refine' OQ;have hS:St cx _ (gX p (z.bk sn) [] g N h out (sl 2 1 sn (Qq (vs.map Val.n))::L)):=QN (z:=z.bk sn) ho hS.sp;refine' LF;refine' J9 (c:=Ov 0 hS);rintro u1 w1 ⟨rfl,hS⟩;have hG:GQ p z N fu h out ((J6 h g [] inp out fu).ret f e) cx L (.int .i64 1) _:=(by unfold GQ;exact .inr (.inr (.inl ⟨vs.map Val.n,sn,[],g,N,jA hvs Jo rfl (ZC (hb9.1 rfl)),Fs N,by rw [EK];omega,rfl,hS⟩)));refine' KN;((exact AB))
end
section
variable {cx:Cx}{w:World}{L:List Res}{p N:Nat}{z:GZ}{fr:List FrmV}{g:FrmV}{h:HpS}{out inp:List Int}{fu:Nat}{m:Module}
attribute [local irreducible] Frm.val Frm.num Frm.args Frm.rgs Frm.reg Kr MS.to MS.ret GQ
theorem eE {e:Tail}(hx:K3.at cx cs e)(hfn:Kj.sl cx z.fn m.funcs)(hi:JY.sl cx z.iv inp)(hfx:m.funcs[g.f]?=some f)(he:R3 f e)(hf:fr.length≤900)(hn:∀x∈fr,x.vals.length≤900000)(hS:St cx w (gX p z fr g N h out L)):
 JW Tryz.prog s6 [.pointer (some ⟨p,0,none⟩), .agg ⟨cs⟩] w (GQ p z N fu h out ((J6 h g fr inp out fu).fin f e) cx L):=by
 obtain ⟨h8,hop,hy,hno⟩:=he;rcases (show e.op=1∨e.op=2∨e.op=3 by omega) with h1|h1|h1
 · have hX:(J6 h g fr inp out fu).fin f e=(J6 h g fr inp out fu).to f e.yes:=if_pos h1;obtain ⟨⟨y1,y2⟩,y3,y4⟩:=hy Jo;rw [hX];obtain ⟨v1,v2,v3,v4,v5,rfl,k1,k2,k3,k4,k5⟩:=WR hx;refine Kd Kc Tryz.func75 ?_;refine' KO;intro p3 w1 hS;refine' Sj;refine' Si;refine Qu ?_;have hS:St cx _ (gX p z fr g N h out (SD p3 e v1 v2 v3 v4 v5::L)):=hS.sp;refine' Lm;refine' Ql;refine' Kg;refine' JZ;refine' KH;refine' Pa;refine' J9 (c:=WJ (t:=e.yes) (inp:=inp) (fu:=fu) ⟨_,_,rfl,k1,k2⟩ hfn hi hfx y1 y2 y3 y4 Jo hS);intro u1 w1 hG;refine' KN;((exact ⟨_,rfl,hG.drop⟩))
 · have hX:(J6 h g fr inp out fu).fin f e=obind (g.abs.num e.a) fun n=>if n≠0 then (J6 h g fr inp out fu).to f e.yes else (J6 h g fr inp out fu).to f e.no:=(if_neg Jo).trans (if_pos h1)
   obtain ⟨⟨y1,y2⟩,y3,y4⟩:=hy Jo;obtain ⟨⟨n1,n2⟩,n3,n4⟩:=hno h1;rw [hX];obtain ⟨v1,v2,v3,v4,v5,rfl,k1,k2,k3,k4,k5⟩:=WR hx;refine Kd Kc Tryz.func75 ?_;refine' KO;intro p3 w1 hS;refine' Sj;refine' Si;refine Qu ?_;have hS:St cx _ (gX p z fr g N h out (SD p3 e v1 v2 v3 v4 v5::L)):=hS.sp;refine' Lm;refine' Ui;refine' J0;refine' Ki;refine' Ql;refine' Kg;refine' JZ;refine' NA;refine KY hS [_] ?_;intro b1 w1 hS;have hS:St cx _ (sl 3 1 (.slice (some ⟨b1,0,none⟩) 1 1) (Qq [e.a])::gX p z fr g N h out (SD p3 e v1 v2 v3 v4 v5::L)):=(by have hS:=Gp (T:=3) (es:=1) (css:=Qq [e.a]) hS rfl (by simp [Qq]) rfl;exact AA);refine' J9 (c:=ZA Jo hS);rintro u1 w1 (⟨n0,sn,hn0,ho2,rfl,hS⟩|⟨hn0,sn,rfl,hS⟩);all_goals (refine' W3)
   all_goals
    first
    | (refine' JZ;refine Qu ?_;have hG:GQ p z N fu h out (obind (g.abs.num e.a) fun n=>if n≠0 then (J6 h g fr inp out fu).to f e.yes else (J6 h g fr inp out fu).to f e.no) cx L (.int .i64 2) _:=JA (OV hn0) hS fun _ _ hS=>hS.sp;refine' Oz;(exact AB))
    | (refine' J0;refine' J5)
   (refine' MN;rw [Qg hn0];refine QJ hS vw rfl fd Js Js ?_;intro b2 o2 hel2;refine QY hS hel2 rfl fd rfl rfl rfl ?_;first|(refine' Ql)|(refine' Qn)|(refine' Ac<;>intro hc));all_goals (refine' zn)
   all_goals
    first
    | (refine' JZ;refine Qu ?_;rw [if_neg (show¬n0≠0 by omega)];refine' LF;refine' Pa;refine' J9 (c:=WJ (t:=e.no) (inp:=inp) (fu:=fu) ⟨_,_,rfl,k3,k4⟩ hfn hi hfx n1 n2 n3 n4 Jo (show St cx _ (gX p z fr g N h out (SD p3 e v1 v2 v3 v4 v5::L)) from hS.sp));intro u1 w1 hG;have hG:=hG.drop;refine' KN;(exact AB))
    | (refine' J0;refine' J5)
   refine Qu ?_;rw [if_pos (show n0≠0 by omega)];refine' LF;refine' Pa;refine' J9 (c:=WJ (t:=e.yes) (inp:=inp) (fu:=fu) ⟨_,_,rfl,k1,k2⟩ hfn hi hfx y1 y2 y3 y4 Jo (show St cx _ (gX p z fr g N h out (SD p3 e v1 v2 v3 v4 v5::L)) from hS.sp));intro u1 w1 hG;have hG:=hG.drop;refine' KN;((exact AB))
 · have hX:(J6 h g fr inp out fu).fin f e=(J6 h g fr inp out fu).ret f e:=(if_neg Jo).trans (if_neg Jo);rw [hX];exact eD hx hfn hi hfx h8 h1 hf hn hS
end
section
variable {cx:Cx}{w:World}{L:List Res}{p N:Nat}{z:GZ}{fr:List FrmV}{g:FrmV}{h:HpS}{out inp:List Int}{fu:Nat}{m:Module}
@[reducible] def GZ.tick (z:GZ):GZ:=⟨z.fn,z.fv,z.iv,z.e,z.bv,z.ov,z.fu+1,z.mo,z.dn,z.c,z.a⟩
@[reducible] def GZ.stk (z:GZ)(c a:Int):GZ:=⟨z.fn,z.fv,z.iv,z.e,z.bv,z.ov,z.fu,z.mo,z.dn,c,a⟩
def wX (p:Nat)(z:GZ)(N fu most:Nat)(h:HpS)(out:List Int)(X:Stp)(at_:Int)(fr:List FrmV)(g:FrmV)(cx:Cx)(L:List Res)(u:Value)(w':World):Prop:=
 (fu=most∧u=Kn (0,0)∧St cx w' (gX p (z.end 7) fr g N h out L))
 ∨(fu≠most∧u=Kn (0,0)∧∃k,k≠2∧GQ p z.tick N (fu+1) h out X cx L (.int .i64 k) w')
 ∨(fu≠most∧X= .lost∧u=Kn (20,at_)∧∃lv left,St cx w' (L5 (z.tick.stk 20 at_) p lv left::L))
attribute [local irreducible] Frm.val Frm.num Frm.args Frm.rgs Frm.reg Kr MS.ins MS.fin MS.one MS.place
theorem ZE {b:Block}(hfn:Kj.sl cx z.fn m.funcs)(hi:JY.sl cx z.iv inp)(hfx:m.funcs[g.f]?=some f)(hbx:f.blocks[g.b]?=some b)(hci:∀x∈b.code,InsOK m x)(hce:R3 f b.fin)(hgi:g.i≤1000)(kf:g.f≤1000000)(kb:g.b≤1000000)(hf:fr.length≤900)(hn:g.vals.length≤800000)(hrn:g.regs.length≤800000)(hfr:∀x∈fr,x.vals.length≤900000)(hN:N≤99999)(hol:out.length≤2000)(hrg:∀v∈g.vals,LN v.n)(hdn:z.dn=false)(hc0:z.c=0)(ha0:z.a=0)(hfu:z.fu=fu)(hmo:z.mo=most)(hfm:fu≤1000000)(hS:St cx w (gX p z fr g N h out L)):
 JW Tryz.prog sV [.pointer (some ⟨p,0,none⟩)] w (wX p z N fu most h out ((J6 h g fr inp out (fu+1)).one m) ((J6 h g fr inp out fu).place m) fr g cx L):=by
 (have hgf:=(EJ.1 hfx).1;have hgb:=(EJ.1 hbx).1;refine Kd Kc Tryz.func24 ?_;refine' Rf;intro p2 w1 hS;refine' zn;refine' Mt;obtain ⟨lv,rv,ho,hS⟩:=O1 (p:=p) (fr:=fr) (g:=g) (N:=N) (h:=h) (out:=out) (L:=blk p2 29 [.int .i64 0, .int .i64 0]::L) hS.sp;refine' W6;rw [hdn];refine' Ll;refine' Rb;refine' SL;refine' fo;refine' KU;refine' PV;refine' Mt;refine zD (ci 10 [9]) ?_;have hS:=hS.drew;refine' zm;refine' Uk;refine' Uq;first|(refine' Ql)|(refine' Qn)|(refine' Ac<;>intro hc));all_goals (refine' zn)
 all_goals
  first
  | (refine' JZ;refine' KH;have hS:St cx _ (gX p z fr g N h out (blk p2 29 [.int .i64 0, .int .i64 0]::L)):=QN ho hS.sp;refine' J9 (c:=Ov 7 hS);rintro v1 w1 ⟨rfl,hS⟩;refine' W8;refine MA [_,_] ?_;refine Ka hS ?_;intro w1 hS;have hS:=hS.ns;refine' L8;refine Lw vw (Q4 (n:=2) Jk Jk (hS.blkAt fd) Jr Jr) ?_;(exact A9))
  | (refine' J0;refine' J5)
 (refine' KH;refine' Uk;refine' Nq;refine' ah;refine LP hS ?_;intro w1 hS;have hS:=hS.ns;refine' PW;refine' Kv (c:=R6 (z:=z.tick) Jo (show St cx _ (gL p z.tick lv h.left fr g _) from hS.sp));rintro v1 w1 ⟨b9,o9,rfl,hel,hS⟩;refine' Kg;refine Qu ?_;refine zC [(0,none),(1,none),(2,none),(3,none),(4,none),(5,none),(6,none),(7,none),(8,none),(9,none),(10,none),(11,none),(12,none),(13,none),(14,none),(15,none),(16,none),(17,none),(18,some (some [4,8,11,15,17])),(19,some none)] ?_;have hS:=hS.drew;refine' SP;refine' iy;refine' Mb;refine' Ri;refine' NB;refine QY hS hel rfl fd (Qp fr g) (QB fr g) rfl ?_;refine' KA;refine' zi;intro b8 o8 cs8 x8 hat8 hx8 he8;obtain rfl:f=x8:=E4 (hfx.symm.trans hx8);obtain ⟨vp8,vr8,vb8,rfl,hp8,hr8,hb8⟩:=Qw he8;refine' KA;refine' NB;refine' cm;refine' Mb;refine' Ri;refine' NB;refine Q2 (j:=1) hS hel rfl fd (Qp fr g) (QB fr g) rfl ?_;refine' KA;refine' zi;intro b7 o7 cs7 x7 hat7 hx7 he7;obtain rfl:b=x7:=E4 (hbx.symm.trans hx7);obtain ⟨vp7,vc7,u1,u2,u3,u4,u5,rfl,hp7,hc7,hu1,hu2,hu3,hu4,hu5⟩:=QZ he7;refine' W7;intro p4 w1 hS;refine' zt;refine ⟨EO.2 ⟨(by first|(exact Aj)|(exact Az)),EO.2 ⟨(by (exact A3)),EO.2 ⟨(by first|(exact Aj)|(exact Az)|(exact ky hS Ja rfl rfl)|(exact gN hS Ja rfl rfl)),EO.2 ⟨(by (exact Aj)),EO.2 ⟨(by first|(exact Aj)|(exact AO)|(exact Bd)),fun _ h=>(EY h).elim⟩⟩⟩⟩⟩,?_⟩;refine' Lx;refine Ka hS ?_;intro w1 hS;have hS:=hS.ns;refine' Lc;refine Qu ?_;refine zD (ci 10 [8,9]) ?_;have hS:=hS.drew;refine' RN;refine QY hS hel rfl fd (Qp fr g) (QB fr g) rfl ?_;refine' RN;refine Q2 (j:=1) hS hel rfl fd (Qp fr g) (QB fr g) rfl ?_;refine' J9 (c:=ph g.f g.b kf kb hS);rintro v1 w1 ⟨rfl,hS⟩;refine' Kg;refine' LG;refine' Mt;refine zD (ci 8 [7]) ?_;have hS:=hS.drew;refine' RN;refine Q2 (j:=2) hS hel rfl fd (Qp fr g) (QB fr g) rfl ?_;refine' KK;refine' zL;first|(refine' K0)|(refine' K1)|(refine' Ae<;>intro hc));all_goals (refine' zn)
 all_goals
  first
  | (refine' JZ
     refine Qu ?_;refine zD (ci 14 [12,13]) ?_;have hS:=hS.drew;refine' RN;refine QY hS hel rfl fd (Qp fr g) (QB fr g) rfl ?_;refine' RN;refine Q2 (j:=1) hS hel rfl fd (Qp fr g) (QB fr g) rfl ?_;refine' RN;refine Q2 (j:=2) hS hel rfl fd (Qp fr g) (QB fr g) rfl ?_;refine' K5 (c:=pj g.f g.b g.i kf kb Jo hS);rintro v1 w1 ⟨rfl,hS⟩;refine' Kg;refine zD (ci 11 [9,10]) ?_;have hS:=hS.drew;refine' zm;refine' KK;refine' RN;refine Q2 (j:=2) hS hel rfl fd (Qp fr g) (QB fr g) rfl ?_;(refine' zi;intro b6 o6 cs6 x6 hat6 hx6 he6;obtain ⟨vr6,va6,rfl,hr6,ha6⟩:=Nh he6);refine' MZ;have hX:=jE (s:=J6 h g fr inp out (fu+1)) hfx hbx hx6;have hP:=Zn (s:=J6 h g fr inp out fu) hfx hbx (EJ.1 hx6).1;obtain ⟨i1,i2,i3,i4⟩:=hci x6 (EI hx6);refine' J9 (c:=eB (z:=z.tick) (inp:=inp) (fu:=fu+1) (m:=m) he6 hfn hi i1 i2 i3 i4 hgi hf hn hrn hN hol hrg (show St cx _ (gX p z.tick fr g N h out _) from QN ho hS.sp));intro u9 w1 hG;rw [show MS.ins m (J6 h g.nx fr inp out (fu+1)) x6=(J6 h g fr inp out (fu+1)).one m from hX.symm] at hG;rcases hG with ⟨fv,iv,ov,fr',g',N',h',inp',out',h1,h2,h3,rfl,hS⟩|⟨e,fr',g',N',h1,h2,rfl,hS⟩|⟨l,bv,fr',g',N',h1,h2,h3,rfl,hS⟩|⟨h1,rfl,lv9,left9,hS⟩
     all_goals (refine' zm);all_goals refine' zn)
  | (refine' J0
     refine' LF;refine' Pa;have hX:=jF (s:=J6 h g fr inp out (fu+1)) hfx hbx (by show b.code.length≤g.i;omega);have hP:=Zo (s:=J6 h g fr inp out fu) hfx hbx (by show¬g.i<b.code.length;omega);refine' J9 (c:=eE (z:=z.tick) (e:=b.fin) (inp:=inp) (fu:=fu+1) (m:=m) ⟨_,_,_,_,_,rfl,hu1,hu2,hu3,hu4,hu5⟩ hfn hi hfx hce hf hfr (show St cx _ (gX p z.tick fr g N h out _) from QN ho hS.sp));intro u9 w1 hG;rw [←hX] at hG;rcases hG with ⟨fv,iv,ov,fr',g',N',h',inp',out',h1,h2,h3,rfl,hS⟩|⟨e,fr',g',N',h1,h2,rfl,hS⟩|⟨l,bv,fr',g',N',h1,h2,h3,rfl,hS⟩|⟨h1,rfl,lv9,left9,hS⟩
     all_goals (refine' zm);all_goals refine' zn)
 all_goals (refine' Mt;(first|(obtain ⟨lv2,rv2,ho2,hS⟩:=O1 hS)|skip);refine' LF;refine' Rc;refine' zn)
 all_goals
  first
  | (refine' JZ;all_goals (refine' Oj;refine' J9 (c:=MD hS);rintro v1 w1 ⟨rfl,hS⟩;refine' Mm;(first|(refine Ka hS ?_;intro w1 hS;have hS:=hS.ns)|(refine cj hS ?_;intro w1 hS;have hS:=hS.ns)));all_goals refine' zn)
  | (refine' J0;all_goals refine' J5)
 all_goals (refine' KH;refine' Mm;refine zv hS ?_;refine Ka hS ?_;intro w1 hS;have hS:=hS.ns;refine' L8;refine Lw vw (Q4 (n:=2) Jk Jk (hS.blkAt fd) Jr Jr) ?_;(first|(first|exact A9|exact ⟨_,rfl, .inr (.inl ⟨Jo,by show Value.agg ⟨[.int .i64 z.c, .int .i64 z.a]⟩=_;rw [hc0,ha0];rfl,0,by decide, .inl ⟨fv,iv,ov,fr',g',N',h',inp',out',h1,h2,h3,rfl,QN ho2 hS.sp⟩⟩)⟩|exact ⟨_,rfl, .inr (.inl ⟨Jo,by show Value.agg ⟨[.int .i64 z.c, .int .i64 z.a]⟩=_;rw [hc0,ha0];rfl,1,by decide, .inr (.inl ⟨e,fr',g',N',h1,h2,rfl,QN ho2 hS.sp⟩)⟩)⟩|exact ⟨_,rfl, .inr (.inl ⟨Jo,by show Value.agg ⟨[.int .i64 z.c, .int .i64 z.a]⟩=_;rw [hc0,ha0];rfl,1,by decide, .inr (.inr (.inl ⟨l,bv,fr',g',N',h1,h2,h3,rfl,QN ho2 hS.sp⟩))⟩)⟩)|(rw [hP];exact ⟨_,rfl, .inr (.inr ⟨Jo,h1,rfl,lv9,left9,hS.sp⟩)⟩)))
end
end Go.Proofs.YteflkifmgnpbhaaGreat
namespace Go.Lir
def VR (l:List Val):Prop:=∀v∈l,LN v.n
def TR (t:Thg):Prop:=t.l.length≤1000∧VR t.l
def RR (r:Rgn):Prop:=∀t∈r.l,TR t
def HR (h:HpS):Prop:=∀r∈h.l,RR r
structure Rg (s:MS):Prop where
 g:VR s.g.vals
 st:∀x∈s.st,VR x.vals
 h:HR s.h
 inp:∀n∈s.inp,LN n
theorem aS:LN 0:=by unfold LN;omega
theorem eF {n:Nat}(h:n≤1000):LN n:=by unfold LN;omega
theorem VR.nil:VR []:=fun v hv=>by cases hv
theorem VR.one (h:LN v.n):VR [v]:=fun u hu=>by rw [Fp.1 hu];exact h
theorem VR.app {a b:List Val}(ha:VR a)(hb:VR b):VR (a++b):=fun v hv=>(E3.1 hv).elim (ha v) (hb v)
theorem RR.none:RR Rgn.none:=fun t ht=>by cases ht
abbrev Jg:=@RR.none
theorem TR.dflt:TR ⟨false,[]⟩:=⟨FB _,VR.nil⟩
theorem val_in {k:Int}(hg:VR g.vals)(h:g.val k=some v):LN v.n:=by
 unfold Frm.val at h;split at h
 · cases h
 · exact hg v (EI h)
theorem eG {k:Int}(hg:VR g.vals)(h:g.num k=some n):LN n:=by
 obtain ⟨v,hv,rfl⟩:=qK h;exact hg v hv
theorem jX {g:Frm}(hg:VR g.vals):∀{l:List Int}{vs:List Val},g.args l=some vs→VR vs
 | [],vs,h=>by rw [Frm.args] at h;cases h;exact VR.nil
 | k ::l,vs,h=>by
   rw [Frm.args] at h
   cases hv:g.val k with
   | none=>rw [hv] at h;cases h
   | some v=>
     rw [hv] at h
     cases hl:g.args l with
     | none=>rw [hl] at h;cases h
     | some us=>
       rw [hl] at h;cases h;intro u hu;rcases ES.1 hu with rfl|hu
       · exact val_in hg hv
       · exact jX hg hl u hu
theorem q8 {α:Type}{P:α→Prop}{l:List α}{k:Nat}{d:α}(h:∀x∈l,P x)(hd:P d):P (l.getD k d):=by
 rw [EL]
 cases hk:l[k]? with
 | none=>exact hd
 | some x=>exact h x (EI hk)
theorem HR.reg (hh:HR h)(k:Int):RR (h.reg k):=by
 unfold HpS.reg;split
 · exact q8 (P:=RR) hh Jg
 · exact Jg
theorem HR.thg (hh:HR h)(k t:Nat):TR (h.thg k t):=q8 (P:=TR) (hh.reg k) TR.dflt
theorem HR.upd {l:List Rgn}{k:Nat}{r:Rgn}(hh:HR ⟨l,a⟩)(hr:RR r):HR ⟨l.set k r,b⟩:=fun q hq=>by
 rcases K8 hq with rfl|hq
 · exact hr
 · exact hh q hq
theorem HR.open (hh:HR h):HR h.open:=by
 unfold HpS.open;split
 · exact hh
 · intro r hr
   rcases E3.1 hr with hr|hr
   · exact hh r hr
   · rw [Fp.1 hr];exact Jg
theorem WK:LN h.openV.n:=by
 unfold HpS.openV;split<;>exact aS
theorem HR.shut (hh:HR h)(v:Val):HR (h.shut v):=by
 unfold HpS.shut;split
 · exact HR.upd (a:=h.left) hh Jg
 · exact hh
theorem HR.put (hh:HR h)(v:Val)(n:Int){t:Thg}(ht:TR t):HR (h.put v n t):=by
 unfold HpS.put;split
 · refine HR.upd (a:=h.left) hh fun u hu=>?_
   have hl:(((h.reg v.region).room n).push t).l=(h.reg v.region).l++[t]:=(by unfold Rgn.room;split<;>rfl);rw [hl] at hu;rcases E3.1 hu with hu|hu
   · exact hh.reg _ u hu
   · rw [Fp.1 hu];exact ht
 · exact hh
theorem wY {k:Int}:LN (h.putV v k n).n:=by
 unfold HpS.putV;split<;>exact aS
theorem HR.arr (hh:HR h)(v:Val)(n:Int):HR (h.arr v n):=by
 unfold HpS.arr;split
 · exact hh
 · refine hh.put v _ ⟨?_,fun u hu=>?_⟩
   · show (List.replicate _ _).length≤1000;rw [FO];omega
   · rw [Gm hu];exact aS
theorem ZF:LN (h.arrV v n).n:=by
 unfold HpS.arrV;split
 · exact aS
 · exact wY
theorem WL (hh:HR h)(v:Val)(k:Int):LN (h.get v k).1.n:=by
 unfold HpS.get;split
 · exact aS
 · split
   · exact q8 (P:=fun v:Val=>LN v.n) (hh.thg _ _).2 aS
   · exact aS
theorem eH (hh:HR h)(v:Val):LN (h.len v).1:=by
 unfold HpS.len;split
 · exact aS
 · exact eF (hh.thg _ _).1
theorem HR.set (hh:HR h)(v:Val)(k:Int){x:Val}(hx:LN x.n):HR (h.set v k x):=by
 unfold HpS.set;split
 · exact hh
 · rename_i r t _
   split
   · refine HR.upd (a:=h.left) hh fun u hu=>?_
     rcases K8 hu with rfl|hu
     · refine ⟨by show ((h.thg r t).l.set _ _).length≤_;rw [Fe];exact (hh.thg r t).1,fun y hy=>?_⟩
       rcases K8 hy with rfl|hy
       · exact hx
       · exact (hh.thg r t).2 y hy
     · exact hh.reg _ u hu
   · exact hh
section
variable {m:Module}{s:MS}
theorem Rg.put (h:Rg s)(hv:VR vs):Rg (s.put vs):=⟨h.g.app hv,h.st,h.h,h.inp⟩
theorem Rg.hp (h:Rg s){q:HpS}(hq:HR q):Rg (s.hp q):=⟨h.g,h.st,hq,h.inp⟩
theorem Rg.made (h:Rg s){q:HpS}(hq:HR q)(hv:LN v.n):(s.made e q v).All Rg:=by
 unfold MS.made;exact E2 (fun _=>trivial) fun _=>E2 (fun _=>trivial) fun _=>(h.hp hq).put (.one hv)
theorem Rg.ins (h:Rg s)(hx:Qj m.funcs.length x=0)(hn:LN x.n):(s.ins m x).All Rg:=by
 obtain ⟨q1,q2⟩:=cJ hx;have h1:∀(v:Val),LN v.n→(Stp.go (s.put [v])).All Rg:=fun v hv=>h.put (.one hv);have h2:∀(q:HpS),HR q→(Stp.go (s.hp q)).All Rg:=fun q hq=>h.hp hq;unfold MS.ins
 refine E2 (fun _=>h1 _ hn) fun _=>E2 (fun _=>E6 fun a _=>E6 fun b _=>E2 (fun _=>trivial) fun _=>h1 _ (ew _ _ _)) fun _=>E2 (fun _=>?_) fun _=>
  E2 (fun _=>E6 fun v _=>E2 (fun _=>trivial) fun _=>h2 _ (h.h.shut v)) fun _=>E2 (fun _=>E6 fun v _=>E6 fun l hl=>h.made (h.h.put v _ ⟨by have:=cK hl;show l.length≤_;omega,jX h.g hl⟩) wY) fun _=>
  E2 (fun _=>E6 fun v _=>E2 (fun _=>trivial) fun _=>E2 (fun _=>trivial) fun _=>h1 _ (WL h.h _ _)) fun _=>
  E2 (fun _=>E6 fun v _=>E2 (fun _=>trivial) fun _=>E6 fun y hy=>E2 (fun _=>trivial) fun _=>h2 _ (h.h.set _ _ (val_in h.g hy))) fun _=>
  E2 (fun _=>E6 fun v _=>E6 fun n _=>E2 (fun _=>trivial) fun _=>h.made (h.h.arr _ _) ZF) fun _=>
  E2 (fun _=>E6 fun v _=>E6 fun n _=>fH (h1 _ (WL h.h _ _))) fun _=>
  E2 (fun _=>E6 fun v _=>E6 fun n _=>E6 fun c hc=>fH (h2 _ (h.h.set _ _ (eG h.g hc)))) fun _=>
  E2 (fun _=>E6 fun v _=>fH (h1 _ (eH h.h _))) fun _=>E2 (fun _=>?_) fun _=>E2 (fun _=>E6 fun n _=>?_) fun _=>?_
 · unfold MS.newR;exact E2 (fun _=>trivial) fun _=>⟨h.g.app (.one WK),h.st,h.h.open,h.inp⟩
 · unfold MS.inS
   cases hi:s.inp with
   | nil=>exact trivial
   | cons n r=>exact ⟨h.g.app (.one (h.inp n (by rw [hi];simp))),h.st,h.h,fun q hq=>h.inp q (by rw [hi];exact E9 _ hq)⟩
 · unfold MS.outS;exact E2 (fun _=>trivial) fun _=>⟨h.g,h.st,h.h,h.inp⟩
 · unfold MS.call
   split
   · exact trivial
   · refine E6 fun rs _=>E6 fun vs hv=>E2 (fun _=>trivial) fun _=>E2 (fun _=>trivial) fun _=>?_
     refine ⟨jX h.g hv,fun y hy=>?_,h.h,h.inp⟩;rcases ES.1 hy with rfl|hy
     · exact h.g
     · exact h.st y hy
theorem Rg.to (h:Rg s):(s.to f t).All Rg:=by
 unfold MS.to;split
 · exact trivial
 · exact E6 fun rs _=>E6 fun vs hv=>E2 (fun _=>trivial) fun _=>⟨jX h.g hv,h.st,h.h,h.inp⟩
theorem Rg.fin (h:Rg s){e:Tail}{n:Nat}(he:QU n e=0):(s.fin f e).All Rg:=by
 unfold MS.fin;refine E2 (fun _=>h.to) fun _=>E2 (fun _=>E6 fun n _=>E2 (fun _=>h.to) fun _=>h.to) fun _=>?_;unfold MS.ret;refine E6 fun vs hv=>E2 (fun _=>trivial) fun _=>?_
 cases hs:s.st with
 | cons c st=>exact Rg.put (s:=⟨s.h,c,st,s.inp,s.out,s.fuel⟩) ⟨h.st c (by rw [hs];simp),fun x hx=>h.st x (by rw [hs];exact E9 _ hx),h.h,h.inp⟩ (jX h.g hv)
 | nil=>
   dsimp only
   cases hi:Kr vs with
   | none=>exact trivial
   | some ns=>show ns.length≤8;rw [oS hi,cK hv];exact lg he
theorem Rg.one {k:Nat}(h:Rg s)(hB:Bnd m k s)(hM:m.fault.1=0)(hR:m.InR):(s.one m).All Rg:=by
 obtain ⟨f,b,hf,hb,hi,hv,hr⟩:=hB.cur;obtain ⟨-,q1,q2⟩:=Pp hM hf hb;unfold MS.one;rw [hf];dsimp only;rw [hb];dsimp only
 cases hx:b.code[s.g.i]? with
 | none=>exact h.fin q2
 | some x=>
   have hxm:=EI hx;have hxr:=((hR f (EI hf)).2.2.2 b (EI hb)).2.2.1 x hxm;exact Rg.ins (s:=s.next) ⟨h.g,h.st,h.h,h.inp⟩ (q1 x hxm) hxr.1.2.2.2.2.2
theorem Rg.start {inp:List Int}(hi:∀n∈inp,LN n):Rg (MS.start inp pages):=⟨VR.nil,fun x hx=>(by cases hx),fun r hr=>(by cases hr),hi⟩
end
end Go.Lir
namespace Go.Proofs.YteflkifmgnpbhaaGreat
open Go.Lir
attribute [local irreducible] LC.wp Q0 Qh Qd Kq Qz LO.wp Q5 Calls
section
variable {cx:Cx}{w:World}{L:List Res}{p N:Nat}{z:GZ}{fr:List FrmV}{g:FrmV}{h:HpS}{out inp:List Int}{fu:Nat}{m:Module}
@[reducible] def ZG (fn fv iv:Value)(fuel:Int):GZ:=⟨fn,fv,iv,0, .slice none 0 0, .slice none 0 0,0,fuel,false,0,0⟩
theorem WM {vf v:Value}(hp:0≤pages∧pages≤1000)(hi:JY.sl cx v inp)(hS:St cx w L):JW Tryz.prog Ut [.agg ⟨[vf]⟩,v, .int .i64 fuel, .int .i64 pages] w fun u w'=>
 ∃p fv,u= .pointer (some ⟨p,0,none⟩)∧St cx w' (gX p (ZG vf fv v fuel) [] PD 0 ⟨[],pages⟩ [] L):=by
 obtain ⟨av,nv,hv⟩:=hi.shape;subst hv;refine Kd Kc Tryz.func22 ?_;refine' KO;intro p4 w1 hS;refine' Kg;refine' Nr;refine' zm;refine Oy [_,_] ?_;refine MA [_,_,_,_,_] ?_;refine KY hS [_,_,_,_,_] ?_;intro b1 w1 hS;refine' MQ;refine y9 [_,_,_,_,_,_,_,_,_,_,_,_,_] ?_;refine zb hS ?_;intro p17 w1 hS;refine' KN;((have hS:=Gp (T:=119) (es:=5) (css:=Ou [] PD) (hS.out (r:=blk b1 119 [.int .i64 0, .int .i64 0, .int .i64 0, .slice none 0 0, .slice none 0 0]) fd) rfl (by simp [Ou,FrmV.cells]) rfl;simp only [Gs,F6] at hS;have hS:=HW FrmV.res1 (HW (RgnV.res H1) hS);have hS:=hS.nil (T:=182) (es:=4);have hS:=hS.nil (T:=3) (es:=1);have hS:=hS.nil (T:=2) (es:=1);have hS:=hS.nil (T:=131) (es:=4);exact ⟨_,rfl,p17,_,rfl,QN (z:=ZG vf (.slice (some ⟨b1,0,none⟩) 1 1) (.slice av inp.length nv) fuel) (lv:= .slice none 0 0) (rv:=[]) ⟨rfl,HpS.ok_new hp⟩ hS.sp⟩))
end
section
variable {cx:Cx}{w:World}{L:List Res}{p N:Nat}{c:MC}{z:GZ}{fr:List FrmV}{g:FrmV}{h:HpS}{out inp back:List Int}{m:Module}
def PR (m:Module)(most:Nat)(c:MC)(fr:List FrmV)(g:FrmV)(N:Nat)(h:HpS)(inp out back:List Int):Run→Prop
 | .on s=>s=J6 h g fr inp out s.fuel∧back=[]∧c.dn=false∧c.c=0∧c.e=0∧c.fu=s.fuel∧s.fuel≤most∧c.mo=most∧N≤s.fuel∧Bnd m s.fuel s
 | .over s e b=>h=s.h∧out=s.out∧back=b∧c.dn=true∧c.e=e∧c.fu=s.fuel∧out.length≤2000∧back.length≤100000
 | .stuck _=>False
def DR (m:Module)(most:Nat)(z:GZ)(fr:List FrmV)(g:FrmV)(N:Nat)(h:HpS)(inp out back:List Int):Run→Prop
 | .on s=>s=J6 h g fr inp out s.fuel∧back=[]∧z.dn=false∧(z.c=0∧z.a=0)∧z.e=0∧z.fu=s.fuel∧s.fuel≤most∧z.mo=most∧N≤s.fuel∧Bnd m s.fuel s∧Rg s
 | .over s e b=>h=s.h∧out=s.out∧back=b∧z.dn=true∧(z.c=0∧z.a=0)∧z.e=e∧z.fu=s.fuel∧N≤most+1∧out.length≤2000∧back.length≤100000
 | .stuck _=>False
theorem jY (hB:Bnd m s.fuel s)(hM:m.fault.1=0):(s.tick.one m).All (Bnd m (s.fuel+1)):=JR (s:=s.tick) (k:=s.fuel) ⟨hB.cur,hB.st,hB.sl,hB.out⟩ hM
theorem q9 (hR:Rg s)(hB:Bnd m s.fuel s)(hM:m.fault.1=0)(hIn:m.InR):(s.tick.one m).All Rg:=Rg.one (s:=s.tick) (k:=s.fuel) ⟨hR.g,hR.st,hR.h,hR.inp⟩ ⟨hB.cur,hB.st,hB.sl,hB.out⟩ hM hIn
theorem PR.step (hP:PR m most c fr g N h inp out back (.on s))(hM:m.fault.1=0)(hi:JY.sl cx c.iv inp)(hs:aK m p c fr g N h inp out (s.fuel+1) cx (sl 2 1 c.bv []::L) u w):
 (∀f,Run.step m most (.on s)≠ .stuck f)∧(u=Kn (0,0)∧∃c' fr' g' N' h' inp' out' back',PR m most c' fr' g' N' h' inp' out' back' (Run.step m most (.on s))∧c'.fn=c.fn∧JY.sl cx c'.iv inp'∧SW c'<SW c∧St cx w (mS p c' fr' g' N' h' out' (sl 2 1 c'.bv (Qq back')::L)))∨
 ∃(f:Int) (c':MC),Run.step m most (.on s)= .stuck (20,f)∧u=Kn (20,f)∧c'.c=20∧c'.a=f∧St cx w (blk p 55 c'.cells::L):=by
 obtain ⟨hms, -,hdn,hc0,he0,hfu,hkm,hmo,hN,hB⟩:=hP;generalize hk:s.fuel=k at*;subst hms;rcases hs with ⟨h7,rfl,hS⟩|⟨hlt,hs⟩
 · have hst:Run.step m most (.on (J6 h g fr inp out k))= .over (J6 h g fr inp out k) 7 []:=if_pos (show k=most by omega);rw [hst];refine .inl ⟨fun f hf=>(by cases hf),rfl,c.over 7,fr,g,N,h,inp,out,[],⟨rfl,rfl,rfl,rfl,rfl,hfu,hB.out,FB _⟩,rfl,hi,?_,hS⟩;unfold SW;rw [hdn];show 2*(c.mo - c.fu).toNat+0<2*(c.mo - c.fu).toNat+1;omega
 · have hst:Run.step m most (.on (J6 h g fr inp out k))= .of m (J6 h g fr inp out k) ((J6 h g fr inp out (k+1)).one m):=if_neg (show¬k=most by omega)
   have hB1:((J6 h g fr inp out (k+1)).one m).All (Bnd m (k+1)):=jY (s:=J6 h g fr inp out k) hB hM;have hmm:2*(c.mo - (c.fu+1)).toNat+1<2*(c.mo - c.fu).toNat+1:=Dc;have hmz:2*(c.mo - (c.fu+1)).toNat+0<2*(c.mo - c.fu).toNat+1:=Dc;rcases hs with ⟨rfl,hG⟩|⟨e,hX,rfl,fr',g',N',hN',hS⟩|⟨hX,rfl,hS⟩
   · rcases hG with ⟨lv,iv,ov,fr',g',N',h',inp',out',hX,hi',hN', -,hS⟩|⟨ns,bv,fr',g',hX, -,hS⟩
     · rw [hX] at hst hB1
       rw [hst];refine .inl ⟨fun f hf=>(by cases hf),rfl,c.tick.upd lv iv ov,fr',g',N',h',inp',out',[],⟨rfl,rfl,hdn,hc0,he0,?_,?_,hmo,?_,hB1⟩,rfl,hi',?_,hS⟩
       · show c.fu+1=((k+1:Nat):Int);omega
       · show k+1≤most;omega
       · show N'≤k+1;omega
       · unfold SW;rw [hdn];exact hmm
     · rw [hX] at hst hB1
       rw [hst];refine .inl ⟨fun f hf=>(by cases hf),rfl,⟨c.hp,c.fn,c.lv,c.iv,c.e,bv,c.ov,c.fu+1,c.mo,true,c.c,c.a⟩,fr',g',N,h,inp,out,ns,⟨rfl,rfl,rfl,rfl,he0,?_,hB.out,?_⟩,rfl,hi,?_,(hS.subP Di)⟩
       · show c.fu+1=((k+1:Nat):Int);omega
       · have h8:ns.length≤8:=hB1;omega
       · unfold SW;rw [hdn];exact hmz
   · rw [hX] at hst
     rw [hst];refine .inl ⟨fun f hf=>(by cases hf),rfl,c.tick.over e,fr',g',N',h,inp,out,[],⟨rfl,rfl,rfl,rfl,rfl,?_,hB.out,FB _⟩,rfl,hi,?_,hS⟩
     · show c.fu+1=((k+1:Nat):Int);omega
     · unfold SW;rw [hdn];exact hmz
   · rw [hX] at hst;rw [hst];exact .inr ⟨_,c.tick.stk ((J6 h g fr inp out (k+1)).place m),rfl,rfl,rfl,rfl,(hS.subP Di)⟩
theorem DR.step (hP:DR m most z fr g N h inp out back (.on s))(hM:m.fault.1=0)(hIn:m.InR)(hi:JY.sl cx z.iv inp)(hs:wX p z N s.fuel most h out ((J6 h g fr inp out (s.fuel+1)).one m) ((J6 h g fr inp out s.fuel).place m) fr g cx (sl 2 1 z.bv []::L) u w):
 (u=Kn (0,0)∧∃z' fr' g' N' h' inp' out' back',DR m most z' fr' g' N' h' inp' out' back' (Run.step m most (.on s))∧z'.fn=z.fn∧JY.sl cx z'.iv inp'∧St cx w (gX p z' fr' g' N' h' out' (sl 2 1 z'.bv (Qq back')::L)))∨
 ∃(f:Int) (z':GZ) (lv:Value) (left:Int),Run.step m most (.on s)= .stuck (20,f)∧u=Kn (20,f)∧z'.c=20∧z'.a=f∧z'.dn=false∧St cx w (L5 z' p lv left::L):=by
 obtain ⟨hms, -,hdn,⟨hc0,ha0⟩,he0,hfu,hkm,hmo,hN,hB,hR⟩:=hP;generalize hk:s.fuel=k at*;subst hms;have hst:k≠most→Run.step m most (.on (J6 h g fr inp out k))= .of m (J6 h g fr inp out k) ((J6 h g fr inp out (k+1)).one m):=fun hne=>if_neg (show¬k=most from hne);have hB1:((J6 h g fr inp out (k+1)).one m).All (Bnd m (k+1)):=jY (s:=J6 h g fr inp out k) hB hM;have hR1:((J6 h g fr inp out (k+1)).one m).All Rg:=q9 (s:=J6 h g fr inp out k) hR hB hM hIn;rcases hs with ⟨h7,rfl,hS⟩|⟨hlt,rfl,q,hq,hG⟩|⟨hlt,hX,rfl,lv,left,hS⟩
 · have hs7:Run.step m most (.on (J6 h g fr inp out k))= .over (J6 h g fr inp out k) 7 []:=if_pos (show k=most by omega);rw [hs7];exact .inl ⟨rfl,z.end 7,fr,g,N,h,inp,out,[],⟨rfl,rfl,rfl,rfl,⟨hc0,ha0⟩,rfl,hfu,Jo,hB.out,FB _⟩,rfl,hi,hS⟩
 · have hst:=hst hlt
   rcases hG with ⟨fv,iv,ov,fr',g',N',h',inp',out',hX,hi',hN', -,hS⟩|⟨e,fr',g',N',hX,hN', -,hS⟩|⟨l,bv,fr',g',N',hX,hN',hl, -,hS⟩|⟨-,hu, -⟩
   · rw [hX] at hst hB1 hR1
     rw [hst];refine .inl ⟨rfl,z.tick.upd fv iv ov,fr',g',N',h',inp',out',[],⟨rfl,rfl,hdn,⟨hc0,ha0⟩,he0,?_,?_,hmo,?_,hB1,hR1⟩,rfl,hi',hS⟩
     · show z.fu+1=((k+1:Nat):Int);omega
     · show k+1≤most;omega
     · show N'≤k+1;omega
   · rw [hX] at hst;rw [hst];refine .inl ⟨rfl,z.tick.end e,fr',g',N',h,inp,out,[],⟨rfl,rfl,rfl,rfl,⟨hc0,ha0⟩,rfl,?_,Jo,hB.out,FB _⟩,rfl,hi,hS⟩;show z.fu+1=((k+1:Nat):Int);omega
   · rw [hX] at hst;rw [hst];refine .inl ⟨rfl,(z.tick.bk bv).end 0,fr',g',N',h,inp,out,l,⟨rfl,rfl,rfl,rfl,⟨hc0,ha0⟩,rfl,?_,Jo,hB.out,hl⟩,rfl,hi,(hS.subP Di)⟩;show z.fu+1=((k+1:Nat):Int);omega
   · cases hu;exact absurd rfl hq
 · have hst:=hst hlt;rw [hX] at hst;rw [hst];exact .inr ⟨_,z.tick.stk 20 ((J6 h g fr inp out k).place m),lv,left,rfl,rfl,rfl,rfl,hdn,(hS.subP Di)⟩
end
section
variable {cx:Cx}{w:World}{L:List Res}{p N:Nat}{c:MC}{z:GZ}{fr:List FrmV}{g:FrmV}{h:HpS}{out inp back:List Int}{m:Module}
theorem ZH {k:Nat}(hB:Bnd m k (J6 h g fr inp out k))(hM:m.fault.1=0)(hk:k≤most)(hm:most≤20000):∃f b,m.funcs[g.f]?=some f∧f.blocks[g.b]?=some b∧(∀x∈b.code,InsOK m x)∧R3 f b.fin∧g.i≤1000∧g.f≤1000000∧g.b≤1000000∧fr.length≤900∧g.vals.length≤800000∧g.regs.length≤800000∧(∀x∈fr,x.vals.length≤900000)∧out.length≤2000:=by
 obtain ⟨f,b,hf,hb,h1,h2,h3⟩:=hB.cur;obtain ⟨q0,q1,q2⟩:=Pp hM hf hb;obtain ⟨e1,e2,e3,e4⟩:=SI q2;have hcl:=(Z2 q0).2.2.2.2;have hfl:=kL hM;have hbl:=(SJ (P9 hM hf)).2.2.2.2;have hgf:=(EJ.1 hf).1;have hgb:=(EJ.1 hb).1;have hsl:=hB.sl;have hst:(J6 h g fr inp out k).st.length=fr.length:=(by show (fr.map FrmV.abs).reverse.length=_;simp);have h1:g.i≤b.code.length:=h1;have h2:g.vals.length≤8+8*k:=h2;have h3:g.regs.length≤16+k:=h3;have hgf:g.f<m.funcs.length:=hgf;have hgb:g.b<f.blocks.length:=hgb;have hto:∀{t:To},LK f.blocks.length t true=0→ToOK f t:=fun ht=>⟨WW ht,by have:=iN ht;omega,by have:=iN ht;omega⟩;refine ⟨f,b,hf,hb,fun x hx=>⟨T0 (q1 x hx),oQ (q1 x hx),by have:=cJ (q1 x hx);omega,by have:=cJ (q1 x hx);omega⟩,⟨by have:=lg q2;omega,⟨e1,e2⟩,fun hq=>hto Ep,fun hq=>hto Em⟩,Jo,Jo,Jo,Jo,Jo,Jo,?_,hB.out⟩;intro x hx;obtain ⟨f9,b9,_,_,_,h9,_⟩:=hB.st x.abs (by show x.abs∈(fr.map FrmV.abs).reverse;rw [List.mem_reverse];exact Gu hx);have h9:x.vals.length≤8+8*k:=h9;omega
theorem ZI (hP:DR m most z fr g N h inp out back (.on s))(hM:m.fault.1=0)(hIn:m.InR)(hmo:most≤20000)(hfn:Kj.sl cx z.fn m.funcs)(hi:JY.sl cx z.iv inp)(hS:St cx w (gX p z fr g N h out (sl 2 1 z.bv (Qq back)::L))):
 JW Tryz.prog sV [.pointer (some ⟨p,0,none⟩)] w fun u w'=>
  (u=Kn (0,0)∧∃z' fr' g' N' h' inp' out' back',DR m most z' fr' g' N' h' inp' out' back' (Run.step m most (.on s))∧z'.fn=z.fn∧JY.sl cx z'.iv inp'∧St cx w' (gX p z' fr' g' N' h' out' (sl 2 1 z'.bv (Qq back')::L)))∨
  ∃(f:Int) (z':GZ) (lv:Value) (left:Int),Run.step m most (.on s)= .stuck (20,f)∧u=Kn (20,f)∧z'.c=20∧z'.a=f∧z'.dn=false∧St cx w' (L5 z' p lv left::L):=by
 have hP':=hP;obtain ⟨hms,rfl,hdn,⟨hc0,ha0⟩,he0,hfu,hkm,hmo2,hN,hB,hR⟩:=hP;rw [hms] at hB;have hRg:∀v∈g.vals,LN v.n:=(by rw [hms] at hR;exact hR.g);obtain ⟨f,b,hf,hb,k1,k2,k3,k4,k5,k6,k7,k8,k9,k10⟩:=ZH hB hM hkm hmo;exact (ZE (m:=m) (f:=f) (b:=b) (inp:=inp) (fu:=s.fuel) (most:=most) hfn hi hf hb k1 k2 k3 k4 k5 k6 k7 k8 k9 Jo k10 hRg hdn hc0 ha0 hfu hmo2 Jo hS).mono fun u w' hs=>hP'.step hM hIn hi hs
end
section
variable {cx:Cx}{w:World}{L:List Res}{p N:Nat}{c:MC}{z:GZ}{fr:List FrmV}{g:FrmV}{h:HpS}{out inp back:List Int}{m:Module}
def ee (inp:List Int)(fuel pages:Int):LV:=if 200<inp.length∨fuel<0∨20000<fuel∨pages<0∨64<pages then (1, -1) else (0,0)
theorem Qhk {v:Value}(hi:JY.sl cx v inp)(hS:St cx w L):JW Tryz.prog zk [v, .int .i64 fuel, .int .i64 pages] w fun u w'=>u=Kn (ee inp fuel pages)∧St cx w' L:=by
 (((((have hil:=hi.len;refine Kd Kc Tryz.func15 ?_;refine' Rf;intro p6 w1 hS;refine' zn;refine' MN;refine' zL;first|(refine' QV)|(refine' KM)|(refine' Af<;>intro hc));all_goals (refine' Ll;first|refine' J1|(refine' J4;(first|(refine' K0)|(refine' K1)|(refine' Ae<;>intro hc)))));all_goals (refine' Pw;first|refine' J1|(refine' J4;(first|(refine' QV)|(refine' KM)|(refine' Af<;>intro hc)))));all_goals (refine' Pw;first|refine' J1|(refine' J4;(first|(refine' K0)|(refine' K1)|(refine' Ae<;>intro hc)))));all_goals (refine' Pw;first|refine' J1|(refine' J4;(first|(refine' QV)|(refine' KM)|(refine' Af<;>intro hc)))));all_goals (refine' KU)
 all_goals
  first
  | (refine' JZ;all_goals (refine' Ki;refine' J9 (c:=MD hS);rintro v1 w1 ⟨rfl,hS⟩;refine Ka hS ?_;intro w1 hS;have hS:=hS.ns;refine' L8;refine Lw vw (Q4 (n:=2) Jk Jk (hS.blkAt fd) Jr Jr) ?_);all_goals ((first|exact C4|exact ⟨_,rfl,(by rw [show ee inp fuel pages=(1, -1) from if_pos Jo];rfl),hS.sp⟩)))
  | (refine' J0;refine' J5)
 refine' Ki;refine MA [_,_] ?_;refine Ka hS ?_;intro w1 hS;have hS:=hS.ns;refine' L8;refine Lw vw (Q4 (n:=2) Jk Jk (hS.blkAt fd) Jr Jr) ?_;(exact C4)
theorem DR.on {most:Nat}{r:Run}(hD:DR m most z fr g N h inp out back r)(hz:z.dn=false):∃s,r= .on s:=by
 cases r with
 | on s=>exact ⟨s,rfl⟩
 | over s e b=>obtain ⟨-, -, -,h4, -⟩:=hD;rw [hz] at h4;cases h4
 | stuck f=>exact hD.elim
theorem DR.over {most:Nat}{r:Run}(hD:DR m most z fr g N h inp out back r)(hz:z.dn=true):r= .over ⟨h,(match r with| .over s _ _=>s.g|_=>⟨0,0,0,[],[]⟩),(match r with| .over s _ _=>s.st|_=>[]),(match r with| .over s _ _=>s.inp|_=>[]),out,(match r with| .over s _ _=>s.fuel|_=>0)⟩ z.e back:=by
 cases r with
 | on s=>obtain ⟨-, -,h4, -⟩:=hD;rw [hz] at h4;cases h4
 | over s e b=>obtain ⟨rfl,rfl,rfl, -, -,rfl, -⟩:=hD;rfl
 | stuck f=>exact hD.elim
theorem PR.same {fr2:List FrmV}{g2:FrmV}{inp2 back2:List Int}(hP:PR m most c fr g N h inp out back r)(hD:DR m most z fr2 g2 N2 h2 inp2 out2 back2 r):h2=h∧out2=out∧back2=back∧z.dn=c.dn∧z.fu=c.fu∧z.e=c.e∧out.length≤2000∧back.length≤100000∧N2≤most+1:=by
 cases r with
 | on s=>
   obtain ⟨a1,a2,a3,a4,a5,a6,a7,a8,a9,a10⟩:=hP;obtain ⟨b1,b2,b3,b4,b5,b6,b7,b8,b9,b10,b11⟩:=hD;have e1:s.h=h:=(by rw [a1];rfl);have e2:s.h=h2:=(by rw [b1];rfl);have e3:s.out=out:=(by rw [a1];rfl);have e4:s.out=out2:=(by rw [b1];rfl);refine ⟨by rw [←e1,←e2],by rw [←e3,←e4],by rw [a2,b2],by rw [a3,b3],by rw [a6,b6],by rw [a5,b5],by rw [←e3];exact a10.out,by rw [a2];exact FB _,Jo⟩
 | over s e b=>
   obtain ⟨a1,a2,a3,a4,a5,a6,a7,a8⟩:=hP;obtain ⟨b1,b2,b3,b4,b5,b6,b7,b8,b9,b10⟩:=hD;exact ⟨by rw [a1,b1],by rw [a2,b2],by rw [a3,b3],by rw [a4,b4],by rw [a6,b7],by rw [a5,b6],a7,a8,b8⟩
 | stuck f=>exact hP.elim
theorem PR.first {hp fn iv:Value}(hM:m.fault.1=0)(h0:0≤fuel):PR m fuel.toNat (Zt hp fn lv iv fuel) [] PD 0 ⟨[],pages⟩ inp [] [] (.on (MS.start inp pages)):=
 ⟨rfl,rfl,rfl,rfl,rfl,rfl,FB _,(Fb h0).symm,FB _,IF hM inp pages⟩
theorem DR.first {fn fv iv:Value}(hM:m.fault.1=0)(h0:0≤fuel)(hin:∀n∈inp,LN n):DR m fuel.toNat (ZG fn fv iv fuel) [] PD 0 ⟨[],pages⟩ inp [] [] (.on (MS.start inp pages)):=
 ⟨rfl,rfl,rfl,⟨rfl,rfl⟩,rfl,rfl,FB _,(Fb h0).symm,FB _,IF hM inp pages,Rg.start hin⟩
theorem RA.on {a:Run}(hA:RA m most a (.on s))(hP:PR m most c fr g N h inp out back (.on s)):RA m most a (Run.step m most (.on s)):=by
 obtain ⟨a1,a2,a3,a4,a5,a6,a7,a8,a9,a10⟩:=hP;by_cases hk:s.fuel=most
 · rw [show Run.step m most (.on s)= .over s 7 [] from if_pos hk];exact Ju hA hk
 · rw [show Run.step m most (.on s)= .of m s (s.tick.one m) from if_neg hk];exact BM
end
end Go.Proofs.YteflkifmgnpbhaaGreat
namespace Go.Proofs.YteflkifmgnpbhaaGreat
open Go.Lir
section
variable {N:Nat}{z:GZ}{fr:List FrmV}{g:FrmV}{h:HpS}{out inp back:List Int}{m:Module}
theorem DR.fin {a:Run}(hD:DR m most z fr g N h inp out back r)(hA:RA m most a r)(hz:z.dn=true):a.flt=(0,0)∧a.oc=⟨z.e,back,out,z.fu⟩∧z.c=0∧z.a=0:=by
 cases r with
 | on s=>obtain ⟨-, -,h4, -⟩:=hD;rw [hz] at h4;cases h4
 | over s e b=>
   obtain ⟨b1,b2,b3,b4,⟨b5,b9⟩,b6,b7, -⟩:=hD;have hA:a= .over s e b:=hA;refine ⟨by rw [hA];rfl,by rw [hA,b2,b3,b6,b7];rfl,b5,b9⟩
 | stuck f=>exact hD.elim
theorem RA.stuck {a:Run}{f:LV}(hA:RA m most a r)(hr:r= .stuck f):a.flt=f∧a.oc=⟨0,[],[],0⟩:=by
 subst hr;have hA:a= .stuck f:=hA;exact ⟨by rw [hA];rfl,by rw [hA];rfl⟩
end
section
variable {N:Nat}{z:GZ}{fr:List FrmV}{g:FrmV}{h:HpS}{out inp back:List Int}{m:Module}
theorem RA.onD {a:Run}(hA:RA m most a (.on s))(hP:DR m most z fr g N h inp out back (.on s)):RA m most a (Run.step m most (.on s)):=by
 obtain ⟨a1,a2,a3,a4,a5,a6,a7, -⟩:=hP;by_cases hk:s.fuel=most
 · rw [show Run.step m most (.on s)= .over s 7 [] from if_pos hk];exact Ju hA hk
 · rw [show Run.step m most (.on s)= .of m s (s.tick.one m) from if_neg hk];exact BM
theorem DR.lens (hD:DR m most z fr g N h inp out back r):out.length≤2000∧back.length≤100000:=by
 cases r with
 | on s=>
   obtain ⟨a1,a2,a3,a4,a5,a6,a7,a8,a9,a10, -⟩:=hD;have e3:s.out=out:=(by rw [a1];rfl);exact ⟨by rw [←e3];exact a10.out,by rw [a2];exact FB _⟩
 | over s e b=>
   obtain ⟨-, -, -, -, -, -, -, -,a7,a8⟩:=hD;exact ⟨a7,a8⟩
 | stuck f=>exact hD.elim
end
end Go.Proofs.YteflkifmgnpbhaaGreat
