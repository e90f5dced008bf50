/- Lemmas of the proof, part 4: what the functions of the program do (contracts), and what follows. -/
import Derived.Test.YteflkifmgnpbhaaGreatZ2
import Derived.Test.YteflkifmgnpbhaaGreatZ3
namespace Go.Proofs.YteflkifmgnpbhaaGreat
open Go.Lir
set_option maxHeartbeats 1000000
attribute [local irreducible] LC.wp Q0 QB QH retQ Q1k LO.wp Qh Calls
set_option linter.unusedSimpArgs false
set_option linter.unusedVariables false
theorem Q6D {k r:Int}{l:List Ty}{to:List Int}(h:k≠1∧(r<0∨(to.length:Int)≤r)):Ty.ren (.mk k r l) to=none:=by
 rw [Ty.ren,if_pos (by omega)]
theorem Q5n {k r x:Int}{l:List Ty}{to:List Int}(hk:k≠1) (hx:to[r.toNat]?=some x) (h:x<0):Ty.ren (.mk k r l) to=none:=by
 rw [Ty.ren,if_pos ⟨hk, .inr (.inr (by rw [List.getD_eq_getElem?_getD,hx];exact h))⟩]
theorem Qd3 {k r:Int}{l:List Ty}{to:List Int}(h:k=1):Ty.ren (.mk k r l) to=(Tys.ren l to).map (Ty.mk k r):=by
 subst h
 rw [Ty.ren,if_neg (by omega)]
 cases Tys.ren l to<;>rfl
theorem ren_to {k r x:Int}{l:List Ty}{to:List Int}(hk:k≠1) (h0:0≤r) (h1:r<to.length) (hx:to[r.toNat]?=some x) (h:0≤x):Ty.ren (.mk k r l) to=(Tys.ren l to).map (Ty.mk k x):=by
 have hd:to.getD r.toNat 0=x:=by rw [List.getD_eq_getElem?_getD,hx];rfl
 rw [Ty.ren,if_neg (by omega),hd]
 cases Tys.ren l to with
 | none=>rfl
 | some m=>simp [hk]
theorem Q4R {l us:List Ty}{to:List Int}{j:Nat}{x:Ty}(hd:Tys.ren l to=(Tys.ren (l.drop j) to).map (us++·)) (hx:l[j]?=some x) (hn:x.ren to=none):Tys.ren l to=none:=by
 rw [hd,Q1 hx,Tys.ren,hn];rfl
theorem Q8Z {l us:List Ty}{to:List Int}{j:Nat}{x y:Ty}(hd:Tys.ren l to=(Tys.ren (l.drop j) to).map (us++·)) (hx:l[j]?=some x) (hn:x.ren to=some y):Tys.ren l to=(Tys.ren (l.drop (j+1)) to).map ((us++[y])++·):=by
 rw [hd,Q1 hx,Tys.ren,hn]
 cases Tys.ren (l.drop (j+1)) to<;>simp
theorem Qb1 {l us:List Ty}{to:List Int}{j:Nat}(hd:Tys.ren l to=(Tys.ren (l.drop j) to).map (us++·)) (hj:l.length≤j):Tys.ren l to=some us:=by
 rw [hd,List.drop_of_length_le hj,Tys.ren];simp
theorem pren_c:∀(t:Ty),t.Short→∀{cx:Cx}{w:World}{L:List Res}{cs:List Value}{v2:Value}{to:List Int},tyR.at cx cs t→intR.sl cx v2 to→St cx w L→
 Rets Tryz.prog Q8Q [.agg ⟨cs⟩,v2] w fun u w'=>∃c' ds,u= .tuple #[.agg ⟨ds⟩, .bool (t.ren to).isSome]∧cx.Le c'∧tyR.at c' ds ((t.ren to).getD (.mk 0 0 []))∧St c' w' L:=by
 intro t
 induction t using Ty.ind with
 | h k r l ih=>
   intro hs cx w L cs v2 to ht hto hS
   obtain ⟨v,rfl,hl⟩:=Q9 ht
   simp only [Ty.kind,Ty.r,Ty.l] at hl ht ⊢
   obtain ⟨hlen,hsub⟩:=hs.parts
   have hle:=St.refl hS
   refine lgo tyD Tryz.func263 ?_;refine Zaw ?_;intro p2 w1 hS;refine Qb hS ?_;(intro p4 w1 hS);refine Zab ?_;refine Zao ?_;refine Zad ?_;refine zb2 [_,_,_] ?_;refine Qb hS ?_;(intro p6 w1 hS);((refine zsn hS ?_;intro w1 hS;have hS:=hS.ns));refine zn ?_
   refine zM [1,2,4,6] (fun A ρ' w'=>∃(r2:Int),Has ρ' A∧Has ρ' []∧(Ty.ren (.mk k r l) to=(Tys.ren l to).map (Ty.mk k r2))∧St cx w' (blk p6 115 [.int .i64 k, .int .i64 r2, .slice none 0 0]::blk p4 115 [.int .i64 0, .int .i64 0, .slice none 0 0]::blk p2 115 [.int .i64 k, .int .i64 r,v]::L)) ?_ ?_
   · skip
     refine Zao ?_;first|(refine Qy ?_)|(refine Qz ?_)|(refine Qa rfl rfl (fun hc=>?_) (fun hc=>?_))
     all_goals (refine zn ?_)
     all_goals
      first
      | (refine zct ?_
         refine ZaJ ?_;first|(refine Q1f ?_)|(refine Q1g ?_)|(refine Qr rfl rfl (fun hc=>?_) (fun hc=>?_))
         all_goals (refine Zav ?_;refine Yac ?_;refine Yai ?_;first|refine zgn ?_|(refine zgy ?_;(first|(refine Q2b ?_)|(refine Q2c ?_)|(refine Q1a rfl rfl (fun hc=>?_) (fun hc=>?_)))))
         all_goals (refine Yad ?_;refine Zbb ?_;refine Zak ?_;(first|refine zgn ?_|(refine zgy ?_;refine Yao ?_;intro b1 o1 cs1 x1 hat1 hx1 he1;obtain rfl:=Qt he1));refine Yar ?_;first|refine zgn ?_|(refine zgy ?_;(first|(refine Q1f ?_)|(refine Q1g ?_)|(refine Qr rfl rfl (fun hc=>?_) (fun hc=>?_)))))
         all_goals (refine ZaK ?_)
         all_goals
          first
          | (refine zct ?_
             all_goals (refine Zaa ?_;refine zb0 [_,_,_] ?_;refine zsn hS ?_;intro w1 hS;have hS:=hS.ns;refine Zbg ?_;refine Q12 vw (Q3 (n:=3) (by kernel_rfl) (by kernel_rfl) (hS.blkAt fd) (by rfl) (by rfl)) vw ?_)
             all_goals (first|(rw [Q6D (by omega)];exact ⟨_,rfl,_,_,rfl,hle,Q1d (Rep.SR.nil _ _ _),hS.sp⟩)|(rw [Q5n (by omega) hx1 (by omega)];exact ⟨_,rfl,_,_,rfl,hle,Q1d (Rep.SR.nil _ _ _),hS.sp⟩)))
          | (refine zcf ?_
             refine zsk ?_)
         refine ZbH ?_;refine Yao ?_;intro b2 o2 cs2 x2 hat2 hx2 he2;obtain rfl:=Qt he2;refine Yan ?_;refine Zbf ?_;intro w1 hS;have hS:=hS.ns
         refine zn ?_)
      | (refine zcf ?_
         refine zsk ?_)
     all_goals ((first|(exact ⟨_,zh,zh,ren_to (by omega) (by omega) (by omega) hx2 (by have h9:=Option.some.inj (hx1.symm.trans hx2);omega),hS.sp⟩)|(exact ⟨_,zh,zh,Qd3 (by omega),hS.sp⟩)))
   rintro ρ w1 ⟨r2,hA,hρ,hr,hS⟩;obtain ⟨ρ,rfl⟩:=env2 hA hρ
   refine Zci ?_
   refine zo [1,4,6,45,46] (fun A ρ' w'=>∃(k0:Cx) (j:Nat) (u:Value) (css:List (List Value)) (us:List Ty),Has ρ' A∧Has ρ' [(47, .int .i64 j)]∧(cx.Le k0)∧(j≤l.length)∧(us.length=j)∧(Tys.ren l to=(Tys.ren (l.drop j) to).map (us++·))∧(tyR.ls k0 css us)∧(oneC u=true)∧St k0 w' (sl 115 3 u css::blk p6 115 [.int .i64 k, .int .i64 r2,u]::blk p4 115 [.int .i64 0, .int .i64 0, .slice none 0 0]::blk p2 115 [.int .i64 k, .int .i64 r,v]::L)) (fun ρ' _=>(l.length - iv (ρ' 47)).toNat) ?_ ?_
   · exact ⟨cx,0, .slice none 0 0,[],[],zh,zh,St.refl hS,(by omega),rfl,by simp,Rep.LR.nil _ _ _,rfl,by have hS:=hS.nil (T:=115) (es:=3);exact hS.sp⟩
   rintro ρ w1 ⟨k0,j,u,css,us,hA,hρ,hle2,hj,hus,hd,hls,hu,hS⟩;obtain ⟨ρ,rfl⟩:=env2 hA hρ;have hL0:=hle2;(try have hle:=hle.trans hle2);(try have hl:=hl.up hle2);(try have hto:=hto.up hle2)
   refine ZaV ?_
   refine Q5 rfl (fun hc=>?_) (fun hc=>?_)
   · skip
     refine ZbT ?_;intro b3 o3 cs3 x3 hat3 hx3 he3;obtain ⟨vl3,rfl,hl3⟩:=Q9 he3;refine ZaC ?_;intro p8 w1 hS;refine zsn hS ?_;intro w1 hS;have hS:=hS.ns;refine ZbY ?_;refine zm ?_;refine zR2 (c:=ih _ (List.mem_of_getElem? hx3) (hsub _ (List.mem_of_getElem? hx3)) he3 hto hS) (h:=?_);rintro v1 w1 ⟨c1,ds,rfl,hle2,hd1,hS⟩;obtain ⟨y,hy⟩:∃y,(x3.ren to).getD (.mk 0 0 [])=y:=⟨_,rfl⟩;rw [hy] at hd1;obtain ⟨v7,rfl,hv7⟩:=Q9 hd1;(try have hle:=hle.trans hle2);(try have hL0:=hL0.trans hle2);(try have hls:=hls.up hle2);cases hg:x3.ren to
     all_goals (refine Zct ?_;intro p9 w1 hS;refine zsn hS ?_;intro w1 hS;have hS:=hS.ns;refine Zab ?_;refine Zan ?_;refine Zbo ?_)
     all_goals
      first
      | (refine zct ?_
         refine Zaa ?_;refine zb0 [_,_,_] ?_;refine zsn hS ?_;intro w1 hS;have hS:=hS.ns;refine Zbg ?_;refine Q12 vw (Q3 (n:=3) (by kernel_rfl) (by kernel_rfl) (hS.blkAt fd) (by rfl) (by rfl)) vw ?_
         first|(rw [Q6D (by omega)];exact ⟨_,rfl,_,_,rfl,hle,Q1d (Rep.SR.nil _ _ _),hS.sp⟩)|(rw [Q5n (by omega) hx1 (by omega)];exact ⟨_,rfl,_,_,rfl,hle,Q1d (Rep.SR.nil _ _ _),hS.sp⟩)|(rw [hr,Q4R hd hx3 hg];exact ⟨_,rfl,_,_,rfl,hle,Q1d (Rep.SR.nil _ _ _),hS.sp⟩))
      | (refine zcf ?_
         refine zsk ?_)
     refine ZbA ?_;refine zB1 hS [_,_,_] ?_;intro b1 w1 hS;refine za Q2u Q4k hS ?_;intro vp1 w1 css1 hls1 hv1 hS;have hS:=hS.ns;refine Zbf ?_;intro w1 hS;have hS:=hS.ns;refine ZbO ?_;(exact ⟨⟨_,j+1,_,_,us++[y],zh,zh,hL0,(by omega),by simp [hus],Q8Z hd hx3 (by rw [hg,←hy,hg];rfl),by assumption,by assumption,hS.sp⟩,Q4 (by omega)⟩)
   · skip
     refine zex ?_;refine ZaF ?_;refine zsn hS ?_;intro w1 hS;have hS:=hS.ns;refine Zbg ?_;refine Q12 vw (Q3 (n:=3) (by kernel_rfl) (by kernel_rfl) (hS.blkAt fd) (by rfl) (by rfl)) vw ?_;(first|(rw [Q6D (by omega)];exact ⟨_,rfl,_,_,rfl,hle,Q1d (Rep.SR.nil _ _ _),hS.sp⟩)|(rw [Q5n (by omega) hx1 (by omega)];exact ⟨_,rfl,_,_,rfl,hle,Q1d (Rep.SR.nil _ _ _),hS.sp⟩)|(rw [hr,Q4R hd hx3 hg];exact ⟨_,rfl,_,_,rfl,hle,Q1d (Rep.SR.nil _ _ _),hS.sp⟩)|(rw [hr,Qb1 hd (by omega)];obtain ⟨c3,hle3,hS,hl3⟩:=St.freezeL (r:=tyR) (l:=us) (T:=115) (es:=3) (v:=u) (css:=css) (L:=L) hS.sp hls rfl (by omega);exact ⟨_,rfl,c3,_,rfl,hle.trans hle3,Q1d hl3,hS⟩))
theorem QcT:∀(t:Ty),t.Short→∀{cx:Cx}{w:World}{L:List Res}{cs:List Value}{v2:Value}{to:List Int},tyR.at cx cs t→intR.sl cx v2 to→St cx w L→
 Rets Tryz.prog QdU [.agg ⟨cs⟩,v2] w fun u w'=>∃c' ds,u= .tuple #[.agg ⟨ds⟩, .bool (t.ren to).isSome]∧cx.Le c'∧tyR.at c' ds ((t.ren to).getD (.mk 0 0 []))∧St c' w' L:=by
 intro t
 induction t using Ty.ind with
 | h k r l ih=>
   intro hs cx w L cs v2 to ht hto hS
   obtain ⟨v,rfl,hl⟩:=Q9 ht
   simp only [Ty.kind,Ty.r,Ty.l] at hl ht ⊢
   obtain ⟨hlen,hsub⟩:=hs.parts
   have hle:=St.refl hS
   refine lgo tyD Tryz.func155 ?_;refine Zaw ?_;intro p2 w1 hS;refine Qb hS ?_;(intro p4 w1 hS);refine Zab ?_;refine Zao ?_;refine Zad ?_;refine zb2 [_,_,_] ?_;refine Qb hS ?_;(intro p6 w1 hS);((refine zsn hS ?_;intro w1 hS;have hS:=hS.ns));refine zn ?_
   refine zM [1,2,4,6] (fun A ρ' w'=>∃(r2:Int),Has ρ' A∧Has ρ' []∧(Ty.ren (.mk k r l) to=(Tys.ren l to).map (Ty.mk k r2))∧St cx w' (blk p6 115 [.int .i64 k, .int .i64 r2, .slice none 0 0]::blk p4 115 [.int .i64 0, .int .i64 0, .slice none 0 0]::blk p2 115 [.int .i64 k, .int .i64 r,v]::L)) ?_ ?_
   · skip
     refine Zao ?_;first|(refine Qy ?_)|(refine Qz ?_)|(refine Qa rfl rfl (fun hc=>?_) (fun hc=>?_))
     all_goals (refine zn ?_)
     all_goals
      first
      | (refine zct ?_
         refine ZaJ ?_;first|(refine Q1f ?_)|(refine Q1g ?_)|(refine Qr rfl rfl (fun hc=>?_) (fun hc=>?_))
         all_goals (refine Zav ?_;refine Yac ?_;refine Yai ?_;first|refine zgn ?_|(refine zgy ?_;(first|(refine Q2b ?_)|(refine Q2c ?_)|(refine Q1a rfl rfl (fun hc=>?_) (fun hc=>?_)))))
         all_goals (refine ZaK ?_)
         all_goals
          first
          | (refine zct ?_
             all_goals (refine Zaa ?_;refine zb0 [_,_,_] ?_;refine zsn hS ?_;intro w1 hS;have hS:=hS.ns;refine Zbg ?_;refine Q12 vw (Q3 (n:=3) (by kernel_rfl) (by kernel_rfl) (hS.blkAt fd) (by rfl) (by rfl)) vw ?_)
             all_goals (rw [Q6D (by omega)];exact ⟨_,rfl,_,_,rfl,hle,Q1d (Rep.SR.nil _ _ _),hS.sp⟩))
          | (refine zcf ?_
             refine zsk ?_)
         refine ZaN ?_;refine Yao ?_;intro b1 o1 cs1 x1 hat1 hx1 he1;obtain rfl:=Qt he1;refine Yan ?_;first|(refine Q1f ?_)|(refine Q1g ?_)|(refine Qr rfl rfl (fun hc=>?_) (fun hc=>?_))
         all_goals (refine zn ?_)
         all_goals
          first
          | (refine zct ?_
             refine Zaa ?_;refine zb0 [_,_,_] ?_;refine zsn hS ?_;intro w1 hS;have hS:=hS.ns;refine Zbg ?_;refine Q12 vw (Q3 (n:=3) (by kernel_rfl) (by kernel_rfl) (hS.blkAt fd) (by rfl) (by rfl)) vw ?_
             first|(rw [Q6D (by omega)];exact ⟨_,rfl,_,_,rfl,hle,Q1d (Rep.SR.nil _ _ _),hS.sp⟩)|(rw [Q5n (by omega) hx1 (by omega)];exact ⟨_,rfl,_,_,rfl,hle,Q1d (Rep.SR.nil _ _ _),hS.sp⟩))
          | (refine zcf ?_
             refine zsk ?_)
         refine ZbH ?_;refine Yao ?_;intro b2 o2 cs2 x2 hat2 hx2 he2;obtain rfl:=Qt he2;refine Yan ?_;refine Zbf ?_;intro w1 hS;have hS:=hS.ns
         refine zn ?_)
      | (refine zcf ?_
         refine zsk ?_)
     all_goals ((first|(exact ⟨_,zh,zh,ren_to (by omega) (by omega) (by omega) hx2 (by have h9:=Option.some.inj (hx1.symm.trans hx2);omega),hS.sp⟩)|(exact ⟨_,zh,zh,Qd3 (by omega),hS.sp⟩)))
   rintro ρ w1 ⟨r2,hA,hρ,hr,hS⟩;obtain ⟨ρ,rfl⟩:=env2 hA hρ
   refine ZaI ?_
   refine zo [1,2,4,6] (fun A ρ' w'=>∃(k0:Cx) (j:Nat) (u:Value) (css:List (List Value)) (us:List Ty),Has ρ' A∧Has ρ' [(7, .int .i64 j)]∧(cx.Le k0)∧(j≤l.length)∧(us.length=j)∧(Tys.ren l to=(Tys.ren (l.drop j) to).map (us++·))∧(tyR.ls k0 css us)∧(oneC u=true)∧St k0 w' (sl 115 3 u css::blk p6 115 [.int .i64 k, .int .i64 r2,u]::blk p4 115 [.int .i64 0, .int .i64 0, .slice none 0 0]::blk p2 115 [.int .i64 k, .int .i64 r,v]::L)) (fun ρ' _=>(l.length - iv (ρ' 7)).toNat) ?_ ?_
   · exact ⟨cx,0, .slice none 0 0,[],[],zh,zh,St.refl hS,(by omega),rfl,by simp,Rep.LR.nil _ _ _,rfl,by have hS:=hS.nil (T:=115) (es:=3);exact hS.sp⟩
   rintro ρ w1 ⟨k0,j,u,css,us,hA,hρ,hle2,hj,hus,hd,hls,hu,hS⟩;obtain ⟨ρ,rfl⟩:=env2 hA hρ;have hL0:=hle2;(try have hle:=hle.trans hle2);(try have hl:=hl.up hle2);(try have hto:=hto.up hle2)
   refine Zbl ?_
   refine Q5 rfl (fun hc=>?_) (fun hc=>?_)
   · skip
     refine ZbZ ?_;intro b3 o3 cs3 x3 hat3 hx3 he3;obtain ⟨vl3,rfl,hl3⟩:=Q9 he3;refine Yaf ?_;refine zm ?_;refine zR2 (c:=ih _ (List.mem_of_getElem? hx3) (hsub _ (List.mem_of_getElem? hx3)) he3 hto hS) (h:=?_);rintro v1 w1 ⟨c1,ds,rfl,hle2,hd1,hS⟩;obtain ⟨y,hy⟩:∃y,(x3.ren to).getD (.mk 0 0 [])=y:=⟨_,rfl⟩;rw [hy] at hd1;obtain ⟨v7,rfl,hv7⟩:=Q9 hd1;(try have hle:=hle.trans hle2);(try have hL0:=hL0.trans hle2);(try have hls:=hls.up hle2);cases hg:x3.ren to
     all_goals (refine Zct ?_;intro p8 w1 hS;refine zsn hS ?_;intro w1 hS;have hS:=hS.ns;refine Zab ?_;refine Zan ?_;refine Zbo ?_)
     all_goals
      first
      | (refine zct ?_
         refine Zaa ?_;refine zb0 [_,_,_] ?_;refine zsn hS ?_;intro w1 hS;have hS:=hS.ns;refine Zbg ?_;refine Q12 vw (Q3 (n:=3) (by kernel_rfl) (by kernel_rfl) (hS.blkAt fd) (by rfl) (by rfl)) vw ?_
         first|(rw [Q6D (by omega)];exact ⟨_,rfl,_,_,rfl,hle,Q1d (Rep.SR.nil _ _ _),hS.sp⟩)|(rw [Q5n (by omega) hx1 (by omega)];exact ⟨_,rfl,_,_,rfl,hle,Q1d (Rep.SR.nil _ _ _),hS.sp⟩)|(rw [hr,Q4R hd hx3 hg];exact ⟨_,rfl,_,_,rfl,hle,Q1d (Rep.SR.nil _ _ _),hS.sp⟩))
      | (refine zcf ?_
         refine zsk ?_)
     refine ZbA ?_;refine zB1 hS [_,_,_] ?_;intro b1 w1 hS;refine za Q2u Q4k hS ?_;intro vp1 w1 css1 hls1 hv1 hS;have hS:=hS.ns;refine Zbf ?_;intro w1 hS;have hS:=hS.ns;refine Zcj ?_;(exact ⟨⟨_,j+1,_,_,us++[y],zh,zh,hL0,(by omega),by simp [hus],Q8Z hd hx3 (by rw [hg,←hy,hg];rfl),by assumption,by assumption,hS.sp⟩,Q4 (by omega)⟩)
   · skip
     refine zex ?_;refine ZaF ?_;refine zsn hS ?_;intro w1 hS;have hS:=hS.ns;refine Zbg ?_;refine Q12 vw (Q3 (n:=3) (by kernel_rfl) (by kernel_rfl) (hS.blkAt fd) (by rfl) (by rfl)) vw ?_;(first|(rw [Q6D (by omega)];exact ⟨_,rfl,_,_,rfl,hle,Q1d (Rep.SR.nil _ _ _),hS.sp⟩)|(rw [Q5n (by omega) hx1 (by omega)];exact ⟨_,rfl,_,_,rfl,hle,Q1d (Rep.SR.nil _ _ _),hS.sp⟩)|(rw [hr,Q4R hd hx3 hg];exact ⟨_,rfl,_,_,rfl,hle,Q1d (Rep.SR.nil _ _ _),hS.sp⟩)|(rw [hr,Qb1 hd (by omega)];obtain ⟨c3,hle3,hS,hl3⟩:=St.freezeL (r:=tyR) (l:=us) (T:=115) (es:=3) (v:=u) (css:=css) (L:=L) hS.sp hls rfl (by omega);exact ⟨_,rfl,c3,_,rfl,hle.trans hle3,Q1d hl3,hS⟩))
end Go.Proofs.YteflkifmgnpbhaaGreat
namespace Go.Proofs.YteflkifmgnpbhaaGreat
open Go.Lir
set_option maxHeartbeats 1000000
attribute [local irreducible] LC.wp Q0 QB QH retQ Q1k LO.wp Qh Calls
set_option linter.unusedSimpArgs false
set_option linter.unusedVariables false
theorem Qc6 {x:Module}{cx:Cx}{w:World}{L:List Res}{cs:List Value}(hx:modR.at cx cs x) (hS:St cx w L):Rets Tryz.prog Q8J [.agg ⟨cs⟩] w fun u w'=>∃b,u= .bool b∧(b=false→x.Short)∧St cx w' L:=by
 obtain ⟨vf,rfl,hl⟩:=QP hx
 obtain ⟨l⟩:=x
 have hl:funcR.sl cx vf l:=hl
 have hlen:=hl.len
 refine lgo tyD Tryz.func18 ?_;refine Zaw ?_;intro p1 w1 hS;refine Zab ?_;refine ZaJ ?_;refine zL ?_;first|(refine QL ?_)|(refine QO ?_)|(refine Qd rfl rfl (fun hc=>?_) (fun hc=>?_))
 all_goals (refine zn ?_)
 all_goals
  first
  | (refine zct ?_
     refine Zas ?_
     (exact ⟨_,rfl,true,rfl,fun h=>Bool.noConfusion h,hS.sp⟩))
  | (refine zcf ?_
     refine zsk ?_)
 refine ZaI ?_
 refine zoL hS [1] (fun A LL ρ' w'=>∃(j:Nat),Has ρ' A∧Has ρ' [(3, .int .i64 j)]∧(j≤l.length)∧(l.length≤20)∧(∀f∈l.take j,f.Short)∧St cx w' (LL)) (fun ρ' _=>(l.length - iv (ρ' 3)).toNat) ?_ ?_
 · exact ⟨0,zh,zh,(by omega),(by omega),by simp,hS.sp⟩
 rintro ρ w1 ⟨j,hA,hρ,hj,hl20,hd,hS⟩;obtain ⟨ρ,rfl⟩:=env2 hA hρ
 refine Zbl ?_
 refine Q5 rfl (fun hc=>?_) (fun hc=>?_)
 · skip
   refine ZbZ ?_;intro b1 o1 cs1 x1 hat1 hx1 he1;obtain ⟨vp1,vr1,vb1,rfl,hp1,hr1,hb1⟩:=Qo he1;refine ZaC ?_;intro p4 w1 hS;refine zsn hS ?_;intro w1 hS;have hS:=hS.ns;refine zn ?_;refine ZaJ ?_;refine zL ?_;first|(refine QL ?_)|(refine QO ?_)|(refine Qd rfl rfl (fun hc=>?_) (fun hc=>?_))
   all_goals (refine Zav ?_;(first|(refine zgn ?_)|(refine zgy ?_;refine zR1 (c:=Q8t hp1 hS) (h:=?_);rintro v1 w1 ⟨rfl,hS⟩;cases hg1:Tys.great x1.params)))
   all_goals (refine Yad ?_;refine Zav ?_;(first|(refine zgn ?_)|(refine zgy ?_;refine zR1 (c:=Q8t hr1 hS) (h:=?_);rintro v1 w1 ⟨rfl,hS⟩;cases hg2:Tys.great x1.results)))
   all_goals (refine ZaK ?_)
   all_goals
    first
    | (refine zct ?_
       all_goals (refine Zas ?_)
       all_goals (exact ⟨_,rfl,true,rfl,fun h=>Bool.noConfusion h,hS.sp⟩))
    | (refine zcf ?_
       refine zsk ?_)
   refine QJ ?_;have hlb:=hb1.len;refine Zck ?_
   refine zoL hS [1,3,4] (fun A LL ρ' w'=>∃(i:Nat),Has ρ' A∧Has ρ' [(5, .int .i64 i)]∧(i≤x1.blocks.length)∧(x1.blocks.length≤30)∧(Tys.great x1.params=false)∧(Tys.great x1.results=false)∧(∀f∈x1.blocks.take i,f.Short)∧St cx w' (LL)) (fun ρ' _=>(x1.blocks.length - iv (ρ' 5)).toNat) ?_ ?_
   · exact ⟨0,zh,zh,(by omega),(by omega),by assumption,by assumption,by simp,hS.sp⟩
   rintro ρ w1 ⟨i,hA,hρ,hi,hl30,hg1,hg2,hd1,hS⟩;obtain ⟨ρ,rfl⟩:=env2 hA hρ
   refine Zbl ?_
   refine Q5 rfl (fun hc=>?_) (fun hc=>?_)
   · skip
     refine ZbZ ?_;intro b2 o2 cs2 x2 hat2 hx2 he2;obtain ⟨vp2,vc2,ve21,ve22,ve23,ve24,ve25,rfl,hp2,hc2,he21,he22,he23,he24,he25⟩:=QC he2;refine ZaC ?_;intro p6 w1 hS;refine zsn hS ?_;intro w1 hS;have hS:=hS.ns;refine zn ?_;refine ZaJ ?_;refine zL ?_;first|(refine QL ?_)|(refine QO ?_)|(refine Qd rfl rfl (fun hc=>?_) (fun hc=>?_))
     all_goals (refine Zav ?_;(first|(refine zgn ?_)|(refine zgy ?_;refine zR1 (c:=Q8t hp2 hS) (h:=?_);rintro v1 w1 ⟨rfl,hS⟩;cases hg3:Tys.great x2.params)))
     all_goals (refine Yad ?_;refine zm ?_;refine Zcl ?_;refine Yai ?_;first|refine zgn ?_|(refine zgy ?_;(first|(refine QL ?_)|(refine QO ?_)|(refine Qd rfl rfl (fun hc=>?_) (fun hc=>?_)))))
     all_goals (refine Yad ?_;refine zm ?_;refine ZbD ?_;refine Yah ?_;refine Yab ?_;refine Yai ?_;first|refine zgn ?_|(refine zgy ?_;(first|(refine QL ?_)|(refine QO ?_)|(refine Qd rfl rfl (fun hc=>?_) (fun hc=>?_)))))
     all_goals (refine Yad ?_;refine zm ?_;refine ZbD ?_;refine Yah ?_;refine Yab ?_;refine Yai ?_;first|refine zgn ?_|(refine zgy ?_;(first|(refine QL ?_)|(refine QO ?_)|(refine Qd rfl rfl (fun hc=>?_) (fun hc=>?_)))))
     all_goals (refine Yad ?_;refine zm ?_;refine ZbD ?_;refine Yah ?_;refine Yab ?_;refine Yai ?_;first|refine zgn ?_|(refine zgy ?_;(first|(refine QL ?_)|(refine QO ?_)|(refine Qd rfl rfl (fun hc=>?_) (fun hc=>?_)))))
     all_goals (refine Yad ?_;refine zm ?_;refine ZbD ?_;refine Yah ?_;refine Yab ?_;refine Yai ?_;first|refine zgn ?_|(refine zgy ?_;(first|(refine QL ?_)|(refine QO ?_)|(refine Qd rfl rfl (fun hc=>?_) (fun hc=>?_)))))
     all_goals (refine ZaK ?_)
     all_goals
      first
      | (refine zct ?_
         all_goals (refine Zas ?_)
         all_goals (exact ⟨_,rfl,true,rfl,fun h=>Bool.noConfusion h,hS.sp⟩))
      | (refine zcf ?_
         refine zsk ?_)
     refine QJ ?_;have hlc:=hc2.len;refine Zck ?_
     refine zoL hS [1,3,4,5,6] (fun A LL ρ' w'=>∃(k:Nat),Has ρ' A∧Has ρ' [(7, .int .i64 k)]∧(k≤x2.code.length)∧(x2.code.length≤200)∧(Tys.great x2.params=false)∧(x2.fin.Short)∧(∀f∈x2.code.take k,f.Short)∧St cx w' (LL)) (fun ρ' _=>(x2.code.length - iv (ρ' 7)).toNat) ?_ ?_
     · exact ⟨0,zh,zh,(by omega),(by omega),by assumption,⟨⟨by omega,by omega⟩,⟨by omega,by omega⟩,by omega⟩,by simp,hS.sp⟩
     rintro ρ w1 ⟨k,hA,hρ,hk,hl200,hg3,hfin,hd2,hS⟩;obtain ⟨ρ,rfl⟩:=env2 hA hρ
     refine Zbl ?_
     refine Q5 rfl (fun hc=>?_) (fun hc=>?_)
     · skip
       refine ZbZ ?_;intro b3 o3 cs3 x3 hat3 hx3 he3;obtain ⟨vr3,va3,rfl,hr3,ha3⟩:=QG he3;refine Zcn ?_;refine zL ?_;first|(refine QL ?_)|(refine QO ?_)|(refine Qd rfl rfl (fun hc=>?_) (fun hc=>?_))
       all_goals (refine Zav ?_;refine Yac ?_;(first|(refine zgn ?_)|(refine zgy ?_;refine Q11 vw rfl (by assumption) rfl (by omega) ?_;intro b4 o4 cs4 x4 hat4 hx4 he4;rw [hx3] at hx4;obtain rfl:x3=x4:=Option.some.inj hx4;obtain ⟨vr4,va4,rfl,hr4,ha4⟩:=QG he4));refine Yah ?_;refine Yas ?_;refine Yai ?_;first|refine zgn ?_|(refine zgy ?_;(first|(refine QL ?_)|(refine QO ?_)|(refine Qd rfl rfl (fun hc=>?_) (fun hc=>?_)))))
       all_goals (refine ZaK ?_)
       all_goals
        first
        | (refine zct ?_
           all_goals (refine Zas ?_)
           all_goals (exact ⟨_,rfl,true,rfl,fun h=>Bool.noConfusion h,hS.sp⟩))
        | (refine zcf ?_
           refine zsk ?_)
       refine Zax ?_;(exact ⟨⟨k+1,zh,zh,(by omega),(by omega),by assumption,by assumption,Q3x hd2 hx3 ⟨by omega,by omega⟩,hS.sp⟩,Q4 (by omega)⟩)
     · skip
       refine Zca ?_;(exact ⟨⟨i+1,zh,zh,(by omega),(by omega),by assumption,by assumption,Q3x hd1 hx2 ⟨Tys.Short.of_great hg3,by omega,Q5b hd2 (by omega),hfin⟩,hS.sp⟩,Q4 (by omega)⟩)
   · skip
     refine Zca ?_;(exact ⟨⟨j+1,zh,zh,(by omega),(by omega),Q3x hd hx1 ⟨Tys.Short.of_great hg1,Tys.Short.of_great hg2,by omega,Q5b hd1 (by omega)⟩,hS.sp⟩,Q4 (by omega)⟩)
 · skip
   refine ZbG ?_;first|(exact ⟨_,rfl,true,rfl,fun h=>Bool.noConfusion h,hS.sp⟩)|(have h1:l.length≤100000:=(by omega);exact ⟨_,rfl,false,rfl,fun _=>⟨h1,Q5b (l:=l) hd (by omega)⟩,hS.sp⟩)
end Go.Proofs.YteflkifmgnpbhaaGreat
namespace Go.Proofs.YteflkifmgnpbhaaGreat
open Go.Lir
set_option maxHeartbeats 1000000
attribute [local irreducible] LC.wp Q0 QB QH retQ Q1k LO.wp Qh Calls
set_option linter.unusedSimpArgs false
set_option linter.unusedVariables false
variable {cx:Cx}{w:World}{L:List Res}{i:Nat}
abbrev jdg (b:Nat) (vf:Value) (g:Flt) (at':Int):Res:=blk b 173 [vf, .int .i64 g.1, .int .i64 g.2, .int .i64 at']
theorem Q1L {is:Bool}{c:Int}{vf:Value}{g:Flt}{at':Int}{b:Nat}(hc0:is=true→c≠0) (hS:St cx w L) (hi:nth L i=some (jdg b vf g at')):
 Rets Tryz.prog Q7m [.pointer (some ⟨b,0,none⟩), .bool is, .int .i64 c] w fun u w'=>u= .tuple #[]∧St cx w' (L.set i (jdg b vf (orF g (mkF (if is=true then c else 0) at')) at')):=by
 have hS:=hS.out hi
 cases is with
 | false=>
   have e:orF g (mkF (if false=true then c else 0) at')=g:=QbV rfl
   rw [e]
   refine lgo tyD Tryz.func103 ?_;refine ZaG ?_;refine zgn ?_;refine zgn ?_;refine zgn ?_;refine zgn ?_;refine zgn ?_;refine zgn ?_;refine ZaK ?_
   all_goals
    first
    | (refine zct ?_
       all_goals (refine Zbc ?_;refine zm ?_;refine Zbj ?_;refine zb2 [_,_] ?_;refine ZaL ?_;refine zsn hS ?_;intro w1 hS;have hS:=hS.ns)
       all_goals refine zn ?_)
    | (refine zcf ?_
       refine zsk ?_)
   refine Q17 ?_;exact ⟨_,rfl,rfl,St.back hS hi⟩
 | true=>
   have hc0:=hc0 rfl
   by_cases h0:g.1=0
   · have e:orF g (mkF (if true=true then c else 0) at')=(c,at'):=by rw [if_pos rfl,Q4m hc0];unfold orF;rw [if_pos ⟨h0,hc0⟩]
     rw [e]
     refine lgo tyD Tryz.func103 ?_;refine ZaG ?_;refine Zcb ?_;refine Zcl ?_;(first|refine zgn ?_|(refine zgy ?_;refine Qp ?_));refine zpt ?_;refine zn ?_;refine zct ?_;refine Zbc ?_;refine zm ?_;refine Zbj ?_;refine zb2 [_,_] ?_;refine ZaL ?_;(first|(refine zsn hS ?_;intro w1 hS;have hS:=hS.ns)|(refine zsm hS ?_;intro w1 hS;have hS:=hS.ns));refine zn ?_;refine Q17 ?_;exact ⟨_,rfl,rfl,St.back hS hi⟩
   · rw [Q31 h0]
     refine lgo tyD Tryz.func103 ?_;refine ZaG ?_;refine Zcb ?_;refine Zcl ?_;(first|refine zgn ?_|(refine zgy ?_;(first|(refine Qp ?_)|(refine Qu ?_))));refine zpt ?_;refine zn ?_;refine Zcr ?_;refine Q17 ?_;exact ⟨_,rfl,rfl,St.back hS hi⟩
theorem uindex_c {s:List UInt8}{c:Nat}{v:Value}(hK:u8R.sl cx v s) (hS:St cx w L):Rets Tryz.prog Q3A [v, .int .u8 c] w fun u w'=>∃r:Int,u= .int .i64 r∧(0≤r↔(s.any fun b=>decide (b.toNat=c))=true)∧St cx w' L:=by
 have hlen:=hK.len
 refine lgo tyD Tryz.func265 ?_;refine Zbx ?_;refine Zbi ?_
 refine zoL hS [0,1,7] (fun A LL ρ' w'=>∃(j:Nat),Has ρ' A∧Has ρ' [(8, .int .i64 j)]∧(j≤s.length)∧((s.any fun b=>decide (b.toNat=c))=((s.drop j).any fun b=>decide (b.toNat=c)))∧St cx w' (LL)) (fun ρ' _=>(s.length - iv (ρ' 8)).toNat) ?_ ?_
 · exact ⟨0,zh,zh,(by omega),by simp,hS.sp⟩
 rintro ρ w1 ⟨j,hA,hρ,hj,hd,hS⟩;obtain ⟨ρ,rfl⟩:=env2 hA hρ
 refine ZaV ?_
 refine Q5 rfl (fun hc=>?_) (fun hc=>?_)
 · skip
   refine Zar ?_;refine Zbm ?_;refine ZaG ?_;refine ZaX ?_;intro b1 o1 cs1 x1 hat1 hx1 he1;(first|(obtain rfl:=Qt he1)|(obtain rfl:=u8R_out he1));refine Yan ?_;first|(refine Qp ?_)|(refine Qu ?_)|(refine Q7 rfl rfl (fun hc=>?_) (fun hc=>?_))
   all_goals (refine zn ?_)
   all_goals
    first
    | (refine zct ?_
       refine Zbk ?_
       (exact ⟨_,rfl,j,rfl,by rw [hd,Q1 hx1,List.any_cons,decide_eq_true (by omega),Bool.true_or];simp,hS.sp⟩))
    | (refine zcf ?_
       refine zsk ?_)
   refine ZaP ?_;(exact ⟨⟨j+1,zh,zh,(by omega),by rw [hd,Q1 hx1,List.any_cons,decide_eq_false (by omega),Bool.false_or],hS.sp⟩,Q4 (by omega)⟩)
 · skip
   refine ZbG ?_;(first|(exact ⟨_,rfl,j,rfl,by rw [hd,Q1 hx1,List.any_cons,decide_eq_true (by omega),Bool.true_or];simp,hS.sp⟩)|(exact ⟨_,rfl, -1,rfl,by rw [hd,List.drop_of_length_le (by omega)];simp,hS.sp⟩))
theorem Q9R {s:List UInt8}{c:Nat}{v:Value}(hK:u8R.sl cx v s) (hS:St cx w L):Rets Tryz.prog Q2Y [v, .int .u8 c] w fun u w'=>u= .bool (s.any fun b=>decide (b.toNat=c))∧St cx w' L:=by
 refine lgo tyD Tryz.func252 ?_;refine Zaf ?_;refine ZaG ?_;refine zR2 (c:=uindex_c hK hS) (h:=?_);rintro v1 w1 ⟨r,rfl,hr,hS⟩;first|(refine Q2b ?_)|(refine Q2c ?_)|(refine Q1a rfl rfl (fun hc=>?_) (fun hc=>?_))
 all_goals (refine zm ?_;refine zn ?_;refine zr ?_;refine zf ?_;refine ⟨_,rfl,?_,hS.sp⟩;(cases hb:(s.any fun b=>decide (b.toNat=c))<;>simp_all);done)
theorem Q6o {s:ByteArray}{c:Nat}(hs:s.size≤1000000) (hS:St cx w L):Rets Tryz.prog QdI [.string s, .int .u8 c] w fun u w'=>u= .bool (Q1b s c)∧St cx w' L:=by
 have hle:=St.refl hS
 refine lgo tyD Tryz.func214 ?_;refine ZbQ ?_;refine s_bytes (e:=5) (by kernel_rfl) (by kernel_rfl) (by kernel_rfl) hS vw ?_;intro v1 w1 hS;obtain ⟨c1,hle2,hS,hk1⟩:=St.freezeL (r:=u8R) hS (u8R_ls _) rfl (by rw [Array.length_toList];show s.size≤140737488355328;omega);refine zm ?_;refine zR2 (c:=Q9R hk1 hS) (h:=?_);rintro v1 w1 ⟨rfl,hS⟩;refine ZaB ?_;((exact ⟨_,rfl,rfl,St.weak hS.sp hle2⟩))
theorem has_c {op:Int}(hS:St cx w L):Rets Tryz.prog code_has [.int .i64 op] w fun u w'=>u= .string (hasF op)∧St cx w' L:=by
 by_cases hb:op<1∨14<op
 · have e:hasF op=⟨#[]⟩:=by unfold hasF;rw [if_pos hb]
   rw [e]
   refine lgo tyD Tryz.func213 ?_;refine Zbx ?_;first|(refine Q1f ?_)|(refine Q1g ?_)|(refine Qr rfl rfl (fun hc=>?_) (fun hc=>?_))
   all_goals (refine Zbb ?_;(first|refine zgn ?_|(refine zgy ?_;refine QL ?_));refine ZaK ?_;refine zct ?_;refine Zas ?_;refine ⟨_,rfl,?_,hS.sp⟩;(rfl);done)
 · have hu:(hasTab.map Value.string)[op.toNat]?=some (.string (hasF op)):=by
    rcases op_cases (op:=op) (by omega) (by omega) with rfl|rfl|rfl|rfl|rfl|rfl|rfl|rfl|rfl|rfl|rfl|rfl|rfl|rfl<;>rfl
   generalize hasF op=s at hu ⊢
   refine lgo tyD Tryz.func213 ?_;refine Zbx ?_;(first|(refine Q1f ?_)|(refine Q1g ?_));refine Zbb ?_;(first|refine zgn ?_|(refine zgy ?_;(first|(refine QL ?_)|(refine QO ?_))));refine ZaK ?_;refine Zcr ?_;refine Zaa ?_;refine QcQ (cs:=[_,_,_,_,_,_,_,_,_,_,_,_,_,_,_]) vw vw vw vw vw vw vw vw vw vw vw vw vw vw vw (by rfl) ?_;refine zm ?_;refine s_idxv (n:=15) (e:=9) (by kernel_rfl) (by kernel_rfl) (by kernel_rfl) vw vw (by omega) (by omega) hu ?_;refine ZaB ?_;(refine ⟨_,rfl,?_,hS.sp⟩;(rfl);done)
theorem QdA (op:Int):(hasF op).size≤1000000:=by
 by_cases hb:op<1∨14<op
 · unfold hasF;rw [if_pos hb];decide
 · rcases op_cases (op:=op) (by omega) (by omega) with rfl|rfl|rfl|rfl|rfl|rfl|rfl|rfl|rfl|rfl|rfl|rfl|rfl|rfl<;>decide
theorem ins_end {g:Flt}{at':Int}{n:Nat}{x:Ins}{q:Bool}{c3:Int}(hq:q=true↔(((((((Q1b (hasF x.op) 97=false∧x.a≠0)∨(Q1b (hasF x.op) 98=false∧x.b≠0))∨(Q1b (hasF x.op) 99=false∧x.c≠0))∨(Q1b (hasF x.op) 107=false∧x.k≠0))∨(Q1b (hasF x.op) 110=false∧x.n≠0))∨(Q1b (hasF x.op) 103=false∧0<x.regs.length))∨(Q1b (hasF x.op) 114=false∧0<x.args.length))) (h3:c3=Q14 n x):
 orF (orF (orF g (mkF (if x.op<1∨14<x.op then 3 else 0) at')) (mkF (if q=true then 4 else 0) at')) (mkF c3 at')=orF g (mkF (Qm n x) at'):=by
 rw [Q25,Q25]
 congr 2
 subst h3
 unfold Qm
 by_cases hb:x.op<1∨14<x.op
 · rw [if_pos hb,if_pos hb];rfl
 · rw [if_neg hb,if_neg hb]
   obtain ⟨h1,h2,h3,h4,h5,h6,h7⟩:=with_all x.op hb
   rw [h1,h2,h3,h4,h5,h6,h7] at hq
   simp only [or_assoc] at hq
   by_cases ho:x.odd
   · rw [if_pos ho,if_pos (hq.2 ho)];rfl
   · rw [if_neg ho,if_neg fun h=>ho (hq.1 h)];rfl
theorem Q3N {a b:Int}(h:a≠0):orC a b=a:=if_pos h
theorem Q3B (b:Int):orC 0 b=b:=rfl
section
attribute [local irreducible] orF mkF orC Q14 Qm Q1n Q10
set_option maxHeartbeats 1000000 in
theorem ins_c {x :Ins}{n:List Fun}{vf:Value}{g:Flt}{at':Int}{b:Nat}{cs:List Value}(hx:insR.at cx cs x) (hf:funcR.sl cx vf n) (hS:St cx w L) (hi:nth L i=some (jdg b vf g at')):
 Rets Tryz.prog Q7B [.pointer (some ⟨b,0,none⟩), .agg ⟨cs⟩] w fun u w'=>u= .tuple #[]∧St cx w' (L.set i (jdg b vf (orF g (mkF (Qm n.length x) at')) at')):=by
 have hS:=hS.out hi
 obtain ⟨vr,va,rfl,hr,ha⟩:=QG hx
 have hlr:=hr.len
 have hla:=ha.len
 have hln:=hf.len
 have hsz:=QdA x.op
 refine lgo tyD Tryz.func164 ?_;refine Zaw ?_;intro p3 w1 hS;refine zn ?_
 refine zM [0,3] (fun A ρ' w'=>Has ρ' A∧Has ρ' []∧St cx w' (blk p3 84 [.int .i64 x.op, .int .i64 x.a, .int .i64 x.b, .int .i64 x.c, .int .i64 x.k, .int .i64 x.n,vr,va]::jdg b vf (orF g (mkF (if x.op<1∨14<x.op then 3 else 0) at')) at'::L.eraseIdx i)) ?_ ?_
 · skip
   refine ZbH ?_;first|(refine Q1f ?_)|(refine Q1g ?_)|(refine Qr rfl rfl (fun hc=>?_) (fun hc=>?_))
   all_goals (refine Zav ?_;first|refine zgn ?_|(refine zgy ?_;(first|(refine QL ?_)|(refine QO ?_)|(refine Qd rfl rfl (fun hc=>?_) (fun hc=>?_)))))
   all_goals (refine Yad ?_;refine zR3 (c:=Q1L (by intro _;decide) hS fd) (h:=?_);rintro v1 w1 ⟨rfl,hS⟩;simp only [List.set_cons_zero,List.set_cons_succ,if_true,Bool.false_eq_true,if_false] at hS;refine zn ?_;exact ⟨zh,zh,by first|(rw [if_pos (by omega)];exact hS.sp)|(rw [if_neg (by omega)];exact hS.sp)⟩)
 rintro ρ w1 ⟨hA,hρ,hS⟩;obtain ⟨ρ,rfl⟩:=env2 hA hρ
 refine Zao ?_;refine zR1 (c:=has_c hS) (h:=?_);rintro v1 w1 ⟨rfl,hS⟩;refine Zab ?_;generalize hh:hasF x.op=h at*;refine Zaa ?_
 refine zKL hS 9 [0,3,4] (fun A LL ρ' w'=>∃(q1:Bool),Has ρ' A∧Has ρ' [(18, .pointer (some ⟨b,0,none⟩)),(26, .bool q1)]∧(q1=true↔(Q1b h 97=false∧x.a≠0))∧St cx w' (LL)) ?_ ?_
 · skip
   refine ZbV ?_;refine zR2 (c:=Q6o hsz hS) (h:=?_);rintro v1 w1 ⟨rfl,hS⟩;cases ha1:Q1b h 97
   all_goals (refine znt ?_;refine Zav ?_;first|refine zgn ?_|(refine zgy ?_;(first|(refine Qy ?_)|(refine Qz ?_)|(refine Qa rfl rfl (fun hc=>?_) (fun hc=>?_)))))
   all_goals (refine ZbJ ?_;first|(exact ⟨_,zh,zh,by exact ⟨fun _=>⟨(by first|rfl|assumption),by omega⟩,fun _=>rfl⟩,hS.sp⟩)|(exact ⟨_,zh,zh,by exact ⟨fun h=>Bool.noConfusion h,fun h=>by obtain ⟨h1,h2⟩:=h;first|(exfalso;omega)|(simp_all;done)⟩,hS.sp⟩))
 rintro ρ w1 ⟨q1,hA,hρ,hq1,hS⟩;obtain ⟨ρ,rfl⟩:=env2 hA hρ
 refine zKL hS 10 [0,3,4,18] (fun A LL ρ' w'=>∃(q2:Bool),Has ρ' A∧Has ρ' [(36, .bool q2)]∧(q2=true↔((Q1b h 97=false∧x.a≠0)∨(Q1b h 98=false∧x.b≠0)))∧St cx w' (LL)) ?_ ?_
 · skip
   cases q1
   all_goals (refine Zbb ?_;(first|refine zgn ?_|(refine zgy ?_;refine zR2 (c:=Q6o hsz hS) (h:=?_);rintro v1 w1 ⟨rfl,hS⟩));cases ha2:Q1b h 98)
   all_goals (refine Zcf ?_;first|refine zgn ?_|(refine zgy ?_;(first|(refine Qy ?_)|(refine Qz ?_)|(refine Qa rfl rfl (fun hc=>?_) (fun hc=>?_)))))
   all_goals (refine ZbU ?_;first|(exact ⟨_,zh,zh,by exact ⟨fun _=> .inl (hq1.1 rfl),fun _=>rfl⟩,hS.sp⟩)|(exact ⟨_,zh,zh,by exact ⟨fun _=> .inr ⟨(by first|rfl|assumption),by omega⟩,fun _=>rfl⟩,hS.sp⟩)|(exact ⟨_,zh,zh,by exact ⟨fun h=>Bool.noConfusion h,fun h=>h.elim (fun h=>hq1.2 h) (fun h=>by obtain ⟨h1,h2⟩:=h;first|(exfalso;omega)|(simp_all;done))⟩,hS.sp⟩))
 rintro ρ w1 ⟨q2,hA,hρ,hq2,hS⟩;obtain ⟨ρ,rfl⟩:=env2 hA hρ
 refine zKL hS 10 [0,3,4,18] (fun A LL ρ' w'=>∃(q3:Bool),Has ρ' A∧Has ρ' [(46, .bool q3)]∧(q3=true↔(((Q1b h 97=false∧x.a≠0)∨(Q1b h 98=false∧x.b≠0))∨(Q1b h 99=false∧x.c≠0)))∧St cx w' (LL)) ?_ ?_
 · skip
   cases q2
   all_goals (refine Zbb ?_;(first|refine zgn ?_|(refine zgy ?_;refine zR2 (c:=Q6o hsz hS) (h:=?_);rintro v1 w1 ⟨rfl,hS⟩));cases ha3:Q1b h 99)
   all_goals (refine Zcf ?_;first|refine zgn ?_|(refine zgy ?_;(first|(refine Qy ?_)|(refine Qz ?_)|(refine Qa rfl rfl (fun hc=>?_) (fun hc=>?_)))))
   all_goals (refine ZbU ?_;first|(exact ⟨_,zh,zh,by exact ⟨fun _=> .inl (hq2.1 rfl),fun _=>rfl⟩,hS.sp⟩)|(exact ⟨_,zh,zh,by exact ⟨fun _=> .inr ⟨(by first|rfl|assumption),by omega⟩,fun _=>rfl⟩,hS.sp⟩)|(exact ⟨_,zh,zh,by exact ⟨fun h=>Bool.noConfusion h,fun h=>h.elim (fun h=>hq2.2 h) (fun h=>by obtain ⟨h1,h2⟩:=h;first|(exfalso;omega)|(simp_all;done))⟩,hS.sp⟩))
 rintro ρ w1 ⟨q3,hA,hρ,hq3,hS⟩;obtain ⟨ρ,rfl⟩:=env2 hA hρ
 refine zKL hS 10 [0,3,4,18] (fun A LL ρ' w'=>∃(q4:Bool),Has ρ' A∧Has ρ' [(56, .bool q4)]∧(q4=true↔((((Q1b h 97=false∧x.a≠0)∨(Q1b h 98=false∧x.b≠0))∨(Q1b h 99=false∧x.c≠0))∨(Q1b h 107=false∧x.k≠0)))∧St cx w' (LL)) ?_ ?_
 · skip
   cases q3
   all_goals (refine Zbb ?_;(first|refine zgn ?_|(refine zgy ?_;refine zR2 (c:=Q6o hsz hS) (h:=?_);rintro v1 w1 ⟨rfl,hS⟩));cases ha4:Q1b h 107)
   all_goals (refine Zcf ?_;first|refine zgn ?_|(refine zgy ?_;(first|(refine Qy ?_)|(refine Qz ?_)|(refine Qa rfl rfl (fun hc=>?_) (fun hc=>?_)))))
   all_goals (refine ZbU ?_;first|(exact ⟨_,zh,zh,by exact ⟨fun _=> .inl (hq3.1 rfl),fun _=>rfl⟩,hS.sp⟩)|(exact ⟨_,zh,zh,by exact ⟨fun _=> .inr ⟨(by first|rfl|assumption),by omega⟩,fun _=>rfl⟩,hS.sp⟩)|(exact ⟨_,zh,zh,by exact ⟨fun h=>Bool.noConfusion h,fun h=>h.elim (fun h=>hq3.2 h) (fun h=>by obtain ⟨h1,h2⟩:=h;first|(exfalso;omega)|(simp_all;done))⟩,hS.sp⟩))
 rintro ρ w1 ⟨q4,hA,hρ,hq4,hS⟩;obtain ⟨ρ,rfl⟩:=env2 hA hρ
 refine zKL hS 10 [0,3,4,18] (fun A LL ρ' w'=>∃(q5:Bool),Has ρ' A∧Has ρ' [(66, .bool q5)]∧(q5=true↔(((((Q1b h 97=false∧x.a≠0)∨(Q1b h 98=false∧x.b≠0))∨(Q1b h 99=false∧x.c≠0))∨(Q1b h 107=false∧x.k≠0))∨(Q1b h 110=false∧x.n≠0)))∧St cx w' (LL)) ?_ ?_
 · skip
   cases q4
   all_goals (refine Zbb ?_;(first|refine zgn ?_|(refine zgy ?_;refine zR2 (c:=Q6o hsz hS) (h:=?_);rintro v1 w1 ⟨rfl,hS⟩));cases ha5:Q1b h 110)
   all_goals (refine Zcf ?_;first|refine zgn ?_|(refine zgy ?_;(first|(refine Qy ?_)|(refine Qz ?_)|(refine Qa rfl rfl (fun hc=>?_) (fun hc=>?_)))))
   all_goals (refine ZbU ?_;first|(exact ⟨_,zh,zh,by exact ⟨fun _=> .inl (hq4.1 rfl),fun _=>rfl⟩,hS.sp⟩)|(exact ⟨_,zh,zh,by exact ⟨fun _=> .inr ⟨(by first|rfl|assumption),by omega⟩,fun _=>rfl⟩,hS.sp⟩)|(exact ⟨_,zh,zh,by exact ⟨fun h=>Bool.noConfusion h,fun h=>h.elim (fun h=>hq4.2 h) (fun h=>by obtain ⟨h1,h2⟩:=h;first|(exfalso;omega)|(simp_all;done))⟩,hS.sp⟩))
 rintro ρ w1 ⟨q5,hA,hρ,hq5,hS⟩;obtain ⟨ρ,rfl⟩:=env2 hA hρ
 refine zKL hS 11 [0,3,4,18] (fun A LL ρ' w'=>∃(q6:Bool),Has ρ' A∧Has ρ' [(77, .bool q6)]∧(q6=true↔((((((Q1b h 97=false∧x.a≠0)∨(Q1b h 98=false∧x.b≠0))∨(Q1b h 99=false∧x.c≠0))∨(Q1b h 107=false∧x.k≠0))∨(Q1b h 110=false∧x.n≠0))∨(Q1b h 103=false∧0<x.regs.length)))∧St cx w' (LL)) ?_ ?_
 · skip
   cases q5
   all_goals (refine Zbb ?_;(first|refine zgn ?_|(refine zgy ?_;refine zR2 (c:=Q6o hsz hS) (h:=?_);rintro v1 w1 ⟨rfl,hS⟩));cases ha6:Q1b h 103)
   all_goals (refine Zcf ?_;refine Yai ?_;first|refine zgn ?_|(refine zgy ?_;(first|(refine QL ?_)|(refine QO ?_)|(refine Qd rfl rfl (fun hc=>?_) (fun hc=>?_)))))
   all_goals (refine ZbU ?_;first|(exact ⟨_,zh,zh,by exact ⟨fun _=> .inl (hq5.1 rfl),fun _=>rfl⟩,hS.sp⟩)|(exact ⟨_,zh,zh,by exact ⟨fun _=> .inr ⟨(by first|rfl|assumption),by omega⟩,fun _=>rfl⟩,hS.sp⟩)|(exact ⟨_,zh,zh,by exact ⟨fun h=>Bool.noConfusion h,fun h=>h.elim (fun h=>hq5.2 h) (fun h=>by obtain ⟨h1,h2⟩:=h;first|(exfalso;omega)|(simp_all;done))⟩,hS.sp⟩))
 rintro ρ w1 ⟨q6,hA,hρ,hq6,hS⟩;obtain ⟨ρ,rfl⟩:=env2 hA hρ
 refine zKL hS 11 [0,3,18] (fun A LL ρ' w'=>∃(q7:Bool),Has ρ' A∧Has ρ' [(88, .bool q7)]∧(q7=true↔(((((((Q1b h 97=false∧x.a≠0)∨(Q1b h 98=false∧x.b≠0))∨(Q1b h 99=false∧x.c≠0))∨(Q1b h 107=false∧x.k≠0))∨(Q1b h 110=false∧x.n≠0))∨(Q1b h 103=false∧0<x.regs.length))∨(Q1b h 114=false∧0<x.args.length)))∧St cx w' (LL)) ?_ ?_
 · skip
   cases q6
   all_goals (refine Zbb ?_;(first|refine zgn ?_|(refine zgy ?_;refine zR2 (c:=Q6o hsz hS) (h:=?_);rintro v1 w1 ⟨rfl,hS⟩));cases ha7:Q1b h 114)
   all_goals (refine Zcf ?_;refine Yai ?_;first|refine zgn ?_|(refine zgy ?_;(first|(refine QL ?_)|(refine QO ?_)|(refine Qd rfl rfl (fun hc=>?_) (fun hc=>?_)))))
   all_goals (refine ZbU ?_;first|(exact ⟨_,zh,zh,by exact ⟨fun _=> .inl (hq6.1 rfl),fun _=>rfl⟩,hS.sp⟩)|(exact ⟨_,zh,zh,by exact ⟨fun _=> .inr ⟨(by first|rfl|assumption),by omega⟩,fun _=>rfl⟩,hS.sp⟩)|(exact ⟨_,zh,zh,by exact ⟨fun h=>Bool.noConfusion h,fun h=>h.elim (fun h=>hq6.2 h) (fun h=>by obtain ⟨h1,h2⟩:=h;first|(exfalso;omega)|(simp_all;done))⟩,hS.sp⟩))
 rintro ρ w1 ⟨q7,hA,hρ,hq7,hS⟩;obtain ⟨ρ,rfl⟩:=env2 hA hρ
 refine zR3 (c:=Q1L (by intro _;decide) hS fd) (h:=?_);rintro v1 w1 ⟨rfl,hS⟩;simp only [List.set_cons_zero,List.set_cons_succ,if_true,Bool.false_eq_true,if_false] at hS;refine Zbe ?_;clear hq1 hq2 hq3 hq4 hq5 hq6;have hq:=hq7;clear hq7;refine Zba ?_;refine Zcu ?_;refine Zaa ?_;first|(refine Qp ?_)|(refine Qu ?_)|(refine Q7 rfl rfl (fun hc=>?_) (fun hc=>?_))
 all_goals (refine Zab ?_)
 all_goals
  first
  | (refine zct ?_
     refine ZbH ?_;first|(refine Q1f ?_)|(refine Q1g ?_)|(refine Qr rfl rfl (fun hc=>?_) (fun hc=>?_))
     all_goals (refine Zav ?_;first|refine zgn ?_|(refine zgy ?_;(first|(refine QL ?_)|(refine QO ?_)|(refine Qd rfl rfl (fun hc=>?_) (fun hc=>?_)))))
     all_goals (refine Yad ?_;refine zR3 (c:=Q1L (by intro _;decide) hS fd) (h:=?_);rintro v1 w1 ⟨rfl,hS⟩;simp only [List.set_cons_zero,List.set_cons_succ,if_true,Bool.false_eq_true,if_false] at hS)
     all_goals refine zn ?_)
  | (refine zcf ?_
     refine Zaa ?_;first|(refine Qp ?_)|(refine Qu ?_)|(refine Q7 rfl rfl (fun hc=>?_) (fun hc=>?_))
     all_goals (refine Zab ?_)
     all_goals
      first
      | (refine zct ?_
         refine ZbH ?_;refine zL ?_;first|(refine QL ?_)|(refine QO ?_)|(refine Qd rfl rfl (fun hc=>?_) (fun hc=>?_))
         all_goals (refine zR3 (c:=Q1L (by intro _;decide) hS fd) (h:=?_);rintro v1 w1 ⟨rfl,hS⟩;simp only [List.set_cons_zero,List.set_cons_succ,if_true,Bool.false_eq_true,if_false] at hS)
         all_goals refine zn ?_)
      | (refine zcf ?_
         refine Zbt ?_;first|(refine Qp ?_)|(refine Qu ?_)|(refine Q7 rfl rfl (fun hc=>?_) (fun hc=>?_))
         all_goals (refine Zab ?_)
         all_goals
          first
          | (refine zct ?_
             refine zsk ?_)
          | (refine zcf ?_
             refine Q1z ?_;first|(refine Qp ?_)|(refine Qu ?_)|(refine Q7 rfl rfl (fun hc=>?_) (fun hc=>?_))
             all_goals (refine zm ?_)
             all_goals refine zn ?_)
         all_goals
          first
          | (refine zct ?_
             all_goals (refine ZbH ?_;first|(refine Q1f ?_)|(refine Q1g ?_)|(refine Qr rfl rfl (fun hc=>?_) (fun hc=>?_)))
             all_goals (refine Zav ?_;first|refine zgn ?_|(refine zgy ?_;(first|(refine Q2b ?_)|(refine Q2c ?_)|(refine Q1a rfl rfl (fun hc=>?_) (fun hc=>?_)))))
             all_goals (refine Yad ?_;refine zR3 (c:=Q1L (by intro _;decide) hS fd) (h:=?_);rintro v1 w1 ⟨rfl,hS⟩;simp only [List.set_cons_zero,List.set_cons_succ,if_true,Bool.false_eq_true,if_false] at hS)
             all_goals refine zn ?_)
          | (refine zcf ?_
             refine Zaa ?_;first|(refine Qp ?_)|(refine Qu ?_)|(refine Q7 rfl rfl (fun hc=>?_) (fun hc=>?_))
             all_goals (refine Zab ?_)
             all_goals
              first
              | (refine zct ?_
                 refine QJ ?_;refine zD (ci 16 [15]) ?_;have hS:=hS.drew;refine zm ?_;refine Zad ?_;first|(refine Q1f ?_)|(refine Q1g ?_)|(refine Qr rfl rfl (fun hc=>?_) (fun hc=>?_))
                 all_goals (refine Zav ?_;refine Zcb ?_;refine Yaa ?_;refine Zak ?_;refine Yai ?_;first|refine zgn ?_|(refine zgy ?_;(first|(refine Q2b ?_)|(refine Q2c ?_)|(refine Q1a rfl rfl (fun hc=>?_) (fun hc=>?_)))))
                 all_goals (refine Yad ?_;refine zR3 (c:=Q1L (by intro _;decide) hS fd) (h:=?_);rintro v1 w1 ⟨rfl,hS⟩;simp only [List.set_cons_zero,List.set_cons_succ,if_true,Bool.false_eq_true,if_false] at hS;refine zn ?_;refine ZbH ?_;refine zL ?_;first|(refine QL ?_)|(refine QO ?_)|(refine Qd rfl rfl (fun hc=>?_) (fun hc=>?_)))
                 all_goals (refine ZbI ?_;first|refine zgn ?_|(refine zgy ?_;(first|(refine QL ?_)|(refine QO ?_)|(refine Qd rfl rfl (fun hc=>?_) (fun hc=>?_)))))
                 all_goals (refine Yad ?_;refine zR3 (c:=Q1L (by intro _;decide) hS fd) (h:=?_);rintro v1 w1 ⟨rfl,hS⟩;simp only [List.set_cons_zero,List.set_cons_succ,if_true,Bool.false_eq_true,if_false] at hS)
                 all_goals refine zn ?_)
              | (refine zcf ?_
                 refine zsk ?_))))
 all_goals (refine Q17 ?_; refine ⟨_, rfl, rfl, ?_⟩; subst hh; rw [← ins_end (c3 := Q14 n.length x) hq rfl]; clear hq hx hr ha hf hsz; have hS := hS.drop; refine St.back ?_ hi; first | (rw [show Q14 n.length x = 0 from (by unfold Q14; (repeat (first | rw [if_pos (by omega)] | rw [if_neg (by omega)])))]; first | (rw [Q1E, QbV rfl]; exact hS) | exact hS | (rw [Q25, Q3B] at hS; exact hS)) | (rw [show Q14 n.length x = 1 from (by unfold Q14; (repeat (first | rw [if_pos (by omega)] | rw [if_neg (by omega)])))]; first | exact hS | (rw [Q25, Q3N (by decide)] at hS; exact hS)) | (rw [show Q14 n.length x = 2 from (by unfold Q14; (repeat (first | rw [if_pos (by omega)] | rw [if_neg (by omega)])))]; first | exact hS | (rw [Q25, Q3B] at hS; exact hS)) | (trace_state; fail "end"))
theorem to_c {x:Fun}{t:To}{is:Bool}{vf:Value}{g:Flt}{at':Int}{b:Nat}{cs ds:List Value}(hx:funcR.at cx cs x) (ht:toR.at cx ds t) (hS:St cx w L) (hi:nth L i=some (jdg b vf g at')):
 Rets Tryz.prog Q8B [.pointer (some ⟨b,0,none⟩), .agg ⟨cs⟩, .agg ⟨ds⟩, .bool is] w fun u w'=>u= .tuple #[]∧St cx w' (L.set i (jdg b vf (orF g (mkF (Q1n x.blocks.length t is) at')) at')):=by
 have hS:=hS.out hi
 obtain ⟨vp,vr,vb,rfl,hp,hr,hb⟩:=Qo hx
 obtain ⟨v1,v2,rfl,h1,h2⟩:=Q1N ht
 have hlb:=hb.len
 have hl1:=h1.len
 have hl2:=h2.len
 cases is with
 | false=>
   refine lgo tyD Tryz.func215 ?_;refine Zaw ?_;intro p5 w1 hS;refine zb hS ?_;intro p6 w1 hS;refine zn ?_;refine Zan ?_;refine Zbo ?_;refine zct ?_;refine Zae ?_;refine Zad ?_;first|(refine Qy ?_)|(refine Qz ?_)|(refine Qa rfl rfl (fun hc=>?_) (fun hc=>?_))
   all_goals (refine ZbI ?_;first|refine zgn ?_|(refine zgy ?_;(first|(refine QL ?_)|(refine QO ?_)|(refine Qd rfl rfl (fun hc=>?_) (fun hc=>?_)))))
   all_goals (refine Yad ?_;refine ZbI ?_;first|refine zgn ?_|(refine zgy ?_;(first|(refine QL ?_)|(refine QO ?_)|(refine Qd rfl rfl (fun hc=>?_) (fun hc=>?_)))))
   all_goals (refine Yad ?_;refine zR3 (c:=Q1L (by intro _;decide) hS fd) (h:=?_);rintro v1 w1 ⟨rfl,hS⟩;simp only [List.set_cons_zero,List.set_cons_succ,if_true,Bool.false_eq_true,if_false] at hS;refine ZaY ?_;refine q_ret0 ?_;refine ⟨_,rfl,rfl,?_⟩;have hS:=hS.drop.drop;refine St.back ?_ hi;first|(rw [show Q1n x.blocks.length t false=4 from (by unfold Q1n;rw [if_pos rfl,if_pos (by omega)])];exact hS)|(rw [show Q1n x.blocks.length t false=0 from (by unfold Q1n;rw [if_pos rfl,if_neg (by omega)])];exact hS))
 | true=>
   refine lgo tyD Tryz.func215 ?_;refine Zaw ?_;intro p5 w1 hS;refine zb hS ?_;intro p6 w1 hS;refine zn ?_;refine Zan ?_;refine Zbo ?_;refine Zcr ?_;refine Zae ?_;refine Zad ?_;first|(refine Q1f ?_)|(refine Q1g ?_)|(refine Qr rfl rfl (fun hc=>?_) (fun hc=>?_))
   all_goals (refine Zbp ?_;refine Yai ?_;first|refine zgn ?_|(refine zgy ?_;(first|(refine Q2b ?_)|(refine Q2c ?_)|(refine Q1a rfl rfl (fun hc=>?_) (fun hc=>?_)))))
   all_goals (refine Yad ?_;refine zR3 (c:=Q1L (by intro _;decide) hS fd) (h:=?_);rintro v1 w1 ⟨rfl,hS⟩;simp only [List.set_cons_zero,List.set_cons_succ,if_true,Bool.false_eq_true,if_false] at hS;refine zn ?_;refine ZbH ?_;refine zL ?_;first|(refine QL ?_)|(refine QO ?_)|(refine Qd rfl rfl (fun hc=>?_) (fun hc=>?_)))
   all_goals (refine ZbI ?_;first|refine zgn ?_|(refine zgy ?_;(first|(refine QL ?_)|(refine QO ?_)|(refine Qd rfl rfl (fun hc=>?_) (fun hc=>?_)))))
   all_goals (refine Yad ?_;refine zR3 (c:=Q1L (by intro _;decide) hS fd) (h:=?_);rintro v1 w1 ⟨rfl,hS⟩;simp only [List.set_cons_zero,List.set_cons_succ,if_true,Bool.false_eq_true,if_false] at hS;refine zn ?_;refine Q17 ?_;refine ⟨_,rfl,rfl,?_⟩;have hS:=hS.drop.drop;rw [Q25] at hS;refine St.back ?_ hi;first|(rw [show Q1n x.blocks.length t true=1 from (by unfold Q1n;rw [if_neg Bool.noConfusion,if_pos (by omega)])];rw [Q3N (by decide)] at hS;exact hS)|(rw [show Q1n x.blocks.length t true=2 from (by unfold Q1n;rw [if_neg Bool.noConfusion,if_neg (by omega),if_pos (by omega)])];rw [Q3B] at hS;exact hS)|(rw [show Q1n x.blocks.length t true=0 from (by unfold Q1n;rw [if_neg Bool.noConfusion,if_neg (by omega),if_neg (by omega)])];rw [Q3B] at hS;exact hS))
theorem end_sum {g:Flt}{at':Int}{n:Nat}{e:Tail}:orF (orF (orF (orF (orF g (mkF (if e.op<1∨3<e.op then 3 else 0) at')) (mkF (if e.op≠2∧e.a≠0∨e.op≠3∧0<e.args.length then 4 else 0) at')) (mkF (if 8<e.args.length then 2 else 0) at')) (mkF (Q1n n e.yes (decide (e.op≠3))) at')) (mkF (Q1n n e.no (decide (e.op=2))) at')=orF g (mkF (Q10 n e) at'):=by
 rw [Q25,Q25,Q25,Q25]
 congr 2
 unfold Q10
 split
 · simp only [Q3N (show (3:Int)≠0 by decide)]
 · rw [Q3B]
   split
   · simp only [Q3N (show (4:Int)≠0 by decide)]
   · rw [Q3B]
     split
     · simp only [Q3N (show (2:Int)≠0 by decide)]
     · rw [Q3B]
theorem end_c {x:Fun}{e:Tail}{vf:Value}{g:Flt}{at':Int}{b:Nat}{cs ds:List Value}(hx:funcR.at cx cs x) (he:endR.at cx ds e) (hS:St cx w L) (hi:nth L i=some (jdg b vf g at')):
 Rets Tryz.prog Q7C [.pointer (some ⟨b,0,none⟩), .agg ⟨cs⟩, .agg ⟨ds⟩] w fun u w'=>u= .tuple #[]∧St cx w' (L.set i (jdg b vf (orF g (mkF (Q10 x.blocks.length e) at')) at')):=by
 have hS:=hS.out hi
 obtain ⟨vp,vr,vb,rfl,hp,hr,hb⟩:=Qo hx
 obtain ⟨v1,v2,v3,v4,v5,rfl,h1,h2,h3,h4,h5⟩:=Q3u he
 have hl5:=h5.len
 refine lgo tyD Tryz.func165 ?_;refine Zaw ?_;intro p4 w1 hS;refine zb hS ?_;intro p5 w1 hS;refine zn ?_
 refine zM [0,4,5] (fun A ρ' w'=>Has ρ' A∧Has ρ' []∧St cx w' (blk p5 90 [.int .i64 e.op, .int .i64 e.a, .int .i64 e.yes.block,v1,v2, .int .i64 e.no.block,v3,v4,v5]::blk p4 95 [.int .i64 x.regs,vp,vr,vb]::jdg b vf (orF g (mkF (if e.op<1∨3<e.op then 3 else 0) at')) at'::L.eraseIdx i)) ?_ ?_
 · skip
   refine ZbH ?_;first|(refine Q1f ?_)|(refine Q1g ?_)|(refine Qr rfl rfl (fun hc=>?_) (fun hc=>?_))
   all_goals (refine Zav ?_;first|refine zgn ?_|(refine zgy ?_;(first|(refine QL ?_)|(refine QO ?_)|(refine Qd rfl rfl (fun hc=>?_) (fun hc=>?_)))))
   all_goals (refine Yad ?_;refine zR3 (c:=Q1L (by intro _;decide) hS fd) (h:=?_);rintro v1 w1 ⟨rfl,hS⟩;simp only [List.set_cons_zero,List.set_cons_succ,if_true,Bool.false_eq_true,if_false] at hS;refine zn ?_;exact ⟨zh,zh,by first|(rw [if_pos (by omega)];exact hS.sp)|(rw [if_neg (by omega)];exact hS.sp)⟩)
 rintro ρ w1 ⟨hA,hρ,hS⟩;obtain ⟨ρ,rfl⟩:=env2 hA hρ
 refine zM [0,4,5] (fun A ρ' w'=>Has ρ' A∧Has ρ' []∧St cx w' (blk p5 90 [.int .i64 e.op, .int .i64 e.a, .int .i64 e.yes.block,v1,v2, .int .i64 e.no.block,v3,v4,v5]::blk p4 95 [.int .i64 x.regs,vp,vr,vb]::jdg b vf (orF (orF g (mkF (if e.op<1∨3<e.op then 3 else 0) at')) (mkF (if e.op≠2∧e.a≠0∨e.op≠3∧0<e.args.length then 4 else 0) at')) at'::L.eraseIdx i)) ?_ ?_
 · skip
   refine ZbH ?_;first|(refine Qy ?_)|(refine Qz ?_)|(refine Qa rfl rfl (fun hc=>?_) (fun hc=>?_))
   all_goals (refine Zav ?_;first|refine zgn ?_|(refine zgy ?_;(first|(refine Qy ?_)|(refine Qz ?_)|(refine Qa rfl rfl (fun hc=>?_) (fun hc=>?_)))))
   all_goals (refine Yad ?_;refine Zav ?_;first|refine zgn ?_|(refine zgy ?_;(first|(refine Qy ?_)|(refine Qz ?_)|(refine Qa rfl rfl (fun hc=>?_) (fun hc=>?_)))))
   all_goals (refine Zbw ?_;refine Yai ?_;first|refine zgn ?_|(refine zgy ?_;(first|(refine QL ?_)|(refine QO ?_)|(refine Qd rfl rfl (fun hc=>?_) (fun hc=>?_)))))
   all_goals (refine Yaj ?_;refine Yad ?_;refine zR3 (c:=Q1L (by intro _;decide) hS fd) (h:=?_);rintro v1 w1 ⟨rfl,hS⟩;simp only [List.set_cons_zero,List.set_cons_succ,if_true,Bool.false_eq_true,if_false] at hS;refine zn ?_;exact ⟨zh,zh,by first|(rw [if_pos (c:=e.op≠2∧e.a≠0∨e.op≠3∧0<e.args.length) (by omega)];exact hS.sp)|(rw [if_neg (c:=e.op≠2∧e.a≠0∨e.op≠3∧0<e.args.length) (by omega)];exact hS.sp)⟩)
 rintro ρ w1 ⟨hA,hρ,hS⟩;obtain ⟨ρ,rfl⟩:=env2 hA hρ
 refine zM [0,4,5] (fun A ρ' w'=>Has ρ' A∧Has ρ' []∧St cx w' (blk p5 90 [.int .i64 e.op, .int .i64 e.a, .int .i64 e.yes.block,v1,v2, .int .i64 e.no.block,v3,v4,v5]::blk p4 95 [.int .i64 x.regs,vp,vr,vb]::jdg b vf (orF (orF (orF g (mkF (if e.op<1∨3<e.op then 3 else 0) at')) (mkF (if e.op≠2∧e.a≠0∨e.op≠3∧0<e.args.length then 4 else 0) at')) (mkF (if 8<e.args.length then 2 else 0) at')) at'::L.eraseIdx i)) ?_ ?_
 · skip
   refine ZbH ?_;refine zL ?_;first|(refine QL ?_)|(refine QO ?_)|(refine Qd rfl rfl (fun hc=>?_) (fun hc=>?_))
   all_goals (refine zR3 (c:=Q1L (by intro _;decide) hS fd) (h:=?_);rintro v1 w1 ⟨rfl,hS⟩;simp only [List.set_cons_zero,List.set_cons_succ,if_true,Bool.false_eq_true,if_false] at hS;refine zn ?_;exact ⟨zh,zh,by first|(rw [if_pos (c:=8<e.args.length) (by omega)];exact hS.sp)|(rw [if_neg (c:=8<e.args.length) (by omega)];exact hS.sp)⟩)
 rintro ρ w1 ⟨hA,hρ,hS⟩;obtain ⟨ρ,rfl⟩:=env2 hA hρ
 refine Zae ?_;refine zv hS ?_;refine ZbN ?_;refine Zad ?_;refine Q3h rfl rfl ?_;refine zR4 (c:=to_c (t:=e.yes) hx ⟨_,_,rfl,h1,h2⟩ hS fd) (h:=?_);rintro v1 w1 ⟨rfl,hS⟩;have hS:=hS.ns;refine zn ?_;refine ZbL ?_;refine ZbN ?_;refine Zad ?_;refine Q6y rfl rfl ?_;refine zR4 (c:=to_c (t:=e.no) hx ⟨_,_,rfl,h3,h4⟩ hS fd) (h:=?_);rintro v1 w1 ⟨rfl,hS⟩;have hS:=hS.ns;refine zn ?_;refine Q17 ?_;refine ⟨_,rfl,rfl,?_⟩;rw [end_sum] at hS;exact St.back hS.drop.drop hi
end
end Go.Proofs.YteflkifmgnpbhaaGreat
namespace Go.Proofs.YteflkifmgnpbhaaGreat
open Go.Lir
set_option maxHeartbeats 1000000
attribute [local irreducible] LC.wp Q0 QB QH retQ Q1k LO.wp Qh Calls
set_option linter.unusedSimpArgs false
set_option linter.unusedVariables false
variable {cx:Cx}{w:World}{L:List Res}
theorem Q3K (f:Nat) (hf:f≤1000000) (hS:St cx w L):Rets Tryz.prog R_AtFunc [.int .i64 f] w fun u w'=>u= .int .i64 (Q2g f)∧St cx w' L:=by
 unfold Q2g
 refine lgo tyD Tryz.func66 ?_;refine ZbQ ?_;refine zmu ?_;refine Zap ?_;refine Zai ?_;(refine ⟨_,rfl,?_,hS.sp⟩;(first|rfl|(congr 1;omega));done)
theorem Qdd (f:Nat) (hf:f≤1000000) (hS:St cx w L):Rets Tryz.prog QaC [.int .i64 f] w fun u w'=>u= .int .i64 (Q2g f)∧St cx w' L:=by
 unfold Q2g
 refine lgo tyD Tryz.func104 ?_;refine ZbQ ?_;refine zmu ?_;refine Zap ?_;refine Zai ?_;(((refine ⟨_,rfl,?_,hS.sp⟩;(rfl);done)))
theorem Q4b (f b:Nat) (hf:f≤1000000) (hb:b≤1000000) (hS:St cx w L):Rets Tryz.prog QdY [.int .i64 f, .int .i64 b] w fun u w'=>u= .int .i64 (Q2l f b)∧St cx w' L:=by
 unfold Q2l
 refine lgo tyD Tryz.func113 ?_;refine ZbQ ?_;refine zmu ?_;refine zm ?_;refine zmu ?_;refine zad ?_;refine Zap ?_;refine Zai ?_;(refine ⟨_,rfl,?_,hS.sp⟩;(first|rfl|(congr 1;omega));done)
theorem QbU (f b:Nat) (hf:f≤1000000) (hb:b≤1000000) (hS:St cx w L):Rets Tryz.prog Q9D [.int .i64 f, .int .i64 b] w fun u w'=>u= .int .i64 (Q2l f b)∧St cx w' L:=by
 unfold Q2l
 refine lgo tyD Tryz.func161 ?_;refine ZbQ ?_;refine zmu ?_;refine zm ?_;refine zmu ?_;refine zad ?_;refine Zap ?_;refine Zai ?_;(((refine ⟨_,rfl,?_,hS.sp⟩;(rfl);done)))
theorem Qb4 (f b:Nat) (hf:f≤1000000) (hb:b≤1000000) (hS:St cx w L):Rets Tryz.prog R_AtEnd [.int .i64 f, .int .i64 b] w fun u w'=>u= .int .i64 (Q4J f b)∧St cx w' L:=by
 unfold Q4J
 refine lgo tyD Tryz.func57 ?_;refine ZbQ ?_;refine zmu ?_;refine zm ?_;refine zmu ?_;refine zad ?_;refine Zap ?_;refine Zai ?_;(refine ⟨_,rfl,?_,hS.sp⟩;(first|rfl|(congr 1;omega));done)
theorem Qba (f b:Nat) (hf:f≤1000000) (hb:b≤1000000) (hS:St cx w L):Rets Tryz.prog Qce [.int .i64 f, .int .i64 b] w fun u w'=>u= .int .i64 (Q4J f b)∧St cx w' L:=by
 unfold Q4J
 refine lgo tyD Tryz.func116 ?_;refine ZbQ ?_;refine zmu ?_;refine zm ?_;refine zmu ?_;refine zad ?_;refine Zap ?_;refine Zai ?_;(((refine ⟨_,rfl,?_,hS.sp⟩;(rfl);done)))
theorem Qb3 (f b i:Nat) (hf:f≤1000000) (hb:b≤1000000) (hi:i≤1000000) (hS:St cx w L):Rets Tryz.prog R_AtIns [.int .i64 f, .int .i64 b, .int .i64 i] w fun u w'=>u= .int .i64 (Q45 f b i)∧St cx w' L:=by
 unfold Q45
 refine lgo tyD Tryz.func55 ?_;refine ZbQ ?_;refine zmu ?_;refine zm ?_;refine zmu ?_;refine zad ?_;refine zm ?_;refine Zap ?_;refine Zai ?_;(refine ⟨_,rfl,?_,hS.sp⟩;(first|rfl|(congr 1;omega));done)
theorem Qb9 (f b i:Nat) (hf:f≤1000000) (hb:b≤1000000) (hi:i≤1000000) (hS:St cx w L):Rets Tryz.prog Qcd [.int .i64 f, .int .i64 b, .int .i64 i] w fun u w'=>u= .int .i64 (Q45 f b i)∧St cx w' L:=by
 unfold Q45
 refine lgo tyD Tryz.func115 ?_;refine ZbQ ?_;refine zmu ?_;refine zm ?_;refine zmu ?_;refine zad ?_;refine zm ?_;refine Zap ?_;refine Zai ?_;(((refine ⟨_,rfl,?_,hS.sp⟩;(rfl);done)))
theorem rF_c {c a:Int}(hS:St cx w L):Rets Tryz.prog R_F [.int .i64 c, .int .i64 a] w fun u w'=>u= .agg ⟨[.int .i64 c, .int .i64 a]⟩∧St cx w' L:=by
 refine lgo tyD Tryz.func52 ?_;refine Zbz ?_;(intro p4 w1 hS);refine zn ?_;refine ZaG ?_;refine zb2 [_,_] ?_;((refine zsn hS ?_;intro w1 hS;have hS:=hS.ns));refine ZaY ?_;refine QK vw (Q3 (n:=2) (by kernel_rfl) (by kernel_rfl) (hS.blkAt fd) (by rfl) (by rfl)) ?_;(((refine ⟨_,rfl,?_,hS.sp⟩;(rfl);done)))
theorem Qae {l:List Ty}{regs:Int}{v:Value}(hl:tyR.sl cx v l) (hS:St cx w L):Rets Tryz.prog Qcj [v, .int .i64 regs] w fun u w'=>u= .int .i64 (Qg l regs)∧St cx w' L:=by
 have hlen:=hl.len
 unfold Qg
 refine lgo tyD Tryz.func67 ?_;refine Zbx ?_;refine zL ?_;first|(refine QL ?_)|(refine QO ?_)|(refine Qd rfl rfl (fun hc=>?_) (fun hc=>?_))
 all_goals (refine zn ?_)
 all_goals
  first
  | (refine zct ?_
     refine Zas ?_
     ((refine ⟨_,rfl,?_,hS.sp⟩;(rw [if_pos (by omega)]);done)))
  | (refine zcf ?_
     refine zsk ?_)
 refine ZaI ?_
 refine zoL hS [0,1] (fun A LL ρ' w'=>∃(j:Nat),Has ρ' A∧Has ρ' [(5, .int .i64 j)]∧(j≤l.length)∧(Q1S regs l=Q1S regs (l.drop j))∧St cx w' (LL)) (fun ρ' _=>(l.length - iv (ρ' 5)).toNat) ?_ ?_
 · exact ⟨0,zh,zh,(by omega),by simp,hS.sp⟩
 rintro ρ w1 ⟨j,hA,hρ,hj,hd,hS⟩;obtain ⟨ρ,rfl⟩:=env2 hA hρ
 refine ZbW ?_
 refine Q5 rfl (fun hc=>?_) (fun hc=>?_)
 · skip
   refine Zar ?_;refine ZaG ?_;refine zi ?_;intro b1 o1 cs1 x1 hat1 hx1 he1;obtain ⟨vl1,rfl,hl1⟩:=Q9 he1;refine Yaf ?_;refine zm ?_;refine zR2 (c:=QcS (by assumption) hS) (h:=?_);rintro v1 w1 ⟨rfl,hS⟩;refine ZaW ?_;first|(refine Qy ?_)|(refine Qz ?_)|(refine Qa rfl rfl (fun hc=>?_) (fun hc=>?_))
   all_goals (refine zn ?_)
   all_goals
    first
    | (refine zct ?_
       refine Zbk ?_
       first|(refine ⟨_,rfl,?_,hS.sp⟩;rw [if_pos (by omega)];done)|(refine ⟨_,rfl,?_,hS.sp⟩;rw [if_neg (by omega),hd,Q1 hx1,Q1S,Q3N (by assumption)];done))
    | (refine zcf ?_
       refine zsk ?_)
   refine Zax ?_;(exact ⟨⟨j+1,zh,zh,(by omega),by rw [hd,Q1 hx1,Q1S,show x1.fault regs=0 by omega,Q3B],hS.sp⟩,Q4 (by omega)⟩)
 · skip
   refine ZbG ?_;(first|(refine ⟨_,rfl,?_,hS.sp⟩;rw [if_pos (by omega)];done)|(refine ⟨_,rfl,?_,hS.sp⟩;rw [if_neg (by omega),hd,Q1 hx1,Q1S,Q3N (by assumption)];done)|(refine ⟨_,rfl,?_,hS.sp⟩;rw [if_neg (by omega),hd,List.drop_of_length_le (by omega),Q1S];done))
theorem fields_c {op : Int} (hS :St cx w L):Rets Tryz.prog Qco [.int .i64 op] w fun u w'=>u= .tuple #[.agg ⟨[.bool (fA op), .bool (fB op), .bool (fC op), .bool (fK op), .bool (fN op), .bool (fG op), .bool (fR op)]⟩, .bool (decide (1≤op∧op≤14))]∧St cx w' L:=by
 have hbad:(op<1∨14<op)→fA op=false∧fB op=false∧fC op=false∧fK op=false∧fN op=false∧fG op=false∧fR op=false∧decide (1≤op∧op≤14)=false:=by
  intro h
  refine ⟨?_,?_,?_,?_,?_,?_,?_,?_⟩<;>(first|unfold fA|unfold fB|unfold fC|unfold fK|unfold fN|unfold fG|unfold fR|skip)<;>rw [decide_eq_false_iff_not]<;>omega
 by_cases hb:op<1∨14<op
 · obtain ⟨h1, h2, h3, h4, h5, h6, h7, h8⟩:=hbad hb
   rw [h1,h2,h3,h4,h5,h6,h7,h8]
   clear hbad h1 h2 h3 h4 h5 h6 h7 h8
   refine lgo tyD Tryz.func150 ?_;refine Zbz ?_;(intro p2 w1 hS);refine Zab ?_;refine ZaI ?_;refine Zcm ?_
   all_goals
    first
    | (refine zct ?_
       all_goals (refine Zaa ?_;refine zb1 [_,_,_,_,_,_,_] ?_;refine zsn hS ?_;intro w1 hS;have hS:=hS.ns;refine Zbg ?_;refine Q12 vw (Q3 (n:=7) (by kernel_rfl) (by kernel_rfl) (hS.blkAt fd) (by rfl) (by rfl)) vw ?_)
       all_goals (refine ⟨_,rfl,?_,hS.sp⟩;(rfl);done))
    | (refine zcf ?_
       refine Zbt ?_;refine ZbE ?_
       all_goals
        first
        | (refine zct ?_
           all_goals refine zsk ?_)
        | (refine zcf ?_
           refine Q1z ?_;refine Yak ?_;refine zm ?_
           refine zn ?_)
       all_goals
        first
        | (refine zct ?_
           all_goals (refine Zaa ?_;refine zb3 [_,_,_,_,_,_,_] ?_;refine zsn hS ?_;intro w1 hS;have hS:=hS.ns;refine Zbg ?_;refine Q12 vw (Q3 (n:=7) (by kernel_rfl) (by kernel_rfl) (hS.blkAt fd) (by rfl) (by rfl)) vw ?_)
           all_goals (refine ⟨_,rfl,?_,hS.sp⟩;(rfl);done))
        | (refine zcf ?_
           refine Zbt ?_;refine ZbE ?_
           all_goals
            first
            | (refine zct ?_
               all_goals refine zsk ?_)
            | (refine zcf ?_
               refine Q1z ?_;refine Yak ?_;refine zm ?_
               refine zn ?_)
           all_goals
            first
            | (refine zct ?_
               all_goals (refine Zaa ?_;refine zb0 [_,_,_,_,_,_,_] ?_;refine zsn hS ?_;intro w1 hS;have hS:=hS.ns;refine Zbg ?_;refine Q12 vw (Q3 (n:=7) (by kernel_rfl) (by kernel_rfl) (hS.blkAt fd) (by rfl) (by rfl)) vw ?_)
               all_goals (refine ⟨_,rfl,?_,hS.sp⟩;(rfl);done))
            | (refine zcf ?_
               refine Zbt ?_;refine ZbE ?_
               all_goals
                first
                | (refine zct ?_
                   all_goals refine zsk ?_)
                | (refine zcf ?_
                   refine Zcm ?_
                   all_goals
                    first
                    | (refine zct ?_
                       all_goals refine zsk ?_)
                    | (refine zcf ?_
                       refine Q1z ?_;refine Yak ?_;refine zm ?_
                       refine zn ?_))
               all_goals
                first
                | (refine zct ?_
                   all_goals (refine Zaa ?_;refine zb1 [_,_,_,_,_,_,_] ?_;refine zsn hS ?_;intro w1 hS;have hS:=hS.ns;refine Zbg ?_;refine Q12 vw (Q3 (n:=7) (by kernel_rfl) (by kernel_rfl) (hS.blkAt fd) (by rfl) (by rfl)) vw ?_)
                   all_goals (refine ⟨_,rfl,?_,hS.sp⟩;(rfl);done))
                | (refine zcf ?_
                   refine Zcm ?_
                   all_goals
                    first
                    | (refine zct ?_
                       all_goals (refine Zaa ?_;refine zb2 [_,_,_,_,_,_,_] ?_;refine zsn hS ?_;intro w1 hS;have hS:=hS.ns;refine Zbg ?_;refine Q12 vw (Q3 (n:=7) (by kernel_rfl) (by kernel_rfl) (hS.blkAt fd) (by rfl) (by rfl)) vw ?_)
                       all_goals (refine ⟨_,rfl,?_,hS.sp⟩;(rfl);done))
                    | (refine zcf ?_
                       refine Zcm ?_
                       all_goals
                        first
                        | (refine zct ?_
                           all_goals (refine Zaa ?_;refine zb2 [_,_,_,_,_,_,_] ?_;refine zsn hS ?_;intro w1 hS;have hS:=hS.ns;refine Zbg ?_;refine Q12 vw (Q3 (n:=7) (by kernel_rfl) (by kernel_rfl) (hS.blkAt fd) (by rfl) (by rfl)) vw ?_)
                           all_goals (refine ⟨_,rfl,?_,hS.sp⟩;(rfl);done))
                        | (refine zcf ?_
                           refine Zbt ?_;refine ZbE ?_
                           all_goals
                            first
                            | (refine zct ?_
                               all_goals refine zsk ?_)
                            | (refine zcf ?_
                               refine Q1z ?_;refine Yak ?_;refine zm ?_
                               refine zn ?_)
                           all_goals
                            first
                            | (refine zct ?_
                               all_goals (refine Zaa ?_;refine zb2 [_,_,_,_,_,_,_] ?_;refine zsn hS ?_;intro w1 hS;have hS:=hS.ns;refine Zbg ?_;refine Q12 vw (Q3 (n:=7) (by kernel_rfl) (by kernel_rfl) (hS.blkAt fd) (by rfl) (by rfl)) vw ?_)
                               all_goals (refine ⟨_,rfl,?_,hS.sp⟩;(rfl);done))
                            | (refine zcf ?_
                               refine Zcm ?_
                               all_goals
                                first
                                | (refine zct ?_
                                   all_goals (refine Zaa ?_;refine zb3 [_,_,_,_,_,_,_] ?_;refine zsn hS ?_;intro w1 hS;have hS:=hS.ns;refine Zbg ?_;refine Q12 vw (Q3 (n:=7) (by kernel_rfl) (by kernel_rfl) (hS.blkAt fd) (by rfl) (by rfl)) vw ?_)
                                   all_goals (refine ⟨_,rfl,?_,hS.sp⟩;(rfl);done))
                                | (refine zcf ?_
                                   refine Zcm ?_
                                   all_goals
                                    first
                                    | (refine zct ?_
                                       all_goals (refine Zaa ?_;refine zb3 [_,_,_,_,_,_,_] ?_;refine zsn hS ?_;intro w1 hS;have hS:=hS.ns;refine Zbg ?_;refine Q12 vw (Q3 (n:=7) (by kernel_rfl) (by kernel_rfl) (hS.blkAt fd) (by rfl) (by rfl)) vw ?_)
                                       all_goals (refine ⟨_,rfl,?_,hS.sp⟩;(rfl);done))
                                    | (refine zcf ?_
                                       refine zsk ?_)))))))))
   refine Zaa ?_;refine zb0 [_,_,_,_,_,_,_] ?_;refine zsn hS ?_;intro w1 hS;have hS:=hS.ns;refine Zbg ?_;refine Q12 vw (Q3 (n:=7) (by kernel_rfl) (by kernel_rfl) (hS.blkAt fd) (by rfl) (by rfl)) vw ?_;(refine ⟨_,rfl,?_,hS.sp⟩;(rfl);done)
 · clear hbad
   rcases op_cases (op:=op) (by omega) (by omega) with rfl|rfl|rfl|rfl|rfl|rfl|rfl|rfl|rfl|rfl|rfl|rfl|rfl|rfl
   all_goals (clear hb;refine lgo tyD Tryz.func150 ?_;skip;refine Zbz ?_;intro p2 w1 hS;refine Zab ?_;refine ZaI ?_;refine Zcm ?_)
   all_goals
    first
    | (refine zct ?_
       refine Zaa ?_;refine zb1 [_,_,_,_,_,_,_] ?_;refine zsn hS ?_;intro w1 hS;have hS:=hS.ns;refine Zbg ?_;refine Q12 vw (Q3 (n:=7) (by kernel_rfl) (by kernel_rfl) (hS.blkAt fd) (by rfl) (by rfl)) vw ?_
       ((refine ⟨_,rfl,?_,hS.sp⟩;(rfl);done)))
    | (refine zcf ?_
       all_goals (refine Zbt ?_;refine ZbE ?_)
       all_goals
        first
        | (refine zct ?_
           refine zsk ?_)
        | (refine zcf ?_
           all_goals (refine Q1z ?_;refine Yak ?_;refine zm ?_)
           all_goals refine zn ?_)
       all_goals
        first
        | (refine zct ?_
           all_goals (refine Zaa ?_;refine zb3 [_,_,_,_,_,_,_] ?_;refine zsn hS ?_;intro w1 hS;have hS:=hS.ns;refine Zbg ?_;refine Q12 vw (Q3 (n:=7) (by kernel_rfl) (by kernel_rfl) (hS.blkAt fd) (by rfl) (by rfl)) vw ?_)
           all_goals (refine ⟨_,rfl,?_,hS.sp⟩;(rfl);done))
        | (refine zcf ?_
           all_goals (refine Zbt ?_;refine ZbE ?_)
           all_goals
            first
            | (refine zct ?_
               refine zsk ?_)
            | (refine zcf ?_
               all_goals (refine Q1z ?_;refine Yak ?_;refine zm ?_)
               all_goals refine zn ?_)
           all_goals
            first
            | (refine zct ?_
               all_goals (refine Zaa ?_;refine zb0 [_,_,_,_,_,_,_] ?_;refine zsn hS ?_;intro w1 hS;have hS:=hS.ns;refine Zbg ?_;refine Q12 vw (Q3 (n:=7) (by kernel_rfl) (by kernel_rfl) (hS.blkAt fd) (by rfl) (by rfl)) vw ?_)
               all_goals (refine ⟨_,rfl,?_,hS.sp⟩;(rfl);done))
            | (refine zcf ?_
               all_goals (refine Zbt ?_;refine ZbE ?_)
               all_goals
                first
                | (refine zct ?_
                   refine zsk ?_)
                | (refine zcf ?_
                   all_goals (refine Zcm ?_)
                   all_goals
                    first
                    | (refine zct ?_
                       refine zsk ?_)
                    | (refine zcf ?_
                       all_goals (refine Q1z ?_;refine Yak ?_;refine zm ?_)
                       all_goals refine zn ?_))
               all_goals
                first
                | (refine zct ?_
                   all_goals (refine Zaa ?_;refine zb1 [_,_,_,_,_,_,_] ?_;refine zsn hS ?_;intro w1 hS;have hS:=hS.ns;refine Zbg ?_;refine Q12 vw (Q3 (n:=7) (by kernel_rfl) (by kernel_rfl) (hS.blkAt fd) (by rfl) (by rfl)) vw ?_)
                   all_goals (refine ⟨_,rfl,?_,hS.sp⟩;(rfl);done))
                | (refine zcf ?_
                   all_goals (refine Zcm ?_)
                   all_goals
                    first
                    | (refine zct ?_
                       refine Zaa ?_;refine zb2 [_,_,_,_,_,_,_] ?_;refine zsn hS ?_;intro w1 hS;have hS:=hS.ns;refine Zbg ?_;refine Q12 vw (Q3 (n:=7) (by kernel_rfl) (by kernel_rfl) (hS.blkAt fd) (by rfl) (by rfl)) vw ?_
                       ((refine ⟨_,rfl,?_,hS.sp⟩;(rfl);done)))
                    | (refine zcf ?_
                       all_goals (refine Zcm ?_)
                       all_goals
                        first
                        | (refine zct ?_
                           refine Zaa ?_;refine zb2 [_,_,_,_,_,_,_] ?_;refine zsn hS ?_;intro w1 hS;have hS:=hS.ns;refine Zbg ?_;refine Q12 vw (Q3 (n:=7) (by kernel_rfl) (by kernel_rfl) (hS.blkAt fd) (by rfl) (by rfl)) vw ?_
                           ((refine ⟨_,rfl,?_,hS.sp⟩;(rfl);done)))
                        | (refine zcf ?_
                           all_goals (refine Zbt ?_;refine ZbE ?_)
                           all_goals
                            first
                            | (refine zct ?_
                               refine zsk ?_)
                            | (refine zcf ?_
                               all_goals (refine Q1z ?_;refine Yak ?_;refine zm ?_)
                               all_goals refine zn ?_)
                           all_goals
                            first
                            | (refine zct ?_
                               all_goals (refine Zaa ?_;refine zb2 [_,_,_,_,_,_,_] ?_;refine zsn hS ?_;intro w1 hS;have hS:=hS.ns;refine Zbg ?_;refine Q12 vw (Q3 (n:=7) (by kernel_rfl) (by kernel_rfl) (hS.blkAt fd) (by rfl) (by rfl)) vw ?_)
                               all_goals (refine ⟨_,rfl,?_,hS.sp⟩;(rfl);done))
                            | (refine zcf ?_
                               all_goals (refine Zcm ?_)
                               all_goals
                                first
                                | (refine zct ?_
                                   refine Zaa ?_;refine zb3 [_,_,_,_,_,_,_] ?_;refine zsn hS ?_;intro w1 hS;have hS:=hS.ns;refine Zbg ?_;refine Q12 vw (Q3 (n:=7) (by kernel_rfl) (by kernel_rfl) (hS.blkAt fd) (by rfl) (by rfl)) vw ?_
                                   ((refine ⟨_,rfl,?_,hS.sp⟩;(rfl);done)))
                                | (refine zcf ?_
                                   refine Zaa ?_;refine Qp ?_;refine Zab ?_
                                   all_goals
                                    first
                                    | (refine zct ?_
                                       refine Zaa ?_;refine zb3 [_,_,_,_,_,_,_] ?_;refine zsn hS ?_;intro w1 hS;have hS:=hS.ns;refine Zbg ?_;refine Q12 vw (Q3 (n:=7) (by kernel_rfl) (by kernel_rfl) (hS.blkAt fd) (by rfl) (by rfl)) vw ?_
                                       ((refine ⟨_,rfl,?_,hS.sp⟩;(rfl);done)))))))))))
   all_goals (refine Zaa ?_;refine zb0 [_,_,_,_,_,_,_] ?_;refine zsn hS ?_;intro w1 hS;have hS:=hS.ns;refine Zbg ?_;refine Q12 vw (Q3 (n:=7) (by kernel_rfl) (by kernel_rfl) (hS.blkAt fd) (by rfl) (by rfl)) vw ?_;refine ⟨_,rfl,?_,hS.sp⟩;(rfl);done)
theorem rins_c {x :Ins}{m:Module}{cs ds:List Value}(hm:modR.at cx cs m) (hx:insR.at cx ds x) (hS:St cx w L):Rets Tryz.prog QdW [.agg ⟨cs⟩, .agg ⟨ds⟩] w fun u w'=>u= .int .i64 (Qm m.funcs.length x)∧St cx w' L:=by
 obtain ⟨vf,rfl,hf⟩:=QP hm
 obtain ⟨vr,va,rfl,hr,ha⟩:=QG hx
 have hlr:=hr.len
 have hla:=ha.len
 have hln:=hf.len
 unfold Qm
 refine lgo tyD Tryz.func94 ?_;refine Zaw ?_;intro p2 w1 hS;refine zb hS ?_;intro p3 w1 hS;refine Zab ?_;refine Zao ?_;refine zR1 (c:=fields_c hS) (h:=?_);rintro v1 w1 ⟨rfl,hS⟩;refine Zct ?_;(intro p5 w1 hS);((refine zsn hS ?_;intro w1 hS;have hS:=hS.ns));refine Zab ?_
 refine zML hS [2,3,5] (fun A LL ρ' w'=>Has ρ' A∧Has ρ' []∧(1≤x.op∧x.op≤14)∧St cx w' (LL)) ?_ ?_
 · skip
   refine QJ ?_;cases hop:decide (1≤x.op∧x.op≤14)
   all_goals (refine Zag ?_;refine Zbo ?_)
   all_goals
    first
    | (refine zct ?_
       refine Zas ?_
       ((refine ⟨_,rfl,?_,hS.sp⟩;(rw [if_pos (by have:=of_decide_eq_false hop;omega)]);done)))
    | (refine zcf ?_
       refine zsk ?_)
   ((exact ⟨zh,zh,by exact of_decide_eq_true hop,hS.sp⟩))
 rintro ρ w1 ⟨hA,hρ,hop,hS⟩;obtain ⟨ρ,rfl⟩:=env2 hA hρ;obtain ⟨a1,ha1⟩:∃b,fA x.op=b:=⟨_,rfl⟩;obtain ⟨a2,ha2⟩:∃b,fB x.op=b:=⟨_,rfl⟩;obtain ⟨a3,ha3⟩:∃b,fC x.op=b:=⟨_,rfl⟩;obtain ⟨a4,ha4⟩:∃b,fK x.op=b:=⟨_,rfl⟩;obtain ⟨a5,ha5⟩:∃b,fN x.op=b:=⟨_,rfl⟩;obtain ⟨a6,ha6⟩:∃b,fG x.op=b:=⟨_,rfl⟩;obtain ⟨a7,ha7⟩:∃b,fR x.op=b:=⟨_,rfl⟩;rw [ha1,ha2,ha3,ha4,ha5,ha6,ha7] at hS
 refine zML hS [2,3] (fun A LL ρ' w'=>Has ρ' A∧Has ρ' []∧(¬x.odd)∧St cx w' (LL)) ?_ ?_
 · skip
   refine Zaa ?_
   refine zKL hS 8 [2,3,5] (fun A LL ρ' w'=>∃(q1:Bool),Has ρ' A∧Has ρ' [(22, .bool q1)]∧(q1=true↔(fA x.op=false∧x.a≠0))∧St cx w' (LL)) ?_ ?_
   · skip
     refine Zad ?_;cases a1
     all_goals (refine znt ?_;refine Zav ?_;first|refine zgn ?_|(refine zgy ?_;(first|(refine Qy ?_)|(refine Qz ?_)|(refine Qa rfl rfl (fun hc=>?_) (fun hc=>?_)))))
     all_goals (refine ZbJ ?_;first|(exact ⟨_,zh,zh,by exact ⟨fun _=>⟨(by first|rfl|assumption),by omega⟩,fun _=>rfl⟩,hS.sp⟩)|(exact ⟨_,zh,zh,by exact ⟨fun h=>Bool.noConfusion h,fun h=>by obtain ⟨h1,h2⟩:=h;first|(exfalso;omega)|(simp_all;done)⟩,hS.sp⟩))
   rintro ρ w1 ⟨q1,hA,hρ,hq1,hS⟩;obtain ⟨ρ,rfl⟩:=env2 hA hρ
   refine zKL hS 10 [2,3,5] (fun A LL ρ' w'=>∃(q2:Bool),Has ρ' A∧Has ρ' [(32, .bool q2)]∧(q2=true↔((fA x.op=false∧x.a≠0)∨(fB x.op=false∧x.b≠0)))∧St cx w' (LL)) ?_ ?_
   · skip
     cases q1
     all_goals (refine Zav ?_;cases a2)
     all_goals (refine Zcf ?_;first|refine zgn ?_|(refine zgy ?_;(first|(refine Qy ?_)|(refine Qz ?_)|(refine Qa rfl rfl (fun hc=>?_) (fun hc=>?_)))))
     all_goals (refine ZbU ?_;first|(exact ⟨_,zh,zh,by exact ⟨fun _=> .inl (hq1.1 rfl),fun _=>rfl⟩,hS.sp⟩)|(exact ⟨_,zh,zh,by exact ⟨fun _=> .inr ⟨(by first|rfl|assumption),by omega⟩,fun _=>rfl⟩,hS.sp⟩)|(exact ⟨_,zh,zh,by exact ⟨fun h=>Bool.noConfusion h,fun h=>h.elim (fun h=>hq1.2 h) (fun h=>by obtain ⟨h1,h2⟩:=h;first|(exfalso;omega)|(simp_all;done))⟩,hS.sp⟩))
   rintro ρ w1 ⟨q2,hA,hρ,hq2,hS⟩;obtain ⟨ρ,rfl⟩:=env2 hA hρ
   refine zKL hS 10 [2,3,5] (fun A LL ρ' w'=>∃(q3:Bool),Has ρ' A∧Has ρ' [(42, .bool q3)]∧(q3=true↔(((fA x.op=false∧x.a≠0)∨(fB x.op=false∧x.b≠0))∨(fC x.op=false∧x.c≠0)))∧St cx w' (LL)) ?_ ?_
   · skip
     cases q2
     all_goals (refine Zav ?_;cases a3)
     all_goals (refine Zcf ?_;first|refine zgn ?_|(refine zgy ?_;(first|(refine Qy ?_)|(refine Qz ?_)|(refine Qa rfl rfl (fun hc=>?_) (fun hc=>?_)))))
     all_goals (refine ZbU ?_;first|(exact ⟨_,zh,zh,by exact ⟨fun _=> .inl (hq2.1 rfl),fun _=>rfl⟩,hS.sp⟩)|(exact ⟨_,zh,zh,by exact ⟨fun _=> .inr ⟨(by first|rfl|assumption),by omega⟩,fun _=>rfl⟩,hS.sp⟩)|(exact ⟨_,zh,zh,by exact ⟨fun h=>Bool.noConfusion h,fun h=>h.elim (fun h=>hq2.2 h) (fun h=>by obtain ⟨h1,h2⟩:=h;first|(exfalso;omega)|(simp_all;done))⟩,hS.sp⟩))
   rintro ρ w1 ⟨q3,hA,hρ,hq3,hS⟩;obtain ⟨ρ,rfl⟩:=env2 hA hρ
   refine zKL hS 10 [2,3,5] (fun A LL ρ' w'=>∃(q4:Bool),Has ρ' A∧Has ρ' [(52, .bool q4)]∧(q4=true↔((((fA x.op=false∧x.a≠0)∨(fB x.op=false∧x.b≠0))∨(fC x.op=false∧x.c≠0))∨(fK x.op=false∧x.k≠0)))∧St cx w' (LL)) ?_ ?_
   · skip
     cases q3
     all_goals (refine Zav ?_;cases a4)
     all_goals (refine Zcf ?_;first|refine zgn ?_|(refine zgy ?_;(first|(refine Qy ?_)|(refine Qz ?_)|(refine Qa rfl rfl (fun hc=>?_) (fun hc=>?_)))))
     all_goals (refine ZbU ?_;first|(exact ⟨_,zh,zh,by exact ⟨fun _=> .inl (hq3.1 rfl),fun _=>rfl⟩,hS.sp⟩)|(exact ⟨_,zh,zh,by exact ⟨fun _=> .inr ⟨(by first|rfl|assumption),by omega⟩,fun _=>rfl⟩,hS.sp⟩)|(exact ⟨_,zh,zh,by exact ⟨fun h=>Bool.noConfusion h,fun h=>h.elim (fun h=>hq3.2 h) (fun h=>by obtain ⟨h1,h2⟩:=h;first|(exfalso;omega)|(simp_all;done))⟩,hS.sp⟩))
   rintro ρ w1 ⟨q4,hA,hρ,hq4,hS⟩;obtain ⟨ρ,rfl⟩:=env2 hA hρ
   refine zKL hS 10 [2,3,5] (fun A LL ρ' w'=>∃(q5:Bool),Has ρ' A∧Has ρ' [(62, .bool q5)]∧(q5=true↔(((((fA x.op=false∧x.a≠0)∨(fB x.op=false∧x.b≠0))∨(fC x.op=false∧x.c≠0))∨(fK x.op=false∧x.k≠0))∨(fN x.op=false∧x.n≠0)))∧St cx w' (LL)) ?_ ?_
   · skip
     cases q4
     all_goals (refine Zav ?_;cases a5)
     all_goals (refine Zcf ?_;first|refine zgn ?_|(refine zgy ?_;(first|(refine Qy ?_)|(refine Qz ?_)|(refine Qa rfl rfl (fun hc=>?_) (fun hc=>?_)))))
     all_goals (refine ZbU ?_;first|(exact ⟨_,zh,zh,by exact ⟨fun _=> .inl (hq4.1 rfl),fun _=>rfl⟩,hS.sp⟩)|(exact ⟨_,zh,zh,by exact ⟨fun _=> .inr ⟨(by first|rfl|assumption),by omega⟩,fun _=>rfl⟩,hS.sp⟩)|(exact ⟨_,zh,zh,by exact ⟨fun h=>Bool.noConfusion h,fun h=>h.elim (fun h=>hq4.2 h) (fun h=>by obtain ⟨h1,h2⟩:=h;first|(exfalso;omega)|(simp_all;done))⟩,hS.sp⟩))
   rintro ρ w1 ⟨q5,hA,hρ,hq5,hS⟩;obtain ⟨ρ,rfl⟩:=env2 hA hρ
   refine zKL hS 11 [2,3,5] (fun A LL ρ' w'=>∃(q6:Bool),Has ρ' A∧Has ρ' [(73, .bool q6)]∧(q6=true↔((((((fA x.op=false∧x.a≠0)∨(fB x.op=false∧x.b≠0))∨(fC x.op=false∧x.c≠0))∨(fK x.op=false∧x.k≠0))∨(fN x.op=false∧x.n≠0))∨(fG x.op=false∧0<x.regs.length)))∧St cx w' (LL)) ?_ ?_
   · skip
     cases q5
     all_goals (refine Zav ?_;cases a6)
     all_goals (refine Zcf ?_;refine Yai ?_;first|refine zgn ?_|(refine zgy ?_;(first|(refine QL ?_)|(refine QO ?_)|(refine Qd rfl rfl (fun hc=>?_) (fun hc=>?_)))))
     all_goals (refine ZbU ?_;first|(exact ⟨_,zh,zh,by exact ⟨fun _=> .inl (hq5.1 rfl),fun _=>rfl⟩,hS.sp⟩)|(exact ⟨_,zh,zh,by exact ⟨fun _=> .inr ⟨(by first|rfl|assumption),by omega⟩,fun _=>rfl⟩,hS.sp⟩)|(exact ⟨_,zh,zh,by exact ⟨fun h=>Bool.noConfusion h,fun h=>h.elim (fun h=>hq5.2 h) (fun h=>by obtain ⟨h1,h2⟩:=h;first|(exfalso;omega)|(simp_all;done))⟩,hS.sp⟩))
   rintro ρ w1 ⟨q6,hA,hρ,hq6,hS⟩;obtain ⟨ρ,rfl⟩:=env2 hA hρ
   cases q6
   all_goals (refine Zav ?_;cases a7)
   all_goals (refine Zcf ?_;refine Yai ?_;first|refine zgn ?_|(refine zgy ?_;(first|(refine QL ?_)|(refine QO ?_)|(refine Qd rfl rfl (fun hc=>?_) (fun hc=>?_)))))
   all_goals (refine Yaj ?_;refine ZaK ?_)
   all_goals
    first
    | (refine zct ?_
       all_goals (refine Zas ?_)
       all_goals (first|(refine ⟨_,rfl,?_,hS.sp⟩;rw [if_pos (by have:=of_decide_eq_false hop;omega)];done)|(refine ⟨_,rfl,?_,hS.sp⟩;have ho:x.odd:=(by unfold Ins.odd;simp only [←or_assoc];first|exact .inl (hq6.1 rfl)|exact .inr ⟨(by first|rfl|assumption),by omega⟩);rw [if_neg (by omega),if_pos ho];done)))
    | (refine zcf ?_
       all_goals refine zsk ?_)
   all_goals (exact ⟨zh,zh,by intro h;unfold Ins.odd at h;simp only [←or_assoc] at h;exact h.elim (fun h=>Bool.noConfusion (hq6.2 h)) (fun h=>by obtain ⟨h1,h2⟩:=h;first|(exfalso;omega)|(simp_all;done)),hS.sp⟩)
 rintro ρ w1 ⟨hA,hρ,hodd,hS⟩;obtain ⟨ρ,rfl⟩:=env2 hA hρ
 refine ZaS ?_;clear hm hx;refine Zba ?_;refine Zcu ?_;refine Zaa ?_;first|(refine Qp ?_)|(refine Qu ?_)|(refine Q7 rfl rfl (fun hc=>?_) (fun hc=>?_))
 all_goals (refine Zab ?_)
 all_goals
  first
  | (refine zct ?_
     refine Zao ?_;first|(refine Q1f ?_)|(refine Q1g ?_)|(refine Qr rfl rfl (fun hc=>?_) (fun hc=>?_))
     all_goals (refine Zav ?_;first|refine zgn ?_|(refine zgy ?_;(first|(refine QL ?_)|(refine QO ?_)|(refine Qd rfl rfl (fun hc=>?_) (fun hc=>?_)))))
     all_goals (refine ZaK ?_)
     all_goals
      first
      | (refine zct ?_
         all_goals (refine Zas ?_)
         all_goals (first|(refine ⟨_,rfl,?_,hS.sp⟩;rw [if_pos (by have:=of_decide_eq_false hop;omega)];done)|(refine ⟨_,rfl,?_,hS.sp⟩;have ho:x.odd:=(by unfold Ins.odd;simp only [←or_assoc];first|exact .inl (hq6.1 rfl)|exact .inr ⟨(by first|rfl|assumption),by omega⟩);rw [if_neg (by omega),if_pos ho];done)|(refine ⟨_,rfl,?_,hS.sp⟩;rw [if_neg (by omega),if_neg hodd];unfold Q14;(repeat (first|rw [if_pos (by omega)]|rw [if_neg (by omega)]));done)))
      | (refine zcf ?_
         refine zsk ?_))
  | (refine zcf ?_
     refine Zaa ?_;first|(refine Qp ?_)|(refine Qu ?_)|(refine Q7 rfl rfl (fun hc=>?_) (fun hc=>?_))
     all_goals (refine Zab ?_)
     all_goals
      first
      | (refine zct ?_
         refine Zao ?_;refine zL ?_;first|(refine QL ?_)|(refine QO ?_)|(refine Qd rfl rfl (fun hc=>?_) (fun hc=>?_))
         all_goals (refine zn ?_)
         all_goals
          first
          | (refine zct ?_
             refine Zas ?_
             first|(refine ⟨_,rfl,?_,hS.sp⟩;rw [if_pos (by have:=of_decide_eq_false hop;omega)];done)|(refine ⟨_,rfl,?_,hS.sp⟩;have ho:x.odd:=(by unfold Ins.odd;simp only [←or_assoc];first|exact .inl (hq6.1 rfl)|exact .inr ⟨(by first|rfl|assumption),by omega⟩);rw [if_neg (by omega),if_pos ho];done)|(refine ⟨_,rfl,?_,hS.sp⟩;rw [if_neg (by omega),if_neg hodd];unfold Q14;(repeat (first|rw [if_pos (by omega)]|rw [if_neg (by omega)]));done))
          | (refine zcf ?_
             refine zsk ?_))
      | (refine zcf ?_
         refine Zbt ?_;first|(refine Qp ?_)|(refine Qu ?_)|(refine Q7 rfl rfl (fun hc=>?_) (fun hc=>?_))
         all_goals (refine Zab ?_)
         all_goals
          first
          | (refine zct ?_
             refine zsk ?_)
          | (refine zcf ?_
             refine Q1z ?_;first|(refine Qp ?_)|(refine Qu ?_)|(refine Q7 rfl rfl (fun hc=>?_) (fun hc=>?_))
             all_goals (refine zm ?_)
             all_goals refine zn ?_)
         all_goals
          first
          | (refine zct ?_
             all_goals (refine Zao ?_;first|(refine Q1f ?_)|(refine Q1g ?_)|(refine Qr rfl rfl (fun hc=>?_) (fun hc=>?_)))
             all_goals (refine Zav ?_;first|refine zgn ?_|(refine zgy ?_;(first|(refine QL ?_)|(refine QO ?_)|(refine Qd rfl rfl (fun hc=>?_) (fun hc=>?_)))))
             all_goals (refine ZaK ?_)
             all_goals
              first
              | (refine zct ?_
                 all_goals (refine Zas ?_)
                 all_goals (first|(refine ⟨_,rfl,?_,hS.sp⟩;rw [if_pos (by have:=of_decide_eq_false hop;omega)];done)|(refine ⟨_,rfl,?_,hS.sp⟩;have ho:x.odd:=(by unfold Ins.odd;simp only [←or_assoc];first|exact .inl (hq6.1 rfl)|exact .inr ⟨(by first|rfl|assumption),by omega⟩);rw [if_neg (by omega),if_pos ho];done)|(refine ⟨_,rfl,?_,hS.sp⟩;rw [if_neg (by omega),if_neg hodd];unfold Q14;(repeat (first|rw [if_pos (by omega)]|rw [if_neg (by omega)]));done)))
              | (refine zcf ?_
                 all_goals refine zsk ?_))
          | (refine zcf ?_
             refine Zaa ?_;first|(refine Qp ?_)|(refine Qu ?_)|(refine Q7 rfl rfl (fun hc=>?_) (fun hc=>?_))
             all_goals (refine Zab ?_)
             all_goals
              first
              | (refine zct ?_
                 refine ZaJ ?_;first|(refine Q1f ?_)|(refine Q1g ?_)|(refine Qr rfl rfl (fun hc=>?_) (fun hc=>?_))
                 all_goals (refine Zbp ?_;refine Yai ?_;first|refine zgn ?_|(refine zgy ?_;(first|(refine Q2b ?_)|(refine Q2c ?_)|(refine Q1a rfl rfl (fun hc=>?_) (fun hc=>?_)))))
                 all_goals (refine ZaK ?_)
                 all_goals
                  first
                  | (refine zct ?_
                     all_goals (refine Zas ?_)
                     all_goals (first|(refine ⟨_,rfl,?_,hS.sp⟩;rw [if_pos (by have:=of_decide_eq_false hop;omega)];done)|(refine ⟨_,rfl,?_,hS.sp⟩;have ho:x.odd:=(by unfold Ins.odd;simp only [←or_assoc];first|exact .inl (hq6.1 rfl)|exact .inr ⟨(by first|rfl|assumption),by omega⟩);rw [if_neg (by omega),if_pos ho];done)|(refine ⟨_,rfl,?_,hS.sp⟩;rw [if_neg (by omega),if_neg hodd];unfold Q14;(repeat (first|rw [if_pos (by omega)]|rw [if_neg (by omega)]));done)))
                  | (refine zcf ?_
                     refine zsk ?_)
                 refine Zao ?_;refine zL ?_;first|(refine QL ?_)|(refine QO ?_)|(refine Qd rfl rfl (fun hc=>?_) (fun hc=>?_))
                 all_goals (refine ZbI ?_;first|refine zgn ?_|(refine zgy ?_;(first|(refine QL ?_)|(refine QO ?_)|(refine Qd rfl rfl (fun hc=>?_) (fun hc=>?_)))))
                 all_goals (refine ZaK ?_)
                 all_goals
                  first
                  | (refine zct ?_
                     all_goals (refine Zas ?_)
                     all_goals (first|(refine ⟨_,rfl,?_,hS.sp⟩;rw [if_pos (by have:=of_decide_eq_false hop;omega)];done)|(refine ⟨_,rfl,?_,hS.sp⟩;have ho:x.odd:=(by unfold Ins.odd;simp only [←or_assoc];first|exact .inl (hq6.1 rfl)|exact .inr ⟨(by first|rfl|assumption),by omega⟩);rw [if_neg (by omega),if_pos ho];done)|(refine ⟨_,rfl,?_,hS.sp⟩;rw [if_neg (by omega),if_neg hodd];unfold Q14;(repeat (first|rw [if_pos (by omega)]|rw [if_neg (by omega)]));done)))
                  | (refine zcf ?_
                     refine zsk ?_))
              | (refine zcf ?_
                 refine zsk ?_))))
 all_goals (refine Zas ?_;(first|(refine ⟨_,rfl,?_,hS.sp⟩;rw [if_pos (by have:=of_decide_eq_false hop;omega)];done)|(refine ⟨_,rfl,?_,hS.sp⟩;have ho:x.odd:=(by unfold Ins.odd;simp only [←or_assoc];first|exact .inl (hq6.1 rfl)|exact .inr ⟨(by first|rfl|assumption),by omega⟩);rw [if_neg (by omega),if_pos ho];done)|(refine ⟨_,rfl,?_,hS.sp⟩;rw [if_neg (by omega),if_neg hodd];unfold Q14;(repeat (first|rw [if_pos (by omega)]|rw [if_neg (by omega)]));done)))
end Go.Proofs.YteflkifmgnpbhaaGreat
namespace Go.Proofs.YteflkifmgnpbhaaGreat
open Go.Lir
set_option maxHeartbeats 1000000
attribute [local irreducible] LC.wp Q0 QB QH retQ Q1k LO.wp Qh Calls
set_option linter.unusedSimpArgs false
set_option linter.unusedVariables false
attribute [local irreducible] orF mkF orC Q14 Qm Q1n Q10 Qg Qk Qs Q2g Q2l Q4J Q45
variable {cx:Cx}{w:World}{L:List Res}{i:Nat}
theorem fault_if (c:Int):(if decide (c≠0)=true then c else 0)=c:=by by_cases h:c=0<;>simp [h]
theorem rto_c {x:Fun}{t:To}{is:Bool}{cs ds:List Value}(hx:funcR.at cx cs x) (ht:toR.at cx ds t) (hS:St cx w L):
 Rets Tryz.prog R_toForm [.agg ⟨cs⟩, .agg ⟨ds⟩, .bool is] w fun u w'=>u= .int .i64 (Q1n x.blocks.length t is)∧St cx w' L:=by
 obtain ⟨vp,vr,vb,rfl,hp,hr,hb⟩:=Qo hx
 obtain ⟨v1,v2,rfl,h1,h2⟩:=Q1N ht
 have hlb:=hb.len
 have hb1:=h1.len
 have hb2:=h2.len
 unfold Q1n
 cases is with
 | false=>
   refine lgo tyD Tryz.func156 ?_;refine Zaw ?_;intro p3 w1 hS;refine zb hS ?_;intro p4 w1 hS;refine Zab ?_;refine Zan ?_;refine Zbo ?_;refine zct ?_;refine ZaJ ?_;first|(refine Qy ?_)|(refine Qz ?_)|(refine Qa rfl rfl (fun hc=>?_) (fun hc=>?_))
   all_goals (refine ZbI ?_;refine Zak ?_;refine Yai ?_;(first|refine zgn ?_|(refine zgy ?_;refine zad ?_));first|refine zgn ?_|(refine zgy ?_;(first|(refine QL ?_)|(refine QO ?_)|(refine Qd rfl rfl (fun hc=>?_) (fun hc=>?_)))))
   all_goals (refine ZaK ?_)
   all_goals
    first
    | (refine zct ?_
       all_goals (refine Zas ?_)
       all_goals (refine ⟨_,rfl,?_,hS.sp⟩;(rw [if_pos rfl];first|rw [if_pos (by omega)]|rw [if_neg (by omega)]);done))
    | (refine zcf ?_
       refine zsk ?_)
   refine Zas ?_;(refine ⟨_,rfl,?_,hS.sp⟩;(rw [if_pos rfl];first|rw [if_pos (by omega)]|rw [if_neg (by omega)]);done)
 | true=>
   refine lgo tyD Tryz.func156 ?_;refine Zaw ?_;intro p3 w1 hS;refine zb hS ?_;intro p4 w1 hS;refine Zab ?_;refine Zan ?_;refine Zbo ?_;refine Zcr ?_;refine ZaJ ?_;first|(refine Q1f ?_)|(refine Q1g ?_)|(refine Qr rfl rfl (fun hc=>?_) (fun hc=>?_))
   all_goals (refine Zbp ?_;refine Yai ?_;first|refine zgn ?_|(refine zgy ?_;(first|(refine Q2b ?_)|(refine Q2c ?_)|(refine Q1a rfl rfl (fun hc=>?_) (fun hc=>?_)))))
   all_goals (refine ZaK ?_)
   all_goals
    first
    | (refine zct ?_
       all_goals (refine Zas ?_)
       all_goals (refine ⟨_,rfl,?_,hS.sp⟩;rw [if_neg Bool.noConfusion];(repeat (first|rw [if_pos (by omega)]|rw [if_neg (by omega)]));done))
    | (refine zcf ?_
       refine zsk ?_)
   refine ZaJ ?_;refine zL ?_;first|(refine QL ?_)|(refine QO ?_)|(refine Qd rfl rfl (fun hc=>?_) (fun hc=>?_))
   all_goals (refine ZbI ?_;first|refine zgn ?_|(refine zgy ?_;(first|(refine QL ?_)|(refine QO ?_)|(refine Qd rfl rfl (fun hc=>?_) (fun hc=>?_)))))
   all_goals (refine ZaK ?_)
   all_goals
    first
    | (refine zct ?_
       all_goals (refine Zas ?_)
       all_goals (refine ⟨_,rfl,?_,hS.sp⟩;rw [if_neg Bool.noConfusion];(repeat (first|rw [if_pos (by omega)]|rw [if_neg (by omega)]));done))
    | (refine zcf ?_
       refine zsk ?_)
   refine Zas ?_;(refine ⟨_,rfl,?_,hS.sp⟩;rw [if_neg Bool.noConfusion];(repeat (first|rw [if_pos (by omega)]|rw [if_neg (by omega)]));done)
theorem rend_c {x:Fun}{e:Tail}{cs ds:List Value}(hx:funcR.at cx cs x) (he:endR.at cx ds e) (hS:St cx w L):
 Rets Tryz.prog QdX [.agg ⟨cs⟩, .agg ⟨ds⟩] w fun u w'=>u= .int .i64 (Q10 x.blocks.length e)∧St cx w' L:=by
 obtain ⟨vp,vr,vb,rfl,hp,hr,hb⟩:=Qo hx
 obtain ⟨v1,v2,v3,v4,v5,rfl,h1,h2,h3,h4,h5⟩:=Q3u he
 have s5:=h5.len
 unfold Q10
 refine lgo tyD Tryz.func96 ?_;refine Zaw ?_;intro p2 w1 hS;refine zb hS ?_;intro p3 w1 hS;refine Zab ?_;refine ZaJ ?_;first|(refine Q1f ?_)|(refine Q1g ?_)|(refine Qr rfl rfl (fun hc=>?_) (fun hc=>?_))
 all_goals (refine Zav ?_;first|refine zgn ?_|(refine zgy ?_;(first|(refine QL ?_)|(refine QO ?_)|(refine Qd rfl rfl (fun hc=>?_) (fun hc=>?_)))))
 all_goals (refine ZaK ?_)
 all_goals
  first
  | (refine zct ?_
     all_goals (refine Zas ?_)
     all_goals (refine ⟨_,rfl,?_,hS.sp⟩;rw [if_pos (by omega)];done))
  | (refine zcf ?_
     refine zsk ?_)
 refine zML hS [2,3] (fun A LL ρ' w'=>Has ρ' A∧Has ρ' []∧(¬(e.op<1∨3<e.op))∧(¬(e.op≠2∧e.a≠0∨e.op≠3∧0<e.args.length))∧St cx w' (LL)) ?_ ?_
 · skip
   refine Zao ?_;first|(refine Qy ?_)|(refine Qz ?_)|(refine Qa rfl rfl (fun hc=>?_) (fun hc=>?_))
   all_goals (refine Zav ?_;first|refine zgn ?_|(refine zgy ?_;(first|(refine Qy ?_)|(refine Qz ?_)|(refine Qa rfl rfl (fun hc=>?_) (fun hc=>?_)))))
   all_goals (refine Yad ?_;refine ZbI ?_;first|refine zgn ?_|(refine zgy ?_;(first|(refine QL ?_)|(refine QO ?_)|(refine Qd rfl rfl (fun hc=>?_) (fun hc=>?_)))))
   all_goals (refine Zbw ?_;first|refine zgn ?_|(refine zgy ?_;(first|(refine Qy ?_)|(refine Qz ?_)|(refine Qa rfl rfl (fun hc=>?_) (fun hc=>?_)))))
   all_goals (refine Yaj ?_;refine ZaK ?_)
   all_goals
    first
    | (refine zct ?_
       all_goals (refine Zas ?_)
       all_goals (first|(refine ⟨_,rfl,?_,hS.sp⟩;rw [if_pos (by omega)];done)|(refine ⟨_,rfl,?_,hS.sp⟩;rw [if_neg (by omega),if_pos (by omega)];done)))
    | (refine zcf ?_
       all_goals refine zsk ?_)
   all_goals (exact ⟨zh,zh,by omega,by omega,hS.sp⟩)
 rintro ρ w1 ⟨hA,hρ,k1,k2,hS⟩;obtain ⟨ρ,rfl⟩:=env2 hA hρ
 refine ZaJ ?_;refine zL ?_;first|(refine QL ?_)|(refine QO ?_)|(refine Qd rfl rfl (fun hc=>?_) (fun hc=>?_))
 all_goals (refine zn ?_)
 all_goals
  first
  | (refine zct ?_
     refine Zas ?_
     first|(refine ⟨_,rfl,?_,hS.sp⟩;rw [if_pos (by omega)];done)|(refine ⟨_,rfl,?_,hS.sp⟩;rw [if_neg (by omega),if_pos (by omega)];done)|(refine ⟨_,rfl,?_,hS.sp⟩;rw [if_neg k1,if_neg k2,if_pos (by omega)];done))
  | (refine zcf ?_
     refine zsk ?_)
 refine QJ ?_;refine ZaF ?_;refine ZbN ?_;refine Zad ?_;refine Q3h rfl rfl ?_;refine zR3 (c:=rto_c (t:=e.yes) hx ⟨_,_,rfl,h1,h2⟩ hS) (h:=?_);rintro v1 w1 ⟨rfl,hS⟩;refine ZaW ?_;first|(refine Qy ?_)|(refine Qz ?_)|(refine Qa rfl rfl (fun hc=>?_) (fun hc=>?_))
 all_goals (refine zn ?_)
 all_goals
  first
  | (refine zct ?_
     refine Zbk ?_
     first|(refine ⟨_,rfl,?_,hS.sp⟩;rw [if_pos (by omega)];done)|(refine ⟨_,rfl,?_,hS.sp⟩;rw [if_neg (by omega),if_pos (by omega)];done)|(refine ⟨_,rfl,?_,hS.sp⟩;rw [if_neg k1,if_neg k2,if_pos (by omega)];done)|(refine ⟨_,rfl,?_,hS.sp⟩;(rw [if_neg k1,if_neg k2,if_neg (by omega)];first|rw [Q3N (by assumption)]|(rw [Classical.not_not.1 (by assumption:¬Q1n x.blocks.length e.yes (decide (e.op≠3))≠0),Q3B]));done))
  | (refine zcf ?_
     refine zsk ?_)
 refine ZaF ?_;refine ZbN ?_;refine Zad ?_;refine Q6y rfl rfl ?_;refine zR3 (c:=rto_c (t:=e.no) hx ⟨_,_,rfl,h3,h4⟩ hS) (h:=?_);rintro v1 w1 ⟨rfl,hS⟩;refine ZaB ?_;(first|(refine ⟨_,rfl,?_,hS.sp⟩;rw [if_pos (by omega)];done)|(refine ⟨_,rfl,?_,hS.sp⟩;rw [if_neg (by omega),if_pos (by omega)];done)|(refine ⟨_,rfl,?_,hS.sp⟩;rw [if_neg k1,if_neg k2,if_pos (by omega)];done)|(refine ⟨_,rfl,?_,hS.sp⟩;(rw [if_neg k1,if_neg k2,if_neg (by omega)];first|rw [Q3N (by assumption)]|(rw [Classical.not_not.1 (by assumption:¬Q1n x.blocks.length e.yes (decide (e.op≠3))≠0),Q3B]));done))
theorem pins_c {x:Ins}{m:Module}{cs ds:List Value}(hm:modR.at cx cs m) (hx:insR.at cx ds x) (hS:St cx w L):Rets Tryz.prog code_Ins [.agg ⟨cs⟩, .agg ⟨ds⟩] w fun u w'=>u= .int .i64 (Qm m.funcs.length x)∧St cx w' L:=by
 obtain ⟨vf,rfl,hf⟩:=QP hm
 obtain ⟨a0,n0,rfl⟩:=Rep.SR.shape hf
 have hx':=hx
 obtain ⟨vr,va,rfl,hr,ha⟩:=QG hx
 refine lgo tyD Tryz.func204 ?_;refine Zaw ?_;intro p2 w1 hS;refine zb hS ?_;intro p3 w1 hS;refine Zab ?_;refine ZaF ?_;refine zb1 [_,_,_,_] ?_;refine zb hS ?_;intro p8 w1 hS;refine ZaW ?_;refine zv hS ?_;refine zR2 (c:=ins_c (g:=(0,0)) (at':=0) hx' hf hS nth0) (h:=?_);rintro v1 w1 ⟨rfl,hS⟩;simp only [List.set_cons_zero] at hS;rw [Q1t (Q5r _ _)] at hS;simp only [jdg,Q1u] at hS;refine ZbM ?_;refine ZaL ?_;refine ZbK ?_;refine ZaB ?_;(((refine ⟨_,rfl,?_,hS.sp⟩;(rfl);done)))
theorem pend_c {x:Fun}{e:Tail}{cs ds:List Value}(hx:funcR.at cx cs x) (he:endR.at cx ds e) (hS:St cx w L):Rets Tryz.prog code_End [.agg ⟨cs⟩, .agg ⟨ds⟩] w fun u w'=>u= .int .i64 (Q10 x.blocks.length e)∧St cx w' L:=by
 have hx':=hx
 have he':=he
 obtain ⟨vp,vr,vb,rfl,hp,hr,hb⟩:=Qo hx
 obtain ⟨v1,v2,v3,v4,v5,rfl,h1,h2,h3,h4,h5⟩:=Q3u he
 refine lgo tyD Tryz.func208 ?_;refine Zaw ?_;intro p2 w1 hS;refine zb hS ?_;intro p3 w1 hS;refine Zab ?_;refine Zaa ?_;refine zb0 [_,_,_,_] ?_;refine zb hS ?_;intro p7 w1 hS;refine ZaW ?_;refine zv hS ?_;refine zv hS ?_;refine zR3 (c:=end_c (g:=(0,0)) (at':=0) hx' he' hS fd) (h:=?_);rintro v1 w1 ⟨rfl,hS⟩;have hS:=hS.ns;rw [Q1t (Q5r _ _)] at hS;simp only [jdg,Q1u] at hS;refine ZbM ?_;refine ZaL ?_;refine ZbK ?_;refine ZaB ?_;(((refine ⟨_,rfl,?_,hS.sp⟩;(rfl);done)))
theorem Qak {l:List Ty}{regs:Int}{v vf:Value}{g:Flt}{at':Int}{b:Nat}(hl:tyR.sl cx v l) (hS:St cx w L) (hi:nth L i=some (jdg b vf g at')):
 Rets Tryz.prog Q7l [.pointer (some ⟨b,0,none⟩),v, .int .i64 regs] w fun u w'=>u= .tuple #[]∧St cx w' (L.set i (jdg b vf (orF g (mkF (Qg l regs) at')) at')):=by
 have hS:=hS.out hi
 have hlen:=hl.len
 have e0:orF g (mkF (Qg l regs) at')=orF g (mkF (orC (if 8<l.length then 2 else 0) (Q1S regs l)) at'):=by
  congr 2
  unfold Qg
  split
  · rw [Q3N (by decide)]
  · rw [Q3B]
 rw [e0]
 refine lgo tyD Tryz.func105 ?_
 refine zM [0,1,2] (fun A ρ' w'=>Has ρ' A∧Has ρ' []∧St cx w' (jdg b vf (orF g (mkF (if 8<l.length then 2 else 0) at')) at'::L.eraseIdx i)) ?_ ?_
 · skip
   refine Zbc ?_;refine zL ?_;first|(refine QL ?_)|(refine QO ?_)|(refine Qd rfl rfl (fun hc=>?_) (fun hc=>?_))
   all_goals (refine zR3 (c:=Q1L (by intro _;decide) hS fd) (h:=?_);rintro v1 w1 ⟨rfl,hS⟩;simp only [List.set_cons_zero,List.set_cons_succ,if_true,Bool.false_eq_true,if_false] at hS;refine zn ?_;exact ⟨zh,zh,by first|(rw [if_pos (by omega)];exact hS.sp)|(rw [if_neg (by omega)];exact hS.sp)⟩)
 rintro ρ w1 ⟨hA,hρ,hS⟩;obtain ⟨ρ,rfl⟩:=env2 hA hρ
 refine Zae ?_;refine Zbi ?_
 refine zo [0,2,14,15] (fun A ρ' w'=>∃(j:Nat) (h:Flt),Has ρ' A∧Has ρ' [(16, .int .i64 j)]∧(j≤l.length)∧(orF g (mkF (orC (if 8<l.length then 2 else 0) (Q1S regs l)) at')=orF h (mkF (Q1S regs (l.drop j)) at'))∧St cx w' (jdg b vf h at'::L.eraseIdx i)) (fun ρ' _=>(l.length - iv (ρ' 16)).toNat) ?_ ?_
 · exact ⟨0,_,zh,zh,(by omega),by rw [List.drop_zero,Q25],hS.sp⟩
 rintro ρ w1 ⟨j,h,hA,hρ,hj,hd,hS⟩;obtain ⟨ρ,rfl⟩:=env2 hA hρ
 refine ZaV ?_
 refine Q5 rfl (fun hc=>?_) (fun hc=>?_)
 · skip
   refine ZbT ?_;intro b1 o1 cs1 x1 hat1 hx1 he1;obtain ⟨vl1,rfl,hl1⟩:=Q9 he1;refine ZaC ?_;intro p7 w1 hS;refine zsn hS ?_;intro w1 hS;have hS:=hS.ns;refine ZbY ?_;refine zm ?_;refine zR2 (c:=QaT (by assumption) hS) (h:=?_);rintro v1 w1 ⟨rfl,hS⟩;refine Zab ?_;refine Zbc ?_;refine Q3h rfl rfl ?_;refine zm ?_;refine zR3 (c:=Q1L (by intro h;exact of_decide_eq_true h) hS fd) (h:=?_);rintro v1 w1 ⟨rfl,hS⟩;simp only [List.set_cons_zero,List.set_cons_succ,fault_if] at hS;refine ZbO ?_;(exact ⟨⟨j+1,_,zh,zh,(by omega),by rw [hd,Q1 hx1,Q1S,←Q25],hS.sp⟩,Q4 (by omega)⟩)
 · skip
   refine zex ?_;refine Q17 ?_;refine ⟨_,rfl,rfl,?_⟩;rw [hd,List.drop_of_length_le (by omega),Q1S,Q1E,QbV rfl];exact St.back hS hi
def fltV (g:Flt):Value:= .agg ⟨[.int .i64 g.1, .int .i64 g.2]⟩
theorem rblock_c {m:Module}{f b:Nat}{x:Fun}{y:Block}(hxf:m.funcs[f]?=some x) (hyb:x.blocks[b]?=some y) (hf0:f≤1000000) (hb0:b≤1000000) (hlc:y.code.length≤100000){cs:List Value}(hm:modR.at cx cs m) (hS:St cx w L):
 Rets Tryz.prog Q9J [.agg ⟨cs⟩, .int .i64 f, .int .i64 b] w fun u w'=>u=fltV (QD m.funcs.length f x b y)∧St cx w' L:=by
 have hm':=hm
 obtain ⟨vf,rfl,hf⟩:=QP hm
 have hflt:=(List.getElem?_eq_some_iff.1 hxf).1
 have hblt:=(List.getElem?_eq_some_iff.1 hyb).1
 refine lgo tyD Tryz.func68 ?_;refine Zaw ?_;intro p3 w1 hS;refine Qb hS ?_;intro p6 w1 hS;refine zn ?_;refine ZbC ?_;intro b1 o1 cs1 x1 hat1 hx1 he1;obtain ⟨vp1,vr1,vb1,rfl,hp1,hr1,hb1⟩:=Qo he1;refine ZaC ?_;intro p7 w1 hS;refine zsn hS ?_;intro w1 hS;have hS:=hS.ns;refine zn ?_;have e1:x=x1:=Option.some.inj (hxf.symm.trans hx1);subst e1;refine ZbC ?_;intro b2 o2 cs2 x2 hat2 hx2 he2;obtain ⟨vp2,vc2,ve21,ve22,ve23,ve24,ve25,rfl,hp2,hc2,he21,he22,he23,he24,he25⟩:=QC he2;refine ZaC ?_;intro p8 w1 hS;refine zsn hS ?_;intro w1 hS;have hS:=hS.ns;refine zn ?_;have e2:y=x2:=Option.some.inj (hyb.symm.trans hx2);subst e2;refine ZaJ ?_;refine Zad ?_;first|(refine Q1f ?_)|(refine Q1g ?_)|(refine Qr rfl rfl (fun hc=>?_) (fun hc=>?_))
 all_goals (refine Zav ?_;first|refine zgn ?_|(refine zgy ?_;(first|(refine QL ?_)|(refine QO ?_)|(refine Qd rfl rfl (fun hc=>?_) (fun hc=>?_)))))
 all_goals (refine ZaK ?_)
 all_goals
  first
  | (refine zct ?_
     all_goals (refine ZaG ?_;refine zR2 (c:=Q4b f b hf0 hb0 hS) (h:=?_);rintro v1 w1 ⟨rfl,hS⟩;refine zR2 (c:=rF_c hS) (h:=?_);rintro v1 w1 ⟨rfl,hS⟩;refine zsn hS ?_;intro w1 hS;have hS:=hS.ns;refine ZaY ?_;refine QK vw (Q3 (n:=2) (by kernel_rfl) (by kernel_rfl) (hS.blkAt fd) (by rfl) (by rfl)) ?_)
     all_goals (refine ⟨_,rfl,?_,hS.sp⟩;rw [Q1l (c:=1) (by unfold Qk;rw [if_pos (by omega)]) (by decide)];rfl;done))
  | (refine zcf ?_
     refine zsk ?_)
 refine ZaJ ?_;refine Zad ?_;refine zR2 (c:=Qae (by assumption) hS) (h:=?_);rintro v1 w1 ⟨rfl,hS⟩;refine ZaW ?_;first|(refine Qy ?_)|(refine Qz ?_)|(refine Qa rfl rfl (fun hc=>?_) (fun hc=>?_))
 all_goals (refine zn ?_)
 all_goals
  first
  | (refine zct ?_
     refine ZaG ?_;refine zm ?_;refine zR2 (c:=Q4b f b hf0 hb0 hS) (h:=?_);rintro v1 w1 ⟨rfl,hS⟩;refine zR2 (c:=rF_c hS) (h:=?_);rintro v1 w1 ⟨rfl,hS⟩;refine zsn hS ?_;intro w1 hS;have hS:=hS.ns;refine ZaY ?_;refine QK vw (Q3 (n:=2) (by kernel_rfl) (by kernel_rfl) (hS.blkAt fd) (by rfl) (by rfl)) ?_
     first|(refine ⟨_,rfl,?_,hS.sp⟩;rw [Q1l (c:=1) (by unfold Qk;rw [if_pos (by omega)]) (by decide)];rfl;done)|(refine ⟨_,rfl,?_,hS.sp⟩;rw [Q1l (c:=Qg y.params y.regs) (by unfold Qk;rw [if_neg (by omega),if_pos (by assumption)]) (by assumption)];rfl;done))
  | (refine zcf ?_
     refine zsk ?_)
 refine Zbt ?_
 refine zKL hS 17 [1,2,3,6,7,8] (fun A LL ρ' w'=>∃(q:Bool),Has ρ' A∧Has ρ' [(65, .bool q)]∧(q=true↔(b=0∧(y.regs≠x.regs∨y.params≠x.params)))∧St cx w' (LL)) ?_ ?_
 · skip
   refine zm ?_;first|(refine Qp ?_)|(refine Qu ?_)|(refine Q7 rfl rfl (fun hc=>?_) (fun hc=>?_))
   all_goals (refine Zbp ?_;first|refine zgn ?_|(refine zgy ?_;(first|(refine Qy ?_)|(refine Qz ?_)|(refine Qa rfl rfl (fun hc=>?_) (fun hc=>?_)))))
   all_goals (refine Zbw ?_;refine Zak ?_;first|refine zgn ?_|(refine zgy ?_;refine zR2 (c:=Q4a hp2 hp1 hS) (h:=?_);rintro v1 w1 ⟨rfl,hS⟩;(cases hdec:decide (y.params=x.params));have hg:=of_decide_eq_false hdec;rotate_left;have hg:=of_decide_eq_true hdec;all_goals skip))
   all_goals (refine Yal ?_;refine ZbU ?_;first|(exact ⟨_,zh,zh,by exact ⟨fun _=>⟨by omega, .inl (by assumption)⟩,fun _=>rfl⟩,hS.sp⟩)|(exact ⟨_,zh,zh,by exact ⟨fun _=>⟨by omega, .inr (by assumption)⟩,fun _=>rfl⟩,hS.sp⟩)|(exact ⟨_,zh,zh,by exact ⟨fun h=>Bool.noConfusion h,fun h=>absurd h.1 (by omega)⟩,hS.sp⟩)|(exact ⟨_,zh,zh,by exact ⟨fun h=>Bool.noConfusion h,fun h=>h.2.elim (fun h=>absurd h (by assumption)) (fun h=>absurd (by assumption) h)⟩,hS.sp⟩))
 rintro ρ w1 ⟨q,hA,hρ,hq,hS⟩;obtain ⟨ρ,rfl⟩:=env2 hA hρ
 refine zn ?_;cases q
 all_goals
  first
  | (refine zct ?_
     refine ZaG ?_;refine zR2 (c:=Q4b f b hf0 hb0 hS) (h:=?_);rintro v1 w1 ⟨rfl,hS⟩;refine zR2 (c:=rF_c hS) (h:=?_);rintro v1 w1 ⟨rfl,hS⟩;refine zsn hS ?_;intro w1 hS;have hS:=hS.ns;refine ZaY ?_;refine QK vw (Q3 (n:=2) (by kernel_rfl) (by kernel_rfl) (hS.blkAt fd) (by rfl) (by rfl)) ?_
     first|(refine ⟨_,rfl,?_,hS.sp⟩;rw [Q1l (c:=1) (by unfold Qk;rw [if_pos (by omega)]) (by decide)];rfl;done)|(refine ⟨_,rfl,?_,hS.sp⟩;rw [Q1l (c:=Qg y.params y.regs) (by unfold Qk;rw [if_neg (by omega),if_pos (by assumption)]) (by assumption)];rfl;done)|(refine ⟨_,rfl,?_,hS.sp⟩;rw [Q1l (c:=9) (by unfold Qk;rw [if_neg (by omega),if_neg (by omega),if_pos (hq.1 rfl)]) (by decide)];rfl;done))
  | (refine zcf ?_
     refine zsk ?_)
 refine zML hS [1,2,3,6,7,8] (fun A LL ρ' w'=>Has ρ' A∧Has ρ' []∧(Qk x b y=0)∧St cx w' (LL)) ?_ ?_
 · skip
   refine Zao ?_;refine zL ?_;first|(refine QL ?_)|(refine QO ?_)|(refine Qd rfl rfl (fun hc=>?_) (fun hc=>?_))
   all_goals (refine zn ?_)
   all_goals
    first
    | (refine zct ?_
       refine ZaG ?_;refine zR2 (c:=Q4b f b hf0 hb0 hS) (h:=?_);rintro v1 w1 ⟨rfl,hS⟩;refine zR2 (c:=rF_c hS) (h:=?_);rintro v1 w1 ⟨rfl,hS⟩;refine zsn hS ?_;intro w1 hS;have hS:=hS.ns;refine ZaY ?_;refine QK vw (Q3 (n:=2) (by kernel_rfl) (by kernel_rfl) (hS.blkAt fd) (by rfl) (by rfl)) ?_
       first|(refine ⟨_,rfl,?_,hS.sp⟩;rw [Q1l (c:=1) (by unfold Qk;rw [if_pos (by omega)]) (by decide)];rfl;done)|(refine ⟨_,rfl,?_,hS.sp⟩;rw [Q1l (c:=Qg y.params y.regs) (by unfold Qk;rw [if_neg (by omega),if_pos (by assumption)]) (by assumption)];rfl;done)|(refine ⟨_,rfl,?_,hS.sp⟩;rw [Q1l (c:=9) (by unfold Qk;rw [if_neg (by omega),if_neg (by omega),if_pos (hq.1 rfl)]) (by decide)];rfl;done)|(refine ⟨_,rfl,?_,hS.sp⟩;rw [Q1l (c:=2) (by unfold Qk;rw [if_neg (by omega),if_neg (by omega),if_neg (fun h=>Bool.noConfusion (hq.2 h)),if_pos (by omega)]) (by decide)];rfl;done))
    | (refine zcf ?_
       refine zsk ?_)
   (exact ⟨zh,zh,by unfold Qk;rw [if_neg (by omega),if_neg (by omega),if_neg (fun h=>Bool.noConfusion (hq.2 h)),if_neg (by omega)],hS.sp⟩)
 rintro ρ w1 ⟨hA,hρ,hh,hS⟩;obtain ⟨ρ,rfl⟩:=env2 hA hρ
 refine ZaI ?_
 refine zoL hS [1,2,3,6,7,8] (fun A LL ρ' w'=>∃(j:Nat),Has ρ' A∧Has ρ' [(10, .int .i64 j)]∧(j≤y.code.length)∧(QN m.funcs.length f b 0 y.code=QN m.funcs.length f b j (y.code.drop j))∧St cx w' (LL)) (fun ρ' _=>(y.code.length - iv (ρ' 10)).toNat) ?_ ?_
 · exact ⟨0,zh,zh,(by omega),by simp,hS.sp⟩
 rintro ρ w1 ⟨j,hA,hρ,hj,hd,hS⟩;obtain ⟨ρ,rfl⟩:=env2 hA hρ
 refine Zbl ?_
 refine Q5 rfl (fun hc=>?_) (fun hc=>?_)
 · skip
   refine Zbq ?_;refine zD (ci 8 [6,7]) ?_;have hS:=hS.drew;refine zv hS ?_;refine Zad ?_;refine ZaX ?_;intro b3 o3 cs3 x3 hat3 hx3 he3;obtain ⟨vr3,va3,rfl,hr3,ha3⟩:=QG he3;refine Yaf ?_;refine zR2 (c:=rins_c hm' (by assumption) hS) (h:=?_);rintro v1 w1 ⟨rfl,hS⟩;refine ZaW ?_;first|(refine Qy ?_)|(refine Qz ?_)|(refine Qa rfl rfl (fun hc=>?_) (fun hc=>?_))
   all_goals (refine zn ?_)
   all_goals
    first
    | (refine zct ?_
       refine ZaG ?_;refine ZbV ?_;refine zR3 (c:=Qb3 f b j hf0 hb0 (by omega) hS) (h:=?_);rintro v1 w1 ⟨rfl,hS⟩;refine zR2 (c:=rF_c hS) (h:=?_);rintro v1 w1 ⟨rfl,hS⟩;refine zsn hS ?_;intro w1 hS;have hS:=hS.ns;refine ZaY ?_;refine QK vw (Q3 (n:=2) (by kernel_rfl) (by kernel_rfl) (hS.blkAt fd) (by rfl) (by rfl)) ?_
       first|(refine ⟨_,rfl,?_,hS.sp⟩;rw [Q1l (c:=1) (by unfold Qk;rw [if_pos (by omega)]) (by decide)];rfl;done)|(refine ⟨_,rfl,?_,hS.sp⟩;rw [Q1l (c:=Qg y.params y.regs) (by unfold Qk;rw [if_neg (by omega),if_pos (by assumption)]) (by assumption)];rfl;done)|(refine ⟨_,rfl,?_,hS.sp⟩;rw [Q1l (c:=9) (by unfold Qk;rw [if_neg (by omega),if_neg (by omega),if_pos (hq.1 rfl)]) (by decide)];rfl;done)|(refine ⟨_,rfl,?_,hS.sp⟩;rw [Q1l (c:=2) (by unfold Qk;rw [if_neg (by omega),if_neg (by omega),if_neg (fun h=>Bool.noConfusion (hq.2 h)),if_pos (by omega)]) (by decide)];rfl;done)|(refine ⟨_,rfl,?_,hS.sp⟩;rw [QaE (F:=(Qm m.funcs.length x3,Q45 f b j)) hh (by rw [hd,Q1 hx3,Q33 (by assumption)]) (by assumption)];rfl;done))
    | (refine zcf ?_
       refine zsk ?_)
   refine Zax ?_;(exact ⟨⟨j+1,zh,zh,(by omega),by rw [hd,Q1 hx3,Q7D (by omega)],hS.sp⟩,Q4 (by omega)⟩)
 · skip
   refine zex ?_;refine QJ ?_;refine ZaF ?_;refine ZbN ?_;refine zR2 (c:=rend_c (e:=y.fin) he1 ⟨_,_,_,_,_,rfl,he21,he22,he23,he24,he25⟩ hS) (h:=?_);rintro v1 w1 ⟨rfl,hS⟩;refine ZaW ?_;first|(refine Qy ?_)|(refine Qz ?_)|(refine Qa rfl rfl (fun hc=>?_) (fun hc=>?_))
   all_goals (refine zn ?_)
   all_goals
    first
    | (refine zct ?_
       refine ZaG ?_;refine zm ?_;refine zR2 (c:=Qb4 f b hf0 hb0 hS) (h:=?_);rintro v1 w1 ⟨rfl,hS⟩;refine zR2 (c:=rF_c hS) (h:=?_);rintro v1 w1 ⟨rfl,hS⟩;refine zsn hS ?_;intro w1 hS;have hS:=hS.ns;refine ZaY ?_;refine QK vw (Q3 (n:=2) (by kernel_rfl) (by kernel_rfl) (hS.blkAt fd) (by rfl) (by rfl)) ?_
       first|(refine ⟨_,rfl,?_,hS.sp⟩;rw [Q1l (c:=1) (by unfold Qk;rw [if_pos (by omega)]) (by decide)];rfl;done)|(refine ⟨_,rfl,?_,hS.sp⟩;rw [Q1l (c:=Qg y.params y.regs) (by unfold Qk;rw [if_neg (by omega),if_pos (by assumption)]) (by assumption)];rfl;done)|(refine ⟨_,rfl,?_,hS.sp⟩;rw [Q1l (c:=9) (by unfold Qk;rw [if_neg (by omega),if_neg (by omega),if_pos (hq.1 rfl)]) (by decide)];rfl;done)|(refine ⟨_,rfl,?_,hS.sp⟩;rw [Q1l (c:=2) (by unfold Qk;rw [if_neg (by omega),if_neg (by omega),if_neg (fun h=>Bool.noConfusion (hq.2 h)),if_pos (by omega)]) (by decide)];rfl;done)|(refine ⟨_,rfl,?_,hS.sp⟩;rw [QaE (F:=(Qm m.funcs.length x3,Q45 f b j)) hh (by rw [hd,Q1 hx3,Q33 (by assumption)]) (by assumption)];rfl;done)|(refine ⟨_,rfl,?_,hS.sp⟩;(rw [bf_end hh (by rw [hd,List.drop_of_length_le (by omega),QN])];first|(rw [Q4m (by assumption)];rfl)|(rw [show Q10 x.blocks.length y.fin=0 by omega,Q1E];rfl));done))
    | (refine zcf ?_
       refine zsk ?_)
   refine Zaa ?_;refine zb0 [_,_] ?_;refine zsn hS ?_;intro w1 hS;have hS:=hS.ns;refine ZaY ?_;refine QK vw (Q3 (n:=2) (by kernel_rfl) (by kernel_rfl) (hS.blkAt fd) (by rfl) (by rfl)) ?_;first|(refine ⟨_,rfl,?_,hS.sp⟩;rw [Q1l (c:=1) (by unfold Qk;rw [if_pos (by omega)]) (by decide)];rfl;done)|(refine ⟨_,rfl,?_,hS.sp⟩;rw [Q1l (c:=Qg y.params y.regs) (by unfold Qk;rw [if_neg (by omega),if_pos (by assumption)]) (by assumption)];rfl;done)|(refine ⟨_,rfl,?_,hS.sp⟩;rw [Q1l (c:=9) (by unfold Qk;rw [if_neg (by omega),if_neg (by omega),if_pos (hq.1 rfl)]) (by decide)];rfl;done)|(refine ⟨_,rfl,?_,hS.sp⟩;rw [Q1l (c:=2) (by unfold Qk;rw [if_neg (by omega),if_neg (by omega),if_neg (fun h=>Bool.noConfusion (hq.2 h)),if_pos (by omega)]) (by decide)];rfl;done)|(refine ⟨_,rfl,?_,hS.sp⟩;rw [QaE (F:=(Qm m.funcs.length x3,Q45 f b j)) hh (by rw [hd,Q1 hx3,Q33 (by assumption)]) (by assumption)];rfl;done)|(refine ⟨_,rfl,?_,hS.sp⟩;(rw [bf_end hh (by rw [hd,List.drop_of_length_le (by omega),QN])];first|(rw [Q4m (by assumption)];rfl)|(rw [show Q10 x.blocks.length y.fin=0 by omega,Q1E];rfl));done)
theorem rcheck_c {m:Module}(hsh:m.Short){cs:List Value}(hm:modR.at cx cs m) (hS:St cx w L):
 Rets Tryz.prog QaL [.agg ⟨cs⟩] w fun u w'=>u=fltV m.fault∧St cx w' L:=by
 have hm':=hm
 obtain ⟨vf,rfl,hf⟩:=QP hm
 have hlf:=hf.len
 have hsf:=hsh.2
 unfold Module.fault
 refine lgo tyD Tryz.func21 ?_;refine Zaw ?_;intro p1 w1 hS;refine Qb hS ?_;(intro p2 w1 hS);refine zn ?_
 refine zML hS [1,2] (fun A LL ρ' w'=>Has ρ' A∧Has ρ' []∧(1≤m.funcs.length∧m.funcs.length≤8)∧St cx w' (LL)) ?_ ?_
 · skip
   refine Zao ?_;refine zL ?_;first|(refine Q1f ?_)|(refine Q1g ?_)|(refine Qr rfl rfl (fun hc=>?_) (fun hc=>?_))
   all_goals (refine ZbI ?_;first|refine zgn ?_|(refine zgy ?_;(first|(refine QL ?_)|(refine QO ?_)|(refine Qd rfl rfl (fun hc=>?_) (fun hc=>?_)))))
   all_goals (refine ZaK ?_)
   all_goals
    first
    | (refine zct ?_
       all_goals (refine Zaa ?_;refine zR2 (c:=rF_c hS) (h:=?_);rintro v1 w1 ⟨rfl,hS⟩;refine zsn hS ?_;intro w1 hS;have hS:=hS.ns;refine ZaY ?_;refine QK vw (Q3 (n:=2) (by kernel_rfl) (by kernel_rfl) (hS.blkAt fd) (by rfl) (by rfl)) ?_)
       all_goals (refine ⟨_,rfl,?_,hS.sp⟩;rw [if_pos (by omega),Q31 (by rw [Q1u];decide),Q4m (by decide)];rfl;done))
    | (refine zcf ?_
       refine zsk ?_)
   ((exact ⟨zh,zh,by omega,hS.sp⟩))
 rintro ρ w1 ⟨hA,hρ,hl8,hS⟩;obtain ⟨ρ,rfl⟩:=env2 hA hρ
 refine ZaI ?_
 refine zoL hS [1,2] (fun A LL ρ' w'=>∃(f:Nat),Has ρ' A∧Has ρ' [(3, .int .i64 f)]∧(f≤m.funcs.length)∧(Q18 m.funcs.length 0 m.funcs=Q18 m.funcs.length f (m.funcs.drop f))∧St cx w' (LL)) (fun ρ' _=>(m.funcs.length - iv (ρ' 3)).toNat) ?_ ?_
 · exact ⟨0,zh,zh,(by omega),by simp,hS.sp⟩
 rintro ρ w1 ⟨f,hA,hρ,hj,hd,hS⟩;obtain ⟨ρ,rfl⟩:=env2 hA hρ
 refine Zbl ?_
 refine Q5 rfl (fun hc=>?_) (fun hc=>?_)
 · skip
   refine ZbZ ?_;intro b1 o1 cs1 x1 hat1 hx1 he1;obtain ⟨vp1,vr1,vb1,rfl,hp1,hr1,hb1⟩:=Qo he1;refine ZaC ?_;intro p4 w1 hS;refine zsn hS ?_;intro w1 hS;have hS:=hS.ns;refine zn ?_;have hsx:=hsf x1 (List.mem_of_getElem? hx1);have hlb:=hb1.len;have hlr:=hr1.len;refine ZaJ ?_;first|(refine Q1f ?_)|(refine Q1g ?_)|(refine Qr rfl rfl (fun hc=>?_) (fun hc=>?_))
   all_goals (refine Zav ?_;first|refine zgn ?_|(refine zgy ?_;(first|(refine QL ?_)|(refine QO ?_)|(refine Qd rfl rfl (fun hc=>?_) (fun hc=>?_)))))
   all_goals (refine ZaK ?_)
   all_goals
    first
    | (refine zct ?_
       all_goals (refine Zae ?_;refine zR1 (c:=Q3K f (by omega) hS) (h:=?_);rintro v1 w1 ⟨rfl,hS⟩;refine zR2 (c:=rF_c hS) (h:=?_);rintro v1 w1 ⟨rfl,hS⟩;refine zsn hS ?_;intro w1 hS;have hS:=hS.ns;refine ZaY ?_;refine QK vw (Q3 (n:=2) (by kernel_rfl) (by kernel_rfl) (hS.blkAt fd) (by rfl) (by rfl)) ?_)
       all_goals (first|(refine ⟨_,rfl,?_,hS.sp⟩;rw [if_pos (by omega),Q31 (by rw [Q1u];decide),Q4m (by decide)];rfl;done)|(refine ⟨_,rfl,?_,hS.sp⟩;rw [if_neg (by omega),Q1E,Q1t Qe,hd,Q1 hx1];rw [Qc (by rw [QM (c:=1) (by unfold Qs;rw [if_pos (by omega)]) (by decide)];simp),QM (c:=1) (by unfold Qs;rw [if_pos (by omega)]) (by decide)];rfl;done)))
    | (refine zcf ?_
       refine zsk ?_)
   refine ZaJ ?_;refine Zad ?_;refine zR2 (c:=Qae hp1 hS) (h:=?_);rintro v1 w1 ⟨rfl,hS⟩;refine ZaW ?_;first|(refine Qy ?_)|(refine Qz ?_)|(refine Qa rfl rfl (fun hc=>?_) (fun hc=>?_))
   all_goals (refine zn ?_)
   all_goals
    first
    | (refine zct ?_
       refine ZaG ?_;refine zR1 (c:=Q3K f (by omega) hS) (h:=?_);rintro v1 w1 ⟨rfl,hS⟩;refine zR2 (c:=rF_c hS) (h:=?_);rintro v1 w1 ⟨rfl,hS⟩;refine zsn hS ?_;intro w1 hS;have hS:=hS.ns;refine ZaY ?_;refine QK vw (Q3 (n:=2) (by kernel_rfl) (by kernel_rfl) (hS.blkAt fd) (by rfl) (by rfl)) ?_
       first|(refine ⟨_,rfl,?_,hS.sp⟩;rw [if_pos (by omega),Q31 (by rw [Q1u];decide),Q4m (by decide)];rfl;done)|(refine ⟨_,rfl,?_,hS.sp⟩;rw [if_neg (by omega),Q1E,Q1t Qe,hd,Q1 hx1];rw [Qc (by rw [QM (c:=1) (by unfold Qs;rw [if_pos (by omega)]) (by decide)];simp),QM (c:=1) (by unfold Qs;rw [if_pos (by omega)]) (by decide)];rfl;done)|(refine ⟨_,rfl,?_,hS.sp⟩;have e:=QM (n:=m.funcs.length) (f:=f) (x:=x1) (c:=Qg x1.params x1.regs) (by unfold Qs;rw [if_neg (by omega),if_pos (by assumption)]) (by assumption);rw [if_neg (by omega),Q1E,Q1t Qe,hd,Q1 hx1,Qc (by rw [e];assumption),e];rfl;done))
    | (refine zcf ?_
       refine zsk ?_)
   refine ZaJ ?_;refine Zad ?_;refine zR2 (c:=Qae hr1 hS) (h:=?_);rintro v1 w1 ⟨rfl,hS⟩;refine ZaW ?_;first|(refine Qy ?_)|(refine Qz ?_)|(refine Qa rfl rfl (fun hc=>?_) (fun hc=>?_))
   all_goals (refine zn ?_)
   all_goals
    first
    | (refine zct ?_
       refine ZaG ?_;refine zR1 (c:=Q3K f (by omega) hS) (h:=?_);rintro v1 w1 ⟨rfl,hS⟩;refine zR2 (c:=rF_c hS) (h:=?_);rintro v1 w1 ⟨rfl,hS⟩;refine zsn hS ?_;intro w1 hS;have hS:=hS.ns;refine ZaY ?_;refine QK vw (Q3 (n:=2) (by kernel_rfl) (by kernel_rfl) (hS.blkAt fd) (by rfl) (by rfl)) ?_
       first|(refine ⟨_,rfl,?_,hS.sp⟩;rw [if_pos (by omega),Q31 (by rw [Q1u];decide),Q4m (by decide)];rfl;done)|(refine ⟨_,rfl,?_,hS.sp⟩;rw [if_neg (by omega),Q1E,Q1t Qe,hd,Q1 hx1];rw [Qc (by rw [QM (c:=1) (by unfold Qs;rw [if_pos (by omega)]) (by decide)];simp),QM (c:=1) (by unfold Qs;rw [if_pos (by omega)]) (by decide)];rfl;done)|(refine ⟨_,rfl,?_,hS.sp⟩;have e:=QM (n:=m.funcs.length) (f:=f) (x:=x1) (c:=Qg x1.params x1.regs) (by unfold Qs;rw [if_neg (by omega),if_pos (by assumption)]) (by assumption);rw [if_neg (by omega),Q1E,Q1t Qe,hd,Q1 hx1,Qc (by rw [e];assumption),e];rfl;done)|(refine ⟨_,rfl,?_,hS.sp⟩;have e:=QM (n:=m.funcs.length) (f:=f) (x:=x1) (c:=Qg x1.results x1.regs) (by unfold Qs;rw [if_neg (by omega),if_neg (by assumption),if_pos (by assumption)]) (by assumption);rw [if_neg (by omega),Q1E,Q1t Qe,hd,Q1 hx1,Qc (by rw [e];assumption),e];rfl;done))
    | (refine zcf ?_
       refine zsk ?_)
   refine zML hS [1,2,3,4] (fun A LL ρ' w'=>Has ρ' A∧Has ρ' []∧(¬(x1.regs<0∨6<x1.regs))∧(¬Qg x1.params x1.regs≠0)∧(¬Qg x1.results x1.regs≠0)∧(¬(x1.blocks.length<1∨12<x1.blocks.length))∧St cx w' (LL)) ?_ ?_
   · skip
     refine Zao ?_;refine zL ?_;first|(refine Q1f ?_)|(refine Q1g ?_)|(refine Qr rfl rfl (fun hc=>?_) (fun hc=>?_))
     all_goals (refine ZbI ?_;first|refine zgn ?_|(refine zgy ?_;(first|(refine QL ?_)|(refine QO ?_)|(refine Qd rfl rfl (fun hc=>?_) (fun hc=>?_)))))
     all_goals (refine ZaK ?_)
     all_goals
      first
      | (refine zct ?_
         all_goals (refine Zae ?_;refine zR1 (c:=Q3K f (by omega) hS) (h:=?_);rintro v1 w1 ⟨rfl,hS⟩;refine zR2 (c:=rF_c hS) (h:=?_);rintro v1 w1 ⟨rfl,hS⟩;refine zsn hS ?_;intro w1 hS;have hS:=hS.ns;refine ZaY ?_;refine QK vw (Q3 (n:=2) (by kernel_rfl) (by kernel_rfl) (hS.blkAt fd) (by rfl) (by rfl)) ?_)
         all_goals (first|(refine ⟨_,rfl,?_,hS.sp⟩;rw [if_pos (by omega),Q31 (by rw [Q1u];decide),Q4m (by decide)];rfl;done)|(refine ⟨_,rfl,?_,hS.sp⟩;rw [if_neg (by omega),Q1E,Q1t Qe,hd,Q1 hx1];rw [Qc (by rw [QM (c:=1) (by unfold Qs;rw [if_pos (by omega)]) (by decide)];simp),QM (c:=1) (by unfold Qs;rw [if_pos (by omega)]) (by decide)];rfl;done)|(refine ⟨_,rfl,?_,hS.sp⟩;have e:=QM (n:=m.funcs.length) (f:=f) (x:=x1) (c:=Qg x1.params x1.regs) (by unfold Qs;rw [if_neg (by omega),if_pos (by assumption)]) (by assumption);rw [if_neg (by omega),Q1E,Q1t Qe,hd,Q1 hx1,Qc (by rw [e];assumption),e];rfl;done)|(refine ⟨_,rfl,?_,hS.sp⟩;have e:=QM (n:=m.funcs.length) (f:=f) (x:=x1) (c:=Qg x1.results x1.regs) (by unfold Qs;rw [if_neg (by omega),if_neg (by assumption),if_pos (by assumption)]) (by assumption);rw [if_neg (by omega),Q1E,Q1t Qe,hd,Q1 hx1,Qc (by rw [e];assumption),e];rfl;done)|(refine ⟨_,rfl,?_,hS.sp⟩;have e:=QM (n:=m.funcs.length) (f:=f) (x:=x1) (c:=2) (by unfold Qs;rw [if_neg (by omega),if_neg (by assumption),if_neg (by assumption),if_pos (by omega)]) (by decide);rw [if_neg (by omega),Q1E,Q1t Qe,hd,Q1 hx1,Qc (by rw [e];simp),e];rfl;done)))
      | (refine zcf ?_
         refine zsk ?_)
     ((exact ⟨zh,zh,by omega,by assumption,by assumption,by omega,hS.sp⟩))
   rintro ρ w1 ⟨hA,hρ,k1,k2,k3,k4,hS⟩;obtain ⟨ρ,rfl⟩:=env2 hA hρ
   refine zML hS [1,2,3,4] (fun A LL ρ' w'=>Has ρ' A∧Has ρ' []∧(Qs f x1=0)∧St cx w' (LL)) ?_ ?_
   · skip
     refine Zae ?_;first|(refine Qp ?_)|(refine Qu ?_)|(refine Q7 rfl rfl (fun hc=>?_) (fun hc=>?_))
     all_goals (refine zn ?_)
     all_goals
      first
      | (refine zct ?_
         refine Zaa ?_
         refine zKL hS 9 [1,2,3,4] (fun A LL ρ' w'=>∃(q:Bool),Has ρ' A∧Has ρ' [(90, .bool q)]∧(q=true↔(x1.regs=0∧x1.params.length=0))∧St cx w' (LL)) ?_ ?_
         · skip
           refine Zad ?_;first|(refine Qp ?_)|(refine Qu ?_)|(refine Q7 rfl rfl (fun hc=>?_) (fun hc=>?_))
           all_goals (refine ZbI ?_;first|refine zgn ?_|(refine zgy ?_;(first|(refine Qp ?_)|(refine Qu ?_)|(refine Q7 rfl rfl (fun hc=>?_) (fun hc=>?_)))))
           all_goals (refine ZbJ ?_;first|(exact ⟨_,zh,zh,by exact ⟨fun _=>⟨by omega,by omega⟩,fun _=>rfl⟩,hS.sp⟩)|(exact ⟨_,zh,zh,by exact ⟨fun h=>Bool.noConfusion h,fun h=>by omega⟩,hS.sp⟩))
         rintro ρ w1 ⟨q,hA,hρ,hq,hS⟩;obtain ⟨ρ,rfl⟩:=env2 hA hρ
         refine Zab ?_;refine ZaI ?_
         refine zoL hS [1,2,3,4] (fun A LL ρ' w'=>∃(i:Nat) (q:Bool),Has ρ' A∧Has ρ' [(7, .bool q),(8, .int .i64 i)]∧(i≤x1.results.length)∧(q=true↔(x1.regs=0∧x1.params.length=0∧∀t∈x1.results.take i,t.kind=1))∧(f=0)∧St cx w' (LL)) (fun ρ' _=>(x1.results.length - iv (ρ' 8)).toNat) ?_ ?_
         · exact ⟨0,q,zh,zh,(by omega),by rw [hq];simp,by omega,hS.sp⟩
         rintro ρ w1 ⟨i,q,hA,hρ,hi,hq2,hf0,hS⟩;obtain ⟨ρ,rfl⟩:=env2 hA hρ
         refine Zbl ?_
         refine Q5 rfl (fun hc=>?_) (fun hc=>?_)
         · skip
           refine Zar ?_;cases q
           all_goals (refine Zag ?_;refine Zav ?_;refine Yac ?_;(first|refine zgn ?_|(refine zgy ?_;refine zi ?_;intro b2 o2 cs2 x2 hat2 hx2 he2;obtain ⟨vl2,rfl,hl2⟩:=Q9 he2));refine Yah ?_;refine Yar ?_;first|refine zgn ?_|(refine zgy ?_;(first|(refine Qp ?_)|(refine Qu ?_)|(refine Q7 rfl rfl (fun hc=>?_) (fun hc=>?_)))))
           all_goals (refine Yad ?_;refine Zab ?_;refine Zax ?_;first|(exact ⟨⟨i+1,false,zh,zh,(by omega),by exact ⟨fun h=>Bool.noConfusion h,fun h=>hq2.2 ⟨h.1,h.2.1,fun t ht=>h.2.2 t (List.mem_of_mem_take (i:=i) (by rw [List.take_take,Nat.min_eq_left (by omega)];exact ht))⟩⟩,hf0,hS.sp⟩,Q4 (by omega)⟩)|(exact ⟨⟨i+1,true,zh,zh,(by omega),by exact ⟨fun _=>⟨(hq2.1 rfl).1,(hq2.1 rfl).2.1,Q3x (hq2.1 rfl).2.2 hx2 (by assumption)⟩,fun _=>rfl⟩,hf0,hS.sp⟩,Q4 (by omega)⟩)|(exact ⟨⟨i+1,false,zh,zh,(by omega),by exact ⟨fun h=>Bool.noConfusion h,fun h=>absurd (h.2.2 x2 (by rw [Qq hx2];simp)) (by assumption)⟩,hf0,hS.sp⟩,Q4 (by omega)⟩))
         · skip
           refine zex ?_;refine QJ ?_;cases q
           all_goals (refine Zag ?_;refine Zbo ?_)
           all_goals
            first
            | (refine zct ?_
               refine Zae ?_;refine zR1 (c:=Q3K f (by omega) hS) (h:=?_);rintro v1 w1 ⟨rfl,hS⟩;refine zR2 (c:=rF_c hS) (h:=?_);rintro v1 w1 ⟨rfl,hS⟩;refine zsn hS ?_;intro w1 hS;have hS:=hS.ns;refine ZaY ?_;refine QK vw (Q3 (n:=2) (by kernel_rfl) (by kernel_rfl) (hS.blkAt fd) (by rfl) (by rfl)) ?_
               first|(refine ⟨_,rfl,?_,hS.sp⟩;rw [if_pos (by omega),Q31 (by rw [Q1u];decide),Q4m (by decide)];rfl;done)|(refine ⟨_,rfl,?_,hS.sp⟩;rw [if_neg (by omega),Q1E,Q1t Qe,hd,Q1 hx1];rw [Qc (by rw [QM (c:=1) (by unfold Qs;rw [if_pos (by omega)]) (by decide)];simp),QM (c:=1) (by unfold Qs;rw [if_pos (by omega)]) (by decide)];rfl;done)|(refine ⟨_,rfl,?_,hS.sp⟩;have e:=QM (n:=m.funcs.length) (f:=f) (x:=x1) (c:=Qg x1.params x1.regs) (by unfold Qs;rw [if_neg (by omega),if_pos (by assumption)]) (by assumption);rw [if_neg (by omega),Q1E,Q1t Qe,hd,Q1 hx1,Qc (by rw [e];assumption),e];rfl;done)|(refine ⟨_,rfl,?_,hS.sp⟩;have e:=QM (n:=m.funcs.length) (f:=f) (x:=x1) (c:=Qg x1.results x1.regs) (by unfold Qs;rw [if_neg (by omega),if_neg (by assumption),if_pos (by assumption)]) (by assumption);rw [if_neg (by omega),Q1E,Q1t Qe,hd,Q1 hx1,Qc (by rw [e];assumption),e];rfl;done)|(refine ⟨_,rfl,?_,hS.sp⟩;have e:=QM (n:=m.funcs.length) (f:=f) (x:=x1) (c:=2) (by unfold Qs;rw [if_neg (by omega),if_neg (by assumption),if_neg (by assumption),if_pos (by omega)]) (by decide);rw [if_neg (by omega),Q1E,Q1t Qe,hd,Q1 hx1,Qc (by rw [e];simp),e];rfl;done)|(refine ⟨_,rfl,?_,hS.sp⟩;have e:=QM (n:=m.funcs.length) (f:=f) (x:=x1) (c:=18) (by unfold Qs;rw [if_neg k1,if_neg k2,if_neg k3,if_neg k4,if_pos];refine ⟨hf0,?_⟩;rw [List.take_of_length_le (by omega)] at hq2;refine Classical.byContradiction fun h=>?_;have:=hq2.2 ⟨by omega,by omega,fun t ht=>Classical.byContradiction fun hk=>h (.inr (.inr ⟨t,ht,hk⟩))⟩;cases this) (by decide);rw [if_neg (by omega),Q1E,Q1t Qe,hd,Q1 hx1,Qc (by rw [e];simp),e];rfl;done))
            | (refine zcf ?_
               refine zsk ?_)
           first|(exact ⟨zh,zh,by unfold Qs;rw [if_neg k1,if_neg k2,if_neg k3,if_neg k4,if_neg (fun h=>absurd h.1 (by omega))],hS.sp⟩)|(exact ⟨zh,zh,by unfold Qs;rw [if_neg k1,if_neg k2,if_neg k3,if_neg k4,if_neg];rintro ⟨_,h⟩;obtain ⟨a1,a2,a3⟩:=hq2.1 rfl;rw [List.take_of_length_le (by omega)] at a3;rcases h with h|h|⟨t,ht,hk⟩<;>first|(exfalso;omega)|exact hk (a3 t ht),hS.sp⟩))
      | (refine zcf ?_
         refine zsk ?_
         (exact ⟨zh,zh,by unfold Qs;rw [if_neg k1,if_neg k2,if_neg k3,if_neg k4,if_neg (fun h=>absurd h.1 (by omega))],hS.sp⟩))
   rintro ρ w1 ⟨hA,hρ,hh,hS⟩;obtain ⟨ρ,rfl⟩:=env2 hA hρ
   refine Zay ?_
   refine zoL hS [1,2,3,4] (fun A LL ρ' w'=>∃(b:Nat),Has ρ' A∧Has ρ' [(9, .int .i64 b)]∧(b≤x1.blocks.length)∧(QE m.funcs.length f x1 0 x1.blocks=QE m.funcs.length f x1 b (x1.blocks.drop b))∧St cx w' (LL)) (fun ρ' _=>(x1.blocks.length - iv (ρ' 9)).toNat) ?_ ?_
   · exact ⟨0,zh,zh,(by omega),by simp,hS.sp⟩
   rintro ρ w1 ⟨b,hA,hρ,hb,hd2,hS⟩;obtain ⟨ρ,rfl⟩:=env2 hA hρ
   refine Zbl ?_
   refine Q5 rfl (fun hc=>?_) (fun hc=>?_)
   · skip
     refine Zbq ?_;obtain ⟨y,hy⟩:∃y,x1.blocks[b]?=some y:=⟨_,List.getElem?_eq_getElem (by omega)⟩;have hsy:=hsx.2.2.2 y (List.mem_of_getElem? hy);refine Q1z ?_;refine zv hS ?_;refine ZbV ?_;refine zR3 (c:=rblock_c hx1 hy (by omega) (by omega) hsy.2.1 hm' hS) (h:=?_);rintro v1 w1 ⟨rfl,hS⟩;unfold fltV;refine Qb hS ?_;intro p10 w1 hS;refine zsn hS ?_;intro w1 hS;have hS:=hS.ns;refine ZbP ?_;first|(refine Qy ?_)|(refine Qz ?_)|(refine Qa rfl rfl (fun hc=>?_) (fun hc=>?_))
     all_goals (refine zn ?_)
     all_goals
      first
      | (refine zct ?_
         refine ZaF ?_;refine zsn hS ?_;intro w1 hS;have hS:=hS.ns;refine ZaY ?_;refine QK vw (Q3 (n:=2) (by kernel_rfl) (by kernel_rfl) (hS.blkAt fd) (by rfl) (by rfl)) ?_
         first|(refine ⟨_,rfl,?_,hS.sp⟩;rw [if_pos (by omega),Q31 (by rw [Q1u];decide),Q4m (by decide)];rfl;done)|(refine ⟨_,rfl,?_,hS.sp⟩;rw [if_neg (by omega),Q1E,Q1t Qe,hd,Q1 hx1];rw [Qc (by rw [QM (c:=1) (by unfold Qs;rw [if_pos (by omega)]) (by decide)];simp),QM (c:=1) (by unfold Qs;rw [if_pos (by omega)]) (by decide)];rfl;done)|(refine ⟨_,rfl,?_,hS.sp⟩;have e:=QM (n:=m.funcs.length) (f:=f) (x:=x1) (c:=Qg x1.params x1.regs) (by unfold Qs;rw [if_neg (by omega),if_pos (by assumption)]) (by assumption);rw [if_neg (by omega),Q1E,Q1t Qe,hd,Q1 hx1,Qc (by rw [e];assumption),e];rfl;done)|(refine ⟨_,rfl,?_,hS.sp⟩;have e:=QM (n:=m.funcs.length) (f:=f) (x:=x1) (c:=Qg x1.results x1.regs) (by unfold Qs;rw [if_neg (by omega),if_neg (by assumption),if_pos (by assumption)]) (by assumption);rw [if_neg (by omega),Q1E,Q1t Qe,hd,Q1 hx1,Qc (by rw [e];assumption),e];rfl;done)|(refine ⟨_,rfl,?_,hS.sp⟩;have e:=QM (n:=m.funcs.length) (f:=f) (x:=x1) (c:=2) (by unfold Qs;rw [if_neg (by omega),if_neg (by assumption),if_neg (by assumption),if_pos (by omega)]) (by decide);rw [if_neg (by omega),Q1E,Q1t Qe,hd,Q1 hx1,Qc (by rw [e];simp),e];rfl;done)|(refine ⟨_,rfl,?_,hS.sp⟩;have e:=QM (n:=m.funcs.length) (f:=f) (x:=x1) (c:=18) (by unfold Qs;rw [if_neg k1,if_neg k2,if_neg k3,if_neg k4,if_pos];refine ⟨hf0,?_⟩;rw [List.take_of_length_le (by omega)] at hq2;refine Classical.byContradiction fun h=>?_;have:=hq2.2 ⟨by omega,by omega,fun t ht=>Classical.byContradiction fun hk=>h (.inr (.inr ⟨t,ht,hk⟩))⟩;cases this) (by decide);rw [if_neg (by omega),Q1E,Q1t Qe,hd,Q1 hx1,Qc (by rw [e];simp),e];rfl;done)|(refine ⟨_,rfl,?_,hS.sp⟩;have e:(QD m.funcs.length f x1 b y).1≠0:=(by assumption);have e2:Q1B m.funcs.length f x1=QD m.funcs.length f x1 b y:=(by rw [Q7f hh,hd2,Q1 hy,Q3y e]);rw [if_neg (by omega),Q1E,Q1t Qe,hd,Q1 hx1,Qc (by rw [e2];exact e),e2];rfl;done))
      | (refine zcf ?_
         refine zsk ?_)
     refine Zax ?_;(exact ⟨⟨b+1,zh,zh,(by omega),by rw [hd2,Q1 hy,Q69 (by omega)],hS.sp⟩,Q4 (by omega)⟩)
   · skip
     refine Zca ?_;(exact ⟨⟨f+1,zh,zh,(by omega),by rw [hd,Q1 hx1,Q7z];rw [Q7f hh,hd2,List.drop_of_length_le (by omega)];rfl,hS.sp⟩,Q4 (by omega)⟩)
 · skip
   refine zex ?_;refine Zaa ?_;refine zb0 [_,_] ?_;refine zsn hS ?_;intro w1 hS;have hS:=hS.ns;refine ZaY ?_;refine QK vw (Q3 (n:=2) (by kernel_rfl) (by kernel_rfl) (hS.blkAt fd) (by rfl) (by rfl)) ?_;first|(refine ⟨_,rfl,?_,hS.sp⟩;rw [if_pos (by omega),Q31 (by rw [Q1u];decide),Q4m (by decide)];rfl;done)|(refine ⟨_,rfl,?_,hS.sp⟩;rw [if_neg (by omega),Q1E,Q1t Qe,hd,Q1 hx1];rw [Qc (by rw [QM (c:=1) (by unfold Qs;rw [if_pos (by omega)]) (by decide)];simp),QM (c:=1) (by unfold Qs;rw [if_pos (by omega)]) (by decide)];rfl;done)|(refine ⟨_,rfl,?_,hS.sp⟩;have e:=QM (n:=m.funcs.length) (f:=f) (x:=x1) (c:=Qg x1.params x1.regs) (by unfold Qs;rw [if_neg (by omega),if_pos (by assumption)]) (by assumption);rw [if_neg (by omega),Q1E,Q1t Qe,hd,Q1 hx1,Qc (by rw [e];assumption),e];rfl;done)|(refine ⟨_,rfl,?_,hS.sp⟩;have e:=QM (n:=m.funcs.length) (f:=f) (x:=x1) (c:=Qg x1.results x1.regs) (by unfold Qs;rw [if_neg (by omega),if_neg (by assumption),if_pos (by assumption)]) (by assumption);rw [if_neg (by omega),Q1E,Q1t Qe,hd,Q1 hx1,Qc (by rw [e];assumption),e];rfl;done)|(refine ⟨_,rfl,?_,hS.sp⟩;have e:=QM (n:=m.funcs.length) (f:=f) (x:=x1) (c:=2) (by unfold Qs;rw [if_neg (by omega),if_neg (by assumption),if_neg (by assumption),if_pos (by omega)]) (by decide);rw [if_neg (by omega),Q1E,Q1t Qe,hd,Q1 hx1,Qc (by rw [e];simp),e];rfl;done)|(refine ⟨_,rfl,?_,hS.sp⟩;have e:=QM (n:=m.funcs.length) (f:=f) (x:=x1) (c:=18) (by unfold Qs;rw [if_neg k1,if_neg k2,if_neg k3,if_neg k4,if_pos];refine ⟨hf0,?_⟩;rw [List.take_of_length_le (by omega)] at hq2;refine Classical.byContradiction fun h=>?_;have:=hq2.2 ⟨by omega,by omega,fun t ht=>Classical.byContradiction fun hk=>h (.inr (.inr ⟨t,ht,hk⟩))⟩;cases this) (by decide);rw [if_neg (by omega),Q1E,Q1t Qe,hd,Q1 hx1,Qc (by rw [e];simp),e];rfl;done)|(refine ⟨_,rfl,?_,hS.sp⟩;have e:(QD m.funcs.length f x1 b y).1≠0:=(by assumption);have e2:Q1B m.funcs.length f x1=QD m.funcs.length f x1 b y:=(by rw [Q7f hh,hd2,Q1 hy,Q3y e]);rw [if_neg (by omega),Q1E,Q1t Qe,hd,Q1 hx1,Qc (by rw [e2];exact e),e2];rfl;done)|(refine ⟨_,rfl,?_,hS.sp⟩;rw [if_neg (by omega),Q1E,Q1t Qe,hd,List.drop_of_length_le (l:=m.funcs) (by omega),Q18];rfl;done)
theorem kindne_c {t:Ty}{cs:List Value}(ht:tyR.at cx cs t) (hS:St cx w L):Rets Tryz.prog Q41 [.agg ⟨cs⟩] w fun u w'=>u= .bool (decide (t.kind≠1))∧St cx w' L:=by
 obtain ⟨v,rfl,hl⟩:=Q9 ht
 refine lgo tyD Tryz.func107 ?_;refine Zaw ?_;intro p1 w1 hS;refine Zab ?_;refine Zao ?_;refine Q3h rfl rfl ?_;refine ZaB ?_;(((refine ⟨_,rfl,?_,hS.sp⟩;(rfl);done)))
theorem pcont_c {l:List Ty}{v:Value}(hl:tyR.sl cx v l) (hS:St cx w L):Rets Tryz.prog Q1O [v, .func (.func Q41) #[] #[]] w fun u w'=>∃q,u= .bool q∧(q=true↔∃t∈l,t.kind≠1)∧St cx w' L:=by
 have hlen:=hl.len
 have hidx:∀{w:World}{L:List Res},St cx w L→Rets Tryz.prog Q21 [v, .func (.func Q41) #[] #[]] w fun u w'=>∃r:Int,u= .int .i64 r∧(0≤r↔∃t∈l,t.kind≠1)∧St cx w' L:=by
  intro w L hS
  refine lgo tyD Tryz.func160 ?_;refine Zbx ?_;refine Zbi ?_
  refine zoL hS [0,1,7] (fun A LL ρ' w'=>∃(j:Nat),Has ρ' A∧Has ρ' [(8, .int .i64 j)]∧(j≤l.length)∧(∀t∈l.take j,t.kind=1)∧St cx w' (LL)) (fun ρ' _=>(l.length - iv (ρ' 8)).toNat) ?_ ?_
  · exact ⟨0,zh,zh,(by omega),by simp,hS.sp⟩
  rintro ρ w1 ⟨j,hA,hρ,hj,hd,hS⟩;obtain ⟨ρ,rfl⟩:=env2 hA hρ
  refine ZaV ?_
  refine Q5 rfl (fun hc=>?_) (fun hc=>?_)
  · skip
    refine Zar ?_;refine Zbm ?_;refine ZaG ?_;refine ZaX ?_;intro b1 o1 cs1 x1 hat1 hx1 he1;obtain ⟨vl1,rfl,hl1⟩:=Q9 he1;refine Yaf ?_;refine QcH rfl (by kernel_rfl) (by rfl) (kindne_c he1 hS) ?_;rintro v1 w1 ⟨rfl,hS⟩;(cases hdec:decide (x1.kind≠1));have hg:=of_decide_eq_false hdec;rotate_left;have hg:=of_decide_eq_true hdec;all_goals skip
    all_goals (refine zn ?_)
    all_goals
     first
     | (refine zct ?_
        refine Zbk ?_
        (exact ⟨_,rfl,j,rfl,⟨fun _=>⟨x1,List.mem_of_getElem? hx1,hg⟩,fun _=>by omega⟩,hS.sp⟩))
     | (refine zcf ?_
        refine zsk ?_)
    refine ZaP ?_;(exact ⟨⟨j+1,zh,zh,(by omega),Q3x hd hx1 (Classical.not_not.1 hg),hS.sp⟩,Q4 (by omega)⟩)
  · skip
    refine ZbG ?_;first|(exact ⟨_,rfl,j,rfl,⟨fun _=>⟨x1,List.mem_of_getElem? hx1,hg⟩,fun _=>by omega⟩,hS.sp⟩)|(exact ⟨_,rfl, -1,rfl,⟨fun h=>by omega,fun ⟨t,ht,hk⟩=>absurd (Q5b hd (by omega) t ht) hk⟩,hS.sp⟩)
 refine lgo tyD Tryz.func106 ?_;refine Zaf ?_;refine ZaG ?_;refine zR2 (c:=hidx hS) (h:=?_);rintro v1 w1 ⟨r,rfl,hr,hS⟩;first|(refine Q2b ?_)|(refine Q2c ?_)|(refine Q1a rfl rfl (fun hc=>?_) (fun hc=>?_))
 all_goals (refine ZaB ?_;first|(exact ⟨_,rfl,_,rfl,⟨fun _=>hr.1 (by omega),fun _=>rfl⟩,hS.sp⟩)|(exact ⟨_,rfl,_,rfl,⟨fun h=>Bool.noConfusion h,fun h=>by have:=hr.2 h;omega⟩,hS.sp⟩))
theorem QdO {g:Flt}{a:Int}{x:Fun}{b:Nat}{y:Block}{q:Bool}(hq:q=true↔(b=0∧(y.regs≠x.regs∨y.params≠x.params))):
 orF (orF (orF (orF g (mkF (if y.regs<x.regs∨16<y.regs then 1 else 0) a)) (mkF (Qg y.params y.regs) a)) (mkF (if q=true then 9 else 0) a)) (mkF (if 40<y.code.length then 2 else 0) a)=orF g (mkF (Qk x b y) a):=by
 rw [Q25,Q25,Q25]
 congr 2
 unfold Qk
 by_cases h0:y.regs<x.regs∨16<y.regs
 · rw [if_pos h0,if_pos h0];simp only [Q3N (show (1:Int)≠0 by decide)]
 · rw [if_neg h0,if_neg h0,Q3B]
   by_cases h:Qg y.params y.regs≠0
   · rw [if_pos h];simp only [Q3N h]
   · rw [if_neg h,Classical.not_not.1 h,Q3B]
     by_cases hb:b=0∧(y.regs≠x.regs∨y.params≠x.params)
     · rw [if_pos hb,if_pos (hq.2 hb)];simp only [Q3N (show (9:Int)≠0 by decide)]
     · rw [if_neg hb,if_neg (fun h=>hb (hq.1 h)),Q3B]
theorem pblock_c {fs:List Fun}{f b:Nat}{x:Fun}{y:Block}{vf:Value}{g:Flt}{a:Int}{p:Nat}(hxf:fs[f]?=some x) (hyb:x.blocks[b]?=some y) (hf0:f≤1000000) (hb0:b≤1000000) (hlc:y.code.length≤100000) (hf:funcR.sl cx vf fs) (hS:St cx w L) (hi:nth L i=some (jdg p vf g a)):
 Rets Tryz.prog Q68 [.pointer (some ⟨p,0,none⟩), .int .i64 f, .int .i64 b] w fun u w'=>u= .tuple #[]∧∃a',St cx w' (L.set i (jdg p vf (orF g (QD fs.length f x b y)) a')):=by
 have hflt:=(List.getElem?_eq_some_iff.1 hxf).1
 have hblt:=(List.getElem?_eq_some_iff.1 hyb).1
 have hS:=hS.out hi
 refine lgo tyD Tryz.func108 ?_;refine Zae ?_;refine ZaL ?_;refine Zad ?_;refine ZaX ?_;intro b1 o1 cs1 x1 hat1 hx1 he1;((obtain ⟨vp1,vr1,vb1,rfl,hp1,hr1,hb1⟩:=Qo he1));refine ZaC ?_;(intro p6 w1 hS);((refine zsn hS ?_;intro w1 hS;have hS:=hS.ns));refine zn ?_;have e1:x=x1:=Option.some.inj (hxf.symm.trans hx1);subst e1;refine ZbC ?_;intro b2 o2 cs2 x2 hat2 hx2 he2;((obtain ⟨vp2,vc2,ve21,ve22,ve23,ve24,ve25,rfl,hp2,hc2,he21,he22,he23,he24,he25⟩:=QC he2));refine ZaC ?_;(intro p7 w1 hS);((refine zsn hS ?_;intro w1 hS;have hS:=hS.ns));refine zn ?_;have e2:y=x2:=Option.some.inj (hyb.symm.trans hx2);subst e2
 refine zM [0,1,2,6,7] (fun A ρ' w'=>Has ρ' A∧Has ρ' []∧St cx w' (blk p7 92 [.int .i64 y.regs,vp2,vc2, .int .i64 y.fin.op, .int .i64 y.fin.a, .int .i64 y.fin.yes.block,ve21,ve22, .int .i64 y.fin.no.block,ve23,ve24,ve25]::blk p6 95 [.int .i64 x.regs,vp1,vr1,vb1]::jdg p vf g (Q2l f b)::L.eraseIdx i)) ?_ ?_
 · skip
   refine Zbc ?_;refine zm ?_;refine zR2 (c:=QbU f b hf0 hb0 hS) (h:=?_);rintro v1 w1 ⟨rfl,hS⟩;refine ZaL ?_;refine zst hS ?_;intro w1 hS;have hS:=hS.ns;refine zn ?_;(exact ⟨zh,zh,hS.sp⟩)
 rintro ρ w1 ⟨hA,hρ,hS⟩;obtain ⟨ρ,rfl⟩:=env2 hA hρ
 refine zM [0,1,2,6,7] (fun A ρ' w'=>Has ρ' A∧Has ρ' []∧St cx w' (blk p7 92 [.int .i64 y.regs,vp2,vc2, .int .i64 y.fin.op, .int .i64 y.fin.a, .int .i64 y.fin.yes.block,ve21,ve22, .int .i64 y.fin.no.block,ve23,ve24,ve25]::blk p6 95 [.int .i64 x.regs,vp1,vr1,vb1]::jdg p vf (orF g (mkF (if y.regs<x.regs∨16<y.regs then 1 else 0) (Q2l f b))) (Q2l f b)::L.eraseIdx i)) ?_ ?_
 · skip
   refine ZbH ?_;refine Zad ?_;first|(refine Q1f ?_)|(refine Q1g ?_)|(refine Qr rfl rfl (fun hc=>?_) (fun hc=>?_))
   all_goals (refine Zav ?_;first|refine zgn ?_|(refine zgy ?_;(first|(refine QL ?_)|(refine QO ?_)|(refine Qd rfl rfl (fun hc=>?_) (fun hc=>?_)))))
   all_goals (refine Yad ?_;refine zR3 (c:=Q1L (g:=_) (by intro _;decide) hS fd) (h:=?_);rintro v1 w1 ⟨rfl,hS⟩;simp only [List.set_cons_zero,List.set_cons_succ,if_true,Bool.false_eq_true,if_false] at hS;refine zn ?_;exact ⟨zh,zh,by first|(rw [if_pos (by omega)];exact hS.sp)|(rw [if_neg (by omega)];exact hS.sp)⟩)
 rintro ρ w1 ⟨hA,hρ,hS⟩;obtain ⟨ρ,rfl⟩:=env2 hA hρ
 refine Zae ?_;refine Zad ?_;refine Zad ?_;refine zR3 (c:=Qak hp2 hS fd) (h:=?_);rintro v1 w1 ⟨rfl,hS⟩;have hS:=hS.ns;refine zn ?_;refine Zaa ?_
 refine zKL hS 18 [0,1,2,6,7] (fun A LL ρ' w'=>∃(q:Bool),Has ρ' A∧Has ρ' [(46, .pointer (some ⟨p,0,none⟩)),(63, .bool q)]∧(q=true↔(b=0∧(y.regs≠x.regs∨y.params≠x.params)))∧St cx w' (LL)) ?_ ?_
 · skip
   refine ZbV ?_;first|(refine Qp ?_)|(refine Qu ?_)|(refine Q7 rfl rfl (fun hc=>?_) (fun hc=>?_))
   all_goals (refine Zbp ?_;first|refine zgn ?_|(refine zgy ?_;(first|(refine Qy ?_)|(refine Qz ?_)|(refine Qa rfl rfl (fun hc=>?_) (fun hc=>?_)))))
   all_goals (refine Zbw ?_;refine Zak ?_;first|refine zgn ?_|(refine zgy ?_;refine zR3 (c:=eqfT_c (by kernel_rfl) (fun a _ b _ {_ _ _ _} h1 h2 h3=>Q6F a b h1 h2 h3) hp2 hp1 hS) (h:=?_);rintro v1 w1 ⟨rfl,hS⟩;(cases hdec:decide (y.params=x.params));have hg:=of_decide_eq_false hdec;rotate_left;have hg:=of_decide_eq_true hdec;all_goals skip))
   all_goals (refine Yal ?_;refine ZbU ?_;first|(exact ⟨_,zh,zh,by exact ⟨fun _=>⟨by omega, .inl (by assumption)⟩,fun _=>rfl⟩,hS.sp⟩)|(exact ⟨_,zh,zh,by exact ⟨fun _=>⟨by omega, .inr (by assumption)⟩,fun _=>rfl⟩,hS.sp⟩)|(exact ⟨_,zh,zh,by exact ⟨fun h=>Bool.noConfusion h,fun h=>absurd h.1 (by omega)⟩,hS.sp⟩)|(exact ⟨_,zh,zh,by exact ⟨fun h=>Bool.noConfusion h,fun h=>h.2.elim (fun h=>absurd h (by assumption)) (fun h=>absurd (by assumption) h)⟩,hS.sp⟩))
 rintro ρ w1 ⟨q,hA,hρ,hq,hS⟩;obtain ⟨ρ,rfl⟩:=env2 hA hρ
 refine zR3 (c:=Q1L (g:=_) (by intro _;decide) hS fd) (h:=?_);rintro v1 w1 ⟨rfl,hS⟩;simp only [List.set_cons_zero,List.set_cons_succ,if_true,Bool.false_eq_true,if_false] at hS;refine zn ?_
 refine zM [0,1,2,6,7] (fun A ρ' w'=>Has ρ' A∧Has ρ' []∧St cx w' (blk p7 92 [.int .i64 y.regs,vp2,vc2, .int .i64 y.fin.op, .int .i64 y.fin.a, .int .i64 y.fin.yes.block,ve21,ve22, .int .i64 y.fin.no.block,ve23,ve24,ve25]::blk p6 95 [.int .i64 x.regs,vp1,vr1,vb1]::jdg p vf (orF g (mkF (Qk x b y) (Q2l f b))) (Q2l f b)::L.eraseIdx i)) ?_ ?_
 · skip
   refine ZbH ?_;refine zL ?_;first|(refine QL ?_)|(refine QO ?_)|(refine Qd rfl rfl (fun hc=>?_) (fun hc=>?_))
   all_goals (refine zR3 (c:=Q1L (g:=_) (by intro _;decide) hS fd) (h:=?_);rintro v1 w1 ⟨rfl,hS⟩;simp only [List.set_cons_zero,List.set_cons_succ,if_true,Bool.false_eq_true,if_false] at hS;refine zn ?_;exact ⟨zh,zh,by rw [←QdO hq];first|(rw [if_pos (c:=40<y.code.length) (by omega)];exact hS.sp)|(rw [if_neg (c:=40<y.code.length) (by omega)];exact hS.sp)⟩)
 rintro ρ w1 ⟨hA,hρ,hS⟩;obtain ⟨ρ,rfl⟩:=env2 hA hρ
 refine ZaI ?_
 refine zo [0,1,2,6,7] (fun A ρ' w'=>∃(j:Nat) (h:Flt) (at2:Int),Has ρ' A∧Has ρ' [(8, .int .i64 j)]∧(j≤y.code.length)∧(orF (orF g (mkF (Qk x b y) (Q2l f b))) (QN fs.length f b 0 y.code)=orF h (QN fs.length f b j (y.code.drop j)))∧St cx w' (blk p7 92 [.int .i64 y.regs,vp2,vc2, .int .i64 y.fin.op, .int .i64 y.fin.a, .int .i64 y.fin.yes.block,ve21,ve22, .int .i64 y.fin.no.block,ve23,ve24,ve25]::blk p6 95 [.int .i64 x.regs,vp1,vr1,vb1]::jdg p vf h at2::L.eraseIdx i)) (fun ρ' _=>(y.code.length - iv (ρ' 8)).toNat) ?_ ?_
 · exact ⟨0,_,_,zh,zh,(by omega),by rw [List.drop_zero],hS.sp⟩
 rintro ρ w1 ⟨j,h,at2,hA,hρ,hj,hd,hS⟩;obtain ⟨ρ,rfl⟩:=env2 hA hρ
 refine ZaN ?_;refine zL ?_;first|(refine Q1f ?_)|(refine Q1g ?_)|(refine Qr rfl rfl (fun hc=>?_) (fun hc=>?_))
 all_goals (refine Zbb ?_;refine Yam ?_;refine Zcl ?_;first|refine zgn ?_|(refine zgy ?_;(first|(refine Qp ?_)|(refine Qu ?_)|(refine Q7 rfl rfl (fun hc=>?_) (fun hc=>?_)))))
 all_goals (refine ZaK ?_)
 all_goals
  first
  | (refine zct ?_
     refine Zar ?_;refine ZaG ?_;refine ZbV ?_;refine zR3 (c:=Qb9 f b j hf0 hb0 (by omega) hS) (h:=?_);rintro v1 w1 ⟨rfl,hS⟩;refine ZaL ?_;refine zst hS ?_;intro w1 hS;have hS:=hS.ns;refine zn ?_;have hS:St cx _ (blk p7 92 [.int .i64 y.regs,vp2,vc2, .int .i64 y.fin.op, .int .i64 y.fin.a, .int .i64 y.fin.yes.block,ve21,ve22, .int .i64 y.fin.no.block,ve23,ve24,ve25]::blk p6 95 [.int .i64 x.regs,vp1,vr1,vb1]::jdg p vf h (Q45 f b j)::L.eraseIdx i):=hS;refine ZbH ?_;refine ZaX ?_;intro b3 o3 cs3 x3 hat3 hx3 he3;obtain ⟨vr3,va3,rfl,hr3,ha3⟩:=QG he3;refine Yaf ?_;refine zR2 (c:=ins_c he3 hf hS fd) (h:=?_);rintro v1 w1 ⟨rfl,hS⟩;have hS:=hS.ns;refine Zcj ?_
     (exact ⟨⟨j+1,_,_,zh,zh,(by omega),by rw [hd,Q1 hx3,QN,Q2I],hS.sp⟩,Q4 (by omega)⟩))
  | (refine zcf ?_
     all_goals (refine zex ?_;(first|(rw [List.drop_of_length_le (by omega),QN,QbV (b:=(0,0)) rfl] at hd)|(rw [Q31 (a:=h) (by assumption)] at hd));refine ZaG ?_;refine zm ?_;refine zR2 (c:=Qba f b hf0 hb0 hS) (h:=?_);rintro v1 w1 ⟨rfl,hS⟩;refine ZaL ?_;refine zst hS ?_;intro w1 hS;have hS:=hS.ns;refine zn ?_;have hS:St cx _ (blk p7 92 [.int .i64 y.regs,vp2,vc2, .int .i64 y.fin.op, .int .i64 y.fin.a, .int .i64 y.fin.yes.block,ve21,ve22, .int .i64 y.fin.no.block,ve23,ve24,ve25]::blk p6 95 [.int .i64 x.regs,vp1,vr1,vb1]::jdg p vf h (Q4J f b)::L.eraseIdx i):=hS;refine ZbL ?_;refine ZbN ?_;refine zR3 (c:=end_c (e:=y.fin) he1 ⟨_,_,_,_,_,rfl,he21,he22,he23,he24,he25⟩ hS fd) (h:=?_);rintro v1 w1 ⟨rfl,hS⟩;have hS:=hS.ns;refine zn ?_)
     all_goals (refine Q17 ?_;refine ⟨_,rfl,rfl,Q4J f b,?_⟩;have hS:=hS.drop.drop;rw [show orF g (QD fs.length f x b y)=orF h (mkF (Q10 x.blocks.length y.fin) (Q4J f b)) from (by unfold QD;rw [←Q2I,←Q2I,hd])];exact St.back hS hi))
theorem QdC {g:Flt}{a:Int}{x:Fun}{f:Nat}{q:Bool}(hq:q=true↔(f=0∧(0<x.regs∨0<x.params.length∨∃t∈x.results,t.kind≠1))):
 orF (orF (orF (orF (orF g (mkF (if x.regs<0∨6<x.regs then 1 else 0) a)) (mkF (Qg x.params x.regs) a)) (mkF (Qg x.results x.regs) a)) (mkF (if x.blocks.length<1∨12<x.blocks.length then 2 else 0) a)) (mkF (if q=true then 18 else 0) a)=orF g (mkF (Qs f x) a):=by
 rw [Q25,Q25,Q25,Q25]
 congr 2
 unfold Qs
 by_cases h0:x.regs<0∨6<x.regs
 · rw [if_pos h0,if_pos h0];simp only [Q3N (show (1:Int)≠0 by decide)]
 · rw [if_neg h0,if_neg h0,Q3B]
   by_cases h:Qg x.params x.regs≠0
   · rw [if_pos h];simp only [Q3N h]
   · rw [if_neg h,Classical.not_not.1 h,Q3B]
     by_cases h1:Qg x.results x.regs≠0
     · rw [if_pos h1];simp only [Q3N h1]
     · rw [if_neg h1,Classical.not_not.1 h1,Q3B]
       by_cases h2:x.blocks.length<1∨12<x.blocks.length
       · rw [if_pos h2,if_pos h2];simp only [Q3N (show (2:Int)≠0 by decide)]
       · rw [if_neg h2,if_neg h2,Q3B]
         by_cases hb:f=0∧(0<x.regs∨0<x.params.length∨∃t∈x.results,t.kind≠1)
         · rw [if_pos hb,if_pos (hq.2 hb)]
         · rw [if_neg hb,if_neg (fun h=>hb (hq.1 h))]
theorem Qb8 {m:Module}(hsh:m.Short){cs:List Value}(hm:modR.at cx cs m) (hS:St cx w L):
 Rets Tryz.prog Qcf [.agg ⟨cs⟩] w fun u w'=>u=fltV m.fault∧St cx w' L:=by
 obtain ⟨vf,rfl,hf⟩:=QP hm
 have hsl:=hsh.1
 have hsf:=hsh.2
 obtain ⟨a0,n0,rfl⟩:=Rep.SR.shape hf
 generalize hvf:Value.slice a0 m.funcs.length n0=vf at*
 refine lgo tyD Tryz.func62 ?_;refine Zaw ?_;intro p1 w1 hS;refine Qb hS ?_;(intro p2 w1 hS);refine ZbY ?_;refine QaZ (cs:=[vf, .int .i64 0, .int .i64 0, .int .i64 (-1)]) vw vw (by subst hvf;rfl) ?_;refine zb hS ?_;intro p9 w1 hS;refine Zab ?_
 refine zM [1,2,3] (fun A ρ' w'=>Has ρ' A∧Has ρ' []∧St cx w' (jdg p9 vf (mkF (if m.funcs.length<1∨8<m.funcs.length then 2 else 0) (-1)) (-1)::blk p2 29 [.int .i64 0, .int .i64 0]::blk p1 24 [vf]::L)) ?_ ?_
 · skip
   have hS:St cx _ (jdg p9 vf (0,0) (-1)::blk p2 29 [.int .i64 0, .int .i64 0]::blk p1 24 [vf]::L):=hS;refine ZbH ?_;refine zL ?_;first|(refine Qp ?_)|(refine Qu ?_)|(refine Q7 rfl rfl (fun hc=>?_) (fun hc=>?_))
   all_goals (refine ZbI ?_;first|refine zgn ?_|(refine zgy ?_;(first|(refine QL ?_)|(refine QO ?_)|(refine Qd rfl rfl (fun hc=>?_) (fun hc=>?_)))))
   all_goals (refine Yad ?_;refine zR3 (c:=Q1L (g:=_) (by intro _;decide) hS fd) (h:=?_);rintro v1 w1 ⟨rfl,hS⟩;simp only [List.set_cons_zero,List.set_cons_succ,if_true,Bool.false_eq_true,if_false] at hS;refine zn ?_;exact ⟨zh,zh,by rw [Q1t (Q5r _ _)] at hS;first|(rw [if_pos (by omega)];exact hS.sp)|(rw [if_neg (by omega)];exact hS.sp)⟩)
 rintro ρ w1 ⟨hA,hρ,hS⟩;obtain ⟨ρ,rfl⟩:=env2 hA hρ
 refine ZaI ?_
 refine zo [1,2,3] (fun A ρ' w'=>∃(f:Nat) (h:Flt) (a:Int),Has ρ' A∧Has ρ' [(4, .int .i64 f)]∧(f≤m.funcs.length)∧(m.fault=orF h (Q18 m.funcs.length f (m.funcs.drop f)))∧St cx w' (jdg p9 vf h a::blk p2 29 [.int .i64 0, .int .i64 0]::blk p1 24 [vf]::L)) (fun ρ' _=>(m.funcs.length - iv (ρ' 4)).toNat) ?_ ?_
 · exact ⟨0,_,_,zh,zh,(by omega),by rw [List.drop_zero];rfl,hS.sp⟩
 rintro ρ w1 ⟨f,h,a,hA,hρ,hj,hd,hS⟩;obtain ⟨ρ,rfl⟩:=env2 hA hρ
 refine ZaN ?_;refine zL ?_;first|(refine Q1f ?_)|(refine Q1g ?_)|(refine Qr rfl rfl (fun hc=>?_) (fun hc=>?_))
 all_goals (refine Zbb ?_;refine Yam ?_;refine Zcl ?_;first|refine zgn ?_|(refine zgy ?_;(first|(refine Qp ?_)|(refine Qu ?_)|(refine Q7 rfl rfl (fun hc=>?_) (fun hc=>?_)))))
 all_goals (refine ZaK ?_)
 all_goals
  first
  | (refine zct ?_
     refine ZbZ ?_;intro b1 o1 cs1 x1 hat1 hx1 he1;obtain ⟨vp1,vr1,vb1,rfl,hp1,hr1,hb1⟩:=Qo he1;refine ZaC ?_;intro p5 w1 hS;refine zsn hS ?_;intro w1 hS;have hS:=hS.ns;refine zn ?_;have hsx:=hsf x1 (List.mem_of_getElem? hx1);have hlb:=hsx.2.2.1;have hlp:=hp1.len;have hlr:=hr1.len;refine ZaG ?_;refine zR1 (c:=Qdd f (by omega) hS) (h:=?_);rintro v1 w1 ⟨rfl,hS⟩;refine ZaL ?_;refine zst hS ?_;intro w1 hS;have hS:=hS.ns;refine zn ?_
     refine zM [1,2,3,4,5] (fun A ρ' w'=>Has ρ' A∧Has ρ' []∧St cx w' (blk p5 95 [.int .i64 x1.regs,vp1,vr1,vb1]::jdg p9 vf (orF h (mkF (if x1.regs<0∨6<x1.regs then 1 else 0) (Q2g f))) (Q2g f)::blk p2 29 [.int .i64 0, .int .i64 0]::blk p1 24 [vf]::L)) ?_ ?_
     · skip
       have hS:St cx _ (blk p5 95 [.int .i64 x1.regs,vp1,vr1,vb1]::jdg p9 vf h (Q2g f)::blk p2 29 [.int .i64 0, .int .i64 0]::blk p1 24 [vf]::L):=hS;refine ZbH ?_;first|(refine Q1f ?_)|(refine Q1g ?_)|(refine Qr rfl rfl (fun hc=>?_) (fun hc=>?_))
       all_goals (refine Zav ?_;first|refine zgn ?_|(refine zgy ?_;(first|(refine QL ?_)|(refine QO ?_)|(refine Qd rfl rfl (fun hc=>?_) (fun hc=>?_)))))
       all_goals (refine Yad ?_;refine zR3 (c:=Q1L (g:=_) (by intro _;decide) hS fd) (h:=?_);rintro v1 w1 ⟨rfl,hS⟩;simp only [List.set_cons_zero,List.set_cons_succ,if_true,Bool.false_eq_true,if_false] at hS;refine zn ?_;exact ⟨zh,zh,by first|(rw [if_pos (by omega)];exact hS.sp)|(rw [if_neg (by omega)];exact hS.sp)⟩)
     rintro ρ w1 ⟨hA,hρ,hS⟩;obtain ⟨ρ,rfl⟩:=env2 hA hρ
     refine Zae ?_;refine Zad ?_;refine Zad ?_;refine zR3 (c:=Qak hp1 hS fd) (h:=?_);rintro v1 w1 ⟨rfl,hS⟩;have hS:=hS.ns;refine ZbM ?_;refine Zad ?_;refine Zad ?_;refine zR3 (c:=Qak hr1 hS fd) (h:=?_);rintro v1 w1 ⟨rfl,hS⟩;have hS:=hS.ns;refine zn ?_
     refine zM [1,2,3,4,5] (fun A ρ' w'=>Has ρ' A∧Has ρ' []∧St cx w' (blk p5 95 [.int .i64 x1.regs,vp1,vr1,vb1]::jdg p9 vf (orF (orF (orF (orF h (mkF (if x1.regs<0∨6<x1.regs then 1 else 0) (Q2g f))) (mkF (Qg x1.params x1.regs) (Q2g f))) (mkF (Qg x1.results x1.regs) (Q2g f))) (mkF (if x1.blocks.length<1∨12<x1.blocks.length then 2 else 0) (Q2g f))) (Q2g f)::blk p2 29 [.int .i64 0, .int .i64 0]::blk p1 24 [vf]::L)) ?_ ?_
     · skip
       refine ZbH ?_;refine zL ?_;first|(refine Qp ?_)|(refine Qu ?_)|(refine Q7 rfl rfl (fun hc=>?_) (fun hc=>?_))
       all_goals (refine ZbI ?_;first|refine zgn ?_|(refine zgy ?_;(first|(refine QL ?_)|(refine QO ?_)|(refine Qd rfl rfl (fun hc=>?_) (fun hc=>?_)))))
       all_goals (refine Yad ?_;refine zR3 (c:=Q1L (g:=_) (by intro _;decide) hS fd) (h:=?_);rintro v1 w1 ⟨rfl,hS⟩;simp only [List.set_cons_zero,List.set_cons_succ,if_true,Bool.false_eq_true,if_false] at hS;refine zn ?_;exact ⟨zh,zh,by first|(rw [if_pos (c:=x1.blocks.length<1∨12<x1.blocks.length) (by omega)];exact hS.sp)|(rw [if_neg (c:=x1.blocks.length<1∨12<x1.blocks.length) (by omega)];exact hS.sp)⟩)
     rintro ρ w1 ⟨hA,hρ,hS⟩;obtain ⟨ρ,rfl⟩:=env2 hA hρ
     refine zM [1,2,3,4,5] (fun A ρ' w'=>Has ρ' A∧Has ρ' []∧St cx w' (blk p5 95 [.int .i64 x1.regs,vp1,vr1,vb1]::jdg p9 vf (orF h (mkF (Qs f x1) (Q2g f))) (Q2g f)::blk p2 29 [.int .i64 0, .int .i64 0]::blk p1 24 [vf]::L)) ?_ ?_
     · skip
       refine Q1z ?_
       refine zKL hS 19 [1,2,3,4,5] (fun A LL ρ' w'=>∃(q:Bool),Has ρ' A∧Has ρ' [(81, .pointer (some ⟨p9,0,none⟩)),(99, .bool q)]∧(q=true↔(f=0∧(0<x1.regs∨0<x1.params.length∨∃t∈x1.results,t.kind≠1)))∧St cx w' (LL)) ?_ ?_
       · skip
         refine ZbV ?_;first|(refine Qp ?_)|(refine Qu ?_)|(refine Q7 rfl rfl (fun hc=>?_) (fun hc=>?_))
         all_goals (refine Zav ?_;first|refine zgn ?_|(refine zgy ?_;(first|(refine QL ?_)|(refine QO ?_)|(refine Qd rfl rfl (fun hc=>?_) (fun hc=>?_)))))
         all_goals (refine Zbw ?_;refine Yai ?_;first|refine zgn ?_|(refine zgy ?_;(first|(refine QL ?_)|(refine QO ?_)|(refine Qd rfl rfl (fun hc=>?_) (fun hc=>?_)))))
         all_goals (refine Yaj ?_;refine Zbw ?_;(first|(refine zgn ?_)|(refine zgy ?_;refine zR2 (c:=pcont_c hr1 hS) (h:=?_);rintro v1 w1 ⟨qc,rfl,hqc,hS⟩;cases qc)))
         all_goals (refine ZbU ?_;first|(exact ⟨_,zh,zh,by exact ⟨fun _=>⟨by omega, .inl (by omega)⟩,fun _=>rfl⟩,hS.sp⟩)|(exact ⟨_,zh,zh,by exact ⟨fun _=>⟨by omega, .inr (.inl (by omega))⟩,fun _=>rfl⟩,hS.sp⟩)|(exact ⟨_,zh,zh,by exact ⟨fun _=>⟨by omega, .inr (.inr (hqc.1 rfl))⟩,fun _=>rfl⟩,hS.sp⟩)|(exact ⟨_,zh,zh,by exact ⟨fun h=>Bool.noConfusion h,fun h=>absurd h.1 (by omega)⟩,hS.sp⟩)|(exact ⟨_,zh,zh,by exact ⟨fun h=>Bool.noConfusion h,fun h=>h.2.elim (fun h=>by omega) (fun h=>h.elim (fun h=>by omega) (fun h=>Bool.noConfusion (hqc.2 h)))⟩,hS.sp⟩))
       rintro ρ w1 ⟨q,hA,hρ,hq,hS⟩;obtain ⟨ρ,rfl⟩:=env2 hA hρ
       refine zR3 (c:=Q1L (g:=_) (by intro _;decide) hS fd) (h:=?_);rintro v1 w1 ⟨rfl,hS⟩;simp only [List.set_cons_zero,List.set_cons_succ,if_true,Bool.false_eq_true,if_false] at hS;refine zn ?_;(exact ⟨zh,zh,by rw [←QdC hq];exact hS.sp⟩)
     rintro ρ w1 ⟨hA,hρ,hS⟩;obtain ⟨ρ,rfl⟩:=env2 hA hρ
     refine Zay ?_
     refine zo [1,2,3,4,5] (fun A ρ' w'=>∃(b:Nat) (h2:Flt) (a2:Int),Has ρ' A∧Has ρ' [(6, .int .i64 b)]∧(b≤x1.blocks.length)∧(orF (orF h (mkF (Qs f x1) (Q2g f))) (QE m.funcs.length f x1 0 x1.blocks)=orF h2 (QE m.funcs.length f x1 b (x1.blocks.drop b)))∧St cx w' (blk p5 95 [.int .i64 x1.regs,vp1,vr1,vb1]::jdg p9 vf h2 a2::blk p2 29 [.int .i64 0, .int .i64 0]::blk p1 24 [vf]::L)) (fun ρ' _=>(x1.blocks.length - iv (ρ' 6)).toNat) ?_ ?_
     · exact ⟨0,_,_,zh,zh,(by omega),by rw [List.drop_zero],hS.sp⟩
     rintro ρ w1 ⟨b,h2,a2,hA,hρ,hb,hd2,hS⟩;obtain ⟨ρ,rfl⟩:=env2 hA hρ
     refine ZaN ?_;refine zL ?_;first|(refine Q1f ?_)|(refine Q1g ?_)|(refine Qr rfl rfl (fun hc=>?_) (fun hc=>?_))
     all_goals (refine Zbb ?_;refine Yam ?_;refine Zcl ?_;first|refine zgn ?_|(refine zgy ?_;(first|(refine Qp ?_)|(refine Qu ?_)|(refine Q7 rfl rfl (fun hc=>?_) (fun hc=>?_)))))
     all_goals (refine ZaK ?_)
     all_goals
      first
      | (refine zct ?_
         refine Zar ?_;obtain ⟨y,hy⟩:∃y,x1.blocks[b]?=some y:=⟨_,List.getElem?_eq_getElem (by omega)⟩;have hsy:=hsx.2.2.2 y (List.mem_of_getElem? hy);refine Zbc ?_;refine zm ?_;refine zR3 (c:=pblock_c hx1 hy (by omega) (by omega) hsy.2.1 hf hS fd) (h:=?_);rintro v1 w1 ⟨rfl,a3,hS⟩;have hS:=hS.ns;refine Zcj ?_
         (exact ⟨⟨b+1,_,_,zh,zh,(by omega),by rw [hd2,Q1 hy,QE,Q2I],hS.sp⟩,Q4 (by omega)⟩))
      | (refine zcf ?_
         all_goals (refine zex ?_;(first|(rw [List.drop_of_length_le (by omega),QE,QbV (b:=(0,0)) rfl] at hd2)|(rw [Q31 (a:=h2) (by assumption)] at hd2));refine Zax ?_)
         all_goals (exact ⟨⟨f+1,h2,a2,zh,zh,(by omega),by rw [hd,Q1 hx1,Q18,←Q2I,show orF h (Q1B m.funcs.length f x1)=h2 from (by unfold Q1B;rw [←Q2I,hd2])],hS.sp⟩,Q4 (by omega)⟩)))
  | (refine zcf ?_
     all_goals (refine zex ?_;(first|(rw [List.drop_of_length_le (by omega),Q18,QbV (b:=(0,0)) rfl] at hd)|(rw [Q31 (a:=h) (by assumption)] at hd));refine Zae ?_;refine ZaL ?_;refine zv hS ?_;refine zsn hS ?_;intro w1 hS;have hS:=hS.ns;refine ZaY ?_;refine QK vw (Q3 (n:=2) (by kernel_rfl) (by kernel_rfl) (hS.blkAt fd) (by rfl) (by rfl)) ?_)
     all_goals (refine ⟨_,rfl,?_,hS.sp⟩;rw [hd];rfl;done))
end Go.Proofs.YteflkifmgnpbhaaGreat
namespace Go.Proofs.YteflkifmgnpbhaaGreat
open Go.Lir
set_option maxHeartbeats 1000000
attribute [local irreducible] LC.wp Q0 QB QH retQ Q1k LO.wp Qh Calls
set_option linter.unusedSimpArgs false
set_option linter.unusedVariables false
attribute [local irreducible] hasB Q1o Q1c Q1e
section
variable {P:Program}{l:List GO}{Q:QT}{ρ:Env}
variable {cx:Cx}{w:World}{L:List Res}
structure JP where
 sp:Nat
 hp:Nat
 f:Fun
 vm:Value
 vp:Value
 vr:Value
 vb:Value
structure JP.Fits (j:JP) (cx:Cx) (m:Module):Prop where
 m:funcR.sl cx j.vm m.funcs
 p:tyR.sl cx j.vp j.f.params
 r:tyR.sl cx j.vr j.f.results
 b:blockR.sl cx j.vb j.f.blocks
theorem JP.Fits.up {j:JP}{cx cx':Cx}{m:Module}(h:j.Fits cx m) (hle:cx.Le cx'):j.Fits cx' m:=⟨h.m.up hle,h.p.up hle,h.r.up hle,h.b.up hle⟩
@[reducible] def JP.cells (j:JP) (vl:Value):List Value:=[.pointer (some ⟨j.hp,0,none⟩),j.vm, .int .i64 j.f.regs,j.vp,j.vr,j.vb,vl]
def JP.res (j:JP) (h:List Bool) (vl:Value) (css:List (List Value)):Res:=star (blk j.sp 258 (j.cells vl)) (star (Q8s j.hp h) (sl 115 3 vl css))
variable {j:JP}{h:List Bool}{vl:Value}{css:List (List Value)}
theorem JP.opn {i:Nat}(hS:St cx w L) (hi:nth L i=some (j.res h vl css)):St cx w (blk j.sp 258 (j.cells vl)::Q8s j.hp h::sl 115 3 vl css::L.eraseIdx i):=by
 have h1:=(hS.out hi).star
 exact (St.star (h1.mv1)).mv2
theorem JP.cls {i:Nat}{h':List Bool}{vl':Value}{css':List (List Value)}(hi:nth L i=some (j.res h vl css)) (hS:St cx w (blk j.sp 258 (j.cells vl')::Q8s j.hp h'::sl 115 3 vl' css'::L.eraseIdx i)):St cx w (L.set i (j.res h' vl' css')):=by
 have h1:St cx w (star (Q8s j.hp h') (sl 115 3 vl' css')::blk j.sp 258 (j.cells vl')::L.eraseIdx i):=St.star' (hS.mv2.mv2)
 exact St.back (St.star' h1.mv1) hi
theorem JP.cls0 {i:Nat}(hi:nth L i=some (j.res h vl css)) (hS:St cx w (blk j.sp 258 (j.cells vl)::Q8s j.hp h::sl 115 3 vl css::L.eraseIdx i)):St cx w L:=by
 have h1:St cx w (star (Q8s j.hp h) (sl 115 3 vl css)::blk j.sp 258 (j.cells vl)::L.eraseIdx i):=St.star' (hS.mv2.mv2)
 exact St.back0 (St.star' h1.mv1) hi
theorem Q1T {d i o:Nat}{x:Operand}{u:Value}(hS:St cx w L) (hx:ρ.ev x= .pointer (some ⟨j.sp,o,none⟩)) (hi:nth L i=some (j.res h vl css)) (hu:(j.cells vl)[o]?=some u) (h:Q0 P l Q (upd ρ d u) w):Q0 P (⟨none, .load1 d x⟩::l) Q ρ w:=
 Q5i (JP.opn hS hi) hx nth0 hu h
theorem Q6c {d n i o:Nat}{x:Operand}{us:List Value}(hS:St cx w L) (hx:ρ.ev x= .pointer (some ⟨j.sp,o,none⟩)) (hi:nth L i=some (j.res h vl css)) (hu:((j.cells vl).drop o).take n=us) (hl:us.length=n) (h:Q0 P l Q (upd ρ d (.agg ⟨us⟩)) w):Q0 P (⟨none, .loadn d n x⟩::l) Q ρ w:=
 QaX (JP.opn hS hi) hx nth0 hu hl h
theorem Q19 {d i o:Nat}{x:Operand}{u:Value}(hS:St cx w L) (hx:ρ.ev x= .pointer (some ⟨j.sp,o,none⟩)) (hi:nth L i=some (j.res h vl css)) (hu:(j.cells vl)[o]?=some u):gqv P ρ w ⟨none, .load1 d x⟩ u:=Q16 (JP.opn hS hi) hx nth0 hu
theorem Q7K {d i n:Nat}{x:Operand}(hS:St cx w L) (hi:nth L i=some (j.res h vl css)) (hx:ρ.ev x=vl) (hn:css.length=n) (h:Q0 P l Q (upd ρ d (.int .i64 n)) w):Q0 P (⟨none, .len d x⟩::l) Q ρ w:=
 QZ (JP.opn hS hi) hx nth2 hn h
end
variable {cx:Cx}{w:World}{L:List Res}{j:JP}{h:List Bool}{vl:Value}{css:List (List Value)}{i:Nat}{m:Module}
theorem jhas_c {r:Int}(hS:St cx w L) (hi:nth L i=some (j.res h vl css)):Rets Tryz.prog Q4Z [.pointer (some ⟨j.hp,0,none⟩), .int .i64 r] w fun u w'=>u= .bool (hasB h r)∧St cx w' L:=by
 obtain ⟨v,h2⟩:=Q37 (JP.opn hS hi).mv1
 refine (has_u h2).mono ?_
 rintro u w' ⟨h3,h4⟩
 exact ⟨h3,JP.cls0 hi (Q2Q h4).mv1⟩
theorem jlen_c (hS:St cx w L) (hi:nth L i=some (j.res h vl css)):Rets Tryz.prog Q4Y [.pointer (some ⟨j.hp,0,none⟩)] w fun u w'=>u= .int .i64 h.length∧St cx w' L:=by
 obtain ⟨v,h2⟩:=Q37 (JP.opn hS hi).mv1
 refine (len_u h2).mono ?_
 rintro u w' ⟨h3,h4⟩
 exact ⟨h3,JP.cls0 hi (Q2Q h4).mv1⟩
theorem jlist_c (hl:h.length≤16) (hS:St cx w L) (hi:nth L i=some (j.res h vl css)):Rets Tryz.prog Q4x [.pointer (some ⟨j.hp,0,none⟩)] w fun u w'=>∃c',cx.Le c'∧intR.sl c' u (Q1o h)∧St c' w' L:=by
 obtain ⟨v,h2⟩:=Q37 (JP.opn hS hi).mv1
 refine (list_u hl h2).mono ?_
 rintro u w' ⟨c',h3,h5,h4⟩
 exact ⟨c',h3,h5,JP.cls0 hi (Q2Q h4).mv1⟩
theorem jopen_c (hl:h.length<16) (hS:St cx w L) (hi:nth L i=some (j.res h vl css)):Rets Tryz.prog Q4w [.pointer (some ⟨j.hp,0,none⟩)] w fun u w'=>u= .int .i64 h.length∧St cx w' (L.set i (j.res (h++[true]) vl css)):=by
 obtain ⟨v,h2⟩:=Q37 (JP.opn hS hi).mv1
 refine (open_u hl h2).mono ?_
 rintro u w' ⟨h3,v',h4⟩
 exact ⟨h3,JP.cls hi (Q2Q h4).mv1⟩
theorem jshut_c {r:Int}(hr:hasB h r=true) (hS:St cx w L) (hi:nth L i=some (j.res h vl css)):Rets Tryz.prog Q4u [.pointer (some ⟨j.hp,0,none⟩), .int .i64 r] w fun u w'=>u= .bool true∧St cx w' (L.set i (j.res (h.set r.toNat false) vl css)):=by
 obtain ⟨v,h2⟩:=Q37 (JP.opn hS hi).mv1
 refine (shut_u hr h2).mono ?_
 rintro u w' ⟨h3,h4⟩
 exact ⟨h3,JP.cls hi (Q2Q h4).mv1⟩
theorem jpass_c {v2:Value}{xs:List Int}(hl:h.length≤16) (hx:intR.sl cx v2 xs) (hS:St cx w L) (hi:nth L i=some (j.res h vl css)):Rets Tryz.prog Q4v [.pointer (some ⟨j.hp,0,none⟩),v2] w fun u w'=>u= .int .i64 (Q1c h [] xs)∧St cx w' L:=by
 obtain ⟨v,h2⟩:=Q37 (JP.opn hS hi).mv1
 refine (pass_u hl hx h2).mono ?_
 rintro u w' ⟨h3,c',h5,h4⟩
 exact ⟨h3,St.weak (JP.cls0 hi (Q2Q h4).mv1) h5⟩

@[reducible] def Q51 (c:Int):Value:= .iface 297 (.int .i64 c)
theorem Q1X {c:Int}(hS:St cx w L):Rets Tryz.prog Q5u [.bool false, .int .i64 c] w fun u w'=>u= .tuple #[]∧St cx w' L:=by
 refine lgo tyD Tryz.func240 ?_;refine Zaf ?_;refine Zcr ?_;refine Q17 ?_;exact ⟨_,rfl,rfl,hS.sp⟩
theorem Q1W {c:Int}(hS:St cx w L):Fins Tryz.prog Q5u [.bool true, .int .i64 c] w (fun _ _=>False) (fun u w'=>u=Q51 c∧St cx w' L):=by
 unfold Fins
 refine lgo tyD Tryz.func240 ?_;refine Zaf ?_;refine zct ?_;refine Zag ?_;refine zki ?_;refine s_panic rfl ?_;(repeat (first|refine Qj ?_|refine Ql ?_));refine QF ?_;exact .inr ⟨_,rfl,rfl,hS.sp⟩
theorem Q2O {b:Bool}{c:Int}(hS:St cx w L):Fins Tryz.prog Q5u [.bool b, .int .i64 c] w (fun u w'=>u= .tuple #[]∧b=false∧St cx w' L) (fun u w'=>u=Q51 c∧b=true∧St cx w' L):=by
 cases b with
 | false=>exact ((Q1X hS).mono fun u w' h=>(⟨h.1,rfl,h.2⟩:u= .tuple #[]∧false=false∧St cx w' L)).ends
 | true=>exact (Q1W hS).mono (fun _ _ h=>h.elim) (fun _ _ h=>⟨h.1,rfl,h.2⟩)
theorem Q4f {s:JS}{k:Int}(hls:tyR.ls cx css s.l) (hS:St cx w L) (hi:nth L i=some (j.res h vl css)):Fins Tryz.prog Q5v [.pointer (some ⟨j.sp,0,none⟩), .int .i64 k] w
 (fun u w'=>∃t cs,jval s k= .ok t∧u= .agg ⟨cs⟩∧tyR.at cx cs t∧St cx w' L) (fun u w'=>∃c,jval s k= .error c∧u=Q51 c∧St cx w' L):=by
 have hlc:=hls.1
 have hS:=JP.opn hS hi
 unfold Fins
 refine lgo tyD Tryz.func247 ?_;refine Zbz ?_;intro p4 w1 hS;refine ZbM ?_;first|(refine Q1f ?_)|(refine Q1g ?_)|(refine Qr rfl rfl (fun hc=>?_) (fun hc=>?_))
 all_goals (refine Zbb ?_;refine Zcb ?_;refine Zak ?_;(first|refine zgn ?_|(refine zgy ?_;refine QZ hS vw fd hlc ?_));first|refine zgn ?_|(refine zgy ?_;(first|(refine Q2b ?_)|(refine Q2c ?_)|(refine Q1a rfl rfl (fun hc=>?_) (fun hc=>?_)))))
 all_goals (refine Yad ?_;first|(refine zR2 (c:=Q1X hS) (h:=?_);rintro v1 w1 ⟨rfl,hS⟩)|(refine zE2 (c:=Q1W hS) (p:=by rintro v9 w9 ⟨rfl,hS⟩;(repeat (first|refine Qj ?_|refine Ql ?_|refine fun _=>?_));refine QF ?_;refine .inr ⟨_,rfl,?_⟩;first|(exact ⟨_,Q3R (by omega),rfl,(JP.cls0 hi hS.sp)⟩)) (h:=fun _ _ h=>h.elim)))
 refine Zbe ?_;obtain ⟨t,ht⟩:∃t,s.l[k.toNat]?=some t:=⟨_,List.getElem?_eq_getElem (by omega)⟩;obtain ⟨d,hd,hrd⟩:=hls.2 _ _ ht;obtain ⟨vd,rfl,hld⟩:=Q9 hrd;refine Zag ?_;refine Zbj ?_;refine zm ?_;(first|(refine Yao ?_;intro b1 o1 cs1 x1 hat1 hx1 he1;obtain ⟨vl1,rfl,hl1⟩:=Q9 he1)|(refine zie hS ?_;intro b1 o1 hel1)|(refine zij hS ?_;intro b1 o1 hel1));refine Q3i hS hel1 rfl fd rfl hd ?_;refine zsn hS ?_;intro w1 hS;have hS:=hS.ns;refine ZaY ?_;refine QK vw (Q3 (n:=3) (by kernel_rfl) (by kernel_rfl) (hS.blkAt fd) (by rfl) (by rfl)) ?_;(exact .inl ⟨_,rfl,t,_,Q2W (by omega) ht,rfl,hrd,(JP.cls0 hi hS.sp)⟩)
theorem Q3p {s:JS}{k kd:Int}(hls:tyR.ls cx css s.l) (hS:St cx w L) (hi:nth L i=some (j.res h vl css)):Fins Tryz.prog Q64 [.pointer (some ⟨j.sp,0,none⟩), .int .i64 k, .int .i64 kd] w
 (fun u w'=>∃t cs,jkind s k kd= .ok t∧u= .agg ⟨cs⟩∧tyR.at cx cs t∧St cx w' L) (fun u w'=>∃c,jkind s k kd= .error c∧u=Q51 c∧St cx w' L):=by
 have hS:=hS.out hi
 unfold Fins jkind
 refine lgo tyD Tryz.func239 ?_;refine Zbz ?_;intro p6 w1 hS;refine zn ?_;refine ZaG ?_;refine zE2 (c:=Q4f hls hS fd) (p:=by rintro v9 w9 ⟨c,h1,rfl,hS⟩;(repeat (first|refine Qj ?_|refine Ql ?_|refine fun _=>?_));refine QF ?_;refine .inr ⟨_,rfl,?_⟩;exact ⟨_,Qf h1,rfl,(St.back0 hS.sp hi)⟩) (h:=?_);rintro v1 w1 ⟨t,cs,h1,rfl,hrd,hS⟩;have hrd':=hrd;obtain ⟨vd,rfl,hld⟩:=Q9 hrd;refine Qb hS ?_;intro p7 w1 hS;refine zsn hS ?_;intro w1 hS;have hS:=hS.ns;refine ZbP ?_;refine zm ?_;first|(refine Qy ?_)|(refine Qz ?_)|(refine Qa rfl rfl (fun hc=>?_) (fun hc=>?_))
 all_goals (first|(refine zR2 (c:=Q1X hS) (h:=?_);rintro v1 w1 ⟨rfl,hS⟩)|(refine zE2 (c:=Q1W hS) (p:=by rintro v9 w9 ⟨rfl,hS⟩;(repeat (first|refine Qj ?_|refine Ql ?_|refine fun _=>?_));refine QF ?_;refine .inr ⟨_,rfl,?_⟩;first|(exact ⟨_,(Q2 h1).trans (if_pos (by omega)),rfl,(St.back0 hS.sp hi)⟩)) (h:=fun _ _ h=>h.elim)))
 refine ZbY ?_;refine zsn hS ?_;intro w1 hS;have hS:=hS.ns;refine ZaY ?_;refine QK vw (Q3 (n:=3) (by kernel_rfl) (by kernel_rfl) (hS.blkAt fd) (by rfl) (by rfl)) ?_;(exact .inl ⟨_,rfl,t,_,(Q2 h1).trans (if_neg (by omega)),rfl,hrd',(St.back0 hS.sp hi)⟩)
theorem Q7y {s:JS}{k kd:Int}(hls:tyR.ls cx css s.l) (hS:St cx w L) (hi:nth L i=some (j.res s.h vl css)):Fins Tryz.prog Q7x [.pointer (some ⟨j.sp,0,none⟩), .int .i64 k, .int .i64 kd] w
 (fun u w'=>∃t cs,jat s k kd= .ok t∧u= .agg ⟨cs⟩∧tyR.at cx cs t∧St cx w' L) (fun u w'=>∃c,jat s k kd= .error c∧u=Q51 c∧St cx w' L):=by
 have hS:=hS.out hi
 unfold Fins jat
 refine lgo tyD Tryz.func243 ?_;refine Zbz ?_;intro p6 w1 hS;refine zn ?_;refine ZaG ?_;refine zm ?_;refine zE3 (c:=Q3p hls hS fd) (p:=by rintro v9 w9 ⟨c,h1,rfl,hS⟩;(repeat (first|refine Qj ?_|refine Ql ?_|refine fun _=>?_));refine QF ?_;refine .inr ⟨_,rfl,?_⟩;exact ⟨_,Qf h1,rfl,(St.back0 hS.sp hi)⟩) (h:=?_);rintro v1 w1 ⟨t,cs,h1,rfl,hrd,hS⟩;have hrd':=hrd;obtain ⟨vd,rfl,hld⟩:=Q9 hrd;refine Qb hS ?_;intro p7 w1 hS;refine zsn hS ?_;intro w1 hS;have hS:=hS.ns;refine Zbe ?_;refine zD (ci 9 [6,8]) ?_;have hS:=hS.drew;refine zm ?_;refine ZbS ?_;refine ZaU ?_;refine zR2 (c:=jhas_c hS fd) (h:=?_);rintro v1 w1 ⟨rfl,hS⟩;refine znt ?_;(first|(refine zR2 (c:=Q1X hS) (h:=?_);rintro v1 w1 ⟨rfl,hS⟩)|(refine zE2 (c:=Q1W hS) (p:=by rintro v9 w9 ⟨rfl,hS⟩;(repeat (refine Qj ?_));refine QF ?_;refine .inr ⟨_,rfl,?_⟩;first|(exact ⟨_,(Q2 h1).trans (if_pos (by simpa using hb)),rfl,(St.back0 hS.sp hi)⟩)) (h:=fun _ _ h=>h.elim))|(refine zE2 (c:=Q2O hS) (p:=by rintro v9 w9 ⟨rfl,hb,hS⟩;(repeat (first|refine Qj ?_|refine Ql ?_|refine fun _=>?_));refine QF ?_;refine .inr ⟨_,rfl,?_⟩;first|(exact ⟨_,(Q2 h1).trans (if_pos (by simpa using hb)),rfl,(St.back0 hS.sp hi)⟩)) (h:=?_);rintro v1 w1 ⟨rfl,hb,hS⟩));refine ZbY ?_;refine zsn hS ?_;intro w1 hS;have hS:=hS.ns;refine ZaY ?_;refine QK vw (Q3 (n:=3) (by kernel_rfl) (by kernel_rfl) (hS.blkAt fd) (by rfl) (by rfl)) ?_;(exact .inl ⟨_,rfl,t,_,(Q2 h1).trans (if_neg (by simpa using hb)),rfl,hrd',(St.back0 hS.sp hi)⟩)
end Go.Proofs.YteflkifmgnpbhaaGreat
namespace Go.Proofs.YteflkifmgnpbhaaGreat
open Go.Lir
set_option maxHeartbeats 1000000
attribute [local irreducible] LC.wp Q0 QB QH retQ Q1k LO.wp Qh Calls
set_option linter.unusedSimpArgs false
set_option linter.unusedVariables false
attribute [local irreducible] hasB Q1o Q1c Q1e
variable {cx:Cx}{w:World}{L:List Res}{j:JP}{h:List Bool}{vl:Value}{css:List (List Value)}{i:Nat}{m:Module}
theorem Q4W {s:JS}{t:Ty}{cs:List Value}(hn:s.l.length≤100000) (ht:tyR.at cx cs t) (hls:tyR.ls cx css s.l) (hS:St cx w L) (hi:nth L i=some (j.res h vl css)):Fins Tryz.prog Q6P [.pointer (some ⟨j.sp,0,none⟩), .agg ⟨cs⟩] w
 (fun u w'=>u= .tuple #[]∧s.l.length≠80∧∃vl' css',tyR.ls cx css' (s.l++[t])∧St cx w' (L.set i (j.res h vl' css'))) (fun u w'=>u=Q51 2∧s.l.length=80∧St cx w' L):=by
 have hlc:=hls.1
 have hS:=JP.opn hS hi
 have ht':=ht
 obtain ⟨vd,rfl,hld⟩:=Q9 ht
 have hz:tyR.at cx [.int .i64 0, .int .i64 0, .slice none 0 0] (.mk 0 0 []):=Q1d (Rep.SR.nil _ _ _)
 unfold Fins
 refine lgo tyD Tryz.func238 ?_;refine Zaw ?_;intro p3 w1 hS;refine ZbM ?_;refine Zbj ?_;refine QZ hS vw fd hlc ?_;first|(refine Qp ?_)|(refine Qu ?_)|(refine Q7 rfl rfl (fun hc=>?_) (fun hc=>?_))
 all_goals (first|(refine zR2 (c:=Q1X hS) (h:=?_);rintro v1 w1 ⟨rfl,hS⟩)|(refine zE2 (c:=Q1W hS) (p:=by rintro v9 w9 ⟨rfl,hS⟩;(repeat (first|refine Qj ?_|refine Ql ?_|refine fun _=>?_));refine QF ?_;refine .inr ⟨_,rfl,?_⟩;first|(exact ⟨rfl,by omega,(JP.cls0 hi hS.sp)⟩)) (h:=fun _ _ h=>h.elim)))
 refine zn ?_
 refine Q1F 9 12 (by kernel_rfl) ?_ ?_
 · skip
   refine zC [(0,none),(1,none),(2,none),(3,none),(4,none),(5,none),(6,some (some [3,4])),(7,some none),(8,none),(10,none),(11,none),(9,some (some [])),(12,some none)] ?_;have hS:=hS.drew;refine Zcs ?_;refine Zcc ?_;refine zv hS ?_;refine Zac ?_;refine QZ hS vw fd hlc ?_;refine Zat ?_;refine zB1 hS [_,_,_] ?_;intro b1 w1 hS;refine ZaZ ?_;refine za Q2u Q4k hS ?_;intro vp1 w1 css1 hls1 hv1 hS;have hS:=hS.ns;refine Zac ?_;have hl1:=hls1.1;rw [List.length_append,List.length_cons,List.length_nil] at hl1;obtain ⟨d1,hd1,_⟩:=hls1.2 s.l.length (.mk 0 0 []) (by simp);(first|(refine Yao ?_;intro b1 o1 cs1 x1 hat1 hx1 he1;obtain ⟨vl1,rfl,hl1⟩:=Q9 he1)|(refine zie hS ?_;intro b1 o1 hel1));refine Zac ?_;refine znc ?_;refine Zch ?_;refine Zat ?_;refine Q6w hS hel1 rfl rfl rfl fd rfl hd1 rfl (tyR.one ht') ?_;intro w3 hS;have hS:=hS.ns;refine ZaZ ?_;refine zst hS ?_;intro w1 hS;have hS:=hS.ns;refine ZaA ?_;refine Q17 ?_;have hls2:=Rep.LR.set (i:=s.l.length) hls1 ht';rw [List.set_append_right _ _ (Nat.le_refl _),Nat.sub_self,List.set_cons_zero] at hls2;exact .inl ⟨_,rfl,rfl,by omega,_,_,hls2,(JP.cls hi hS.sp)⟩
 · skip
   refine zC [(0,none),(1,none),(2,none),(3,none),(4,none),(5,none),(6,some (some [3,4])),(7,some none),(8,none),(10,none),(11,none),(12,some (some [])),(9,some (some []))] ?_;have hS:=hS.drew;refine Zcs ?_;refine Zcc ?_;refine zv hS ?_;refine Zac ?_;refine QZ hS vw fd hlc ?_;refine Zat ?_;refine zB1 hS [_,_,_] ?_;intro b1 w1 hS;refine ZaZ ?_;refine za Q2u Q4k hS ?_;intro vp1 w1 css1 hls1 hv1 hS;have hS:=hS.ns;refine Zac ?_;have hl1:=hls1.1;rw [List.length_append,List.length_cons,List.length_nil] at hl1;obtain ⟨d1,hd1,_⟩:=hls1.2 s.l.length (.mk 0 0 []) (by simp);(first|(refine Yao ?_;intro b1 o1 cs1 x1 hat1 hx1 he1;obtain ⟨vl1,rfl,hl1⟩:=Q9 he1)|(refine zie hS ?_;intro b1 o1 hel1));refine Zac ?_;refine znc ?_;refine Zch ?_;refine Zat ?_;refine zst hS ?_;intro w1 hS;have hS:=hS.ns;refine ZaH ?_;refine Q6w hS hel1 rfl rfl rfl fd rfl hd1 rfl (tyR.one ht') ?_;intro w3 hS;have hS:=hS.ns;refine Zaq ?_;refine zcn ?_;refine Q17 ?_;have hls2:=Rep.LR.set (i:=s.l.length) hls1 ht';rw [List.set_append_right _ _ (Nat.le_refl _),Nat.sub_self,List.set_cons_zero] at hls2;exact .inl ⟨_,rfl,rfl,by omega,_,_,hls2,(JP.cls hi hS.sp)⟩
theorem Q6j {t:Ty}{k:Int}{cs:List Value}(hk:0≤k) (ht:tyR.at cx cs t) (hS:St cx w L):Fins Tryz.prog Q5x [.pointer (some ⟨j.sp,0,none⟩), .agg ⟨cs⟩, .int .i64 k] w
 (fun u w'=>∃t' cs',Q27 t k= .ok t'∧u= .agg ⟨cs'⟩∧tyR.at cx cs' t'∧St cx w' L) (fun u w'=>∃c,Q27 t k= .error c∧u=Q51 c∧St cx w' L):=by
 obtain ⟨vd,rfl,hld⟩:=Q9 ht
 unfold Fins Q27
 refine lgo tyD Tryz.func246 ?_;refine Zaw ?_;intro p4 w1 hS;refine Qb hS ?_;intro p6 w1 hS;refine ZbM ?_;refine Zad ?_;refine zL ?_;first|(refine Q2b ?_)|(refine Q2c ?_)|(refine Q1a rfl rfl (fun hc=>?_) (fun hc=>?_))
 all_goals (first|(refine zR2 (c:=Q1X hS) (h:=?_);rintro v1 w1 ⟨rfl,hS⟩)|(refine zE2 (c:=Q1W hS) (p:=by rintro v9 w9 ⟨rfl,hS⟩;(repeat (first|refine Qj ?_|refine Ql ?_|refine fun _=>?_));refine QF ?_;refine .inr ⟨_,rfl,?_⟩;first|(exact ⟨_,by rw [List.getElem?_eq_none (by omega)],rfl,hS.sp⟩)) (h:=fun _ _ h=>h.elim)))
 refine ZbP ?_;refine zm ?_;refine Q7L vw rfl hld rfl hk (by omega) ?_;intro b1 o1 cs1 x1 hat1 hx1 he1;have he1':=he1;obtain ⟨vl1,rfl,hl1⟩:=Q9 he1;refine Yaf ?_;refine zsn hS ?_;intro w1 hS;have hS:=hS.ns;refine ZaY ?_;refine QK vw (Q3 (n:=3) (by kernel_rfl) (by kernel_rfl) (hS.blkAt fd) (by rfl) (by rfl)) ?_;(exact .inl ⟨_,rfl,x1,_,by rw [hx1],rfl,he1',hS.sp⟩)
theorem Qav {s:JS}{l regs:List Int}{want:List Ty}{v1 v2 v3:Value}(hsh:∀t∈want,t.Short) (hls:tyR.ls cx css s.l) (h1:intR.sl cx v1 l) (h2:tyR.sl cx v2 want) (h3:intR.sl cx v3 regs) (hS:St cx w L) (hi:nth L i=some (j.res h vl css)):
 Fins Tryz.prog Q66 [.pointer (some ⟨j.sp,0,none⟩),v1,v2,v3] w
 (fun u w'=>Q3U s l want regs= .ok ()∧u= .tuple #[]∧St cx w' L) (fun u w'=>∃c,Q3U s l want regs= .error c∧u=Q51 c∧St cx w' L):=by
 have hl1:=h1.len
 have hl2:=h2.len
 have hS:=hS.out hi
 have hle:=St.refl hS
 unfold Fins Q3U
 refine lgo tyD Tryz.func250 ?_;refine Zae ?_;refine zL ?_;refine zm ?_;refine zL ?_;first|(refine Qy ?_)|(refine Qz ?_)|(refine Qa rfl rfl (fun hc=>?_) (fun hc=>?_))
 all_goals (first|(refine zR2 (c:=Q1X hS) (h:=?_);rintro v1 w1 ⟨rfl,hS⟩)|(refine zE2 (c:=Q1W hS) (p:=by rintro v9 w9 ⟨rfl,hS⟩;(repeat (first|refine Qj ?_|refine Ql ?_|refine fun _=>?_));refine QF ?_;refine .inr ⟨_,rfl,?_⟩;first|(exact ⟨_,if_pos (by omega),rfl,(St.back0 hS.sp hi)⟩)|(exact ⟨_,by rw [if_neg (by omega),hd];exact Q72 hx1 hx2 g1 hn,rfl,St.weak (St.back0 hS.sp hi) hL0⟩)|(exact ⟨_,by rw [if_neg (by omega),hd];exact Q73 hx1 hx2 g1 hn (by simpa using hb),rfl,St.weak (St.back0 hS.sp hi) hL0⟩)) (h:=fun _ _ h=>h.elim)))
 refine ZbM ?_;refine Zbi ?_
 refine zoL hS [0,2,3,19,20] (fun A LL ρ' w'=>∃(k0:Cx) (q:Nat),Has ρ' A∧Has ρ' [(21, .int .i64 q)]∧(cx.Le k0)∧(q≤l.length)∧(Q1K s regs l want=Q1K s regs (l.drop q) (want.drop q))∧(want.length=l.length)∧St k0 w' (LL)) (fun ρ' _=>(l.length - iv (ρ' 21)).toNat) ?_ ?_
 · exact ⟨cx,0,zh,zh,St.refl hS,(by omega),by rfl,by omega,hS.sp⟩
 rintro ρ w1 ⟨k0,q,hA,hρ,hle2,hq,hd,hw,hS⟩;obtain ⟨ρ,rfl⟩:=env2 hA hρ;have hL0:=hle2;(try have hle:=hle.trans hle2);(try have hls:=hls.up hle2);(try have h1:=h1.up hle2);(try have h2:=h2.up hle2);(try have h3:=h3.up hle2)
 refine ZaV ?_
 refine Q5 rfl (fun hc=>?_) (fun hc=>?_)
 · skip
   refine zsk ?_;refine QJ ?_;refine Q3F ?_;refine QJ ?_;refine Q1z ?_;refine zm ?_;(first|(refine Q11 vw rfl h2 rfl (by omega) ?_);intro b2 o2 cs2 x2 hat2 hx2 he2;have he2':=he2;obtain ⟨vl2,rfl,hl2⟩:=Q9 he2|(refine zi ?_;intro b1 o1 cs1 x1 hat1 hx1 he1;obtain rfl:=Qt he1));refine Yan ?_;refine zm ?_;refine zm ?_;refine zn ?_;refine QJ ?_;refine Q1z ?_;refine zm ?_;refine zm ?_;refine zE2 (c:=Q4f hls hS fd) (p:=by rintro v9 w9 ⟨c,g1,rfl,hS⟩;(repeat (first|refine Qj ?_|refine Ql ?_|refine fun _=>?_));refine QF ?_;refine .inr ⟨_,rfl,?_⟩;exact ⟨_,by rw [if_neg (by omega),hd];exact Q8p hx1 (List.getElem?_eq_getElem (by omega)) g1,rfl,St.weak (St.back0 hS.sp hi) hL0⟩) (h:=?_);rintro v1 w1 ⟨t,cs,g1,rfl,hrd,hS⟩;have hrd':=hrd;obtain ⟨vd,rfl,hld⟩:=Q9 hrd;refine Qb hS ?_;intro p10 w1 hS;refine zsn hS ?_;intro w1 hS;have hS:=hS.ns;refine zn ?_;refine QJ ?_;refine Q1z ?_;refine zm ?_;refine zm ?_;refine Q11 vw rfl h2 rfl (by omega) ?_;intro b2 o2 cs2 x2 hat2 hx2 he2;have he2':=he2;obtain ⟨vl2,rfl,hl2⟩:=Q9 he2;refine Yaf ?_;refine zm ?_;refine zR2 (c:=pren_c x2 (hsh x2 (List.mem_of_getElem? hx2)) he2' h3 hS) (h:=?_);rintro v1 w1 ⟨c3,ds,rfl,hle2,hu3,hS⟩;(try have hle:=hle.trans hle2);(try have hL0:=hL0.trans hle2);(try have hl2:=hl2.up hle2);(try have he2:=he2.up hle2);(try have hls:=hls.up hle2);(try have h1:=h1.up hle2);(try have h2:=h2.up hle2);(try have h3:=h3.up hle2);have hrd':=Rep.R.up hrd' hle2;cases hn:x2.ren regs<;>rw [hn] at hu3<;>simp only [Option.getD_none,Option.getD_some] at hu3<;>(have hu3':=hu3)<;>obtain ⟨vu,rfl,hlu⟩:=Q9 hu3
   all_goals (refine Zct ?_;intro p11 w1 hS;refine zsn hS ?_;intro w1 hS;have hS:=hS.ns;refine Zab ?_;refine Zag ?_;refine znt ?_;refine zm ?_;refine Yaq ?_;refine Yaq ?_;(first|(refine zgn ?_)|(refine zgy ?_;refine zR2 (c:=Q6F _ _ hrd' hu3' hS) (h:=?_);rintro v1 w1 ⟨rfl,hS⟩));refine Yal ?_;refine Yad ?_;first|(refine zR2 (c:=Q1X hS) (h:=?_);rintro v1 w1 ⟨rfl,hS⟩)|(refine zE2 (c:=Q1W hS) (p:=by rintro v9 w9 ⟨rfl,hS⟩;(repeat (first|refine Qj ?_|refine Ql ?_|refine fun _=>?_));refine QF ?_;refine .inr ⟨_,rfl,?_⟩;first|(exact ⟨_,if_pos (by omega),rfl,(St.back0 hS.sp hi)⟩)|(exact ⟨_,by rw [if_neg (by omega),hd];exact Q72 hx1 hx2 g1 hn,rfl,St.weak (St.back0 hS.sp hi) hL0⟩)|(exact ⟨_,by rw [if_neg (by omega),hd];exact Q73 hx1 hx2 g1 hn (by simpa using hb),rfl,St.weak (St.back0 hS.sp hi) hL0⟩)) (h:=fun _ _ h=>h.elim))|(refine zE2 (c:=Q2O hS) (p:=by rintro v9 w9 ⟨rfl,hb,hS⟩;(repeat (first|refine Qj ?_|refine Ql ?_|refine fun _=>?_));refine QF ?_;refine .inr ⟨_,rfl,?_⟩;first|(exact ⟨_,if_pos (by omega),rfl,(St.back0 hS.sp hi)⟩)|(exact ⟨_,by rw [if_neg (by omega),hd];exact Q72 hx1 hx2 g1 hn,rfl,St.weak (St.back0 hS.sp hi) hL0⟩)|(exact ⟨_,by rw [if_neg (by omega),hd];exact Q73 hx1 hx2 g1 hn (by simpa using hb),rfl,St.weak (St.back0 hS.sp hi) hL0⟩)) (h:=?_);rintro v1 w1 ⟨rfl,hb,hS⟩))
   refine ZbO ?_;(exact ⟨⟨_,q+1,zh,zh,hL0,(by omega),by rw [hd,Qdr hx1 hx2 g1 hn (by simpa using hb)],hw,hS.sp⟩,Q4 (by omega)⟩)
 · skip
   refine zex ?_;refine Q17 ?_;exact .inl ⟨_,rfl,(by rw [if_neg (by omega),hd,Qdq (by omega)]),rfl,St.weak (St.back0 hS.sp hi) hL0⟩
theorem iindex_c {s:List Int}{c:Int}{v:Value}(hK:intR.sl cx v s) (hS:St cx w L):Rets Tryz.prog Q2x [v, .int .i64 c] w fun u w'=>∃r:Int,u= .int .i64 r∧(0≤r↔c∈s)∧St cx w' L:=by
 have hlen:=hK.len
 refine lgo tyD Tryz.func89 ?_;refine Zbx ?_;refine Zbi ?_
 refine zoL hS [0,1,7] (fun A LL ρ' w'=>∃(j:Nat),Has ρ' A∧Has ρ' [(8, .int .i64 j)]∧(j≤s.length)∧(c∈s↔c∈s.drop j)∧St cx w' (LL)) (fun ρ' _=>(s.length - iv (ρ' 8)).toNat) ?_ ?_
 · exact ⟨0,zh,zh,(by omega),by simp,hS.sp⟩
 rintro ρ w1 ⟨j,hA,hρ,hj,hd,hS⟩;obtain ⟨ρ,rfl⟩:=env2 hA hρ
 refine ZaV ?_
 refine Q5 rfl (fun hc=>?_) (fun hc=>?_)
 · skip
   refine Zar ?_;refine Zbm ?_;refine ZaG ?_;refine ZaX ?_;intro b1 o1 cs1 x1 hat1 hx1 he1;obtain rfl:=Qt he1;refine Yan ?_;first|(refine Qp ?_)|(refine Qu ?_)|(refine Q7 rfl rfl (fun hc=>?_) (fun hc=>?_))
   all_goals (refine zn ?_)
   all_goals
    first
    | (refine zct ?_
       refine Zbk ?_
       (exact ⟨_,rfl,j,rfl,⟨fun _=>by rw [hd,Q1 hx1,List.mem_cons];exact .inl (by omega),fun _=>by omega⟩,hS.sp⟩))
    | (refine zcf ?_
       refine zsk ?_)
   refine ZaP ?_;(exact ⟨⟨j+1,zh,zh,(by omega),by rw [hd,Q1 hx1,List.mem_cons];exact ⟨fun h=>h.resolve_left (by omega), .inr⟩,hS.sp⟩,Q4 (by omega)⟩)
 · skip
   refine ZbG ?_;first|(exact ⟨_,rfl,j,rfl,⟨fun _=>by rw [hd,Q1 hx1,List.mem_cons];exact .inl (by omega),fun _=>by omega⟩,hS.sp⟩)|(exact ⟨_,rfl, -1,rfl,⟨fun h=>by omega,fun h=>by rw [hd,List.drop_of_length_le (by omega)] at h;cases h⟩,hS.sp⟩)
theorem Qaz {s:List Int}{c:Int}{v:Value}(hK:intR.sl cx v s) (hS:St cx w L):Rets Tryz.prog Q3f [v, .int .i64 c] w fun u w'=>u= .bool (decide (c∈s))∧St cx w' L:=by
 refine lgo tyD Tryz.func262 ?_;refine Zaf ?_;refine ZaG ?_;refine zR2 (c:=iindex_c hK hS) (h:=?_);rintro v1 w1 ⟨r,rfl,hr,hS⟩;first|(refine Q2b ?_)|(refine Q2c ?_)|(refine Q1a rfl rfl (fun hc=>?_) (fun hc=>?_))
 all_goals (refine ZaB ?_;refine ⟨_,rfl,?_,hS.sp⟩;(first|rw [decide_eq_true (hr.1 (by omega))]|rw [decide_eq_false (fun h=>by have:=hr.2 h;omega)]);done)
def JOk (cx:Cx) (L:List Res) (j:JP) (i:Nat) (r:Except Int JS) (u:Value) (w':World):Prop:=u= .tuple #[]∧∃c' s' vl' css',cx.Le c'∧r= .ok s'∧tyR.ls c' css' s'.l∧St c' w' (L.set i (j.res s'.h vl' css'))
def JNo {α:Type}(cx:Cx) (L:List Res) (r:Except Int α) (u:Value) (w':World):Prop:=∃e,r= .error e∧u=Q51 e∧St cx w' L
theorem Qdn {h:List Bool}{p l:List Int}{q:Nat}{x:Int}(hx:l[q]?=some x) (hd:Q1V h [] l=Q1V h (l.take q) (l.drop q)) (hb:hasB h x=false):Q1V h [] l= .error 10:=by
 rw [hd,Q1 hx,Q1V,if_pos hb]
theorem Q8n {h:List Bool}{l:List Int}{q:Nat}{x:Int}(hx:l[q]?=some x) (hd:Q1V h [] l=Q1V h (l.take q) (l.drop q)) (hb:hasB h x=true) (ht:x∈l.take q):Q1V h [] l= .error 13:=by
 rw [hd,Q1 hx,Q1V,if_neg (by rw [hb];decide),if_pos ht]
theorem Qdm {h:List Bool}{l:List Int}{q:Nat}{x:Int}(hx:l[q]?=some x) (hd:Q1V h [] l=Q1V h (l.take q) (l.drop q)) (hb:hasB h x=true) (ht:x∉l.take q):Q1V h [] l=Q1V h (l.take (q+1)) (l.drop (q+1)):=by
 rw [hd,Q1 hx,Q1V,if_neg (by rw [hb];decide),if_neg ht,Qq hx]
theorem Qat {h:List Bool}{l:List Int}{q:Nat}(hd:Q1V h [] l=Q1V h (l.take q) (l.drop q)) (hq:l.length≤q):Q1V h [] l= .ok ():=by
 rw [hd,List.drop_of_length_le hq,Q1V]
theorem jcall_c {s:JS}{x:Ins}{cs:List Value}(hm:m.Short) (hk:0≤x.k∧x.k<m.funcs.length) (hn:s.l.length≤80) (hj:j.Fits cx m) (hx:insR.at cx cs x) (hls:tyR.ls cx css s.l) (hS:St cx w L) (hi:nth L i=some (j.res s.h vl css)):
 Fins Tryz.prog Q65 [.pointer (some ⟨j.sp,0,none⟩), .agg ⟨cs⟩] w (JOk cx L j i (Q67 m s x)) (JNo cx L (Q67 m s x)):=by
 have hS:=hS.out hi
 have hle:=St.refl hS
 obtain ⟨vr,va,rfl,hr,ha⟩:=QG hx
 have hlr:=hr.len
 have hla:=ha.len
 have hm1:=hj.m
 unfold Fins
 refine lgo tyD Tryz.func248 ?_;refine Zaw ?_;intro p3 w1 hS;refine Zbe ?_;refine zC [(0,none),(1,none),(2,none),(3,none),(4,none),(5,none),(6,none),(7,none),(8,none),(9,some (some [4,6,8])),(10,some none)] ?_;have hS:=hS.drew;refine Zcs ?_;refine ZbR ?_;refine Q1T hS rfl fd rfl ?_;refine Zbd ?_;refine Yag ?_;refine Zac ?_;refine Yao ?_;intro b1 o1 cs1 x1 hat1 hx1 he1;obtain ⟨vp1,vr1,vb1,rfl,hp1,hr1,hb1⟩:=Qo he1;refine Zcg ?_;refine ZaO ?_;intro p4 w1 hS;refine zt ?_;refine ⟨List.forall_mem_cons.2 ⟨(by (exact Q19 hS rfl fd rfl)),List.forall_mem_cons.2 ⟨(by first|(exact Q19 hS rfl fd rfl)|(exact Q16 hS rfl fd rfl)),List.forall_mem_cons.2 ⟨(by first|(exact Q19 hS rfl fd rfl)|(exact Q28 hS rfl fd rfl rfl)|(exact Q38 hS (by assumption) rfl rfl rfl)),fun _ h=>(List.not_mem_nil h).elim⟩⟩⟩,?_⟩;refine s_cf ?_;refine zsn hS ?_;intro w1 hS;have hS:=hS.ns;refine ZaA ?_;have ej:Q67 m s x=(if (x.regs.length:Int)≠x1.regs then .error 2 else ebind (Q1V s.h [] x.regs) fun _=>ebind (Q3U s x.args x1.params x.regs) fun _=>if 80<s.l.length+x1.results.length then .error 2 else .ok ⟨s.h,s.l++x1.results.map (renT x.regs)⟩):=by {unfold Q67;rw [hx1]};have hsf:=hm.2 x1 (List.mem_of_getElem? hx1);have hrl:=hr1.len;refine Zaa ?_;refine ZaU ?_;(first|(refine Q7K hS fd vw hls.1 ?_)|(refine zL ?_));refine ZaU ?_;first|(refine Qy ?_)|(refine Qz ?_)|(refine Qa rfl rfl (fun hc=>?_) (fun hc=>?_))
 all_goals (first|(refine zR2 (c:=Q1X hS) (h:=?_);rintro v1 w1 ⟨rfl,hS⟩)|(refine zE2 (c:=Q1W hS) (p:=by rintro v9 w9 ⟨rfl,hS⟩;(repeat (first|refine Qj ?_|refine Ql ?_|refine fun _=>?_));refine QF ?_;refine .inr ⟨_,rfl,?_⟩;first|(exact ⟨_,ej.trans (if_pos (by omega)),rfl,(St.back0 hS.sp hi)⟩)|(exact ⟨_,by rw [ej,if_neg hne,Qf (Q8n hx2 hd (by simpa using hb1) (of_decide_eq_true hb))],rfl,(St.back0 hS.sp hi)⟩)) (h:=fun _ _ h=>h.elim)))
 refine Zbe ?_;refine Zaa ?_;refine ZaU ?_;(first|(refine Q7K hS fd vw hls.1 ?_)|(refine zL ?_));refine ZaD ?_
 refine zoL hS [0,3,4,28,29] (fun A LL ρ' w'=>∃(q:Nat),Has ρ' A∧Has ρ' [(30, .int .i64 q)]∧(q≤x.regs.length)∧(Q1V s.h [] x.regs=Q1V s.h (x.regs.take q) (x.regs.drop q))∧(¬(x.regs.length:Int)≠x1.regs)∧St cx w' (LL)) (fun ρ' _=>(x.regs.length - iv (ρ' 30)).toNat) ?_ ?_
 · exact ⟨0,zh,zh,(by omega),by rfl,by omega,hS.sp⟩
 rintro ρ w1 ⟨q,hA,hρ,hq,hd,hne,hS⟩;obtain ⟨ρ,rfl⟩:=env2 hA hρ
 refine ZaV ?_
 refine Q5 rfl (fun hc=>?_) (fun hc=>?_)
 · skip
   refine Zar ?_;refine Zae ?_;refine zi ?_;intro b2 o2 cs2 x2 hat2 hx2 he2;obtain rfl:=Qt he2;(first|(refine Q1T hS rfl fd rfl ?_)|(refine zl hS ?_)|(refine zlk hS ?_));refine zm ?_;refine ZaW ?_;refine ZbS ?_;refine zm ?_;refine zR2 (c:=jhas_c hS fd) (h:=?_);rintro v1 w1 ⟨rfl,hS⟩;refine znt ?_;refine zE2 (c:=Q2O hS) (p:=by rintro v9 w9 ⟨rfl,hb,hS⟩;(repeat (first|refine Qj ?_|refine Ql ?_|refine fun _=>?_));refine QF ?_;refine .inr ⟨_,rfl,?_⟩;exact ⟨_,by rw [ej,if_neg hne,Qf (Qdn (p:=[]) hx2 hd (by simpa using hb))],rfl,(St.back0 hS.sp hi)⟩) (h:=?_);rintro v1 w1 ⟨rfl,hb1,hS⟩;refine zn ?_;refine Q1z ?_;refine ZaU ?_;refine zm ?_;refine QcC vw hr rfl rfl ⟨_,rfl⟩ rfl (by omega) (by omega) ?_;intro v4 hs4;rw [List.drop_zero] at hs4;refine zm ?_;refine zR2 (c:=Qaz (by assumption) hS) (h:=?_);rintro v1 w1 ⟨rfl,hS⟩;(first|(refine zR2 (c:=Q1X hS) (h:=?_);rintro v1 w1 ⟨rfl,hS⟩)|(refine zE2 (c:=Q1W hS) (p:=by rintro v9 w9 ⟨rfl,hS⟩;(repeat (refine Qj ?_));refine QF ?_;refine .inr ⟨_,rfl,?_⟩;first|(exact ⟨_,ej.trans (if_pos (by omega)),rfl,(St.back0 hS.sp hi)⟩)|(exact ⟨_,by rw [ej,if_neg hne,Qf (Q8n hx2 hd (by simpa using hb1) (of_decide_eq_true hb))],rfl,(St.back0 hS.sp hi)⟩)) (h:=fun _ _ h=>h.elim))|(refine zE2 (c:=Q2O hS) (p:=by rintro v9 w9 ⟨rfl,hb,hS⟩;(repeat (first|refine Qj ?_|refine Ql ?_|refine fun _=>?_));refine QF ?_;refine .inr ⟨_,rfl,?_⟩;first|(exact ⟨_,ej.trans (if_pos (by omega)),rfl,(St.back0 hS.sp hi)⟩)|(exact ⟨_,by rw [ej,if_neg hne,Qf (Q8n hx2 hd (by simpa using hb1) (of_decide_eq_true hb))],rfl,(St.back0 hS.sp hi)⟩)) (h:=?_);rintro v1 w1 ⟨rfl,hb,hS⟩));refine ZbO ?_;(exact ⟨⟨q+1,zh,zh,(by omega),by exact Qdm hx2 hd (by simpa using hb1) (of_decide_eq_false hb),hne,hS.sp⟩,Q4 (by omega)⟩)
 · skip
   refine zex ?_;refine Zae ?_;refine ZaU ?_;refine ZaU ?_;refine ZaU ?_;refine zE4 (c:=Qav (s:=s) hsf.1.2 hls ha hp1 hr hS fd) (p:=by rintro v9 w9 ⟨c,g1,rfl,hS⟩;(repeat (first|refine Qj ?_|refine Ql ?_|refine fun _=>?_));refine QF ?_;refine .inr ⟨_,rfl,?_⟩;exact ⟨_,by rw [ej,if_neg hne,Q2 (Qat hd (by omega)),Qf g1],rfl,(St.back0 hS.sp hi)⟩) (h:=?_);rintro v1 w1 ⟨har,rfl,hS⟩;have hrg:=Qat hd (by omega);refine Zbe ?_;refine zD (ci 11 [10]) ?_;have hS:=hS.drew;refine zm ?_;refine ZbS ?_;refine Q7K hS fd vw hls.1 ?_;refine ZaU ?_;(first|(refine Q7K hS fd vw hls.1 ?_)|(refine zL ?_));refine zad ?_;refine Q5j rfl rfl ?_;refine zE2 (c:=Q2O hS) (p:=by rintro v9 w9 ⟨rfl,hb,hS⟩;(repeat (first|refine Qj ?_|refine Ql ?_|refine fun _=>?_));refine QF ?_;refine .inr ⟨_,rfl,?_⟩;exact ⟨_,by rw [ej,if_neg hne,Q2 hrg,Q2 har,if_pos (by have:=of_decide_eq_true hb;omega)],rfl,(St.back0 hS.sp hi)⟩) (h:=?_);rintro v1 w1 ⟨rfl,hb,hS⟩;have h80:¬80<s.l.length+x1.results.length:=(by have:=of_decide_eq_false hb;omega);refine zn ?_;refine Zaa ?_;refine ZaU ?_;(first|(refine Q7K hS fd vw hls.1 ?_)|(refine zL ?_));refine ZaD ?_
   refine zo [0,3,71,72] (fun A ρ' w'=>∃(k1:Cx) (q:Nat) (vl2:Value) (cs2:List (List Value)),Has ρ' A∧Has ρ' [(73, .int .i64 q)]∧(cx.Le k1)∧(q≤x1.results.length)∧(tyR.ls k1 cs2 (s.l++(x1.results.take q).map (renT x.regs)))∧St k1 w' (blk p4 95 [.int .i64 x1.regs,vp1,vr1,vb1]::blk p3 84 [.int .i64 x.op, .int .i64 x.a, .int .i64 x.b, .int .i64 x.c, .int .i64 x.k, .int .i64 x.n,vr,va]::j.res s.h vl2 cs2::L.eraseIdx i)) (fun ρ' _=>(x1.results.length - iv (ρ' 73)).toNat) ?_ ?_
   · exact ⟨cx,0,vl,css,zh,zh,St.refl hS,(by omega),by simpa using hls,hS.sp⟩
   rintro ρ w1 ⟨k1,q,vl2,cs2,hA,hρ,hle2,hq,hls,hS⟩;obtain ⟨ρ,rfl⟩:=env2 hA hρ;have hL1:=hle2;(try have hle:=hle.trans hle2);(try have hp1:=hp1.up hle2);(try have hr1:=hr1.up hle2);(try have hb1:=hb1.up hle2);(try have he1:=he1.up hle2);(try have hr:=hr.up hle2);(try have ha:=ha.up hle2);(try have hm1:=hm1.up hle2)
   refine ZaV ?_
   refine Q5 rfl (fun hc=>?_) (fun hc=>?_)
   · skip
     refine ZbB ?_;refine zi ?_;intro b3 o3 cs3 x3 hat3 hx3 he3;obtain ⟨vl3,rfl,hl3⟩:=Q9 he3;refine ZaC ?_;intro p8 w1 hS;refine zsn hS ?_;intro w1 hS;have hS:=hS.ns;refine ZbY ?_;refine ZaU ?_;refine zR2 (c:=pren_c x3 (hsf.2.1.2 x3 (List.mem_of_getElem? hx3)) he3 hr hS) (h:=?_);rintro v1 w1 ⟨c3,ds,rfl,hle2,hu3,hS⟩;(try have hL1:=hL1.trans hle2);(try have hls:=hls.up hle2);have hu3':=hu3;obtain ⟨vu,rfl,hlu⟩:=Q9 hu3;refine Zct ?_;intro p9 w1 hS;refine zsn hS ?_;intro w1 hS;have hS:=hS.ns;refine Zab ?_;refine ZbL ?_;refine zE2 (c:=Q4W (s:=⟨s.h,_⟩) (by simp only [List.length_append,List.length_map,List.length_take];omega) hu3' hls hS fd) (p:=by rintro v9 w9 ⟨rfl,h80',hS⟩;(repeat (first|refine Qj ?_|refine Ql ?_|refine fun _=>?_));refine QF ?_;refine .inr ⟨_,rfl,?_⟩;(exfalso;simp only [List.length_append,List.length_map,List.length_take] at h80';omega)) (h:=?_);rintro v1 w1 ⟨rfl,hne80,vl4,cs4,hls4,hS⟩;have hS:=hS.ns;refine ZbO ?_;(exact ⟨⟨_,q+1,vl4,cs4,zh,zh,hL1,(by omega),by rw [Qq hx3,List.map_append,←List.append_assoc];exact hls4,hS.sp⟩,Q4 (by omega)⟩)
   · skip
     refine zex ?_;refine Q17 ?_;refine .inl ⟨_,rfl,rfl,k1,⟨s.h,s.l++x1.results.map (renT x.regs)⟩,vl2,cs2,hL1,by rw [ej,if_neg hne,Q2 hrg,Q2 har,if_neg h80],?_,(St.back hS.sp hi)⟩;rw [List.take_of_length_le (by omega)] at hls;exact hls
end Go.Proofs.YteflkifmgnpbhaaGreat
namespace Go.Proofs.YteflkifmgnpbhaaGreat
open Go.Lir
set_option maxHeartbeats 1000000
attribute [local irreducible] LC.wp Q0 QB QH retQ Q1k LO.wp Qh Calls
set_option linter.unusedSimpArgs false
set_option linter.unusedVariables false
attribute [local irreducible] hasB Q1o Q1c Q1e
variable {cx:Cx}{w:World}{L:List Res}{j:JP}{h:List Bool}{vl:Value}{css:List (List Value)}{i:Nat}{m:Module}
theorem jtuple_c {s:JS}{x:Ins}{cs:List Value}(hal:x.args.length≤8) (hn:s.l.length≤80) (hx:insR.at cx cs x) (hls:tyR.ls cx css s.l) (hS:St cx w L) (hi:nth L i=some (j.res s.h vl css)):
 Fins Tryz.prog Q5w [.pointer (some ⟨j.sp,0,none⟩), .agg ⟨cs⟩] w (JOk cx L j i (Q4t s x)) (JNo cx L (Q4t s x)):=by
 have hS:=hS.out hi
 obtain ⟨vr,va,rfl,hr,ha⟩:=QG hx
 unfold Fins Q4t
 refine lgo tyD Tryz.func245 ?_;refine Zaw ?_;intro p3 w1 hS;refine ZbM ?_;refine ZaU ?_;refine zE3 (c:=Q7y hls hS fd) (p:=by rintro v9 w9 ⟨c,h1,rfl,hS⟩;(repeat (first|refine Qj ?_|refine Ql ?_|refine fun _=>?_));refine QF ?_;refine .inr ⟨_,rfl,?_⟩;exact ⟨_,Qf h1,rfl,(St.back0 hS.sp hi)⟩) (h:=?_);rintro v1 w1 ⟨t,cs1,h1,rfl,hrd,hS⟩;have hrd':=hrd;obtain ⟨vd,rfl,hld⟩:=Q9 hrd;refine QaY rfl rfl ?_;refine zb2 [_,_,_] ?_;refine Qb hS ?_;(intro p4 w1 hS);((refine zsn hS ?_;intro w1 hS;have hS:=hS.ns));refine Zbe ?_;refine Zaa ?_;refine ZaU ?_;refine Zbi ?_;have hS:=St.nil (T:=115) (es:=3) hS
 refine zo [0,4,14,15] (fun A ρ' w'=>∃(q:Nat) (vo:Value) (co:List (List Value)) (ts:List Ty),Has ρ' A∧Has ρ' [(16, .int .i64 q)]∧(q≤x.args.length)∧(tyR.ls cx co ts)∧(ts.length=q)∧(oneC vo=true)∧(jfields s x.args=ebind (jfields s (x.args.drop q)) fun l=> .ok (ts++l))∧St cx w' (sl 115 3 vo co::blk p4 115 [.int .i64 3, .int .i64 t.r,vo]::blk p3 84 [.int .i64 x.op, .int .i64 x.a, .int .i64 x.b, .int .i64 x.c, .int .i64 x.k, .int .i64 x.n,vr,va]::j.res s.h vl css::L.eraseIdx i)) (fun ρ' _=>(x.args.length - iv (ρ' 16)).toNat) ?_ ?_
 · exact ⟨0,_,[],[],zh,zh,(by omega),Rep.LR.nil _ _ _,rfl,rfl,by rw [List.drop_zero];cases jfields s x.args<;>rfl,hS.sp⟩
 rintro ρ w1 ⟨q,vo,co,ts,hA,hρ,hq,hlo,hlt,hvo,hd,hS⟩;obtain ⟨ρ,rfl⟩:=env2 hA hρ
 refine ZaV ?_
 refine Q5 rfl (fun hc=>?_) (fun hc=>?_)
 · skip
   refine ZbB ?_;refine zi ?_;intro b1 o1 cs1 x1 hat1 hx1 he1;obtain rfl:=Qt he1;(first|(refine Q1T hS rfl fd rfl ?_)|(refine zl hS ?_)|(refine zlk hS ?_));refine Zab ?_;refine zC [(0,none),(1,none),(2,none),(3,none),(4,some (some [1])),(5,some (some [1])),(6,some none),(7,none),(8,some none)] ?_;have hS:=hS.drew;refine s_cq ?_;refine Zah ?_;refine Yag ?_;refine ZbX ?_;refine zm ?_;refine Zat ?_;refine zE2 (c:=Q4f hls hS fd) (p:=by rintro v9 w9 ⟨c,h2,rfl,hS⟩;(repeat (first|refine Qj ?_|refine Ql ?_|refine fun _=>?_));refine QF ?_;refine .inr ⟨_,rfl,?_⟩;exact ⟨_,by rw [Q2 h1,Qf (Q9l hx1 hd h2)],rfl,(St.back0 hS.sp hi)⟩) (h:=?_);rintro v1 w1 ⟨t2,cs2,h2,rfl,hrd2,hS⟩;have hrd2':=hrd2;obtain ⟨vd2,rfl,hld2⟩:=Q9 hrd2;refine zt ?_;refine ⟨List.forall_mem_cons.2 ⟨(by first|(exact Q19 hS rfl fd rfl)|(exact Q16 hS rfl fd rfl)),fun _ h=>(List.not_mem_nil h).elim⟩,?_⟩;refine Qa8 ?_;refine zB1 hS [_,_,_] ?_;intro b1 w1 hS;refine zt ?_;refine ⟨List.forall_mem_cons.2 ⟨(by first|(exact Q19 hS rfl fd rfl)|(exact Q16 hS rfl fd rfl)),fun _ h=>(List.not_mem_nil h).elim⟩,?_⟩;refine s_cf ?_;refine za Q2u Q4k hS ?_;intro vp1 w1 css1 hls1 hv1 hS;have hS:=hS.ns;refine Zch ?_;refine ZaE ?_;refine zst hS ?_;intro w1 hS;have hS:=hS.ns;refine ZaA ?_;refine ZaP ?_;(exact ⟨⟨q+1,_,_,ts++[t2],zh,zh,(by omega),hls1,by simp [hlt],by assumption,Q9k hx1 hd h2,hS.sp⟩,Q4 (by omega)⟩)
 · skip
   refine zex ?_;have hts:=Q9j hd (by omega);obtain ⟨c1,hle2,hS,hk1⟩:=St.freezeL (r:=tyR) hS hlo rfl (by omega);have hT:=Q1d (k:=3) (r:=t.r) hk1;have hls:=hls.up hle2;obtain ⟨ao,no,rfl⟩:=Rep.SR.shape hk1;refine QJ ?_;refine zC [(0,none),(1,none),(2,none),(3,none),(4,none),(5,some (some [0])),(6,some none),(7,none),(8,some none)] ?_;have hS:=hS.drew;refine s_cq ?_;refine zv hS ?_;refine ZbX ?_;refine znc ?_;refine Zbd ?_;refine Q1T hS rfl fd rfl ?_;refine Zat ?_;refine zR1 (c:=jlen_c hS fd) (h:=?_);rintro v1 w1 ⟨rfl,hS⟩;refine zt ?_;refine ⟨List.forall_mem_cons.2 ⟨(by first|(exact Q19 hS rfl fd rfl)|(exact Q28 hS rfl fd rfl rfl)),fun _ h=>(List.not_mem_nil h).elim⟩,?_⟩;refine s_cf ?_;refine zR2 (c:=QaT hT hS) (h:=?_);rintro v1 w1 ⟨rfl,hS⟩;refine Zac ?_;refine Q3h rfl rfl ?_;refine ZaE ?_;(first|(refine zR2 (c:=Q1X hS) (h:=?_);rintro v1 w1 ⟨rfl,hS⟩)|(refine zE2 (c:=Q1W hS) (p:=by rintro v9 w9 ⟨rfl,hS⟩;(repeat (refine Qj ?_));refine QF ?_;refine .inr ⟨_,rfl,?_⟩;first|(exact ⟨_,by rw [Q2 h1,Q2 hts,if_pos (of_decide_eq_true hb)],rfl,St.weak (St.back0 hS.sp hi) hle2⟩)) (h:=fun _ _ h=>h.elim))|(refine zE2 (c:=Q2O hS) (p:=by rintro v9 w9 ⟨rfl,hb,hS⟩;(repeat (first|refine Qj ?_|refine Ql ?_|refine fun _=>?_));refine QF ?_;refine .inr ⟨_,rfl,?_⟩;first|(exact ⟨_,by rw [Q2 h1,Q2 hts,if_pos (of_decide_eq_true hb)],rfl,St.weak (St.back0 hS.sp hi) hle2⟩)) (h:=?_);rintro v1 w1 ⟨rfl,hb,hS⟩));refine ZaA ?_;refine ZbL ?_;refine zE2 (c:=Q4W (s:=s) (by omega) hT hls hS fd) (p:=by rintro v9 w9 ⟨rfl,h80',hS⟩;(repeat (first|refine Qj ?_|refine Ql ?_|refine fun _=>?_));refine QF ?_;refine .inr ⟨_,rfl,?_⟩;exact ⟨_,by rw [Q2 h1,Q2 hts,if_neg (of_decide_eq_false hb),Q4B h80'],rfl,St.weak (St.back0 hS.sp hi) hle2⟩) (h:=?_);rintro v1 w1 ⟨rfl,hne80,vl4,cs4,hls4,hS⟩;have hS:=hS.ns;refine zn ?_;refine Q17 ?_;exact .inl ⟨_,rfl,rfl,c1,⟨s.h,_⟩,vl4,cs4,hle2,by rw [Q2 h1,Q2 hts,if_neg (of_decide_eq_false hb),Q3o hne80],hls4,(St.back hS.sp hi)⟩
theorem Q3W {n:Nat}{x:Ins}(h:Qm n x=0):Q14 n x=0:=by
 unfold Qm at h
 split at h
 · cases h
 · split at h
   · cases h
   · exact h
theorem Q3X {n:Nat}{x:Ins}(h:Qm n x=0) (ho:x.op=6∨x.op=7):0≤x.k:=by
 have h:=Q3W h
 unfold Q14 at h
 rcases ho with ho|ho<;>simp [ho] at h<;>omega
theorem Qdw {n:Nat}{x:Ins}(h:Qm n x=0) (ho:x.op=5):x.args.length≤8:=by
 have h:=Q3W h
 unfold Q14 at h
 simp [ho] at h;omega
theorem Q9t {n:Nat}{x:Ins}(h:Qm n x=0) (ho:x.op=14):0≤x.k∧x.k<n:=by
 have h:=Q3W h
 unfold Q14 at h
 simp [ho] at h;omega
theorem jins_c {s : JS} {x : Ins} {cs : List Value} (hm:m.Short) (hF:Qm m.funcs.length x=0) (hn:s.l.length≤80) (hh:s.h.length≤16) (hj:j.Fits cx m) (hx:insR.at cx cs x) (hls:tyR.ls cx css s.l) (hS:St cx w L) (hi:nth L i=some (j.res s.h vl css)):
 Fins Tryz.prog Q6Q [.pointer (some ⟨j.sp,0,none⟩), .agg ⟨cs⟩] w (JOk cx L j i (jins m j.f s x)) (JNo cx L (jins m j.f s x)):=by
 have hS:=hS.out hi
 have hx':=hx
 have hop:=Q36 hF
 have hlc:=hls.1
 have hN:tyR.at cx [.int .i64 1, .int .i64 0, .slice none 0 0] number:=Q1d (Rep.SR.nil _ _ _)
 obtain ⟨vr,va,rfl,hr,ha⟩:=QG hx
 unfold Fins
 refine lgo tyD Tryz.func207 ?_;refine Zaw ?_;intro p3 w1 hS;refine zn ?_;refine Zaa ?_;refine zb1 [_,_,_] ?_;refine Qb hS ?_;intro p4 w1 hS;refine zsn hS ?_;intro w1 hS;have hS:=hS.ns;refine zn ?_;refine Zaa ?_;refine ZaU ?_;refine Zcu ?_;refine Zbt ?_;first|(refine Qp ?_)|(refine Qu ?_)|(refine Q7 rfl rfl (fun hc=>?_) (fun hc=>?_))
 all_goals (refine Zab ?_)
 all_goals
  first
  | (refine zct ?_
     refine zsk ?_)
  | (refine zcf ?_
     refine Q1z ?_;first|(refine Qp ?_)|(refine Qu ?_)|(refine Q7 rfl rfl (fun hc=>?_) (fun hc=>?_))
     all_goals (refine zm ?_)
     all_goals refine zn ?_)
 all_goals
  first
  | (refine zct ?_
     all_goals (refine ZbL ?_;refine zE2 (c:=Q4W (s:=s) (by omega) hN hls hS fd) (p:=by rintro v9 w9 ⟨rfl,h80,hS⟩;(repeat (first|refine Qj ?_|refine Ql ?_|refine fun _=>?_));refine QF ?_;refine .inr ⟨_,rfl,?_⟩;exact ⟨_,by rw [Q5R (by omega),Q4B h80],rfl,(St.back0 hS.sp hi)⟩) (h:=?_);rintro v1 w1 ⟨rfl,hne,vl4,cs4,hls4,hS⟩;have hS:=hS.ns;have hJ:JOk cx L j i (jins m j.f s x) (.tuple #[]) w1:=⟨rfl,cx,⟨s.h,_⟩,vl4,cs4,St.refl hS,by rw [Q5R (by omega),Q3o hne],hls4,(St.back hS.sp hi)⟩;refine zn ?_)
     all_goals (refine Q17 ?_;exact .inl ⟨_,rfl,hJ⟩))
  | (refine zcf ?_
     refine Zaa ?_;first|(refine Qp ?_)|(refine Qu ?_)|(refine Q7 rfl rfl (fun hc=>?_) (fun hc=>?_))
     all_goals (refine Zab ?_)
     all_goals
      first
      | (refine zct ?_
         refine Zae ?_;refine ZaU ?_;refine zE3 (c:=Q3p (s:=s) hls hS fd) (p:=by rintro v9 w9 ⟨c,h1,rfl,hS⟩;(repeat (first|refine Qj ?_|refine Ql ?_|refine fun _=>?_));refine QF ?_;refine .inr ⟨_,rfl,?_⟩;exact ⟨_,by rw [Q6X (by omega),Qf h1],rfl,(St.back0 hS.sp hi)⟩) (h:=?_);rintro v1 w1 ⟨t1,cs1,h1,rfl,hrd1,hS⟩;skip;refine ZbM ?_;refine ZaU ?_;refine zE3 (c:=Q3p (s:=s) hls hS fd) (p:=by rintro v9 w9 ⟨c,h2,rfl,hS⟩;(repeat (first|refine Qj ?_|refine Ql ?_|refine fun _=>?_));refine QF ?_;refine .inr ⟨_,rfl,?_⟩;exact ⟨_,by rw [Q6X (by omega),Q2 h1,Qf h2],rfl,(St.back0 hS.sp hi)⟩) (h:=?_);rintro v1 w1 ⟨t2,cs2,h2,rfl,hrd2,hS⟩;skip;refine zn ?_;refine ZbL ?_;refine zE2 (c:=Q4W (s:=s) (by omega) hN hls hS fd) (p:=by rintro v9 w9 ⟨rfl,h80,hS⟩;(repeat (first|refine Qj ?_|refine Ql ?_|refine fun _=>?_));refine QF ?_;refine .inr ⟨_,rfl,?_⟩;exact ⟨_,by rw [Q6X (by omega),Q2 h1,Q2 h2,Q4B h80],rfl,(St.back0 hS.sp hi)⟩) (h:=?_);rintro v1 w1 ⟨rfl,hne,vl4,cs4,hls4,hS⟩;have hS:=hS.ns;have hJ:JOk cx L j i (jins m j.f s x) (.tuple #[]) w1:=⟨rfl,cx,⟨s.h,_⟩,vl4,cs4,St.refl hS,by rw [Q6X (by omega),Q2 h1,Q2 h2,Q3o hne],hls4,(St.back hS.sp hi)⟩;refine zn ?_
         refine Q17 ?_;exact .inl ⟨_,rfl,hJ⟩)
      | (refine zcf ?_
         refine Zaa ?_;first|(refine Qp ?_)|(refine Qu ?_)|(refine Q7 rfl rfl (fun hc=>?_) (fun hc=>?_))
         all_goals (refine Zab ?_)
         all_goals
          first
          | (refine zcf ?_
             refine Zaa ?_;first|(refine Qp ?_)|(refine Qu ?_)|(refine Q7 rfl rfl (fun hc=>?_) (fun hc=>?_))
             all_goals (refine Zab ?_)
             all_goals
              first
              | (refine zct ?_
                 refine Zae ?_;refine ZaU ?_;refine zE3 (c:=Q7y (s:=s) hls hS fd) (p:=by rintro v9 w9 ⟨c,h1,rfl,hS⟩;(repeat (first|refine Qj ?_|refine Ql ?_|refine fun _=>?_));refine QF ?_;refine .inr ⟨_,rfl,?_⟩;exact ⟨_,by rw [Q7R (by omega),Qf h1],rfl,(St.back0 hS.sp hi)⟩) (h:=?_);rintro v1 w1 ⟨t1,cs1,h1,rfl,hrd1,hS⟩;obtain ⟨vd1,rfl,hld1⟩:=Q9 hrd1;refine QaY rfl rfl ?_;refine Zab ?_;refine ZaG ?_;refine ZaL ?_;refine Yae ?_;refine Q1T hS rfl fd rfl ?_;first|(refine Q1f ?_)|(refine Q1g ?_)|(refine Qr rfl rfl (fun hc=>?_) (fun hc=>?_))
                 all_goals (first|(refine zR2 (c:=Q1X hS) (h:=?_);rintro v1 w1 ⟨rfl,hS⟩)|(refine zE2 (c:=Q1W hS) (p:=by rintro v9 w9 ⟨rfl,hS⟩;(repeat (first|refine Qj ?_|refine Ql ?_|refine fun _=>?_));refine QF ?_;refine .inr ⟨_,rfl,?_⟩;exact ⟨_,by rw [Q7R (by omega),Q2 h1,if_pos (by omega)],rfl,(St.back0 hS.sp hi)⟩) (h:=fun _ _ h=>h.elim)))
                 refine zn ?_;refine Zag ?_;refine ZbS ?_;refine zm ?_;refine zR2 (c:=jshut_c (Q5S h1).2.2.2 hS fd) (h:=?_);rintro v1 w1 ⟨rfl,hS⟩;have hS:=hS.ns;have hJ:JOk cx L j i (jins m j.f s x) (.tuple #[]) w1:=⟨rfl,cx,⟨s.h.set t1.r.toNat false,s.l⟩,vl,css,St.refl hS,by rw [Q7R (by omega),Q2 h1,if_neg (by omega)],hls,(St.back hS.sp hi)⟩;refine zn ?_
                 refine Q17 ?_;exact .inl ⟨_,rfl,hJ⟩)
              | (refine zcf ?_
                 refine Zaa ?_;first|(refine Qp ?_)|(refine Qu ?_)|(refine Q7 rfl rfl (fun hc=>?_) (fun hc=>?_))
                 all_goals (refine Zab ?_)
                 all_goals
                  first
                  | (refine zct ?_
                     refine ZbL ?_;refine zE2 (c:=jtuple_c (Qdw hF (by omega)) hn hx' hls hS fd) (p:=by rintro v9 w9 ⟨c,g1,rfl,hS⟩;(repeat (first|refine Qj ?_|refine Ql ?_|refine fun _=>?_));refine QF ?_;refine .inr ⟨_,rfl,?_⟩;exact ⟨_,by rw [Q9h (by omega)];exact g1,rfl,(St.back0 hS.sp hi)⟩) (h:=?_);rintro v1 w1 ⟨rfl,c1,s1,vl4,cs4,hle,hr1,hls4,hS⟩;have hS:=hS.ns;have hJ:JOk cx L j i (jins m j.f s x) (.tuple #[]) w1:=⟨rfl,c1,s1,vl4,cs4,hle,by rw [Q9h (by omega)];exact hr1,hls4,(St.back hS.sp hi)⟩;refine zn ?_
                     refine Q17 ?_;exact .inl ⟨_,rfl,hJ⟩)
                  | (refine zcf ?_
                     refine Zaa ?_;first|(refine Qp ?_)|(refine Qu ?_)|(refine Q7 rfl rfl (fun hc=>?_) (fun hc=>?_))
                     all_goals (refine Zab ?_)
                     all_goals
                      first
                      | (refine zct ?_
                         refine zC [(0,none),(1,none),(2,none),(3,none),(4,none),(6,none),(7,none),(5,some (some [7])),(8,some (some [])),(9,some none)] ?_;have hS:=hS.drew;refine Zbv ?_;refine Zaz ?_;refine Zaz ?_;refine Zah ?_;refine Yag ?_;refine Zbd ?_;refine Yag ?_;refine Zat ?_;refine zE3 (c:=Q7y (s:=s) hls hS fd) (p:=by rintro v9 w9 ⟨c,h1,rfl,hS⟩;(repeat (first|refine Qj ?_|refine Ql ?_|refine fun _=>?_));refine QF ?_;refine .inr ⟨_,rfl,?_⟩;exact ⟨_,by rw [Q6W (by omega),Qf h1],rfl,(St.back0 hS.sp hi)⟩) (h:=?_);rintro v1 w1 ⟨t1,cs1,h1,rfl,hrd1,hS⟩;have hrd1':=hrd1;obtain ⟨vd1,rfl,hld1⟩:=Q9 hrd1;refine zt ?_;refine ⟨List.forall_mem_cons.2 ⟨(by first|(exact Q19 hS rfl fd rfl)|(exact Q16 hS rfl fd rfl)),fun _ h=>(List.not_mem_nil h).elim⟩,?_⟩;refine Qa8 ?_;refine zE3 (c:=Q6j (j:=j) (Q3X hF (by omega)) hrd1' hS) (p:=by rintro v9 w9 ⟨c,h2,rfl,hS⟩;(repeat (first|refine Qj ?_|refine Ql ?_|refine fun _=>?_));refine QF ?_;refine .inr ⟨_,rfl,?_⟩;exact ⟨_,by rw [Q6W (by omega),Q2 h1,Qf h2],rfl,(St.back0 hS.sp hi)⟩) (h:=?_);rintro v1 w1 ⟨t2,cs2,h2,rfl,hrd2,hS⟩;skip;refine zt ?_;refine ⟨fun _ h=>(List.not_mem_nil h).elim,?_⟩;refine s_cf ?_;refine zE2 (c:=Q4W (s:=s) (by omega) hrd2 hls hS fd) (p:=by rintro v9 w9 ⟨rfl,h80,hS⟩;(repeat (first|refine Qj ?_|refine Ql ?_|refine fun _=>?_));refine QF ?_;refine .inr ⟨_,rfl,?_⟩;exact ⟨_,by rw [Q6W (by omega),Q2 h1,Q2 h2,Q4B h80],rfl,(St.back0 hS.sp hi)⟩) (h:=?_);rintro v1 w1 ⟨rfl,hne,vl4,cs4,hls4,hS⟩;have hS:=hS.ns;have hJ:JOk cx L j i (jins m j.f s x) (.tuple #[]) w1:=⟨rfl,cx,⟨s.h,_⟩,vl4,cs4,St.refl hS,by rw [Q6W (by omega),Q2 h1,Q2 h2,Q3o hne],hls4,(St.back hS.sp hi)⟩;refine ZaA ?_
                         refine Q17 ?_;exact .inl ⟨_,rfl,hJ⟩)
                      | (refine zcf ?_
                         refine Zaa ?_;first|(refine Qp ?_)|(refine Qu ?_)|(refine Q7 rfl rfl (fun hc=>?_) (fun hc=>?_))
                         all_goals (refine Zab ?_)
                         all_goals
                          first
                          | (refine zct ?_
                             refine QJ ?_
                             refine Q1F 4 8 (by kernel_rfl) ?_ ?_
                             · skip
                               refine Q1F 7 8 (by kernel_rfl) ?_ ?_
                               · skip
                                 refine zC [(0,none),(1,none),(2,none),(3,none),(5,none),(6,none),(4,some (some [6])),(7,some none),(8,some none),(9,some none)] ?_;have hS:=hS.drew;refine Zbv ?_;refine Zaz ?_;refine Zah ?_;refine Yag ?_;refine Zbd ?_;refine Yag ?_;refine Zat ?_;refine zE3 (c:=Q7y (s:=s) hls hS fd) (p:=by rintro v9 w9 ⟨c,h1,rfl,hS⟩;(repeat (first|refine Qj ?_|refine Ql ?_|refine fun _=>?_));refine QF ?_;refine .inr ⟨_,rfl,?_⟩;exact ⟨_,by rw [Q2e (by omega),Qf h1],rfl,(St.back0 hS.sp hi)⟩) (h:=?_);rintro v1 w1 ⟨t1,cs1,h1,rfl,hrd1,hS⟩;have hrd1':=hrd1;obtain ⟨vd1,rfl,hld1⟩:=Q9 hrd1;refine zt ?_;refine ⟨List.forall_mem_cons.2 ⟨(by first|(exact Q19 hS rfl fd rfl)|(exact Q16 hS rfl fd rfl)),fun _ h=>(List.not_mem_nil h).elim⟩,?_⟩;refine s_cf ?_;refine zE3 (c:=Q6j (j:=j) (Q3X hF (by omega)) hrd1' hS) (p:=by rintro v9 w9 ⟨c,h2,rfl,hS⟩;(repeat (first|refine Qj ?_|refine Ql ?_|refine fun _=>?_));refine QF ?_;refine .inr ⟨_,rfl,?_⟩;exact ⟨_,by rw [Q2e (by omega),Q2 h1,Qf h2],rfl,(St.back0 hS.sp hi)⟩) (h:=?_);rintro v1 w1 ⟨t2,cs2,h2,rfl,hrd2,hS⟩;have hrd2':=hrd2;obtain ⟨vd2,rfl,hld2⟩:=Q9 hrd2;refine ZaE ?_;refine Qb hS ?_;intro p6 w1 hS;refine ZaE ?_;refine zsn hS ?_;intro w1 hS;have hS:=hS.ns;refine ZaA ?_;refine zC [(0,none),(1,none),(2,none),(3,none),(4,some (some [0])),(5,some none),(6,none),(7,some none)] ?_;have hS:=hS.drew;refine s_cq ?_;refine zv hS ?_;refine ZbX ?_;refine Zah ?_;refine Yag ?_;refine Zat ?_;refine zE2 (c:=Q4f (s:=s) hls hS fd) (p:=by rintro v9 w9 ⟨c,h3,rfl,hS⟩;(repeat (first|refine Qj ?_|refine Ql ?_|refine fun _=>?_));refine QF ?_;refine .inr ⟨_,rfl,?_⟩;exact ⟨_,by rw [Q2e (by omega),Q2 h1,Q2 h2,Qf h3],rfl,(St.back0 hS.sp hi)⟩) (h:=?_);rintro v1 w1 ⟨t3,cs3,h3,rfl,hrd3,hS⟩;skip;refine zt ?_;refine ⟨List.forall_mem_cons.2 ⟨(by first|(exact Q19 hS rfl fd rfl)|(exact Q28 hS rfl fd rfl rfl)),fun _ h=>(List.not_mem_nil h).elim⟩,?_⟩;refine s_cf ?_;refine zR2 (c:=Q6F _ _ hrd2' hrd3 hS) (h:=?_);rintro v1 w1 ⟨rfl,hS⟩;refine Zac ?_;refine znt ?_;refine ZaE ?_;refine zE2 (c:=Q2O hS) (p:=by rintro v9 w9 ⟨rfl,hb,hS⟩;(repeat (first|refine Qj ?_|refine Ql ?_|refine fun _=>?_));refine QF ?_;refine .inr ⟨_,rfl,?_⟩;exact ⟨_,by rw [Q2e (by omega),Q2 h1,Q2 h2,Q2 h3,if_pos (by simpa using hb)],rfl,(St.back0 hS.sp hi)⟩) (h:=?_);rintro v1 w1 ⟨rfl,hb,hS⟩;refine ZaA ?_;have hJ:JOk cx L j i (jins m j.f s x) (.tuple #[]) w1:=⟨rfl,cx,s,vl,css,St.refl hS,by rw [Q2e (by omega),Q2 h1,Q2 h2,Q2 h3,if_neg (by simpa using hb)],hls,(St.back hS.sp hi)⟩;refine Q17 ?_;exact .inl ⟨_,rfl,hJ⟩
                               · skip
                                 refine zC [(0,none),(1,none),(2,none),(3,none),(5,none),(6,none),(4,some (some [6])),(8,some (some [6])),(7,some none),(9,some none)] ?_;have hS:=hS.drew;refine Zbv ?_;refine Zaz ?_;refine Zah ?_;refine Yag ?_;refine Zbd ?_;refine Yag ?_;refine Zat ?_;refine zE3 (c:=Q7y (s:=s) hls hS fd) (p:=by rintro v9 w9 ⟨c,h1,rfl,hS⟩;(repeat (first|refine Qj ?_|refine Ql ?_|refine fun _=>?_));refine QF ?_;refine .inr ⟨_,rfl,?_⟩;exact ⟨_,by rw [Q2e (by omega),Qf h1],rfl,(St.back0 hS.sp hi)⟩) (h:=?_);rintro v1 w1 ⟨t1,cs1,h1,rfl,hrd1,hS⟩;have hrd1':=hrd1;obtain ⟨vd1,rfl,hld1⟩:=Q9 hrd1;refine zt ?_;refine ⟨List.forall_mem_cons.2 ⟨(by first|(exact Q19 hS rfl fd rfl)|(exact Q16 hS rfl fd rfl)),fun _ h=>(List.not_mem_nil h).elim⟩,?_⟩;refine Qa8 ?_;refine Qb hS ?_;intro p6 w1 hS;refine zt ?_;refine ⟨List.forall_mem_cons.2 ⟨(by first|(exact Q19 hS rfl fd rfl)|(exact Q16 hS rfl fd rfl)),fun _ h=>(List.not_mem_nil h).elim⟩,?_⟩;refine s_cf ?_;refine zE3 (c:=Q6j (j:=j) (Q3X hF (by omega)) hrd1' hS) (p:=by rintro v9 w9 ⟨c,h2,rfl,hS⟩;(repeat (first|refine Qj ?_|refine Ql ?_|refine fun _=>?_));refine QF ?_;refine .inr ⟨_,rfl,?_⟩;exact ⟨_,by rw [Q2e (by omega),Q2 h1,Qf h2],rfl,(St.back0 hS.sp hi)⟩) (h:=?_);rintro v1 w1 ⟨t2,cs2,h2,rfl,hrd2,hS⟩;have hrd2':=hrd2;obtain ⟨vd2,rfl,hld2⟩:=Q9 hrd2;refine ZaE ?_;refine zsn hS ?_;intro w1 hS;have hS:=hS.ns;refine ZaA ?_;refine zC [(0,none),(1,none),(2,none),(3,none),(4,some (some [0])),(5,some none),(6,none),(7,some none)] ?_;have hS:=hS.drew;refine s_cq ?_;refine zv hS ?_;refine ZbX ?_;refine Zah ?_;refine Yag ?_;refine Zat ?_;refine zE2 (c:=Q4f (s:=s) hls hS fd) (p:=by rintro v9 w9 ⟨c,h3,rfl,hS⟩;(repeat (first|refine Qj ?_|refine Ql ?_|refine fun _=>?_));refine QF ?_;refine .inr ⟨_,rfl,?_⟩;exact ⟨_,by rw [Q2e (by omega),Q2 h1,Q2 h2,Qf h3],rfl,(St.back0 hS.sp hi)⟩) (h:=?_);rintro v1 w1 ⟨t3,cs3,h3,rfl,hrd3,hS⟩;skip;refine zt ?_;refine ⟨List.forall_mem_cons.2 ⟨(by first|(exact Q19 hS rfl fd rfl)|(exact Q28 hS rfl fd rfl rfl)),fun _ h=>(List.not_mem_nil h).elim⟩,?_⟩;refine s_cf ?_;refine zR2 (c:=Q6F _ _ hrd2' hrd3 hS) (h:=?_);rintro v1 w1 ⟨rfl,hS⟩;refine Zac ?_;refine znt ?_;refine ZaE ?_;refine zE2 (c:=Q2O hS) (p:=by rintro v9 w9 ⟨rfl,hb,hS⟩;(repeat (first|refine Qj ?_|refine Ql ?_|refine fun _=>?_));refine QF ?_;refine .inr ⟨_,rfl,?_⟩;exact ⟨_,by rw [Q2e (by omega),Q2 h1,Q2 h2,Q2 h3,if_pos (by simpa using hb)],rfl,(St.back0 hS.sp hi)⟩) (h:=?_);rintro v1 w1 ⟨rfl,hb,hS⟩;refine ZaA ?_;have hJ:JOk cx L j i (jins m j.f s x) (.tuple #[]) w1:=⟨rfl,cx,s,vl,css,St.refl hS,by rw [Q2e (by omega),Q2 h1,Q2 h2,Q2 h3,if_neg (by simpa using hb)],hls,(St.back hS.sp hi)⟩;refine Q17 ?_;exact .inl ⟨_,rfl,hJ⟩
                             · skip
                               refine zC [(0,none),(1,none),(2,none),(3,none),(5,none),(6,none),(8,some (some [3,6])),(4,some (some [6])),(7,some none),(9,some none)] ?_;have hS:=hS.drew;refine Zbv ?_;refine Zaz ?_;refine Zah ?_;refine Yag ?_;refine Zbd ?_;refine Yag ?_;refine ZaO ?_;intro p6 w1 hS;refine zt ?_;refine ⟨List.forall_mem_cons.2 ⟨(by first|(exact Q19 hS rfl fd rfl)|(exact Q16 hS rfl fd rfl)),List.forall_mem_cons.2 ⟨(by first|(exact Q19 hS rfl fd rfl)|(exact Q16 hS rfl fd rfl)),fun _ h=>(List.not_mem_nil h).elim⟩⟩,?_⟩;refine Qa8 ?_;refine zE3 (c:=Q7y (s:=s) hls hS fd) (p:=by rintro v9 w9 ⟨c,h1,rfl,hS⟩;(repeat (first|refine Qj ?_|refine Ql ?_|refine fun _=>?_));refine QF ?_;refine .inr ⟨_,rfl,?_⟩;exact ⟨_,by rw [Q2e (by omega),Qf h1],rfl,(St.back0 hS.sp hi)⟩) (h:=?_);rintro v1 w1 ⟨t1,cs1,h1,rfl,hrd1,hS⟩;have hrd1':=hrd1;obtain ⟨vd1,rfl,hld1⟩:=Q9 hrd1;refine zt ?_;refine ⟨List.forall_mem_cons.2 ⟨(by first|(exact Q19 hS rfl fd rfl)|(exact Q16 hS rfl fd rfl)),fun _ h=>(List.not_mem_nil h).elim⟩,?_⟩;refine s_cf ?_;refine zE3 (c:=Q6j (j:=j) (Q3X hF (by omega)) hrd1' hS) (p:=by rintro v9 w9 ⟨c,h2,rfl,hS⟩;(repeat (first|refine Qj ?_|refine Ql ?_|refine fun _=>?_));refine QF ?_;refine .inr ⟨_,rfl,?_⟩;exact ⟨_,by rw [Q2e (by omega),Q2 h1,Qf h2],rfl,(St.back0 hS.sp hi)⟩) (h:=?_);rintro v1 w1 ⟨t2,cs2,h2,rfl,hrd2,hS⟩;have hrd2':=hrd2;obtain ⟨vd2,rfl,hld2⟩:=Q9 hrd2;refine ZaE ?_;refine zsn hS ?_;intro w1 hS;have hS:=hS.ns;refine ZaA ?_;refine zC [(0,none),(1,none),(2,none),(3,none),(4,some (some [0])),(5,some none),(6,none),(7,some none)] ?_;have hS:=hS.drew;refine s_cq ?_;refine zv hS ?_;refine ZbX ?_;refine Zah ?_;refine Yag ?_;refine Zat ?_;refine zE2 (c:=Q4f (s:=s) hls hS fd) (p:=by rintro v9 w9 ⟨c,h3,rfl,hS⟩;(repeat (first|refine Qj ?_|refine Ql ?_|refine fun _=>?_));refine QF ?_;refine .inr ⟨_,rfl,?_⟩;exact ⟨_,by rw [Q2e (by omega),Q2 h1,Q2 h2,Qf h3],rfl,(St.back0 hS.sp hi)⟩) (h:=?_);rintro v1 w1 ⟨t3,cs3,h3,rfl,hrd3,hS⟩;skip;refine zt ?_;refine ⟨List.forall_mem_cons.2 ⟨(by first|(exact Q19 hS rfl fd rfl)|(exact Q28 hS rfl fd rfl rfl)),fun _ h=>(List.not_mem_nil h).elim⟩,?_⟩;refine s_cf ?_;refine zR2 (c:=Q6F _ _ hrd2' hrd3 hS) (h:=?_);rintro v1 w1 ⟨rfl,hS⟩;refine Zac ?_;refine znt ?_;refine ZaE ?_;refine zE2 (c:=Q2O hS) (p:=by rintro v9 w9 ⟨rfl,hb,hS⟩;(repeat (first|refine Qj ?_|refine Ql ?_|refine fun _=>?_));refine QF ?_;refine .inr ⟨_,rfl,?_⟩;exact ⟨_,by rw [Q2e (by omega),Q2 h1,Q2 h2,Q2 h3,if_pos (by simpa using hb)],rfl,(St.back0 hS.sp hi)⟩) (h:=?_);rintro v1 w1 ⟨rfl,hb,hS⟩;refine ZaA ?_;have hJ:JOk cx L j i (jins m j.f s x) (.tuple #[]) w1:=⟨rfl,cx,s,vl,css,St.refl hS,by rw [Q2e (by omega),Q2 h1,Q2 h2,Q2 h3,if_neg (by simpa using hb)],hls,(St.back hS.sp hi)⟩
                               refine Q17 ?_;exact .inl ⟨_,rfl,hJ⟩)
                          | (refine zcf ?_
                             refine Zaa ?_;first|(refine Qp ?_)|(refine Qu ?_)|(refine Q7 rfl rfl (fun hc=>?_) (fun hc=>?_))
                             all_goals (refine Zab ?_)
                             all_goals
                              first
                              | (refine zct ?_
                                 refine Zae ?_;refine ZaU ?_;refine zE3 (c:=Q7y (s:=s) hls hS fd) (p:=by rintro v9 w9 ⟨c,h1,rfl,hS⟩;(repeat (first|refine Qj ?_|refine Ql ?_|refine fun _=>?_));refine QF ?_;refine .inr ⟨_,rfl,?_⟩;exact ⟨_,by rw [Q6V (by omega),Qf h1],rfl,(St.back0 hS.sp hi)⟩) (h:=?_);rintro v1 w1 ⟨t1,cs1,h1,rfl,hrd1,hS⟩;obtain ⟨vd1,rfl,hld1⟩:=Q9 hrd1;refine QaY rfl rfl ?_;refine ZaW ?_;refine ZaU ?_;refine zE3 (c:=Q3p (s:=s) hls hS fd) (p:=by rintro v9 w9 ⟨c,h2,rfl,hS⟩;(repeat (first|refine Qj ?_|refine Ql ?_|refine fun _=>?_));refine QF ?_;refine .inr ⟨_,rfl,?_⟩;exact ⟨_,by rw [Q6V (by omega),Q2 h1,Qf h2],rfl,(St.back0 hS.sp hi)⟩) (h:=?_);rintro v1 w1 ⟨t2,cs2,h2,rfl,hrd2,hS⟩;skip;refine zn ?_;refine Zbc ?_;refine zb2 [_,_,_] ?_;refine zE2 (c:=Q4W (s:=s) (by omega) (Q1d (k:=4) (r:=t1.r) (l:=[]) (Rep.SR.nil _ _ _)) hls hS fd) (p:=by rintro v9 w9 ⟨rfl,h80,hS⟩;(repeat (first|refine Qj ?_|refine Ql ?_|refine fun _=>?_));refine QF ?_;refine .inr ⟨_,rfl,?_⟩;exact ⟨_,by rw [Q6V (by omega),Q2 h1,Q2 h2,Q4B h80],rfl,(St.back0 hS.sp hi)⟩) (h:=?_);rintro v1 w1 ⟨rfl,hne,vl4,cs4,hls4,hS⟩;have hS:=hS.ns;have hJ:JOk cx L j i (jins m j.f s x) (.tuple #[]) w1:=⟨rfl,cx,⟨s.h,_⟩,vl4,cs4,St.refl hS,by rw [Q6V (by omega),Q2 h1,Q2 h2,Q3o hne],hls4,(St.back hS.sp hi)⟩
                                 refine zn ?_)
                              | (refine zcf ?_
                                 refine Zaa ?_;first|(refine Qp ?_)|(refine Qu ?_)|(refine Q7 rfl rfl (fun hc=>?_) (fun hc=>?_))
                                 all_goals (refine Zab ?_)
                                 all_goals
                                  first
                                  | (refine zct ?_
                                     refine Zae ?_;refine ZaU ?_;refine zE3 (c:=Q7y (s:=s) hls hS fd) (p:=by rintro v9 w9 ⟨c,h1,rfl,hS⟩;(repeat (first|refine Qj ?_|refine Ql ?_|refine fun _=>?_));refine QF ?_;refine .inr ⟨_,rfl,?_⟩;exact ⟨_,by rw [Q6U (by omega),Qf h1],rfl,(St.back0 hS.sp hi)⟩) (h:=?_);rintro v1 w1 ⟨t1,cs1,h1,rfl,hrd1,hS⟩;skip;refine ZbM ?_;refine ZaU ?_;refine zE3 (c:=Q3p (s:=s) hls hS fd) (p:=by rintro v9 w9 ⟨c,h2,rfl,hS⟩;(repeat (first|refine Qj ?_|refine Ql ?_|refine fun _=>?_));refine QF ?_;refine .inr ⟨_,rfl,?_⟩;exact ⟨_,by rw [Q6U (by omega),Q2 h1,Qf h2],rfl,(St.back0 hS.sp hi)⟩) (h:=?_);rintro v1 w1 ⟨t2,cs2,h2,rfl,hrd2,hS⟩;skip;refine zn ?_;refine ZbL ?_;refine zE2 (c:=Q4W (s:=s) (by omega) hN hls hS fd) (p:=by rintro v9 w9 ⟨rfl,h80,hS⟩;(repeat (first|refine Qj ?_|refine Ql ?_|refine fun _=>?_));refine QF ?_;refine .inr ⟨_,rfl,?_⟩;exact ⟨_,by rw [Q6U (by omega),Q2 h1,Q2 h2,Q4B h80],rfl,(St.back0 hS.sp hi)⟩) (h:=?_);rintro v1 w1 ⟨rfl,hne,vl4,cs4,hls4,hS⟩;have hS:=hS.ns;have hJ:JOk cx L j i (jins m j.f s x) (.tuple #[]) w1:=⟨rfl,cx,⟨s.h,_⟩,vl4,cs4,St.refl hS,by rw [Q6U (by omega),Q2 h1,Q2 h2,Q3o hne],hls4,(St.back hS.sp hi)⟩
                                     refine zn ?_)
                                  | (refine zcf ?_
                                     refine Zaa ?_;first|(refine Qp ?_)|(refine Qu ?_)|(refine Q7 rfl rfl (fun hc=>?_) (fun hc=>?_))
                                     all_goals (refine Zab ?_)
                                     all_goals
                                      first
                                      | (refine zct ?_
                                         refine Zae ?_;refine ZaU ?_;refine zE3 (c:=Q7y (s:=s) hls hS fd) (p:=by rintro v9 w9 ⟨c,h1,rfl,hS⟩;(repeat (first|refine Qj ?_|refine Ql ?_|refine fun _=>?_));refine QF ?_;refine .inr ⟨_,rfl,?_⟩;exact ⟨_,by rw [Q4C (by omega),Qf h1],rfl,(St.back0 hS.sp hi)⟩) (h:=?_);rintro v1 w1 ⟨t1,cs1,h1,rfl,hrd1,hS⟩;skip;refine ZbM ?_;refine ZaU ?_;refine zE3 (c:=Q3p (s:=s) hls hS fd) (p:=by rintro v9 w9 ⟨c,h2,rfl,hS⟩;(repeat (first|refine Qj ?_|refine Ql ?_|refine fun _=>?_));refine QF ?_;refine .inr ⟨_,rfl,?_⟩;exact ⟨_,by rw [Q4C (by omega),Q2 h1,Qf h2],rfl,(St.back0 hS.sp hi)⟩) (h:=?_);rintro v1 w1 ⟨t2,cs2,h2,rfl,hrd2,hS⟩;skip;refine zn ?_;refine Zag ?_;refine ZaU ?_;refine zE3 (c:=Q3p (s:=s) hls hS fd) (p:=by rintro v9 w9 ⟨c,h3,rfl,hS⟩;(repeat (first|refine Qj ?_|refine Ql ?_|refine fun _=>?_));refine QF ?_;refine .inr ⟨_,rfl,?_⟩;exact ⟨_,by rw [Q4C (by omega),Q2 h1,Q2 h2,Qf h3],rfl,(St.back0 hS.sp hi)⟩) (h:=?_);rintro v1 w1 ⟨t3,cs3,h3,rfl,hrd3,hS⟩;skip;refine zn ?_
                                         have hJ:JOk cx L j i (jins m j.f s x) (.tuple #[]) w1:=⟨rfl,cx,s,vl,css,St.refl hS,by rw [Q4C (by omega),Q2 h1,Q2 h2,Q2 h3],hls,(St.back hS.sp hi)⟩)
                                      | (refine zcf ?_
                                         refine Zaa ?_;first|(refine Qp ?_)|(refine Qu ?_)|(refine Q7 rfl rfl (fun hc=>?_) (fun hc=>?_))
                                         all_goals (refine Zab ?_)
                                         all_goals
                                          first
                                          | (refine zct ?_
                                             refine Zae ?_;refine ZaU ?_;refine zE3 (c:=Q7y (s:=s) hls hS fd) (p:=by rintro v9 w9 ⟨c,h1,rfl,hS⟩;(repeat (first|refine Qj ?_|refine Ql ?_|refine fun _=>?_));refine QF ?_;refine .inr ⟨_,rfl,?_⟩;exact ⟨_,by rw [Q5B (by omega),Qf h1],rfl,(St.back0 hS.sp hi)⟩) (h:=?_);rintro v1 w1 ⟨t1,cs1,h1,rfl,hrd1,hS⟩;skip;refine zn ?_;refine ZbL ?_;refine zE2 (c:=Q4W (s:=s) (by omega) hN hls hS fd) (p:=by rintro v9 w9 ⟨rfl,h80,hS⟩;(repeat (first|refine Qj ?_|refine Ql ?_|refine fun _=>?_));refine QF ?_;refine .inr ⟨_,rfl,?_⟩;exact ⟨_,by rw [Q5B (by omega),Q2 h1,Q4B h80],rfl,(St.back0 hS.sp hi)⟩) (h:=?_);rintro v1 w1 ⟨rfl,hne,vl4,cs4,hls4,hS⟩;have hS:=hS.ns;have hJ:JOk cx L j i (jins m j.f s x) (.tuple #[]) w1:=⟨rfl,cx,⟨s.h,_⟩,vl4,cs4,St.refl hS,by rw [Q5B (by omega),Q2 h1,Q3o hne],hls4,(St.back hS.sp hi)⟩
                                             refine zn ?_)
                                          | (refine zcf ?_
                                             refine Zaa ?_;first|(refine Qp ?_)|(refine Qu ?_)|(refine Q7 rfl rfl (fun hc=>?_) (fun hc=>?_))
                                             all_goals (refine Zab ?_)
                                             all_goals
                                              first
                                              | (refine zct ?_
                                                 refine Zag ?_;refine ZaU ?_;refine zE3 (c:=Q3p (s:=s) hls hS fd) (p:=by rintro v9 w9 ⟨c,h1,rfl,hS⟩;(repeat (first|refine Qj ?_|refine Ql ?_|refine fun _=>?_));refine QF ?_;refine .inr ⟨_,rfl,?_⟩;exact ⟨_,by rw [Q6Z (by omega),Qf h1],rfl,(St.back0 hS.sp hi)⟩) (h:=?_);rintro v1 w1 ⟨t1,cs1,h1,rfl,hrd1,hS⟩;skip;refine zn ?_
                                                 have hJ:JOk cx L j i (jins m j.f s x) (.tuple #[]) w1:=⟨rfl,cx,s,vl,css,St.refl hS,by rw [Q6Z (by omega),Q2 h1],hls,(St.back hS.sp hi)⟩)
                                              | (refine zcf ?_
                                                 refine Zaa ?_;refine Qp ?_;refine Zab ?_
                                                 all_goals
                                                  first
                                                  | (refine zct ?_
                                                     refine ZbL ?_;refine zE2 (c:=jcall_c hm (Q9t hF (by omega)) hn hj hx' hls hS fd) (p:=by rintro v9 w9 ⟨c,g1,rfl,hS⟩;(repeat (first|refine Qj ?_|refine Ql ?_|refine fun _=>?_));refine QF ?_;refine .inr ⟨_,rfl,?_⟩;exact ⟨_,by rw [Q6Y (by omega)];exact g1,rfl,(St.back0 hS.sp hi)⟩) (h:=?_);rintro v1 w1 ⟨rfl,c1,s1,vl4,cs4,hle,hr1,hls4,hS⟩;have hS:=hS.ns;have hJ:JOk cx L j i (jins m j.f s x) (.tuple #[]) w1:=⟨rfl,c1,s1,vl4,cs4,hle,by rw [Q6Y (by omega)];exact hr1,hls4,(St.back hS.sp hi)⟩
                                                     refine zn ?_))))))
                             all_goals (refine Q17 ?_;exact .inl ⟨_,rfl,hJ⟩))))))
          | (refine zct ?_
             refine Zae ?_;refine ZbS ?_;refine zR1 (c:=jlen_c hS fd) (h:=?_);rintro v1 w1 ⟨rfl,hS⟩;first|(refine Qp ?_)|(refine Qu ?_)|(refine Q7 rfl rfl (fun hc=>?_) (fun hc=>?_))
             all_goals (refine Zbb ?_;refine Yam ?_;refine Yaa ?_;(first|refine zgn ?_|(refine zgy ?_;refine Q1T hS rfl fd rfl ?_));(first|refine zgn ?_|(refine zgy ?_;refine Q7K hS fd vw hlc ?_));first|refine zgn ?_|(refine zgy ?_;(first|(refine Qp ?_)|(refine Qu ?_)|(refine Q7 rfl rfl (fun hc=>?_) (fun hc=>?_)))))
             all_goals (refine Yad ?_;first|(refine zR2 (c:=Q1X hS) (h:=?_);rintro v1 w1 ⟨rfl,hS⟩)|(refine zE2 (c:=Q1W hS) (p:=by rintro v9 w9 ⟨rfl,hS⟩;(repeat (first|refine Qj ?_|refine Ql ?_|refine fun _=>?_));refine QF ?_;refine .inr ⟨_,rfl,?_⟩;exact ⟨_,by rw [Q9i (by omega),if_pos (by omega)],rfl,(St.back0 hS.sp hi)⟩) (h:=fun _ _ h=>h.elim)))
             refine zn ?_;refine Zbc ?_;refine ZbS ?_;refine zR1 (c:=jopen_c (h:=s.h) (by omega) hS fd) (h:=?_);rintro v1 w1 ⟨rfl,hS⟩;have hS:=hS.ns;refine zb2 [_,_,_] ?_;refine zE2 (c:=Q4W (s:=s) (by omega) (Q1d (k:=2) (r:=s.h.length) (l:=[]) (Rep.SR.nil _ _ _)) hls hS fd) (p:=by rintro v9 w9 ⟨rfl,h80,hS⟩;(repeat (first|refine Qj ?_|refine Ql ?_|refine fun _=>?_));refine QF ?_;refine .inr ⟨_,rfl,?_⟩;(exfalso;omega)) (h:=?_);rintro v1 w1 ⟨rfl,hne,vl4,cs4,hls4,hS⟩;have hS:=hS.ns;have hJ:JOk cx L j i (jins m j.f s x) (.tuple #[]) w1:=⟨rfl,cx,⟨s.h++[true],_⟩,vl4,cs4,St.refl hS,by rw [Q9i (by omega),if_neg (by omega)],hls4,(St.back hS.sp hi)⟩;refine zn ?_
             refine Q17 ?_;exact .inl ⟨_,rfl,hJ⟩)))
end Go.Proofs.YteflkifmgnpbhaaGreat
namespace Go.Proofs.YteflkifmgnpbhaaGreat
open Go.Lir
set_option maxHeartbeats 1000000
attribute [local irreducible] LC.wp Q0 QB QH retQ Q1k LO.wp Qh Calls
set_option linter.unusedSimpArgs false
set_option linter.unusedVariables false
attribute [local irreducible] hasB Q1o Q1c Q1e Q2L upTo
variable {cx:Cx}{w:World}{L:List Res}{j:JP}{h:List Bool}{vl:Value}{css:List (List Value)}{i:Nat}{m:Module}
theorem jto_c {s:JS}{t:To}{cs:List Value}(hsf:j.f.Short) (hb:0≤t.block∧t.block<j.f.blocks.length) (hfb:∀b∈j.f.blocks,j.f.regs≤b.regs) (hh:s.h.length≤16) (hj:j.Fits cx m) (hx:toR.at cx cs t) (hls:tyR.ls cx css s.l) (hS:St cx w L) (hi:nth L i=some (j.res s.h vl css)):
 Fins Tryz.prog Q7w [.pointer (some ⟨j.sp,0,none⟩), .agg ⟨cs⟩] w (fun u w'=>jto j.f s t= .ok ()∧u= .tuple #[]∧St cx w' L) (JNo cx L (jto j.f s t)):=by
 have hS:=hS.out hi
 obtain ⟨vr,va,rfl,hr,ha⟩:=Q1N hx
 have hlr:=hr.len
 have hbl:=hj.b
 unfold Fins
 refine lgo tyD Tryz.func249 ?_;refine Zaw ?_;intro p3 w1 hS;refine Zbe ?_;refine zC [(0,none),(1,none),(2,none),(3,none),(4,none),(5,none),(6,none),(7,none),(8,none),(9,some (some [4,6,8])),(10,some none)] ?_;have hS:=hS.drew;refine Zcs ?_;refine ZbR ?_;refine Q1T hS rfl fd rfl ?_;refine Zbd ?_;refine Yag ?_;refine Zac ?_;refine Yao ?_;intro b1 o1 cs1 x1 hat1 hx1 he1;obtain ⟨vp1,vc1,ve11,ve12,ve13,ve14,ve15,rfl,hp1,hc1,he11,he12,he13,he14,he15⟩:=QC he1;refine Zcg ?_;refine ZaO ?_;intro p4 w1 hS;refine zt ?_;refine ⟨List.forall_mem_cons.2 ⟨(by (exact Q19 hS rfl fd rfl)),List.forall_mem_cons.2 ⟨(by first|(exact Q19 hS rfl fd rfl)|(exact Q16 hS rfl fd rfl)),List.forall_mem_cons.2 ⟨(by first|(exact Q19 hS rfl fd rfl)|(exact Q28 hS rfl fd rfl rfl)|(exact Q38 hS (by assumption) rfl rfl rfl)),fun _ h=>(List.not_mem_nil h).elim⟩⟩⟩,?_⟩;refine s_cf ?_;refine zsn hS ?_;intro w1 hS;have hS:=hS.ns;refine ZaA ?_;have hbm:=List.mem_of_getElem? hx1;have hf1:=hfb x1 hbm;have hsb:=hsf.2.2.2 x1 hbm;refine Zaa ?_;refine ZaU ?_;refine zL ?_;refine ZaU ?_;first|(refine Qy ?_)|(refine Qz ?_)|(refine Qa rfl rfl (fun hc=>?_) (fun hc=>?_))
 all_goals (first|(refine zR2 (c:=Q1X hS) (h:=?_);rintro v1 w1 ⟨rfl,hS⟩)|(refine zE2 (c:=Q1W hS) (p:=by rintro v9 w9 ⟨rfl,hS⟩;(repeat (first|refine Qj ?_|refine Ql ?_|refine fun _=>?_));refine QF ?_;refine .inr ⟨_,rfl,?_⟩;exact ⟨_,Qdl hx1 (by omega),rfl,(St.back0 hS.sp hi)⟩) (h:=fun _ _ h=>h.elim)))
 refine zn ?_;refine Zan ?_;refine ZaL ?_;refine Yae ?_;refine Q1T hS rfl fd rfl ?_;refine ZaD ?_
 refine zoL hS [0,3,4,27] (fun A LL ρ' w'=>∃(q:Nat),Has ρ' A∧Has ρ' [(28, .int .i64 q)]∧(q≤j.f.regs.toNat)∧(Q2L t.regs q=true)∧(¬(t.regs.length:Int)≠x1.regs)∧St cx w' (LL)) (fun ρ' _=>(j.f.regs - iv (ρ' 28)).toNat) ?_ ?_
 · exact ⟨0,zh,zh,(by omega),by unfold Q2L;rfl,by omega,hS.sp⟩
 rintro ρ w1 ⟨q,hA,hρ,hq,hk,hne,hS⟩;obtain ⟨ρ,rfl⟩:=env2 hA hρ
 refine ZaV ?_
 refine Q5 rfl (fun hc=>?_) (fun hc=>?_)
 · skip
   refine Zar ?_;refine Zbm ?_;refine Q1z ?_;refine ZaU ?_;refine zm ?_;refine zi ?_;intro b2 o2 cs2 x2 hat2 hx2 he2;obtain rfl:=Qt he2;(first|(refine Q1T hS rfl fd rfl ?_)|(refine zl hS ?_)|(refine zlk hS ?_));refine zm ?_;first|(refine Qy ?_)|(refine Qz ?_)|(refine Qa rfl rfl (fun hc=>?_) (fun hc=>?_))
   all_goals (first|(refine zR2 (c:=Q1X hS) (h:=?_);rintro v1 w1 ⟨rfl,hS⟩)|(refine zE2 (c:=Q1W hS) (p:=by rintro v9 w9 ⟨rfl,hS⟩;(repeat (first|refine Qj ?_|refine Ql ?_|refine fun _=>?_));refine QF ?_;refine .inr ⟨_,rfl,?_⟩;exact ⟨_,Qbh hx1 hne (Q8m (q:=q) (by omega) (by rw [hx2];intro h;cases h;omega)),rfl,(St.back0 hS.sp hi)⟩) (h:=fun _ _ h=>h.elim)))
   refine ZbO ?_;(exact ⟨⟨q+1,zh,zh,(by omega),by rw [kept_s,hk,hx2];simp;omega,hne,hS.sp⟩,Q4 (by omega)⟩)
 · skip
   refine zex ?_;have hq':q=j.f.regs.toNat:=(by omega);rw [hq'] at hk;refine QJ ?_;refine zD (ci 8 [6,7]) ?_;have hS:=hS.drew;refine zm ?_;refine ZbS ?_;refine ZaU ?_;refine zR2 (c:=jpass_c (h:=s.h) hh hr hS fd) (h:=?_);rintro v1 w1 ⟨rfl,hS⟩;refine ZaW ?_;refine Q3h rfl rfl ?_;refine zm ?_;refine zE2 (c:=Q2O hS) (p:=by rintro v9 w9 ⟨rfl,hb,hS⟩;(repeat (first|refine Qj ?_|refine Ql ?_|refine fun _=>?_));refine QF ?_;refine .inr ⟨_,rfl,?_⟩;exact ⟨_,jto_p hx1 hne hk (of_decide_eq_true hb),rfl,(St.back0 hS.sp hi)⟩) (h:=?_);rintro v1 w1 ⟨rfl,hb,hS⟩;refine zn ?_;refine Zag ?_;refine ZaU ?_;refine ZaU ?_;refine ZaU ?_;refine zE4 (c:=Qav (s:=s) hsb.1.2 hls ha hp1 hr hS fd) (p:=by rintro v9 w9 ⟨c,g1,rfl,hS⟩;(repeat (first|refine Qj ?_|refine Ql ?_|refine fun _=>?_));refine QF ?_;refine .inr ⟨_,rfl,?_⟩;exact ⟨_,(jto_a hx1 hne hk (Classical.not_not.1 (of_decide_eq_false hb))).trans g1,rfl,(St.back0 hS.sp hi)⟩) (h:=?_);rintro v1 w1 ⟨har,rfl,hS⟩;refine zn ?_;refine Q17 ?_;exact .inl ⟨_,rfl,(jto_a hx1 hne hk (Classical.not_not.1 (of_decide_eq_false hb))).trans har,rfl,(St.back0 hS.sp hi)⟩
theorem jend_c {s:JS}{e:Tail}{cs:List Value}(hsf:j.f.Short) (hF:Q10 j.f.blocks.length e=0) (hfb:∀b∈j.f.blocks,j.f.regs≤b.regs) (hfr:j.f.regs≤100000) (hh:s.h.length≤16) (hj:j.Fits cx m) (hx:endR.at cx cs e) (hls:tyR.ls cx css s.l) (hS:St cx w L) (hi:nth L i=some (j.res s.h vl css)):
 Fins Tryz.prog Q6R [.pointer (some ⟨j.sp,0,none⟩), .agg ⟨cs⟩] w (fun u w'=>jend j.f s e= .ok ()∧u= .tuple #[]∧St cx w' L) (JNo cx L (jend j.f s e)):=by
 have hS:=hS.out hi
 obtain ⟨v1,v2,v3,v4,v5,rfl,h1,h2,h3,h4,h5⟩:=Q3u hx
 have hop:=Q2C hF
 have hy:e.op≠3→0≤e.yes.block∧e.yes.block<j.f.blocks.length:=fun h=>Q4O (by have:=hop.2.2.1;rwa [decide_eq_true h] at this)
 have hz:e.op=2→0≤e.no.block∧e.no.block<j.f.blocks.length:=fun h=>Q4O (by have:=hop.2.2.2;rwa [decide_eq_true h] at this)
 have hT1:toR.at cx [.int .i64 e.yes.block,v1,v2] e.yes:=⟨_,_,rfl,h1,h2⟩
 have hT2:toR.at cx [.int .i64 e.no.block,v3,v4] e.no:=⟨_,_,rfl,h3,h4⟩
 have hjr:=hj.r
 unfold Fins
 refine lgo tyD Tryz.func210 ?_;refine Zaw ?_;intro p3 w1 hS;refine zn ?_;refine Zaa ?_;refine ZaU ?_;refine Zcu ?_;refine Zaa ?_;first|(refine Qp ?_)|(refine Qu ?_)|(refine Q7 rfl rfl (fun hc=>?_) (fun hc=>?_))
 all_goals (refine Zab ?_)
 all_goals
  first
  | (refine zct ?_
     refine Zag ?_;refine ZbN ?_;refine zE2 (c:=jto_c (s:=s) hsf (hy (by omega)) hfb hh hj hT1 hls hS fd) (p:=by rintro v9 w9 ⟨c,g1,rfl,hS⟩;(repeat (first|refine Qj ?_|refine Ql ?_|refine fun _=>?_));refine QF ?_;refine .inr ⟨_,rfl,?_⟩;exact ⟨_,(Qdp (by omega)).trans g1,rfl,(St.back0 hS.sp hi)⟩) (h:=?_);rintro v6 w1 ⟨g1,rfl,hS⟩;have hJ:=(Qdp (f:=j.f) (s:=s) (e:=e) (by omega)).trans g1;refine zn ?_
     refine Q17 ?_;exact .inl ⟨_,rfl,hJ,rfl,(St.back0 hS.sp hi)⟩)
  | (refine zcf ?_
     refine Zaa ?_;first|(refine Qp ?_)|(refine Qu ?_)|(refine Q7 rfl rfl (fun hc=>?_) (fun hc=>?_))
     all_goals (refine Zab ?_)
     all_goals
      first
      | (refine zct ?_
         refine Zae ?_;refine ZaU ?_;refine zE3 (c:=Q3p (s:=s) hls hS fd) (p:=by rintro v9 w9 ⟨c,g1,rfl,hS⟩;(repeat (first|refine Qj ?_|refine Ql ?_|refine fun _=>?_));refine QF ?_;refine .inr ⟨_,rfl,?_⟩;exact ⟨_,by rw [Q70 (by omega),Qf g1],rfl,(St.back0 hS.sp hi)⟩) (h:=?_);rintro v6 w1 ⟨t1,cs1,g1,rfl,hrd1,hS⟩;refine ZbM ?_;refine ZbN ?_;refine zE2 (c:=jto_c (s:=s) hsf (hy (by omega)) hfb hh hj hT1 hls hS fd) (p:=by rintro v9 w9 ⟨c,g2,rfl,hS⟩;(repeat (first|refine Qj ?_|refine Ql ?_|refine fun _=>?_));refine QF ?_;refine .inr ⟨_,rfl,?_⟩;exact ⟨_,by rw [Q70 (by omega),Q2 g1,Qf g2],rfl,(St.back0 hS.sp hi)⟩) (h:=?_);rintro v6 w1 ⟨g2,rfl,hS⟩;refine zn ?_;refine Zag ?_;refine ZbN ?_;refine zE2 (c:=jto_c (s:=s) hsf (hz (by omega)) hfb hh hj hT2 hls hS fd) (p:=by rintro v9 w9 ⟨c,g3,rfl,hS⟩;(repeat (first|refine Qj ?_|refine Ql ?_|refine fun _=>?_));refine QF ?_;refine .inr ⟨_,rfl,?_⟩;exact ⟨_,by rw [Q70 (by omega),Q2 g1,Q2 g2];exact g3,rfl,(St.back0 hS.sp hi)⟩) (h:=?_);rintro v6 w1 ⟨g3,rfl,hS⟩;have hJ:jend j.f s e= .ok ():=(by rw [Q70 (by omega),Q2 g1,Q2 g2];exact g3);refine zn ?_
         refine Q17 ?_;exact .inl ⟨_,rfl,hJ,rfl,(St.back0 hS.sp hi)⟩)
      | (refine zcf ?_
         refine Zaa ?_;refine Qp ?_;refine Zab ?_
         all_goals
          first
          | (refine zcf ?_
             all_goals (refine zsk ?_)
             all_goals (refine Q17 ?_;exact .inl ⟨_,rfl,hJ,rfl,(St.back0 hS.sp hi)⟩))
          | (refine zct ?_
             refine Zbx ?_;refine ZaL ?_;refine Yae ?_;refine Q1T hS rfl fd rfl ?_;refine ZaD ?_;have hS:=St.nil (T:=3) (es:=1) hS
             refine zo [0,3,34] (fun A ρ' w'=>∃(q:Nat) (vo:Value) (co:List (List Value)),Has ρ' A∧Has ρ' [(35, .int .i64 q),(4,vo)]∧(q≤j.f.regs.toNat)∧(intR.ls cx co (upTo q))∧((upTo q).length=q)∧(e.op=3)∧St cx w' (sl 3 1 vo co::blk p3 90 [.int .i64 e.op, .int .i64 e.a, .int .i64 e.yes.block,v1,v2, .int .i64 e.no.block,v3,v4,v5]::j.res s.h vl css::L.eraseIdx i)) (fun ρ' _=>(j.f.regs - iv (ρ' 35)).toNat) ?_ ?_
             · exact ⟨0,_,[],zh,zh,(by omega),by unfold upTo;exact Rep.LR.nil _ _ _,by unfold upTo;rfl,by omega,hS.sp⟩
             rintro ρ w1 ⟨q,vo,co,hA,hρ,hq,hlo,hlq,ho3,hS⟩;obtain ⟨ρ,rfl⟩:=env2 hA hρ
             refine ZaV ?_
             refine Q5 rfl (fun hc=>?_) (fun hc=>?_)
             · skip
               refine Zar ?_;refine Zbm ?_;refine Zbc ?_;refine zB1 hS [_] ?_;intro b1 w1 hS;refine za Q3a Q61 hS ?_;intro vp1 w1 css1 hls1 hv1 hS;have hS:=hS.ns;refine Zab ?_;refine ZaP ?_;(exact ⟨⟨q+1,_,_,zh,zh,(by omega),by rw [QaP];exact hls1,by rw [QaP,List.length_append,hlq];rfl,ho3,hS.sp⟩,Q4 (by omega)⟩)
             · skip
               refine zex ?_;have hq':q=j.f.regs.toNat:=(by omega);rw [hq'] at hlo;obtain ⟨c1,hle2,hS,hk1⟩:=St.freezeL (r:=intR) hS hlo rfl (by rw [←hq'];omega);have hls':=hls.up hle2;have h5':=h5.up hle2;have hjr':=hjr.up hle2;refine QJ ?_;refine zD (ci 10 [9]) ?_;have hS:=hS.drew;refine zm ?_;refine ZaU ?_;refine zm ?_;refine ZaL ?_;refine Yae ?_;refine Q1T hS rfl fd rfl ?_;refine zm ?_;refine zE4 (c:=Qav (s:=s) hsf.2.1.2 hls' h5' hjr' hk1 hS fd) (p:=by rintro v9 w9 ⟨c,g1,rfl,hS⟩;(repeat (first|refine Qj ?_|refine Ql ?_|refine fun _=>?_));refine QF ?_;refine .inr ⟨_,rfl,?_⟩;exact ⟨_,by rw [Q7T ho3,Qf g1],rfl,St.weak (St.back0 hS.sp hi) hle2⟩) (h:=?_);rintro v6 w1 ⟨har,rfl,hS⟩;refine zn ?_;refine zC [(0,none),(1,none),(2,none),(3,none),(6,none),(7,none),(8,none),(9,none),(10,none),(4,some (some [10])),(5,none),(11,none),(12,some none)] ?_;have hS:=hS.drew;refine Zcs ?_;refine Zbd ?_;refine Q1T hS rfl fd rfl ?_;refine ZbX ?_;refine znc ?_;refine ZbR ?_;refine Q1T hS rfl fd rfl ?_;refine Zat ?_;refine zR1 (c:=jlist_c (h:=s.h) hh hS fd) (h:=?_);rintro v1 w1 ⟨c2,hle3,hk2,hS⟩;have hS:=St.weak hS hle3;have hS:=St.weak hS hle2;have hl2:=hk2.len;refine zt ?_;refine ⟨List.forall_mem_cons.2 ⟨(by (exact Q19 hS rfl fd rfl)),fun _ h=>(List.not_mem_nil h).elim⟩,?_⟩;refine s_cq ?_;refine zL ?_;refine Zac ?_;refine Q5j rfl rfl ?_;refine ZaE ?_;refine zE2 (c:=Q2O hS) (p:=by rintro v9 w9 ⟨rfl,hb,hS⟩;(repeat (first|refine Qj ?_|refine Ql ?_|refine fun _=>?_));refine QF ?_;refine .inr ⟨_,rfl,?_⟩;exact ⟨_,by rw [Q7T ho3,Q2 har,if_pos (by have:=of_decide_eq_true hb;omega)],rfl,(St.back0 hS.sp hi)⟩) (h:=?_);rintro v1 w1 ⟨rfl,hb,hS⟩;have hJ:jend j.f s e= .ok ():=(by rw [Q7T ho3,Q2 har,if_neg (by have:=of_decide_eq_false hb;omega)]);refine ZaA ?_
               refine Q17 ?_;exact .inl ⟨_,rfl,hJ,rfl,(St.back0 hS.sp hi)⟩)))
end Go.Proofs.YteflkifmgnpbhaaGreat
namespace Go.Proofs.YteflkifmgnpbhaaGreat
open Go.Lir
set_option maxHeartbeats 1000000
attribute [local irreducible] LC.wp Q0 QB QH retQ Q1k LO.wp Qh Calls
set_option linter.unusedSimpArgs false
set_option linter.unusedVariables false
attribute [local irreducible] hasB Q1o Q1c Q1e Q2L upTo
variable {cx:Cx}{w:World}{L:List Res}{j:JP}{h:List Bool}{vl:Value}{css:List (List Value)}{i:Nat}{m:Module}
theorem QdM {p:Nat}{n:Int}(hS:St cx w (blk p 3 [.int .i64 n]::L)):Defs Tryz.prog Q4s [.pointer (some ⟨p,0,none⟩)] .returning w fun u' w'=>u'= .returning∧St cx w' (blk p 3 [.int .i64 n]::L):=by
 unfold Defs
 refine lgr tyD Tryz.func237 ?_;refine r_seq ?_;refine r_sp ?_;refine zn ?_;refine Zab ?_;refine r_pl ?_;refine Zae ?_;refine s_inil_f (ms:=#[]) (by kernel_rfl) rfl ?_;refine zn ?_;refine Zcr ?_;refine q_endR ?_;refine Q17 ?_;exact ⟨⟨_,rfl⟩,rfl,hS.sp⟩
theorem QdL {p:Nat}{n e:Int}(hS:St cx w (blk p 3 [.int .i64 n]::L)):Defs Tryz.prog Q4s [.pointer (some ⟨p,0,none⟩)] (.panicking [{v:=Q51 e,recovered:=false}]) w fun u' w'=>u'= .panicking [{v:=Q51 e,recovered:=true}]∧St cx w' (blk p 3 [.int .i64 e]::L):=by
 unfold Defs
 refine lgr tyD Tryz.func237 ?_;refine r_seq ?_;refine r_sp ?_;refine zn ?_;refine Zab ?_;refine r_pl ?_;refine Zae ?_;refine s_inil_t (ms:=#[]) (by kernel_rfl) rfl ?_;refine zn ?_;refine zct ?_;refine Zae ?_;refine s_assert (D:= .int .i64) (by kernel_rfl) (by intro m;exact TypeDesc.noConfusion) rfl ?_;refine zm ?_;refine Zcd ?_;refine zm ?_;refine Zab ?_;refine Zan ?_;refine Zbo ?_;refine Zcr ?_;refine Zag ?_;refine zst hS ?_;intro w1 hS;have hS:=hS.ns;refine zn ?_;refine q_endR ?_;refine Q17 ?_;exact ⟨⟨_,rfl⟩,rfl,hS.sp⟩
theorem Qbt {f:FuncId}{cap:List Value}{X:Cx→List Res→Prop}{Y:Int→Cx→List Res→Prop}(hf:Q2z Tryz.prog f=true)
 (hc:∀(p:Nat) (w:World),St cx w (blk p 3 [.int .i64 0]::L)→Fins Tryz.prog f cap w (fun _ w'=>∃c' L',cx.Le c'∧St c' w' (blk p 3 [.int .i64 0]::L')∧X c' L') (fun u w'=>∃e c' L',u=Q51 e∧cx.Le c'∧St c' w' (blk p 3 [.int .i64 0]::L')∧Y e c' L')) (hS:St cx w L):
 Rets Tryz.prog Q9c [.func (.func f) #[] ⟨cap⟩] w fun u w'=>∃e c' L',u= .int .i64 e∧cx.Le c'∧St c' w' L'∧(e=0∧X c' L'∨Y e c' L'):=by
 refine lgd tyD Tryz.func205 ?_;refine d_seq ?_;refine d_pl ?_;refine Q1z ?_;refine Qb hS ?_;(intro p2 w1 hS);refine zn ?_;refine d_seq ?_;refine d_sp ?_;refine Q8V ?_;refine zn ?_;refine ⟨_,_,rfl,?_⟩;refine zn ?_;refine d_pl ?_;refine Zae ?_;refine s_endsv rfl hf rfl (hc _ _ hS) (by rintro v9 w9 ⟨e,c1,L1,rfl,hle,hS,hY⟩;(repeat (first|refine Qj ?_|refine Ql ?_));refine q_panD ?_;refine Q99 (by intro h;cases h) (by kernel_rfl) (QdL hS) ?_;rintro u' w' ⟨rfl,hS⟩;refine Q7P ?_;refine QK vw (Q7U (by kernel_rfl) (hS.blkAt nth0) rfl) ?_;exact ⟨_,rfl,e,c1,L1,rfl,hle,hS.drop, .inr hY⟩) ?_;rintro v1 w1 ⟨c1,L1,hle,hS,hX⟩;refine zn ?_;refine Zaa ?_;refine zst hS ?_;intro w1 hS;have hS:=hS.ns;refine ZaY ?_;refine q_retD ?_;refine Q99 (by intro h;cases h) (by kernel_rfl) (QdM hS) ?_;rintro u1 w1 ⟨rfl,hS⟩;refine Q7P ?_;refine QK vw (Q7U (by kernel_rfl) (hS.blkAt fd) rfl) ?_;((exact ⟨_,rfl,0,c1,L1,rfl,hle,hS.drop, .inl ⟨rfl,hX⟩⟩))
theorem jins1_c {s:JS}{x:Ins}{cs:List Value}{p pa pb:Nat}(hm:m.Short) (hF:Qm m.funcs.length x=0) (hn:s.l.length≤80) (hh:s.h.length≤16) (hj:j.Fits cx m) (hx:insR.at cx cs x) (hls:tyR.ls cx css s.l)
 (hS:St cx w (blk p 3 [.int .i64 0]::blk pb 84 cs::blk pa 207 [.pointer (some ⟨j.sp,0,none⟩)]::j.res s.h vl css::L)):
 Fins Tryz.prog Q5y [.pointer (some ⟨pa,0,none⟩), .pointer (some ⟨pb,0,none⟩)] w
  (fun _ w'=>∃c' L',cx.Le c'∧St c' w' (blk p 3 [.int .i64 0]::L')∧∃s' vl' css',jins m j.f s x= .ok s'∧tyR.ls c' css' s'.l∧L'=blk pb 84 cs::blk pa 207 [.pointer (some ⟨j.sp,0,none⟩)]::j.res s'.h vl' css'::L)
  (fun u w'=>∃e c' L',u=Q51 e∧cx.Le c'∧St c' w' (blk p 3 [.int .i64 0]::L')∧jins m j.f s x= .error e∧c'=cx∧L'=blk pb 84 cs::blk pa 207 [.pointer (some ⟨j.sp,0,none⟩)]::j.res s.h vl css::L):=by
 have hx':=hx
 obtain ⟨vr,va,rfl,hr,ha⟩:=QG hx
 unfold Fins
 refine lgo tyD Tryz.func206 ?_;refine Q1z ?_;refine zl hS ?_;refine zv hS ?_;refine zE2 (c:=jins_c hm hF hn hh hj hx' hls hS fd) (p:=by rintro v9 w9 ⟨c,g1,rfl,hS⟩;(repeat (first|refine Qj ?_|refine Ql ?_|refine fun _=>?_));refine QF ?_;refine .inr ⟨_,rfl,?_⟩;exact ⟨c,cx,_,rfl,St.refl hS,hS,g1,rfl,rfl⟩) (h:=?_);rintro v1 w1 ⟨rfl,c1,s1,vl4,cs4,hle,hr1,hls4,hS⟩;have hS:=hS.ns;refine zn ?_;refine Q17 ?_;exact .inl ⟨_,rfl,c1,_,hle,hS,s1,vl4,cs4,hr1,hls4,rfl⟩
theorem jIns_c {s:JS}{x:Ins}{cs:List Value}(hm:m.Short) (hn:s.l.length≤80) (hh:s.h.length≤16) (hj:j.Fits cx m) (hx:insR.at cx cs x) (hls:tyR.ls cx css s.l) (hS:St cx w L) (hi:nth L i=some (j.res s.h vl css)):
 Rets Tryz.prog Q6S [.pointer (some ⟨j.sp,0,none⟩), .agg ⟨cs⟩] w fun u w'=>u= .int .i64 (jIns m j.f s x).1∧∃c' vl' css',cx.Le c'∧tyR.ls c' css' (jIns m j.f s x).2.l∧St c' w' (L.set i (j.res (jIns m j.f s x).2.h vl' css')):=by
 have hS:=hS.out hi
 have hx':=hx
 obtain ⟨vr,va,rfl,hr,ha⟩:=QG hx
 unfold jIns
 refine lgo tyD Tryz.func148 ?_;refine Zaw ?_;intro p2 w1 hS;refine zb hS ?_;intro p3 w1 hS;refine Zab ?_;refine ZaS ?_;refine zD (ci 7 [5,6]) ?_;have hS:=hS.drew;refine Yag ?_;refine ZaL ?_;refine Q6c hS rfl fd rfl rfl ?_;(first|(refine Q6c hS rfl fd rfl rfl ?_)|(refine zv hS ?_));refine zR2 (c:=pins_c (m:=m) ⟨_,rfl,hj.m⟩ hx' hS) (h:=?_);rintro v1 w1 ⟨rfl,hS⟩;refine ZaW ?_;first|(refine Qy ?_)|(refine Qz ?_)|(refine Qa rfl rfl (fun hc=>?_) (fun hc=>?_))
 all_goals (refine zn ?_)
 all_goals
  first
  | (refine zct ?_
     refine Zbk ?_
     (exact ⟨_,rfl,by rw [if_pos (by omega)],cx,vl,css,St.refl hS,by rw [if_pos (by omega)];exact hls,by rw [if_pos (by omega)];exact (St.back hS.sp hi)⟩))
  | (refine zcf ?_
     refine zsk ?_)
 refine Zaa ?_;refine Q8V ?_;refine zR1 (c:=Qbt (by kernel_rfl) (fun p w hS=>jins1_c (s:=s) hm (by omega) hn hh hj hx' hls hS) hS.sp) (h:=?_);rintro v1 w1 ⟨e,c1,L1,rfl,hle,hS,⟨rfl,s1,vl4,cs4,hr1,hls4,rfl⟩|⟨hr1,rfl,rfl⟩⟩
 all_goals (refine ZaB ?_;(first|(exact ⟨_,rfl,by rw [if_pos (by omega)],cx,vl,css,St.refl hS,by rw [if_pos (by omega)];exact hls,by rw [if_pos (by omega)];exact (St.back hS.sp hi)⟩)|(exact ⟨_,rfl,by rw [if_neg (by omega),hr1],c1,vl4,cs4,hle,by rw [if_neg (by omega),hr1];exact hls4,by rw [if_neg (by omega),hr1];exact (St.back hS.sp hi)⟩)|(exact ⟨_,rfl,by rw [if_neg (by omega),hr1],_,vl,css,St.refl hS,by rw [if_neg (by omega),hr1];exact hls,by rw [if_neg (by omega),hr1];exact (St.back hS.sp hi)⟩)))
theorem jend1_c {s:JS}{x:Tail}{cs:List Value}{p pa pb:Nat}(hsf:j.f.Short) (hF:Q10 j.f.blocks.length x=0) (hfb:∀b∈j.f.blocks,j.f.regs≤b.regs) (hfr:j.f.regs≤100000) (hh:s.h.length≤16) (hj:j.Fits cx m) (hx:endR.at cx cs x) (hls:tyR.ls cx css s.l)
 (hS:St cx w (blk p 3 [.int .i64 0]::blk pb 90 cs::blk pa 207 [.pointer (some ⟨j.sp,0,none⟩)]::j.res s.h vl css::L)):
 Fins Tryz.prog Q5z [.pointer (some ⟨pa,0,none⟩), .pointer (some ⟨pb,0,none⟩)] w
  (fun _ w'=>∃c' L',cx.Le c'∧St c' w' (blk p 3 [.int .i64 0]::L')∧jend j.f s x= .ok ()∧c'=cx∧L'=blk pb 90 cs::blk pa 207 [.pointer (some ⟨j.sp,0,none⟩)]::j.res s.h vl css::L)
  (fun u w'=>∃e c' L',u=Q51 e∧cx.Le c'∧St c' w' (blk p 3 [.int .i64 0]::L')∧jend j.f s x= .error e∧c'=cx∧L'=blk pb 90 cs::blk pa 207 [.pointer (some ⟨j.sp,0,none⟩)]::j.res s.h vl css::L):=by
 have hx':=hx
 obtain ⟨u1,u2,u3,u4,u5,rfl,h1,h2,h3,h4,h5⟩:=Q3u hx
 unfold Fins
 refine lgo tyD Tryz.func209 ?_;refine Q1z ?_;refine zl hS ?_;refine zv hS ?_;refine zE2 (c:=jend_c hsf hF hfb hfr hh hj hx' hls hS fd) (p:=by rintro v9 w9 ⟨c,g1,rfl,hS⟩;(repeat (first|refine Qj ?_|refine Ql ?_|refine fun _=>?_));refine QF ?_;refine .inr ⟨_,rfl,?_⟩;exact ⟨c,cx,_,rfl,St.refl hS,hS,g1,rfl,rfl⟩) (h:=?_);rintro v1 w1 ⟨hr1,rfl,hS⟩;refine zn ?_;refine Q17 ?_;exact .inl ⟨_,rfl,cx,_,St.refl hS,hS,hr1,rfl,rfl⟩
theorem jEnd_c {s:JS}{x:Tail}{cs:List Value}(hsf:j.f.Short) (hfb:∀b∈j.f.blocks,j.f.regs≤b.regs) (hfr:j.f.regs≤100000) (hh:s.h.length≤16) (hj:j.Fits cx m) (hx:endR.at cx cs x) (hls:tyR.ls cx css s.l) (hS:St cx w L) (hi:nth L i=some (j.res s.h vl css)):
 Rets Tryz.prog Q6T [.pointer (some ⟨j.sp,0,none⟩), .agg ⟨cs⟩] w fun u w'=>u= .int .i64 (jEnd j.f s x)∧St cx w' L:=by
 have hS:=hS.out hi
 have hx':=hx
 obtain ⟨u1,u2,u3,u4,u5,rfl,h1,h2,h3,h4,h5⟩:=Q3u hx
 unfold jEnd
 refine lgo tyD Tryz.func149 ?_;refine Zaw ?_;intro p2 w1 hS;refine zb hS ?_;intro p3 w1 hS;refine Zab ?_;refine ZaS ?_;refine zD (ci 7 [5,6]) ?_;have hS:=hS.drew;refine Yag ?_;refine ZaL ?_;refine Q6c hS rfl fd rfl rfl ?_;(first|(refine Q6c hS rfl fd rfl rfl ?_)|(refine zv hS ?_));refine zR2 (c:=pend_c (x:=j.f) ⟨_,_,_,rfl,hj.p,hj.r,hj.b⟩ hx' hS) (h:=?_);rintro v1 w1 ⟨rfl,hS⟩;refine ZaW ?_;first|(refine Qy ?_)|(refine Qz ?_)|(refine Qa rfl rfl (fun hc=>?_) (fun hc=>?_))
 all_goals (refine zn ?_)
 all_goals
  first
  | (refine zct ?_
     refine Zbk ?_
     (exact ⟨_,rfl,by rw [if_pos (by omega)],(St.back0 hS.sp hi)⟩))
  | (refine zcf ?_
     refine zsk ?_)
 refine Zaa ?_;refine Q8V ?_;refine zR1 (c:=Qbt (by kernel_rfl) (fun p w hS=>jend1_c (s:=s) hsf (by omega) hfb hfr hh hj hx' hls hS) hS.sp) (h:=?_);rintro v1 w1 ⟨e,c1,L1,rfl,hle,hS,⟨rfl,hr1,rfl,rfl⟩|⟨hr1,rfl,rfl⟩⟩
 all_goals (refine ZaB ?_;(first|(exact ⟨_,rfl,by rw [if_pos (by omega)],(St.back0 hS.sp hi)⟩)|(exact ⟨_,rfl,by rw [if_neg (by omega),hr1],(St.back0 hS.sp hi)⟩)))
end Go.Proofs.YteflkifmgnpbhaaGreat
namespace Go.Proofs.YteflkifmgnpbhaaGreat
open Go.Lir
set_option maxHeartbeats 1000000
attribute [local irreducible] LC.wp Q0 QB QH retQ Q1k LO.wp Qh Calls
set_option linter.unusedSimpArgs false
set_option linter.unusedVariables false
attribute [local irreducible] hasB Q1o Q1c Q1e Q2L upTo Module.fault
variable {cx:Cx}{w:World}{L:List Res}{j:JP}{h:List Bool}{vl:Value}{css:List (List Value)}{i:Nat}{m:Module}
theorem clonet_c {l:List Ty}{v:Value}(hl:tyR.sl cx v l) (hb:l.length≤1000000) (hS:St cx w L):Rets Tryz.prog Q2p [v] w fun u w'=>oneC u=true∧∃css,tyR.ls cx css l∧St cx w' (sl 115 3 u css::L):=by
 obtain ⟨a,c,hv⟩:=Rep.SR.shape hl
 cases a with
 | none=>
   have hl0:=Rep.SR.nil_of hl hv
   subst hl0
   subst hv
   refine lgo tyD Tryz.func203 ?_;refine Zbx ?_;refine Q89 (e:=115) (by kernel_rfl) rfl rfl ?_;refine zn ?_
   all_goals
    first
    | (refine zct ?_
       refine Zas ?_
       (exact ⟨_,rfl,rfl,[],Rep.LR.nil _ _ _,hS.nil⟩))
   all_goals (refine Zaa ?_; fail "no law for buildSlice"; refine zm ?_; refine za Q2u Q4k hS ?_; intro vp1 w1 css1 hls1 hv1 hS; have hS := hS.ns; refine ZaB ?_; exact ⟨_, rfl, rfl, [], Rep.LR.nil _ _ _, hS.nil⟩)
 | some a=>
   have hn:tyR.ls cx [] []:=Rep.LR.nil _ _ _
   refine lgo tyD Tryz.func203 ?_;refine Zbx ?_;refine Q89 (e:=115) (by kernel_rfl) hv rfl ?_;refine zn ?_;refine Zcr ?_;refine Zaa ?_;refine QcI Q2u ?_;intro v1 w1 hf1 hs1 hz1;have hS:=hS.new (r:=sl 115 3 v1 []) hs1 hf1 (fun b hb=>Nat.le_of_eq hb.symm);refine zm ?_;(first|(refine za Q2u Q4k hS ?_;intro vp1 w1 css1 hls1 hv1 hS;have hS:=hS.ns)|(refine zak Q2u Q4k hS ?_;intro vp1 w1 css1 hls1 hv1 hS;have hS:=hS.ns));refine ZaB ?_;(exact ⟨_,rfl,by assumption,_,hls1,hS.sp⟩)
theorem JP.shut {v:Value}(hS:St cx w (blk j.sp 258 (j.cells vl)::blk j.hp 296 [v]::sl 4 1 v (h.map Qi)::sl 115 3 vl css::L)):St cx w (j.res h vl css::L):=by
 have h1:St cx w (Q8s j.hp h::sl 115 3 vl css::blk j.sp 258 (j.cells vl)::L):=Q2Q (hS.perm (by
  refine List.Perm.trans (List.Perm.swap _ _ _) (List.Perm.cons _ ?_)
  refine List.Perm.trans (List.Perm.swap _ _ _) (List.Perm.cons _ ?_)
  exact List.Perm.swap _ _ _))
 exact St.star' (St.mv1 (St.star' h1))
theorem jNew_c {f b:Int}{cs:List Value}(hm:m.Short) (hx:modR.at cx cs m) (hS:St cx w L):
 Rets Tryz.prog Q9d [.agg ⟨cs⟩, .int .i64 f, .int .i64 b] w fun u w'=>
  (m.fault.1≠0∧u= .tuple #[.pointer none,fltV m.fault]∧St cx w' L)∨
  (m.fault.1=0∧((f<0∨m.funcs.length≤f)∨∃fn,m.funcs[f.toNat]?=some fn∧(b<0∨fn.blocks.length≤b))∧u= .tuple #[.pointer none,fltV (1, -1)]∧St cx w' L)∨
  (∃(fn:Fun) (y:Block) (j:JP) (c':Cx) (vl:Value) (css:List (List Value)),m.fault.1=0∧0≤f∧0≤b∧m.funcs[f.toNat]?=some fn∧fn.blocks[b.toNat]?=some y∧u= .tuple #[.pointer (some ⟨j.sp,0,none⟩),fltV (0,0)]∧cx.Le c'∧j.Fits c' m∧j.f=fn∧tyR.ls c' css y.params∧St c' w' (j.res (Q1H y).h vl css::L)):=by
 obtain ⟨vf,rfl,hf⟩:=QP hx
 obtain ⟨a0,n0,rfl⟩:=Rep.SR.shape hf
 have hlf:=hf.len
 refine lgo tyD Tryz.func147 ?_;refine Zaw ?_;intro p3 w1 hS;refine zm ?_;refine Qb hS ?_;intro p7 w1 hS;refine Zbe ?_;refine ZaF ?_;refine zR1 (c:=Qb8 hm hx hS) (h:=?_);rintro v1 w1 ⟨rfl,hS⟩;unfold fltV;refine Qb hS ?_;intro p8 w1 hS;refine zsn hS ?_;intro w1 hS;have hS:=hS.ns;refine ZbP ?_;first|(refine Qy ?_)|(refine Qz ?_)|(refine Qa rfl rfl (fun hc=>?_) (fun hc=>?_))
 all_goals (refine zn ?_)
 all_goals
  first
  | (refine zct ?_
     refine QJ ?_;refine zD (ci 3 [2]) ?_;have hS:=hS.drew;refine zv hS ?_;refine zm ?_;((refine zsn hS ?_;intro w1 hS;have hS:=hS.ns));refine ZaY ?_;refine Qai vw vw (Q3 (n:=2) (by kernel_rfl) (by kernel_rfl) (hS.blkAt fd) (by rfl) (by rfl)) ?_
     (exact ⟨_,rfl, .inl ⟨by omega,rfl,hS.sp⟩⟩))
  | (refine zcf ?_
     refine zsk ?_)
 refine zML hS [1,2,3,7] (fun A LL ρ' w'=>Has ρ' A∧Has ρ' []∧(m.fault.1=0)∧(0≤f∧f<m.funcs.length∧∃fn,m.funcs[f.toNat]?=some fn∧0≤b∧b<fn.blocks.length)∧St cx w' (LL)) ?_ ?_
 · skip
   refine Zae ?_;first|(refine Q1f ?_)|(refine Q1g ?_)|(refine Qr rfl rfl (fun hc=>?_) (fun hc=>?_))
   all_goals (refine Zbb ?_;refine Zak ?_;refine Yai ?_;first|refine zgn ?_|(refine zgy ?_;(first|(refine Q2b ?_)|(refine Q2c ?_)|(refine Q1a rfl rfl (fun hc=>?_) (fun hc=>?_)))))
   all_goals (refine Yad ?_;refine Zbb ?_;first|refine zgn ?_|(refine zgy ?_;(first|(refine Q1f ?_)|(refine Q1g ?_)|(refine Qr rfl rfl (fun hc=>?_) (fun hc=>?_)))))
   all_goals (refine Yad ?_;refine Zbb ?_;refine Zak ?_;refine Yac ?_;(first|refine zgn ?_|(refine zgy ?_;refine Yao ?_;intro b1 o1 cs1 x1 hat1 hx1 he1;obtain ⟨vp1,vr1,vb1,rfl,hp1,hr1,hb1⟩:=Qo he1));refine Yah ?_;refine Yas ?_;refine Yai ?_;first|refine zgn ?_|(refine zgy ?_;(first|(refine Q2b ?_)|(refine Q2c ?_)|(refine Q1a rfl rfl (fun hc=>?_) (fun hc=>?_)))))
   all_goals (refine ZaK ?_;skip)
   all_goals
    first
    | (refine zcf ?_
       refine zsk ?_)
    | (refine zct ?_
       all_goals (refine Zaa ?_;refine zb2 [_,_] ?_;refine zm ?_;refine zsn hS ?_;intro w1 hS;have hS:=hS.ns;refine ZaY ?_;refine Qai vw vw (Q3 (n:=2) (by kernel_rfl) (by kernel_rfl) (hS.blkAt fd) (by rfl) (by rfl)) ?_)
       all_goals (first|(exact ⟨_,rfl, .inl ⟨by omega,rfl,hS.sp⟩⟩)|(exact ⟨_,rfl, .inr (.inl ⟨by omega, .inl (.inl (by omega)),rfl,hS.sp⟩)⟩)|(exact ⟨_,rfl, .inr (.inl ⟨by omega, .inl (.inr (by omega)),rfl,hS.sp⟩)⟩)|(exact ⟨_,rfl, .inr (.inl ⟨by omega, .inr ⟨_,List.getElem?_eq_getElem (i:=f.toNat) (by omega), .inl (by omega)⟩,rfl,hS.sp⟩)⟩)|(exact ⟨_,rfl, .inr (.inl ⟨by omega, .inr ⟨x1,hx1, .inr (by omega)⟩,rfl,hS.sp⟩)⟩)))
   ((exact ⟨zh,zh,by omega,by refine ⟨by omega,by omega,x1,hx1,by omega,by omega⟩,hS.sp⟩))
 rintro ρ w1 ⟨hA,hρ,hz,hb,hS⟩;obtain ⟨ρ,rfl⟩:=env2 hA hρ
 refine ZaF ?_;refine zR1 (c:=Qd7 hm hx hS) (h:=?_);rintro v1 w1 ⟨c1,ds,rfl,hle,hm2,hS⟩;obtain ⟨vm,rfl,hf2⟩:=QP hm2;obtain ⟨hb1,hb2,fn,hfn,hb3,hb4⟩:=hb;refine zb1 [_,_,_,_,_,_,_] ?_;refine zb hS ?_;intro p45 w1 hS;refine Zab ?_;skip;refine ZaG ?_;refine ZaL ?_;refine ZbK ?_;refine zm ?_;refine Yao ?_;intro b2 o2 cs2 x2 hat2 hx2 he2;obtain ⟨vp2,vr2,vb2,rfl,hp2,hr2,hb2⟩:=Qo he2;refine Yaf ?_;refine ZaL ?_;(first|(refine zsn hS ?_;intro w1 hS;have hS:=hS.ns)|(refine zsm hS ?_;intro w1 hS;have hS:=hS.ns));refine zn ?_;obtain rfl:fn=x2:=Option.some.inj (hfn.symm.trans hx2);have hsf:=hm.2 fn (List.mem_of_getElem? hfn);refine Zae ?_;refine ZaL ?_;refine ZbK ?_;refine zm ?_;refine Yao ?_;intro b3 o3 cs3 x3 hat3 hx3 he3;obtain ⟨vp3,vc3,ve31,ve32,ve33,ve34,ve35,rfl,hp3,hc3,he31,he32,he33,he34,he35⟩:=QC he3;refine ZaC ?_;intro p10 w1 hS;refine zsn hS ?_;intro w1 hS;have hS:=hS.ns;refine ZbM ?_;refine Zad ?_;refine zR1 (c:=new_u hS) (h:=?_);rintro v1 w1 ⟨hp,vh,rfl,hS⟩;refine ZaL ?_;refine zst hS ?_;intro w1 hS;have hS:=hS.ns;refine ZbM ?_;refine Zad ?_;refine zR1 (c:=clonet_c hp3 (by have:=(hsf.2.2.2 x3 (List.mem_of_getElem? hx3)).1.1;omega) hS) (h:=?_);rintro v1 w1 ⟨hvl,css4,hls4,hS⟩;refine ZaL ?_;refine zst hS ?_;intro w1 hS;have hS:=hS.ns;refine ZbM ?_;refine zb0 [_,_] ?_;refine zm ?_;refine zsn hS ?_;intro w1 hS;have hS:=hS.ns;refine ZaY ?_;refine Qai vw vw (Q3 (n:=2) (by kernel_rfl) (by kernel_rfl) (hS.blkAt fd) (by rfl) (by rfl)) ?_;(first|(exact ⟨_,rfl, .inl ⟨by omega,rfl,hS.sp⟩⟩)|(exact ⟨_,rfl, .inr (.inl ⟨by omega, .inl (.inl (by omega)),rfl,hS.sp⟩)⟩)|(exact ⟨_,rfl, .inr (.inl ⟨by omega, .inl (.inr (by omega)),rfl,hS.sp⟩)⟩)|(exact ⟨_,rfl, .inr (.inl ⟨by omega, .inr ⟨_,List.getElem?_eq_getElem (i:=f.toNat) (by omega), .inl (by omega)⟩,rfl,hS.sp⟩)⟩)|(exact ⟨_,rfl, .inr (.inl ⟨by omega, .inr ⟨x1,hx1, .inr (by omega)⟩,rfl,hS.sp⟩)⟩)|(exact ⟨_,rfl, .inr (.inr ⟨fn,x3,⟨p45,hp,fn,vm,vp2,vr2,vb2⟩,c1,_,css4,hz,by omega,by omega,hfn,hx3,rfl,hle,⟨hf2,hp2,hr2,hb2⟩,rfl,hls4,JP.shut (v:=vh) hS.sp⟩)⟩))
end Go.Proofs.YteflkifmgnpbhaaGreat
