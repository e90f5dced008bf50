/- Lemmas of the proof, part 4: what the functions of the program do (contracts), and what follows. -/
import Derived.Test.YteflkifmgnpbhaaGreatZ2
import Derived.Test.YteflkifmgnpbhaaGreatZ3
namespace Go.Proofs.YteflkifmgnpbhaaGreat
open Go.Lir
set_option maxHeartbeats 1000000
attribute [local irreducible] LC.wp Q0 Qk Qh retQ Qt LO.wp Q4 Calls
set_option linter.unusedSimpArgs false
set_option linter.unusedVariables false
variable {cx:Cx}{w:World}{L:List Res}{i:Nat}{N:Nat}{h:Value}{s:HpS}
theorem Qgk:Q1A Tryz.prog 265=some (272,2,32,[.bool false, .slice none 0 0]):=by kernel_rfl
theorem Qem:Q1A Tryz.prog 125=some (267,4,48,[.bool false, .slice none 0 0, .int .i64 0, .int .i64 0]):=by kernel_rfl
theorem Q8I:Q1A Tryz.prog 108=some (224,4,32,[.int .i64 0, .int .i64 0, .int .i64 0, .int .i64 0]):=by kernel_rfl
theorem QeE:∃e2,Tryz.prog.underlying 265=some (.slice e2):=⟨272,by kernel_rfl⟩
theorem QdO:∃e2,Tryz.prog.underlying 125=some (.slice e2):=⟨267,by kernel_rfl⟩
theorem Q9E:∃e2,Tryz.prog.underlying 108=some (.slice e2):=⟨224,by kernel_rfl⟩
theorem Qgq {s:HpS}{v:Val}{n:Int}(hc:s.can v=false):s.code v n=20:=by unfold HpS.code;rw [hc];rfl
theorem Qdl {s:HpS}{v:Val}{n:Int}(hc:s.code v n≠0) (kind:Int) (t:Thg):s.put v n t=s∧s.putV v kind n=Val.zero:=by unfold HpS.put HpS.putV;rw [if_neg hc,if_neg hc];exact ⟨rfl,rfl⟩
theorem one2 {a b:Value}(h1:oneC a=true) (h2:oneC b=true):∀u∈[a,b],oneC u=true:=by
 intro u hu;simp only [List.mem_cons,List.not_mem_nil,or_false] at hu;rcases hu with rfl|rfl;exact h1;exact h2
theorem QeB (l:List Val):∀c∈l.map Val.cells,∀u∈c,oneC u=true:=by
 intro c hc u hu;obtain ⟨v,_,rfl⟩:=List.mem_map.1 hc;simp [Val.cells] at hu;rcases hu with rfl|rfl|rfl|rfl <;> rfl

def Qci (r:RgnV) (v:Value) (t:ThgV):RgnV:=⟨r.there,v,r.l++[t],r.pages,r.used⟩
theorem Qfv {r:RgnV}{v:Value}{t:ThgV}:(Qci r v t).abs=r.abs.push t.abs:=by simp [Qci,RgnV.abs,Rgn.push]
theorem abs_len {r:RgnV}:r.abs.l.length=r.l.length:=List.length_map _
theorem put_yes {s:HpS}{m:Nat}{vt vn n kind:Int}{t:Thg}{r:RgnV}(hc:s.code ⟨2,m,vt,vn⟩ n=0) (hsl:s.l[m]?=some r.abs) (hrs:s.reg m=r.abs):
 s.put ⟨2,m,vt,vn⟩ n t=⟨s.l.set m ((r.abs.room n).push t),if r.abs.more n then s.left - 1 else s.left⟩∧(s.put ⟨2,m,vt,vn⟩ n t).live=s.live∧s.putV ⟨2,m,vt,vn⟩ kind n=⟨kind,m,r.abs.l.length,0⟩:=by
 have e:s.put ⟨2,m,vt,vn⟩ n t=⟨s.l.set m ((r.abs.room n).push t),if r.abs.more n then s.left - 1 else s.left⟩:=by
  unfold HpS.put;rw [if_pos hc];simp only [hrs,Int.toNat_natCast]
 refine ⟨e,?_,?_⟩
 · rw [e]
   have h1:=Q40 (r':=(r.abs.room n).push t) hsl
   have h2:((r.abs.room n).push t).there=r.abs.there:=by unfold Rgn.room;split <;> rfl
   rw [h2] at h1
   show (s.l.set m _).countP (fun r=> r.there)=s.l.countP fun r=> r.there
   omega
 · unfold HpS.putV;rw [if_pos hc];simp only [hrs]
theorem hput_c (v:Val) (kind n:Int) (arr:Bool) (tlv:Value) (tl:List Val) (hn:1≤n∧n≤1000) (hN:N≤100000) (htl:tl.length≤1000) (h1:oneC tlv=true) (hS:St cx w (sl H0.Tv 4 tlv (tl.map Val.cells)::L)) (hi:nth L i=some (Q1P N h s)):
 Rets Tryz.prog Qao [h,v.v, .int .i64 kind, .int .i64 n, .agg ⟨[.bool arr,tlv]⟩] w fun u w'=> u= .tuple #[(s.putV v kind n).v, .int .i64 (s.code v n)]∧St cx w' (L.set i (Q1P (N+1) h (s.put v n ⟨arr,tl⟩))):=by
 obtain ⟨hok,b,rfl⟩:=Q20 hS.drop hi
 obtain ⟨lv,rv,ho,hS⟩:=Q45 hS (i:=i+1) hi
 simp only [List.eraseIdx_cons_succ] at hS
 have ho1:HpO (N+1) s rv:=⟨ho.hr,hok.mono (by omega)⟩
 by_cases hk:v.kind=2
 · cases hh:s.has v.region with
   | false=>
     have hcan:s.can v=false:=by unfold HpS.can;rw [hh,Bool.and_false]
     have hc:=Qgq (n:=n) hcan
     obtain ⟨e1,e2⟩:=Qdl (s:=s) (v:=v) (n:=n) (by omega) kind ⟨arr,tl⟩
     rw [e1,e2,hc]
     all_goals refine lgo tyD Tryz.func217 ?_
     all_goals (refine Zaa ?_;refine Q23 hS vw (by rfl) ?_;intro b6 w1 hS;simp only [Val.cells] at hS;refine Q23 hS vw (by rfl) ?_;intro b9 w1 hS;refine Qg hS ?_;intro b10 w1 hS;refine ZaF ?_;refine Zaa ?_;refine zf0 ?_;refine zl hS ?_)
     all_goals (refine Yar ?_)
     all_goals (refine Zam ?_;refine Zan ?_;(first|refine zgn ?_|(refine zgy ?_;refine zR2 (c:=Q8q _ ho (St.rot3 hS)) (h:=?_);rintro v1 w1 ⟨rfl,hS⟩;rw [hh]));refine Yak ?_;refine ZaO ?_)
     all_goals refine zct ?_
     all_goals (refine Zaa ?_;refine zb0 [_,_,_,_] ?_;refine zsn hS ?_;intro w1 hS;have hS:=hS.ns;refine ZaK ?_;refine Q2g vw (Q9 (n:=4) (by kernel_rfl) (by kernel_rfl) (hS.blkAt fd) (by rfl) (by rfl)) vw ?_;exact ⟨_,rfl,rfl,(Qn ho1 (L:=L.eraseIdx i) hS.sp).back hi⟩)
   | true=>
     obtain ⟨vk,vr,vt,vn⟩:=v
     obtain rfl:vk=2:=hk
     obtain ⟨m,rfl,hm⟩:=ho.has_in hh
     replace hh:s.has (m:Int)=true:=hh
     obtain ⟨r,hr,hrs,hsl⟩:=ho.at_ hm
     have hcan:s.can ⟨2,m,vt,vn⟩=true:=by unfold HpS.can;rw [hh];rfl
     have hrn:=ho.rng hr
     have hpg:=hok.pages
     have hpr:=hpg.2 r.abs (List.mem_of_getElem? hsl)
     have hl0:=hok.left
     have hlm:(rv.map RgnV.cells).length=rv.length:=List.length_map _
     have hls:∀r',((rv.set m r').map RgnV.cells).length=rv.length:=fun r'=> by rw [List.length_map,List.length_set]
     have hpr':r.pages+s.left≤1000:=hpr
     have hcd:s.code ⟨2,m,vt,vn⟩ n=if r.abs.more n=true∧s.left=0 then 14 else 0:=by unfold HpS.code;rw [hcan];simp only [Bool.not_true,Bool.false_eq_true,if_false,hrs]
     obtain ⟨e3,e4,e5⟩:=roomV_abs (r:=r) (n:=n)
     all_goals refine lgo tyD Tryz.func217 ?_
     all_goals (refine Zaa ?_;refine Q23 hS vw (by rfl) ?_;intro b6 w1 hS;simp only [Val.cells] at hS;refine Q23 hS vw (by rfl) ?_;intro b9 w1 hS;refine Qg hS ?_;intro b10 w1 hS;refine ZaF ?_;refine Zaa ?_;refine zf0 ?_;(first|(refine Q6 hS hel rfl fd (hls _) (QX (Q1Y (by omega))) rfl ?_)|(refine zl hS ?_)))
     all_goals (refine Yar ?_)
     all_goals (refine Zam ?_;refine Yab ?_;(first|refine zgn ?_|(refine zgy ?_;(first|(refine Q6 hS hel rfl fd (hls _) (QX (Q1Y (by omega))) rfl ?_)|(refine zl hS ?_))));(first|refine zgn ?_|(refine zgy ?_;refine zR2 (c:=Q8q _ ho (St.rot3 hS)) (h:=?_);rintro v1 w1 ⟨rfl,hS⟩;rw [hh]));refine Yak ?_;refine ZaO ?_)
     all_goals refine zcf ?_
     all_goals (refine zsk ?_;refine QB ?_;refine zD (ci 8 [7]) ?_;have hS:=hS.drew;refine ZaA ?_;refine zf0 ?_;(first|(refine Q6 hS hel rfl fd (hls _) (QX (Q1Y (by omega))) rfl ?_)|(refine zl hS ?_));refine zf0 ?_;(first|(refine Q6 hS hel rfl fd (hls _) (QX (Q1Y (by omega))) rfl ?_)|(refine zl hS ?_));refine Q4c hS vw rfl fd (by omega) ?_;rw [hlm];intro b12 o12 hel;refine Zbj ?_;refine ZaT ?_)
     all_goals (refine zR3 (c:=hroom_c hn hel hr ⟨hl0,hpg.1⟩ ⟨hrn.2.2.1,by omega⟩ ⟨hrn.2.2.2.1,hrn.2.2.2.2.1⟩ hS) (h:=?_);rintro v2 w2 (⟨rfl,hmo,h0,hS⟩|⟨rfl,hnm,hS⟩))
     all_goals (refine ZaL ?_)
     all_goals (refine Yar ?_)
     all_goals (refine zn ?_)
     all_goals
      first
      | (refine zct ?_
         all_goals (refine Zaa ?_;refine zb0 [_,_,_,_] ?_;refine zm ?_;refine zsn hS ?_;intro w1 hS;have hS:=hS.ns;refine ZaK ?_;refine Q2g vw (Q9 (n:=4) (by kernel_rfl) (by kernel_rfl) (hS.blkAt fd) (by rfl) (by rfl)) vw ?_)
         all_goals (rw [if_pos ⟨hmo,h0⟩] at hcd;obtain ⟨e1,e2⟩:=Qdl (s:=s) (v:=⟨2,m,vt,vn⟩) (n:=n) (by omega) kind ⟨arr,tl⟩;rw [e1,e2,hcd];exact ⟨_,rfl,rfl,(Qn ho1 (L:=L.eraseIdx i) hS.sp).back hi⟩))
      | (refine zcf ?_
         all_goals refine zsk ?_)
     all_goals (refine QB ?_;rw [if_neg hnm] at hcd;have hS:=QO (H:=H0) hS (Q1Y (by omega));have hrl:=hrn.1;rw [←e5] at hrl;refine zC [(0,none),(1,none),(2,none),(3,none),(4,none),(5,none),(6,some (some [4])),(7,some (some [])),(8,none),(9,none),(10,some none)] ?_;have hS:=hS.drew;refine Zbg ?_;refine Zbw ?_;refine Q6 hS hel rfl fd (hls _) (QX (Q1Y (by omega))) rfl ?_;refine Zab ?_;refine zv hS ?_;refine Zaj ?_;refine zB1 hS [_,_] ?_;intro b1 w1 hS;refine zt ?_;refine ⟨List.forall_mem_cons.2 ⟨(by (exact Qm hS hel rfl fd (hls _) (QX (Q1Y (by omega))) rfl)),fun _ h=> (List.not_mem_nil h).elim⟩,?_⟩;refine Q4g ?_;refine Q1T Qgk (.inl QeE) hS vw vw fd (hS.srcB fd (by rfl) (one2 rfl h1)) (by first|omega|(simp only [List.length_map,List.length_append,List.length_cons,List.length_nil,List.length_set,List.length_replicate];omega)) ?_;intro v7 w7 hS;have hS:=hS.ns;have hS:=hS.drop)
     all_goals (refine zt ?_;refine ⟨fun _ h=> (List.not_mem_nil h).elim,?_⟩;refine s_cq ?_;refine Zaw ?_;refine Yad ?_;refine Zau ?_;refine Q1s hS hel rfl vw fd (hls (r.roomV n)) (QX (Q1Y (r:=r.roomV n) (by omega))) (by omega) (by first|rfl|assumption|exact hS.oneC fd) (Qb9 (r':=Qci (r.roomV n) v7 ⟨arr,tlv,tl⟩) rfl) ?_;intro w8 hS;have hS:=hS.ns;rw [List.set_set] at hS;refine Zao ?_;refine QB ?_;refine zD (ci 12 [10,11]) ?_;have hS:=hS.drew;refine zm ?_;refine zf0 ?_;(first|(refine Q6 hS hel rfl fd (hls _) (QX (Q1Y (by omega))) rfl ?_)|(refine zl hS ?_));refine Zbd ?_;refine Q6 (j:=1) (u:=v7) hS hel rfl fd (hls _) (QX (Q1Y (r:=Qci (r.roomV n) v7 ⟨arr,tlv,tl⟩) (by omega))) rfl ?_;refine QQ (n:=r.l.length+1) hS vw fd (by simp [e5]) ?_;refine zsu ?_;rw [show ((r.l.length+1:Nat):Int) - 1=r.l.length by omega];refine zb3 [_,_,_,_] ?_;refine zsn hS ?_;intro w1 hS;have hS:=hS.ns)
     all_goals (refine ZaK ?_;refine Q2g vw (Q9 (n:=4) (by kernel_rfl) (by kernel_rfl) (hS.blkAt fd) (by rfl) (by rfl)) vw ?_;(first|(rw [if_pos ⟨hmo,h0⟩] at hcd;obtain ⟨e1,e2⟩:=Qdl (s:=s) (v:=⟨2,m,vt,vn⟩) (n:=n) (by omega) kind ⟨arr,tl⟩;rw [e1,e2,hcd];exact ⟨_,rfl,rfl,(Qn ho1 (L:=L.eraseIdx i) hS.sp).back hi⟩)|(have hS:St cx _ (ThgV.res H0 ⟨arr,tlv,tl⟩::big (ThgV.res H0) (r.roomV n).l::sl H0.Tt 2 v7 (((r.roomV n).l++[(⟨arr,tlv,tl⟩:ThgV)]).map ThgV.cells)::blk b 127 [lv, .int .i64 (if r.abs.more n then s.left - 1 else s.left), .int .i64 s.live]::sl 267 4 lv ((rv.set m (Qci (r.roomV n) v7 ⟨arr,tlv,tl⟩)).map RgnV.cells)::big (RgnV.res H0) ((rv.set m (r.roomV n)).eraseIdx m)::L.eraseIdx i):=(by rw [List.map_append];exact hS.sp);have hS:=Qfl (H:=H0) (rv:=rv.set m (r.roomV n)) (k:=m) (r:=Qci (r.roomV n) v7 ⟨arr,tlv,tl⟩) (by rw [List.length_set];omega) (St.big_push hS).mv1;rw [List.set_set] at hS;obtain ⟨e6,e7,e8⟩:=put_yes (t:=⟨arr,tl⟩) (kind:=kind) hcd hsl hrs;have ho2:HpO (N+1) (s.put ⟨2,m,vt,vn⟩ n ⟨arr,tl⟩) (rv.set m (Qci (r.roomV n) v7 ⟨arr,tlv,tl⟩)):=⟨by rw [List.map_set,Qfv,e3,ho.hr,e6];rfl,HpS.ok_put hok hn htl⟩;rw [e8,hcd];exact ⟨_,rfl,by rw [abs_len];rfl,(Qn ho2 (by rw [e7,e6];exact hS)).back hi⟩)))
 · have hcan:s.can v=false:=by unfold HpS.can;rw [decide_eq_false hk,Bool.false_and]
   have hc:=Qgq (n:=n) hcan
   obtain ⟨e1,e2⟩:=Qdl (s:=s) (v:=v) (n:=n) (by omega) kind ⟨arr,tl⟩
   rw [e1,e2,hc]
   all_goals refine lgo tyD Tryz.func217 ?_
   all_goals (refine Zaa ?_;refine Q23 hS vw (by rfl) ?_;intro b6 w1 hS;simp only [Val.cells] at hS;refine Q23 hS vw (by rfl) ?_;intro b9 w1 hS;refine Qg hS ?_;intro b10 w1 hS;refine ZaF ?_;refine Zaa ?_;refine zf0 ?_;refine zl hS ?_)
   all_goals (refine Q1D ?_)
   all_goals (refine zm ?_;refine zgn ?_;refine zgn ?_;refine zgn ?_;refine zgn ?_;refine zgn ?_;refine zpt ?_;refine zn ?_)
   all_goals refine zct ?_
   all_goals (refine Zaa ?_;refine zb0 [_,_,_,_] ?_;refine zsn hS ?_;intro w1 hS;have hS:=hS.ns;refine ZaK ?_;refine Q2g vw (Q9 (n:=4) (by kernel_rfl) (by kernel_rfl) (hS.blkAt fd) (by rfl) (by rfl)) vw ?_;exact ⟨_,rfl,rfl,(Qn ho1 (L:=L.eraseIdx i) hS.sp).back hi⟩)
theorem hclone_c {v:Value}{l:List Val}(hS:St cx w L) (hi:nth L i=some (sl H0.Tv 4 v (l.map Val.cells))) (hl:l.length≤1000000):Rets Tryz.prog Q2I [v] w fun u w'=> St cx w' (sl H0.Tv 4 u (l.map Val.cells)::L)∧oneC u=true:=by
 obtain ⟨a,c,hv⟩:=hS.shape hi
 have hlen:(l.map Val.cells).length=l.length:=List.length_map _
 cases a with
 | none=>
   have hn:l.map Val.cells=[]:=by
    obtain ⟨F,hr,_⟩:=hS.step hi
    obtain ⟨_,⟨_,h2,_⟩|⟨b,off,cap,arr,h1,_⟩⟩:=hr
    · exact h2
    · rw [hv] at h1;simp at h1
   subst hv
   all_goals refine lgo tyD Tryz.func218 ?_
   all_goals (refine ZaQ ?_;refine Q3u (e:=224) (by kernel_rfl) rfl rfl ?_;refine zn ?_)
   all_goals refine zct ?_
   all_goals (refine Zas ?_;exact ⟨_,rfl,by rw [hn];exact hS.nil,rfl⟩)
 | some a=>
   all_goals refine lgo tyD Tryz.func218 ?_
   all_goals (refine ZaQ ?_;refine Q3u (e:=224) (by kernel_rfl) hv rfl ?_;refine zn ?_)
   all_goals refine zcf ?_
   all_goals (refine zsk ?_;refine Zaa ?_;refine Q7T Q8I ?_;intro v1 w1 hf1 hs1 hz1;have hS:=hS.new (r:=sl 224 4 v1 []) hs1 hf1 (fun b hb=> Nat.le_of_eq hb.symm);refine zm ?_;refine Q1T Q8I (.inl Q9E) hS vw vw nth0 (St.srcS (i:=i+1) (T:=H0.Tv) (v:=v) (css:=l.map Val.cells) hS hi (QeB l)) (by rw [hlen,List.length_nil];omega) ?_;intro v2 w2 hS;have hS:=hS.ns;have h1:=hS.oneC nth0;refine Zap ?_;exact ⟨_,rfl,hS,h1⟩)
theorem hopen_c (hN:N≤100000) (hS:St cx w L) (hi:nth L i=some (Q1P N h s)):Rets Tryz.prog Q96 [h] w fun u w'=> u= .tuple #[s.openV.v, .bool (!s.full)]∧St cx w' (L.set i (Q1P (N+1) h s.open)):=by
 obtain ⟨hok,b,rfl⟩:=Q20 hS hi
 obtain ⟨lv,rv,ho,hS⟩:=Q45 hS hi
 have hlv:=hok.live
 have hlen:=ho.len
 have hsl:=hok.len
 cases hf:s.full with
 | true=>
   have h16:s.live=16:=of_decide_eq_true hf
   have e1:s.open=s:=by unfold HpS.open;rw [hf];rfl
   have e2:s.openV=Val.zero:=by unfold HpS.openV;rw [hf];rfl
   rw [e1,e2]
   all_goals refine lgo tyD Tryz.func171 ?_
   all_goals (refine Zbe ?_;intro p2 w1 hS;refine Zbj ?_;refine znc ?_;refine zf0 ?_;refine zl hS ?_)
   all_goals (refine Ql ?_)
   all_goals (refine zn ?_)
   all_goals refine zct ?_
   all_goals (refine Zaa ?_;refine zb0 [_,_,_,_] ?_;refine zsn hS ?_;intro w1 hS;have hS:=hS.ns;refine ZaK ?_;refine Q2g vw (Q9 (n:=4) (by kernel_rfl) (by kernel_rfl) (hS.blkAt fd) (by rfl) (by rfl)) vw ?_;exact ⟨_,rfl,rfl,(Qn (⟨ho.hr,hok.mono (by omega)⟩:HpO (N+1) s rv) (L:=L.eraseIdx i) hS.sp).back hi⟩)
 | false=>
   have h16:s.live≠16:=of_decide_eq_false hf
   have e1:s.open=⟨s.l++[⟨true,[],0,0⟩],s.left⟩:=by unfold HpS.open;rw [hf];rfl
   have e2:s.openV=⟨2,s.l.length,0,0⟩:=by unfold HpS.openV;rw [hf];rfl
   have e3:(s.open.live:Int)=s.live+1:=by
    have:s.open.live=s.live+1:=by rw [e1];unfold HpS.live;simp [List.countP_append]
    omega
   have ho2:HpO (N+1) s.open (rv++[⟨true, .slice none 0 0,[],0,0⟩]):=⟨by rw [List.map_append,ho.hr,e1];rfl,HpS.ok_open hok⟩
   all_goals refine lgo tyD Tryz.func171 ?_
   all_goals (refine Zbe ?_;intro p2 w1 hS;refine Zbj ?_;refine znc ?_;refine zf0 ?_;refine zl hS ?_)
   all_goals (refine Yap ?_)
   all_goals (refine zn ?_)
   all_goals refine zcf ?_
   all_goals (refine zsk ?_;refine ZaR ?_;refine zf0 ?_;refine zl hS ?_;refine zad ?_;refine znc ?_;refine zf0 ?_;refine zst hS ?_;intro w1 hS;have hS:=hS.ns;refine Zaz ?_;refine ZaA ?_;refine zf0 ?_;refine zl hS ?_;refine zb1 [_,_,_,_] ?_;refine zB1 hS [_,_,_,_] ?_;intro b1 w1 hS;refine Q1T Qem (.inl QdO) hS vw vw fd (hS.srcB fd (by rfl) (by simp [oneC])) (by first|omega|(simp only [List.length_map,List.length_append,List.length_cons,List.length_nil,List.length_set,List.length_replicate];omega)) ?_;intro v7 w7 hS;have hS:=hS.ns;refine znc ?_;refine zf0 ?_;refine zst hS ?_;intro w1 hS;have hS:=hS.ns)
   all_goals (refine ZbD ?_;refine zf0 ?_;refine zl hS ?_;refine QQ (n:=rv.length+1) hS vw fd (by simp) ?_;refine zsu ?_;rw [show ((rv.length+1:Nat):Int) - 1=s.l.length by omega];refine zb2 [_,_,_,_] ?_;refine zsn hS ?_;intro w1 hS;have hS:=hS.ns;refine ZaK ?_;refine Q2g vw (Q9 (n:=4) (by kernel_rfl) (by kernel_rfl) (hS.blkAt fd) (by rfl) (by rfl)) vw ?_;rw [e2];refine ⟨_,rfl,rfl,(Qn (lv:=v7) ho2 (L:=L.eraseIdx i) ?_).back hi⟩;rw [e3];have hS:St cx _ (big (RgnV.res H0) rv::blk b 127 [v7, .int .i64 s.left, .int .i64 (s.live+1)]::sl 267 4 v7 ((rv++[(⟨true, .slice none 0 0,[],0,0⟩:RgnV)]).map RgnV.cells)::L.eraseIdx i):=(by rw [List.map_append];exact hS.sp);have hS:=St.star' (St.nil (T:=H0.Tt) (es:=2) (St.big_nil (ThgV.res H0) hS));have hS:=St.big_push (f:=RgnV.res H0) (l:=rv) (x:=⟨true, .slice none 0 0,[],0,0⟩) hS;rw [e1];exact hS.sp)
theorem shut_no {s:HpS}{v:Val}(h:s.can v=false):s.shut v=s:=by unfold HpS.shut;rw [h];rfl
theorem big_nilR {rv:List RgnV}{k:Nat}(hk:k < rv.length){x y:Res}(hS:St cx w (x::y::big (RgnV.res H0) (rv.eraseIdx k)::L)):St cx w (x::y::big (RgnV.res H0) (rv.set k RgnV.nil)::L):=
 Qfl (H:=H0) (r:=RgnV.nil) hk (St.nil (St.big_nil (ThgV.res H0) hS))
theorem hshut_c (v:Val) (hS:St cx w L) (hi:nth L i=some (Q1P N h s)):Rets Tryz.prog Q95 [h,v.v] w fun u w'=> u= .bool (s.can v)∧St cx w' (L.set i (Q1P N h (s.shut v))):=by
 obtain ⟨hok,b,rfl⟩:=Q20 hS hi
 obtain ⟨lv,rv,ho,hS⟩:=Q45 hS hi
 have hlv:=hok.live
 by_cases hk:v.kind=2
 · cases hh:s.has v.region with
   | false=>
     have hcan:s.can v=false:=by unfold HpS.can;rw [hh,Bool.and_false]
     rw [shut_no hcan,hcan]
     all_goals refine lgo tyD Tryz.func173 ?_
     all_goals (refine Zaa ?_;refine Q23 hS vw (by rfl) ?_;intro b6 w1 hS;simp only [Val.cells] at hS;refine ZaF ?_;refine Zaa ?_;refine zf0 ?_;refine zl hS ?_)
     all_goals (refine Yar ?_)
     all_goals (refine Zam ?_;refine Zan ?_;(first|refine zgn ?_|(refine zgy ?_;refine zR2 (c:=Q8q _ ho (St.rot1 hS)) (h:=?_);rintro v1 w1 ⟨rfl,hS⟩;rw [hh]));refine Yak ?_;refine ZaO ?_)
     all_goals refine zct ?_
     all_goals (refine Zas ?_;exact ⟨_,rfl,rfl,(Qn ho (L:=L.eraseIdx i) hS.sp).back hi⟩)
   | true=>
     obtain ⟨vk,vr,vt,vn⟩:=v
     obtain rfl:vk=2:=hk
     obtain ⟨m,rfl,hm⟩:=ho.has_in hh
     replace hh:s.has (m:Int)=true:=hh
     obtain ⟨r,hr,hrs,hsl⟩:=ho.at_ hm
     have hcan:s.can ⟨2,m,vt,vn⟩=true:=by unfold HpS.can;rw [hh];rfl
     have hrn:=ho.rng hr
     have hpg:=hok.pages
     have hpr':r.pages+s.left≤1000:=hpg.2 r.abs (List.mem_of_getElem? hsl)
     have hl0:=hok.left
     have hth:r.there=true:=by unfold HpS.has at hh;rw [hrs] at hh;exact hh
     have hlm:(rv.map RgnV.cells).length=rv.length:=List.length_map _
     have e1:s.shut ⟨2,m,vt,vn⟩=⟨s.l.set m Rgn.none,s.left+r.pages⟩:=by unfold HpS.shut;rw [if_pos hcan];simp only [hrs,Int.toNat_natCast];rfl
     have e2:((s.shut ⟨2,m,vt,vn⟩).live:Int)=s.live - 1:=by
      rw [e1]
      have h1:=Q40 (r':=Rgn.none) hsl
      have h2:r.abs.there=true:=hth
      rw [h2] at h1
      simp only [Rgn.none,if_true,Bool.false_eq_true,if_false] at h1
      show (((s.l.set m Rgn.none).countP fun r=> r.there:Nat):Int)=((s.l.countP fun r=> r.there:Nat):Int) - 1
      simp only [Rgn.none]
      omega
     have hlive:1≤s.live:=by omega
     have ho2:HpO N (s.shut ⟨2,m,vt,vn⟩) (rv.set m RgnV.nil):=⟨by rw [List.map_set,ho.hr,e1];rfl,by rw [e1];exact HpS.ok_shut hok hsl⟩
     rw [hcan]
     all_goals refine lgo tyD Tryz.func173 ?_
     all_goals (refine Zaa ?_;refine Q23 hS vw (by rfl) ?_;intro b6 w1 hS;simp only [Val.cells] at hS;refine ZaF ?_;refine Zaa ?_;refine zf0 ?_;(first|(refine Q6 hS hel rfl fd hlm (QX hr) rfl ?_)|(refine zl hS ?_)))
     all_goals (refine Yar ?_)
     all_goals (refine Zam ?_;refine Yab ?_;(first|refine zgn ?_|(refine zgy ?_;(first|(refine Q6 hS hel rfl fd hlm (QX hr) rfl ?_)|(refine zl hS ?_))));(first|refine zgn ?_|(refine zgy ?_;refine zR2 (c:=Q8q _ ho (St.rot1 hS)) (h:=?_);rintro v1 w1 ⟨rfl,hS⟩;rw [hh]));refine Yak ?_;refine ZaO ?_)
     all_goals refine zcf ?_
     all_goals (refine zsk ?_;refine QB ?_;refine zD (ci 8 [7]) ?_;have hS:=hS.drew;refine ZaA ?_;refine zf0 ?_;(first|(refine Q6 hS hel rfl fd hlm (QX hr) rfl ?_)|(refine zl hS ?_));refine zf0 ?_;(first|(refine Q6 hS hel rfl fd hlm (QX hr) rfl ?_)|(refine zl hS ?_));refine Q4c hS vw rfl fd (by omega) ?_;rw [hlm];intro b12 o12 hel;refine ZaF ?_;refine zD (ci 12 [11]) ?_;have hS:=hS.drew;refine ZaA ?_;refine zf0 ?_;(first|(refine Q6 hS hel rfl fd hlm (QX hr) rfl ?_)|(refine zl hS ?_));refine Zbd ?_;refine Q6 hS hel rfl fd hlm (QX hr) rfl ?_;refine zad ?_)
     all_goals (refine znc ?_;refine zf0 ?_;refine zst hS ?_;intro w1 hS;have hS:=hS.ns;refine Zaz ?_;refine zb0 [_,_,_,_] ?_;refine znc ?_;refine Q2W hS hel rfl rfl (by rfl) fd hlm (QX hr) rfl (by simp [oneC]) (rcset (r':=RgnV.nil)) ?_;intro w8 hS;have hS:=hS.ns;have hS:=big_nilR hm ((QO (H:=H0) hS hr).drop.drop);refine ZbD ?_;refine zf0 ?_;(first|(refine Q6 hS hel rfl fd hlm (QX hr) rfl ?_)|(refine zl hS ?_));refine zsu ?_;refine znc ?_;refine zf0 ?_;refine zst hS ?_;intro w1 hS;have hS:=hS.ns;refine zn ?_;refine Zas ?_;exact ⟨_,rfl,rfl,(Qn ho2 (L:=L.eraseIdx i) (by rw [e2,e1];exact hS.sp)).back hi⟩)
 · have hcan:s.can v=false:=by unfold HpS.can;rw [decide_eq_false hk,Bool.false_and]
   rw [shut_no hcan,hcan]
   all_goals refine lgo tyD Tryz.func173 ?_
   all_goals (refine Zaa ?_;refine Q23 hS vw (by rfl) ?_;intro b6 w1 hS;simp only [Val.cells] at hS;refine ZaF ?_;refine Zaa ?_;refine zf0 ?_;refine zl hS ?_)
   all_goals (refine Q1D ?_)
   all_goals (refine zm ?_;refine zgn ?_;refine zgn ?_;refine zgn ?_;refine zgn ?_;refine zgn ?_;refine zpt ?_;refine zn ?_)
   all_goals refine zct ?_
   all_goals (refine Zas ?_;exact ⟨_,rfl,rfl,(Qn ho (L:=L.eraseIdx i) hS.sp).back hi⟩)
theorem Q7C (hS:St cx w L) (hi:nth L i=some (Q1P N h s)):Rets Tryz.prog Q8u [h] w fun u w'=> u= .int .i64 s.left∧St cx w' L:=by
 obtain ⟨hok,b,rfl⟩:=Q20 hS hi
 obtain ⟨lv,rv,ho,hS⟩:=Q45 hS hi
 all_goals refine lgo tyD Tryz.func26 ?_
 all_goals (refine ZbE ?_;refine zf0 ?_;refine zl hS ?_;refine Zap ?_;exact ⟨_,rfl,rfl,(Qn ho hS).back0 hi⟩)
theorem Qam (hS:St cx w L) (hi:nth L i=some (Q1P N h s)):Rets Tryz.prog Q97 [h] w fun u w'=> u= .int .i64 s.live∧St cx w' L:=by
 obtain ⟨hok,b,rfl⟩:=Q20 hS hi
 obtain ⟨lv,rv,ho,hS⟩:=Q45 hS hi
 all_goals refine lgo tyD Tryz.func27 ?_
 all_goals (refine ZbE ?_;refine zf0 ?_;refine zl hS ?_;refine Zap ?_;exact ⟨_,rfl,rfl,(Qn ho hS).back0 hi⟩)
theorem HpS.ok_new {n:Int}(hn:0≤n∧n≤1000):(⟨[],n⟩:HpS).Ok 0:=⟨Nat.le_refl _,by simp,hn.1,by simp;omega,by simp [HpS.live]⟩
theorem Qdy (n:Int) (hn:0≤n∧n≤1000) (hS:St cx w L):Rets Tryz.prog heap_New [.int .i64 n] w fun u w'=>∃b,u= .pointer (some ⟨b,0,none⟩)∧St cx w' (Q1P 0 (.pointer (some ⟨b,0,none⟩)) ⟨[],n⟩::L):=by
 all_goals refine lgo tyD Tryz.func63 ?_
 all_goals (refine ZbA ?_;refine zb1 [_,_,_] ?_;refine zb hS ?_;intro p5 w1 hS;refine Zap ?_;exact ⟨_,rfl,_,rfl,Qn (lv:= .slice none 0 0) (rv:=[]) ⟨rfl,HpS.ok_new hn⟩ ((St.nil (T:=267) (es:=4) (St.big_nil (RgnV.res H0) hS)).sub (by (repeat (first|exact Sub.same _|refine Sub.t2 ?_|refine Sub.t0 ?_|refine Sub.t1 ?_));first|done|fail))⟩)
theorem hlen_c (v:Val) (hS:St cx w L) (hi:nth L i=some (Q1P N h s)):Rets Tryz.prog Qar [h,v.v] w fun u w'=> u= .tuple #[.int .i64 (s.len v).1, .int .i64 (s.len v).2]∧St cx w' L:=by
 obtain ⟨hok,b,rfl⟩:=Q20 hS hi
 obtain ⟨lv,rv,ho,hS⟩:=Q45 hS hi
 all_goals refine lgo tyD Tryz.func182 ?_
 all_goals (refine Zaa ?_;refine Q23 hS vw (by rfl) ?_;intro b6 w1 hS;refine zm ?_;refine ZaL ?_;refine zv hS ?_)
 all_goals (refine zR2 (c:=hat_c v ho (St.rot1 hS)) (h:=?_);rintro v1 w1 ⟨hS,(⟨e0,rfl⟩|⟨k,t,th,e0,r,b7,o7,hr,hth,rfl,hel⟩)⟩)
 all_goals (refine Zbj ?_;(first|refine Q9R (e:=272) (by kernel_rfl) rfl rfl ?_|refine Q9S (e:=272) (by kernel_rfl) rfl rfl ?_);refine zn ?_)
 all_goals
  first
  | (refine zct ?_
     all_goals (refine Zac ?_;refine ZaZ ?_)
     all_goals ((first|exact ⟨_,rfl,by unfold HpS.len;rw [e0];simp only [ho.thg hr hth];rfl,(Qn ho (L:=L.eraseIdx i) hS.sp).back0 hi⟩|exact ⟨_,rfl,by unfold HpS.len;rw [e0],(Qn ho (L:=L.eraseIdx i) hS.sp).back0 hi⟩)))
  | (refine zcf ?_
     all_goals refine zsk ?_)
 all_goals (refine ZaR ?_;refine Yad ?_;refine Q6 (QO (H:=H0) hS hr) hel rfl nth0 (List.length_map _) (Q3P hth) rfl ?_;refine QQ (Q6r (H:=H0) (QO (H:=H0) hS hr) hth) vw nth0 (by exact List.length_map _) ?_;refine Zbz ?_;exact ⟨_,rfl,by unfold HpS.len;rw [e0];simp only [ho.thg hr hth];rfl,(Qn ho (L:=L.eraseIdx i) hS.sp).back0 hi⟩)
theorem Q8r (v:Val) (k:Int) (hS:St cx w L) (hi:nth L i=some (Q1P N h s)):Rets Tryz.prog Qas [h,v.v, .int .i64 k] w fun u w'=> u= .tuple #[(s.get v k).1.v, .int .i64 (s.get v k).2]∧St cx w' L:=by
 obtain ⟨hok,b,rfl⟩:=Q20 hS hi
 obtain ⟨lv,rv,ho,hS⟩:=Q45 hS hi
 all_goals refine lgo tyD Tryz.func178 ?_
 all_goals (refine Zaa ?_;refine Q23 hS vw (by rfl) ?_;intro b6 w1 hS;refine Qg hS ?_;intro b8 w1 hS;refine ZaL ?_;refine zv hS ?_)
 all_goals (refine zR2 (c:=hat_c v ho (St.rot2 hS)) (h:=?_);rintro v1 w1 ⟨hS,(⟨e0,rfl⟩|⟨kr,t,th,e0,r,b7,o7,hr,hth,rfl,hel⟩)⟩)
 all_goals (refine Zbj ?_;(first|refine Q9R (e:=272) (by kernel_rfl) rfl rfl ?_|refine Q9S (e:=272) (by kernel_rfl) rfl rfl ?_);refine zn ?_)
 all_goals
  first
  | (refine zct ?_
     all_goals (refine Zaa ?_;refine zb0 [_,_,_,_] ?_;refine zsn hS ?_;intro w1 hS;have hS:=hS.ns;refine ZaK ?_;refine Q2g vw (Q9 (n:=4) (by kernel_rfl) (by kernel_rfl) (hS.blkAt fd) (by rfl) (by rfl)) vw ?_)
     all_goals (have hge:s.get v k=(Val.zero,20):=(by unfold HpS.get;rw [e0]);rw [hge];exact ⟨_,rfl,rfl,(Qn ho (L:=L.eraseIdx i) hS.sp).back0 hi⟩))
  | (refine zcf ?_
     all_goals refine zsk ?_)
 all_goals (refine QB ?_;refine QB ?_;have hge:s.get v k=if 0≤k∧k < th.l.length then (th.l.getD k.toNat Val.zero,0) else (Val.zero,1):=(by unfold HpS.get;rw [e0];simp only [ho.thg hr hth];rfl);refine Zae ?_)
 all_goals (first|(refine Q15 ?_)|(refine Q1c ?_)|(refine Qu rfl rfl (fun hc=> ?_) (fun hc=> ?_)))
 all_goals (refine Zbl ?_;refine Yaf ?_;refine Yah ?_;(first|refine zgn ?_|(refine zgy ?_;refine Q6 (QO (H:=H0) hS hr) hel rfl nth0 (List.length_map _) (Q3P hth) rfl ?_));(first|(refine zgn ?_)|(refine zgy ?_;refine QQ (Q6r (H:=H0) (QO (H:=H0) hS hr) hth) vw nth0 (by exact List.length_map _) ?_)))
 all_goals (first|refine zgn ?_|(refine zgy ?_;(first|(refine Q2n ?_)|(refine Q2Z ?_)|(refine Q1r rfl rfl (fun hc=> ?_) (fun hc=> ?_)))))
 all_goals (refine ZaO ?_)
 all_goals
  first
  | (refine zct ?_
     all_goals (refine Zaa ?_;refine zb0 [_,_,_,_] ?_;refine zsn hS ?_;intro w1 hS;have hS:=hS.ns;refine ZaK ?_;refine Q2g vw (Q9 (n:=4) (by kernel_rfl) (by kernel_rfl) (hS.blkAt fd) (by rfl) (by rfl)) vw ?_)
     all_goals ((first|(have hge:s.get v k=(Val.zero,20):=(by unfold HpS.get;rw [e0]);rw [hge];exact ⟨_,rfl,rfl,(Qn ho (L:=L.eraseIdx i) hS.sp).back0 hi⟩)|(rw [if_neg (by omega)] at hge;rw [hge];exact ⟨_,rfl,rfl,(Qn ho (L:=L.eraseIdx i) hS.sp).back0 hi⟩))))
  | (refine zcf ?_
     all_goals refine zsk ?_)
 all_goals (refine ZaR ?_;refine Yad ?_;refine Q6 (QO (H:=H0) hS hr) hel rfl nth0 (List.length_map _) (Q3P hth) rfl ?_;refine zm ?_;refine Q6v (Q6r (H:=H0) (QO (H:=H0) hS hr) hth) vw rfl nth0 (by omega) (by first|omega|(simp only [List.length_map,List.length_append,List.length_cons,List.length_nil,List.length_set,List.length_replicate];omega)) ?_;rw [List.length_map];intro b9 o9 hel9;refine Q7u (Q6r (H:=H0) (QO (H:=H0) hS hr) hth) hel9 rfl nth0 (List.length_map _) (vcget (by omega)) ?_;refine Q1Q hS rfl rfl (by rfl) fd (by simp) (by simp [Val.cells,oneC]) (by rfl) ?_;intro w1 hS;have hS:=hS.ns;refine ZaK ?_;refine Q2g vw (Q9 (n:=4) (by kernel_rfl) (by kernel_rfl) (hS.blkAt fd) (by rfl) (by rfl)) vw ?_;(first|(have hge:s.get v k=(Val.zero,20):=(by unfold HpS.get;rw [e0]);rw [hge];exact ⟨_,rfl,rfl,(Qn ho (L:=L.eraseIdx i) hS.sp).back0 hi⟩)|(rw [if_neg (by omega)] at hge;rw [hge];exact ⟨_,rfl,rfl,(Qn ho (L:=L.eraseIdx i) hS.sp).back0 hi⟩)|(rw [if_pos (by omega)] at hge;rw [hge];exact ⟨_,rfl,rfl,(Qn ho (L:=L.eraseIdx i) hS.sp).back0 hi⟩)))
theorem Q2T (v:Val):∀u∈v.cells,oneC u=true:=by simp [Val.cells,oneC]
theorem vcset {l:List Val}{k:Nat}{x:Val}:(l.map Val.cells).set k x.cells=(l.set k x).map Val.cells:=List.map_set.symm
theorem Q5M {s:HpS}{v:Val}{k:Int}{x:Val}(h:s.setC v k x≠0):s.set v k x=s:=by
 unfold HpS.set
 split
 · rfl
 · rw [if_neg h]
def upd2 (r:RgnV) (t:Nat) (th:ThgV) (k:Nat) (x:Val):RgnV:=⟨r.there,r.lv,r.l.set t ⟨th.array,th.lv,th.l.set k x⟩,r.pages,r.used⟩
theorem upd2_abs {r:RgnV}{t k:Nat}{th:ThgV}{x:Val}:(upd2 r t th k x).abs=r.abs.upd t (th.abs.upd k x):=by simp [upd2,RgnV.abs,Rgn.upd,List.map_set];rfl
theorem set_yes {s:HpS}{v:Val}{k:Int}{x:Val}{kr t:Nat}{r:RgnV}{th:ThgV}{rv:List RgnV}(ho:HpO N s rv) (hr:rv[kr]?=some r) (hth:r.l[t]?=some th) (e0:s.at_ v=some (kr,t)) (hc:s.setC v k x=0) (hk:k.toNat < th.l.length):
 s.set v k x=⟨s.l.set kr (r.abs.upd t (th.abs.upd k.toNat x)),s.left⟩∧(s.set v k x).live=s.live∧HpO N (s.set v k x) (rv.set kr (upd2 r t th k.toNat x)):=by
 obtain ⟨r',h1,h2,h3⟩:=ho.at_ (List.getElem?_eq_some_iff.1 hr).1
 rw [hr] at h1;cases h1
 have e:s.set v k x=⟨s.l.set kr (r.abs.upd t (th.abs.upd k.toNat x)),s.left⟩:=by
  unfold HpS.set;rw [e0];simp only [hc,if_true,h2,ho.thg hr hth]
 have hl:=Q40 (r':=r.abs.upd t (th.abs.upd k.toNat x)) h3
 have hth2:(r.abs.upd t (th.abs.upd k.toNat x)).there=r.abs.there:=rfl
 rw [hth2] at hl
 have hlive:(s.set v k x).live=s.live:=by
  rw [e];show (s.l.set kr _).countP (fun r=> r.there)=s.l.countP fun r=> r.there;omega
 obtain ⟨g1,g2,g3,g4,g5,g6⟩:=ho.rng hr
 refine ⟨e,hlive,⟨by rw [List.map_set,upd2_abs,ho.hr,e],?_⟩⟩
 rw [e]
 have hok:=ho.ok
 have hth3:r.there=true:=by
  cases hx:r.there with
  | true=> rfl
  | false=>
    have:=(g6 hx).1
    have:=(List.getElem?_eq_some_iff.1 hth).1
    omega
 refine HpS.ok_set hok h3 (Nat.le_refl _) hok.left rfl (by show s.live+_≤_;have:=hok.live;rw [hth2];omega) ⟨by simp [Rgn.upd,RgnV.abs];exact g1,fun y hy=> ?_,g3,g4,g5,fun hf=> by simp [Rgn.upd,RgnV.abs,hth3] at hf⟩
 rcases mem_set_or hy with rfl|hy
 · simp only [Thg.upd,List.length_set];exact g2 th (List.mem_of_getElem? hth)
 · obtain ⟨z,hz,rfl⟩:=List.mem_map.1 hy;exact g2 z hz
theorem hset_c (v:Val) (k:Int) (x:Val) (hS:St cx w L) (hi:nth L i=some (Q1P N h s)):Rets Tryz.prog Qaq [h,v.v, .int .i64 k,x.v] w fun u w'=> u= .int .i64 (s.setC v k x)∧St cx w' (L.set i (Q1P N h (s.set v k x))):=by
 obtain ⟨hok,b,rfl⟩:=Q20 hS hi
 obtain ⟨lv,rv,ho,hS⟩:=Q45 hS hi
 all_goals refine lgo tyD Tryz.func179 ?_
 all_goals (refine Zaa ?_;refine Q23 hS vw (by rfl) ?_;intro b6 w1 hS;refine Q23 hS vw (by rfl) ?_;intro b8 w1 hS;simp only [Val.cells] at hS;refine ZaL ?_;refine zv hS ?_)
 all_goals (refine zR2 (c:=hat_c v ho (St.rot2 hS)) (h:=?_);rintro v1 w1 ⟨hS,(⟨e0,rfl⟩|⟨kr,t,th,e0,r,b7,o7,hr,hth,rfl,hel⟩)⟩)
 all_goals (refine Zbj ?_;(first|refine Q9R (e:=272) (by kernel_rfl) rfl rfl ?_|refine Q9S (e:=272) (by kernel_rfl) rfl rfl ?_);refine Zam ?_;refine Yaf ?_;refine Yah ?_)
 all_goals (first|(refine zgn ?_)|(have hge:s.setC v k x=(if th.array=true∧x.kind≠1 then 20 else if 0≤k∧k < th.l.length then 0 else 1):=(by unfold HpS.setC;rw [e0];simp only [ho.thg hr hth];rfl);refine zgy ?_;refine Q6 (j:=0) (u:= .bool th.array) (QO (H:=H0) hS hr) hel rfl nth0 (List.length_map _) (Q3P hth) rfl ?_;cases hta:th.array <;> by_cases hx1:x.kind=1))
 all_goals (refine Yaa ?_;refine Yab ?_;(first|refine zgn ?_|(refine zgy ?_;(first|(refine Q6 (QO (H:=H0) hS hr) hel rfl nth0 (List.length_map _) (Q3P hth) rfl ?_)|(refine zl hS ?_)))))
 all_goals (refine Yaw ?_)
 all_goals (refine Yal ?_;refine ZaO ?_)
 all_goals
  first
  | (refine zct ?_
     all_goals (refine Zas ?_)
     all_goals ((first|(have hc1:s.setC v k x=20:=(by unfold HpS.setC;rw [e0];first|done|fail);rw [Q5M (by omega),hc1];exact ⟨_,rfl,rfl,(Qn ho (L:=L.eraseIdx i) hS.sp).back hi⟩)|(have hc1:s.setC v k x=20:=(by rw [hge,if_pos ⟨hta,hx1⟩]);rw [Q5M (by omega),hc1];exact ⟨_,rfl,rfl,(Qn ho (L:=L.eraseIdx i) hS.sp).back hi⟩))))
  | (refine zcf ?_
     all_goals refine zsk ?_)
 all_goals (refine Zak ?_)
 all_goals (first|(refine Q15 ?_)|(refine Q1c ?_)|(refine Qu rfl rfl (fun hc=> ?_) (fun hc=> ?_)))
 all_goals (refine Zbl ?_;refine Yaf ?_;refine Yah ?_;(first|refine zgn ?_|(refine zgy ?_;refine Q6 (QO (H:=H0) hS hr) hel rfl nth0 (List.length_map _) (Q3P hth) rfl ?_));(first|refine zgn ?_|(refine zgy ?_;refine QQ (Q6r (H:=H0) (QO (H:=H0) hS hr) hth) vw nth0 (by exact List.length_map _) ?_)))
 all_goals (first|refine zgn ?_|(refine zgy ?_;(first|(refine Q2n ?_)|(refine Q2Z ?_)|(refine Q1r rfl rfl (fun hc=> ?_) (fun hc=> ?_)))))
 all_goals (refine ZaO ?_)
 all_goals
  first
  | (refine zct ?_
     all_goals (refine Zas ?_)
     all_goals ((first|(have hc1:s.setC v k x=20:=(by unfold HpS.setC;rw [e0];first|done|fail);rw [Q5M (by omega),hc1];exact ⟨_,rfl,rfl,(Qn ho (L:=L.eraseIdx i) hS.sp).back hi⟩)|(have hc1:s.setC v k x=20:=(by rw [hge,if_pos ⟨hta,hx1⟩]);rw [Q5M (by omega),hc1];exact ⟨_,rfl,rfl,(Qn ho (L:=L.eraseIdx i) hS.sp).back hi⟩)|(have hc1:s.setC v k x=1:=(by rw [hge,if_neg (by simp [hta,hx1]),if_neg (by omega)]);rw [Q5M (by omega),hc1];exact ⟨_,rfl,rfl,(Qn ho (L:=L.eraseIdx i) hS.sp).back hi⟩))))
  | (refine zcf ?_
     all_goals refine zsk ?_)
 all_goals (refine QB ?_;have hS:=Q6r (H:=H0) (QO (H:=H0) hS hr) hth;refine zD (ci 8 [7]) ?_;have hS:=hS.drew;refine Zbd ?_;refine Q6 hS hel rfl fd (List.length_map _) (Q3P hth) rfl ?_;refine zm ?_;refine zv hS ?_;refine Q6v hS vw rfl nth0 (by omega) (by first|omega|(simp only [List.length_map,List.length_append,List.length_cons,List.length_nil,List.length_set,List.length_replicate];omega)) ?_;rw [List.length_map];intro b9 o9 hel9;refine Q2W hS hel9 rfl rfl (by rfl) nth0 (List.length_map _) (vcget (by omega)) rfl (Q2T x) vcset ?_;intro w8 hS;have hS:=hS.ns;have hS:=thg_in (H:=H0) (l:=r.l) (k:=t) (t:=⟨th.array,th.lv,th.l.set k.toNat x⟩) (List.getElem?_eq_some_iff.1 hth).1 hS;refine zn ?_;refine Zas ?_;(first|(have hc1:s.setC v k x=20:=(by unfold HpS.setC;rw [e0];first|done|fail);rw [Q5M (by omega),hc1];exact ⟨_,rfl,rfl,(Qn ho (L:=L.eraseIdx i) hS.sp).back hi⟩)|(have hc1:s.setC v k x=20:=(by rw [hge,if_pos ⟨hta,hx1⟩]);rw [Q5M (by omega),hc1];exact ⟨_,rfl,rfl,(Qn ho (L:=L.eraseIdx i) hS.sp).back hi⟩)|(have hc1:s.setC v k x=1:=(by rw [hge,if_neg (by simp [hta,hx1]),if_neg (by omega)]);rw [Q5M (by omega),hc1];exact ⟨_,rfl,rfl,(Qn ho (L:=L.eraseIdx i) hS.sp).back hi⟩)|(have hc1:s.setC v k x=0:=(by rw [hge,if_neg (by simp [hta,hx1]),if_pos (by omega)]);obtain ⟨e1,e2,ho2⟩:=set_yes ho hr hth e0 hc1 (by omega);rw [hc1];have htc:((r.l.set t ⟨th.array,th.lv,th.l.set k.toNat x⟩).map ThgV.cells)=r.l.map ThgV.cells:=(by rw [List.map_set];exact Q4S (by rw [List.getElem?_map,hth];rfl));rw [←htc] at hS;have hS:=Qfl (H:=H0) (rv:=rv) (k:=kr) (r:=upd2 r t th k.toNat x) (List.getElem?_eq_some_iff.1 hr).1 (L:=L.eraseIdx i) (by unfold upd2;exact hS.sp);refine ⟨_,rfl,rfl,(Qn (lv:=lv) ho2 (L:=L.eraseIdx i) ?_).back hi⟩;have hbc:((rv.set kr (upd2 r t th k.toNat x)).map RgnV.cells)=rv.map RgnV.cells:=(by rw [List.map_set];exact Q4S (by rw [List.getElem?_map,hr];rfl));rw [e2];unfold Q66;rw [hbc,e1];exact hS)))
theorem QfD (l:List Val):max (l.length:Int) 1=Q1d l:=by unfold Q1d;split <;> omega
theorem Qez {l:List Val}(h:l.length≤1000):1≤Q1d l∧Q1d l≤1000:=by unfold Q1d;split <;> omega
theorem htuple_c (v:Val) (vl:Value) (l:List Val){j:Nat}(hN:N≤100000) (hl:l.length≤1000) (hS:St cx w L) (hi:nth L i=some (Q1P N h s)) (hj:nth L j=some (sl H0.Tv 4 vl (l.map Val.cells))):
 Rets Tryz.prog Q8t [h,v.v,vl] w fun u w'=> u= .tuple #[(s.putV v 3 (Q1d l)).v, .int .i64 (s.code v (Q1d l))]∧St cx w' (L.set i (Q1P (N+1) h (s.tuple v l))):=by
 have hlen:(l.map Val.cells).length=l.length:=List.length_map _
 all_goals refine lgo tyD Tryz.func176 ?_
 all_goals (refine Zaa ?_;refine Q23 hS vw (by rfl) ?_;intro b4 w1 hS;simp only [Val.cells] at hS;refine Qg hS ?_;intro b6 w1 hS;refine ZaF ?_;refine zC [(0,none),(1,none),(2,none),(3,none),(4,none),(5,none),(6,some (some [1])),(7,none),(8,some none),(9,none),(10,none),(11,some none),(12,some none)] ?_;have hS:=hS.drew;refine Zax ?_;refine zv hS ?_;refine Zaq ?_;refine QQ hS vw (show nth (_::_::L) (j+2)=_ from hj) hlen ?_;refine Zab ?_;refine s_max rfl rfl ?_;rw [QfD];refine ZbK ?_;refine Zaj ?_;refine zR1 (c:=hclone_c hS (show nth (_::_::L) (j+2)=_ from hj) (by omega)) (h:=?_);rintro v1 w1 ⟨hS,hone⟩;obtain ⟨a_,c_,rfl⟩:=hS.shape nth0;refine ZaH ?_;refine zb1 [_,_] ?_;refine Zau ?_;refine Qd8 vw vw vw vw vw (hput_c v 3 (Q1d l) false _ l (Qez hl) hN hl hone hS (show nth (_::_::L) (i+2)=_ from hi)) ?_;rintro v2 w2 ⟨rfl,hS⟩;have hS:=hS.ns)
 all_goals (refine Zab ?_;refine ZbB ?_;refine Zau ?_;refine Q1Q hS rfl rfl (by rfl) fd (by simp) (Q2T _) (by rfl) ?_;intro w1 hS;have hS:=hS.ns;refine Zau ?_;refine Zbh ?_;refine zr ?_;refine Q2g vw (Q9 (n:=4) (by kernel_rfl) (by kernel_rfl) (hS.blkAt fd) (by rfl) (by rfl)) vw ?_;exact ⟨_,rfl,rfl,hS.drop.drop⟩)
theorem Qbg {j:Nat}:(Q1O ((j:Int)+1))=Q1O j++[⟨1,0,0,0⟩]:=by
 unfold Q1O;rw [show ((j:Int)+1).toNat=j+1 by omega,Int.toNat_natCast,List.replicate_succ']
theorem Qcp {n:Nat}:(Q1O n).length=n:=by simp [Q1O]
theorem Qav (v:Val) (n:Int) (hN:N≤100000) (hS:St cx w L) (hi:nth L i=some (Q1P N h s)):
 Rets Tryz.prog Q8v [h,v.v, .int .i64 n] w fun u w'=> u= .tuple #[(s.arrV v n).v, .int .i64 (s.arrC v n)]∧St cx w' (L.set i (Q1P (N+1) h (s.arr v n))):=by
 by_cases hn:n < 0∨15 < n
 · have e1:s.arr v n=s:=by unfold HpS.arr;rw [if_pos hn]
   have e2:s.arrV v n=Val.zero:=by unfold HpS.arrV;rw [if_pos hn]
   have e3:s.arrC v n=1:=by unfold HpS.arrC;rw [if_pos hn]
   rw [e1,e2,e3]
   obtain ⟨hok,b,rfl⟩:=Q20 hS hi
   all_goals refine lgo tyD Tryz.func220 ?_
   all_goals (refine Zaa ?_;refine Q23 hS vw (by rfl) ?_;intro b4 w1 hS;simp only [Val.cells] at hS;refine Qg hS ?_;intro b6 w1 hS;refine Zbj ?_)
   all_goals (first|(refine Q15 ?_)|(refine Q1c ?_)|(refine Qu rfl rfl (fun hc=> ?_) (fun hc=> ?_)))
   all_goals (refine Zam ?_)
   all_goals (refine Yax ?_)
   all_goals (refine ZaO ?_)
   all_goals refine zct ?_
   all_goals (refine Zaa ?_;refine zb0 [_,_,_,_] ?_;refine zsn hS ?_;intro w1 hS;have hS:=hS.ns;refine ZaK ?_;refine Q2g vw (Q9 (n:=4) (by kernel_rfl) (by kernel_rfl) (hS.blkAt fd) (by rfl) (by rfl)) vw ?_;refine ⟨_,rfl,rfl,?_⟩;obtain ⟨lv,rv,ho,hS⟩:=Q45 hS.drop.drop hi;exact (Qn (⟨ho.hr,hok.mono (by omega)⟩:HpO (N+1) s rv) hS).back hi)
 · obtain ⟨m,rfl⟩:=Int.eq_ofNat_of_zero_le (show 0≤n by omega)
   have e1:s.arr v m=s.put v (1+m) ⟨true,Q1O m⟩:=by unfold HpS.arr;rw [if_neg hn,Int.add_comm]
   have e2:s.arrV v m=s.putV v 4 (1+m):=by unfold HpS.arrV;rw [if_neg hn,Int.add_comm]
   have e3:s.arrC v m=s.code v (1+m):=by unfold HpS.arrC;rw [if_neg hn,Int.add_comm]
   rw [e1,e2,e3]
   all_goals refine lgo tyD Tryz.func220 ?_
   all_goals (refine Zaa ?_;refine Q23 hS vw (by rfl) ?_;intro b4 w1 hS;simp only [Val.cells] at hS;refine Qg hS ?_;intro b6 w1 hS;refine Zbj ?_)
   all_goals (refine Yau ?_)
   all_goals (refine Zam ?_)
   all_goals (refine Yao ?_)
   all_goals (refine ZaO ?_)
   all_goals refine zcf ?_
   all_goals (refine zsk ?_;refine Zaa ?_;refine zb1 [_,_] ?_;refine Qg hS ?_;intro b8 w1 hS;refine Q1Q hS rfl rfl (by rfl) fd (by simp) (by first|exact Q2T _|exact one2 rfl rfl) (by rfl) ?_;intro w1 hS;have hS:=hS.ns;refine zn ?_;refine Zak ?_;refine ZaB ?_;have hS:=hS.nil (T:=H0.Tv) (es:=4))
   refine zo [] (fun A ρ' w'=>∃(j:Nat) (va:Value),Has ρ' A∧Has ρ' [(0,h),(2, .int .i64 m),(4, .pointer (some ⟨b4,0,none⟩)),(6, .pointer (some ⟨b6,0,none⟩)),(8, .pointer (some ⟨b8,0,none⟩)),(17, .int .i64 m),(18, .int .i64 j)]∧(j≤m)∧St cx w' (sl H0.Tv 4 va ((Q1O j).map Val.cells)::blk b8 272 [.bool true,va]::blk b6 224 [.int .i64 0, .int .i64 0, .int .i64 0, .int .i64 0]::blk b4 224 [.int .i64 v.kind, .int .i64 v.region, .int .i64 v.thing, .int .i64 v.n]::L)) (fun ρ' _=> (m - iv (ρ' 18)).toNat) ?_ ?_
   · exact ⟨0, .slice none 0 0,zh,zh,(by omega),hS.sp⟩
   rintro ρ w1 ⟨j,va,hA,hρ,hj,hS⟩;obtain ⟨ρ,rfl⟩:=env2 hA hρ;have hnl:=Qcp (n:=j)
   all_goals (refine ZaI ?_)
   refine Qq rfl (fun hc=> ?_) (fun hc=> ?_)
   · skip
     all_goals (refine ZaE ?_;refine Q10 ?_;refine zf0 ?_;refine zl hS ?_;refine zb1 [_,_,_,_] ?_;refine zB1 hS [_,_,_,_] ?_;intro b1 w1 hS;refine Q1T Q8I (.inl Q9E) hS vw vw fd (hS.srcB fd (by rfl) (by simp [oneC])) (by first|omega|(simp only [List.length_map,List.length_append,List.length_cons,List.length_nil,List.length_set,List.length_replicate];omega)) ?_;intro v7 w7 hS;have hS:=hS.ns;refine zf0 ?_;refine zst hS ?_;intro w1 hS;have hS:=hS.ns;refine Zbi ?_;refine zad ?_;refine Zad ?_;exact ⟨⟨j+1,_,zh,zh,(by omega),by rw [show ((j+1:Nat):Int)=(j:Int)+1 by omega,Qbg,List.map_append];exact hS.sp⟩,Qv (by omega)⟩)
   · skip
     all_goals (refine zex ?_;obtain rfl:j=m:=(by omega);have hone:=hS.oneC nth0;refine Zac ?_;refine zv hS ?_;refine zm ?_;refine zad ?_;refine zv hS ?_;refine Qd8 vw vw vw vw vw (hput_c v 4 (1+j) true va (Q1O j) (by omega) hN (by omega) hone hS (show nth (_::_::_::L) (i+3)=_ from hi)) ?_;rintro v2 w2 ⟨rfl,hS⟩;have hS:=hS.ns;refine Zba ?_;refine Q1Q hS rfl rfl (by rfl) fd (by simp) (by exact Q2T _) (by rfl) ?_;intro w1 hS;have hS:=hS.ns;refine ZaK ?_;refine Q2g vw (Q9 (n:=4) (by kernel_rfl) (by kernel_rfl) (hS.blkAt fd) (by rfl) (by rfl)) vw ?_;exact ⟨_,rfl,rfl,hS.drop.drop.drop⟩)
end Go.Proofs.YteflkifmgnpbhaaGreat
namespace Go.Proofs.YteflkifmgnpbhaaGreat
open Go.Lir
set_option maxHeartbeats 1000000
attribute [local irreducible] LC.wp Q0 Qk Qh retQ Qt LO.wp Q4 Calls
set_option linter.unusedSimpArgs false
set_option linter.unusedVariables false
structure FrmV where
 f:Nat
 b:Nat
 i:Nat
 vv:Value
 vals:List Val
 rv:Value
 regs:List Int
abbrev Qw (l:List Int):List (List Value):=l.map fun n=> [.int .i64 n]
def FrmV.abs (x:FrmV):Frm:=⟨x.f,x.b,x.i,x.vals,x.regs⟩
def FrmV.cells (x:FrmV):List Value:=[.int .i64 x.f, .int .i64 x.b, .int .i64 x.i,x.vv,x.rv]
def FrmV.res (x:FrmV):Res:=star (sl 224 4 x.vv (x.vals.map Val.cells)) (sl 3 1 x.rv (Qw x.regs))
structure MC where
 hp:Value
 fn:Value
 lv:Value
 iv:Value
 e:Int
 bv:Value
 ov:Value
 fu:Int
 mo:Int
 dn:Bool
 c:Int
 a:Int
@[reducible] def MC.cells (x:MC):List Value:=[x.hp,x.fn,x.lv,x.iv, .int .i64 x.e,x.bv,x.ov, .int .i64 x.fu, .int .i64 x.mo, .bool x.dn, .int .i64 x.c, .int .i64 x.a]
@[reducible] def Q24 (fr:List FrmV) (g:FrmV):List (List Value):=fr.map FrmV.cells++[g.cells]
theorem Qf (fr:List FrmV) (g:FrmV):(Q24 fr g).length=fr.length+1:=by simp
theorem Qi (fr:List FrmV) (g:FrmV):(Q24 fr g)[fr.length]?=some g.cells:=by
 rw [List.getElem?_append_right (by simp)];simp
theorem Q5O {fr:List FrmV}{g g':FrmV}{j:Nat}{u:Value}(h:g.cells.set j u=g'.cells):(Q24 fr g).set fr.length (g.cells.set j u)=Q24 fr g':=by
 rw [h]
 unfold Q24
 rw [List.set_append_right _ _ (by simp)];simp
@[reducible] def mL (p:Nat) (c:MC) (fr:List FrmV) (g:FrmV) (L:List Res):List Res:=blk p 55 c.cells::sl 110 5 c.lv (Q24 fr g)::sl 224 4 g.vv (g.vals.map Val.cells)::sl 3 1 g.rv (Qw g.regs)::big FrmV.res fr::L
@[reducible] def Q4k:Value:= .iface 121 (.agg ⟨[]⟩)
@[reducible] def QbZ (e:Int):Value:= .iface 122 (.int .i64 e)
variable {cx:Cx}{w:World}{L:List Res}{p:Nat}{c:MC}{fr:List FrmV}{g:FrmV}
theorem Q2r (hS:St cx w L):Rets Tryz.prog Q9v [.bool true] w fun u w'=> u= .tuple #[]∧St cx w' L:=by
 all_goals refine lgo tyD Tryz.func172 ?_
 all_goals (refine Zac ?_;refine Zbm ?_)
 all_goals refine zcf ?_
 all_goals (refine zsk ?_;refine Qz ?_;exact ⟨_,rfl,rfl,hS.sp⟩)
theorem Q2A (hS:St cx w L):Fins Tryz.prog Q9v [.bool false] w (fun _ _=> False) (fun u w'=> u=Q4k∧St cx w' L):=by
 unfold Fins
 all_goals refine lgo tyD Tryz.func172 ?_
 all_goals (refine Zac ?_;refine Zbm ?_)
 all_goals refine zct ?_
 all_goals (refine Q10 ?_;refine zb0 [] ?_;refine zki ?_;refine Q9T rfl ?_;(repeat (refine Yba ?_));refine Qc ?_;exact .inr ⟨_,rfl,rfl,hS.sp⟩)
theorem Q4G {e:Int}(hS:St cx w L):Rets Tryz.prog Q9w [.bool false, .int .i64 e] w fun u w'=> u= .tuple #[]∧St cx w' L:=by
 all_goals refine lgo tyD Tryz.func117 ?_
 all_goals (refine Zaf ?_)
 all_goals refine zcf ?_
 all_goals (refine zsk ?_;refine Qz ?_;exact ⟨_,rfl,rfl,hS.sp⟩)
theorem Q4F {e:Int}(hS:St cx w L):Fins Tryz.prog Q9w [.bool true, .int .i64 e] w (fun _ _=> False) (fun u w'=> u=QbZ e∧St cx w' L):=by
 unfold Fins
 all_goals refine lgo tyD Tryz.func117 ?_
 all_goals (refine Zaf ?_)
 all_goals refine zct ?_
 all_goals (refine Zae ?_;refine zki ?_;refine Q9T rfl ?_;(repeat (refine Yba ?_));refine Qc ?_;exact .inr ⟨_,rfl,rfl,hS.sp⟩)
theorem Q5T {n:Int}(hS:St cx w L):Rets Tryz.prog Qbx [.int .i64 n] w fun u w'=> u=(intV n).v∧St cx w' L:=by
 all_goals refine lgo tyD Tryz.func169 ?_
 all_goals (refine Zbe ?_;intro p2 w1 hS;refine Zaz ?_;refine zb2 [_,_,_,_] ?_;refine zsn hS ?_;intro w1 hS;have hS:=hS.ns;refine ZaS ?_;refine Q1z vw (Q9 (n:=4) (by kernel_rfl) (by kernel_rfl) (hS.blkAt fd) (by rfl) (by rfl)) ?_;exact ⟨_,rfl,rfl,hS.sp⟩)
theorem Q4j (hf:fr.length≤1000) (hS:St cx w (mL p c fr g L)):Rets Tryz.prog Q6S [.pointer (some ⟨p,0,none⟩)] w fun u w'=>∃b o,u= .pointer (some ⟨b,o,none⟩)∧ElP c.lv (fr.length+1) 5 fr.length b o∧St cx w' (mL p c fr g L):=by
 all_goals refine lgo tyD Tryz.func114 ?_
 all_goals (refine Zaf ?_;refine QB ?_;refine zD (ci 12 [11]) ?_;have hS:=hS.drew;refine ZaA ?_;refine zf0 ?_;refine zl hS ?_;refine ZaA ?_;refine zf0 ?_;refine zl hS ?_;refine QQ hS vw fd (Qf fr g) ?_;refine zsu ?_;rw [show ((fr.length+1:Nat):Int) - 1=fr.length by omega];refine Q4c hS vw rfl fd (by rw [Qf];omega) ?_;rw [Qf];intro b1 o1 hel;refine Zap ?_;exact ⟨_,rfl,b1,o1,rfl,hel,hS.sp⟩)
theorem Q3r {k:Int}(hf:fr.length≤1000) (hS:St cx w (mL p c fr g L)):Fins Tryz.prog Q6R [.pointer (some ⟨p,0,none⟩), .int .i64 k] w
 (fun u w'=>∃v:Val,g.abs.val k=some v∧u=v.v∧St cx w' (mL p c fr g L)) (fun u w'=> g.abs.val k=none∧u=Q4k∧St cx w' (mL p c fr g L)):=by
 unfold Fins
 by_cases hk:0≤k∧k < g.vals.length
 · obtain ⟨v,hv⟩:∃v,g.vals[k.toNat]?=some v:=⟨_,List.getElem?_eq_getElem (by omega)⟩
   have hg:g.abs.val k=some v:=by unfold Frm.val;rw [if_neg (by omega)];exact hv
   all_goals refine lgo tyD Tryz.func174 ?_
   all_goals (refine Zbe ?_;intro p4 w1 hS;refine Zal ?_;have hS:St cx _ (mL p c fr g (blk p4 224 [.int .i64 0, .int .i64 0, .int .i64 0, .int .i64 0]::L)):=hS.sp;refine Zae ?_;refine zR1 (c:=Q4j hf hS) (h:=?_);rintro v1 w1 ⟨b1,o1,rfl,hel,hS⟩;refine ZaU ?_;refine Q6 hS hel rfl fd (Qf fr g) (Qi fr g) rfl ?_;refine ZaL ?_)
   all_goals (refine Q2n ?_)
   all_goals (refine Zbl ?_;refine Yan ?_)
   all_goals (first|refine zgn ?_|(refine zgy ?_;refine Q15 ?_))
   all_goals (refine zpt ?_;refine zR1 (c:=Q2r hS) (h:=?_);rintro v1 w1 ⟨rfl,hS⟩;refine Zaz ?_;refine zm ?_;refine Q6v hS vw rfl fd (by omega) (by rw [List.length_map];omega) ?_;rw [List.length_map];intro b2 o2 hel2;refine Q7u hS hel2 rfl fd (List.length_map _) (show (g.vals.map Val.cells)[k.toNat]?=some v.cells by rw [List.getElem?_map,hv];rfl) ?_;refine Q1Q hS rfl rfl (by rfl) fd (by simp) (by simp [Val.cells,oneC]) (by rfl) ?_;intro w1 hS;have hS:=hS.ns;refine ZaS ?_;refine Q1z vw (Q9 (n:=4) (by kernel_rfl) (by kernel_rfl) (hS.blkAt fd) (by rfl) (by rfl)) ?_;exact .inl ⟨_,rfl,v,hg,rfl,hS.sp⟩)
 · have hg:g.abs.val k=none:=by
    unfold Frm.val
    by_cases h0:k < 0
    · rw [if_pos h0]
    · rw [if_neg h0];exact List.getElem?_eq_none (by show g.vals.length≤_;omega)
   all_goals refine lgo tyD Tryz.func174 ?_
   all_goals (refine Zbe ?_;intro p4 w1 hS;refine Zal ?_;have hS:St cx _ (mL p c fr g (blk p4 224 [.int .i64 0, .int .i64 0, .int .i64 0, .int .i64 0]::L)):=hS.sp;refine Zae ?_;refine zR1 (c:=Q4j hf hS) (h:=?_);rintro v1 w1 ⟨b1,o1,rfl,hel,hS⟩;refine ZaU ?_;refine Q6 hS hel rfl fd (Qf fr g) (Qi fr g) rfl ?_;refine ZaL ?_)
   all_goals (first|(refine Q2n ?_)|(refine Q2Z ?_)|(refine Q1r rfl rfl (fun hc=> ?_) (fun hc=> ?_)))
   all_goals (refine Zbl ?_;refine Yan ?_)
   all_goals (refine Yav ?_)
   all_goals (refine Yae ?_)
   all_goals (first|(refine zR1 (c:=Q2r hS) (h:=?_);rintro v1 w1 ⟨rfl,hS⟩)|(refine zE1 (c:=Q2A hS) (p:=by rintro v9 w9 ⟨rfl,hS⟩;(repeat (first|refine Q2 ?_|refine Q3 ?_|refine fun _=> ?_));refine Qc ?_;refine .inr ⟨_,rfl,?_⟩;first|(exact ⟨hg,rfl,hS.sp⟩)) (h:=fun _ _ h=> h.elim)))
   all_goals (refine Zaz ?_; refine zm ?_; refine zi ?_; intro b1 o1 cs1 x1 hat1 hx1 he1; obtain ⟨vp1, vr1, vb1, rfl, hp1, hr1, hb1⟩ := QG he1; refine zv hS ?_; refine zsn hS ?_; intro w1 hS; have hS := hS.ns; refine ZaS ?_; refine Q1z vw (Q9 (n := 4) (by kernel_rfl) (by kernel_rfl) (hS.blkAt fd) (by rfl) (by rfl)) ?_; trace_state; fail "no ret fits")
end Go.Proofs.YteflkifmgnpbhaaGreat
namespace Go.Lir
theorem QgA {g:Frm}{l:List Int}{q:Nat}{k:Int}{v:Val}{out:List Val}(hd:g.args l=(g.args (l.drop q)).map fun r=> out++r) (hx:l[q]?=some k) (hv:g.val k=some v):g.args l=(g.args (l.drop (q+1))).map fun r=> (out++[v])++r:=by
 rw [hd,Qb hx,Frm.args,hv]
 cases g.args (l.drop (q+1)) with
 | none=> rfl
 | some r=> simp
theorem args_bad {g:Frm}{l:List Int}{q:Nat}{k:Int}{out:List Val}(hd:g.args l=(g.args (l.drop q)).map fun r=> out++r) (hx:l[q]?=some k) (hv:g.val k=none):g.args l=none:=by
 rw [hd,Qb hx,Frm.args,hv];rfl
theorem args_end {g:Frm}{l:List Int}{q:Nat}{out:List Val}(hd:g.args l=(g.args (l.drop q)).map fun r=> out++r) (hq:l.length≤q):g.args l=some out:=by
 rw [hd,List.drop_of_length_le hq,Frm.args];simp
theorem args_0 {g:Frm}{l:List Int}:g.args l=(g.args (l.drop 0)).map fun r=> []++r:=by
 rw [List.drop_zero];cases g.args l <;> rfl
theorem rgs_step {g:Frm}{l:List Int}{q:Nat}{k v:Int}{out:List Int}(hd:g.rgs l=(g.rgs (l.drop q)).map fun r=> out++r) (hx:l[q]?=some k) (hv:g.reg k=some v):g.rgs l=(g.rgs (l.drop (q+1))).map fun r=> (out++[v])++r:=by
 rw [hd,Qb hx,Frm.rgs,hv]
 cases g.rgs (l.drop (q+1)) with
 | none=> rfl
 | some r=> simp
theorem rgs_bad {g:Frm}{l:List Int}{q:Nat}{k:Int}{out:List Int}(hd:g.rgs l=(g.rgs (l.drop q)).map fun r=> out++r) (hx:l[q]?=some k) (hv:g.reg k=none):g.rgs l=none:=by
 rw [hd,Qb hx,Frm.rgs,hv];rfl
theorem rgs_end {g:Frm}{l:List Int}{q:Nat}{out:List Int}(hd:g.rgs l=(g.rgs (l.drop q)).map fun r=> out++r) (hq:l.length≤q):g.rgs l=some out:=by
 rw [hd,List.drop_of_length_le hq,Frm.rgs];simp
theorem rgs_0 {g:Frm}{l:List Int}:g.rgs l=(g.rgs (l.drop 0)).map fun r=> []++r:=by
 rw [List.drop_zero];cases g.rgs l <;> rfl
theorem num_y {g:Frm}{k:Int}{v:Val}(h:g.val k=some v) (hk:v.kind=1):g.num k=some v.n:=by unfold Frm.num;rw [h];exact if_pos hk
theorem num_n {g:Frm}{k:Int}{v:Val}(h:g.val k=some v) (hk:v.kind≠1):g.num k=none:=by unfold Frm.num;rw [h];exact if_neg hk
theorem num_0 {g:Frm}{k:Int}(h:g.val k=none):g.num k=none:=by unfold Frm.num;rw [h]
theorem regf_y {g:Frm}{k v:Int}(h0:0≤k) (h:g.regs[k.toNat]?=some v):g.reg k=some v:=by unfold Frm.reg;rw [if_neg (by omega)];exact h
theorem regf_n {g:Frm}{k:Int}(h:k < 0∨(g.regs.length:Int)≤k):g.reg k=none:=by
 unfold Frm.reg
 by_cases h0:k < 0
 · rw [if_pos h0]
 · rw [if_neg h0];exact List.getElem?_eq_none (by omega)
end Go.Lir
namespace Go.Proofs.YteflkifmgnpbhaaGreat
open Go.Lir
set_option maxHeartbeats 1000000
attribute [local irreducible] LC.wp Q0 Qk Qh retQ Qt LO.wp Q4 Calls
set_option linter.unusedSimpArgs false
set_option linter.unusedVariables false
variable {cx:Cx}{w:World}{L:List Res}{p:Nat}{c:MC}{fr:List FrmV}{g:FrmV}
attribute [local irreducible] Frm.val Frm.num Frm.args Frm.rgs Frm.reg
theorem Q6E {k:Int}(hf:fr.length≤1000) (hS:St cx w (mL p c fr g L)):Fins Tryz.prog Q6V [.pointer (some ⟨p,0,none⟩), .int .i64 k] w
 (fun u w'=>∃n:Int,g.abs.num k=some n∧u= .int .i64 n∧St cx w' (mL p c fr g L)) (fun u w'=> g.abs.num k=none∧u=Q4k∧St cx w' (mL p c fr g L)):=by
 unfold Fins
 all_goals refine lgo tyD Tryz.func170 ?_
 all_goals (refine Zaf ?_;refine ZaX ?_;refine zE2 (c:=Q3r hf hS) (p:=by rintro u9 w9 ⟨hv,rfl,hS⟩;(repeat (first|refine Q2 ?_|refine Q3 ?_|refine fun _=> ?_));refine Qc ?_;refine .inr ⟨_,rfl,?_⟩;exact ⟨num_0 hv,rfl,hS.sp⟩) (h:=?_);rintro u1 w2 ⟨v,hv,rfl,hS⟩;unfold Val.v Val.cells;refine Qg hS ?_;intro p5 w1 hS;refine zsn hS ?_;intro w1 hS;have hS:=hS.ns;refine ZaD ?_;refine zf0 ?_;refine zl hS ?_)
 all_goals (first|(refine Ql ?_)|(refine Qo ?_)|(refine Q8 rfl rfl (fun hc=> ?_) (fun hc=> ?_)))
 all_goals (first|(refine zR1 (c:=Q2r hS) (h:=?_);rintro v1 w1 ⟨rfl,hS⟩)|(refine zE1 (c:=Q2A hS) (p:=by rintro v9 w9 ⟨rfl,hS⟩;(repeat (first|refine Q2 ?_|refine Q3 ?_|refine fun _=> ?_));refine Qc ?_;refine .inr ⟨_,rfl,?_⟩;first|(exact ⟨num_n hv (by omega),rfl,hS.sp⟩)) (h:=fun _ _ h=> h.elim)))
 all_goals (refine ZaD ?_;refine zf0 ?_;refine zl hS ?_;refine Zap ?_;exact .inl ⟨_,rfl,v.n,num_y hv (by omega),rfl,hS.sp⟩)
def FrmV.push (g:FrmV) (tv:Value) (vs:List Val):FrmV:=⟨g.f,g.b,g.i,tv,g.vals++vs,g.rv,g.regs⟩
theorem Q57 {j:Nat}{v2:Value}{vs:List Val}(hf:fr.length≤1000) (hn:g.vals.length+vs.length≤1000000) (hS:St cx w (mL p c fr g L)) (hj:nth L j=some (sl 224 4 v2 (vs.map Val.cells))):
 Rets Tryz.prog Q6T [.pointer (some ⟨p,0,none⟩),v2] w fun u w'=>∃tv,u= .tuple #[]∧St cx w' (mL p c fr (g.push tv vs) L):=by
 all_goals refine lgo tyD Tryz.func168 ?_
 all_goals (refine Zae ?_;refine zR1 (c:=Q4j hf hS) (h:=?_);rintro v1 w1 ⟨b1,o1,rfl,hel1,hS⟩;refine zm ?_;refine zR1 (c:=Q4j hf hS) (h:=?_);rintro v2 w1 ⟨b2,o2,rfl,hel2,hS⟩;refine ZaU ?_;refine Q6 hS hel2 rfl fd (Qf fr g) (Qi fr g) rfl ?_;refine zm ?_;refine Q1T Q8I (.inl Q9E) hS vw vw (i:=2) rfl (hS.srcS (i:=j+5) hj (QeB vs)) (by rw [List.length_map,List.length_map];omega) ?_;intro v7 w7 hS;have hS:=hS.ns;have ho7:=hS.oneC (i:=2) rfl;rw [←List.map_append] at hS;refine ZaU ?_;refine Q1s hS hel1 rfl vw fd (Qf fr g) (Qi fr g) (by omega) ho7 (Q5O (g':=g.push v7 vs) rfl) ?_;intro w8 hS;have hS:=hS.ns;refine Zbc ?_;exact ⟨_,rfl,v7,rfl,hS.sp⟩)
end Go.Proofs.YteflkifmgnpbhaaGreat
namespace Go.Proofs.YteflkifmgnpbhaaGreat
open Go.Lir
set_option maxHeartbeats 1000000
attribute [local irreducible] LC.wp Q0 Qk Qh retQ Qt LO.wp Q4 Calls
set_option linter.unusedSimpArgs false
set_option linter.unusedVariables false
variable {cx:Cx}{w:World}{L:List Res}{p:Nat}{c:MC}{fr:List FrmV}{g:FrmV}
attribute [local irreducible] Frm.val Frm.num Frm.args Frm.rgs Frm.reg
theorem QaO {l:List Int}{v1:Value}(hl1:l.length≤100000) (hf:fr.length≤1000) (hl:intR.sl cx v1 l) (hS:St cx w (mL p c fr g L)):Fins Tryz.prog Q5Y [.pointer (some ⟨p,0,none⟩),v1] w
 (fun u w'=>∃vs:List Val,g.abs.args l=some vs∧vs.length=l.length∧oneC u=true∧St cx w' (mL p c fr g (sl 224 4 u (vs.map Val.cells)::L))) (fun u w'=> g.abs.args l=none∧u=Q4k∧St cx w' (mL p c fr g L)):=by
 have hlen:=hl.len
 unfold Fins
 all_goals refine lgo tyD Tryz.func177 ?_
 all_goals (refine Zaf ?_;refine ZaQ ?_;refine zL ?_;refine ZaB ?_;have hS:St cx _ (mL p c fr g (sl 224 4 (.slice none 0 0) (([]:List Val).map Val.cells)::L)):=(by have hS:=hS.nil (T:=224) (es:=4);exact hS.sp))
 refine zo [0,8,9] (fun A ρ' w'=>∃(q:Nat) (vo:Value) (out:List Val),Has ρ' A∧Has ρ' [(5,vo),(10, .int .i64 q)]∧(q≤l.length)∧(out.length=q)∧(oneC vo=true)∧(g.abs.args l=(g.abs.args (l.drop q)).map fun r=> out++r)∧St cx w' (mL p c fr g (sl 224 4 vo (out.map Val.cells)::L))) (fun ρ' _=> (l.length - iv (ρ' 10)).toNat) ?_ ?_
 · exact ⟨0, .slice none 0 0,[],zh,zh,(by omega),rfl,rfl,args_0,hS.sp⟩
 rintro ρ w1 ⟨q,vo,out,hA,hρ,hq,hol,hvo,hd,hS⟩;obtain ⟨ρ,rfl⟩:=env2 hA hρ
 all_goals (refine ZaI ?_)
 refine Qq rfl (fun hc=> ?_) (fun hc=> ?_)
 · skip
   all_goals (refine Zbf ?_;refine zi ?_;intro b1 o1 cs1 x1 hat1 hx1 he1;obtain rfl:=QY he1;refine Yat ?_;refine Zad ?_;refine Zae ?_;refine ZaT ?_;refine zE2 (c:=Q3r hf hS) (p:=by rintro u9 w9 ⟨hv,rfl,hS⟩;(repeat (first|refine Q2 ?_|refine Q3 ?_|refine fun _=> ?_));refine Qc ?_;refine .inr ⟨_,rfl,?_⟩;exact ⟨args_bad hd hx1 hv,rfl,hS.sp⟩) (h:=?_);rintro u1 w2 ⟨v,hv,rfl,hS⟩;unfold Val.v Val.cells;refine zB1 hS [_,_,_,_] ?_;intro b1 w1 hS;refine Q1T Q8I (.inl Q9E) hS vw vw (i:=6) rfl (hS.srcB (i:=0) rfl (by rfl) (by simp [oneC])) (by rw [List.length_map];simp only [List.length_cons,List.length_nil];omega) ?_;intro v7 w7 hS;have hS:=hS.ns;have ho7:=hS.oneC (i:=6) rfl;refine Zad ?_;refine Q10 ?_;refine zad ?_;refine Zad ?_;exact ⟨⟨q+1,v7,out++[v],zh,zh,(by omega),by rw [List.length_append,hol];rfl,ho7,QgA hd hx1 hv,by rw [List.map_append];exact hS.sp⟩,Qv (by omega)⟩)
 · skip
   all_goals (refine zex ?_;refine Zbq ?_;exact .inl ⟨_,rfl,out,args_end hd (by omega),by omega,hvo,hS.sp⟩)
theorem regs_c {l:List Int}{v1:Value}(hl1:l.length≤100000) (hf:fr.length≤1000) (hl:intR.sl cx v1 l) (hS:St cx w (mL p c fr g L)):Fins Tryz.prog Q5Z [.pointer (some ⟨p,0,none⟩),v1] w
 (fun u w'=>∃vs:List Int,g.abs.rgs l=some vs∧vs.length=l.length∧oneC u=true∧St cx w' (mL p c fr g (sl 3 1 u (Qw vs)::L))) (fun u w'=> g.abs.rgs l=none∧u=Q4k∧St cx w' (mL p c fr g L)):=by
 have hlen:=hl.len
 unfold Fins
 all_goals refine lgo tyD Tryz.func221 ?_
 all_goals (refine Zaf ?_;refine ZaQ ?_;refine zL ?_;refine ZaB ?_;have hS:St cx _ (mL p c fr g (sl 3 1 (.slice none 0 0) (Qw [])::L)):=(by have hS:=hS.nil (T:=3) (es:=1);exact hS.sp))
 refine zo [0,9,10] (fun A ρ' w'=>∃(q:Nat) (vo:Value) (out:List Int),Has ρ' A∧Has ρ' [(5,vo),(11, .int .i64 q)]∧(q≤l.length)∧(out.length=q)∧(oneC vo=true)∧(g.abs.rgs l=(g.abs.rgs (l.drop q)).map fun r=> out++r)∧St cx w' (mL p c fr g (sl 3 1 vo (Qw out)::L))) (fun ρ' _=> (l.length - iv (ρ' 11)).toNat) ?_ ?_
 · exact ⟨0, .slice none 0 0,[],zh,zh,(by omega),rfl,rfl,rgs_0,hS.sp⟩
 rintro ρ w1 ⟨q,vo,out,hA,hρ,hq,hol,hvo,hd,hS⟩;obtain ⟨ρ,rfl⟩:=env2 hA hρ
 all_goals (refine ZaI ?_)
 refine Qq rfl (fun hc=> ?_) (fun hc=> ?_)
 · skip
   all_goals (refine Zbf ?_;refine zi ?_;intro b1 o1 cs1 x1 hat1 hx1 he1;obtain rfl:=QY he1;(first|(refine Q6 hS hel rfl (i:=1) rfl (Qf fr g) (Qi fr g) rfl ?_)|(refine zl hS ?_)|(refine zlk hS ?_));refine ZaL ?_;refine zR1 (c:=Q4j hf hS) (h:=?_);rintro v1 w1 ⟨b1,o1,rfl,hel,hS⟩;refine ZaL ?_)
   all_goals (first|(refine Q2n ?_)|(refine Q2Z ?_)|(refine Q1r rfl rfl (fun hc=> ?_) (fun hc=> ?_)))
   all_goals (refine Zbl ?_;refine Yaf ?_;refine Yah ?_;(first|refine zgn ?_|(refine zgy ?_;refine Q6 hS hel rfl (i:=1) rfl (Qf fr g) (Qi fr g) rfl ?_));refine Yan ?_)
   all_goals (first|refine zgn ?_|(refine zgy ?_;(first|(refine Q15 ?_)|(refine Q1c ?_)|(refine Qu rfl rfl (fun hc=> ?_) (fun hc=> ?_)))))
   all_goals (refine Yae ?_)
   all_goals (first|(refine zR1 (c:=Q2r hS) (h:=?_);rintro v1 w1 ⟨rfl,hS⟩)|(refine zE1 (c:=Q2A hS) (p:=by rintro v9 w9 ⟨rfl,hS⟩;(repeat (first|refine Q2 ?_|refine Q3 ?_|refine fun _=> ?_));refine Qc ?_;refine .inr ⟨_,rfl,?_⟩;first|(exact ⟨rgs_bad hd hx1 (regf_n (by show x1 < 0∨(g.regs.length:Int)≤x1;omega)),rfl,hS.sp⟩)) (h:=fun _ _ h=> h.elim)))
   all_goals (refine zn ?_;obtain ⟨r9,hr9⟩:∃r,g.regs[x1.toNat]?=some r:=⟨_,List.getElem?_eq_getElem (by omega)⟩;have hrow:(Qw g.regs)[x1.toNat]?=some [.int .i64 r9]:=(by rw [List.getElem?_map,hr9];rfl);have hrg:g.abs.reg x1=some r9:=regf_y (by omega) hr9;refine Zae ?_;refine Zbd ?_;refine Q6 hS hel rfl (i:=1) rfl (Qf fr g) (Qi fr g) rfl ?_;refine zm ?_;(first|(refine Yam ?_;intro b2 o2 cs2 x2 hat2 hx2 he2;obtain rfl:=QY he2)|(refine zie hS ?_;intro b2 o2 hel2)|(refine zij hS ?_;intro b2 o2 hel2));refine Qy hS hel2 rfl (i:=3) rfl rfl hrow rfl ?_;refine zB1 hS [_] ?_;intro b1 w1 hS;refine Q1T Q5o (.inl Q9F) hS vw vw (i:=6) rfl (hS.srcB (i:=0) rfl (by rfl) (by simp [oneC])) (by rw [List.length_map];simp only [List.length_cons,List.length_nil];omega) ?_;intro v7 w7 hS;have hS:=hS.ns;have ho7:=hS.oneC (i:=6) rfl;refine Zad ?_)
   all_goals (refine Q10 ?_;refine zad ?_;refine Zad ?_;exact ⟨⟨q+1,v7,out++[r9],zh,zh,(by omega),by rw [List.length_append,hol];rfl,ho7,rgs_step hd hx1 hrg,by rw [Qw,List.map_append];exact hS.sp⟩,Qv (by omega)⟩)
 · skip
   all_goals (refine zex ?_;refine Zbq ?_;exact .inl ⟨_,rfl,out,rgs_end hd (by omega),by omega,hvo,hS.sp⟩)
end Go.Proofs.YteflkifmgnpbhaaGreat
namespace Go.Proofs.YteflkifmgnpbhaaGreat
open Go.Lir
set_option maxHeartbeats 1000000
attribute [local irreducible] LC.wp Q0 Qk Qh retQ Qt LO.wp Q4 Calls
set_option linter.unusedSimpArgs false
set_option linter.unusedVariables false
variable {cx:Cx}{w:World}{L:List Res}{p N:Nat}{c:MC}{fr:List FrmV}{g:FrmV}{h:HpS}{out:List Int}
attribute [local irreducible] Frm.val Frm.num Frm.args Frm.rgs Frm.reg HpS.get HpS.set HpS.setC HpS.len HpS.code HpS.put HpS.putV HpS.open HpS.shut HpS.full HpS.openV HpS.can HpS.arr HpS.arrC HpS.arrV HpS.tuple
theorem Qdp {v:Val}{e:Int}(hf:fr.length≤1000) (hn:g.vals.length≤900000) (hS:St cx w (mL p c fr g L)):Fins Tryz.prog Q61 [.pointer (some ⟨p,0,none⟩),v.v, .int .i64 e] w
 (fun u w'=> e=0∧∃tv,u= .tuple #[]∧St cx w' (mL p c fr (g.push tv [v]) L)) (fun u w'=> (e=14∧u=QbZ 6∨e≠14∧e≠0∧u=Q4k)∧St cx w' (mL p c fr g L)):=by
 unfold Fins Val.v Val.cells
 all_goals refine lgo tyD Tryz.func175 ?_
 all_goals (refine Zat ?_;intro p4 w1 hS;refine Zaz ?_)
 all_goals (first|(refine Ql ?_)|(refine Qo ?_)|(refine Q8 rfl rfl (fun hc=> ?_) (fun hc=> ?_)))
 all_goals (first|(refine zR2 (c:=Q4G hS) (h:=?_);rintro v1 w1 ⟨rfl,hS⟩)|(refine zE2 (c:=Q4F hS) (p:=by rintro v9 w9 ⟨rfl,hS⟩;(repeat (first|refine Q2 ?_|refine Q3 ?_|refine fun _=> ?_));refine Qc ?_;refine .inr ⟨_,rfl,?_⟩;first|(exact ⟨.inl ⟨by omega,rfl⟩,hS.sp⟩)) (h:=fun _ _ h=> h.elim)))
 all_goals (refine Zaz ?_)
 all_goals (first|(refine Ql ?_)|(refine Qo ?_)|(refine Q8 rfl rfl (fun hc=> ?_) (fun hc=> ?_)))
 all_goals (first|(refine zR1 (c:=Q2r hS) (h:=?_);rintro v1 w1 ⟨rfl,hS⟩)|(refine zE1 (c:=Q2A hS) (p:=by rintro v9 w9 ⟨rfl,hS⟩;(repeat (first|refine Q2 ?_|refine Q3 ?_|refine fun _=> ?_));refine Qc ?_;refine .inr ⟨_,rfl,?_⟩;first|(exact ⟨.inr ⟨by omega,by omega,rfl⟩,hS.sp⟩)) (h:=fun _ _ h=> h.elim)))
 all_goals (refine ZaJ ?_;refine zv hS ?_;refine zB1 hS [_,_,_,_] ?_;intro b1 w1 hS;have hS:=St.slOf (T:=224) (es:=4) (css:=[v].map Val.cells) hS rfl (by simp [Val.cells]) rfl;have hS:St cx _ (mL p c fr g (sl 224 4 (.slice (some ⟨b1,0,none⟩) 1 1) ([v].map Val.cells)::L)):=hS.sp;refine zR2 (c:=Q57 (j:=0) hf (by simp only [List.length_cons,List.length_nil];omega) hS rfl) (h:=?_);rintro u1 w1 ⟨tv,rfl,hS⟩;refine Zbc ?_;exact .inl ⟨_,rfl,by omega,tv,rfl,hS.sp⟩)
theorem Q9m {x:Ins}{cs:List Value}{e:Int}(hx:insR.at cx cs x) (hf:fr.length≤1000) (hS:St cx w (mL p c fr g L)):Fins Tryz.prog Q60 [.pointer (some ⟨p,0,none⟩), .agg ⟨cs⟩, .int .i64 e] w
 (fun u w'=> (∃v,g.abs.val x.a=some v∧v.kind=4)∧e=0∧u= .tuple #[]∧St cx w' (mL p c fr g L))
 (fun u w'=> ((∀v,g.abs.val x.a=some v→v.kind=4→e≠1∧e≠0)∧u=Q4k∨(∃v,g.abs.val x.a=some v∧v.kind=4)∧e=1∧u=QbZ 2)∧St cx w' (mL p c fr g L)):=by
 obtain ⟨vr,va,rfl,hr,ha⟩:=QZ hx
 unfold Fins
 all_goals refine lgo tyD Tryz.func181 ?_
 all_goals (refine Zat ?_;intro p4 w1 hS;refine Zaz ?_;refine zf0 ?_;refine zl hS ?_;have hS:St cx _ (mL p c fr g (blk p4 84 [.int .i64 x.op, .int .i64 x.a, .int .i64 x.b, .int .i64 x.c, .int .i64 x.k, .int .i64 x.n,vr,va]::L)):=hS.sp)
 all_goals (refine zE2 (c:=Q3r hf hS) (p:=by rintro u9 w9 ⟨hv,rfl,hS⟩;(repeat (first|refine Q2 ?_|refine Q3 ?_|refine fun _=> ?_));refine Qc ?_;refine .inr ⟨_,rfl,?_⟩;exact ⟨.inl ⟨fun v h=> (by rw [hv] at h;cases h),rfl⟩,hS.sp⟩) (h:=?_);rintro u1 w2 ⟨v,hv,rfl,hS⟩;unfold Val.v Val.cells)
 all_goals (refine Q7W rfl rfl ?_)
 all_goals (first|(refine Ql ?_)|(refine Qo ?_)|(refine Q8 rfl rfl (fun hc=> ?_) (fun hc=> ?_)))
 all_goals (first|(refine zR1 (c:=Q2r hS) (h:=?_);rintro v1 w1 ⟨rfl,hS⟩)|(refine zE1 (c:=Q2A hS) (p:=by rintro v9 w9 ⟨rfl,hS⟩;(repeat (first|refine Q2 ?_|refine Q3 ?_|refine fun _=> ?_));refine Qc ?_;refine .inr ⟨_,rfl,?_⟩;exact ⟨.inl ⟨fun v' h h4=> (by rw [hv] at h;cases h;omega),rfl⟩,hS.sp⟩) (h:=fun _ _ h=> h.elim)))
 all_goals (refine Zaz ?_)
 all_goals (first|(refine Ql ?_)|(refine Qo ?_)|(refine Q8 rfl rfl (fun hc=> ?_) (fun hc=> ?_)))
 all_goals (first|(refine zR2 (c:=Q4G hS) (h:=?_);rintro v1 w1 ⟨rfl,hS⟩)|(refine zE2 (c:=Q4F hS) (p:=by rintro v9 w9 ⟨rfl,hS⟩;(repeat (first|refine Q2 ?_|refine Q3 ?_|refine fun _=> ?_));refine Qc ?_;refine .inr ⟨_,rfl,?_⟩;first|(exact ⟨.inr ⟨⟨v,hv,by omega⟩,by omega,rfl⟩,hS.sp⟩)) (h:=fun _ _ h=> h.elim)))
 all_goals (refine ZaJ ?_)
 all_goals (first|(refine Ql ?_)|(refine Qo ?_)|(refine Q8 rfl rfl (fun hc=> ?_) (fun hc=> ?_)))
 all_goals (first|(refine zR1 (c:=Q2r hS) (h:=?_);rintro v1 w1 ⟨rfl,hS⟩)|(refine zE1 (c:=Q2A hS) (p:=by rintro v9 w9 ⟨rfl,hS⟩;(repeat (first|refine Q2 ?_|refine Q3 ?_|refine fun _=> ?_));refine Qc ?_;refine .inr ⟨_,rfl,?_⟩;exact ⟨.inl ⟨fun v' h h4=> (by rw [hv] at h;cases h;omega),rfl⟩,hS.sp⟩) (h:=fun _ _ h=> h.elim)))
 all_goals (refine Zbc ?_;exact .inl ⟨_,rfl,⟨v,hv,by omega⟩,by omega,rfl,hS.sp⟩)
end Go.Proofs.YteflkifmgnpbhaaGreat
namespace Go.Proofs.YteflkifmgnpbhaaGreat
open Go.Lir
set_option maxHeartbeats 1000000
attribute [local irreducible] LC.wp Q0 Qk Qh retQ Qt LO.wp Q4 Calls
set_option linter.unusedSimpArgs false
set_option linter.unusedVariables false
@[reducible] def mS (p:Nat) (c:MC) (fr:List FrmV) (g:FrmV) (N:Nat) (h:HpS) (out:List Int) (L:List Res):List Res:=mL p c fr g (Q1P N c.hp h::sl 2 1 c.ov (Qw out)::L)
def msOf (h:HpS) (g:FrmV) (fr:List FrmV) (inp out:List Int) (fu:Nat):MS:=⟨h,g.abs,(fr.map FrmV.abs).reverse,inp,out,fu⟩
@[reducible] def MC.upd (c:MC) (lv iv ov:Value):MC:=⟨c.hp,c.fn,lv,iv,c.e,c.bv,ov,c.fu,c.mo,c.dn,c.c,c.a⟩
def GoS (p:Nat) (c:MC) (N:Nat) (fu:Nat) (X:Stp) (cx:Cx) (L:List Res) (u:Value) (w':World):Prop:=
 ∃lv iv ov fr' g' N' h' inp' out',X= .go (msOf h' g' fr' inp' out' fu)∧intR.sl cx iv inp'∧N'≤N+1∧u= .tuple #[]∧St cx w' (mS p (c.upd lv iv ov) fr' g' N' h' out' L)
def BadS (p:Nat) (c:MC) (N:Nat) (h:HpS) (out:List Int) (X:Stp) (cx:Cx) (L:List Res) (u:Value) (w':World):Prop:=
 (X= .lost∧u=Q4k∧St cx w' (blk p 55 c.cells::L))∨(∃e,X= .halt e∧u=QbZ e∧∃fr' g' N',N'≤N+1∧St cx w' (mS p c fr' g' N' h out L))
variable {cx:Cx}{w:World}{L:List Res}{p N:Nat}{c:MC}{fr:List FrmV}{g:FrmV}{h:HpS}{out inp:List Int}{fu:Nat}
attribute [local irreducible] Frm.val Frm.num Frm.args Frm.rgs Frm.reg HpS.get HpS.set HpS.setC HpS.len HpS.code HpS.putV HpS.open HpS.shut HpS.full HpS.openV HpS.can HpS.tuple
theorem Qac {s:MS}{e:Int}{v:Val}(he:e=14):s.made e h v= .halt 6:=if_pos he
theorem Qab {s:MS}{e:Int}{v:Val}(he:e≠14) (h0:e≠0):s.made e h v= .lost:=by unfold MS.made;rw [if_neg he,if_pos h0]
theorem Qdq {s:MS}{e:Int}{v:Val}(he:e=0):s.made e h v= .go ((s.hp h).put [v]):=by unfold MS.made;rw [if_neg (by omega),if_neg (by omega)]
theorem Qgy {h:HpS}{v:Val}{n:Int}(e:h.arrC v n≠0):h.arr v n=h:=by
 unfold HpS.arrC at e
 unfold HpS.arr
 split
 · rfl
 · rename_i hn
   rw [if_neg hn] at e
   unfold HpS.put;exact if_neg e
def arrX (s:MS) (x:Ins):Stp:=Q14 (s.g.val x.a) fun v=> Q14 (s.g.num x.b) fun n=> if n < 0∨15 < n then .halt 3 else s.made (s.h.arrC v n) (s.h.arr v n) (s.h.arrV v n)
attribute [local irreducible] HpS.arr HpS.arrC HpS.arrV
theorem array_c {x:Ins}{cs:List Value}(hx:insR.at cx cs x) (hi:intR.sl cx c.iv inp) (hf:fr.length≤1000) (hn:g.vals.length≤900000) (hN:N≤99999) (hS:St cx w (mS p c fr g N h out L)):
 Fins Tryz.prog Q5E [.pointer (some ⟨p,0,none⟩), .agg ⟨cs⟩] w (GoS p c N fu (arrX (msOf h g fr inp out fu) x) cx L) (BadS p c N h out (arrX (msOf h g fr inp out fu) x) cx L):=by
 obtain ⟨vr,va,rfl,hr,ha⟩:=QZ hx
 unfold Fins GoS BadS arrX
 all_goals refine lgo tyD Tryz.func180 ?_
 all_goals (refine Zat ?_;intro p3 w1 hS;refine Zal ?_;have hS:St cx _ (mS p c fr g N h out (blk p3 84 [.int .i64 x.op, .int .i64 x.a, .int .i64 x.b, .int .i64 x.c, .int .i64 x.k, .int .i64 x.n,vr,va]::L)):=hS.sp)
 refine Q1N 3 8 (by kernel_rfl) ?_ ?_
 · skip
   refine Q1N 7 8 (by kernel_rfl) ?_ ?_
   · skip
     all_goals (refine zC [(0,none),(1,none),(2,none),(4,none),(5,none),(6,none),(3,some (some [6])),(7,some none),(8,some none),(9,some none),(10,some none)] ?_;have hS:=hS.drew;refine Zax ?_;refine zf0 ?_;refine Zab ?_;refine zl hS ?_;refine Zaq ?_;refine zf0 ?_;refine Zab ?_;refine zl hS ?_;refine Zaj ?_;refine zE2 (c:=Q3r hf (show St cx _ (mL p c fr g _) from hS.sp)) (p:=by rintro u9 w9 ⟨hv,rfl,hS⟩;(repeat (first|refine Q2 ?_|refine Q3 ?_|refine fun _=> ?_));refine Qc ?_;refine .inr ⟨_,rfl,?_⟩;exact .inl ⟨QK hv,rfl,hS.sp⟩) (h:=?_);rintro u1 w2 ⟨v,hv,rfl,hS⟩;refine ZaC ?_;refine zE2 (c:=Q6E hf (show St cx _ (mL p c fr g _) from hS.sp)) (p:=by rintro u9 w9 ⟨hm,rfl,hS⟩;(repeat (first|refine Q2 ?_|refine Q3 ?_|refine fun _=> ?_));refine Qc ?_;refine .inr ⟨_,rfl,?_⟩;exact .inl ⟨(Q1 hv).trans (QK hm),rfl,hS.sp⟩) (h:=?_);rintro u1 w2 ⟨n,hm,rfl,hS⟩;refine Zau ?_;refine Qg hS ?_;intro p4 w1 hS;refine Zau ?_;unfold Val.v Val.cells;refine zsn hS ?_;intro w1 hS;have hS:=hS.ns)
     all_goals (refine Zau ?_;refine Zbo ?_)
     all_goals (first|(refine Q15 ?_)|(refine Q1c ?_)|(refine Qu rfl rfl (fun hc=> ?_) (fun hc=> ?_)))
     all_goals (refine Zam ?_)
     all_goals (first|refine zgn ?_|(refine zgy ?_;(first|(refine Q17 ?_)|(refine Q1a ?_)|(refine Qs rfl rfl (fun hc=> ?_) (fun hc=> ?_)))))
     all_goals (refine Yae ?_)
     all_goals (first|(refine zR2 (c:=Q4G hS) (h:=?_);rintro v1 w1 ⟨rfl,hS⟩)|(refine zE2 (c:=Q4F hS) (p:=by rintro v9 w9 ⟨rfl,hS⟩;(repeat (first|refine Q2 ?_|refine Q3 ?_|refine fun _=> ?_));refine Qc ?_;refine .inr ⟨_,rfl,?_⟩;first|(exact .inr ⟨3,(Q1 hv).trans ((Q1 hm).trans (if_pos (by omega))),rfl,fr,g,N,by omega,hS.sp⟩)) (h:=fun _ _ h=> h.elim)))
     all_goals (refine zn ?_;refine zC [(0,none),(1,none),(2,none),(3,none),(4,none),(5,none),(6,none),(7,some (some [])),(8,none),(9,none),(10,some none)] ?_;have hS:=hS.drew;refine Zbg ?_;refine Zaw ?_;refine zf0 ?_;refine Zab ?_;refine zl hS ?_;refine Zab ?_;refine zv hS ?_;refine ZbK ?_;refine Zaj ?_;refine zR3 (c:=Qav (N:=N) (s:=h) (h:=c.hp) v n (by omega) hS fd) (h:=?_);rintro v1 w1 ⟨rfl,hS⟩;have hS:=hS.ns;refine ZaH ?_;refine ZbB ?_;refine Zau ?_)
     all_goals (refine zE3 (c:=Qdp (v:=h.arrV v n) hf hn (show St cx _ (mL p c fr g _) from hS.sp)) (p:=by rintro u9 w9 ⟨he,hS⟩;(repeat (first|refine Q2 ?_|refine Q3 ?_|refine fun _=> ?_));refine Qc ?_;refine .inr ⟨_,rfl,?_⟩;rcases he with ⟨e0,rfl⟩|⟨e0,e1,rfl⟩;exact .inr ⟨6,(Q1 hv).trans ((Q1 hm).trans ((if_neg (by omega)).trans (Qac e0))),rfl,fr,g,N+1,Nat.le_refl _,by rw [Qgy (by omega)] at hS;exact hS.sp⟩;exact .inl ⟨(Q1 hv).trans ((Q1 hm).trans ((if_neg (by omega)).trans (Qab e0 e1))),rfl,hS.sp⟩) (h:=?_);rintro u1 w2 ⟨e0,tv,rfl,hS⟩)
     all_goals (refine Zao ?_;refine Qz ?_;exact .inl ⟨_,rfl,c.lv,c.iv,c.ov,fr,_,_,_,inp,out,(Q1 hv).trans ((Q1 hm).trans ((if_neg (by omega)).trans (Qdq e0))),hi,Nat.le_refl _,rfl,hS.sp⟩)
   · skip
     all_goals (refine zC [(0,none),(1,none),(2,none),(4,none),(5,none),(6,none),(3,some (some [6])),(8,some (some [6])),(7,some none),(9,some none),(10,some none)] ?_;have hS:=hS.drew;refine Zax ?_;refine zf0 ?_;refine Zab ?_;refine zl hS ?_;refine Zaq ?_;refine zf0 ?_;refine Zab ?_;refine zl hS ?_;refine Zaj ?_;refine zE2 (c:=Q3r hf (show St cx _ (mL p c fr g _) from hS.sp)) (p:=by rintro u9 w9 ⟨hv,rfl,hS⟩;(repeat (first|refine Q2 ?_|refine Q3 ?_|refine fun _=> ?_));refine Qc ?_;refine .inr ⟨_,rfl,?_⟩;exact .inl ⟨QK hv,rfl,hS.sp⟩) (h:=?_);rintro u1 w2 ⟨v,hv,rfl,hS⟩;refine Zay ?_;refine Qg hS ?_;intro p4 w1 hS;refine ZaC ?_;refine zE2 (c:=Q6E hf (show St cx _ (mL p c fr g _) from hS.sp)) (p:=by rintro u9 w9 ⟨hm,rfl,hS⟩;(repeat (first|refine Q2 ?_|refine Q3 ?_|refine fun _=> ?_));refine Qc ?_;refine .inr ⟨_,rfl,?_⟩;exact .inl ⟨(Q1 hv).trans (QK hm),rfl,hS.sp⟩) (h:=?_);rintro u1 w2 ⟨n,hm,rfl,hS⟩;refine Zau ?_;unfold Val.v Val.cells)
     all_goals (refine zsn hS ?_;intro w1 hS;have hS:=hS.ns;refine Zau ?_;refine Zbo ?_)
     all_goals (first|(refine Q15 ?_)|(refine Q1c ?_)|(refine Qu rfl rfl (fun hc=> ?_) (fun hc=> ?_)))
     all_goals (refine Zam ?_)
     all_goals (first|refine zgn ?_|(refine zgy ?_;(first|(refine Q17 ?_)|(refine Q1a ?_)|(refine Qs rfl rfl (fun hc=> ?_) (fun hc=> ?_)))))
     all_goals (refine Yae ?_)
     all_goals (first|(refine zR2 (c:=Q4G hS) (h:=?_);rintro v1 w1 ⟨rfl,hS⟩)|(refine zE2 (c:=Q4F hS) (p:=by rintro v9 w9 ⟨rfl,hS⟩;(repeat (first|refine Q2 ?_|refine Q3 ?_|refine fun _=> ?_));refine Qc ?_;refine .inr ⟨_,rfl,?_⟩;first|(exact .inr ⟨3,(Q1 hv).trans ((Q1 hm).trans (if_pos (by omega))),rfl,fr,g,N,by omega,hS.sp⟩)) (h:=fun _ _ h=> h.elim)))
     all_goals (refine zn ?_;refine zC [(0,none),(1,none),(2,none),(3,none),(4,none),(5,none),(6,none),(7,some (some [])),(8,none),(9,none),(10,some none)] ?_;have hS:=hS.drew;refine Zbg ?_;refine Zaw ?_;refine zf0 ?_;refine Zab ?_;refine zl hS ?_;refine Zab ?_;refine zv hS ?_;refine ZbK ?_;refine Zaj ?_;refine zR3 (c:=Qav (N:=N) (s:=h) (h:=c.hp) v n (by omega) hS fd) (h:=?_);rintro v1 w1 ⟨rfl,hS⟩;have hS:=hS.ns;refine ZaH ?_;refine ZbB ?_;refine Zau ?_)
     all_goals (refine zE3 (c:=Qdp (v:=h.arrV v n) hf hn (show St cx _ (mL p c fr g _) from hS.sp)) (p:=by rintro u9 w9 ⟨he,hS⟩;(repeat (first|refine Q2 ?_|refine Q3 ?_|refine fun _=> ?_));refine Qc ?_;refine .inr ⟨_,rfl,?_⟩;rcases he with ⟨e0,rfl⟩|⟨e0,e1,rfl⟩;exact .inr ⟨6,(Q1 hv).trans ((Q1 hm).trans ((if_neg (by omega)).trans (Qac e0))),rfl,fr,g,N+1,Nat.le_refl _,by rw [Qgy (by omega)] at hS;exact hS.sp⟩;exact .inl ⟨(Q1 hv).trans ((Q1 hm).trans ((if_neg (by omega)).trans (Qab e0 e1))),rfl,hS.sp⟩) (h:=?_);rintro u1 w2 ⟨e0,tv,rfl,hS⟩)
     all_goals (refine Zao ?_;refine Qz ?_;exact .inl ⟨_,rfl,c.lv,c.iv,c.ov,fr,_,_,_,inp,out,(Q1 hv).trans ((Q1 hm).trans ((if_neg (by omega)).trans (Qdq e0))),hi,Nat.le_refl _,rfl,hS.sp⟩)
 · skip
   all_goals (refine zC [(0,none),(1,none),(2,none),(4,none),(5,none),(6,none),(8,some (some [2,6])),(3,some (some [6])),(7,some none),(9,some none),(10,some none)] ?_;have hS:=hS.drew;refine Zax ?_;refine zf0 ?_;refine Zab ?_;refine zl hS ?_;refine Zaq ?_;refine zf0 ?_;refine Zab ?_;refine zl hS ?_;refine ZaY ?_;intro p4 w1 hS;refine Zay ?_;refine zE2 (c:=Q3r hf (show St cx _ (mL p c fr g _) from hS.sp)) (p:=by rintro u9 w9 ⟨hv,rfl,hS⟩;(repeat (first|refine Q2 ?_|refine Q3 ?_|refine fun _=> ?_));refine Qc ?_;refine .inr ⟨_,rfl,?_⟩;exact .inl ⟨QK hv,rfl,hS.sp⟩) (h:=?_);rintro u1 w2 ⟨v,hv,rfl,hS⟩;refine ZaC ?_;refine zE2 (c:=Q6E hf (show St cx _ (mL p c fr g _) from hS.sp)) (p:=by rintro u9 w9 ⟨hm,rfl,hS⟩;(repeat (first|refine Q2 ?_|refine Q3 ?_|refine fun _=> ?_));refine Qc ?_;refine .inr ⟨_,rfl,?_⟩;exact .inl ⟨(Q1 hv).trans (QK hm),rfl,hS.sp⟩) (h:=?_);rintro u1 w2 ⟨n,hm,rfl,hS⟩;refine Zau ?_;unfold Val.v Val.cells)
   all_goals (refine zsn hS ?_;intro w1 hS;have hS:=hS.ns;refine Zau ?_;refine Zbo ?_)
   all_goals (first|(refine Q15 ?_)|(refine Q1c ?_)|(refine Qu rfl rfl (fun hc=> ?_) (fun hc=> ?_)))
   all_goals (refine Zam ?_)
   all_goals (first|refine zgn ?_|(refine zgy ?_;(first|(refine Q17 ?_)|(refine Q1a ?_)|(refine Qs rfl rfl (fun hc=> ?_) (fun hc=> ?_)))))
   all_goals (refine Yae ?_)
   all_goals (first|(refine zR2 (c:=Q4G hS) (h:=?_);rintro v1 w1 ⟨rfl,hS⟩)|(refine zE2 (c:=Q4F hS) (p:=by rintro v9 w9 ⟨rfl,hS⟩;(repeat (first|refine Q2 ?_|refine Q3 ?_|refine fun _=> ?_));refine Qc ?_;refine .inr ⟨_,rfl,?_⟩;first|(exact .inr ⟨3,(Q1 hv).trans ((Q1 hm).trans (if_pos (by omega))),rfl,fr,g,N,by omega,hS.sp⟩)) (h:=fun _ _ h=> h.elim)))
   all_goals (refine zn ?_;refine zC [(0,none),(1,none),(2,none),(3,none),(4,none),(5,none),(6,none),(7,some (some [])),(8,none),(9,none),(10,some none)] ?_;have hS:=hS.drew;refine Zbg ?_;refine Zaw ?_;refine zf0 ?_;refine Zab ?_;refine zl hS ?_;refine Zab ?_;refine zv hS ?_;refine ZbK ?_;refine Zaj ?_;refine zR3 (c:=Qav (N:=N) (s:=h) (h:=c.hp) v n (by omega) hS fd) (h:=?_);rintro v1 w1 ⟨rfl,hS⟩;have hS:=hS.ns;refine ZaH ?_;refine ZbB ?_;refine Zau ?_)
   all_goals (refine zE3 (c:=Qdp (v:=h.arrV v n) hf hn (show St cx _ (mL p c fr g _) from hS.sp)) (p:=by rintro u9 w9 ⟨he,hS⟩;(repeat (first|refine Q2 ?_|refine Q3 ?_|refine fun _=> ?_));refine Qc ?_;refine .inr ⟨_,rfl,?_⟩;rcases he with ⟨e0,rfl⟩|⟨e0,e1,rfl⟩;exact .inr ⟨6,(Q1 hv).trans ((Q1 hm).trans ((if_neg (by omega)).trans (Qac e0))),rfl,fr,g,N+1,Nat.le_refl _,by rw [Qgy (by omega)] at hS;exact hS.sp⟩;exact .inl ⟨(Q1 hv).trans ((Q1 hm).trans ((if_neg (by omega)).trans (Qab e0 e1))),rfl,hS.sp⟩) (h:=?_);rintro u1 w2 ⟨e0,tv,rfl,hS⟩)
   all_goals (refine Zao ?_;refine Qz ?_;exact .inl ⟨_,rfl,c.lv,c.iv,c.ov,fr,_,_,_,inp,out,(Q1 hv).trans ((Q1 hm).trans ((if_neg (by omega)).trans (Qdq e0))),hi,Nat.le_refl _,rfl,hS.sp⟩)
end Go.Proofs.YteflkifmgnpbhaaGreat
namespace Go.Proofs.YteflkifmgnpbhaaGreat
open Go.Lir
set_option maxHeartbeats 1000000
attribute [local irreducible] LC.wp Q0 Qk Qh retQ Qt LO.wp Q4 Calls
set_option linter.unusedSimpArgs false
set_option linter.unusedVariables false
variable {cx:Cx}{w:World}{L:List Res}{p N:Nat}{c:MC}{fr:List FrmV}{g:FrmV}{h:HpS}{out inp:List Int}{fu:Nat}{m:Module}
theorem QfC {g':FrmV}:msOf h g' (fr++[g]) inp out fu=⟨h,g'.abs,g.abs::(fr.map FrmV.abs).reverse,inp,out,fu⟩:=by unfold msOf;simp
theorem call_X {s:MS}{x:Ins}{gf:Fun}(hg:m.funcs[x.k.toNat]?=some gf):s.call m x=Q14 (s.g.rgs x.regs) fun rs=> Q14 (s.g.args x.args) fun vs=>
 if (rs.length:Int)≠gf.regs∨vs.length≠gf.params.length then .lost else if s.st.length+1=40 then .halt 5 else .go ⟨s.h,⟨x.k.toNat,0,0,vs,rs⟩,s.g::s.st,s.inp,s.out,s.fuel⟩:=by unfold MS.call;rw [hg]
theorem big_g (hS:St cx w (sl 224 4 g.vv (g.vals.map Val.cells)::sl 3 1 g.rv (Qw g.regs)::big FrmV.res fr::L)):St cx w (big FrmV.res (fr++[g])::L):=
 St.big_push (f:=FrmV.res) (x:=g) (St.star' hS)
theorem Qfj {g':FrmV}:Q24 fr g++[g'.cells]=Q24 (fr++[g]) g':=by simp [Q24]
attribute [local irreducible] Frm.val Frm.num Frm.args Frm.rgs Frm.reg
theorem call_c {x:Ins}{cs:List Value}(hx:insR.at cx cs x) (hfn:funcR.sl cx c.fn m.funcs) (hi:intR.sl cx c.iv inp) (hk0:0≤x.k) (hk1:x.k < m.funcs.length) (h6:x.regs.length≤100) (h8:x.args.length≤100) (hf:fr.length≤1000) (hS:St cx w (mS p c fr g N h out L)):
 Fins Tryz.prog Q62 [.pointer (some ⟨p,0,none⟩), .agg ⟨cs⟩] w (GoS p c N fu ((msOf h g fr inp out fu).call m x) cx L) (BadS p c N h out ((msOf h g fr inp out fu).call m x) cx L):=by
 obtain ⟨vr,va,rfl,hr,ha⟩:=QZ hx
 have hfl:=hfn.len
 unfold Fins GoS BadS
 all_goals refine lgo tyD Tryz.func183 ?_
 all_goals (refine Zat ?_;intro p3 w1 hS;refine Zal ?_;have hS:St cx _ (mS p c fr g N h out (blk p3 84 [.int .i64 x.op, .int .i64 x.a, .int .i64 x.b, .int .i64 x.c, .int .i64 x.k, .int .i64 x.n,vr,va]::L)):=hS.sp;refine zC [(0,none),(1,none),(2,none),(3,none),(4,none),(5,none),(6,none),(7,none),(8,none),(9,some (some [4,6,8])),(10,some none)] ?_;have hS:=hS.drew;refine ZaW ?_;refine zf0 ?_;refine Zbb ?_;refine zl hS ?_;refine Zab ?_;refine zf0 ?_;refine Zab ?_;refine zl hS ?_;refine Zab ?_;refine zj ?_;intro b1 o1 cs1 x1 hat1 hx1 he1;obtain ⟨vp1,vr1,vb1,rfl,hp1,hr1,hb1⟩:=QG he1;have hX:=call_X (s:=msOf h g fr inp out fu) hx1)
 all_goals (refine Zab ?_;refine Yai ?_;refine ZaY ?_;intro p4 w1 hS;refine ZaC ?_;refine zsn hS ?_;intro w1 hS;have hS:=hS.ns;refine Zao ?_;refine QB ?_;refine zC [(0,none),(1,none),(2,none),(4,none),(5,none),(6,none),(3,some (some [6])),(7,some none),(8,none),(9,some none)] ?_;have hS:=hS.drew;refine Zax ?_;refine zf0 ?_;refine Zab ?_;refine zl hS ?_;refine Zaq ?_;refine zf0 ?_;refine Zab ?_;refine zl hS ?_;refine Zaj ?_;refine zE2 (c:=regs_c (by omega) hf hr (show St cx _ (mL p c fr g _) from hS.sp)) (p:=by rintro u9 w9 ⟨hrs,rfl,hS⟩;(repeat (first|refine Q2 ?_|refine Q3 ?_|refine fun _=> ?_));refine Qc ?_;refine .inr ⟨_,rfl,?_⟩;exact .inl ⟨hX.trans (QK hrs),rfl,hS.sp⟩) (h:=?_);rintro u1 w2 ⟨rs,hrs,hrl,ho1,hS⟩;obtain ⟨a1,n1,rfl⟩:=hS.shape (i:=5) rfl)
 all_goals (refine ZaC ?_;refine zE2 (c:=QaO (by omega) hf ha (show St cx _ (mL p c fr g _) from hS.sp)) (p:=by rintro u9 w9 ⟨hvs,rfl,hS⟩;(repeat (first|refine Q2 ?_|refine Q3 ?_|refine fun _=> ?_));refine Qc ?_;refine .inr ⟨_,rfl,?_⟩;exact .inl ⟨hX.trans ((Q1 hrs).trans (QK hvs)),rfl,hS.sp⟩) (h:=?_);rintro u2 w2 ⟨vs,hvs,hvl,ho2,hS⟩;obtain ⟨a2,n2,rfl⟩:=hS.shape (i:=5) rfl;refine ZbK ?_;refine Zau ?_;refine Zbo ?_;refine Yas ?_;refine zf0 ?_;refine zl hS ?_)
 all_goals (first|(refine Ql ?_)|(refine Qo ?_)|(refine Q8 rfl rfl (fun hc=> ?_) (fun hc=> ?_)))
 all_goals (refine Zam ?_;refine Yan ?_;refine Zan ?_;refine Yaj ?_)
 all_goals (first|refine zgn ?_|(refine zgy ?_;(first|(refine Ql ?_)|(refine Qo ?_)|(refine Q8 rfl rfl (fun hc=> ?_) (fun hc=> ?_)))))
 all_goals (refine Yae ?_)
 all_goals (first|(refine zR1 (c:=Q2r hS) (h:=?_);rintro v1 w1 ⟨rfl,hS⟩)|(refine zE1 (c:=Q2A hS) (p:=by rintro v9 w9 ⟨rfl,hS⟩;(repeat (first|refine Q2 ?_|refine Q3 ?_|refine fun _=> ?_));refine Qc ?_;refine .inr ⟨_,rfl,?_⟩;first|(exact .inl ⟨hX.trans ((Q1 hrs).trans ((Q1 hvs).trans (if_pos (by omega)))),rfl,hS.sp⟩)) (h:=fun _ _ h=> h.elim)))
 all_goals (refine ZbD ?_;refine zf0 ?_;refine zl hS ?_;refine QQ hS vw fd (Qf fr g) ?_)
 all_goals (first|(refine Ql ?_)|(refine Qo ?_)|(refine Q8 rfl rfl (fun hc=> ?_) (fun hc=> ?_)))
 all_goals (first|(refine zR2 (c:=Q4G hS) (h:=?_);rintro v1 w1 ⟨rfl,hS⟩)|(refine zE2 (c:=Q4F hS) (p:=by rintro v9 w9 ⟨rfl,hS⟩;(repeat (first|refine Q2 ?_|refine Q3 ?_|refine fun _=> ?_));refine Qc ?_;refine .inr ⟨_,rfl,?_⟩;first|(exact .inr ⟨5,hX.trans ((Q1 hrs).trans ((Q1 hvs).trans ((if_neg (by omega)).trans (if_pos (by show ((fr.map FrmV.abs).reverse).length+1=40;rw [List.length_reverse,List.length_map];omega))))),rfl,fr,g,N,by omega,hS.sp⟩)) (h:=fun _ _ h=> h.elim)))
 all_goals (refine zn ?_;refine zC [(0,none),(1,none),(2,none),(3,none),(4,none),(5,none),(6,none),(7,none),(8,none),(9,none),(10,some (some [4])),(11,some (some [])),(12,none),(13,none),(14,some none)] ?_;have hS:=hS.drew;refine Zbg ?_;refine Zaw ?_;refine zf0 ?_;refine Zab ?_;refine zl hS ?_;refine Zab ?_;refine zf0 ?_;refine Zab ?_;refine zl hS ?_;refine Zaq ?_;refine Zag ?_;refine zb3 [_,_,_,_,_] ?_;refine Zaj ?_;refine zB1 hS [_,_,_,_,_] ?_;intro b1 w1 hS;refine Zay ?_;refine Q1T el_T53 (.inl u_T53) hS vw vw fd (hS.srcB fd (by rfl) (by simp [oneC,ho1,ho2])) (by rw [Qf];simp only [List.length_cons,List.length_nil];omega) ?_;intro v7 w7 hS;have hS:=hS.ns)
 all_goals (refine ZaH ?_;refine Zaw ?_;refine zf0 ?_;refine Zau ?_;refine zst hS ?_;intro w1 hS;have hS:=hS.ns;refine Zao ?_;refine Qz ?_;rw [show (Value.int .i64 x.k)= .int .i64 ((x.k.toNat:Nat):Int) by rw [Int.toNat_of_nonneg hk0]] at hS;have hS:=big_g (g:=g) (fr:=fr) (L:=blk p 55 _::sl 110 5 v7 _::sl 224 4 (.slice a2 _ n2) _::sl 3 1 (.slice a1 _ n1) _::Q1P N c.hp h::sl 2 1 c.ov _::L) hS.sp;exact .inl ⟨_,rfl,v7,c.iv,c.ov,fr++[g],⟨x.k.toNat,0,0, .slice a2 (vs.map Val.cells).length n2,vs, .slice a1 (Qw rs).length n1,rs⟩,N,h,inp,out,hX.trans ((Q1 hrs).trans ((Q1 hvs).trans ((if_neg (by omega)).trans ((if_neg (by show¬((fr.map FrmV.abs).reverse).length+1=40;rw [List.length_reverse,List.length_map];omega)).trans (by rw [QfC];rfl))))),hi,by omega,rfl,by have e9:Q24 fr g++[[.int .i64 ((x.k.toNat:Nat):Int),vi 0,vi 0, .slice a2 (vs.map Val.cells).length n2, .slice a1 (Qw rs).length n1]]=Q24 (fr++[g]) ⟨x.k.toNat,0,0, .slice a2 (vs.map Val.cells).length n2,vs, .slice a1 (Qw rs).length n1,rs⟩:=Qfj (g':=⟨x.k.toNat,0,0, .slice a2 (vs.map Val.cells).length n2,vs, .slice a1 (Qw rs).length n1,rs⟩);rw [e9] at hS;exact hS.sp⟩)
end Go.Proofs.YteflkifmgnpbhaaGreat
namespace Go.Proofs.YteflkifmgnpbhaaGreat
open Go.Lir
set_option maxHeartbeats 1000000
attribute [local irreducible] LC.wp Q0 Qk Qh retQ Qt LO.wp Q4 Calls
set_option linter.unusedSimpArgs false
set_option linter.unusedVariables false
variable {cx:Cx}{w:World}{L:List Res}{p N:Nat}{c:MC}{fr:List FrmV}{g:FrmV}{h:HpS}{out inp:List Int}{fu:Nat}{m:Module}
theorem to_X {s:MS}{f:Fun}{t:To}{b:Block}(hb:f.blocks[t.block.toNat]?=some b):s.to f t=Q14 (s.g.rgs t.regs) fun rs=> Q14 (s.g.args t.args) fun vs=>
 if (rs.length:Int)≠b.regs∨vs.length≠b.params.length then .lost else .go (s.fr ⟨s.g.f,t.block.toNat,0,vs,rs⟩):=by unfold MS.to;rw [hb]
theorem Qfi {g':FrmV}:(Q24 fr g).set fr.length g'.cells=Q24 fr g':=by
 unfold Q24
 rw [List.set_append_right _ _ (by simp)];simp
attribute [local irreducible] Frm.val Frm.num Frm.args Frm.rgs Frm.reg
theorem mto_c {f:Fun}{t:To}{cs:List Value}(hx:toR.at cx cs t) (hfn:funcR.sl cx c.fn m.funcs) (hi:intR.sl cx c.iv inp) (hfx:m.funcs[g.f]?=some f) (hb0:0≤t.block) (hb1:t.block < f.blocks.length) (h6:t.regs.length≤100) (h8:t.args.length≤100) (hf:fr.length≤1000) (hS:St cx w (mS p c fr g N h out L)):
 Fins Tryz.prog Q7p [.pointer (some ⟨p,0,none⟩), .agg ⟨cs⟩] w (GoS p c N fu ((msOf h g fr inp out fu).to f t) cx L) (BadS p c N h out ((msOf h g fr inp out fu).to f t) cx L):=by
 obtain ⟨vr,va,rfl,hr,ha⟩:=Q6q hx
 have hfl:=hfn.len
 have hgf:=(List.getElem?_eq_some_iff.1 hfx).1
 unfold Fins GoS BadS
 all_goals refine lgo tyD Tryz.func184 ?_
 all_goals (refine Zat ?_;intro p3 w1 hS;refine Zal ?_;have hS:St cx _ (mS p c fr g N h out (blk p3 88 [.int .i64 t.block,vr,va]::L)):=hS.sp;refine Zae ?_;refine zR1 (c:=Q4j hf hS) (h:=?_);rintro v1 w1 ⟨b9,o9,rfl,hel,hS⟩;refine ZaF ?_;refine zC [(0,none),(1,none),(2,none),(3,none),(4,none),(5,none),(6,none),(7,none),(8,none),(9,none),(10,none),(11,none),(12,none),(13,none),(14,none),(15,none),(16,some (some [4,8,11,13,15])),(17,some none)] ?_;have hS:=hS.drew;refine ZaW ?_;refine zf0 ?_;refine Zbb ?_;refine zl hS ?_;refine Zaq ?_;refine Zbw ?_;refine Qy hS hel rfl fd (Qf fr g) (Qi fr g) rfl ?_;refine Zab ?_;refine zi ?_;intro b8 o8 cs8 x8 hat8 hx8 he8;obtain rfl:x8=f:=Option.some.inj (hx8.symm.trans hfx);obtain ⟨vp8,vr8,vb8,rfl,hp8,hr8,hb8⟩:=QG he8)
 all_goals (refine Zbb ?_;refine Yaq ?_;refine Zab ?_;refine zf0 ?_;refine Zab ?_;refine zl hS ?_;refine Zab ?_;refine Yam ?_;intro b1 o1 cs1 x1 hat1 hx1 he1;obtain ⟨vp1,vc1,ve11,ve12,ve13,ve14,ve15,rfl,hp1,hc1,he11,he12,he13,he14,he15⟩:=Q1S he1;refine Zab ?_;refine Yai ?_;refine ZaY ?_;intro p5 w1 hS;refine zt ?_;refine ⟨List.forall_mem_cons.2 ⟨(by first|(exact Qm hS hel rfl fd (Qf fr g) (Qi fr g) rfl)|(exact QL hS rfl fd rfl)),List.forall_mem_cons.2 ⟨(by (exact Qm hS hel rfl fd (Qf fr g) (Qi fr g) rfl)),List.forall_mem_cons.2 ⟨(by first|(exact Qm hS hel rfl fd (Qf fr g) (Qi fr g) rfl)|(exact QL hS rfl fd rfl)|(exact Q4H hS (by assumption) rfl rfl)|(exact Q4W hS (by assumption) rfl rfl)),List.forall_mem_cons.2 ⟨(by first|(exact Qm hS hel rfl fd (Qf fr g) (Qi fr g) rfl)|(exact QL hS rfl fd rfl)),List.forall_mem_cons.2 ⟨(by first|(exact Qm hS hel rfl fd (Qf fr g) (Qi fr g) rfl)|(exact Q1V hS rfl fd rfl rfl)|(exact Q2D hS (by assumption) rfl rfl rfl)),fun _ h=> (List.not_mem_nil h).elim⟩⟩⟩⟩⟩,?_⟩)
 all_goals (refine s_cf ?_;refine zsn hS ?_;intro w1 hS;have hS:=hS.ns;refine Zao ?_;refine QB ?_;have hX:=to_X (s:=msOf h g fr inp out fu) hx1;refine zC [(0,none),(1,none),(2,none),(4,none),(5,none),(6,none),(3,some (some [6])),(7,some none),(8,none),(9,some none)] ?_;have hS:=hS.drew;refine Zax ?_;refine zf0 ?_;refine Zab ?_;refine zl hS ?_;refine Zaq ?_;refine zf0 ?_;refine Zab ?_;refine zl hS ?_;refine Zaj ?_;refine zE2 (c:=regs_c (by omega) hf hr (show St cx _ (mL p c fr g _) from hS.sp)) (p:=by rintro u9 w9 ⟨hrs,rfl,hS⟩;(repeat (first|refine Q2 ?_|refine Q3 ?_|refine fun _=> ?_));refine Qc ?_;refine .inr ⟨_,rfl,?_⟩;exact .inl ⟨hX.trans (QK hrs),rfl,hS.sp⟩) (h:=?_);rintro u1 w2 ⟨rs,hrs,hrl,ho1,hS⟩;obtain ⟨a1,n1,rfl⟩:=hS.shape (i:=5) rfl;refine zt ?_;refine ⟨List.forall_mem_cons.2 ⟨(by first|(exact Qm hS hel rfl fd (Qf fr g) (Qi fr g) rfl)|(exact QL hS rfl fd rfl)),fun _ h=> (List.not_mem_nil h).elim⟩,?_⟩)
 all_goals (refine s_cf ?_;refine zE2 (c:=QaO (by omega) hf ha (show St cx _ (mL p c fr g _) from hS.sp)) (p:=by rintro u9 w9 ⟨hvs,rfl,hS⟩;(repeat (first|refine Q2 ?_|refine Q3 ?_|refine fun _=> ?_));refine Qc ?_;refine .inr ⟨_,rfl,?_⟩;exact .inl ⟨hX.trans ((Q1 hrs).trans (QK hvs)),rfl,hS.sp⟩) (h:=?_);rintro u2 w2 ⟨vs,hvs,hvl,ho2,hS⟩;obtain ⟨a2,n2,rfl⟩:=hS.shape (i:=5) rfl;refine ZbK ?_;refine Zau ?_;refine Zbo ?_;refine Yas ?_;refine zf0 ?_;refine zl hS ?_)
 all_goals (first|(refine Ql ?_)|(refine Qo ?_)|(refine Q8 rfl rfl (fun hc=> ?_) (fun hc=> ?_)))
 all_goals (refine Zam ?_;refine Yan ?_;refine Zan ?_;refine Yaj ?_)
 all_goals (first|refine zgn ?_|(refine zgy ?_;(first|(refine Ql ?_)|(refine Qo ?_)|(refine Q8 rfl rfl (fun hc=> ?_) (fun hc=> ?_)))))
 all_goals (refine Yae ?_)
 all_goals (first|(refine zR1 (c:=Q2r hS) (h:=?_);rintro v1 w1 ⟨rfl,hS⟩)|(refine zE1 (c:=Q2A hS) (p:=by rintro v9 w9 ⟨rfl,hS⟩;(repeat (first|refine Q2 ?_|refine Q3 ?_|refine fun _=> ?_));refine Qc ?_;refine .inr ⟨_,rfl,?_⟩;first|(exact .inl ⟨hX.trans ((Q1 hrs).trans ((Q1 hvs).trans (if_pos (by omega)))),rfl,hS.sp⟩)) (h:=fun _ _ h=> h.elim)))
 all_goals (refine zn ?_;refine zD (ci 12 [11]) ?_;have hS:=hS.drew;refine zm ?_;refine Zbd ?_;refine Qy hS hel rfl fd (Qf fr g) (Qi fr g) rfl ?_;refine zf0 ?_;refine zl hS ?_;refine ZaT ?_;refine zb4 [_,_,_,_,_] ?_;refine znc ?_;refine Q2W (css':=Q24 fr ⟨g.f,t.block.toNat,0, .slice a2 (vs.map Val.cells).length n2,vs, .slice a1 (Qw rs).length n1,rs⟩) hS hel rfl vw (by rfl) fd (Qf fr g) (Qi fr g) rfl (by simp [oneC,ho1,ho2]) (by rw [show Value.int .i64 t.block= .int .i64 ((t.block.toNat:Nat):Int) by rw [Int.toNat_of_nonneg hb0]];exact Qfi (g':=⟨g.f,t.block.toNat,0, .slice a2 (vs.map Val.cells).length n2,vs, .slice a1 (Qw rs).length n1,rs⟩)) ?_;intro w8 hS;have hS:=hS.ns;refine Zbc ?_;exact .inl ⟨_,rfl,c.lv,c.iv,c.ov,fr,⟨g.f,t.block.toNat,0, .slice a2 (vs.map Val.cells).length n2,vs, .slice a1 (Qw rs).length n1,rs⟩,N,h,inp,out,hX.trans ((Q1 hrs).trans ((Q1 hvs).trans (if_neg (by omega)))),hi,by omega,rfl,hS.sp⟩)
end Go.Proofs.YteflkifmgnpbhaaGreat
namespace Go.Lir
theorem ret_l {s:MS}{f:Fun}{e:Tail}(h:s.g.args e.args=none):s.ret f e= .lost:=by unfold MS.ret;exact QK h
theorem ret_n {s:MS}{f:Fun}{e:Tail}{vs:List Val}(h:s.g.args e.args=some vs) (hl:vs.length≠f.results.length):s.ret f e= .lost:=by unfold MS.ret;rw [Q1 h,if_pos hl]
theorem ret_k {s:MS}{f:Fun}{e:Tail}{vs:List Val}{c:Frm}{st:List Frm}(h:s.g.args e.args=some vs) (hl:vs.length=f.results.length) (hs:s.st=c::st):s.ret f e= .go ((⟨s.h,c,st,s.inp,s.out,s.fuel⟩:MS).put vs):=by
 unfold MS.ret;rw [Q1 h,if_neg (fun hn=> hn hl),hs]
theorem ret_d {s:MS}{f:Fun}{e:Tail}{vs:List Val}{ns:List Int}(h:s.g.args e.args=some vs) (hl:vs.length=f.results.length) (hs:s.st=[]) (hn:intsV vs=some ns):s.ret f e= .done ns:=by
 unfold MS.ret;rw [Q1 h,if_neg (fun hn=> hn hl),hs];dsimp only;rw [hn]
theorem ret_b {s:MS}{f:Fun}{e:Tail}{vs:List Val}(h:s.g.args e.args=some vs) (hl:vs.length=f.results.length) (hs:s.st=[]) (hn:intsV vs=none):s.ret f e= .lost:=by
 unfold MS.ret;rw [Q1 h,if_neg (fun hn=> hn hl),hs];dsimp only;rw [hn]
theorem ints_y {v:Val}{l:List Val}(h:v.kind=1):intsV (v::l)=(intsV l).map fun r=> v.n::r:=by
 rw [intsV]
 cases intsV l with
 | none=> rfl
 | some ns=> exact if_pos h
theorem ints_n {v:Val}{l:List Val}(h:v.kind≠1):intsV (v::l)=none:=by
 rw [intsV]
 cases intsV l with
 | none=> rfl
 | some ns=> exact if_neg h
theorem QfY {vs:List Val}{q:Nat}{v:Val}{ns:List Int}(hd:intsV vs=(intsV (vs.drop q)).map fun r=> ns++r) (hx:vs[q]?=some v) (hk:v.kind=1):intsV vs=(intsV (vs.drop (q+1))).map fun r=> (ns++[v.n])++r:=by
 rw [hd,Qb hx,ints_y hk]
 cases intsV (vs.drop (q+1)) with
 | none=> rfl
 | some r=> simp
theorem ints_bad {vs:List Val}{q:Nat}{v:Val}{ns:List Int}(hd:intsV vs=(intsV (vs.drop q)).map fun r=> ns++r) (hx:vs[q]?=some v) (hk:v.kind≠1):intsV vs=none:=by
 rw [hd,Qb hx,ints_n hk];rfl
theorem ints_end {vs:List Val}{q:Nat}{ns:List Int}(hd:intsV vs=(intsV (vs.drop q)).map fun r=> ns++r) (hq:vs.length≤q):intsV vs=some ns:=by
 rw [hd,List.drop_of_length_le hq,intsV];simp
theorem ints_0 {vs:List Val}:intsV vs=(intsV (vs.drop 0)).map fun r=> []++r:=by
 rw [List.drop_zero];cases intsV vs <;> rfl
end Go.Lir
namespace Go.Proofs.YteflkifmgnpbhaaGreat
open Go.Lir
set_option maxHeartbeats 1000000
attribute [local irreducible] LC.wp Q0 Qk Qh retQ Qt LO.wp Q4 Calls
set_option linter.unusedSimpArgs false
set_option linter.unusedVariables false
variable {cx:Cx}{w:World}{L:List Res}{p N:Nat}{c:MC}{fr:List FrmV}{g:FrmV}{h:HpS}{out inp:List Int}{fu:Nat}{m:Module}
def DoneS (p:Nat) (c:MC) (N:Nat) (h:HpS) (out:List Int) (X:Stp) (cx:Cx) (L:List Res) (u:Value) (w':World):Prop:=
 ∃ns bv fr' g',X= .done ns∧u= .tuple #[]∧St cx w' (mS p ⟨c.hp,c.fn,c.lv,c.iv,c.e,bv,c.ov,c.fu,c.mo,true,c.c,c.a⟩ fr' g' N h out (sl 2 1 bv (Qw ns)::L))
attribute [local irreducible] Frm.val Frm.num Frm.args Frm.rgs Frm.reg intsV
theorem mret_0 {f:Fun}{e:Tail}{cs:List Value}(hx:endR.at cx cs e) (hfn:funcR.sl cx c.fn m.funcs) (hfx:m.funcs[g.f]?=some f) (h8:e.args.length≤100) (hS:St cx w (mS p c [] g N h out L)):
 Fins Tryz.prog Q2C [.pointer (some ⟨p,0,none⟩), .agg ⟨cs⟩] w (fun u w'=> DoneS p c N h out ((msOf h g [] inp out fu).ret f e) cx L u w') (BadS p c N h out ((msOf h g [] inp out fu).ret f e) cx L):=by
 obtain ⟨v1,v2,v3,v4,v5,rfl,k1,k2,k3,k4,k5⟩:=Q22 hx
 have hfl:=hfn.len
 have hgf:=(List.getElem?_eq_some_iff.1 hfx).1
 have hf0:([]:List FrmV).length≤1000:=by simp
 unfold Fins BadS DoneS
 all_goals refine lgo tyD Tryz.func185 ?_
 all_goals (refine Zat ?_;intro p3 w1 hS;refine Zal ?_;have hS:St cx _ (mS p c [] g N h out (blk p3 90 [.int .i64 e.op, .int .i64 e.a, .int .i64 e.yes.block,v1,v2, .int .i64 e.no.block,v3,v4,v5]::L)):=hS.sp;refine Zae ?_;refine zf0 ?_;refine zl hS ?_;refine zE2 (c:=QaO (by omega) hf0 k5 (show St cx _ (mL p c [] g _) from hS.sp)) (p:=by rintro u9 w9 ⟨hvs,rfl,hS⟩;(repeat (first|refine Q2 ?_|refine Q3 ?_|refine fun _=> ?_));refine Qc ?_;refine .inr ⟨_,rfl,?_⟩;exact .inl ⟨ret_l hvs,rfl,hS.sp⟩) (h:=?_);rintro u2 w2 ⟨vs,hvs,hvl,ho2,hS⟩;obtain ⟨a2,n2,rfl⟩:=hS.shape (i:=5) rfl;refine ZaF ?_;refine zC [(0,none),(1,none),(2,none),(3,none),(4,none),(5,none),(6,none),(7,none),(8,some (some [6])),(9,none),(10,none),(11,none),(12,none),(13,none),(14,none),(15,none),(16,none),(17,some none)] ?_;have hS:=hS.drew;refine Zax ?_;refine Yas ?_;refine Zaq ?_;refine Zaw ?_;refine zf0 ?_;refine zt ?_)
 all_goals (refine s_cq ?_;refine ZaG ?_;refine zl hS ?_;refine ZbK ?_;refine Zaj ?_;refine zR1 (c:=Q4j hf0 (show St cx _ (mL p c [] g _) from hS.sp)) (h:=?_);rintro v9 w1 ⟨b9,o9,rfl,hel,hS⟩;refine ZaH ?_;refine Zbw ?_;refine Qy hS hel rfl fd (Qf [] g) (Qi [] g) rfl ?_;refine Zab ?_;refine zi ?_;intro b8 o8 cs8 x8 hat8 hx8 he8;obtain rfl:x8=f:=Option.some.inj (hx8.symm.trans hfx);obtain ⟨vp8,vr8,vb8,rfl,hp8,hr8,hb8⟩:=QG he8;refine Zbb ?_;refine Yaq ?_;refine Zab ?_;refine zL ?_;refine Zab ?_)
 all_goals (first|(refine Ql ?_)|(refine Qo ?_)|(refine Q8 rfl rfl (fun hc=> ?_) (fun hc=> ?_)))
 all_goals (refine Zau ?_)
 all_goals (first|(refine zR1 (c:=Q2r hS) (h:=?_);rintro v1 w1 ⟨rfl,hS⟩)|(refine zE1 (c:=Q2A hS) (p:=by rintro v9 w9 ⟨rfl,hS⟩;(repeat (first|refine Q2 ?_|refine Q3 ?_|refine fun _=> ?_));refine Qc ?_;refine .inr ⟨_,rfl,?_⟩;first|(exact .inl ⟨ret_n hvs (by omega),rfl,hS.sp⟩)) (h:=fun _ _ h=> h.elim)))
 all_goals (refine Zao ?_;refine Zak ?_;refine znc ?_;refine zf0 ?_;refine zl hS ?_;refine QQ hS vw fd (show (Q24 [] g).length=1 from rfl) ?_)
 all_goals (first|(refine Q17 ?_)|(refine Q1a ?_))
 all_goals (refine zn ?_)
 all_goals refine zcf ?_
 all_goals (refine zsk ?_;refine ZaQ ?_;refine Yas ?_;refine ZaB ?_;have hS:=hS.nil (T:=2) (es:=1))
 refine zo [0,53,54] (fun A ρ' w'=>∃(q:Nat) (vo:Value) (ns:List Int),Has ρ' A∧Has ρ' [(5,vo),(55, .int .i64 q)]∧(q≤vs.length)∧(ns.length=q)∧(oneC vo=true)∧(intsV vs=(intsV (vs.drop q)).map fun r=> ns++r)∧St cx w' (sl 2 1 vo (Qw ns)::sl 224 4 (.slice a2 (vs.map Val.cells).length n2) (vs.map Val.cells)::mS p c [] g N h out L)) (fun ρ' _=> (vs.length - iv (ρ' 55)).toNat) ?_ ?_
 · exact ⟨0, .slice none 0 0,[],zh,zh,(by omega),rfl,rfl,ints_0,hS.sp⟩
 rintro ρ w1 ⟨q,vo,ns,hA,hρ,hq,hol,hvo,hd,hS⟩;obtain ⟨ρ,rfl⟩:=env2 hA hρ
 all_goals (refine ZaI ?_)
 refine Qq rfl (fun hc=> ?_) (fun hc=> ?_)
 · skip
   all_goals (refine Zbf ?_;obtain ⟨v9,hv9⟩:∃v,vs[q]?=some v:=⟨_,List.getElem?_eq_getElem (by omega)⟩;refine Q4c hS vw rfl (i:=1) rfl (by rw [List.length_map];omega) ?_;intro b7 o7 hel7;refine Q7u hS hel7 rfl (i:=1) rfl rfl (show (vs.map Val.cells)[q]?=some v9.cells by rw [List.getElem?_map,hv9];rfl) ?_;unfold Val.cells;refine Qg hS ?_;intro p7 w1 hS;refine zsn hS ?_;intro w1 hS;have hS:=hS.ns;refine ZaD ?_;refine zf0 ?_;refine zl hS ?_)
   all_goals (first|(refine Ql ?_)|(refine Qo ?_)|(refine Q8 rfl rfl (fun hc=> ?_) (fun hc=> ?_)))
   all_goals (first|(refine zR1 (c:=Q2r hS) (h:=?_);rintro v1 w1 ⟨rfl,hS⟩)|(refine zE1 (c:=Q2A hS) (p:=by rintro v9 w9 ⟨rfl,hS⟩;(repeat (first|refine Q2 ?_|refine Q3 ?_|refine fun _=> ?_));refine Qc ?_;refine .inr ⟨_,rfl,?_⟩;first|(first|exact .inl ⟨ret_n hvs (by omega),rfl,hS.sp⟩|exact .inl ⟨ret_b hvs (by omega) rfl (ints_bad hd hv9 (by omega)),rfl,hS.sp⟩)) (h:=fun _ _ h=> h.elim)))
   all_goals (refine ZaJ ?_;refine zf0 ?_;refine zl hS ?_;refine zB1 hS [_] ?_;intro b1 w1 hS;refine Q1T Q4e (.inl Q8U) hS vw vw (i:=2) rfl (hS.srcB (i:=0) rfl (by rfl) (by simp [oneC])) (by rw [List.length_map];simp only [List.length_cons,List.length_nil];omega) ?_;intro v7 w7 hS;have hS:=hS.ns;have ho7:=hS.oneC (i:=2) rfl;refine Zad ?_;refine Q10 ?_;refine zad ?_;refine Zad ?_;exact ⟨⟨q+1,v7,ns++[v9.n],zh,zh,(by omega),by rw [List.length_append,hol];rfl,ho7,QfY hd hv9 (by omega),by rw [Qw,List.map_append];exact hS.sp⟩,Qv (by omega)⟩)
 · skip
   all_goals (refine zex ?_;refine Zac ?_;refine ZaA ?_;refine zf0 ?_;refine Yad ?_;refine zst hS ?_;intro w1 hS;have hS:=hS.ns;refine ZaJ ?_;refine znc ?_;refine zf0 ?_;refine zst hS ?_;intro w1 hS;have hS:=hS.ns;refine Zbc ?_;exact .inl ⟨_,rfl,ns,vo,[],g,ret_d hvs (by omega) rfl (ints_end hd (by omega)),rfl,hS.sp⟩)
theorem rows_cut {k:FrmV}:((Q24 (fr++[k]) g).take (fr++[k]).length).drop 0=Q24 fr k:=by
 unfold Q24
 rw [List.drop_zero,List.take_append_of_le_length (by simp),List.take_of_length_le (by simp),List.map_append];rfl
theorem big_k {k:FrmV}(hS:St cx w (big FrmV.res (fr++[k])::L)):St cx w (sl 224 4 k.vv (k.vals.map Val.cells)::sl 3 1 k.rv (Qw k.regs)::big FrmV.res fr::L):=by
 have h1:=hS.bigOut (i:=0) (k:=fr.length) (x:=k) rfl (by simp)
 have h2:(fr++[k]).eraseIdx fr.length=fr:=by rw [List.eraseIdx_append_of_length_le (Nat.le_refl _)];simp
 rw [List.set_cons_zero,h2] at h1
 exact St.star h1
theorem mret_1 {f:Fun}{e:Tail}{cs:List Value}{k:FrmV}(hx:endR.at cx cs e) (hfn:funcR.sl cx c.fn m.funcs) (hi:intR.sl cx c.iv inp) (hfx:m.funcs[g.f]?=some f) (h8:e.args.length≤100) (hf:fr.length≤900) (hn:k.vals.length≤900000) (hS:St cx w (mS p c (fr++[k]) g N h out L)):
 Fins Tryz.prog Q2C [.pointer (some ⟨p,0,none⟩), .agg ⟨cs⟩] w (GoS p c N fu ((msOf h g (fr++[k]) inp out fu).ret f e) cx L) (BadS p c N h out ((msOf h g (fr++[k]) inp out fu).ret f e) cx L):=by
 obtain ⟨v1,v2,v3,v4,v5,rfl,k1,k2,k3,k4,k5⟩:=Q22 hx
 have hfl:=hfn.len
 have hgf:=(List.getElem?_eq_some_iff.1 hfx).1
 have hl1:(fr++[k]).length=fr.length+1:=by simp
 have hf0:(fr++[k]).length≤1000:=by omega
 have hst:(msOf h g (fr++[k]) inp out fu).st=k.abs::(fr.map FrmV.abs).reverse:=by unfold msOf;simp
 unfold Fins BadS GoS
 all_goals refine lgo tyD Tryz.func185 ?_
 all_goals (refine Zat ?_;intro p3 w1 hS;refine Zal ?_;have hS:St cx _ (mS p c (fr++[k]) g N h out (blk p3 90 [.int .i64 e.op, .int .i64 e.a, .int .i64 e.yes.block,v1,v2, .int .i64 e.no.block,v3,v4,v5]::L)):=hS.sp;refine Zae ?_;refine zf0 ?_;refine zl hS ?_;refine zE2 (c:=QaO (by omega) hf0 k5 (show St cx _ (mL p c (fr++[k]) g _) from hS.sp)) (p:=by rintro u9 w9 ⟨hvs,rfl,hS⟩;(repeat (first|refine Q2 ?_|refine Q3 ?_|refine fun _=> ?_));refine Qc ?_;refine .inr ⟨_,rfl,?_⟩;exact .inl ⟨ret_l hvs,rfl,hS.sp⟩) (h:=?_);rintro u2 w2 ⟨vs,hvs,hvl,ho2,hS⟩;obtain ⟨a2,n2,rfl⟩:=hS.shape (i:=5) rfl;refine ZaF ?_;refine zC [(0,none),(1,none),(2,none),(3,none),(4,none),(5,none),(6,none),(7,none),(8,some (some [6])),(9,none),(10,none),(11,none),(12,none),(13,none),(14,none),(15,none),(16,none),(17,some none)] ?_;have hS:=hS.drew;refine Zax ?_;refine Yas ?_;refine Zaq ?_;refine Zaw ?_;refine zf0 ?_)
 all_goals (refine Zbb ?_;refine zl hS ?_;refine ZbK ?_;refine Zaj ?_;refine zR1 (c:=Q4j hf0 (show St cx _ (mL p c (fr++[k]) g _) from hS.sp)) (h:=?_);rintro v9 w1 ⟨b9,o9,rfl,hel,hS⟩;refine ZaH ?_;refine Zbw ?_;refine Qy hS hel rfl fd (Qf (fr++[k]) g) (Qi (fr++[k]) g) rfl ?_;refine Zab ?_;refine zi ?_;intro b8 o8 cs8 x8 hat8 hx8 he8;obtain rfl:x8=f:=Option.some.inj (hx8.symm.trans hfx);obtain ⟨vp8,vr8,vb8,rfl,hp8,hr8,hb8⟩:=QG he8;refine Zbb ?_;refine Yaq ?_;refine Zab ?_;refine zL ?_;refine Zab ?_)
 all_goals (first|(refine Ql ?_)|(refine Qo ?_)|(refine Q8 rfl rfl (fun hc=> ?_) (fun hc=> ?_)))
 all_goals (refine Zau ?_)
 all_goals (first|(refine zR1 (c:=Q2r hS) (h:=?_);rintro v1 w1 ⟨rfl,hS⟩)|(refine zE1 (c:=Q2A hS) (p:=by rintro v9 w9 ⟨rfl,hS⟩;(repeat (first|refine Q2 ?_|refine Q3 ?_|refine fun _=> ?_));refine Qc ?_;refine .inr ⟨_,rfl,?_⟩;first|(exact .inl ⟨ret_n hvs (by omega),rfl,hS.sp⟩)) (h:=fun _ _ h=> h.elim)))
 all_goals (refine Zao ?_;refine Zak ?_;refine znc ?_;refine zf0 ?_;refine zl hS ?_;refine QQ (n:=fr.length+2) hS vw fd (by rw [Qf];omega) ?_)
 all_goals (refine Q17 ?_)
 all_goals (refine zn ?_)
 all_goals refine zct ?_
 all_goals (refine QB ?_;refine zD (ci 15 [14]) ?_;have hS:=hS.drew;refine zm ?_;refine ZaA ?_;refine zf0 ?_;refine zl hS ?_;refine ZaA ?_;refine zf0 ?_;refine zl hS ?_;refine QQ (n:=fr.length+2) hS vw fd (by rw [Qf];omega) ?_;refine zsu ?_;rw [show ((fr.length+2:Nat):Int) - 1=(((fr++[k]).length:Nat):Int) by omega];refine s_subE (l':=0) (h':=(fr++[k]).length) hS vw (i:=1) rfl rfl ⟨_,rfl⟩ rfl (by rw [Qf];omega) (by omega) ?_;intro v7 hS;rw [rows_cut] at hS;have hS:=hS.ns;have ho7:=hS.oneC (i:=1) rfl;refine znc ?_;refine zf0 ?_;refine zst hS ?_;intro w1 hS;have hS:=hS.ns;refine Zaz ?_;refine zm ?_;have hS:=big_k (fr:=fr) (k:=k) (L:=blk p 55 _::sl 110 5 v7 (Q24 fr k)::sl 224 4 (.slice a2 _ n2) _::Q1P N c.hp h::sl 2 1 c.ov (Qw out)::L) hS.sp;have hS:St cx _ (mL p (c.upd v7 c.iv c.ov) fr k (sl 224 4 (.slice a2 (vs.map Val.cells).length n2) (vs.map Val.cells)::Q1P N c.hp h::sl 2 1 c.ov (Qw out)::L)):=hS.sp;refine zR2 (c:=Q57 (j:=0) (vs:=vs) (by omega) (by omega) hS rfl) (h:=?_);rintro u1 w1 ⟨tv,rfl,hS⟩)
 all_goals (refine ZaS ?_;refine Qbd ?_;exact .inl ⟨_,rfl,v7,c.iv,c.ov,fr,k.push tv vs,N,h,inp,out,ret_k hvs (by omega) hst,hi,by omega,rfl,hS.sp⟩)
end Go.Proofs.YteflkifmgnpbhaaGreat
namespace Go.Proofs.YteflkifmgnpbhaaGreat
open Go.Lir
set_option maxHeartbeats 1000000
attribute [local irreducible] LC.wp Q0 Qk Qh retQ Qt LO.wp Q4 Calls
set_option linter.unusedSimpArgs false
set_option linter.unusedVariables false
variable {cx:Cx}{w:World}{L:List Res}{p N:Nat}{c:MC}{fr:List FrmV}{g:FrmV}{h:HpS}{out inp:List Int}{fu:Nat}{m:Module}
def OkS (p:Nat) (c:MC) (N:Nat) (h:HpS) (out:List Int) (fu:Nat) (X:Stp) (cx:Cx) (L:List Res) (u:Value) (w':World):Prop:=GoS p c N fu X cx L u w'∨DoneS p c N h out X cx L u w'
theorem mret_c {f:Fun}{e:Tail}{cs:List Value}(hx:endR.at cx cs e) (hfn:funcR.sl cx c.fn m.funcs) (hi:intR.sl cx c.iv inp) (hfx:m.funcs[g.f]?=some f) (h8:e.args.length≤100) (hf:fr.length≤900) (hn:∀x∈fr,x.vals.length≤900000) (hS:St cx w (mS p c fr g N h out L)):
 Fins Tryz.prog Q2C [.pointer (some ⟨p,0,none⟩), .agg ⟨cs⟩] w (OkS p c N h out fu ((msOf h g fr inp out fu).ret f e) cx L) (BadS p c N h out ((msOf h g fr inp out fu).ret f e) cx L):=by
 rcases List.eq_nil_or_concat fr with rfl|⟨fr0,k,hk⟩
 · exact (mret_0 hx hfn hfx h8 hS).mono (fun _ _ h=> .inr h) (fun _ _ h=> h)
 · obtain rfl:fr=fr0++[k]:=by simpa using hk
   exact (mret_1 hx hfn hi hfx h8 (by rw [List.length_append] at hf;omega) (hn k (by simp)) hS).mono (fun _ _ h=> .inl h) (fun _ _ h=> h)
theorem GoS.tup {X:Stp}{u:Value}(hG:GoS p c N fu X cx L u w):u= .tuple #[]∧GoS p c N fu X cx L u w:=⟨by obtain ⟨lv,iv,ov,fr',g',N',h',inp',out',_,_,_,hu,_⟩:=hG;exact hu,hG⟩
theorem GoS.drop {X:Stp}{u:Value}{r:Res}(hG:GoS p c N fu X cx (r::L) u w):GoS p c N fu X cx L u w:=by
 obtain ⟨lv,iv,ov,fr',g',N',h',inp',out',h1,h2,h3,h4,hS⟩:=hG
 exact ⟨lv,iv,ov,fr',g',N',h',inp',out',h1,h2,h3,h4,hS.sp⟩
theorem BadS.drop {X:Stp}{u:Value}{r:Res}(hB:BadS p c N h out X cx (r::L) u w):BadS p c N h out X cx L u w:=by
 rcases hB with ⟨h1,h2,hS⟩|⟨e,h1,h2,fr',g',N',h3,hS⟩
 · exact .inl ⟨h1,h2,hS.sp⟩
 · exact .inr ⟨e,h1,h2,fr',g',N',h3,hS.sp⟩
theorem DoneS.drop {X:Stp}{u:Value}{r:Res}(hD:DoneS p c N h out X cx (r::L) u w):DoneS p c N h out X cx L u w:=by
 obtain ⟨ns,bv,fr',g',h1,h2,hS⟩:=hD
 exact ⟨ns,bv,fr',g',h1,h2,hS.sp⟩
theorem GoS.ok {X:Stp}{u:Value}(hG:GoS p c N fu X cx L u w):OkS p c N h out fu X cx L u w:= .inl hG
theorem OkS.drop {X:Stp}{u:Value}{r:Res}(hG:OkS p c N h out fu X cx (r::L) u w):OkS p c N h out fu X cx L u w:=hG.elim (fun h=> .inl h.drop) (fun h=> .inr h.drop)
theorem OkS.tup {X:Stp}{u:Value}(hG:OkS p c N h out fu X cx L u w):u= .tuple #[]∧OkS p c N h out fu X cx L u w:=by
 refine ⟨?_,hG⟩
 rcases hG with h|⟨ns,bv,fr',g',h1,h2,hS⟩
 · exact h.tup.1
 · exact h2
def ToOK (f:Fun) (t:To):Prop:=(0≤t.block∧t.block < f.blocks.length)∧t.regs.length≤100∧t.args.length≤100
attribute [local irreducible] Frm.val Frm.num Frm.args Frm.rgs Frm.reg intsV MS.to MS.ret GoS BadS DoneS OkS
theorem bad_n {x:Option Int}{X:Int→Stp}(hx:x=none) (hS:St cx w (mS p c fr g N h out L)):BadS p c N h out (Q14 x X) cx L Q4k w:=by
 unfold BadS;exact .inl ⟨QK hx,rfl,hS.sp⟩
theorem mend_c {f:Fun}{e:Tail}{cs:List Value}(hx:endR.at cx cs e) (hfn:funcR.sl cx c.fn m.funcs) (hi:intR.sl cx c.iv inp) (hfx:m.funcs[g.f]?=some f) (h8:e.args.length≤100) (hop:1≤e.op∧e.op≤3) (hy:e.op≠3→ToOK f e.yes) (hno:e.op=2→ToOK f e.no) (hf:fr.length≤900) (hn:∀x∈fr,x.vals.length≤900000) (hS:St cx w (mS p c fr g N h out L)):
 Fins Tryz.prog Q6X [.pointer (some ⟨p,0,none⟩), .agg ⟨cs⟩] w (OkS p c N h out fu ((msOf h g fr inp out fu).fin f e) cx L) (BadS p c N h out ((msOf h g fr inp out fu).fin f e) cx L):=by
 obtain ⟨v1,v2,v3,v4,v5,rfl,k1,k2,k3,k4,k5⟩:=Q22 hx
 unfold Fins
 rcases (show e.op=1∨e.op=2∨e.op=3 by omega) with h1|h1|h1
 · have hX:(msOf h g fr inp out fu).fin f e=(msOf h g fr inp out fu).to f e.yes:=if_pos h1
   obtain ⟨⟨y1,y2⟩,y3,y4⟩:=hy (by omega)
   rw [hX]
   all_goals refine lgo tyD Tryz.func119 ?_
   all_goals (refine Zat ?_;intro p3 w1 hS;refine ZaD ?_;refine zf0 ?_;refine zl hS ?_;refine zn ?_;refine Q3v ?_;refine QB ?_;have hS:St cx _ (mS p c fr g N h out (blk p3 90 [.int .i64 e.op, .int .i64 e.a, .int .i64 e.yes.block,v1,v2, .int .i64 e.no.block,v3,v4,v5]::L)):=hS.sp;refine Q10 ?_)
   all_goals (refine Ql ?_)
   all_goals (refine Zad ?_)
   all_goals refine zct ?_
   all_goals (refine Zae ?_;refine zf0 ?_;refine zv hS ?_;refine zE2 (c:=mto_c (t:=e.yes) (inp:=inp) (fu:=fu) ⟨_,_,rfl,k1,k2⟩ hfn hi hfx y1 y2 y3 y4 (by omega) hS) (p:=by rintro u9 w9 hB;(repeat (first|refine Q2 ?_|refine Q3 ?_|refine fun _=> ?_));refine Qc ?_;refine .inr ⟨_,rfl,?_⟩;exact hB.drop) (h:=?_);rintro u1 w2 hG;refine Zbc ?_;have hG:=hG.drop;obtain ⟨rfl,hG⟩:=hG.tup;exact .inl ⟨_,rfl,hG.ok⟩)
 · have hX:(msOf h g fr inp out fu).fin f e=Q14 (g.abs.num e.a) fun n=> if n≠0 then (msOf h g fr inp out fu).to f e.yes else (msOf h g fr inp out fu).to f e.no:=(if_neg (by omega)).trans (if_pos h1)
   obtain ⟨⟨y1,y2⟩,y3,y4⟩:=hy (by omega)
   obtain ⟨⟨n1,n2⟩,n3,n4⟩:=hno h1
   rw [hX]
   all_goals refine lgo tyD Tryz.func119 ?_
   all_goals (refine Zat ?_;intro p3 w1 hS;refine ZaD ?_;refine zf0 ?_;refine zl hS ?_;refine zn ?_;refine Q3v ?_;refine QB ?_;have hS:St cx _ (mS p c fr g N h out (blk p3 90 [.int .i64 e.op, .int .i64 e.a, .int .i64 e.yes.block,v1,v2, .int .i64 e.no.block,v3,v4,v5]::L)):=hS.sp;refine Q10 ?_)
   all_goals (refine Yap ?_)
   all_goals (refine Zad ?_)
   all_goals refine zcf ?_
   all_goals (refine Zaa ?_)
   all_goals (refine Ql ?_)
   all_goals (refine Zad ?_)
   all_goals refine zct ?_
   all_goals (refine Zac ?_;refine zf0 ?_;refine zl hS ?_;refine zE2 (c:=Q6E (by omega) hS) (p:=by rintro u9 w9 ⟨hnn,rfl,hS⟩;(repeat (first|refine Q2 ?_|refine Q3 ?_|refine fun _=> ?_));refine Qc ?_;refine .inr ⟨_,rfl,?_⟩;exact (bad_n hnn (show St cx _ (mS p c fr g N h out _) from hS.sp)).drop) (h:=?_);rintro u1 w2 ⟨n,hnn,rfl,hS⟩;rw [Q1 hnn])
   all_goals (first|(refine Q1D ?_)|(refine Q1M ?_)|(refine QI rfl rfl (fun hc=> ?_) (fun hc=> ?_)))
   all_goals (refine zn ?_)
   all_goals
    first
    | (refine zct ?_
       all_goals (rw [if_pos (show n≠0 by omega)];refine Zae ?_;refine zf0 ?_;refine zv hS ?_;refine zE2 (c:=mto_c (t:=e.yes) (inp:=inp) (fu:=fu) ⟨_,_,rfl,k1,k2⟩ hfn hi hfx y1 y2 y3 y4 (by omega) hS) (p:=by rintro u9 w9 hB;(repeat (first|refine Q2 ?_|refine Q3 ?_|refine fun _=> ?_));refine Qc ?_;refine .inr ⟨_,rfl,?_⟩;exact hB.drop) (h:=?_);rintro u1 w2 hG)
       all_goals refine zn ?_)
    | (refine zcf ?_
       all_goals (rw [if_neg (show¬n≠0 by omega)];refine Zae ?_;refine zf0 ?_;refine zv hS ?_;refine zE2 (c:=mto_c (t:=e.no) (inp:=inp) (fu:=fu) ⟨_,_,rfl,k3,k4⟩ hfn hi hfx n1 n2 n3 n4 (by omega) hS) (p:=by rintro u9 w9 hB;(repeat (first|refine Q2 ?_|refine Q3 ?_|refine fun _=> ?_));refine Qc ?_;refine .inr ⟨_,rfl,?_⟩;exact hB.drop) (h:=?_);rintro u1 w2 hG)
       all_goals refine zn ?_)
   all_goals (refine Qz ?_;have hG:=hG.drop;obtain ⟨rfl,hG⟩:=hG.tup;exact .inl ⟨_,rfl,hG.ok⟩)
 · have hX:(msOf h g fr inp out fu).fin f e=(msOf h g fr inp out fu).ret f e:=(if_neg (by omega)).trans (if_neg (by omega))
   rw [hX]
   all_goals refine lgo tyD Tryz.func119 ?_
   all_goals (refine Zat ?_;intro p3 w1 hS;refine ZaD ?_;refine zf0 ?_;refine zl hS ?_;refine zn ?_;refine Q3v ?_;refine QB ?_;have hS:St cx _ (mS p c fr g N h out (blk p3 90 [.int .i64 e.op, .int .i64 e.a, .int .i64 e.yes.block,v1,v2, .int .i64 e.no.block,v3,v4,v5]::L)):=hS.sp;refine Q10 ?_)
   all_goals (refine Yap ?_)
   all_goals (refine Zad ?_)
   all_goals refine zcf ?_
   all_goals (refine Zaa ?_)
   all_goals (refine Yap ?_)
   all_goals (refine Zad ?_)
   all_goals refine zcf ?_
   all_goals (refine Zaa ?_)
   all_goals (refine Ql ?_)
   all_goals (refine Zad ?_)
   all_goals refine zct ?_
   all_goals (refine Zae ?_;refine zv hS ?_;refine zE2 (c:=mret_c (e:=e) (inp:=inp) (fu:=fu) hx hfn hi hfx h8 hf hn hS) (p:=by rintro u9 w9 hB;(repeat (first|refine Q2 ?_|refine Q3 ?_|refine fun _=> ?_));refine Qc ?_;refine .inr ⟨_,rfl,?_⟩;exact hB.drop) (h:=?_);rintro u1 w2 hG;refine Zbc ?_;have hG:=hG.drop;obtain ⟨rfl,hG⟩:=hG.tup;exact .inl ⟨_,rfl,hG⟩)
end Go.Proofs.YteflkifmgnpbhaaGreat
namespace Go.Lir
section
variable {m:Module}{s:MS}{x:Ins}
theorem xins_1 (h:x.op=1):s.ins m x= .go (s.put [intV x.n]):=by unfold MS.ins;rw [if_pos h]
theorem xins_2 (h:x.op=2):s.ins m x=Q14 (s.g.num x.a) fun a=> Q14 (s.g.num x.b) fun b=> if (opF x.k a b).2=false then .halt 1 else .go (s.put [intV (opF x.k a b).1]):=by unfold MS.ins;rw [if_neg (by omega),if_pos h]
theorem xins_3 (h:x.op=3):s.ins m x=s.newR:=by unfold MS.ins;rw [if_neg (by omega),if_neg (by omega),if_pos h]
theorem xins_4 (h:x.op=4):s.ins m x=Q14 (s.g.val x.a) fun v=> if s.h.can v=false then .lost else .go (s.hp (s.h.shut v)):=by unfold MS.ins;rw [if_neg (by omega),if_neg (by omega),if_neg (by omega),if_pos h]
theorem xins_5 (h:x.op=5):s.ins m x=Q14 (s.g.val x.a) fun v=> Q14 (s.g.args x.args) fun l=> s.made (s.h.code v (Q1d l)) (s.h.tuple v l) (s.h.putV v 3 (Q1d l)):=by unfold MS.ins;rw [if_neg (by omega),if_neg (by omega),if_neg (by omega),if_neg (by omega),if_pos h]
theorem xins_6 (h:x.op=6):s.ins m x=Q14 (s.g.val x.a) fun v=> if v.kind≠3 then .lost else if (s.h.get v x.k).2≠0 then .lost else .go (s.put [(s.h.get v x.k).1]):=by unfold MS.ins;rw [if_neg (by omega),if_neg (by omega),if_neg (by omega),if_neg (by omega),if_neg (by omega),if_pos h]
theorem xins_7 (h:x.op=7):s.ins m x=Q14 (s.g.val x.a) fun v=> if v.kind≠3 then .lost else Q14 (s.g.val x.b) fun y=> if s.h.setC v x.k y≠0 then .lost else .go (s.hp (s.h.set v x.k y)):=by unfold MS.ins;rw [if_neg (by omega),if_neg (by omega),if_neg (by omega),if_neg (by omega),if_neg (by omega),if_neg (by omega),if_pos h]
theorem xins_9 (h:x.op=9):s.ins m x=Q14 (s.g.val x.a) fun v=> Q14 (s.g.num x.b) fun n=> Q38 v (s.h.get v n).2 (.go (s.put [(s.h.get v n).1])):=by unfold MS.ins;rw [if_neg (by omega),if_neg (by omega),if_neg (by omega),if_neg (by omega),if_neg (by omega),if_neg (by omega),if_neg (by omega),if_neg (by omega),if_pos h]
theorem xins_10 (h:x.op=10):s.ins m x=Q14 (s.g.val x.a) fun v=> Q14 (s.g.num x.b) fun n=> Q14 (s.g.num x.c) fun c=> Q38 v (s.h.setC v n (intV c)) (.go (s.hp (s.h.set v n (intV c)))):=by unfold MS.ins;rw [if_neg (by omega),if_neg (by omega),if_neg (by omega),if_neg (by omega),if_neg (by omega),if_neg (by omega),if_neg (by omega),if_neg (by omega),if_neg (by omega),if_pos h]
theorem xins_11 (h:x.op=11):s.ins m x=Q14 (s.g.val x.a) fun v=> Q38 v (s.h.len v).2 (.go (s.put [intV (s.h.len v).1])):=by unfold MS.ins;rw [if_neg (by omega),if_neg (by omega),if_neg (by omega),if_neg (by omega),if_neg (by omega),if_neg (by omega),if_neg (by omega),if_neg (by omega),if_neg (by omega),if_neg (by omega),if_pos h]
theorem xins_12 (h:x.op=12):s.ins m x=s.inS:=by unfold MS.ins;rw [if_neg (by omega),if_neg (by omega),if_neg (by omega),if_neg (by omega),if_neg (by omega),if_neg (by omega),if_neg (by omega),if_neg (by omega),if_neg (by omega),if_neg (by omega),if_neg (by omega),if_pos h]
theorem xins_13 (h:x.op=13):s.ins m x=Q14 (s.g.num x.a) fun n=> s.outS n:=by unfold MS.ins;rw [if_neg (by omega),if_neg (by omega),if_neg (by omega),if_neg (by omega),if_neg (by omega),if_neg (by omega),if_neg (by omega),if_neg (by omega),if_neg (by omega),if_neg (by omega),if_neg (by omega),if_neg (by omega),if_pos h]
theorem xins_14 (h:x.op=14):s.ins m x=s.call m x:=by unfold MS.ins;rw [if_neg (by omega),if_neg (by omega),if_neg (by omega),if_neg (by omega),if_neg (by omega),if_neg (by omega),if_neg (by omega),if_neg (by omega),if_neg (by omega),if_neg (by omega),if_neg (by omega),if_neg (by omega),if_neg (by omega)]
theorem Q9n {v:Val}{e:Int}{k:Stp}(hv:v.kind=4) (he:e=1):Q38 v e k= .halt 2:=by unfold Q38;rw [if_neg (by omega),if_pos he]
theorem Q9l {v:Val}{e:Int}{k:Stp}(he:v.kind=4→e≠1∧e≠0):Q38 v e k= .lost:=by
 unfold Q38
 by_cases hv:v.kind=4
 · obtain ⟨h1,h2⟩:=he hv
   rw [if_neg (by omega),if_neg h1,if_pos h2]
 · rw [if_pos hv]
theorem Q9o {v:Val}{e:Int}{k:Stp}(hv:v.kind=4) (he:e=0):Q38 v e k=k:=by unfold Q38;rw [if_neg (by omega),if_neg (by omega),if_neg (by omega)]
theorem tuple_no {h:HpS}{v:Val}{l:List Val}(e:h.code v (Q1d l)≠0):h.tuple v l=h:=by unfold HpS.tuple HpS.put;exact if_neg e
theorem open_no {h:HpS}(e:h.full=true):h.open=h:=by unfold HpS.open;exact if_pos e
theorem new_no (e:s.h.full=true):s.newR= .halt 6:=by unfold MS.newR;exact if_pos e
theorem QfA (e:s.h.full=false):s.newR= .go ((⟨s.h.open,⟨s.g.f,s.g.b,s.g.i,s.g.vals,s.g.regs++[s.h.openV.region]⟩,s.st,s.inp,s.out,s.fuel⟩:MS).put [s.h.openV]):=by unfold MS.newR;exact if_neg (by rw [e];decide)
theorem in_0 (e:s.inp=[]):s.inS= .halt 4:=by unfold MS.inS;rw [e]
theorem in_s {n:Int}{r:List Int}(e:s.inp=n::r):s.inS= .go ((⟨s.h,s.g,s.st,r,s.out,s.fuel⟩:MS).put [intV n]):=by unfold MS.inS;rw [e]
theorem out_0 {n:Int}(e:s.out.length=2000):s.outS n= .halt 8:=if_pos e
theorem out_s {n:Int}(e:s.out.length≠2000):s.outS n= .go ⟨s.h,s.g,s.st,s.inp,s.out++[n],s.fuel⟩:=if_neg e
end
end Go.Lir
namespace Go.Proofs.YteflkifmgnpbhaaGreat
open Go.Lir
set_option maxHeartbeats 1000000
attribute [local irreducible] LC.wp Q0 Qk Qh retQ Qt LO.wp Q4 Calls
set_option linter.unusedSimpArgs false
set_option linter.unusedVariables false
variable {cx:Cx}{w:World}{L:List Res}{p N:Nat}{c:MC}{fr:List FrmV}{g:FrmV}{h:HpS}{out inp:List Int}{fu:Nat}{m:Module}
def FrmV.nx (g:FrmV):FrmV:=⟨g.f,g.b,g.i+1,g.vv,g.vals,g.rv,g.regs⟩
theorem Qee {l:List Int}{n:Int}:Qw l++[[.int .i64 n]]=Qw (l++[n]):=by unfold Qw;rw [List.map_append];rfl
section
variable {s:MS}{x:Ins}
theorem xins_8 (h:x.op=8):s.ins m x=arrX s x:=by unfold MS.ins;rw [if_neg (by omega),if_neg (by omega),if_neg (by omega),if_neg (by omega),if_neg (by omega),if_neg (by omega),if_neg (by omega),if_pos h];rfl
end
attribute [local irreducible] Frm.val Frm.num Frm.args Frm.rgs Frm.reg intsV MS.ins MS.call HpS.get HpS.set HpS.setC HpS.len HpS.code HpS.put HpS.putV HpS.open HpS.shut HpS.full HpS.openV HpS.can HpS.tuple HpS.arr HpS.arrC HpS.arrV opF Q1d
theorem mins_c {x : Ins} {cs : List Value} (hx : insR.at cx cs x) (hfn:funcR.sl cx c.fn m.funcs) (hi:intR.sl cx c.iv inp) (hop:1≤x.op∧x.op≤14) (hk:x.op=14→0≤x.k∧x.k < m.funcs.length) (h6:x.regs.length≤100) (h8:x.args.length≤100) (hgi:g.i≤1000) (hf:fr.length≤900) (hn:g.vals.length≤800000) (hrn:g.regs.length≤800000) (hN:N≤99999) (hol:out.length≤2000) (hS:St cx w (mS p c fr g N h out L)):
 Fins Tryz.prog Q6W [.pointer (some ⟨p,0,none⟩), .agg ⟨cs⟩] w (GoS p c N fu ((msOf h g.nx fr inp out fu).ins m x) cx L) (BadS p c N h out ((msOf h g.nx fr inp out fu).ins m x) cx L):=by
 obtain ⟨vr,va,rfl,hr,ha⟩:=QZ hx
 have hil:=hi.len
 unfold Fins
 all_goals refine lgo tyD Tryz.func118 ?_
 all_goals (refine Zat ?_;intro p3 w1 hS;refine Zal ?_;have hS:St cx _ (mS p c fr g N h out (blk p3 84 [.int .i64 x.op, .int .i64 x.a, .int .i64 x.b, .int .i64 x.c, .int .i64 x.k, .int .i64 x.n,vr,va]::L)):=hS.sp;refine Zae ?_;refine zR1 (c:=Q4j (by omega) hS) (h:=?_);rintro v1 w1 ⟨b9,o9,rfl,hel,hS⟩;refine ZaU ?_;refine Q6 hS hel rfl fd (Qf fr g) (Qi fr g) rfl ?_;refine zad ?_;rw [show ((g.i:Int)+1)=((g.i+1:Nat):Int) by omega];refine ZaU ?_;refine Q1s hS hel rfl vw fd (Qf fr g) (Qi fr g) (by omega) rfl (Q5O (g':=g.nx) rfl) ?_;intro w8 hS;have hS:=hS.ns;have hS:St cx _ (mS p c fr g.nx N h out (blk p3 84 [.int .i64 x.op, .int .i64 x.a, .int .i64 x.b, .int .i64 x.c, .int .i64 x.k, .int .i64 x.n,vr,va]::L)):=hS.sp;refine ZaD ?_;refine zf0 ?_;refine zl hS ?_;refine zn ?_;refine Zby ?_)
 all_goals (first|(refine Ql ?_)|(refine Qo ?_)|(refine Q8 rfl rfl (fun hc=> ?_) (fun hc=> ?_)))
 all_goals (refine Zad ?_)
 all_goals
  first
  | (refine zct ?_
     all_goals (have hX:=xins_1 (m:=m) (s:=msOf h g.nx fr inp out fu) (x:=x) (by omega);refine Zae ?_;refine zf0 ?_;refine zl hS ?_;refine zR1 (c:=Q5T hS) (h:=?_);rintro v1 w1 ⟨rfl,hS⟩;unfold Val.v Val.cells;refine zB1 hS [_,_,_,_] ?_;intro b1 w1 hS;have hS:=St.slOf (T:=224) (es:=4) (css:=[intV x.n].map Val.cells) hS rfl (by simp [Val.cells]) rfl;have hS:St cx _ (mL p c fr g.nx (sl 224 4 (.slice (some ⟨b1,0,none⟩) 1 1) ([intV x.n].map Val.cells)::Q1P (N) c.hp (h)::sl 2 1 c.ov (Qw out)::blk p3 84 [.int .i64 x.op, .int .i64 x.a, .int .i64 x.b, .int .i64 x.c, .int .i64 x.k, .int .i64 x.n,vr,va]::L)):=hS.sp;refine zR2 (c:=Q57 (j:=0) (by omega) (by show g.vals.length+1≤1000000;omega) hS rfl) (h:=?_);rintro u1 w1 ⟨tv,rfl,hS⟩;refine zn ?_;have hG:GoS p c N fu ((msOf h g.nx fr inp out fu).ins m x) cx L (.tuple #[]) w1:=⟨c.lv,c.iv,c.ov,fr,g.nx.push tv [intV x.n],N,h,inp,out,hX,hi,by omega,rfl,hS.sp⟩)
     all_goals (refine Qz ?_;exact .inl ⟨_,rfl,hG⟩))
  | (refine zcf ?_
     all_goals (refine Zaa ?_)
     all_goals (first|(refine Ql ?_)|(refine Qo ?_)|(refine Q8 rfl rfl (fun hc=> ?_) (fun hc=> ?_)))
     all_goals (refine Zad ?_)
     all_goals
      first
      | (refine zct ?_
         all_goals (refine QB ?_;have hX:=xins_2 (m:=m) (s:=msOf h g.nx fr inp out fu) (x:=x) (by omega);refine zC [(0,none),(1,none),(2,none),(3,none),(4,none),(6,none),(7,none),(8,none),(5,some (some [1,8])),(9,some (some [1])),(10,some none),(11,none),(12,none),(13,none),(14,none),(15,some none)] ?_;have hS:=hS.drew;refine s_cq ?_;refine zf0 ?_;refine Zab ?_;refine zl hS ?_;refine Zaq ?_;refine zf0 ?_;refine Zab ?_;refine zl hS ?_;refine Zaq ?_;refine zf0 ?_;refine Zab ?_;refine zl hS ?_;refine Zaj ?_;refine zE2 (c:=Q6E (by omega) (show St cx _ (mL p c fr g.nx _) from hS.sp)) (p:=by rintro u9 w9 ⟨hna,rfl,hS⟩;(repeat (first|refine Q2 ?_|refine Q3 ?_|refine fun _=> ?_));refine Qc ?_;refine .inr ⟨_,rfl,?_⟩;exact .inl ⟨hX.trans (QK hna),rfl,hS.sp⟩) (h:=?_);rintro u1 w2 ⟨na,hna,rfl,hS⟩;refine zt ?_)
         all_goals (refine zy ?_;refine Q4g ?_;refine zE2 (c:=Q6E (by omega) (show St cx _ (mL p c fr g.nx _) from hS.sp)) (p:=by rintro u9 w9 ⟨hnb,rfl,hS⟩;(repeat (first|refine Q2 ?_|refine Q3 ?_|refine fun _=> ?_));refine Qc ?_;refine .inr ⟨_,rfl,?_⟩;exact .inl ⟨hX.trans ((Q1 hna).trans (QK hnb)),rfl,hS.sp⟩) (h:=?_);rintro u1 w2 ⟨nb,hnb,rfl,hS⟩;refine ZaC ?_)
         all_goals (refine zR3 (c:=op_s hS) (h:=?_);rintro v1 w1 ⟨rfl,hS⟩;cases hd:(opF x.k na nb).2)
         all_goals (refine Zaq ?_;refine Zbk ?_;refine Zbk ?_;refine zm ?_;refine Zau ?_;refine Zbo ?_;refine znt ?_)
         all_goals (first|(refine zR2 (c:=Q4G hS) (h:=?_);rintro v1 w1 ⟨rfl,hS⟩)|(refine zE2 (c:=Q4F hS) (p:=by rintro v9 w9 ⟨rfl,hS⟩;(repeat (first|refine Q2 ?_|refine Q3 ?_|refine fun _=> ?_));refine Qc ?_;refine .inr ⟨_,rfl,?_⟩;exact .inr ⟨1,hX.trans ((Q1 hna).trans ((Q1 hnb).trans (if_pos hd))),rfl,fr,g.nx,N,by omega,hS.sp⟩) (h:=fun _ _ h=> h.elim)))
         all_goals (refine ZaJ ?_;refine zm ?_;refine zR1 (c:=Q5T hS) (h:=?_);rintro v1 w1 ⟨rfl,hS⟩;unfold Val.v Val.cells;refine zB1 hS [_,_,_,_] ?_;intro b1 w1 hS;have hS:=St.slOf (T:=224) (es:=4) (css:=[intV (opF x.k na nb).1].map Val.cells) hS rfl (by simp [Val.cells]) rfl;have hS:St cx _ (mL p c fr g.nx (sl 224 4 (.slice (some ⟨b1,0,none⟩) 1 1) ([intV (opF x.k na nb).1].map Val.cells)::Q1P (N) c.hp (h)::sl 2 1 c.ov (Qw out)::blk p3 84 [.int .i64 x.op, .int .i64 x.a, .int .i64 x.b, .int .i64 x.c, .int .i64 x.k, .int .i64 x.n,vr,va]::L)):=hS.sp;refine zR2 (c:=Q57 (j:=0) (by omega) (by show g.vals.length+1≤1000000;omega) hS rfl) (h:=?_);rintro u1 w1 ⟨tv,rfl,hS⟩;refine zn ?_;have hG:GoS p c N fu ((msOf h g.nx fr inp out fu).ins m x) cx L (.tuple #[]) w1:=⟨c.lv,c.iv,c.ov,fr,g.nx.push tv [intV (opF x.k na nb).1],N,h,inp,out,hX.trans ((Q1 hna).trans ((Q1 hnb).trans (if_neg (by rw [hd];decide)))),hi,by omega,rfl,hS.sp⟩)
         all_goals (refine Qz ?_;exact .inl ⟨_,rfl,hG⟩))
      | (refine zcf ?_
         all_goals (refine Zaa ?_)
         all_goals (first|(refine Ql ?_)|(refine Qo ?_)|(refine Q8 rfl rfl (fun hc=> ?_) (fun hc=> ?_)))
         all_goals (refine Zad ?_)
         all_goals
          first
          | (refine zct ?_
             all_goals (refine QB ?_;have hX:=xins_3 (m:=m) (s:=msOf h g.nx fr inp out fu) (x:=x) (by omega);refine Zbt ?_;refine zf0 ?_;refine zl hS ?_)
             all_goals (refine zR1 (c:=hopen_c (N:=N) (s:=h) (h:=c.hp) (by omega) hS fd) (h:=?_);rintro v1 w1 ⟨rfl,hS⟩;have hS:=hS.ns;unfold Val.v Val.cells;cases hfu:h.full)
             all_goals (refine ZbI ?_;intro p6 w1 hS;refine zsn hS ?_;intro w1 hS;have hS:=hS.ns;refine ZaL ?_;refine znt ?_)
             all_goals (first|(refine zR2 (c:=Q4G hS) (h:=?_);rintro v1 w1 ⟨rfl,hS⟩)|(refine zE2 (c:=Q4F hS) (p:=by rintro v9 w9 ⟨rfl,hS⟩;(repeat (first|refine Q2 ?_|refine Q3 ?_|refine fun _=> ?_));refine Qc ?_;refine .inr ⟨_,rfl,?_⟩;rw [open_no hfu] at hS;exact .inr ⟨6,hX.trans (new_no hfu),rfl,fr,g.nx,N+1,Nat.le_refl _,hS.sp⟩) (h:=fun _ _ h=> h.elim)))
             all_goals (refine Zal ?_)
             refine Q1N 1 9 (by kernel_rfl) ?_ ?_
             · skip
               refine Q1N 3 9 (by kernel_rfl) ?_ ?_
               · skip
                 all_goals (refine zC [(0,none),(2,none),(7,none),(8,none),(1,some (some [8])),(3,some (some [8])),(4,none),(5,none),(6,none),(9,some (some [6])),(10,some none),(11,none),(12,none),(13,some none)] ?_;have hS:=hS.drew;refine Zbg ?_;refine zf0 ?_;refine Zab ?_;refine zl hS ?_;refine Zaj ?_;refine zR1 (c:=Q4j (by omega) (show St cx _ (mL p c fr g.nx _) from hS.sp)) (h:=?_);rintro v1 w1 ⟨b8,o8,rfl,hel8,hS⟩;refine Zay ?_;refine zR1 (c:=Q4j (by omega) (show St cx _ (mL p c fr g.nx _) from hS.sp)) (h:=?_);rintro v1 w1 ⟨b7,o7,rfl,hel7,hS⟩;refine ZaH ?_;refine Zbw ?_;refine Q6 hS hel7 rfl fd (Qf fr g.nx) (Qi fr g.nx) rfl ?_;refine Zaj ?_;refine zB1 hS [_] ?_;intro b1 w1 hS;refine zt ?_;refine ⟨List.forall_mem_cons.2 ⟨(by (exact Qm hS hel7 rfl fd (Qf fr g.nx) (Qi fr g.nx) rfl)),fun _ h=> (List.not_mem_nil h).elim⟩,?_⟩)
                 all_goals (refine s_cf ?_;refine Q1T Q5o (.inl Q9F) hS vw vw (v:=g.rv) (css:=Qw g.regs) fd (hS.srcB fd (by rfl) (by simp [oneC])) (by rw [List.length_map];simp only [List.length_cons,List.length_nil];omega) ?_;intro v7 w7 hS;have hS:=hS.ns;refine Zab ?_;refine Zaw ?_;refine Yad ?_;refine Zau ?_;refine Q1s hS hel8 rfl vw fd (Qf fr g.nx) (Qi fr g.nx) (by omega) (hS.oneC (v:=v7) (css:=Qw g.regs++[[.int .i64 h.openV.region]]) fd) (Q5O (g':=⟨g.f,g.b,g.i+1,g.vv,g.vals,v7,g.regs++[h.openV.region]⟩) rfl) ?_;intro w8 hS;have hS:=hS.ns;refine Zao ?_;have hS:St cx _ (mS p c fr ⟨g.f,g.b,g.i+1,g.vv,g.vals,v7,g.regs++[h.openV.region]⟩ (N+1) h.open out (blk p6 224 h.openV.cells::blk p3 84 [.int .i64 x.op, .int .i64 x.a, .int .i64 x.b, .int .i64 x.c, .int .i64 x.k, .int .i64 x.n,vr,va]::L)):=(by show St cx _ (blk p _ _::sl _ 5 c.lv _::sl _ 4 g.vv _::sl _ 1 v7 (List.map _ (g.regs++[h.openV.region]))::_);rw [List.map_append];exact hS.sp);refine Zae ?_;refine zv hS ?_;refine zB1 hS [_,_,_,_] ?_;intro b1 w1 hS;have hS:=St.slOf (T:=224) (es:=4) (css:=[h.openV].map Val.cells) hS rfl (by simp [Val.cells]) rfl;have hS:St cx _ (mL p c fr ⟨g.f,g.b,g.i+1,g.vv,g.vals,v7,g.regs++[h.openV.region]⟩ (sl 224 4 (.slice (some ⟨b1,0,none⟩) 1 1) ([h.openV].map Val.cells)::Q1P (N+1) c.hp (h.open)::sl 2 1 c.ov (Qw out)::blk p3 84 [.int .i64 x.op, .int .i64 x.a, .int .i64 x.b, .int .i64 x.c, .int .i64 x.k, .int .i64 x.n,vr,va]::L)):=hS.sp;refine zR2 (c:=Q57 (j:=0) (by omega) (by show g.vals.length+1≤1000000;omega) hS rfl) (h:=?_);rintro u1 w1 ⟨tv,rfl,hS⟩)
                 all_goals (refine zn ?_;have hG:GoS p c N fu ((msOf h g.nx fr inp out fu).ins m x) cx L (.tuple #[]) w1:=⟨c.lv,c.iv,c.ov,fr,FrmV.push ⟨g.f,g.b,g.i+1,g.vv,g.vals,v7,g.regs++[h.openV.region]⟩ tv [h.openV],N+1,h.open,inp,out,hX.trans (QfA hfu),hi,Nat.le_refl _,rfl,hS.sp⟩;refine Qz ?_;exact .inl ⟨_,rfl,hG⟩)
               · skip
                 all_goals (refine zC [(0,none),(2,none),(7,none),(8,none),(1,some (some [8])),(9,some (some [])),(3,some (some [8])),(4,none),(5,none),(6,none),(10,some none),(11,none),(12,none),(13,some none)] ?_;have hS:=hS.drew;refine Zbg ?_;refine zf0 ?_;refine Zab ?_;refine zl hS ?_;refine Zaj ?_;refine zR1 (c:=Q4j (by omega) (show St cx _ (mL p c fr g.nx _) from hS.sp)) (h:=?_);rintro v1 w1 ⟨b8,o8,rfl,hel8,hS⟩;refine Zay ?_;refine zB1 hS [_] ?_;intro b1 w1 hS;refine zt ?_;refine ⟨fun _ h=> (List.not_mem_nil h).elim,?_⟩;refine Q4g ?_;refine zR1 (c:=Q4j (by omega) (show St cx _ (mL p c fr g.nx _) from hS.sp)) (h:=?_);rintro v1 w1 ⟨b7,o7,rfl,hel7,hS⟩;refine ZaH ?_;refine Zbw ?_;refine Q6 hS hel7 rfl fd (Qf fr g.nx) (Qi fr g.nx) rfl ?_;refine Zau ?_;refine Q1T Q5o (.inl Q9F) hS vw vw (v:=g.rv) (css:=Qw g.regs) fd (hS.srcB fd (by rfl) (by simp [oneC])) (by rw [List.length_map];simp only [List.length_cons,List.length_nil];omega) ?_;intro v7 w7 hS;have hS:=hS.ns)
                 all_goals (refine Zab ?_;refine Zaw ?_;refine Yad ?_;refine Zau ?_;refine Q1s hS hel8 rfl vw fd (Qf fr g.nx) (Qi fr g.nx) (by omega) (hS.oneC (v:=v7) (css:=Qw g.regs++[[.int .i64 h.openV.region]]) fd) (Q5O (g':=⟨g.f,g.b,g.i+1,g.vv,g.vals,v7,g.regs++[h.openV.region]⟩) rfl) ?_;intro w8 hS;have hS:=hS.ns;refine Zao ?_;have hS:St cx _ (mS p c fr ⟨g.f,g.b,g.i+1,g.vv,g.vals,v7,g.regs++[h.openV.region]⟩ (N+1) h.open out (blk p6 224 h.openV.cells::blk p3 84 [.int .i64 x.op, .int .i64 x.a, .int .i64 x.b, .int .i64 x.c, .int .i64 x.k, .int .i64 x.n,vr,va]::L)):=(by show St cx _ (blk p _ _::sl _ 5 c.lv _::sl _ 4 g.vv _::sl _ 1 v7 (List.map _ (g.regs++[h.openV.region]))::_);rw [List.map_append];exact hS.sp);refine Zae ?_;refine zv hS ?_;refine zB1 hS [_,_,_,_] ?_;intro b1 w1 hS;have hS:=St.slOf (T:=224) (es:=4) (css:=[h.openV].map Val.cells) hS rfl (by simp [Val.cells]) rfl;have hS:St cx _ (mL p c fr ⟨g.f,g.b,g.i+1,g.vv,g.vals,v7,g.regs++[h.openV.region]⟩ (sl 224 4 (.slice (some ⟨b1,0,none⟩) 1 1) ([h.openV].map Val.cells)::Q1P (N+1) c.hp (h.open)::sl 2 1 c.ov (Qw out)::blk p3 84 [.int .i64 x.op, .int .i64 x.a, .int .i64 x.b, .int .i64 x.c, .int .i64 x.k, .int .i64 x.n,vr,va]::L)):=hS.sp;refine zR2 (c:=Q57 (j:=0) (by omega) (by show g.vals.length+1≤1000000;omega) hS rfl) (h:=?_);rintro u1 w1 ⟨tv,rfl,hS⟩)
                 all_goals (refine zn ?_;have hG:GoS p c N fu ((msOf h g.nx fr inp out fu).ins m x) cx L (.tuple #[]) w1:=⟨c.lv,c.iv,c.ov,fr,FrmV.push ⟨g.f,g.b,g.i+1,g.vv,g.vals,v7,g.regs++[h.openV.region]⟩ tv [h.openV],N+1,h.open,inp,out,hX.trans (QfA hfu),hi,Nat.le_refl _,rfl,hS.sp⟩;refine Qz ?_;exact .inl ⟨_,rfl,hG⟩)
             · skip
               all_goals (refine zC [(0,none),(2,none),(7,none),(8,none),(9,some (some [])),(1,some (some [8])),(3,some (some [8])),(4,none),(5,none),(6,none),(10,some none),(11,none),(12,none),(13,some none)] ?_;have hS:=hS.drew;refine Zbg ?_;refine zf0 ?_;refine Zab ?_;refine zl hS ?_;refine Zaj ?_;refine zB1 hS [_] ?_;intro b1 w1 hS;refine zt ?_;refine ⟨fun _ h=> (List.not_mem_nil h).elim,?_⟩;refine Q4g ?_;refine zR1 (c:=Q4j (by omega) (show St cx _ (mL p c fr g.nx _) from hS.sp)) (h:=?_);rintro v1 w1 ⟨b8,o8,rfl,hel8,hS⟩;refine Zay ?_;refine zR1 (c:=Q4j (by omega) (show St cx _ (mL p c fr g.nx _) from hS.sp)) (h:=?_);rintro v1 w1 ⟨b7,o7,rfl,hel7,hS⟩;refine ZaH ?_;refine Zbw ?_;refine Q6 hS hel7 rfl fd (Qf fr g.nx) (Qi fr g.nx) rfl ?_;refine Zau ?_;refine Q1T Q5o (.inl Q9F) hS vw vw (v:=g.rv) (css:=Qw g.regs) fd (hS.srcB fd (by rfl) (by simp [oneC])) (by rw [List.length_map];simp only [List.length_cons,List.length_nil];omega) ?_;intro v7 w7 hS;have hS:=hS.ns)
               all_goals (refine Zab ?_;refine Zaw ?_;refine Yad ?_;refine Zau ?_;refine Q1s hS hel8 rfl vw fd (Qf fr g.nx) (Qi fr g.nx) (by omega) (hS.oneC (v:=v7) (css:=Qw g.regs++[[.int .i64 h.openV.region]]) fd) (Q5O (g':=⟨g.f,g.b,g.i+1,g.vv,g.vals,v7,g.regs++[h.openV.region]⟩) rfl) ?_;intro w8 hS;have hS:=hS.ns;refine Zao ?_;have hS:St cx _ (mS p c fr ⟨g.f,g.b,g.i+1,g.vv,g.vals,v7,g.regs++[h.openV.region]⟩ (N+1) h.open out (blk p6 224 h.openV.cells::blk p3 84 [.int .i64 x.op, .int .i64 x.a, .int .i64 x.b, .int .i64 x.c, .int .i64 x.k, .int .i64 x.n,vr,va]::L)):=(by show St cx _ (blk p _ _::sl _ 5 c.lv _::sl _ 4 g.vv _::sl _ 1 v7 (List.map _ (g.regs++[h.openV.region]))::_);rw [List.map_append];exact hS.sp);refine Zae ?_;refine zv hS ?_;refine zB1 hS [_,_,_,_] ?_;intro b1 w1 hS;have hS:=St.slOf (T:=224) (es:=4) (css:=[h.openV].map Val.cells) hS rfl (by simp [Val.cells]) rfl;have hS:St cx _ (mL p c fr ⟨g.f,g.b,g.i+1,g.vv,g.vals,v7,g.regs++[h.openV.region]⟩ (sl 224 4 (.slice (some ⟨b1,0,none⟩) 1 1) ([h.openV].map Val.cells)::Q1P (N+1) c.hp (h.open)::sl 2 1 c.ov (Qw out)::blk p3 84 [.int .i64 x.op, .int .i64 x.a, .int .i64 x.b, .int .i64 x.c, .int .i64 x.k, .int .i64 x.n,vr,va]::L)):=hS.sp;refine zR2 (c:=Q57 (j:=0) (by omega) (by show g.vals.length+1≤1000000;omega) hS rfl) (h:=?_);rintro u1 w1 ⟨tv,rfl,hS⟩)
               all_goals (refine zn ?_;have hG:GoS p c N fu ((msOf h g.nx fr inp out fu).ins m x) cx L (.tuple #[]) w1:=⟨c.lv,c.iv,c.ov,fr,FrmV.push ⟨g.f,g.b,g.i+1,g.vv,g.vals,v7,g.regs++[h.openV.region]⟩ tv [h.openV],N+1,h.open,inp,out,hX.trans (QfA hfu),hi,Nat.le_refl _,rfl,hS.sp⟩)
               all_goals (refine Qz ?_;exact .inl ⟨_,rfl,hG⟩))
          | (refine zcf ?_
             all_goals (refine Zaa ?_)
             all_goals (first|(refine Ql ?_)|(refine Qo ?_)|(refine Q8 rfl rfl (fun hc=> ?_) (fun hc=> ?_)))
             all_goals (refine Zad ?_)
             all_goals
              first
              | (refine zct ?_
                 all_goals (have hX:=xins_4 (m:=m) (s:=msOf h g.nx fr inp out fu) (x:=x) (by omega);refine zC [(0,none),(1,none),(2,none),(3,none),(4,none),(5,none),(6,none),(7,some (some [3])),(8,some none),(9,some none)] ?_;have hS:=hS.drew;refine ZaW ?_;refine zf0 ?_;refine Zab ?_;refine zl hS ?_;refine Zaq ?_;refine zf0 ?_;refine Zab ?_;refine zl hS ?_;refine Zaj ?_;refine zE2 (c:=Q3r (by omega) (show St cx _ (mL p c fr g.nx _) from hS.sp)) (p:=by rintro u9 w9 ⟨hv,rfl,hS⟩;(repeat (first|refine Q2 ?_|refine Q3 ?_|refine fun _=> ?_));refine Qc ?_;refine .inr ⟨_,rfl,?_⟩;exact .inl ⟨hX.trans (QK hv),rfl,hS.sp⟩) (h:=?_);rintro u1 w2 ⟨v,hv,rfl,hS⟩;refine ZaC ?_)
                 all_goals (refine zR2 (c:=hshut_c (N:=N) (s:=h) (h:=c.hp) v hS fd) (h:=?_);rintro v1 w1 ⟨rfl,hS⟩;have hS:=hS.ns;cases hcn:h.can v)
                 all_goals (refine Zau ?_)
                 all_goals (first|(refine zR1 (c:=Q2r hS) (h:=?_);rintro v1 w1 ⟨rfl,hS⟩)|(refine zE1 (c:=Q2A hS) (p:=by rintro v9 w9 ⟨rfl,hS⟩;(repeat (first|refine Q2 ?_|refine Q3 ?_|refine fun _=> ?_));refine Qc ?_;refine .inr ⟨_,rfl,?_⟩;exact .inl ⟨hX.trans ((Q1 hv).trans (if_pos hcn)),rfl,hS.sp⟩) (h:=fun _ _ h=> h.elim)))
                 all_goals (refine Zao ?_;have hG:GoS p c N fu ((msOf h g.nx fr inp out fu).ins m x) cx L (.tuple #[]) w1:=⟨c.lv,c.iv,c.ov,fr,g.nx,N,h.shut v,inp,out,hX.trans ((Q1 hv).trans (if_neg (by rw [show (msOf h g.nx fr inp out fu).h.can v=h.can v from rfl,hcn];decide))),hi,by omega,rfl,hS.sp⟩)
                 all_goals (refine Qz ?_;exact .inl ⟨_,rfl,hG⟩))
              | (refine zcf ?_
                 all_goals (refine Zaa ?_)
                 all_goals (first|(refine Ql ?_)|(refine Qo ?_)|(refine Q8 rfl rfl (fun hc=> ?_) (fun hc=> ?_)))
                 all_goals (refine Zad ?_)
                 all_goals
                  first
                  | (refine zct ?_
                     all_goals (have hX:=xins_5 (m:=m) (s:=msOf h g.nx fr inp out fu) (x:=x) (by omega);refine zC [(0,none),(1,none),(2,none),(3,none),(4,none),(5,none),(6,none),(7,none),(9,none),(10,none),(11,none),(8,some (some [4,11])),(12,some (some [4])),(13,some (some [])),(14,none),(15,none),(16,some none)] ?_;have hS:=hS.drew;refine Zbg ?_;refine Zaw ?_;refine zf0 ?_;refine Zab ?_;refine zl hS ?_;refine Zaq ?_;refine zf0 ?_;refine Zab ?_;refine zl hS ?_;refine Zaq ?_;refine zf0 ?_;refine Zab ?_;refine zl hS ?_;refine Zaj ?_;refine zE2 (c:=Q3r (by omega) (show St cx _ (mL p c fr g.nx _) from hS.sp)) (p:=by rintro u9 w9 ⟨hv,rfl,hS⟩;(repeat (first|refine Q2 ?_|refine Q3 ?_|refine fun _=> ?_));refine Qc ?_;refine .inr ⟨_,rfl,?_⟩;exact .inl ⟨hX.trans (QK hv),rfl,hS.sp⟩) (h:=?_);rintro u1 w2 ⟨v,hv,rfl,hS⟩)
                     all_goals (refine Zay ?_;refine zE2 (c:=QaO (by omega) (by omega) ha (show St cx _ (mL p c fr g.nx _) from hS.sp)) (p:=by rintro u9 w9 ⟨hvs,rfl,hS⟩;(repeat (first|refine Q2 ?_|refine Q3 ?_|refine fun _=> ?_));refine Qc ?_;refine .inr ⟨_,rfl,?_⟩;exact .inl ⟨hX.trans ((Q1 hv).trans (QK hvs)),rfl,hS.sp⟩) (h:=?_);rintro u2 w2 ⟨vs,hvs,hvl,ho2,hS⟩;refine Zay ?_;refine zR3 (c:=htuple_c (N:=N) (s:=h) (h:=c.hp) (j:=5) v _ vs (by omega) (by omega) hS fd rfl) (h:=?_);rintro v1 w1 ⟨rfl,hS⟩;have hS:=hS.ns;refine ZaH ?_;refine ZbB ?_;refine Zau ?_)
                     all_goals (refine zE3 (c:=Qdp (v:=h.putV v 3 (Q1d vs)) (by omega) (by show g.vals.length≤900000;omega) (show St cx _ (mL p c fr g.nx _) from hS.sp)) (p:=by rintro u9 w9 ⟨he,hS⟩;(repeat (first|refine Q2 ?_|refine Q3 ?_|refine fun _=> ?_));refine Qc ?_;refine .inr ⟨_,rfl,?_⟩;rcases he with ⟨e0,rfl⟩|⟨e0,e1,rfl⟩;rw [tuple_no (by omega)] at hS;exact .inr ⟨6,hX.trans ((Q1 hv).trans ((Q1 hvs).trans (Qac e0))),rfl,fr,g.nx,N+1,Nat.le_refl _,hS.sp⟩;exact .inl ⟨hX.trans ((Q1 hv).trans ((Q1 hvs).trans (Qab e0 e1))),rfl,hS.sp⟩) (h:=?_);rintro u1 w1 ⟨e0,tv,rfl,hS⟩)
                     all_goals (refine Zao ?_;have hG:GoS p c N fu ((msOf h g.nx fr inp out fu).ins m x) cx L (.tuple #[]) w1:=⟨c.lv,c.iv,c.ov,fr,g.nx.push tv [h.putV v 3 (Q1d vs)],N+1,h.tuple v vs,inp,out,hX.trans ((Q1 hv).trans ((Q1 hvs).trans (Qdq e0))),hi,Nat.le_refl _,rfl,hS.sp⟩)
                     all_goals (refine Qz ?_;exact .inl ⟨_,rfl,hG⟩))
                  | (refine zcf ?_
                     all_goals (refine Zaa ?_)
                     all_goals (first|(refine Ql ?_)|(refine Qo ?_)|(refine Q8 rfl rfl (fun hc=> ?_) (fun hc=> ?_)))
                     all_goals (refine Zad ?_)
                     all_goals
                      first
                      | (refine zct ?_
                         all_goals (refine QB ?_;have hX:=xins_6 (m:=m) (s:=msOf h g.nx fr inp out fu) (x:=x) (by omega);refine Zae ?_;refine zf0 ?_;refine zl hS ?_;refine zE2 (c:=Q3r (by omega) (show St cx _ (mL p c fr g.nx _) from hS.sp)) (p:=by rintro u9 w9 ⟨hv,rfl,hS⟩;(repeat (first|refine Q2 ?_|refine Q3 ?_|refine fun _=> ?_));refine Qc ?_;refine .inr ⟨_,rfl,?_⟩;exact .inl ⟨hX.trans (QK hv),rfl,hS.sp⟩) (h:=?_);rintro u1 w2 ⟨v,hv,rfl,hS⟩;unfold Val.v Val.cells;refine Q7W rfl rfl ?_)
                         all_goals (first|(refine Ql ?_)|(refine Qo ?_)|(refine Q8 rfl rfl (fun hc=> ?_) (fun hc=> ?_)))
                         all_goals (first|(refine zR1 (c:=Q2r hS) (h:=?_);rintro v1 w1 ⟨rfl,hS⟩)|(refine zE1 (c:=Q2A hS) (p:=by rintro v9 w9 ⟨rfl,hS⟩;(repeat (first|refine Q2 ?_|refine Q3 ?_|refine fun _=> ?_));refine Qc ?_;refine .inr ⟨_,rfl,?_⟩;exact .inl ⟨hX.trans ((Q1 hv).trans (if_pos (by omega))),rfl,hS.sp⟩) (h:=fun _ _ h=> h.elim)))
                         all_goals (refine Zal ?_)
                         refine Q1N 7 14 (by kernel_rfl) ?_ ?_
                         · skip
                           refine Q1N 10 14 (by kernel_rfl) ?_ ?_
                           · skip
                             all_goals (refine zC [(0,none),(1,none),(2,none),(3,none),(4,none),(5,none),(6,none),(8,none),(9,none),(7,some (some [3,9])),(10,some none),(11,none),(12,none),(13,none),(14,some (some [])),(15,some (some [])),(16,some none)] ?_;have hS:=hS.drew;refine ZaW ?_;refine zf0 ?_;refine Zab ?_;refine zl hS ?_;refine Zaq ?_;refine zf0 ?_;refine Zab ?_;refine zl hS ?_;refine Zab ?_;refine zf0 ?_;refine Zab ?_;refine zl hS ?_;refine Zaj ?_)
                             all_goals (refine zE2 (c:=Q3r (by omega) (show St cx _ (mL p c fr g.nx _) from hS.sp)) (p:=by rintro u9 w9 ⟨hv2,rfl,hS⟩;(repeat (first|refine Q2 ?_|refine Q3 ?_|refine fun _=> ?_));refine Qc ?_;refine .inr ⟨_,rfl,?_⟩;rw [hv] at hv2;cases hv2) (h:=?_);rintro u1 w2 ⟨v2,hv2,rfl,hS⟩;obtain rfl:v=v2:=Option.some.inj (hv.symm.trans hv2))
                             all_goals (refine ZaC ?_;refine zR3 (c:=Q8r (N:=N) (s:=h) (h:=c.hp) v x.k hS fd) (h:=?_);rintro v1 w1 ⟨rfl,hS⟩;unfold Val.v Val.cells;refine Zaq ?_;refine ZbB ?_;refine ZaY ?_;intro p8 w1 hS;refine Zay ?_;refine zsn hS ?_;intro w1 hS;have hS:=hS.ns;refine ZaC ?_;refine Zbo ?_)
                             all_goals (first|(refine Ql ?_)|(refine Qo ?_)|(refine Q8 rfl rfl (fun hc=> ?_) (fun hc=> ?_)))
                             all_goals (first|(refine zR1 (c:=Q2r hS) (h:=?_);rintro v1 w1 ⟨rfl,hS⟩)|(refine zE1 (c:=Q2A hS) (p:=by rintro v9 w9 ⟨rfl,hS⟩;(repeat (first|refine Q2 ?_|refine Q3 ?_|refine fun _=> ?_));refine Qc ?_;refine .inr ⟨_,rfl,?_⟩;exact .inl ⟨hX.trans ((Q1 hv).trans ((if_neg (by omega)).trans (if_pos (by show (h.get v x.k).2≠0;omega)))),rfl,hS.sp⟩) (h:=fun _ _ h=> h.elim)))
                             all_goals (refine ZaJ ?_;refine zv hS ?_;refine zB1 hS [_,_,_,_] ?_;intro b1 w1 hS;have hS:=St.slOf (T:=224) (es:=4) (css:=[(h.get v x.k).1].map Val.cells) hS rfl (by simp [Val.cells]) rfl;have hS:St cx _ (mL p c fr g.nx (sl 224 4 (.slice (some ⟨b1,0,none⟩) 1 1) ([(h.get v x.k).1].map Val.cells)::Q1P (N) c.hp (h)::sl 2 1 c.ov (Qw out)::blk p3 84 [.int .i64 x.op, .int .i64 x.a, .int .i64 x.b, .int .i64 x.c, .int .i64 x.k, .int .i64 x.n,vr,va]::L)):=hS.sp;refine zR2 (c:=Q57 (j:=0) (by omega) (by show g.vals.length+1≤1000000;omega) hS rfl) (h:=?_);rintro u1 w1 ⟨tv,rfl,hS⟩;refine zn ?_;have hG:GoS p c N fu ((msOf h g.nx fr inp out fu).ins m x) cx L (.tuple #[]) w1:=⟨c.lv,c.iv,c.ov,fr,g.nx.push tv [(h.get v x.k).1],N,h,inp,out,hX.trans ((Q1 hv).trans ((if_neg (by omega)).trans (if_neg (by show¬(h.get v x.k).2≠0;omega)))),hi,by omega,rfl,hS.sp⟩;refine Qz ?_;exact .inl ⟨_,rfl,hG⟩)
                           · skip
                             all_goals (refine zC [(0,none),(1,none),(2,none),(3,none),(4,none),(5,none),(6,none),(8,none),(9,none),(7,some (some [3,9])),(14,some (some [3,9])),(10,some none),(11,none),(12,none),(13,none),(15,some (some [])),(16,some none)] ?_;have hS:=hS.drew;refine ZaW ?_;refine zf0 ?_;refine Zab ?_;refine zl hS ?_;refine Zaq ?_;refine zf0 ?_;refine Zab ?_;refine zl hS ?_;refine Zab ?_;refine zf0 ?_;refine Zab ?_;refine zl hS ?_;refine Zaj ?_)
                             all_goals (refine zE2 (c:=Q3r (by omega) (show St cx _ (mL p c fr g.nx _) from hS.sp)) (p:=by rintro u9 w9 ⟨hv2,rfl,hS⟩;(repeat (first|refine Q2 ?_|refine Q3 ?_|refine fun _=> ?_));refine Qc ?_;refine .inr ⟨_,rfl,?_⟩;rw [hv] at hv2;cases hv2) (h:=?_);rintro u1 w2 ⟨v2,hv2,rfl,hS⟩;obtain rfl:v=v2:=Option.some.inj (hv.symm.trans hv2))
                             all_goals (refine Zay ?_;refine Qg hS ?_;intro p8 w1 hS;refine ZaC ?_;refine zR3 (c:=Q8r (N:=N) (s:=h) (h:=c.hp) v x.k hS fd) (h:=?_);rintro v1 w1 ⟨rfl,hS⟩;unfold Val.v Val.cells;refine Zaq ?_;refine ZbB ?_;refine Zaj ?_;refine zsn hS ?_;intro w1 hS;have hS:=hS.ns;refine ZaC ?_;refine Zbo ?_)
                             all_goals (first|(refine Ql ?_)|(refine Qo ?_)|(refine Q8 rfl rfl (fun hc=> ?_) (fun hc=> ?_)))
                             all_goals (first|(refine zR1 (c:=Q2r hS) (h:=?_);rintro v1 w1 ⟨rfl,hS⟩)|(refine zE1 (c:=Q2A hS) (p:=by rintro v9 w9 ⟨rfl,hS⟩;(repeat (first|refine Q2 ?_|refine Q3 ?_|refine fun _=> ?_));refine Qc ?_;refine .inr ⟨_,rfl,?_⟩;exact .inl ⟨hX.trans ((Q1 hv).trans ((if_neg (by omega)).trans (if_pos (by show (h.get v x.k).2≠0;omega)))),rfl,hS.sp⟩) (h:=fun _ _ h=> h.elim)))
                             all_goals (refine ZaJ ?_;refine zv hS ?_;refine zB1 hS [_,_,_,_] ?_;intro b1 w1 hS;have hS:=St.slOf (T:=224) (es:=4) (css:=[(h.get v x.k).1].map Val.cells) hS rfl (by simp [Val.cells]) rfl;have hS:St cx _ (mL p c fr g.nx (sl 224 4 (.slice (some ⟨b1,0,none⟩) 1 1) ([(h.get v x.k).1].map Val.cells)::Q1P (N) c.hp (h)::sl 2 1 c.ov (Qw out)::blk p3 84 [.int .i64 x.op, .int .i64 x.a, .int .i64 x.b, .int .i64 x.c, .int .i64 x.k, .int .i64 x.n,vr,va]::L)):=hS.sp;refine zR2 (c:=Q57 (j:=0) (by omega) (by show g.vals.length+1≤1000000;omega) hS rfl) (h:=?_);rintro u1 w1 ⟨tv,rfl,hS⟩;refine zn ?_;have hG:GoS p c N fu ((msOf h g.nx fr inp out fu).ins m x) cx L (.tuple #[]) w1:=⟨c.lv,c.iv,c.ov,fr,g.nx.push tv [(h.get v x.k).1],N,h,inp,out,hX.trans ((Q1 hv).trans ((if_neg (by omega)).trans (if_neg (by show¬(h.get v x.k).2≠0;omega)))),hi,by omega,rfl,hS.sp⟩;refine Qz ?_;exact .inl ⟨_,rfl,hG⟩)
                         · skip
                           all_goals (refine zC [(0,none),(1,none),(2,none),(3,none),(4,none),(5,none),(6,none),(8,none),(9,none),(14,some (some [3,6,9])),(7,some (some [3,9])),(10,some none),(11,none),(12,none),(13,none),(15,some (some [])),(16,some none)] ?_;have hS:=hS.drew;refine ZaW ?_;refine zf0 ?_;refine Zab ?_;refine zl hS ?_;refine Zaq ?_;refine zf0 ?_;refine Zab ?_;refine zl hS ?_;refine Zab ?_;refine zf0 ?_;refine Zab ?_;refine zl hS ?_;refine ZaY ?_;intro p8 w1 hS;refine Zay ?_)
                           all_goals (refine zE2 (c:=Q3r (by omega) (show St cx _ (mL p c fr g.nx _) from hS.sp)) (p:=by rintro u9 w9 ⟨hv2,rfl,hS⟩;(repeat (first|refine Q2 ?_|refine Q3 ?_|refine fun _=> ?_));refine Qc ?_;refine .inr ⟨_,rfl,?_⟩;rw [hv] at hv2;cases hv2) (h:=?_);rintro u1 w2 ⟨v2,hv2,rfl,hS⟩;obtain rfl:v=v2:=Option.some.inj (hv.symm.trans hv2))
                           all_goals (refine ZaC ?_;refine zR3 (c:=Q8r (N:=N) (s:=h) (h:=c.hp) v x.k hS fd) (h:=?_);rintro v1 w1 ⟨rfl,hS⟩;unfold Val.v Val.cells;refine Zaq ?_;refine ZbB ?_;refine Zaj ?_;refine zsn hS ?_;intro w1 hS;have hS:=hS.ns;refine ZaC ?_;refine Zbo ?_)
                           all_goals (first|(refine Ql ?_)|(refine Qo ?_)|(refine Q8 rfl rfl (fun hc=> ?_) (fun hc=> ?_)))
                           all_goals (first|(refine zR1 (c:=Q2r hS) (h:=?_);rintro v1 w1 ⟨rfl,hS⟩)|(refine zE1 (c:=Q2A hS) (p:=by rintro v9 w9 ⟨rfl,hS⟩;(repeat (first|refine Q2 ?_|refine Q3 ?_|refine fun _=> ?_));refine Qc ?_;refine .inr ⟨_,rfl,?_⟩;exact .inl ⟨hX.trans ((Q1 hv).trans ((if_neg (by omega)).trans (if_pos (by show (h.get v x.k).2≠0;omega)))),rfl,hS.sp⟩) (h:=fun _ _ h=> h.elim)))
                           all_goals (refine ZaJ ?_;refine zv hS ?_;refine zB1 hS [_,_,_,_] ?_;intro b1 w1 hS;have hS:=St.slOf (T:=224) (es:=4) (css:=[(h.get v x.k).1].map Val.cells) hS rfl (by simp [Val.cells]) rfl;have hS:St cx _ (mL p c fr g.nx (sl 224 4 (.slice (some ⟨b1,0,none⟩) 1 1) ([(h.get v x.k).1].map Val.cells)::Q1P (N) c.hp (h)::sl 2 1 c.ov (Qw out)::blk p3 84 [.int .i64 x.op, .int .i64 x.a, .int .i64 x.b, .int .i64 x.c, .int .i64 x.k, .int .i64 x.n,vr,va]::L)):=hS.sp;refine zR2 (c:=Q57 (j:=0) (by omega) (by show g.vals.length+1≤1000000;omega) hS rfl) (h:=?_);rintro u1 w1 ⟨tv,rfl,hS⟩;refine zn ?_;have hG:GoS p c N fu ((msOf h g.nx fr inp out fu).ins m x) cx L (.tuple #[]) w1:=⟨c.lv,c.iv,c.ov,fr,g.nx.push tv [(h.get v x.k).1],N,h,inp,out,hX.trans ((Q1 hv).trans ((if_neg (by omega)).trans (if_neg (by show¬(h.get v x.k).2≠0;omega)))),hi,by omega,rfl,hS.sp⟩)
                           all_goals (refine Qz ?_;exact .inl ⟨_,rfl,hG⟩))
                      | (refine zcf ?_
                         all_goals (refine Zaa ?_)
                         all_goals (first|(refine Ql ?_)|(refine Qo ?_)|(refine Q8 rfl rfl (fun hc=> ?_) (fun hc=> ?_)))
                         all_goals (refine Zad ?_)
                         all_goals
                          first
                          | (refine zct ?_
                             all_goals (refine QB ?_;have hX:=xins_7 (m:=m) (s:=msOf h g.nx fr inp out fu) (x:=x) (by omega);refine Zae ?_;refine zf0 ?_;refine zl hS ?_;refine zE2 (c:=Q3r (by omega) (show St cx _ (mL p c fr g.nx _) from hS.sp)) (p:=by rintro u9 w9 ⟨hv,rfl,hS⟩;(repeat (first|refine Q2 ?_|refine Q3 ?_|refine fun _=> ?_));refine Qc ?_;refine .inr ⟨_,rfl,?_⟩;exact .inl ⟨hX.trans (QK hv),rfl,hS.sp⟩) (h:=?_);rintro u1 w2 ⟨v,hv,rfl,hS⟩;unfold Val.v Val.cells;refine Q7W rfl rfl ?_)
                             all_goals (first|(refine Ql ?_)|(refine Qo ?_)|(refine Q8 rfl rfl (fun hc=> ?_) (fun hc=> ?_)))
                             all_goals (first|(refine zR1 (c:=Q2r hS) (h:=?_);rintro v1 w1 ⟨rfl,hS⟩)|(refine zE1 (c:=Q2A hS) (p:=by rintro v9 w9 ⟨rfl,hS⟩;(repeat (first|refine Q2 ?_|refine Q3 ?_|refine fun _=> ?_));refine Qc ?_;refine .inr ⟨_,rfl,?_⟩;exact .inl ⟨hX.trans ((Q1 hv).trans (if_pos (by omega))),rfl,hS.sp⟩) (h:=fun _ _ h=> h.elim)))
                             all_goals (refine zn ?_;refine zC [(0,none),(1,none),(2,none),(3,none),(4,none),(5,none),(6,none),(8,none),(9,none),(10,none),(11,none),(12,none),(7,some (some [3,9,12])),(13,some (some [3,9])),(14,some none),(15,none),(16,some none)] ?_;have hS:=hS.drew;refine ZaW ?_;refine zf0 ?_;refine Zab ?_;refine zl hS ?_;refine Zaq ?_;refine zf0 ?_;refine Zab ?_;refine zl hS ?_;refine Zab ?_;refine zf0 ?_;refine Zab ?_;refine zl hS ?_;refine Zaq ?_;refine zf0 ?_;refine Zab ?_;refine zl hS ?_;refine Zaj ?_)
                             all_goals (refine zE2 (c:=Q3r (by omega) (show St cx _ (mL p c fr g.nx _) from hS.sp)) (p:=by rintro u9 w9 ⟨hv2,rfl,hS⟩;(repeat (first|refine Q2 ?_|refine Q3 ?_|refine fun _=> ?_));refine Qc ?_;refine .inr ⟨_,rfl,?_⟩;rw [hv] at hv2;cases hv2) (h:=?_);rintro u1 w2 ⟨v2,hv2,rfl,hS⟩;obtain rfl:v=v2:=Option.some.inj (hv.symm.trans hv2))
                             all_goals (refine Zay ?_;refine zE2 (c:=Q3r (by omega) (show St cx _ (mL p c fr g.nx _) from hS.sp)) (p:=by rintro u9 w9 ⟨hy,rfl,hS⟩;(repeat (first|refine Q2 ?_|refine Q3 ?_|refine fun _=> ?_));refine Qc ?_;refine .inr ⟨_,rfl,?_⟩;exact .inl ⟨hX.trans ((Q1 hv).trans ((if_neg (by omega)).trans (QK hy))),rfl,hS.sp⟩) (h:=?_);rintro u1 w2 ⟨y,hy,rfl,hS⟩;refine ZaC ?_;refine zR4 (c:=hset_c (N:=N) (s:=h) (h:=c.hp) v x.k y hS fd) (h:=?_);rintro v1 w1 ⟨rfl,hS⟩;have hS:=hS.ns;refine Zab ?_)
                             all_goals (first|(refine Ql ?_)|(refine Qo ?_)|(refine Q8 rfl rfl (fun hc=> ?_) (fun hc=> ?_)))
                             all_goals (refine Zau ?_)
                             all_goals (first|(refine zR1 (c:=Q2r hS) (h:=?_);rintro v1 w1 ⟨rfl,hS⟩)|(refine zE1 (c:=Q2A hS) (p:=by rintro v9 w9 ⟨rfl,hS⟩;(repeat (first|refine Q2 ?_|refine Q3 ?_|refine fun _=> ?_));refine Qc ?_;refine .inr ⟨_,rfl,?_⟩;exact .inl ⟨hX.trans ((Q1 hv).trans ((if_neg (by omega)).trans ((Q1 hy).trans (if_pos (by show h.setC v x.k y≠0;omega))))),rfl,hS.sp⟩) (h:=fun _ _ h=> h.elim)))
                             all_goals (refine Zao ?_;have hG:GoS p c N fu ((msOf h g.nx fr inp out fu).ins m x) cx L (.tuple #[]) w1:=⟨c.lv,c.iv,c.ov,fr,g.nx,N,h.set v x.k y,inp,out,hX.trans ((Q1 hv).trans ((if_neg (by omega)).trans ((Q1 hy).trans (if_neg (by show¬h.setC v x.k y≠0;omega))))),hi,by omega,rfl,hS.sp⟩)
                             all_goals (refine Qz ?_;exact .inl ⟨_,rfl,hG⟩))
                          | (refine zcf ?_
                             all_goals (refine Zaa ?_)
                             all_goals (first|(refine Ql ?_)|(refine Qo ?_)|(refine Q8 rfl rfl (fun hc=> ?_) (fun hc=> ?_)))
                             all_goals (refine Zad ?_)
                             all_goals
                              first
                              | (refine zct ?_
                                 all_goals (have hX:=xins_8 (m:=m) (s:=msOf h g.nx fr inp out fu) (x:=x) (by omega);rw [hX];refine Zae ?_;refine zv hS ?_;refine zE2 (c:=array_c (inp:=inp) (fu:=fu) (x:=x) hx hi (by omega) (by show g.vals.length≤900000;omega) hN hS) (p:=by rintro u9 w9 hB;(repeat (first|refine Q2 ?_|refine Q3 ?_|refine fun _=> ?_));refine Qc ?_;refine .inr ⟨_,rfl,?_⟩;exact hB.drop) (h:=?_);rintro u1 w1 hG;refine zn ?_;have hG:=hG.drop;obtain ⟨rfl,hG⟩:=hG.tup)
                                 all_goals (refine Qz ?_;exact .inl ⟨_,rfl,hG⟩))
                              | (refine zcf ?_
                                 all_goals (refine Zaa ?_)
                                 all_goals (first|(refine Ql ?_)|(refine Qo ?_)|(refine Q8 rfl rfl (fun hc=> ?_) (fun hc=> ?_)))
                                 all_goals (refine Zad ?_)
                                 all_goals
                                  first
                                  | (refine zct ?_
                                     all_goals (refine QB ?_;have hX:=xins_9 (m:=m) (s:=msOf h g.nx fr inp out fu) (x:=x) (by omega))
                                     refine Q1N 7 16 (by kernel_rfl) ?_ ?_
                                     · skip
                                       refine Q1N 11 16 (by kernel_rfl) ?_ ?_
                                       · skip
                                         refine Q1N 12 16 (by kernel_rfl) ?_ ?_
                                         · skip
                                           all_goals (refine zC [(0,none),(1,none),(2,none),(3,none),(4,none),(5,none),(6,none),(8,none),(9,none),(10,none),(7,some (some [3,10])),(11,some (some [3])),(12,some none),(13,none),(14,none),(15,none),(16,some (some [])),(17,some (some [])),(18,some none)] ?_;have hS:=hS.drew;refine ZaW ?_;refine zf0 ?_;refine Zab ?_;refine zl hS ?_;refine Zaq ?_;refine zf0 ?_;refine Zab ?_;refine zl hS ?_;refine Zaq ?_;refine zf0 ?_;refine Zab ?_;refine zl hS ?_;refine Zaj ?_;refine zE2 (c:=Q3r (by omega) (show St cx _ (mL p c fr g.nx _) from hS.sp)) (p:=by rintro u9 w9 ⟨hv,rfl,hS⟩;(repeat (first|refine Q2 ?_|refine Q3 ?_|refine fun _=> ?_));refine Qc ?_;refine .inr ⟨_,rfl,?_⟩;exact .inl ⟨hX.trans (QK hv),rfl,hS.sp⟩) (h:=?_);rintro u1 w2 ⟨v,hv,rfl,hS⟩)
                                           all_goals (refine Zay ?_;refine zE2 (c:=Q6E (by omega) (show St cx _ (mL p c fr g.nx _) from hS.sp)) (p:=by rintro u9 w9 ⟨hnn,rfl,hS⟩;(repeat (first|refine Q2 ?_|refine Q3 ?_|refine fun _=> ?_));refine Qc ?_;refine .inr ⟨_,rfl,?_⟩;exact .inl ⟨hX.trans ((Q1 hv).trans (QK hnn)),rfl,hS.sp⟩) (h:=?_);rintro u1 w2 ⟨n,hnn,rfl,hS⟩;refine ZaC ?_;refine zR3 (c:=Q8r (N:=N) (s:=h) (h:=c.hp) v n hS fd) (h:=?_);rintro v1 w1 ⟨rfl,hS⟩;unfold Val.v Val.cells;refine Zaq ?_;refine ZbB ?_;refine ZaY ?_;intro p10 w1 hS;refine Zay ?_;refine zsn hS ?_;intro w1 hS;have hS:=hS.ns;refine ZaC ?_;refine Zbo ?_;refine zv hS ?_;refine zm ?_)
                                           all_goals (refine zE3 (c:=Q9m (x:=x) hx (by omega) (show St cx _ (mL p c fr g.nx _) from hS.sp)) (p:=by rintro u9 w9 ⟨he,hS⟩;(repeat (first|refine Q2 ?_|refine Q3 ?_|refine fun _=> ?_));refine Qc ?_;refine .inr ⟨_,rfl,?_⟩;rcases he with ⟨e0,rfl⟩|⟨⟨v3,hv3,hk4⟩,e0,rfl⟩;exact .inl ⟨hX.trans ((Q1 hv).trans ((Q1 hnn).trans (Q9l (e0 v hv)))),rfl,hS.sp⟩;obtain rfl:v=v3:=Option.some.inj (hv.symm.trans hv3);exact .inr ⟨2,hX.trans ((Q1 hv).trans ((Q1 hnn).trans (Q9n hk4 e0))),rfl,fr,g.nx,N,by omega,hS.sp⟩) (h:=?_);rintro u1 w1 ⟨⟨v3,hv3,hk4⟩,e0,rfl,hS⟩;obtain rfl:v=v3:=Option.some.inj (hv.symm.trans hv3))
                                           all_goals (refine ZaJ ?_;refine zv hS ?_;refine zB1 hS [_,_,_,_] ?_;intro b1 w1 hS;have hS:=St.slOf (T:=224) (es:=4) (css:=[(h.get v n).1].map Val.cells) hS rfl (by simp [Val.cells]) rfl;have hS:St cx _ (mL p c fr g.nx (sl 224 4 (.slice (some ⟨b1,0,none⟩) 1 1) ([(h.get v n).1].map Val.cells)::Q1P (N) c.hp (h)::sl 2 1 c.ov (Qw out)::blk p3 84 [.int .i64 x.op, .int .i64 x.a, .int .i64 x.b, .int .i64 x.c, .int .i64 x.k, .int .i64 x.n,vr,va]::L)):=hS.sp;refine zR2 (c:=Q57 (j:=0) (by omega) (by show g.vals.length+1≤1000000;omega) hS rfl) (h:=?_);rintro u1 w1 ⟨tv,rfl,hS⟩;refine zn ?_;have hG:GoS p c N fu ((msOf h g.nx fr inp out fu).ins m x) cx L (.tuple #[]) w1:=⟨c.lv,c.iv,c.ov,fr,g.nx.push tv [(h.get v n).1],N,h,inp,out,hX.trans ((Q1 hv).trans ((Q1 hnn).trans (Q9o hk4 e0))),hi,by omega,rfl,hS.sp⟩;refine Qz ?_;exact .inl ⟨_,rfl,hG⟩)
                                         · skip
                                           all_goals (refine zC [(0,none),(1,none),(2,none),(3,none),(4,none),(5,none),(6,none),(8,none),(9,none),(10,none),(7,some (some [3,10])),(11,some (some [3])),(16,some (some [3])),(12,some none),(13,none),(14,none),(15,none),(17,some (some [])),(18,some none)] ?_;have hS:=hS.drew;refine ZaW ?_;refine zf0 ?_;refine Zab ?_;refine zl hS ?_;refine Zaq ?_;refine zf0 ?_;refine Zab ?_;refine zl hS ?_;refine Zaq ?_;refine zf0 ?_;refine Zab ?_;refine zl hS ?_;refine Zaj ?_;refine zE2 (c:=Q3r (by omega) (show St cx _ (mL p c fr g.nx _) from hS.sp)) (p:=by rintro u9 w9 ⟨hv,rfl,hS⟩;(repeat (first|refine Q2 ?_|refine Q3 ?_|refine fun _=> ?_));refine Qc ?_;refine .inr ⟨_,rfl,?_⟩;exact .inl ⟨hX.trans (QK hv),rfl,hS.sp⟩) (h:=?_);rintro u1 w2 ⟨v,hv,rfl,hS⟩)
                                           all_goals (refine Zay ?_;refine zE2 (c:=Q6E (by omega) (show St cx _ (mL p c fr g.nx _) from hS.sp)) (p:=by rintro u9 w9 ⟨hnn,rfl,hS⟩;(repeat (first|refine Q2 ?_|refine Q3 ?_|refine fun _=> ?_));refine Qc ?_;refine .inr ⟨_,rfl,?_⟩;exact .inl ⟨hX.trans ((Q1 hv).trans (QK hnn)),rfl,hS.sp⟩) (h:=?_);rintro u1 w2 ⟨n,hnn,rfl,hS⟩;refine Zay ?_;refine Qg hS ?_;intro p10 w1 hS;refine ZaC ?_;refine zR3 (c:=Q8r (N:=N) (s:=h) (h:=c.hp) v n hS fd) (h:=?_);rintro v1 w1 ⟨rfl,hS⟩;unfold Val.v Val.cells;refine Zaq ?_;refine ZbB ?_;refine Zaj ?_;refine zsn hS ?_;intro w1 hS;have hS:=hS.ns;refine ZaC ?_;refine Zbo ?_;refine zv hS ?_;refine zm ?_)
                                           all_goals (refine zE3 (c:=Q9m (x:=x) hx (by omega) (show St cx _ (mL p c fr g.nx _) from hS.sp)) (p:=by rintro u9 w9 ⟨he,hS⟩;(repeat (first|refine Q2 ?_|refine Q3 ?_|refine fun _=> ?_));refine Qc ?_;refine .inr ⟨_,rfl,?_⟩;rcases he with ⟨e0,rfl⟩|⟨⟨v3,hv3,hk4⟩,e0,rfl⟩;exact .inl ⟨hX.trans ((Q1 hv).trans ((Q1 hnn).trans (Q9l (e0 v hv)))),rfl,hS.sp⟩;obtain rfl:v=v3:=Option.some.inj (hv.symm.trans hv3);exact .inr ⟨2,hX.trans ((Q1 hv).trans ((Q1 hnn).trans (Q9n hk4 e0))),rfl,fr,g.nx,N,by omega,hS.sp⟩) (h:=?_);rintro u1 w1 ⟨⟨v3,hv3,hk4⟩,e0,rfl,hS⟩;obtain rfl:v=v3:=Option.some.inj (hv.symm.trans hv3))
                                           all_goals (refine ZaJ ?_;refine zv hS ?_;refine zB1 hS [_,_,_,_] ?_;intro b1 w1 hS;have hS:=St.slOf (T:=224) (es:=4) (css:=[(h.get v n).1].map Val.cells) hS rfl (by simp [Val.cells]) rfl;have hS:St cx _ (mL p c fr g.nx (sl 224 4 (.slice (some ⟨b1,0,none⟩) 1 1) ([(h.get v n).1].map Val.cells)::Q1P (N) c.hp (h)::sl 2 1 c.ov (Qw out)::blk p3 84 [.int .i64 x.op, .int .i64 x.a, .int .i64 x.b, .int .i64 x.c, .int .i64 x.k, .int .i64 x.n,vr,va]::L)):=hS.sp;refine zR2 (c:=Q57 (j:=0) (by omega) (by show g.vals.length+1≤1000000;omega) hS rfl) (h:=?_);rintro u1 w1 ⟨tv,rfl,hS⟩;refine zn ?_;have hG:GoS p c N fu ((msOf h g.nx fr inp out fu).ins m x) cx L (.tuple #[]) w1:=⟨c.lv,c.iv,c.ov,fr,g.nx.push tv [(h.get v n).1],N,h,inp,out,hX.trans ((Q1 hv).trans ((Q1 hnn).trans (Q9o hk4 e0))),hi,by omega,rfl,hS.sp⟩;refine Qz ?_;exact .inl ⟨_,rfl,hG⟩)
                                       · skip
                                         all_goals (refine zC [(0,none),(1,none),(2,none),(3,none),(4,none),(5,none),(6,none),(8,none),(9,none),(10,none),(7,some (some [3,10])),(16,some (some [3,10])),(11,some (some [3])),(12,some none),(13,none),(14,none),(15,none),(17,some (some [])),(18,some none)] ?_;have hS:=hS.drew;refine ZaW ?_;refine zf0 ?_;refine Zab ?_;refine zl hS ?_;refine Zaq ?_;refine zf0 ?_;refine Zab ?_;refine zl hS ?_;refine Zaq ?_;refine zf0 ?_;refine Zab ?_;refine zl hS ?_;refine Zaj ?_;refine zE2 (c:=Q3r (by omega) (show St cx _ (mL p c fr g.nx _) from hS.sp)) (p:=by rintro u9 w9 ⟨hv,rfl,hS⟩;(repeat (first|refine Q2 ?_|refine Q3 ?_|refine fun _=> ?_));refine Qc ?_;refine .inr ⟨_,rfl,?_⟩;exact .inl ⟨hX.trans (QK hv),rfl,hS.sp⟩) (h:=?_);rintro u1 w2 ⟨v,hv,rfl,hS⟩)
                                         all_goals (refine Zay ?_;refine Qg hS ?_;intro p10 w1 hS;refine Zay ?_;refine zE2 (c:=Q6E (by omega) (show St cx _ (mL p c fr g.nx _) from hS.sp)) (p:=by rintro u9 w9 ⟨hnn,rfl,hS⟩;(repeat (first|refine Q2 ?_|refine Q3 ?_|refine fun _=> ?_));refine Qc ?_;refine .inr ⟨_,rfl,?_⟩;exact .inl ⟨hX.trans ((Q1 hv).trans (QK hnn)),rfl,hS.sp⟩) (h:=?_);rintro u1 w2 ⟨n,hnn,rfl,hS⟩;refine ZaC ?_;refine zR3 (c:=Q8r (N:=N) (s:=h) (h:=c.hp) v n hS fd) (h:=?_);rintro v1 w1 ⟨rfl,hS⟩;unfold Val.v Val.cells;refine Zaq ?_;refine ZbB ?_;refine Zaj ?_;refine zsn hS ?_;intro w1 hS;have hS:=hS.ns;refine ZaC ?_;refine Zbo ?_;refine zv hS ?_;refine zm ?_)
                                         all_goals (refine zE3 (c:=Q9m (x:=x) hx (by omega) (show St cx _ (mL p c fr g.nx _) from hS.sp)) (p:=by rintro u9 w9 ⟨he,hS⟩;(repeat (first|refine Q2 ?_|refine Q3 ?_|refine fun _=> ?_));refine Qc ?_;refine .inr ⟨_,rfl,?_⟩;rcases he with ⟨e0,rfl⟩|⟨⟨v3,hv3,hk4⟩,e0,rfl⟩;exact .inl ⟨hX.trans ((Q1 hv).trans ((Q1 hnn).trans (Q9l (e0 v hv)))),rfl,hS.sp⟩;obtain rfl:v=v3:=Option.some.inj (hv.symm.trans hv3);exact .inr ⟨2,hX.trans ((Q1 hv).trans ((Q1 hnn).trans (Q9n hk4 e0))),rfl,fr,g.nx,N,by omega,hS.sp⟩) (h:=?_);rintro u1 w1 ⟨⟨v3,hv3,hk4⟩,e0,rfl,hS⟩;obtain rfl:v=v3:=Option.some.inj (hv.symm.trans hv3))
                                         all_goals (refine ZaJ ?_;refine zv hS ?_;refine zB1 hS [_,_,_,_] ?_;intro b1 w1 hS;have hS:=St.slOf (T:=224) (es:=4) (css:=[(h.get v n).1].map Val.cells) hS rfl (by simp [Val.cells]) rfl;have hS:St cx _ (mL p c fr g.nx (sl 224 4 (.slice (some ⟨b1,0,none⟩) 1 1) ([(h.get v n).1].map Val.cells)::Q1P (N) c.hp (h)::sl 2 1 c.ov (Qw out)::blk p3 84 [.int .i64 x.op, .int .i64 x.a, .int .i64 x.b, .int .i64 x.c, .int .i64 x.k, .int .i64 x.n,vr,va]::L)):=hS.sp;refine zR2 (c:=Q57 (j:=0) (by omega) (by show g.vals.length+1≤1000000;omega) hS rfl) (h:=?_);rintro u1 w1 ⟨tv,rfl,hS⟩;refine zn ?_;have hG:GoS p c N fu ((msOf h g.nx fr inp out fu).ins m x) cx L (.tuple #[]) w1:=⟨c.lv,c.iv,c.ov,fr,g.nx.push tv [(h.get v n).1],N,h,inp,out,hX.trans ((Q1 hv).trans ((Q1 hnn).trans (Q9o hk4 e0))),hi,by omega,rfl,hS.sp⟩;refine Qz ?_;exact .inl ⟨_,rfl,hG⟩)
                                     · skip
                                       all_goals (refine zC [(0,none),(1,none),(2,none),(3,none),(4,none),(5,none),(6,none),(8,none),(9,none),(10,none),(16,some (some [3,6,10])),(7,some (some [3,10])),(11,some (some [3])),(12,some none),(13,none),(14,none),(15,none),(17,some (some [])),(18,some none)] ?_;have hS:=hS.drew;refine ZaW ?_;refine zf0 ?_;refine Zab ?_;refine zl hS ?_;refine Zaq ?_;refine zf0 ?_;refine Zab ?_;refine zl hS ?_;refine Zaq ?_;refine zf0 ?_;refine Zab ?_;refine zl hS ?_;refine ZaY ?_;intro p10 w1 hS;refine Zay ?_;refine zE2 (c:=Q3r (by omega) (show St cx _ (mL p c fr g.nx _) from hS.sp)) (p:=by rintro u9 w9 ⟨hv,rfl,hS⟩;(repeat (first|refine Q2 ?_|refine Q3 ?_|refine fun _=> ?_));refine Qc ?_;refine .inr ⟨_,rfl,?_⟩;exact .inl ⟨hX.trans (QK hv),rfl,hS.sp⟩) (h:=?_);rintro u1 w2 ⟨v,hv,rfl,hS⟩)
                                       all_goals (refine Zay ?_;refine zE2 (c:=Q6E (by omega) (show St cx _ (mL p c fr g.nx _) from hS.sp)) (p:=by rintro u9 w9 ⟨hnn,rfl,hS⟩;(repeat (first|refine Q2 ?_|refine Q3 ?_|refine fun _=> ?_));refine Qc ?_;refine .inr ⟨_,rfl,?_⟩;exact .inl ⟨hX.trans ((Q1 hv).trans (QK hnn)),rfl,hS.sp⟩) (h:=?_);rintro u1 w2 ⟨n,hnn,rfl,hS⟩;refine ZaC ?_;refine zR3 (c:=Q8r (N:=N) (s:=h) (h:=c.hp) v n hS fd) (h:=?_);rintro v1 w1 ⟨rfl,hS⟩;unfold Val.v Val.cells;refine Zaq ?_;refine ZbB ?_;refine Zaj ?_;refine zsn hS ?_;intro w1 hS;have hS:=hS.ns;refine ZaC ?_;refine Zbo ?_;refine zv hS ?_;refine zm ?_)
                                       all_goals (refine zE3 (c:=Q9m (x:=x) hx (by omega) (show St cx _ (mL p c fr g.nx _) from hS.sp)) (p:=by rintro u9 w9 ⟨he,hS⟩;(repeat (first|refine Q2 ?_|refine Q3 ?_|refine fun _=> ?_));refine Qc ?_;refine .inr ⟨_,rfl,?_⟩;rcases he with ⟨e0,rfl⟩|⟨⟨v3,hv3,hk4⟩,e0,rfl⟩;exact .inl ⟨hX.trans ((Q1 hv).trans ((Q1 hnn).trans (Q9l (e0 v hv)))),rfl,hS.sp⟩;obtain rfl:v=v3:=Option.some.inj (hv.symm.trans hv3);exact .inr ⟨2,hX.trans ((Q1 hv).trans ((Q1 hnn).trans (Q9n hk4 e0))),rfl,fr,g.nx,N,by omega,hS.sp⟩) (h:=?_);rintro u1 w1 ⟨⟨v3,hv3,hk4⟩,e0,rfl,hS⟩;obtain rfl:v=v3:=Option.some.inj (hv.symm.trans hv3))
                                       all_goals (refine ZaJ ?_;refine zv hS ?_;refine zB1 hS [_,_,_,_] ?_;intro b1 w1 hS;have hS:=St.slOf (T:=224) (es:=4) (css:=[(h.get v n).1].map Val.cells) hS rfl (by simp [Val.cells]) rfl;have hS:St cx _ (mL p c fr g.nx (sl 224 4 (.slice (some ⟨b1,0,none⟩) 1 1) ([(h.get v n).1].map Val.cells)::Q1P (N) c.hp (h)::sl 2 1 c.ov (Qw out)::blk p3 84 [.int .i64 x.op, .int .i64 x.a, .int .i64 x.b, .int .i64 x.c, .int .i64 x.k, .int .i64 x.n,vr,va]::L)):=hS.sp;refine zR2 (c:=Q57 (j:=0) (by omega) (by show g.vals.length+1≤1000000;omega) hS rfl) (h:=?_);rintro u1 w1 ⟨tv,rfl,hS⟩;refine zn ?_;have hG:GoS p c N fu ((msOf h g.nx fr inp out fu).ins m x) cx L (.tuple #[]) w1:=⟨c.lv,c.iv,c.ov,fr,g.nx.push tv [(h.get v n).1],N,h,inp,out,hX.trans ((Q1 hv).trans ((Q1 hnn).trans (Q9o hk4 e0))),hi,by omega,rfl,hS.sp⟩)
                                       all_goals (refine Qz ?_;exact .inl ⟨_,rfl,hG⟩))
                                  | (refine zcf ?_
                                     all_goals (refine Zaa ?_)
                                     all_goals (first|(refine Ql ?_)|(refine Qo ?_)|(refine Q8 rfl rfl (fun hc=> ?_) (fun hc=> ?_)))
                                     all_goals (refine Zad ?_)
                                     all_goals
                                      first
                                      | (refine zct ?_
                                         all_goals (refine QB ?_;have hX:=xins_10 (m:=m) (s:=msOf h g.nx fr inp out fu) (x:=x) (by omega);refine zC [(0,none),(1,none),(2,none),(3,none),(4,none),(5,none),(6,none),(8,none),(9,none),(10,none),(12,none),(13,none),(14,none),(7,some (some [3,10,14])),(11,some (some [3,14])),(15,some (some [3])),(16,some (some [3])),(17,some none),(18,some none)] ?_;have hS:=hS.drew;refine ZaW ?_;refine zf0 ?_;refine Zab ?_;refine zl hS ?_;refine Zaq ?_;refine zf0 ?_;refine Zab ?_;refine zl hS ?_;refine Zaq ?_;refine zf0 ?_;refine Zab ?_;refine zl hS ?_;refine Zaq ?_;refine zf0 ?_;refine Zab ?_;refine zl hS ?_)
                                         all_goals (refine Zaj ?_;refine zE2 (c:=Q3r (by omega) (show St cx _ (mL p c fr g.nx _) from hS.sp)) (p:=by rintro u9 w9 ⟨hv,rfl,hS⟩;(repeat (first|refine Q2 ?_|refine Q3 ?_|refine fun _=> ?_));refine Qc ?_;refine .inr ⟨_,rfl,?_⟩;exact .inl ⟨hX.trans (QK hv),rfl,hS.sp⟩) (h:=?_);rintro u1 w2 ⟨v,hv,rfl,hS⟩;refine Zay ?_;refine zE2 (c:=Q6E (by omega) (show St cx _ (mL p c fr g.nx _) from hS.sp)) (p:=by rintro u9 w9 ⟨hnn,rfl,hS⟩;(repeat (first|refine Q2 ?_|refine Q3 ?_|refine fun _=> ?_));refine Qc ?_;refine .inr ⟨_,rfl,?_⟩;exact .inl ⟨hX.trans ((Q1 hv).trans (QK hnn)),rfl,hS.sp⟩) (h:=?_);rintro u1 w2 ⟨n,hnn,rfl,hS⟩;refine Zay ?_;refine zE2 (c:=Q6E (by omega) (show St cx _ (mL p c fr g.nx _) from hS.sp)) (p:=by rintro u9 w9 ⟨hyy,rfl,hS⟩;(repeat (first|refine Q2 ?_|refine Q3 ?_|refine fun _=> ?_));refine Qc ?_;refine .inr ⟨_,rfl,?_⟩;exact .inl ⟨hX.trans ((Q1 hv).trans ((Q1 hnn).trans (QK hyy))),rfl,hS.sp⟩) (h:=?_);rintro u1 w2 ⟨y,hyy,rfl,hS⟩;refine Zay ?_;refine zR1 (c:=Q5T hS) (h:=?_);rintro v1 w1 ⟨rfl,hS⟩;refine ZaC ?_;refine zR4 (c:=hset_c (N:=N) (s:=h) (h:=c.hp) v n (intV y) hS fd) (h:=?_);rintro v1 w1 ⟨rfl,hS⟩;have hS:=hS.ns)
                                         all_goals (refine Zau ?_;refine Zbh ?_;refine Zae ?_;refine zv hS ?_;refine zm ?_)
                                         all_goals (refine zE3 (c:=Q9m (x:=x) hx (by omega) (show St cx _ (mL p c fr g.nx _) from hS.sp)) (p:=by rintro u9 w9 ⟨he,hS⟩;(repeat (first|refine Q2 ?_|refine Q3 ?_|refine fun _=> ?_));refine Qc ?_;refine .inr ⟨_,rfl,?_⟩;rcases he with ⟨e0,rfl⟩|⟨⟨v3,hv3,hk4⟩,e0,rfl⟩;exact .inl ⟨hX.trans ((Q1 hv).trans ((Q1 hnn).trans ((Q1 hyy).trans (Q9l (e0 v hv))))),rfl,hS.sp⟩;obtain rfl:v=v3:=Option.some.inj (hv.symm.trans hv3);rw [Q5M (by omega)] at hS;exact .inr ⟨2,hX.trans ((Q1 hv).trans ((Q1 hnn).trans ((Q1 hyy).trans (Q9n hk4 e0)))),rfl,fr,g.nx,N,by omega,hS.sp⟩) (h:=?_);rintro u1 w1 ⟨⟨v3,hv3,hk4⟩,e0,rfl,hS⟩;obtain rfl:v=v3:=Option.some.inj (hv.symm.trans hv3))
                                         all_goals (refine zn ?_)
                                         all_goals (have hG:GoS p c N fu ((msOf h g.nx fr inp out fu).ins m x) cx L (.tuple #[]) w1:=⟨c.lv,c.iv,c.ov,fr,g.nx,N,h.set v n (intV y),inp,out,hX.trans ((Q1 hv).trans ((Q1 hnn).trans ((Q1 hyy).trans (Q9o hk4 e0)))),hi,by omega,rfl,hS.sp⟩))
                                      | (refine zcf ?_
                                         all_goals (refine Zaa ?_)
                                         all_goals (first|(refine Ql ?_)|(refine Qo ?_)|(refine Q8 rfl rfl (fun hc=> ?_) (fun hc=> ?_)))
                                         all_goals (refine Zad ?_)
                                         all_goals
                                          first
                                          | (refine zct ?_
                                             all_goals (refine QB ?_;have hX:=xins_11 (m:=m) (s:=msOf h g.nx fr inp out fu) (x:=x) (by omega);refine zC [(0,none),(1,none),(2,none),(3,none),(4,none),(5,none),(6,none),(7,some (some [3])),(8,some none),(9,none),(10,none),(11,none),(12,none),(13,some none)] ?_;have hS:=hS.drew;refine ZaW ?_;refine zf0 ?_;refine Zab ?_;refine zl hS ?_;refine Zaq ?_;refine zf0 ?_;refine Zab ?_;refine zl hS ?_;refine Zaj ?_;refine zE2 (c:=Q3r (by omega) (show St cx _ (mL p c fr g.nx _) from hS.sp)) (p:=by rintro u9 w9 ⟨hv,rfl,hS⟩;(repeat (first|refine Q2 ?_|refine Q3 ?_|refine fun _=> ?_));refine Qc ?_;refine .inr ⟨_,rfl,?_⟩;exact .inl ⟨hX.trans (QK hv),rfl,hS.sp⟩) (h:=?_);rintro u1 w2 ⟨v,hv,rfl,hS⟩;refine ZaC ?_;refine zR2 (c:=hlen_c (N:=N) (s:=h) (h:=c.hp) v hS fd) (h:=?_);rintro v1 w1 ⟨rfl,hS⟩;refine ZbK ?_)
                                             all_goals (refine Zab ?_;refine Zbk ?_;refine Zbk ?_;refine zm ?_;refine Zau ?_;refine Zbo ?_;refine zv hS ?_;refine zm ?_)
                                             all_goals (refine zE3 (c:=Q9m (x:=x) hx (by omega) (show St cx _ (mL p c fr g.nx _) from hS.sp)) (p:=by rintro u9 w9 ⟨he,hS⟩;(repeat (first|refine Q2 ?_|refine Q3 ?_|refine fun _=> ?_));refine Qc ?_;refine .inr ⟨_,rfl,?_⟩;rcases he with ⟨e0,rfl⟩|⟨⟨v3,hv3,hk4⟩,e0,rfl⟩;exact .inl ⟨hX.trans ((Q1 hv).trans (Q9l (e0 v hv))),rfl,hS.sp⟩;obtain rfl:v=v3:=Option.some.inj (hv.symm.trans hv3);exact .inr ⟨2,hX.trans ((Q1 hv).trans (Q9n hk4 e0)),rfl,fr,g.nx,N,by omega,hS.sp⟩) (h:=?_);rintro u1 w1 ⟨⟨v3,hv3,hk4⟩,e0,rfl,hS⟩;obtain rfl:v=v3:=Option.some.inj (hv.symm.trans hv3))
                                             all_goals (refine ZaJ ?_;refine zm ?_;refine zR1 (c:=Q5T hS) (h:=?_);rintro v1 w1 ⟨rfl,hS⟩;unfold Val.v Val.cells;refine zB1 hS [_,_,_,_] ?_;intro b1 w1 hS;have hS:=St.slOf (T:=224) (es:=4) (css:=[intV (h.len v).1].map Val.cells) hS rfl (by simp [Val.cells]) rfl;have hS:St cx _ (mL p c fr g.nx (sl 224 4 (.slice (some ⟨b1,0,none⟩) 1 1) ([intV (h.len v).1].map Val.cells)::Q1P (N) c.hp (h)::sl 2 1 c.ov (Qw out)::blk p3 84 [.int .i64 x.op, .int .i64 x.a, .int .i64 x.b, .int .i64 x.c, .int .i64 x.k, .int .i64 x.n,vr,va]::L)):=hS.sp;refine zR2 (c:=Q57 (j:=0) (by omega) (by show g.vals.length+1≤1000000;omega) hS rfl) (h:=?_);rintro u1 w1 ⟨tv,rfl,hS⟩;refine zn ?_)
                                             all_goals (have hG:GoS p c N fu ((msOf h g.nx fr inp out fu).ins m x) cx L (.tuple #[]) w1:=⟨c.lv,c.iv,c.ov,fr,g.nx.push tv [intV (h.len v).1],N,h,inp,out,hX.trans ((Q1 hv).trans (Q9o hk4 e0)),hi,by omega,rfl,hS.sp⟩))
                                          | (refine zcf ?_
                                             all_goals (refine Zaa ?_)
                                             all_goals (first|(refine Ql ?_)|(refine Qo ?_)|(refine Q8 rfl rfl (fun hc=> ?_) (fun hc=> ?_)))
                                             all_goals (refine Zad ?_)
                                             all_goals
                                              first
                                              | (refine zct ?_
                                                 all_goals (refine QB ?_;have hX:=xins_12 (m:=m) (s:=msOf h g.nx fr inp out fu) (x:=x) (by omega);obtain ⟨av,nv,hiv⟩:=Rep.SR.shape hi;refine Zbt ?_;refine zf0 ?_;refine zl hS ?_;refine Qf6 vw hi ?_)
                                                 all_goals (first|(refine Ql ?_)|(refine Qo ?_)|(refine Q8 rfl rfl (fun hc=> ?_) (fun hc=> ?_)))
                                                 all_goals (first|(refine zR2 (c:=Q4G hS) (h:=?_);rintro v1 w1 ⟨rfl,hS⟩)|(refine zE2 (c:=Q4F hS) (p:=by rintro v9 w9 ⟨rfl,hS⟩;(repeat (first|refine Q2 ?_|refine Q3 ?_|refine fun _=> ?_));refine Qc ?_;refine .inr ⟨_,rfl,?_⟩;first|(first|exact .inr ⟨8,hX.trans ((Q1 hnn).trans (out_0 (by show out.length=2000;omega))),rfl,fr,g.nx,N,by omega,hS.sp⟩|exact .inr ⟨4,hX.trans (in_0 (List.length_eq_zero_iff.1 (by show inp.length=0;omega))),rfl,fr,g.nx,N,by omega,hS.sp⟩)) (h:=fun _ _ h=> h.elim)))
                                                 all_goals (refine Zal ?_;obtain ⟨n0,r0,hir⟩:∃n0 r0,inp=n0::r0:=List.exists_cons_of_length_pos (by omega);refine Zae ?_;refine ZaA ?_;refine zf0 ?_;refine zl hS ?_)
                                                 all_goals (refine Q6u (m:=0) vw rfl hi rfl (by omega) ?_;intro b8 o8 cs8 x8 hat8 hx8 he8;rw [hir,List.getElem?_cons_zero] at hx8;cases hx8;obtain rfl:=QY he8)
                                                 all_goals (refine Yat ?_;refine zR1 (c:=Q5T hS) (h:=?_);rintro v1 w1 ⟨rfl,hS⟩;unfold Val.v Val.cells;refine zB1 hS [_,_,_,_] ?_;intro b1 w1 hS;have hS:=St.slOf (T:=224) (es:=4) (css:=[intV n0].map Val.cells) hS rfl (by simp [Val.cells]) rfl;have hS:St cx _ (mL p c fr g.nx (sl 224 4 (.slice (some ⟨b1,0,none⟩) 1 1) ([intV n0].map Val.cells)::Q1P (N) c.hp (h)::sl 2 1 c.ov (Qw out)::blk p3 84 [.int .i64 x.op, .int .i64 x.a, .int .i64 x.b, .int .i64 x.c, .int .i64 x.k, .int .i64 x.n,vr,va]::L)):=hS.sp;refine zR2 (c:=Q57 (j:=0) (by omega) (by show g.vals.length+1≤1000000;omega) hS rfl) (h:=?_);rintro u1 w1 ⟨tv,rfl,hS⟩;refine ZaJ ?_;refine ZaA ?_;refine zf0 ?_;refine zl hS ?_;refine QeY (l':=1) (h':=inp.length) vw hi rfl rfl rfl ⟨_,rfl⟩ (by omega) (by omega) ?_;intro v7 hk7;have hk7:intR.sl cx v7 r0:=(by rw [hir] at hk7;simpa using hk7);obtain ⟨a7,n7,rfl⟩:=Rep.SR.shape hk7;refine znc ?_;refine zf0 ?_;refine zst hS ?_;intro w1 hS;have hS:=hS.ns)
                                                 all_goals (refine zn ?_)
                                                 all_goals (have hG:GoS p c N fu ((msOf h g.nx fr inp out fu).ins m x) cx L (.tuple #[]) w1:=⟨c.lv,_,c.ov,fr,g.nx.push tv [intV n0],N,h,r0,out,hX.trans (in_s hir),hk7,by omega,rfl,hS.sp⟩))
                                              | (refine zcf ?_
                                                 all_goals (refine Zaa ?_)
                                                 all_goals (first|(refine Ql ?_)|(refine Qo ?_)|(refine Q8 rfl rfl (fun hc=> ?_) (fun hc=> ?_)))
                                                 all_goals (refine Zad ?_)
                                                 all_goals
                                                  first
                                                  | (refine zct ?_
                                                     all_goals (refine QB ?_;have hX:=xins_13 (m:=m) (s:=msOf h g.nx fr inp out fu) (x:=x) (by omega);refine Zae ?_;refine zf0 ?_;refine zl hS ?_;refine zE2 (c:=Q6E (by omega) (show St cx _ (mL p c fr g.nx _) from hS.sp)) (p:=by rintro u9 w9 ⟨hnn,rfl,hS⟩;(repeat (first|refine Q2 ?_|refine Q3 ?_|refine fun _=> ?_));refine Qc ?_;refine .inr ⟨_,rfl,?_⟩;exact .inl ⟨hX.trans (QK hnn),rfl,hS.sp⟩) (h:=?_);rintro u1 w2 ⟨n,hnn,rfl,hS⟩;refine ZaL ?_;refine znc ?_;refine zf0 ?_;refine Yad ?_;refine zl hS ?_;refine QQ (n:=out.length) hS vw fd (List.length_map _) ?_)
                                                     all_goals (first|(refine Ql ?_)|(refine Qo ?_)|(refine Q8 rfl rfl (fun hc=> ?_) (fun hc=> ?_)))
                                                     all_goals (first|(refine zR2 (c:=Q4G hS) (h:=?_);rintro v1 w1 ⟨rfl,hS⟩)|(refine zE2 (c:=Q4F hS) (p:=by rintro v9 w9 ⟨rfl,hS⟩;(repeat (first|refine Q2 ?_|refine Q3 ?_|refine fun _=> ?_));refine Qc ?_;refine .inr ⟨_,rfl,?_⟩;first|(exact .inr ⟨8,hX.trans ((Q1 hnn).trans (out_0 (by show out.length=2000;omega))),rfl,fr,g.nx,N,by omega,hS.sp⟩)) (h:=fun _ _ h=> h.elim)))
                                                     all_goals (refine ZaJ ?_;refine ZaA ?_;refine zf0 ?_;refine Yad ?_;refine zl hS ?_;refine zm ?_;refine zB1 hS [_] ?_;intro b1 w1 hS;refine Q1T Q4e (.inl Q8U) hS vw vw (v:=c.ov) (css:=Qw out) fd (hS.srcB fd (by rfl) (by simp [oneC])) (by rw [List.length_map];simp only [List.length_cons,List.length_nil];omega) ?_;intro v7 w7 hS;have hS:=hS.ns;have ho7:=hS.oneC (v:=v7) (css:=Qw out++[[.int .i64 n]]) fd;rw [Qee] at hS;refine znc ?_;refine zf0 ?_;refine Yad ?_;refine zst hS ?_;intro w1 hS;have hS:=hS.ns;refine zn ?_)
                                                     all_goals (have hG:GoS p c N fu ((msOf h g.nx fr inp out fu).ins m x) cx L (.tuple #[]) w1:=⟨c.lv,c.iv,v7,fr,g.nx,N,h,inp,out++[n],hX.trans ((Q1 hnn).trans (out_s (by show out.length≠2000;omega))),hi,by omega,rfl,hS.sp⟩))
                                                  | (refine zcf ?_
                                                     all_goals (refine Zaa ?_)
                                                     all_goals (refine Ql ?_)
                                                     all_goals (refine Zad ?_)
                                                     all_goals
                                                      first
                                                      | (refine zct ?_
                                                         all_goals (have hX:=xins_14 (m:=m) (s:=msOf h g.nx fr inp out fu) (x:=x) (by omega);rw [hX];obtain ⟨hk0,hk1⟩:=hk (by omega);refine Zae ?_;refine zv hS ?_;refine zE2 (c:=call_c (inp:=inp) (fu:=fu) (x:=x) hx hfn hi hk0 hk1 h6 h8 (by omega) hS) (p:=by rintro u9 w9 hB;(repeat (first|refine Q2 ?_|refine Q3 ?_|refine fun _=> ?_));refine Qc ?_;refine .inr ⟨_,rfl,?_⟩;exact hB.drop) (h:=?_);rintro u1 w1 hG;refine zn ?_)
                                                         all_goals (have hG:=hG.drop;obtain ⟨rfl,hG⟩:=hG.tup))))))
                                     all_goals (refine Qz ?_;exact .inl ⟨_,rfl,hG⟩))))))))))
end Go.Proofs.YteflkifmgnpbhaaGreat
namespace Go.Proofs.YteflkifmgnpbhaaGreat
open Go.Lir
set_option maxHeartbeats 1000000
attribute [local irreducible] LC.wp Q0 Qk Qh retQ Qt LO.wp Q4 Calls
set_option linter.unusedSimpArgs false
set_option linter.unusedVariables false
variable {cx:Cx}{w:World}{L:List Res}
theorem Qfz (f:Nat) (hf:f≤1000000) (hS:St cx w L):Rets Tryz.prog QcQ [.int .i64 f] w fun u w'=> u= .int .i64 (Q3j f)∧St cx w' L:=by
 unfold Q3j
 all_goals refine lgo tyD Tryz.func104 ?_
 all_goals (refine ZbA ?_;refine zmu ?_;refine zad ?_;refine Zap ?_;refine ⟨_,rfl,?_,hS.sp⟩;(rfl);done)
theorem Qe4 (f b:Nat) (hf:f≤1000000) (hb:b≤1000000) (hS:St cx w L):Rets Tryz.prog QbI [.int .i64 f, .int .i64 b] w fun u w'=> u= .int .i64 (Q3A f b)∧St cx w' L:=by
 unfold Q3A
 all_goals refine lgo tyD Tryz.func161 ?_
 all_goals (refine ZbA ?_;refine zmu ?_;refine zm ?_;refine zmu ?_;refine zad ?_;refine zad ?_;refine Zap ?_;refine ⟨_,rfl,?_,hS.sp⟩;(rfl);done)
theorem Qa5 (f b:Nat) (hf:f≤1000000) (hb:b≤1000000) (hS:St cx w L):Rets Tryz.prog Qer [.int .i64 f, .int .i64 b] w fun u w'=> u= .int .i64 (Q74 f b)∧St cx w' L:=by
 unfold Q74
 all_goals refine lgo tyD Tryz.func116 ?_
 all_goals (refine ZbA ?_;refine zmu ?_;refine zm ?_;refine zmu ?_;refine zad ?_;refine zad ?_;refine Zap ?_;refine ⟨_,rfl,?_,hS.sp⟩;(rfl);done)
theorem Qa4 (f b i:Nat) (hf:f≤1000000) (hb:b≤1000000) (hi:i≤1000000) (hS:St cx w L):Rets Tryz.prog Qeq [.int .i64 f, .int .i64 b, .int .i64 i] w fun u w'=> u= .int .i64 (Q7r f b i)∧St cx w' L:=by
 unfold Q7r
 all_goals refine lgo tyD Tryz.func115 ?_
 all_goals (refine ZbA ?_;refine zmu ?_;refine zm ?_;refine zmu ?_;refine zad ?_;refine zm ?_;refine zad ?_;refine Zap ?_;refine ⟨_,rfl,?_,hS.sp⟩;(rfl);done)
end Go.Proofs.YteflkifmgnpbhaaGreat
namespace Go.Lir
theorem place_i {m:Module}{s:MS}{f:Fun}{b:Block}(hf:m.funcs[s.g.f]?=some f) (hb:f.blocks[s.g.b]?=some b) (h:s.g.i < b.code.length):s.place m=Q7r s.g.f s.g.b s.g.i:=by
 unfold MS.place;simp only [hf,hb];exact if_pos h
theorem place_e {m:Module}{s:MS}{f:Fun}{b:Block}(hf:m.funcs[s.g.f]?=some f) (hb:f.blocks[s.g.b]?=some b) (h:¬s.g.i < b.code.length):s.place m=Q74 s.g.f s.g.b:=by
 unfold MS.place;simp only [hf,hb];exact if_neg h
theorem one_i {m:Module}{s:MS}{f:Fun}{b:Block}{x:Ins}(hf:m.funcs[s.g.f]?=some f) (hb:f.blocks[s.g.b]?=some b) (h:b.code[s.g.i]?=some x):s.one m=s.next.ins m x:=by
 unfold MS.one;simp only [hf,hb,h]
theorem one_e {m:Module}{s:MS}{f:Fun}{b:Block}(hf:m.funcs[s.g.f]?=some f) (hb:f.blocks[s.g.b]?=some b) (h:b.code.length≤s.g.i):s.one m=s.fin f b.fin:=by
 unfold MS.one;simp only [hf,hb,List.getElem?_eq_none h]
end Go.Lir
namespace Go.Proofs.YteflkifmgnpbhaaGreat
open Go.Lir
set_option maxHeartbeats 1000000
attribute [local irreducible] LC.wp Q0 Qk Qh retQ Qt LO.wp Q4 Calls
set_option linter.unusedSimpArgs false
set_option linter.unusedVariables false
variable {cx:Cx}{w:World}{L:List Res}{p N:Nat}{c:MC}{fr:List FrmV}{g:FrmV}{h:HpS}{out inp:List Int}{fu:Nat}{m:Module}
@[reducible] def MC.tick (c:MC):MC:=⟨c.hp,c.fn,c.lv,c.iv,c.e,c.bv,c.ov,c.fu+1,c.mo,c.dn,c.c,c.a⟩
def QcV (m:Module) (x:Ins):Prop:=(1≤x.op∧x.op≤14)∧(x.op=14→0≤x.k∧x.k < m.funcs.length)∧x.regs.length≤100∧x.args.length≤100
def Qex (f:Fun) (e:Tail):Prop:=e.args.length≤100∧(1≤e.op∧e.op≤3)∧(e.op≠3→ToOK f e.yes)∧(e.op=2→ToOK f e.no)
attribute [local irreducible] Frm.val Frm.num Frm.args Frm.rgs Frm.reg MS.place Q7r Q74
theorem place_c {f:Fun}{b:Block}(hfn:funcR.sl cx c.fn m.funcs) (hfx:m.funcs[g.f]?=some f) (hbx:f.blocks[g.b]?=some b) (hf:fr.length≤900) (k1:g.f≤1000000) (k2:g.b≤1000000) (k3:g.i≤1000000) (hS:St cx w (mS p c fr g N h out L)):
 Rets Tryz.prog Q5D [.pointer (some ⟨p,0,none⟩)] w fun u w'=> u= .int .i64 ((msOf h g fr inp out fu).place m)∧St cx w' (mS p c fr g N h out L):=by
 have hgf:=(List.getElem?_eq_some_iff.1 hfx).1
 have hgb:=(List.getElem?_eq_some_iff.1 hbx).1
 all_goals refine lgo tyD Tryz.func69 ?_
 all_goals (refine ZbA ?_;refine zR1 (c:=Q4j (by omega) hS) (h:=?_);rintro v1 w1 ⟨b9,o9,rfl,hel,hS⟩;refine ZbC ?_;refine zD (ci 25 [24]) ?_;have hS:=hS.drew;refine Zbd ?_;refine Q6 (j:=2) hS hel rfl fd (Qf fr g) (Qi fr g) rfl ?_;refine ZaA ?_;refine zf0 ?_;refine Yad ?_;refine zl hS ?_;refine Zbd ?_;refine Qy hS hel rfl fd (Qf fr g) (Qi fr g) rfl ?_;refine zi ?_;intro b8 o8 cs8 x8 hat8 hx8 he8;obtain rfl:x8=f:=Option.some.inj (hx8.symm.trans hfx);obtain ⟨vp8,vr8,vb8,rfl,hp8,hr8,hb8⟩:=QG he8;refine Yad ?_;refine Yaq ?_)
 all_goals (refine Zbd ?_;refine Q6 (j:=1) hS hel rfl fd (Qf fr g) (Qi fr g) rfl ?_;refine zi ?_;intro b7 o7 cs7 x7 hat7 hx7 he7;obtain rfl:x7=b:=Option.some.inj (hx7.symm.trans hbx);obtain ⟨vp7,vc7,u1,u2,u3,u4,u5,rfl,hp7,hc7,hu1,hu2,hu3,hu4,hu5⟩:=Q1S he7;refine Yad ?_;refine Yaq ?_;refine zL ?_)
 all_goals (first|(refine Q15 ?_)|(refine Q1c ?_)|(refine Qu rfl rfl (fun hc=> ?_) (fun hc=> ?_)))
 all_goals (refine zn ?_)
 all_goals
  first
  | (refine zct ?_
     all_goals (refine QB ?_;have hX:=place_i (m:=m) (s:=msOf h g fr inp out fu) hfx hbx (by show g.i < x7.code.length;omega);refine zD (ci 14 [12,13]) ?_;have hS:=hS.drew;refine Zbd ?_;refine Qy hS hel rfl fd (Qf fr g) (Qi fr g) rfl ?_;refine Zbd ?_;refine Q6 (j:=1) hS hel rfl fd (Qf fr g) (Qi fr g) rfl ?_;refine Zbd ?_;refine Q6 (j:=2) hS hel rfl fd (Qf fr g) (Qi fr g) rfl ?_;refine zR3 (c:=Qa4 g.f g.b g.i k1 k2 k3 hS) (h:=?_);rintro v1 w1 ⟨rfl,hS⟩;refine Zap ?_)
     all_goals (refine ⟨_,rfl,?_,hS.sp⟩;rw [hX];rfl;done))
  | (refine zcf ?_
     all_goals refine zsk ?_)
 all_goals (refine QB ?_;have hX:=place_e (m:=m) (s:=msOf h g fr inp out fu) hfx hbx (by show¬g.i < x7.code.length;omega);refine zD (ci 10 [8,9]) ?_;have hS:=hS.drew;refine Zbd ?_;refine Qy hS hel rfl fd (Qf fr g) (Qi fr g) rfl ?_;refine Zbd ?_;refine Q6 (j:=1) hS hel rfl fd (Qf fr g) (Qi fr g) rfl ?_;refine zR2 (c:=Qa5 g.f g.b k1 k2 hS) (h:=?_);rintro v1 w1 ⟨rfl,hS⟩;refine Zap ?_;refine ⟨_,rfl,?_,hS.sp⟩;rw [hX];rfl;done)
attribute [local irreducible] MS.ins MS.fin MS.one GoS BadS DoneS OkS
theorem one_c {f:Fun}{b:Block}(hfn:funcR.sl cx c.fn m.funcs) (hi:intR.sl cx c.iv inp) (hfx:m.funcs[g.f]?=some f) (hbx:f.blocks[g.b]?=some b) (hci:∀x∈b.code,QcV m x) (hce:Qex f b.fin) (hgi:g.i≤1000) (hf:fr.length≤900) (hn:g.vals.length≤800000) (hrn:g.regs.length≤800000) (hfr:∀x∈fr,x.vals.length≤900000) (hN:N≤99999) (hol:out.length≤2000) (hfu:0≤c.fu∧c.fu≤10000000) (hS:St cx w (mS p c fr g N h out L)):
 Fins Tryz.prog Q6U [.pointer (some ⟨p,0,none⟩)] w (fun u w'=> c.fu≠c.mo∧OkS p c.tick N h out fu ((msOf h g fr inp out fu).one m) cx L u w')
  (fun u w'=> (c.fu=c.mo∧u=QbZ 7∧St cx w' (mS p c fr g N h out L))∨(c.fu≠c.mo∧BadS p c.tick N h out ((msOf h g fr inp out fu).one m) cx L u w')):=by
 have hgf:=(List.getElem?_eq_some_iff.1 hfx).1
 have hgb:=(List.getElem?_eq_some_iff.1 hbx).1
 unfold Fins
 all_goals refine lgo tyD Tryz.func71 ?_
 all_goals (refine QB ?_;refine zD (ci 11 [10]) ?_;have hS:=hS.drew;refine ZaA ?_;refine zf0 ?_;refine Yad ?_;refine zl hS ?_;refine ZaA ?_;refine zf0 ?_;refine zl hS ?_)
 all_goals (first|(refine Ql ?_)|(refine Qo ?_)|(refine Q8 rfl rfl (fun hc=> ?_) (fun hc=> ?_)))
 all_goals (first|(refine zR2 (c:=Q4G hS) (h:=?_);rintro v1 w1 ⟨rfl,hS⟩)|(refine zE2 (c:=Q4F hS) (p:=by rintro v9 w9 ⟨rfl,hS⟩;(repeat (first|refine Q2 ?_|refine Q3 ?_|refine fun _=> ?_));refine Qc ?_;refine .inr ⟨_,rfl,?_⟩;first|(exact .inl ⟨by omega,rfl,hS.sp⟩)) (h:=fun _ _ h=> h.elim)))
 all_goals (refine Zal ?_;have hmo:c.fu≠c.mo:=(by omega);refine Zbt ?_;refine zf0 ?_;refine Yad ?_;refine zl hS ?_;refine zad ?_;refine znc ?_;refine zf0 ?_;refine Yad ?_;refine zst hS ?_;intro w1 hS;have hS:=hS.ns;refine Zaz ?_;have hS:St cx _ (mS p c.tick fr g N h out L):=hS.sp;refine zR1 (c:=Q4j (by omega) hS) (h:=?_);rintro v1 w1 ⟨b9,o9,rfl,hel,hS⟩;refine ZaF ?_;refine zC [(0,none),(1,none),(2,none),(3,none),(4,none),(5,none),(6,none),(7,none),(8,none),(9,none),(10,none),(11,none),(12,none),(13,none),(14,none),(15,none),(16,none),(17,none),(18,some (some [4,8,11,15,17])),(19,some none)] ?_;have hS:=hS.drew;refine ZaW ?_;refine zf0 ?_;refine Zab ?_;refine Yad ?_)
 all_goals (refine Zab ?_;refine zl hS ?_;refine Zaq ?_;refine Zbw ?_;refine Qy hS hel rfl fd (Qf fr g) (Qi fr g) rfl ?_;refine Zab ?_;refine zi ?_;intro b8 o8 cs8 x8 hat8 hx8 he8;obtain rfl:x8=f:=Option.some.inj (hx8.symm.trans hfx);obtain ⟨vp8,vr8,vb8,rfl,hp8,hr8,hb8⟩:=QG he8;refine Zbb ?_;refine Yaq ?_;refine Zaq ?_;refine Zbw ?_;refine Q6 (j:=1) hS hel rfl fd (Qf fr g) (Qi fr g) rfl ?_;refine Zab ?_;refine zi ?_;intro b7 o7 cs7 x7 hat7 hx7 he7;obtain rfl:x7=b:=Option.some.inj (hx7.symm.trans hbx);obtain ⟨vp7,vc7,u1,u2,u3,u4,u5,rfl,hp7,hc7,hu1,hu2,hu3,hu4,hu5⟩:=Q1S he7;refine Zab ?_;refine Yai ?_;refine zt ?_)
 all_goals (refine Q4g ?_;refine Qg hS ?_;intro p3 w1 hS;refine zt ?_;refine ⟨List.forall_mem_cons.2 ⟨(by first|(first|exact Qm hS hel rfl fd (Qf fr g) (Qi fr g) rfl|exact Qm (j:=0) hS hel rfl fd (Qf fr g) (Qi fr g) rfl|exact Qm (j:=1) hS hel rfl fd (Qf fr g) (Qi fr g) rfl|exact Qm (j:=2) hS hel rfl fd (Qf fr g) (Qi fr g) rfl)|(exact QL hS rfl fd rfl)),List.forall_mem_cons.2 ⟨(by (exact Qm hS hel rfl fd (Qf fr g) (Qi fr g) rfl)),List.forall_mem_cons.2 ⟨(by first|(first|exact Qm hS hel rfl fd (Qf fr g) (Qi fr g) rfl|exact Qm (j:=0) hS hel rfl fd (Qf fr g) (Qi fr g) rfl|exact Qm (j:=1) hS hel rfl fd (Qf fr g) (Qi fr g) rfl|exact Qm (j:=2) hS hel rfl fd (Qf fr g) (Qi fr g) rfl)|(exact QL hS rfl fd rfl)|(exact Q4H hS (by assumption) rfl rfl)|(exact Q4W hS (by assumption) rfl rfl)),List.forall_mem_cons.2 ⟨(by (exact Qm hS hel rfl fd (Qf fr g) (Qi fr g) rfl)),List.forall_mem_cons.2 ⟨(by first|(first|exact Qm hS hel rfl fd (Qf fr g) (Qi fr g) rfl|exact Qm (j:=0) hS hel rfl fd (Qf fr g) (Qi fr g) rfl|exact Qm (j:=1) hS hel rfl fd (Qf fr g) (Qi fr g) rfl|exact Qm (j:=2) hS hel rfl fd (Qf fr g) (Qi fr g) rfl)|(exact Q1V hS rfl fd rfl rfl)|(exact Q2D hS (by assumption) rfl rfl rfl)),fun _ h=> (List.not_mem_nil h).elim⟩⟩⟩⟩⟩,?_⟩)
 all_goals (refine s_cf ?_;refine zsn hS ?_;intro w1 hS;have hS:=hS.ns;refine Zao ?_;refine QB ?_;refine zD (ci 8 [7]) ?_;have hS:=hS.drew;refine Zbd ?_;refine Q6 (j:=2) hS hel rfl fd (Qf fr g) (Qi fr g) rfl ?_;refine zf0 ?_;refine zl hS ?_;refine zL ?_)
 all_goals (first|(refine Q15 ?_)|(refine Q1c ?_)|(refine Qu rfl rfl (fun hc=> ?_) (fun hc=> ?_)))
 all_goals (refine zn ?_)
 all_goals
  first
  | (refine zct ?_
     all_goals (refine zD (ci 10 [9]) ?_;have hS:=hS.drew;refine zm ?_;refine zf0 ?_;refine zl hS ?_;refine Zbd ?_;refine Q6 (j:=2) hS hel rfl fd (Qf fr g) (Qi fr g) rfl ?_;refine zi ?_;intro b6 o6 cs6 x6 hat6 hx6 he6;obtain ⟨vr6,va6,rfl,hr6,ha6⟩:=QZ he6;have hX:=one_i (m:=m) (s:=msOf h g fr inp out fu) hfx hbx hx6;obtain ⟨q1,q2,q3,q4⟩:=hci _ (List.mem_of_getElem? hx6);refine Yai ?_;refine zE2 (c:=mins_c (c:=c.tick) (fu:=fu) (inp:=inp) he6 hfn hi q1 q2 q3 q4 hgi hf hn hrn hN hol (show St cx _ (mS p c.tick fr g N h out _) from hS.sp)) (p:=by rintro u9 w9 hB;(repeat (first|refine Q2 ?_|refine Q3 ?_|refine fun _=> ?_));refine Qc ?_;refine .inr ⟨_,rfl,?_⟩;exact .inr ⟨hmo,hX ▸ hB.drop⟩) (h:=?_);rintro u7 w7 hG;refine zn ?_)
     all_goals (have hG:OkS p c.tick N h out fu ((msOf h g fr inp out fu).one m) cx L u7 w7:=hX ▸ hG.drop.ok;obtain ⟨rfl,hG⟩:=hG.tup))
  | (refine zcf ?_
     all_goals (have hX:=one_e (m:=m) (s:=msOf h g fr inp out fu) hfx hbx (by show x7.code.length≤g.i;omega);obtain ⟨q1,q2,q3,q4⟩:=hce;refine Zae ?_;refine zf0 ?_;refine zv hS ?_;refine zE2 (c:=mend_c (c:=c.tick) (fu:=fu) (inp:=inp) (e:=x7.fin) ⟨_,_,_,_,_,rfl,hu1,hu2,hu3,hu4,hu5⟩ hfn hi hfx q1 q2 q3 q4 hf hfr (show St cx _ (mS p c.tick fr g N h out _) from hS.sp)) (p:=by rintro u9 w9 hB;(repeat (first|refine Q2 ?_|refine Q3 ?_|refine fun _=> ?_));refine Qc ?_;refine .inr ⟨_,rfl,?_⟩;exact .inr ⟨hmo,hX ▸ hB.drop⟩) (h:=?_);rintro u7 w7 hG;refine zn ?_)
     all_goals (have hG:OkS p c.tick N h out fu ((msOf h g fr inp out fu).one m) cx L u7 w7:=hX ▸ hG.drop;obtain ⟨rfl,hG⟩:=hG.tup))
 all_goals (refine Qz ?_;exact .inl ⟨_,rfl,hmo,hG⟩)
end Go.Proofs.YteflkifmgnpbhaaGreat
namespace Go.Proofs.YteflkifmgnpbhaaGreat
open Go.Lir
set_option maxHeartbeats 1000000
attribute [local irreducible] LC.wp Q0 Qk Qh retQ Qt LO.wp Q4 Calls
set_option linter.unusedSimpArgs false
set_option linter.unusedVariables false
attribute [local irreducible] orF mkF orC Q1k QC Q1K Q1I QM Q2y Q3h Q3j Q3A Q74 Q7r
variable {cx:Cx}{w:World}{L:List Res}{i:Nat}
theorem fault_if (c:Int):(if decide (c≠0)=true then c else 0)=c:=by by_cases h:c=0 <;> simp [h]
theorem pins_c {x:Ins}{m:Module}{cs ds:List Value}(hm:modR.at cx cs m) (hx:insR.at cx ds x) (hS:St cx w L):Rets Tryz.prog code_Ins [.agg ⟨cs⟩, .agg ⟨ds⟩] w fun u w'=> u= .int .i64 (QC m.funcs.length x)∧St cx w' L:=by
 obtain ⟨vf,rfl,hf⟩:=Q1e hm
 obtain ⟨a0,n0,rfl⟩:=Rep.SR.shape hf
 have hx':=hx
 obtain ⟨vr,va,rfl,hr,ha⟩:=QZ hx
 all_goals refine lgo tyD Tryz.func204 ?_
 all_goals (refine Zat ?_;intro p2 w1 hS;refine zb hS ?_;intro p3 w1 hS;refine Zad ?_;refine Zaa ?_;refine zv hS ?_;refine zb1 [_,_,_,_] ?_;refine zb hS ?_;intro p8 w1 hS;refine ZaL ?_;refine zv hS ?_;refine zR2 (c:=ins_c (g:=(0,0)) (at':=0) hx' hf hS nth0) (h:=?_);rintro v1 w1 ⟨rfl,hS⟩;simp only [List.set_cons_zero] at hS;rw [Qe6 (Q90 _ _)] at hS;simp only [jdg,Q3Z] at hS;refine ZbD ?_;refine zf0 ?_;refine Yad ?_;refine zl hS ?_;refine Zap ?_;refine ⟨_,rfl,?_,hS.sp⟩;(rfl);done)
theorem pend_c {x:Fun}{e:Tail}{cs ds:List Value}(hx:funcR.at cx cs x) (he:endR.at cx ds e) (hS:St cx w L):Rets Tryz.prog code_End [.agg ⟨cs⟩, .agg ⟨ds⟩] w fun u w'=> u= .int .i64 (Q1I x.blocks.length e)∧St cx w' L:=by
 have hx':=hx
 have he':=he
 obtain ⟨vp,vr,vb,rfl,hp,hr,hb⟩:=QG hx
 obtain ⟨v1,v2,v3,v4,v5,rfl,h1,h2,h3,h4,h5⟩:=Q22 he
 all_goals refine lgo tyD Tryz.func208 ?_
 all_goals (refine Zat ?_;intro p2 w1 hS;refine zb hS ?_;intro p3 w1 hS;refine Zad ?_;refine Zaa ?_;refine zb0 [_,_,_,_] ?_;refine zb hS ?_;intro p7 w1 hS;refine ZaL ?_;refine zv hS ?_;refine zv hS ?_;refine zR3 (c:=end_c (g:=(0,0)) (at':=0) hx' he' hS fd) (h:=?_);rintro v1 w1 ⟨rfl,hS⟩;have hS:=hS.ns;rw [Qe6 (Q90 _ _)] at hS;simp only [jdg,Q3Z] at hS;refine ZbD ?_;refine zf0 ?_;refine Yad ?_;refine zl hS ?_;refine Zap ?_;refine ⟨_,rfl,?_,hS.sp⟩;(rfl);done)
theorem Qcj {l:List Ty}{regs:Int}{v vf:Value}{g:Flt}{at':Int}{b:Nat}(hl:tyR.sl cx v l) (hS:St cx w L) (hi:nth L i=some (jdg b vf g at')):
 Rets Tryz.prog Q8L [.pointer (some ⟨b,0,none⟩),v, .int .i64 regs] w fun u w'=> u= .tuple #[]∧St cx w' (L.set i (jdg b vf (orF g (mkF (QM l regs) at')) at')):=by
 have hS:=hS.out hi
 have hlen:=hl.len
 have e0:orF g (mkF (QM l regs) at')=orF g (mkF (orC (if 8 < l.length then 2 else 0) (Q3M regs l)) at'):=by
  congr 2
  unfold QM
  split
  · rw [Q6B (by decide)]
  · rw [Q5w]
 rw [e0]
 all_goals refine lgo tyD Tryz.func105 ?_
 refine zM [0,1,2] (fun A ρ' w'=> Has ρ' A∧Has ρ' []∧St cx w' (jdg b vf (orF g (mkF (if 8 < l.length then 2 else 0) at')) at'::L.eraseIdx i)) ?_ ?_
 · skip
   all_goals (refine Zae ?_;refine zm ?_;refine zL ?_)
   all_goals (first|(refine Q17 ?_)|(refine Q1a ?_)|(refine Qs rfl rfl (fun hc=> ?_) (fun hc=> ?_)))
   all_goals (refine zR3 (c:=Q26 (by intro _;decide) hS fd) (h:=?_);rintro v1 w1 ⟨rfl,hS⟩;simp only [List.set_cons_zero,List.set_cons_succ,if_true,Bool.false_eq_true,if_false] at hS;refine zn ?_;exact ⟨zh,zh,by first|(rw [if_pos (by omega)];exact hS.sp)|(rw [if_neg (by omega)];exact hS.sp)⟩)
 rintro ρ w1 ⟨hA,hρ,hS⟩;obtain ⟨ρ,rfl⟩:=env2 hA hρ
 all_goals (refine Zac ?_;refine zL ?_;refine ZaB ?_)
 refine zo [0,2,14,15] (fun A ρ' w'=>∃(j:Nat) (h:Flt),Has ρ' A∧Has ρ' [(16, .int .i64 j)]∧(j≤l.length)∧(orF g (mkF (orC (if 8 < l.length then 2 else 0) (Q3M regs l)) at')=orF h (mkF (Q3M regs (l.drop j)) at'))∧St cx w' (jdg b vf h at'::L.eraseIdx i)) (fun ρ' _=> (l.length - iv (ρ' 16)).toNat) ?_ ?_
 · exact ⟨0,_,zh,zh,(by omega),by rw [List.drop_zero,Q2q],hS.sp⟩
 rintro ρ w1 ⟨j,h,hA,hρ,hj,hd,hS⟩;obtain ⟨ρ,rfl⟩:=env2 hA hρ
 all_goals (refine ZaI ?_)
 refine Qq rfl (fun hc=> ?_) (fun hc=> ?_)
 · skip
   all_goals (refine Zbf ?_;refine zi ?_;intro b1 o1 cs1 x1 hat1 hx1 he1;obtain ⟨vl1,rfl,hl1⟩:=Qr he1;refine ZaP ?_;intro p7 w1 hS;refine zsn hS ?_;intro w1 hS;have hS:=hS.ns;refine ZaD ?_;refine zv hS ?_;refine zm ?_;refine zR2 (c:=QcZ (by assumption) hS) (h:=?_);rintro v1 w1 ⟨rfl,hS⟩;refine Zad ?_;refine Zae ?_;refine zm ?_;refine Q4n rfl rfl ?_;refine zm ?_;refine zR3 (c:=Q26 (by intro h;exact of_decide_eq_true h) hS fd) (h:=?_);rintro v1 w1 ⟨rfl,hS⟩;simp only [List.set_cons_zero,List.set_cons_succ,fault_if] at hS;refine Zbi ?_;refine zad ?_;refine Zad ?_;exact ⟨⟨j+1,_,zh,zh,(by omega),by rw [hd,Qb hx1,Q3M,←Q2q],hS.sp⟩,Qv (by omega)⟩)
 · skip
   all_goals (refine zex ?_;refine Qz ?_;refine ⟨_,rfl,rfl,?_⟩;rw [hd,List.drop_of_length_le (by omega),Q3M,mkF_0,Qe5 rfl];exact St.back hS hi)
def fltV (g:Flt):Value:= .agg ⟨[.int .i64 g.1, .int .i64 g.2]⟩
theorem kindne_c {t:Ty}{cs:List Value}(ht:tyR.at cx cs t) (hS:St cx w L):Rets Tryz.prog Q4K [.agg ⟨cs⟩] w fun u w'=> u= .bool (decide (t.kind≠1))∧St cx w' L:=by
 obtain ⟨v,rfl,hl⟩:=Qr ht
 all_goals refine lgo tyD Tryz.func107 ?_
 all_goals (refine Zat ?_;intro p1 w1 hS;refine Zad ?_;refine Zaa ?_;refine zf0 ?_;refine zl hS ?_;refine Q4n rfl rfl ?_;refine Zap ?_;refine ⟨_,rfl,?_,hS.sp⟩;(rfl);done)
theorem pcont_c {l:List Ty}{v:Value}(hl:tyR.sl cx v l) (hS:St cx w L):Rets Tryz.prog Q27 [v, .func (.func Q4K) #[] #[]] w fun u w'=>∃q,u= .bool q∧(q=true↔∃t∈l,t.kind≠1)∧St cx w' L:=by
 have hlen:=hl.len
 have hidx:∀{w:World}{L:List Res},St cx w L→Rets Tryz.prog Q2l [v, .func (.func Q4K) #[] #[]] w fun u w'=>∃r:Int,u= .int .i64 r∧(0≤r↔∃t∈l,t.kind≠1)∧St cx w' L:=by
  intro w L hS
  all_goals refine lgo tyD Tryz.func160 ?_
  all_goals (refine ZaQ ?_;refine zL ?_;refine ZaB ?_)
  refine zoL hS [0,1,7] (fun A LL ρ' w'=>∃(j:Nat),Has ρ' A∧Has ρ' [(8, .int .i64 j)]∧(j≤l.length)∧(∀t∈l.take j,t.kind=1)∧St cx w' (LL)) (fun ρ' _=> (l.length - iv (ρ' 8)).toNat) ?_ ?_
  · exact ⟨0,zh,zh,(by omega),by simp,hS.sp⟩
  rintro ρ w1 ⟨j,hA,hρ,hj,hd,hS⟩;obtain ⟨ρ,rfl⟩:=env2 hA hρ
  all_goals (refine ZaI ?_)
  refine Qq rfl (fun hc=> ?_) (fun hc=> ?_)
  · skip
    all_goals (refine Zbp ?_;refine ZaL ?_;refine ZaT ?_;refine zi ?_;intro b1 o1 cs1 x1 hat1 hx1 he1;obtain ⟨vl1,rfl,hl1⟩:=Qr he1;refine Yai ?_)
    all_goals (refine Qf4 rfl (by kernel_rfl) (by rfl) (kindne_c he1 hS) ?_;rintro v1 w1 ⟨rfl,hS⟩;(cases hdec:decide (x1.kind≠1));have hg:=of_decide_eq_false hdec;rotate_left;have hg:=of_decide_eq_true hdec;all_goals skip)
    all_goals (refine zn ?_)
    all_goals
     first
     | (refine zct ?_
        all_goals (refine Zbq ?_)
        all_goals (exact ⟨_,rfl,j,rfl,⟨fun _=> ⟨x1,List.mem_of_getElem? hx1,hg⟩,fun _=> by omega⟩,hS.sp⟩))
     | (refine zcf ?_
        all_goals refine zsk ?_)
    all_goals (refine Q10 ?_;refine zad ?_;refine Zad ?_;exact ⟨⟨j+1,zh,zh,(by omega),Q7H hd hx1 (Classical.not_not.1 hg),hS.sp⟩,Qv (by omega)⟩)
  · skip
    all_goals (refine ZbL ?_)
    all_goals (first|(exact ⟨_,rfl,j,rfl,⟨fun _=> ⟨x1,List.mem_of_getElem? hx1,hg⟩,fun _=> by omega⟩,hS.sp⟩)|(exact ⟨_,rfl, -1,rfl,⟨fun h=> by omega,fun ⟨t,ht,hk⟩=> absurd (Q7G hd (by omega) t ht) hk⟩,hS.sp⟩))
 all_goals refine lgo tyD Tryz.func106 ?_
 all_goals (refine Zaf ?_;refine ZaX ?_;refine zR2 (c:=hidx hS) (h:=?_);rintro v1 w1 ⟨r,rfl,hr,hS⟩)
 all_goals (first|(refine Q2n ?_)|(refine Q2Z ?_)|(refine Q1r rfl rfl (fun hc=> ?_) (fun hc=> ?_)))
 all_goals (refine Zap ?_)
 all_goals (first|(exact ⟨_,rfl,_,rfl,⟨fun _=> hr.1 (by omega),fun _=> rfl⟩,hS.sp⟩)|(exact ⟨_,rfl,_,rfl,⟨fun h=> Bool.noConfusion h,fun h=> by have:=hr.2 h;omega⟩,hS.sp⟩))
theorem Qgx {g:Flt}{a:Int}{x:Fun}{b:Nat}{y:Block}{q:Bool}(hq:q=true↔(b=0∧(y.regs≠x.regs∨y.params≠x.params))):
 orF (orF (orF (orF g (mkF (if y.regs < x.regs∨16 < y.regs then 1 else 0) a)) (mkF (QM y.params y.regs) a)) (mkF (if q=true then 9 else 0) a)) (mkF (if 40 < y.code.length then 2 else 0) a)=orF g (mkF (Q2y x b y) a):=by
 rw [Q2q,Q2q,Q2q]
 congr 2
 unfold Q2y
 by_cases h0:y.regs < x.regs∨16 < y.regs
 · rw [if_pos h0,if_pos h0];simp only [Q6B (show (1:Int)≠0 by decide)]
 · rw [if_neg h0,if_neg h0,Q5w]
   by_cases h:QM y.params y.regs≠0
   · rw [if_pos h];simp only [Q6B h]
   · rw [if_neg h,Classical.not_not.1 h,Q5w]
     by_cases hb:b=0∧(y.regs≠x.regs∨y.params≠x.params)
     · rw [if_pos hb,if_pos (hq.2 hb)];simp only [Q6B (show (9:Int)≠0 by decide)]
     · rw [if_neg hb,if_neg (fun h=> hb (hq.1 h)),Q5w]
theorem pblock_c {fs:List Fun}{f b:Nat}{x:Fun}{y:Block}{vf:Value}{g:Flt}{a:Int}{p:Nat}(hxf:fs[f]?=some x) (hyb:x.blocks[b]?=some y) (hf0:f≤1000000) (hb0:b≤1000000) (hlc:y.code.length≤100000) (hf:funcR.sl cx vf fs) (hS:St cx w L) (hi:nth L i=some (jdg p vf g a)):
 Rets Tryz.prog Q7q [.pointer (some ⟨p,0,none⟩), .int .i64 f, .int .i64 b] w fun u w'=> u= .tuple #[]∧∃a',St cx w' (L.set i (jdg p vf (orF g (Q2E fs.length f x b y)) a')):=by
 have hflt:=(List.getElem?_eq_some_iff.1 hxf).1
 have hblt:=(List.getElem?_eq_some_iff.1 hyb).1
 have hS:=hS.out hi
 all_goals refine lgo tyD Tryz.func108 ?_
 all_goals (refine ZaR ?_;refine zf0 ?_;refine zf0 ?_;refine zl hS ?_;refine zm ?_;refine zi ?_;intro b1 o1 cs1 x1 hat1 hx1 he1;obtain ⟨vp1,vr1,vb1,rfl,hp1,hr1,hb1⟩:=QG he1;refine ZaP ?_;intro p6 w1 hS;refine zsn hS ?_;intro w1 hS;have hS:=hS.ns;refine zn ?_;have e1:x=x1:=Option.some.inj (hxf.symm.trans hx1);subst e1;refine Zaa ?_;refine zf0 ?_;refine zl hS ?_;refine zm ?_;refine zi ?_;intro b2 o2 cs2 x2 hat2 hx2 he2;obtain ⟨vp2,vc2,ve21,ve22,ve23,ve24,ve25,rfl,hp2,hc2,he21,he22,he23,he24,he25⟩:=Q1S he2;refine ZaP ?_;intro p7 w1 hS;refine zsn hS ?_;intro w1 hS;have hS:=hS.ns;refine zn ?_;have e2:y=x2:=Option.some.inj (hyb.symm.trans hx2);subst e2)
 refine zM [0,1,2,6,7] (fun A ρ' w'=> Has ρ' A∧Has ρ' []∧St cx w' (blk p7 92 [.int .i64 y.regs,vp2,vc2, .int .i64 y.fin.op, .int .i64 y.fin.a, .int .i64 y.fin.yes.block,ve21,ve22, .int .i64 y.fin.no.block,ve23,ve24,ve25]::blk p6 95 [.int .i64 x.regs,vp1,vr1,vb1]::jdg p vf g (Q3A f b)::L.eraseIdx i)) ?_ ?_
 · skip
   all_goals (refine Zae ?_;refine ZaT ?_;refine zR2 (c:=Qe4 f b hf0 hb0 hS) (h:=?_);rintro v1 w1 ⟨rfl,hS⟩;refine znc ?_;refine zf0 ?_;refine zst hS ?_;intro w1 hS;have hS:=hS.ns;refine zn ?_;exact ⟨zh,zh,hS.sp⟩)
 rintro ρ w1 ⟨hA,hρ,hS⟩;obtain ⟨ρ,rfl⟩:=env2 hA hρ
 refine zM [0,1,2,6,7] (fun A ρ' w'=> Has ρ' A∧Has ρ' []∧St cx w' (blk p7 92 [.int .i64 y.regs,vp2,vc2, .int .i64 y.fin.op, .int .i64 y.fin.a, .int .i64 y.fin.yes.block,ve21,ve22, .int .i64 y.fin.no.block,ve23,ve24,ve25]::blk p6 95 [.int .i64 x.regs,vp1,vr1,vb1]::jdg p vf (orF g (mkF (if y.regs < x.regs∨16 < y.regs then 1 else 0) (Q3A f b))) (Q3A f b)::L.eraseIdx i)) ?_ ?_
 · skip
   all_goals (refine Zae ?_;refine zf0 ?_;refine zl hS ?_;refine zf0 ?_;refine zl hS ?_)
   all_goals (first|(refine Q15 ?_)|(refine Q1c ?_)|(refine Qu rfl rfl (fun hc=> ?_) (fun hc=> ?_)))
   all_goals (refine ZaN ?_)
   all_goals (first|refine zgn ?_|(refine zgy ?_;(first|(refine Q17 ?_)|(refine Q1a ?_)|(refine Qs rfl rfl (fun hc=> ?_) (fun hc=> ?_)))))
   all_goals (refine Yae ?_;refine zR3 (c:=Q26 (g:=_) (by intro _;decide) hS fd) (h:=?_);rintro v1 w1 ⟨rfl,hS⟩;simp only [List.set_cons_zero,List.set_cons_succ,if_true,Bool.false_eq_true,if_false] at hS;refine zn ?_;exact ⟨zh,zh,by first|(rw [if_pos (by omega)];exact hS.sp)|(rw [if_neg (by omega)];exact hS.sp)⟩)
 rintro ρ w1 ⟨hA,hρ,hS⟩;obtain ⟨ρ,rfl⟩:=env2 hA hρ
 all_goals (refine Zac ?_;refine zf0 ?_;refine zl hS ?_;refine zf0 ?_;refine zl hS ?_;refine zR3 (c:=Qcj hp2 hS fd) (h:=?_);rintro v1 w1 ⟨rfl,hS⟩;have hS:=hS.ns;refine ZaD ?_)
 refine zKL hS 18 [0,1,2,6,7] (fun A LL ρ' w'=>∃(q:Bool),Has ρ' A∧Has ρ' [(46, .pointer (some ⟨p,0,none⟩)),(63, .bool q)]∧(q=true↔(b=0∧(y.regs≠x.regs∨y.params≠x.params)))∧St cx w' (LL)) ?_ ?_
 · skip
   all_goals (refine ZaT ?_)
   all_goals (first|(refine Ql ?_)|(refine Qo ?_)|(refine Q8 rfl rfl (fun hc=> ?_) (fun hc=> ?_)))
   all_goals (refine ZaN ?_;refine Zan ?_)
   all_goals (first|refine zgn ?_|(refine zgy ?_;(first|(refine Q1D ?_)|(refine Q1M ?_)|(refine QI rfl rfl (fun hc=> ?_) (fun hc=> ?_)))))
   all_goals (refine ZbM ?_;refine Zan ?_)
   all_goals (first|refine zgn ?_|(refine zgy ?_;refine zR3 (c:=eqfT_c (by kernel_rfl) (fun a _ b _ {_ _ _ _} h1 h2 h3=> Q85 a b h1 h2 h3) hp2 hp1 hS) (h:=?_);rintro v1 w1 ⟨rfl,hS⟩;(cases hdec:decide (y.params=x.params));have hg:=of_decide_eq_false hdec;rotate_left;have hg:=of_decide_eq_true hdec;all_goals skip))
   all_goals (refine Yak ?_;refine Yal ?_;refine Yae ?_;refine ZaM ?_)
   all_goals (first|(exact ⟨_,zh,zh,by exact ⟨fun _=> ⟨by omega, .inl (by assumption)⟩,fun _=> rfl⟩,hS.sp⟩)|(exact ⟨_,zh,zh,by exact ⟨fun _=> ⟨by omega, .inr (by assumption)⟩,fun _=> rfl⟩,hS.sp⟩)|(exact ⟨_,zh,zh,by exact ⟨fun h=> Bool.noConfusion h,fun h=> absurd h.1 (by omega)⟩,hS.sp⟩)|(exact ⟨_,zh,zh,by exact ⟨fun h=> Bool.noConfusion h,fun h=> h.2.elim (fun h=> absurd h (by assumption)) (fun h=> absurd (by assumption) h)⟩,hS.sp⟩))
 rintro ρ w1 ⟨q,hA,hρ,hq,hS⟩;obtain ⟨ρ,rfl⟩:=env2 hA hρ
 all_goals (refine zR3 (c:=Q26 (g:=_) (by intro _;decide) hS fd) (h:=?_);rintro v1 w1 ⟨rfl,hS⟩;simp only [List.set_cons_zero,List.set_cons_succ,if_true,Bool.false_eq_true,if_false] at hS;refine zn ?_)
 refine zM [0,1,2,6,7] (fun A ρ' w'=> Has ρ' A∧Has ρ' []∧St cx w' (blk p7 92 [.int .i64 y.regs,vp2,vc2, .int .i64 y.fin.op, .int .i64 y.fin.a, .int .i64 y.fin.yes.block,ve21,ve22, .int .i64 y.fin.no.block,ve23,ve24,ve25]::blk p6 95 [.int .i64 x.regs,vp1,vr1,vb1]::jdg p vf (orF g (mkF (Q2y x b y) (Q3A f b))) (Q3A f b)::L.eraseIdx i)) ?_ ?_
 · skip
   all_goals (refine Zae ?_;refine zf0 ?_;refine zl hS ?_;refine zL ?_)
   all_goals (first|(refine Q17 ?_)|(refine Q1a ?_)|(refine Qs rfl rfl (fun hc=> ?_) (fun hc=> ?_)))
   all_goals (refine zR3 (c:=Q26 (g:=_) (by intro _;decide) hS fd) (h:=?_);rintro v1 w1 ⟨rfl,hS⟩;simp only [List.set_cons_zero,List.set_cons_succ,if_true,Bool.false_eq_true,if_false] at hS;refine zn ?_;exact ⟨zh,zh,by rw [←Qgx hq];first|(rw [if_pos (c:=40 < y.code.length) (by omega)];exact hS.sp)|(rw [if_neg (c:=40 < y.code.length) (by omega)];exact hS.sp)⟩)
 rintro ρ w1 ⟨hA,hρ,hS⟩;obtain ⟨ρ,rfl⟩:=env2 hA hρ
 all_goals (refine QB ?_;refine ZbO ?_)
 refine zo [0,1,2,6,7] (fun A ρ' w'=>∃(j:Nat) (h:Flt) (at2:Int),Has ρ' A∧Has ρ' [(8, .int .i64 j)]∧(j≤y.code.length)∧(orF (orF g (mkF (Q2y x b y) (Q3A f b))) (Q2c fs.length f b 0 y.code)=orF h (Q2c fs.length f b j (y.code.drop j)))∧St cx w' (blk p7 92 [.int .i64 y.regs,vp2,vc2, .int .i64 y.fin.op, .int .i64 y.fin.a, .int .i64 y.fin.yes.block,ve21,ve22, .int .i64 y.fin.no.block,ve23,ve24,ve25]::blk p6 95 [.int .i64 x.regs,vp1,vr1,vb1]::jdg p vf h at2::L.eraseIdx i)) (fun ρ' _=> (y.code.length - iv (ρ' 8)).toNat) ?_ ?_
 · exact ⟨0,_,_,zh,zh,(by omega),by rw [List.drop_zero],hS.sp⟩
 rintro ρ w1 ⟨j,h,at2,hA,hρ,hj,hd,hS⟩;obtain ⟨ρ,rfl⟩:=env2 hA hρ
 all_goals (refine Zak ?_;refine zf0 ?_;refine zl hS ?_;refine zL ?_)
 all_goals (first|(refine Q15 ?_)|(refine Q1c ?_)|(refine Qu rfl rfl (fun hc=> ?_) (fun hc=> ?_)))
 all_goals (refine Zam ?_;refine ZaV ?_;refine Yah ?_;refine Yac ?_)
 all_goals (first|refine zgn ?_|(refine zgy ?_;(first|(refine Ql ?_)|(refine Qo ?_)|(refine Q8 rfl rfl (fun hc=> ?_) (fun hc=> ?_)))))
 all_goals (refine ZaO ?_)
 all_goals
  first
  | (refine zct ?_
     all_goals (refine Zbp ?_;refine ZaT ?_;refine zm ?_;refine zR3 (c:=Qa4 f b j hf0 hb0 (by omega) hS) (h:=?_);rintro v1 w1 ⟨rfl,hS⟩;refine znc ?_;refine zf0 ?_;refine zst hS ?_;intro w1 hS;have hS:=hS.ns;refine zn ?_;have hS:St cx _ (blk p7 92 [.int .i64 y.regs,vp2,vc2, .int .i64 y.fin.op, .int .i64 y.fin.a, .int .i64 y.fin.yes.block,ve21,ve22, .int .i64 y.fin.no.block,ve23,ve24,ve25]::blk p6 95 [.int .i64 x.regs,vp1,vr1,vb1]::jdg p vf h (Q7r f b j)::L.eraseIdx i):=hS;refine Zae ?_;refine zf0 ?_;refine zl hS ?_;refine zm ?_;refine zi ?_;intro b3 o3 cs3 x3 hat3 hx3 he3;obtain ⟨vr3,va3,rfl,hr3,ha3⟩:=QZ he3;refine Yai ?_;refine zR2 (c:=ins_c he3 hf hS fd) (h:=?_);rintro v1 w1 ⟨rfl,hS⟩;have hS:=hS.ns;refine ZaJ ?_;refine zad ?_;refine Zad ?_)
     all_goals (exact ⟨⟨j+1,_,_,zh,zh,(by omega),by rw [hd,Qb hx3,Q2c,Q39],hS.sp⟩,Qv (by omega)⟩))
  | (refine zcf ?_
     all_goals (refine zex ?_;(first|(rw [List.drop_of_length_le (by omega),Q2c,Qe5 (b:=(0,0)) rfl] at hd)|(rw [Qcn (a:=h) (by assumption)] at hd));refine Zac ?_;refine ZaT ?_;refine zR2 (c:=Qa5 f b hf0 hb0 hS) (h:=?_);rintro v1 w1 ⟨rfl,hS⟩;refine znc ?_;refine zf0 ?_;refine zst hS ?_;intro w1 hS;have hS:=hS.ns;refine zn ?_;have hS:St cx _ (blk p7 92 [.int .i64 y.regs,vp2,vc2, .int .i64 y.fin.op, .int .i64 y.fin.a, .int .i64 y.fin.yes.block,ve21,ve22, .int .i64 y.fin.no.block,ve23,ve24,ve25]::blk p6 95 [.int .i64 x.regs,vp1,vr1,vb1]::jdg p vf h (Q74 f b)::L.eraseIdx i):=hS;refine Zae ?_;refine zv hS ?_;refine zf0 ?_;refine zv hS ?_;refine zR3 (c:=end_c (e:=y.fin) he1 ⟨_,_,_,_,_,rfl,he21,he22,he23,he24,he25⟩ hS fd) (h:=?_);rintro v1 w1 ⟨rfl,hS⟩;have hS:=hS.ns;refine zn ?_)
     all_goals (refine Qz ?_;refine ⟨_,rfl,rfl,Q74 f b,?_⟩;have hS:=hS.drop.drop;rw [show orF g (Q2E fs.length f x b y)=orF h (mkF (Q1I x.blocks.length y.fin) (Q74 f b)) from (by unfold Q2E;rw [←Q39,←Q39,hd])];exact St.back hS hi))
theorem Qgg {g:Flt}{a:Int}{x:Fun}{f:Nat}{q:Bool}(hq:q=true↔(f=0∧(0 < x.regs∨0 < x.params.length∨∃t∈x.results,t.kind≠1))):
 orF (orF (orF (orF (orF g (mkF (if x.regs < 0∨6 < x.regs then 1 else 0) a)) (mkF (QM x.params x.regs) a)) (mkF (QM x.results x.regs) a)) (mkF (if x.blocks.length < 1∨12 < x.blocks.length then 2 else 0) a)) (mkF (if q=true then 18 else 0) a)=orF g (mkF (Q3h f x) a):=by
 rw [Q2q,Q2q,Q2q,Q2q]
 congr 2
 unfold Q3h
 by_cases h0:x.regs < 0∨6 < x.regs
 · rw [if_pos h0,if_pos h0];simp only [Q6B (show (1:Int)≠0 by decide)]
 · rw [if_neg h0,if_neg h0,Q5w]
   by_cases h:QM x.params x.regs≠0
   · rw [if_pos h];simp only [Q6B h]
   · rw [if_neg h,Classical.not_not.1 h,Q5w]
     by_cases h1:QM x.results x.regs≠0
     · rw [if_pos h1];simp only [Q6B h1]
     · rw [if_neg h1,Classical.not_not.1 h1,Q5w]
       by_cases h2:x.blocks.length < 1∨12 < x.blocks.length
       · rw [if_pos h2,if_pos h2];simp only [Q6B (show (2:Int)≠0 by decide)]
       · rw [if_neg h2,if_neg h2,Q5w]
         by_cases hb:f=0∧(0 < x.regs∨0 < x.params.length∨∃t∈x.results,t.kind≠1)
         · rw [if_pos hb,if_pos (hq.2 hb)]
         · rw [if_neg hb,if_neg (fun h=> hb (hq.1 h))]
theorem Qa3 {m:Module}(hsh:m.Short){cs:List Value}(hm:modR.at cx cs m) (hS:St cx w L):
 Rets Tryz.prog Qes [.agg ⟨cs⟩] w fun u w'=> u=fltV m.fault∧St cx w' L:=by
 obtain ⟨vf,rfl,hf⟩:=Q1e hm
 have hsl:=hsh.1
 have hsf:=hsh.2
 obtain ⟨a0,n0,rfl⟩:=Rep.SR.shape hf
 generalize hvf:Value.slice a0 m.funcs.length n0=vf at*
 all_goals refine lgo tyD Tryz.func62 ?_
 all_goals (refine Zat ?_;intro p1 w1 hS;refine Qg hS ?_;intro p2 w1 hS;refine ZaD ?_;refine zv hS ?_;refine Q5N (cs:=[vf, .int .i64 0, .int .i64 0, .int .i64 (-1)]) vw vw (by subst hvf;rfl) ?_;refine zb hS ?_;intro p9 w1 hS;refine Zad ?_)
 refine zM [1,2,3] (fun A ρ' w'=> Has ρ' A∧Has ρ' []∧St cx w' (jdg p9 vf (mkF (if m.funcs.length < 1∨8 < m.funcs.length then 2 else 0) (-1)) (-1)::blk p2 29 [.int .i64 0, .int .i64 0]::blk p1 24 [vf]::L)) ?_ ?_
 · skip
   all_goals (have hS:St cx _ (jdg p9 vf (0,0) (-1)::blk p2 29 [.int .i64 0, .int .i64 0]::blk p1 24 [vf]::L):=hS;refine Zae ?_;refine zf0 ?_;refine zl hS ?_;refine zL ?_)
   all_goals (first|(refine Ql ?_)|(refine Qo ?_)|(refine Q8 rfl rfl (fun hc=> ?_) (fun hc=> ?_)))
   all_goals (refine ZaN ?_;refine Yaj ?_)
   all_goals (first|refine zgn ?_|(refine zgy ?_;(first|(refine Q17 ?_)|(refine Q1a ?_)|(refine Qs rfl rfl (fun hc=> ?_) (fun hc=> ?_)))))
   all_goals (refine Yae ?_;refine zR3 (c:=Q26 (g:=_) (by intro _;decide) hS fd) (h:=?_);rintro v1 w1 ⟨rfl,hS⟩;simp only [List.set_cons_zero,List.set_cons_succ,if_true,Bool.false_eq_true,if_false] at hS;refine zn ?_;exact ⟨zh,zh,by rw [Qe6 (Q90 _ _)] at hS;first|(rw [if_pos (by omega)];exact hS.sp)|(rw [if_neg (by omega)];exact hS.sp)⟩)
 rintro ρ w1 ⟨hA,hρ,hS⟩;obtain ⟨ρ,rfl⟩:=env2 hA hρ
 all_goals (refine QB ?_;refine ZbO ?_)
 refine zo [1,2,3] (fun A ρ' w'=>∃(f:Nat) (h:Flt) (a:Int),Has ρ' A∧Has ρ' [(4, .int .i64 f)]∧(f≤m.funcs.length)∧(m.fault=orF h (Q2v m.funcs.length f (m.funcs.drop f)))∧St cx w' (jdg p9 vf h a::blk p2 29 [.int .i64 0, .int .i64 0]::blk p1 24 [vf]::L)) (fun ρ' _=> (m.funcs.length - iv (ρ' 4)).toNat) ?_ ?_
 · exact ⟨0,_,_,zh,zh,(by omega),by rw [List.drop_zero];rfl,hS.sp⟩
 rintro ρ w1 ⟨f,h,a,hA,hρ,hj,hd,hS⟩;obtain ⟨ρ,rfl⟩:=env2 hA hρ
 all_goals (refine Zak ?_;refine zf0 ?_;refine zl hS ?_;refine zL ?_)
 all_goals (first|(refine Q15 ?_)|(refine Q1c ?_)|(refine Qu rfl rfl (fun hc=> ?_) (fun hc=> ?_)))
 all_goals (refine Zam ?_;refine ZaV ?_;refine Yah ?_;refine Yac ?_)
 all_goals (first|refine zgn ?_|(refine zgy ?_;(first|(refine Ql ?_)|(refine Qo ?_)|(refine Q8 rfl rfl (fun hc=> ?_) (fun hc=> ?_)))))
 all_goals (refine ZaO ?_)
 all_goals
  first
  | (refine zct ?_
     all_goals (refine Zbf ?_;refine zf0 ?_;refine zl hS ?_;refine zm ?_;refine zi ?_;intro b1 o1 cs1 x1 hat1 hx1 he1;obtain ⟨vp1,vr1,vb1,rfl,hp1,hr1,hb1⟩:=QG he1;refine ZaP ?_;intro p5 w1 hS;refine zsn hS ?_;intro w1 hS;have hS:=hS.ns;refine zn ?_;have hsx:=hsf x1 (List.mem_of_getElem? hx1);have hlb:=hsx.2.2.1;have hlp:=hp1.len;have hlr:=hr1.len;refine ZaX ?_;refine zR1 (c:=Qfz f (by omega) hS) (h:=?_);rintro v1 w1 ⟨rfl,hS⟩;refine znc ?_;refine zf0 ?_;refine zst hS ?_;intro w1 hS;have hS:=hS.ns;refine zn ?_)
     refine zM [1,2,3,4,5] (fun A ρ' w'=> Has ρ' A∧Has ρ' []∧St cx w' (blk p5 95 [.int .i64 x1.regs,vp1,vr1,vb1]::jdg p9 vf (orF h (mkF (if x1.regs < 0∨6 < x1.regs then 1 else 0) (Q3j f))) (Q3j f)::blk p2 29 [.int .i64 0, .int .i64 0]::blk p1 24 [vf]::L)) ?_ ?_
     · skip
       all_goals (have hS:St cx _ (blk p5 95 [.int .i64 x1.regs,vp1,vr1,vb1]::jdg p9 vf h (Q3j f)::blk p2 29 [.int .i64 0, .int .i64 0]::blk p1 24 [vf]::L):=hS;refine Zae ?_;refine zf0 ?_;refine zl hS ?_)
       all_goals (first|(refine Q15 ?_)|(refine Q1c ?_)|(refine Qu rfl rfl (fun hc=> ?_) (fun hc=> ?_)))
       all_goals (refine ZaN ?_)
       all_goals (first|refine zgn ?_|(refine zgy ?_;(first|(refine Q17 ?_)|(refine Q1a ?_)|(refine Qs rfl rfl (fun hc=> ?_) (fun hc=> ?_)))))
       all_goals (refine Yae ?_;refine zR3 (c:=Q26 (g:=_) (by intro _;decide) hS fd) (h:=?_);rintro v1 w1 ⟨rfl,hS⟩;simp only [List.set_cons_zero,List.set_cons_succ,if_true,Bool.false_eq_true,if_false] at hS;refine zn ?_;exact ⟨zh,zh,by first|(rw [if_pos (by omega)];exact hS.sp)|(rw [if_neg (by omega)];exact hS.sp)⟩)
     rintro ρ w1 ⟨hA,hρ,hS⟩;obtain ⟨ρ,rfl⟩:=env2 hA hρ
     all_goals (refine Zac ?_;refine zf0 ?_;refine zl hS ?_;refine zf0 ?_;refine zl hS ?_;refine zR3 (c:=Qcj hp1 hS fd) (h:=?_);rintro v1 w1 ⟨rfl,hS⟩;have hS:=hS.ns;refine Zaz ?_;refine zf0 ?_;refine zl hS ?_;refine zf0 ?_;refine zl hS ?_;refine zR3 (c:=Qcj hr1 hS fd) (h:=?_);rintro v1 w1 ⟨rfl,hS⟩;have hS:=hS.ns;refine zn ?_)
     refine zM [1,2,3,4,5] (fun A ρ' w'=> Has ρ' A∧Has ρ' []∧St cx w' (blk p5 95 [.int .i64 x1.regs,vp1,vr1,vb1]::jdg p9 vf (orF (orF (orF (orF h (mkF (if x1.regs < 0∨6 < x1.regs then 1 else 0) (Q3j f))) (mkF (QM x1.params x1.regs) (Q3j f))) (mkF (QM x1.results x1.regs) (Q3j f))) (mkF (if x1.blocks.length < 1∨12 < x1.blocks.length then 2 else 0) (Q3j f))) (Q3j f)::blk p2 29 [.int .i64 0, .int .i64 0]::blk p1 24 [vf]::L)) ?_ ?_
     · skip
       all_goals (refine Zae ?_;refine zf0 ?_;refine zl hS ?_;refine zL ?_)
       all_goals (first|(refine Ql ?_)|(refine Qo ?_)|(refine Q8 rfl rfl (fun hc=> ?_) (fun hc=> ?_)))
       all_goals (refine ZaN ?_;refine Yaj ?_)
       all_goals (first|refine zgn ?_|(refine zgy ?_;(first|(refine Q17 ?_)|(refine Q1a ?_)|(refine Qs rfl rfl (fun hc=> ?_) (fun hc=> ?_)))))
       all_goals (refine Yae ?_;refine zR3 (c:=Q26 (g:=_) (by intro _;decide) hS fd) (h:=?_);rintro v1 w1 ⟨rfl,hS⟩;simp only [List.set_cons_zero,List.set_cons_succ,if_true,Bool.false_eq_true,if_false] at hS;refine zn ?_;exact ⟨zh,zh,by first|(rw [if_pos (c:=x1.blocks.length < 1∨12 < x1.blocks.length) (by omega)];exact hS.sp)|(rw [if_neg (c:=x1.blocks.length < 1∨12 < x1.blocks.length) (by omega)];exact hS.sp)⟩)
     rintro ρ w1 ⟨hA,hρ,hS⟩;obtain ⟨ρ,rfl⟩:=env2 hA hρ
     refine zM [1,2,3,4,5] (fun A ρ' w'=> Has ρ' A∧Has ρ' []∧St cx w' (blk p5 95 [.int .i64 x1.regs,vp1,vr1,vb1]::jdg p9 vf (orF h (mkF (Q3h f x1) (Q3j f))) (Q3j f)::blk p2 29 [.int .i64 0, .int .i64 0]::blk p1 24 [vf]::L)) ?_ ?_
     · skip
       all_goals (refine Q10 ?_)
       refine zKL hS 19 [1,2,3,4,5] (fun A LL ρ' w'=>∃(q:Bool),Has ρ' A∧Has ρ' [(81, .pointer (some ⟨p9,0,none⟩)),(99, .bool q)]∧(q=true↔(f=0∧(0 < x1.regs∨0 < x1.params.length∨∃t∈x1.results,t.kind≠1)))∧St cx w' (LL)) ?_ ?_
       · skip
         all_goals (refine ZaT ?_)
         all_goals (first|(refine Ql ?_)|(refine Qo ?_)|(refine Q8 rfl rfl (fun hc=> ?_) (fun hc=> ?_)))
         all_goals (refine ZaN ?_)
         all_goals (first|refine zgn ?_|(refine zgy ?_;(first|(refine Q17 ?_)|(refine Q1a ?_)|(refine Qs rfl rfl (fun hc=> ?_) (fun hc=> ?_)))))
         all_goals (refine ZbM ?_;refine Yaj ?_)
         all_goals (first|refine zgn ?_|(refine zgy ?_;(first|(refine Q17 ?_)|(refine Q1a ?_)|(refine Qs rfl rfl (fun hc=> ?_) (fun hc=> ?_)))))
         all_goals (refine Yal ?_;refine ZbM ?_)
         all_goals ((first|(refine zgn ?_)|(refine zgy ?_;refine zR2 (c:=pcont_c hr1 hS) (h:=?_);rintro v1 w1 ⟨qc,rfl,hqc,hS⟩;cases qc)))
         all_goals (refine Yal ?_;refine Yae ?_;refine ZaM ?_)
         all_goals (first|(exact ⟨_,zh,zh,by exact ⟨fun _=> ⟨by omega, .inl (by omega)⟩,fun _=> rfl⟩,hS.sp⟩)|(exact ⟨_,zh,zh,by exact ⟨fun _=> ⟨by omega, .inr (.inl (by omega))⟩,fun _=> rfl⟩,hS.sp⟩)|(exact ⟨_,zh,zh,by exact ⟨fun _=> ⟨by omega, .inr (.inr (hqc.1 rfl))⟩,fun _=> rfl⟩,hS.sp⟩)|(exact ⟨_,zh,zh,by exact ⟨fun h=> Bool.noConfusion h,fun h=> absurd h.1 (by omega)⟩,hS.sp⟩)|(exact ⟨_,zh,zh,by exact ⟨fun h=> Bool.noConfusion h,fun h=> h.2.elim (fun h=> by omega) (fun h=> h.elim (fun h=> by omega) (fun h=> Bool.noConfusion (hqc.2 h)))⟩,hS.sp⟩))
       rintro ρ w1 ⟨q,hA,hρ,hq,hS⟩;obtain ⟨ρ,rfl⟩:=env2 hA hρ
       all_goals (refine zR3 (c:=Q26 (g:=_) (by intro _;decide) hS fd) (h:=?_);rintro v1 w1 ⟨rfl,hS⟩;simp only [List.set_cons_zero,List.set_cons_succ,if_true,Bool.false_eq_true,if_false] at hS;refine zn ?_;exact ⟨zh,zh,by rw [←Qgg hq];exact hS.sp⟩)
     rintro ρ w1 ⟨hA,hρ,hS⟩;obtain ⟨ρ,rfl⟩:=env2 hA hρ
     all_goals (refine ZbO ?_)
     refine zo [1,2,3,4,5] (fun A ρ' w'=>∃(b:Nat) (h2:Flt) (a2:Int),Has ρ' A∧Has ρ' [(6, .int .i64 b)]∧(b≤x1.blocks.length)∧(orF (orF h (mkF (Q3h f x1) (Q3j f))) (Q1y m.funcs.length f x1 0 x1.blocks)=orF h2 (Q1y m.funcs.length f x1 b (x1.blocks.drop b)))∧St cx w' (blk p5 95 [.int .i64 x1.regs,vp1,vr1,vb1]::jdg p9 vf h2 a2::blk p2 29 [.int .i64 0, .int .i64 0]::blk p1 24 [vf]::L)) (fun ρ' _=> (x1.blocks.length - iv (ρ' 6)).toNat) ?_ ?_
     · exact ⟨0,_,_,zh,zh,(by omega),by rw [List.drop_zero],hS.sp⟩
     rintro ρ w1 ⟨b,h2,a2,hA,hρ,hb,hd2,hS⟩;obtain ⟨ρ,rfl⟩:=env2 hA hρ
     all_goals (refine Zak ?_;refine zf0 ?_;refine zl hS ?_;refine zL ?_)
     all_goals (first|(refine Q15 ?_)|(refine Q1c ?_)|(refine Qu rfl rfl (fun hc=> ?_) (fun hc=> ?_)))
     all_goals (refine Zam ?_;refine ZaV ?_;refine Yah ?_;refine Yac ?_)
     all_goals (first|refine zgn ?_|(refine zgy ?_;(first|(refine Ql ?_)|(refine Qo ?_)|(refine Q8 rfl rfl (fun hc=> ?_) (fun hc=> ?_)))))
     all_goals (refine ZaO ?_)
     all_goals
      first
      | (refine zct ?_
         all_goals (refine ZaE ?_;obtain ⟨y,hy⟩:∃y,x1.blocks[b]?=some y:=⟨_,List.getElem?_eq_getElem (by omega)⟩;have hsy:=hsx.2.2.2 y (List.mem_of_getElem? hy);refine Zae ?_;refine ZaT ?_;refine zR3 (c:=pblock_c hx1 hy (by omega) (by omega) hsy.2.1 hf hS fd) (h:=?_);rintro v1 w1 ⟨rfl,a3,hS⟩;have hS:=hS.ns;refine ZaJ ?_;refine zad ?_;refine Zad ?_)
         all_goals (exact ⟨⟨b+1,_,_,zh,zh,(by omega),by rw [hd2,Qb hy,Q1y,Q39],hS.sp⟩,Qv (by omega)⟩))
      | (refine zcf ?_
         all_goals (refine zex ?_;(first|(rw [List.drop_of_length_le (by omega),Q1y,Qe5 (b:=(0,0)) rfl] at hd2)|(rw [Qcn (a:=h2) (by assumption)] at hd2));refine Zae ?_;refine zad ?_;refine Zad ?_)
         all_goals (exact ⟨⟨f+1,h2,a2,zh,zh,(by omega),by rw [hd,Qb hx1,Q2v,←Q39,show orF h (Q7D m.funcs.length f x1)=h2 from (by unfold Q7D;rw [←Q39,hd2])],hS.sp⟩,Qv (by omega)⟩)))
  | (refine zcf ?_
     all_goals (refine zex ?_;(first|(rw [List.drop_of_length_le (by omega),Q2v,Qe5 (b:=(0,0)) rfl] at hd)|(rw [Qcn (a:=h) (by assumption)] at hd));refine ZaR ?_;refine zf0 ?_;refine zv hS ?_;refine zsn hS ?_;intro w1 hS;have hS:=hS.ns;refine ZaS ?_;refine Q1z vw (Q9 (n:=2) (by kernel_rfl) (by kernel_rfl) (hS.blkAt fd) (by rfl) (by rfl)) ?_)
     all_goals (refine ⟨_,rfl,?_,hS.sp⟩;rw [hd];rfl;done))
end Go.Proofs.YteflkifmgnpbhaaGreat
namespace Go.Lir
section
variable {P:Program}{Q:QT}{ρ:Env}{w:World}{l:List GO}
theorem Qfa {d:Nat}{Ty:TypeId}{x:Operand}{ms:Array (String×TypeId)}(ht:P.underlying Ty=some (.interface ms)) (hx:ρ.ev x= .nilIface) (h:Q0 P l Q (upd ρ d (.bool true)) w):Q0 P (⟨none, .bin d .eql Ty x (.const .nilIface)⟩::l) Q ρ w:=
 ⟨_,fun w0=> by rw [hx];simp [Env.ev,eqGuard,binOp,Q5d ht],h⟩
theorem Qb4 {d:Nat}{Ty U:TypeId}{v:Value}{x:Operand}{ms:Array (String×TypeId)}(ht:P.underlying Ty=some (.interface ms)) (hx:ρ.ev x= .iface U v) (h:Q0 P l Q (upd ρ d (.bool false)) w):Q0 P (⟨none, .bin d .eql Ty x (.const .nilIface)⟩::l) Q ρ w:=
 ⟨_,fun w0=> by rw [hx];simp [Env.ev,eqGuard,binOp,Q4p ht],h⟩
end
end Go.Lir
namespace Go.Proofs.YteflkifmgnpbhaaGreat
open Go.Lir
set_option maxHeartbeats 1000000
attribute [local irreducible] LC.wp Q0 Qk Qh retQ Qt LO.wp Q4 Calls
set_option linter.unusedSimpArgs false
set_option linter.unusedVariables false
variable {cx:Cx}{w:World}{L:List Res}{p N:Nat}{c:MC}{fr:List FrmV}{g:FrmV}{h:HpS}{out inp:List Int}{fu:Nat}{m:Module}
theorem QaQ {P:Program}{T:TypeId}(h:aggT P T=true):∃D,P.underlying T=some D∧∀m,D≠ .interface m:=by
 unfold aggT at h
 split at h
 · exact ⟨_,by assumption,by intro m h;cases h⟩
 · exact ⟨_,by assumption,by intro m h;cases h⟩
 · cases h
@[reducible] def capS (p3 p1 p2:Nat):List Value:=[.pointer (some ⟨p3,0,none⟩), .pointer (some ⟨p1,0,none⟩), .pointer (some ⟨p2,0,none⟩)]
@[reducible] def catS (p p1 p2 p3:Nat) (a:Int) (L:List Res):List Res:=blk p3 3 [.int .i64 a]::blk p2 29 [.int .i64 0, .int .i64 0]::blk p1 39 [.pointer (some ⟨p,0,none⟩)]::L
theorem step1_n {p1 p2 p3:Nat}{a:Int}(hS:St cx w (catS p p1 p2 p3 a L)):Defs Tryz.prog Q2a (capS p3 p1 p2) .returning w fun u' w'=> u'= .returning∧St cx w' (catS p p1 p2 p3 a L):=by
 unfold Defs
 all_goals refine lgr tyD Tryz.func70 ?_
 all_goals (refine Qcg ?_;refine r_sp ?_;refine zn ?_;refine zn ?_;refine r_pl ?_;refine Zby ?_;refine Qfa (ms:=#[]) (by kernel_rfl) rfl ?_;refine zn ?_)
 all_goals refine zct ?_
 all_goals (refine Q10 ?_;refine Zad ?_;refine ZbP ?_;exact ⟨⟨_,rfl⟩,rfl,hS.sp⟩)
@[reducible] def MC.stk (c:MC) (a:Int):MC:=⟨c.hp,c.fn,c.lv,c.iv,c.e,c.bv,c.ov,c.fu,c.mo,c.dn,20,a⟩
theorem step1_s {p1 p2 p3:Nat}{a:Int}(hS:St cx w (catS p p1 p2 p3 a (blk p 55 c.cells::L))):Defs Tryz.prog Q2a (capS p3 p1 p2) (.panicking [{v:=Q4k,recovered:=false}]) w fun u' w'=> u'= .panicking [{v:=Q4k,recovered:=true}]∧St cx w' (blk p2 29 [.int .i64 20, .int .i64 a]::blk p 55 (c.stk a).cells::L):=by
 obtain ⟨D,hD,hi⟩:=QaQ (P:=Tryz.prog) (T:=121) (by kernel_rfl)
 unfold Defs
 all_goals refine lgr tyD Tryz.func70 ?_
 all_goals (refine Qcg ?_;refine r_sp ?_;refine zn ?_;refine zn ?_;refine r_pl ?_;refine Zby ?_;refine Qb4 (ms:=#[]) (by kernel_rfl) rfl ?_;refine zn ?_)
 all_goals refine zcf ?_
 all_goals (refine Zaa ?_;refine Q7x hD hi rfl ?_;refine Zba ?_;refine zn ?_)
 all_goals refine zct ?_
 all_goals (refine Zbe ?_;intro p4 w1 hS;refine zsn hS ?_;intro w1 hS;have hS:=hS.ns;refine ZaD ?_;refine zl hS ?_;refine zl hS ?_;refine zb2 [_,_] ?_;refine znc ?_;refine zf0 ?_;(first|(refine zsn hS ?_;intro w1 hS;have hS:=hS.ns)|(refine zsm hS ?_;intro w1 hS;have hS:=hS.ns));refine Zbi ?_;refine zl hS ?_;refine znc ?_;refine zf0 ?_;refine zv hS ?_;refine zsn hS ?_;intro w1 hS;have hS:=hS.ns;refine zn ?_;refine ZbP ?_;exact ⟨⟨_,rfl⟩,rfl,hS.sp⟩)
@[reducible] def MC.over (c:MC) (e:Int):MC:=⟨c.hp,c.fn,c.lv,c.iv,e,c.bv,c.ov,c.fu,c.mo,true,c.c,c.a⟩
theorem QeO {p1 p2 p3:Nat}{a e:Int}(hS:St cx w (catS p p1 p2 p3 a (blk p 55 c.cells::L))):Defs Tryz.prog Q2a (capS p3 p1 p2) (.panicking [{v:=QbZ e,recovered:=false}]) w fun u' w'=> u'= .panicking [{v:=QbZ e,recovered:=true}]∧St cx w' (blk p2 29 [.int .i64 0, .int .i64 0]::blk p 55 (c.over e).cells::L):=by
 obtain ⟨D,hD,hi⟩:=QaQ (P:=Tryz.prog) (T:=121) (by kernel_rfl)
 unfold Defs
 all_goals refine lgr tyD Tryz.func70 ?_
 all_goals (refine Qcg ?_;refine r_sp ?_;refine zn ?_;refine zn ?_;refine r_pl ?_;refine Zby ?_;refine Qb4 (ms:=#[]) (by kernel_rfl) rfl ?_;refine zn ?_)
 all_goals refine zcf ?_
 all_goals (refine Zaa ?_;refine Qcb (z:= .agg ⟨[]⟩) hD hi (by kernel_rfl) rfl (by decide) ?_;refine Zba ?_;refine zn ?_)
 all_goals refine zcf ?_
 all_goals (refine Zaa ?_;refine Q7x (D:= .int .i64) (by kernel_rfl) (by intro m;exact TypeDesc.noConfusion) rfl ?_;refine Zba ?_;refine zn ?_)
 all_goals refine zct ?_
 all_goals (refine Zaf ?_;refine Q10 ?_;refine zl hS ?_;refine zl hS ?_;refine ZaA ?_;refine zf0 ?_;refine zst hS ?_;intro w1 hS;have hS:=hS.ns;refine znc ?_;refine zf0 ?_;refine Yad ?_;refine zst hS ?_;intro w1 hS;have hS:=hS.ns;refine zn ?_;refine ZbP ?_;exact ⟨⟨_,rfl⟩,rfl,hS.sp⟩)
theorem OkS.form {X:Stp}{u:Value}(hG:OkS p c N h out fu X cx L u w):∃M,St cx w (M++L)∧∀w' L2,St cx w' (M++L2)→OkS p c N h out fu X cx L2 u w':=by
 rcases hG with ⟨lv,iv,ov,fr',g',N',h',inp',out',h1,h2,h3,h4,hS⟩|⟨ns,bv,fr',g',h1,h2,hS⟩
 · exact ⟨mS p (c.upd lv iv ov) fr' g' N' h' out' [],hS,fun w' L2 hS=> .inl ⟨lv,iv,ov,fr',g',N',h',inp',out',h1,h2,h3,h4,hS⟩⟩
 · exact ⟨_::_::_::_::_::_::_::_::[],hS,fun w' L2 hS=> .inr ⟨ns,bv,fr',g',h1,h2,hS⟩⟩
theorem St.app {M:List Res}(hS:St cx w (M++L)):St cx w (L++M):=hS.perm List.perm_append_comm
def StepS (m:Module) (p:Nat) (c:MC) (fr:List FrmV) (g:FrmV) (N:Nat) (h:HpS) (inp out:List Int) (fu:Nat) (cx:Cx) (L:List Res) (u:Value) (w':World):Prop:=
 (c.fu=c.mo∧u=fltV (0,0)∧St cx w' (mS p (c.over 7) fr g N h out L))∨(c.fu≠c.mo∧((u=fltV (0,0)∧OkS p c.tick N h out fu ((msOf h g fr inp out fu).one m) cx L (.tuple #[]) w')∨
   (∃e,(msOf h g fr inp out fu).one m= .halt e∧u=fltV (0,0)∧∃fr' g' N',N'≤N+1∧St cx w' (mS p (c.tick.over e) fr' g' N' h out L))∨
   ((msOf h g fr inp out fu).one m= .lost∧u=fltV (20,(msOf h g fr inp out fu).place m)∧St cx w' (blk p 55 (c.tick.stk ((msOf h g fr inp out fu).place m)).cells::L))))
attribute [local irreducible] MS.ins MS.fin MS.one MS.place GoS DoneS OkS
theorem step_c {f:Fun}{b:Block}(hdn:c.dn=false) (hc0:c.c=0) (hfn:funcR.sl cx c.fn m.funcs) (hi:intR.sl cx c.iv inp) (hfx:m.funcs[g.f]?=some f) (hbx:f.blocks[g.b]?=some b) (hci:∀x∈b.code,QcV m x) (hce:Qex f b.fin) (hgf:g.f≤1000000) (hgb:g.b≤1000000) (hgi:g.i≤1000) (hf:fr.length≤900) (hn:g.vals.length≤800000) (hrn:g.regs.length≤800000) (hfr:∀x∈fr,x.vals.length≤900000) (hN:N≤99999) (hol:out.length≤2000) (hfu:0≤c.fu∧c.fu≤10000000) (hS:St cx w (mS p c fr g N h out L)):
 Rets Tryz.prog Q3q [.pointer (some ⟨p,0,none⟩)] w (StepS m p c fr g N h inp out fu cx L):=by
 unfold StepS
 all_goals refine lgd tyD Tryz.func23 ?_
 all_goals (refine QaD ?_;refine d_pl ?_;refine Q10 ?_;refine zb hS ?_;intro p1 w1 hS;refine Qg hS ?_;intro p2 w1 hS;refine zn ?_;refine QaD ?_;refine d_pl ?_;refine Zaa ?_;refine zl hS ?_;refine znc ?_;refine zf0 ?_;refine zl hS ?_;rw [hdn];refine zm ?_;refine Yac ?_;refine ZaV ?_;refine Yah ?_;(first|(refine zgn ?_)|(refine zgy ?_;refine zl hS ?_;rw [hc0])))
 all_goals (refine Yaw ?_)
 all_goals (refine ZaO ?_)
 all_goals refine zcf ?_
 all_goals (refine zsk ?_;refine QaD ?_;refine d_pl ?_;have hS:St cx _ (mS p c fr g N h out (blk p2 29 [.int .i64 0, .int .i64 0]::blk p1 39 [.pointer (some ⟨p,0,none⟩)]::L)):=hS.sp;refine Q10 ?_;refine zl hS ?_;refine zR1 (c:=place_c (inp:=inp) (fu:=fu) hfn hfx hbx hf hgf hgb (by omega) hS) (h:=?_);rintro v1 w1 ⟨rfl,hS⟩;refine Qg hS ?_;intro p3 w1 hS;refine zst hS ?_;intro w1 hS;have hS:=hS.ns;refine zn ?_;refine QaD ?_;refine d_sp ?_;refine Qb2 ?_;refine zn ?_;refine ⟨_,_,rfl,?_⟩;have hS:St cx _ (mS p c fr g N h out (catS p p1 p2 p3 ((msOf h g fr inp out fu).place m) L)):=hS.sp;refine zn ?_;refine d_pl ?_;refine Zaa ?_;refine zl hS ?_)
 all_goals (refine zE1 (c:=one_c (inp:=inp) (fu:=fu) hfn hi hfx hbx hci hce hgi hf hn hrn hfr hN hol hfu hS) (p:=by rintro v9 w9 hB;(repeat (refine Yba ?_));refine Qdk ?_;rcases hB with ⟨hmo,rfl,hS⟩|⟨hmo,⟨hX,rfl,hS⟩|⟨e,hX,rfl,fr',g',N',hN',hS⟩⟩;refine Q2t (by intro h;cases h) (by kernel_rfl) (QeO (c:=c) (a:=(msOf h g fr inp out fu).place m) (show St cx _ (catS p p1 p2 p3 _ (blk p 55 c.cells::_)) from hS.sp)) ?_;rintro u' w' ⟨rfl,hS⟩;refine Q1Z ?_;refine Q1z vw (Q9 (n:=2) (by kernel_rfl) (by kernel_rfl) (hS.blkAt fd) (by rfl) (by rfl)) ?_;exact ⟨_,rfl, .inl ⟨hmo,rfl,hS.sp⟩⟩;refine Q2t (by intro h;cases h) (by kernel_rfl) (step1_s (c:=c.tick) (a:=(msOf h g fr inp out fu).place m) (show St cx _ (catS p p1 p2 p3 _ (blk p 55 c.tick.cells::_)) from hS.sp)) ?_;rintro u' w' ⟨rfl,hS⟩;refine Q1Z ?_;refine Q1z vw (Q9 (n:=2) (by kernel_rfl) (by kernel_rfl) (hS.blkAt fd) (by rfl) (by rfl)) ?_;exact ⟨_,rfl, .inr ⟨hmo, .inr (.inr ⟨hX,rfl,hS.sp⟩)⟩⟩;refine Q2t (by intro h;cases h) (by kernel_rfl) (QeO (c:=c.tick) (a:=(msOf h g fr inp out fu).place m) (show St cx _ (catS p p1 p2 p3 _ (blk p 55 c.tick.cells::_)) from hS.sp)) ?_;rintro u' w' ⟨rfl,hS⟩;refine Q1Z ?_;refine Q1z vw (Q9 (n:=2) (by kernel_rfl) (by kernel_rfl) (hS.blkAt fd) (by rfl) (by rfl)) ?_;exact ⟨_,rfl, .inr ⟨hmo, .inr (.inl ⟨e,hX,rfl,fr',g',N',hN',hS.sp⟩)⟩⟩) (h:=?_);rintro u1 w1 ⟨hmo,hG⟩;obtain ⟨rfl,hG⟩:=hG.tup;obtain ⟨M,hS,hK⟩:=hG.form;have hS:St cx _ (catS p p1 p2 p3 ((msOf h g fr inp out fu).place m) (L++M)):=St.app hS)
 all_goals (refine ZaD ?_;refine zb0 [_,_] ?_;refine zsn hS ?_;intro w1 hS;have hS:=hS.ns;refine ZaS ?_)
 all_goals (refine q_retD ?_;refine Q2t (by intro h;cases h) (by kernel_rfl) (step1_n hS) ?_;rintro u1 w1 ⟨rfl,hS⟩;refine Q1Z ?_)
 all_goals (refine Q1z vw (Q9 (n:=2) (by kernel_rfl) (by kernel_rfl) (hS.blkAt fd) (by rfl) (by rfl)) ?_;exact ⟨_,rfl, .inr ⟨hmo, .inl ⟨rfl,hK _ _ (St.app (L:=M) (M:=L) (show St cx _ (L++M) from hS.drop.drop.drop))⟩⟩⟩)
end Go.Proofs.YteflkifmgnpbhaaGreat
namespace Go.Proofs.YteflkifmgnpbhaaGreat
open Go.Lir
set_option maxHeartbeats 1000000
attribute [local irreducible] LC.wp Q0 Qk Qh retQ Qt LO.wp Q4 Calls
set_option linter.unusedSimpArgs false
set_option linter.unusedVariables false
variable {cx:Cx}{w:World}{L:List Res}{p:Nat}{c:RC}{fr:List RFV}{g:RFV}{s:EstS}{out inp:List Int}{fu:Nat}{m:Module}
def RDone (p:Nat) (c:RC) (s:EstS) (out:List Int) (X:RStp) (cx:Cx) (L:List Res) (u:Value) (w':World):Prop:=
 ∃ns bv fr' g',X= .done ns∧u= .tuple #[]∧St cx w' (rS p (c.did bv) fr' g' s out (sl 2 1 bv (ns.map Qj)::L))
def ROk (p:Nat) (c:RC) (s:EstS) (out:List Int) (fu:Nat) (X:RStp) (cx:Cx) (L:List Res) (u:Value) (w':World):Prop:=RGo p c fu X cx L u w'∨RDone p c s out X cx L u w'
theorem RGo.drop {X:RStp}{u:Value}{r:Res}(hG:RGo p c fu X cx (r::L) u w):RGo p c fu X cx L u w:=by
 obtain ⟨lv,i1,ov,fr',g',s',inp',out',h1,h2,h3,hS⟩:=hG
 exact ⟨lv,i1,ov,fr',g',s',inp',out',h1,h2,h3,hS.sp⟩
theorem RGo.ok {X:RStp}{u:Value}(hG:RGo p c fu X cx L u w):ROk p c s out fu X cx L u w:= .inl hG
theorem RBad.get {X:RStp}{u:Value}(hB:RBad p c s out X cx L u w):∃e,X= .halt e∧u=Q8W e∧∃fr' g',St cx w (rS p c fr' g' s out L):=hB
theorem RDone.drop {X:RStp}{u:Value}{r:Res}(hG:RDone p c s out X cx (r::L) u w):RDone p c s out X cx L u w:=by
 obtain ⟨ns,bv,fr',g',h1,h2,hS⟩:=hG
 exact ⟨ns,bv,fr',g',h1,h2,hS.sp⟩
theorem ROk.drop {X:RStp}{u:Value}{r:Res}(hG:ROk p c s out fu X cx (r::L) u w):ROk p c s out fu X cx L u w:=hG.elim (fun h=> .inl h.drop) (fun h=> .inr h.drop)
theorem ROk.tup {X:RStp}{u:Value}(hG:ROk p c s out fu X cx L u w):u= .tuple #[]∧ROk p c s out fu X cx L u w:=by
 refine ⟨?_,hG⟩
 rcases hG with ⟨_,_,_,_,_,_,_,_,_,_,h,_⟩|⟨_,_,_,_,_,h,_⟩
 · exact h
 · exact h
theorem ROk.form {X:RStp}{u:Value}(hG:ROk p c s out fu X cx L u w):∃M,St cx w (M++L)∧∀w' L2,St cx w' (M++L2)→ROk p c s out fu X cx L2 u w':=by
 rcases hG with ⟨lv,i1,ov,fr',g',s',inp',out',h1,h2,h3,hS⟩|⟨ns,bv,fr',g',h1,h2,hS⟩
 · exact ⟨rS p (c.upd lv i1 ov) fr' g' s' out' [],hS,fun w' L2 hS=> .inl ⟨lv,i1,ov,fr',g',s',inp',out',h1,h2,h3,hS⟩⟩
 · exact ⟨_::_::_::_::_::_::_::[],hS,fun w' L2 hS=> .inr ⟨ns,bv,fr',g',h1,h2,hS⟩⟩
attribute [local irreducible] RFrm.val RFrm.args EstS.get EstS.getV EstS.code EstS.word EstS.store EstS.stores RS.ins
theorem fin_3 {r:RS}{e:Tail}(h3:e.op=3):r.fin e=Q1t (r.g.args e.args) fun vs=> match r.st with
 | c::st=> .go ((⟨r.e,c,st,r.inp,r.out,r.fuel⟩:RS).put vs)
 | []=> .done vs:=if_pos h3
theorem fin_2 {r:RS}{e:Tail}(h2:e.op=2):r.fin e=Q1t (r.g.val e.a) fun n=> if n=0 then r.to e.no else r.to e.yes:=(if_neg (by omega)).trans (if_pos h2)
theorem fin_1 {r:RS}{e:Tail}(h3:e.op≠3) (h2:e.op≠2):r.fin e=r.to e.yes:=(if_neg h3).trans (if_neg h2)
theorem rto_s {r:RS}{t:To}{vs:List Int}(h:r.g.args t.args=some vs):r.to t= .go (r.fr ⟨r.g.f,t.block.toNat,0,vs⟩):=Q1q h
theorem Qfh {r:RS}{t:To}(h:r.to t≠ .crash):∃vs,r.g.args t.args=some vs:=by obtain ⟨vs,hv,_⟩:=Q11 (o:=r.g.args t.args) h;exact ⟨vs,hv⟩
theorem rwend_c {e:Tail}{cs:List Value}(hx:endR.at cx cs e) (hi:intR.sl cx c.iv inp) (h8:e.args.length≤100) (hy:e.op≠3→0≤e.yes.block∧e.yes.args.length≤100) (hno:e.op=2→0≤e.no.block∧e.no.args.length≤100) (hf:fr.length≤900) (hfr:∀x∈fr,x.vals.length≤900000) (hX0:(rsOf s g fr inp out fu).fin e≠ .crash) (hS:St cx w (rS p c fr g s out L)):
 Rets Tryz.prog Q1F [.pointer (some ⟨p,0,none⟩), .agg ⟨cs⟩] w (ROk p c s out fu ((rsOf s g fr inp out fu).fin e) cx L):=by
 by_cases h3:e.op=3
 · rw [fin_3 h3] at hX0 ⊢
   obtain ⟨vs,hv,eX⟩:=Q11 hX0
   rw [eX]
   rcases List.eq_nil_or_concat fr with rfl|⟨fr0,k,hk⟩
   · refine (rend_d (s:=s) (out:=out) hx h3 h8 hv hS).mono ?_
     rintro u w' ⟨bv,rfl,ho,hS⟩
     exact .inr ⟨vs,bv,[],g,rfl,rfl,hS⟩
   · obtain rfl:fr=fr0++[k]:=by simpa using hk
     rw [List.length_append] at hf
     refine (rend_k (s:=s) (out:=out) hx h3 h8 hv (by omega) (hfr k (by simp)) hS).mono ?_
     rintro u w' ⟨lv,tv,rfl,hS⟩
     refine .inl ⟨lv,c.iv,c.ov,fr0,k.push tv vs,s,inp,out,?_,hi,rfl,hS⟩
     rw [Qb5];rfl
 · obtain ⟨y1,y2⟩:=hy h3
   by_cases h2:e.op=2
   · rw [fin_2 h2] at hX0 ⊢
     obtain ⟨n,hn,eX⟩:=Q11 hX0
     rw [eX] at hX0 ⊢
     by_cases h0:n=0
     · obtain ⟨n1,n2⟩:=hno h2
       rw [if_pos h0] at hX0 ⊢
       obtain ⟨vs,hv⟩:=Qfh hX0
       subst h0
       refine (rend_n (s:=s) (out:=out) hx h2 hn n2 n1 hv (by omega) hS).mono ?_
       rintro u w' ⟨vv,rfl,hS⟩
       exact .inl ⟨c.lv,c.iv,c.ov,fr,⟨g.f,e.no.block.toNat,0,vv,vs⟩,s,inp,out,rto_s hv,hi,rfl,hS⟩
     · rw [if_neg h0] at hX0 ⊢
       obtain ⟨vs,hv⟩:=Qfh hX0
       refine (rend_y (s:=s) (out:=out) hx h2 h0 hn y2 y1 hv (by omega) hS).mono ?_
       rintro u w' ⟨vv,rfl,hS⟩
       exact .inl ⟨c.lv,c.iv,c.ov,fr,⟨g.f,e.yes.block.toNat,0,vv,vs⟩,s,inp,out,rto_s hv,hi,rfl,hS⟩
   · rw [fin_1 h3 h2] at hX0 ⊢
     obtain ⟨vs,hv⟩:=Qfh hX0
     refine (rend_j (s:=s) (out:=out) hx h2 h3 y2 y1 hv (by omega) hS).mono ?_
     rintro u w' ⟨vv,rfl,hS⟩
     exact .inl ⟨c.lv,c.iv,c.ov,fr,⟨g.f,e.yes.block.toNat,0,vv,vs⟩,s,inp,out,rto_s hv,hi,rfl,hS⟩
@[reducible] def RC.over (c:RC) (e:Int):RC:=⟨c.ep,c.fn,c.lv,c.iv,e,c.bv,c.ov,c.fu,c.mo,true⟩
@[reducible] def RC.tick (c:RC):RC:=⟨c.ep,c.fn,c.lv,c.iv,c.e,c.bv,c.ov,c.fu+1,c.mo,c.dn⟩
@[reducible] def capM (p1:Nat):List Value:=[.pointer (some ⟨p1,0,none⟩)]
@[reducible] def catM (p p1:Nat):Res:=blk p1 59 [.pointer (some ⟨p,0,none⟩)]
theorem rstep1_n {p1:Nat}(hS:St cx w (catM p p1::L)):Defs Tryz.prog Q3m (capM p1) .returning w fun u' w'=> u'= .returning∧St cx w' (catM p p1::L):=by
 unfold Defs
 all_goals refine lgr tyD Tryz.func80 ?_
 all_goals (refine Qcg ?_;refine r_sp ?_;refine zn ?_;refine Zad ?_;refine r_pl ?_;refine Zac ?_;refine Qdb (ms:=#[]) (by kernel_rfl) rfl ?_;refine zn ?_)
 all_goals refine zcf ?_
 all_goals (refine zsk ?_;refine ZbP ?_;exact ⟨⟨_,rfl⟩,rfl,hS.sp⟩)
theorem Qde {p1:Nat}{e:Int}(hS:St cx w (catM p p1::blk p 66 c.cells::L)):Defs Tryz.prog Q3m (capM p1) (.panicking [{v:=Q8W e,recovered:=false}]) w fun u' w'=> u'= .panicking [{v:=Q8W e,recovered:=true}]∧St cx w' (catM p p1::blk p 66 (c.over e).cells::L):=by
 unfold Defs
 all_goals refine lgr tyD Tryz.func80 ?_
 all_goals (refine Qcg ?_;refine r_sp ?_;refine zn ?_;refine Zad ?_;refine r_pl ?_;refine Zac ?_;refine Qda (ms:=#[]) (by kernel_rfl) rfl ?_;refine zn ?_)
 all_goals refine zct ?_
 all_goals (refine Zac ?_;refine Q7x (D:= .int .i64) (by kernel_rfl) (by intro m;exact TypeDesc.noConfusion) rfl ?_;refine zm ?_;refine Zba ?_;refine zm ?_;refine Zbj ?_;refine Zbm ?_)
 all_goals refine zcf ?_
 all_goals (refine zsk ?_;refine Q10 ?_;refine zl hS ?_;refine zl hS ?_;refine ZaA ?_;refine zf0 ?_;refine zst hS ?_;intro w1 hS;have hS:=hS.ns;refine znc ?_;refine zf0 ?_;refine Yad ?_;refine zst hS ?_;intro w1 hS;have hS:=hS.ns;refine zn ?_;refine ZbP ?_;exact ⟨⟨_,rfl⟩,rfl,hS.sp⟩)
end Go.Proofs.YteflkifmgnpbhaaGreat
