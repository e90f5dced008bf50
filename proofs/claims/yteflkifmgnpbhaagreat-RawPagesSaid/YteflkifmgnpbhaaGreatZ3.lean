/- Lemmas of the proof, part 3: what the functions of the program do (contracts), and what follows. -/
import Derived.Test.YteflkifmgnpbhaaGreatZ2
import Derived.Test.YteflkifmgnpbhaaGreatZ1
import Derived.Test.YteflkifmgnpbhaaGreatProg
namespace Go.Proofs.YteflkifmgnpbhaaGreat
open Go.Lir
set_option maxHeartbeats 1000000
attribute [local irreducible] LC.wp Q0 Qh Qc retQ Qw LO.wp Q3 Calls
set_option linter.unusedSimpArgs false
set_option linter.unusedVariables false


def tkOf (n:Nat) (fr:List Int):List Bool:=(List.range n).map fun (j:Nat)=> !decide ((j:Int)∈fr)
theorem Q1o (n:Nat) (fr:List Int):(tkOf n fr).length=n:=by simp [tkOf]
theorem Q3P {n j:Nat}{fr:List Int}(h:j < n):(tkOf n fr).getD j false= !decide ((j:Int)∈fr):=by
 simp [tkOf,List.getD_eq_getElem?_getD,List.getElem?_map,List.getElem?_range h]
theorem Q9d {n:Nat}{fr:List Int}{l:List Bool}(hl:l.length=n) (h:∀j < n,l.getD j false= !decide ((j:Int)∈fr)):l=tkOf n fr:=
 Qde false (by rw [hl,Q1o]) fun j hj=> by rw [h j (by omega),Q3P (by omega)]
theorem QeE {n:Nat}{fr:List Int}{k:Nat}(hk:k < n):(tkOf n fr).set k false=tkOf n (fr++[(k:Int)]):=by
 refine Q9d (by rw [List.length_set,Q1o]) fun j hj=> ?_
 rw [Q5N (by rw [Q1o];exact hk)]
 by_cases h:k=j
 · subst h;simp
 · rw [if_neg h,Q3P hj]
   have:(j:Int)≠k:=by omega
   simp [this]
theorem QeD {n:Nat}{fr:List Int}{k:Nat}(hk:k < n) (hn:(k:Int)∉fr):(tkOf n (fr++[(k:Int)])).set k true=tkOf n fr:=by
 refine Q9d (by rw [List.length_set,Q1o]) fun j hj=> ?_
 rw [Q5N (by rw [Q1o];exact hk)]
 by_cases h:k=j
 · subst h;simp [hn]
 · rw [if_neg h,Q3P hj]
   have:(j:Int)≠k:=by omega
   simp [this]
def Q2t (n i:Nat):List Int:=(List.range i).map fun j=> ((n - 1 - j:Nat):Int)
theorem Qcf {n i:Nat}:Q2t n (i+1)=Q2t n i++[((n - 1 - i:Nat):Int)]:=by
 simp [Q2t,List.range_succ]
theorem Q4P (n i:Nat):(Q2t n i).length=i:=by simp [Q2t]
theorem Q2V {n i:Nat}{x:Int}(hi:i≤n):x∈Q2t n i↔(n:Int) - i≤x∧x < n:=by
 simp only [Q2t,List.mem_map,List.mem_range]
 constructor
 · rintro ⟨j,hj,rfl⟩;omega
 · rintro ⟨h1,h2⟩;exact ⟨n - 1 - x.toNat,by omega,by omega⟩
theorem Q6L {n i:Nat}(hi:i≤n):(Q2t n i).Nodup:=by
 unfold Q2t List.Nodup
 rw [List.pairwise_map]
 refine (List.pairwise_lt_range (n:=i)).imp_of_mem ?_
 intro a b ha hb h e
 simp only [List.mem_range] at ha hb
 omega

def Q2u (ws:List Int) (k:Nat):List Int:=ws.take (k*16)++(List.replicate 16 0++ws.drop (k*16+16))
theorem Qcm {ws:List Int}{k:Nat}:(Q2u ws k).map Qj=(ws.map Qj).take (k*16)++(List.replicate ((k+1)*16 - k*16) (Qj 0)++(ws.map Qj).drop ((k+1)*16)):=by
 rw [show (k+1)*16 - k*16=16 by omega,show (k+1)*16=k*16+16 by omega]
 simp [Q2u,List.map_take,List.map_drop]
theorem Q8t {ws:List Int}{k n:Nat}(h:ws.length=n*16) (hk:k < n):(Q2u ws k).length=n*16:=by
 simp [Q2u];omega

structure PoolOk (n:Nat) (ws fr:List Int):Prop where
 len:ws.length=n*16
 nd:fr.Nodup
 rng:∀x∈fr,0≤x∧x < n
 le:n≤64
theorem PoolOk.frlen {n:Nat}{ws fr:List Int}(h:PoolOk n ws fr):fr.length≤n:=by
 have:=Q3p (b:=Q2t n n) h.nd fun x hx=> (Q2V (Nat.le_refl n)).2 (by have:=h.rng x hx;omega)
 rw [Q4P] at this;exact this
theorem PoolOk.store {n i:Nat}{ws fr:List Int}{x:Int}(h:PoolOk n ws fr):PoolOk n (ws.set i x) fr:=⟨by rw [List.length_set];exact h.len,h.nd,h.rng,h.le⟩
theorem PoolOk.take {n k:Nat}{ws fr:List Int}(h:PoolOk n ws (fr++[(k:Int)])):PoolOk n (Q2u ws k) fr∧k < n∧(k:Int)∉fr:=by
 have hk:=h.rng k (by simp)
 obtain ⟨h1,_,h3⟩:=List.nodup_append.1 h.nd
 exact ⟨⟨Q8t h.len (by omega),h1,fun x hx=> h.rng x (by simp [hx]),h.le⟩,by omega,fun hm=> h3 _ hm _ (by simp) rfl⟩
theorem PoolOk.give {n k:Nat}{ws fr:List Int}(h:PoolOk n ws fr) (hk:k < n) (hn:(k:Int)∉fr):PoolOk n ws (fr++[(k:Int)]):=
 ⟨h.len,by rw [List.nodup_append];exact ⟨h.nd,by simp,fun a ha b hb e=> by simp at hb;subst hb;subst e;exact hn ha⟩,fun x hx=> by
   rcases List.mem_append.1 hx with hx|hx
   · exact h.rng x hx
   · simp at hx;omega,h.le⟩
theorem Q8V {n:Nat}(h:n≤64):PoolOk n (List.replicate (n*16) 0) (Q2t n n):=
 ⟨by simp,Q6L (Nat.le_refl n),fun x hx=> by have:=(Q2V (Nat.le_refl n)).1 hx;omega,h⟩


structure PoolR (H:Heap) (p:Value) (F:Nat→Prop) (n:Nat) (ws fr:List Int) (b:Nat) (vw vl vt:Value) (Fw Fl Ft:Nat→Prop):Prop where
 hp:p= .pointer (some ⟨b,0,none⟩)
 blk:Blk H b 148 [vw,vl,vt]
 sw:Sl H 2 1 vw Fw (ws.map Qj)
 sl:Sl H 3 1 vl Fl (fr.map Qj)
 st:Sl H 4 1 vt Ft ((tkOf n fr).map QF)
 nw:¬Fw b
 nl:¬Fl b
 nt:¬Ft b
 wl:∀x,Fw x→¬Fl x
 wt:∀x,Fw x→¬Ft x
 lt:∀x,Fl x→¬Ft x
 hF:∀x,F x↔x=b∨Fw x∨Fl x∨Ft x
 ok:PoolOk n ws fr
def PoolH (H:Heap) (p:Value) (F:Nat→Prop) (n:Nat) (ws fr:List Int):Prop:=∃b vw vl vt Fw Fl Ft,PoolR H p F n ws fr b vw vl vt Fw Fl Ft
theorem PoolH.fr {p:Value}{F G:Nat→Prop}{n:Nat}{ws fr:List Int}{w w':World}(h:PoolH w.heap p F n ws fr) (hf:Fr G w w') (hn:∀b,F b→¬G b):PoolH w'.heap p F n ws fr:=by
 obtain ⟨b,vw,vl,vt,Fw,Fl,Ft,h⟩:=h
 exact ⟨b,vw,vl,vt,Fw,Fl,Ft,h.hp,h.blk.fr hf (hn b ((h.hF b).2 (.inl rfl))),h.sw.fr hf (fun x hx=> hn x ((h.hF x).2 (.inr (.inl hx)))),h.sl.fr hf (fun x hx=> hn x ((h.hF x).2 (.inr (.inr (.inl hx))))),
  h.st.fr hf (fun x hx=> hn x ((h.hF x).2 (.inr (.inr (.inr hx))))),h.nw,h.nl,h.nt,h.wl,h.wt,h.lt,h.hF,h.ok⟩
theorem PoolH.lt {p:Value}{F:Nat→Prop}{n:Nat}{ws fr:List Int}{H:Heap}(h:PoolH H p F n ws fr):∀b,F b→b < H.size:=by
 obtain ⟨b,vw,vl,vt,Fw,Fl,Ft,h⟩:=h
 intro x hx
 rcases (h.hF x).1 hx with rfl|hx|hx|hx
 · exact h.blk.lt
 · exact h.sw.lt x hx
 · exact h.sl.lt x hx
 · exact h.st.lt x hx

theorem free_c {p:Value}{F:Nat→Prop}{n:Nat}{ws fr:List Int}{w:World}(h:PoolH w.heap p F n ws fr):Rets Tryz.prog Q56 [p] w fun v w'=> v= .int .i64 fr.length∧w'=w:=by
 obtain ⟨b,vw,vl,vt,Fw,Fl,Ft,rfl,hb,hw,hl,ht,nw,nl,nt,wl,wt,lt,hF,ok⟩:=h
 all_goals refine lgo tyD Tryz.func39 ?_
 all_goals (refine ZaV ?_;refine znc ?_;refine zf0 ?_;refine Q1z rfl (by assumption) (by rfl) ?_;refine Q52 (by (conv=> lhs;whnf);first|done|exact rfl) hl ?_;refine Zai ?_;exact ⟨_,rfl,by rw [List.length_map],rfl⟩)
theorem Qby {p:Value}{F:Nat→Prop}{n:Nat}{ws:List Int}{w:World}(h:PoolH w.heap p F n ws []):Rets Tryz.prog Q3x [p] w fun v w'=> v= .int .i64 (-1)∧w'=w:=by
 obtain ⟨b,vw,vl,vt,Fw,Fl,Ft,rfl,hb,hw,hl,ht,nw,nl,nt,wl,wt,lt,hF,ok⟩:=h
 all_goals refine lgo tyD Tryz.func254 ?_
 all_goals (refine ZaV ?_;refine znc ?_;refine zf0 ?_;refine Q1z rfl (by assumption) (by rfl) ?_;refine Q52 (by (conv=> lhs;whnf);first|done|exact rfl) hl ?_;rw [List.map_nil,List.length_nil];refine zsu ?_;refine ZaM ?_)
 all_goals (refine Q1k ?_)
 all_goals (refine zn ?_)
 all_goals refine zct ?_
 all_goals (refine Zao ?_;exact ⟨_,rfl,rfl,rfl⟩)
theorem take_c {p:Value}{F:Nat→Prop}{n k:Nat}{ws fr:List Int}{w:World}(h:PoolH w.heap p F n ws (fr++[(k:Int)])):Rets Tryz.prog Q3x [p] w fun v w'=> v= .int .i64 k∧PoolH w'.heap p F n (Q2u ws k) fr∧Fr F w w':=by
 obtain ⟨b,vw,vl,vt,Fw,Fl,Ft,rfl,hb,hw,hl,ht,nw,nl,nt,wl,wt,lt,hF,ok⟩:=h
 obtain ⟨ok',hk,hkn⟩:=ok.take
 have hll:((fr++[(k:Int)]).map Qj).length=fr.length+1:=by simp
 have hlw:(ws.map Qj).length=n*16:=by rw [List.length_map];exact ok.len
 have hfl:=ok.frlen;rw [List.length_append,List.length_singleton] at hfl;have hn:=ok.le
 all_goals refine lgo tyD Tryz.func254 ?_
 all_goals (refine ZaV ?_;refine znc ?_;refine zf0 ?_;refine Q1z rfl (by assumption) (by rfl) ?_;refine Q52 (by (conv=> lhs;whnf);first|done|exact rfl) hl ?_;rw [hll];refine zsu ?_;rw [show ((fr.length+1:Nat):Int) - 1=(fr.length:Int) by omega];refine ZaM ?_)
 all_goals (refine Yas ?_)
 all_goals (refine zn ?_)
 all_goals refine zcf ?_
 all_goals (refine zsk ?_;refine ZbG ?_;refine zf0 ?_;refine Q1z rfl (by assumption) (by rfl) ?_;refine zm ?_;refine Q5i (by (conv=> lhs;whnf);first|done|exact rfl) rfl hl (by omega) ?_;intro b1 o1 hel1;refine Q2K rfl hel1 (c:=Qj k) (by rw [List.map_append,List.getElem?_append_right (by rw [List.length_map];omega)];simp) rfl ?_;refine Zad ?_;refine Zas ?_;refine znc ?_;refine zf0 ?_;refine Q1z rfl (by assumption) (by rfl) ?_;refine zm ?_;refine s_subS (by (conv=> lhs;whnf);first|done|exact rfl) hl rfl ⟨_,rfl⟩ rfl (by omega) (by omega) ?_;intro vl1 hs1;rw [show ((List.map Qj (fr++[(k:Int)])).take fr.length).drop 0=fr.map Qj by rw [List.drop_zero,List.map_append,List.take_left' (by rw [List.length_map])]] at hs1;refine znc ?_;refine zf0 ?_;refine Q9i rfl (by (conv=> lhs;whnf);first|done|exact rfl) hb (by simp) hs1.oneC (by rfl) ?_;intro w2 hf2 hz2 hb2;have hs2:=hs1.fr hf2 (fun x hx e=> nl (e ▸ hx));have hw2:=hw.fr hf2 (fun x hx e=> nw (e ▸ hx));have ht2:=ht.fr hf2 (fun x hx e=> nt (e ▸ hx)))
 all_goals (refine ZaH ?_;refine znc ?_;refine zf0 ?_;refine Q1z rfl (by assumption) (by rfl) ?_;refine zm ?_;refine Q5i (by (conv=> lhs;whnf);first|done|exact rfl) rfl ht2 (by rw [List.length_map,Q1o];exact hk) ?_;intro b3 o3 hel3;refine Q9j rfl (by (conv=> lhs;whnf);first|done|exact rfl) hel3 (Q17 QF _ false (by rw [Q1o];exact hk)) (by omega) rfl ?_;intro w3 hf3 hz3 hel3';have ht3:=hel3'.sl;rw [show (QF ((tkOf n (fr++[(k:Int)])).getD k false)).set 0 (Value.bool true)=QF true from rfl,map_set,QeD hk hkn] at ht3;have hb3:=hb2.fr hf3 nt;have hs3:=hs2.fr hf3 lt;have hw3:=hw2.fr hf3 wt;refine ZaH ?_;refine znc ?_;refine zf0 ?_;refine Q1z rfl (by assumption) (by rfl) ?_;refine zm ?_;refine zmu ?_;refine zm ?_;refine zad ?_;refine zmu ?_)
 all_goals (refine s_subP (T:=2) (l':=k*16) (h':=(k+1)*16) (by (conv=> lhs;whnf);first|done|exact rfl) hw3 rfl ⟨_,rfl⟩ ⟨_,rfl⟩ (by omega) (by omega) ?_;intro v4 hsub4;refine s_clear Qch (by simp [oneC]) rfl hw3 hsub4 (by omega) (by omega) ?_;intro w4 hf4 hz4 hw4;have hb4:=hb3.fr hf4 nw;have hs4:=hs3.fr hf4 (fun x hl hw=> wl x hw hl);have ht4:=ht3.fr hf4 (fun x ht hw=> wt x hw ht);refine ZaH ?_;refine Zai ?_;refine ⟨_,rfl,rfl,⟨b,vw,vl1,vt,Fw,Fl,Ft,rfl,hb4,by rw [Qcm];exact hw4,hs4,ht4,nw,nl,nt,wl,wt,lt,hF,ok'⟩,?_⟩;refine ((hf2.mono fun x _ hx=> (hF x).2 (.inl hx)).trans (hf3.mono fun x _ hx=> (hF x).2 (.inr (.inr (.inr hx)))) (fun _ _ h=> h)).trans (hf4.mono fun x _ hx=> (hF x).2 (.inr (.inl hx))) (fun _ _ h=> h))
theorem give_c {p:Value}{F:Nat→Prop}{n k:Nat}{ws fr:List Int}{w:World}(h:PoolH w.heap p F n ws fr) (hk:k < n) (hkn:(k:Int)∉fr):Rets Tryz.prog Q3z [p, .int .i64 k] w fun v w'=> v= .bool true∧∃F',PoolH w'.heap p F' n ws (fr++[(k:Int)])∧Step F F' w w':=by
 obtain ⟨b,vw,vl,vt,Fw,Fl,Ft,rfl,hb,hw,hl,ht,nw,nl,nt,wl,wt,lt,hF,ok⟩:=h
 have hlt:((tkOf n fr).map QF).length=n:=by rw [List.length_map,Q1o]
 have hfl:=ok.frlen;have hn:=ok.le
 have htk:(tkOf n fr).getD k false=true:=by rw [Q3P hk];simp [hkn]
 all_goals refine lgo tyD Tryz.func197 ?_
 all_goals (refine Zba ?_)
 all_goals (refine Yas ?_)
 all_goals (refine Zbp ?_;refine Zbh ?_;(first|refine zgn ?_|(refine zgy ?_;(first|(refine Q2K rfl hel1 (Q17 QF _ false (by rw [Q1o];omega)) rfl ?_;rw [htk])|(refine Q1z rfl (by assumption) (by rfl) ?_))));(first|refine zgn ?_|(refine zgy ?_;refine Q52 (by (conv=> lhs;whnf);first|done|exact rfl) ht ?_)))
 all_goals (refine Yau ?_)
 all_goals ((first|refine Q1h rfl (by (conv=> lhs;whnf);first|done|exact rfl) ?_|refine Q1y rfl (by (conv=> lhs;whnf);first|done|exact rfl) ?_);refine Zak ?_;refine Zbh ?_;(first|refine zgn ?_|(refine zgy ?_;(first|(refine Q2K rfl hel1 (Q17 QF _ false (by rw [Q1o];omega)) rfl ?_;rw [htk])|(refine Q1z rfl (by assumption) (by rfl) ?_))));refine Yaa ?_;(first|refine zgn ?_|(refine zgy ?_;refine Q5i (by (conv=> lhs;whnf);first|done|exact rfl) rfl ht (by omega) ?_;intro b1 o1 hel1));(first|refine zgn ?_|(refine zgy ?_;refine Q2K rfl hel1 (Q17 QF _ false (by rw [Q1o];omega)) rfl ?_;rw [htk]));refine Yak ?_;(first|refine Q1h rfl (by (conv=> lhs;whnf);first|done|exact rfl) ?_|refine Q1y rfl (by (conv=> lhs;whnf);first|done|exact rfl) ?_))
 all_goals (refine zn ?_)
 all_goals refine zcf ?_
 all_goals (refine zsk ?_;refine ZbG ?_;refine zf0 ?_;(first|(refine Q2K rfl hel1 (Q17 QF _ false (by rw [Q1o];omega)) rfl ?_;rw [htk])|(refine Q1z rfl (by assumption) (by rfl) ?_));refine zm ?_;refine Q5i (by (conv=> lhs;whnf);first|done|exact rfl) rfl ht (by omega) ?_;intro b1 o1 hel1;refine Q9j rfl (by (conv=> lhs;whnf);first|done|exact rfl) hel1 (Q17 QF _ false (by rw [Q1o];omega)) (by omega) rfl ?_;intro w3 hf3 hz3 hel3;have ht3:=hel3.sl;rw [show (QF ((tkOf n fr).getD k false)).set 0 (Value.bool false)=QF false from rfl,map_set,QeE hk] at ht3;have hb3:=hb.fr hf3 nt;have hl3:=hl.fr hf3 lt;have hw3:=hw.fr hf3 wt;refine zn ?_;refine Zas ?_;refine znc ?_;refine zf0 ?_)
 all_goals ((first|(refine Q2K rfl hel1 (Q17 QF _ false (by rw [Q1o];omega)) rfl ?_;rw [htk])|(refine Q1z rfl (by assumption) (by rfl) ?_));refine zm ?_;refine Q2c (cs:=[_]) (by (conv=> lhs;whnf);first|done|exact rfl) (by rfl) ?_;intro b4 w4 hb4 hf4 hz4 hk4;have hb4:=hb3.fr0 hf4;have hl4:=hl3.fr0 hf4;have hw4:=hw3.fr0 hf4;have ht4:=ht3.fr0 hf4)
 all_goals (refine s_app Qgs (.inl QeA) (by (conv=> lhs;whnf);first|done|exact rfl) (by (conv=> lhs;whnf);first|done|exact rfl) hl4 (QbB hk4 rfl) (by simp;omega) ?_;rintro vl5 w5 ⟨Fl5,hl5,hf5,hsub5⟩;have hout:∀x,x < w.heap.size→¬Fl x→¬Fl5 x:=(fun x hx hn h=> (hsub5 x h).elim hn (fun hz=> absurd hz (by have:=hf3.size;have:=hf4.size;omega)));have hb5:=hb4.fr hf5 nl;have hw5:=hw4.fr hf5 wl;have ht5:=ht4.fr hf5 (fun x ht hl=> lt x hl ht))
 all_goals (refine znc ?_;refine zf0 ?_;refine Q9i rfl (by (conv=> lhs;whnf);first|done|exact rfl) hb5 (by simp) hl5.oneC (by rfl) ?_;intro w6 hf6 hz6 hb6;have nl5:=hout b hb.lt nl;have hl6:=hl5.fr hf6 (fun x hx e=> nl5 (e ▸ hx));have hw6:=hw5.fr hf6 (fun x hx e=> nw (e ▸ hx));have ht6:=ht5.fr hf6 (fun x hx e=> nt (e ▸ hx));refine zn ?_;refine Zao ?_)
 all_goals (refine ⟨_,rfl,rfl,fun x=> x=b∨Fw x∨Fl5 x∨Ft x,⟨b,vw,vl5,vt,Fw,Fl5,Ft,rfl,hb6,hw6,by rw [List.map_append];exact hl6,ht6,nw,nl5,nt,fun x hx=> hout x (hw.lt x hx) (wl x hx),wt,fun x h5 ht'=> hout x (ht.lt x ht') (fun h=> lt x h ht') h5,fun x=> Iff.rfl,ok.give hk hkn⟩,(((hf3.into fun x h=> (hF x).2 (.inr (.inr (.inr h)))).then0 hf4).cat (hf5.into fun x h=> (hF x).2 (.inr (.inr (.inl h))))).cat (hf6.into fun x h=> (hF x).2 (.inl h)),fun x hx=> ?_⟩;rcases hx with h|h|h|h;exact .inl ((hF x).2 (.inl h));exact .inl ((hF x).2 (.inr (.inl h)));(rcases hsub5 x h with h|h;exact .inl ((hF x).2 (.inr (.inr (.inl h))));exact .inr (by have:=hf3.size;have:=hf4.size;omega));exact .inl ((hF x).2 (.inr (.inr (.inr h)))))
theorem Qgf {p:Value}{F:Nat→Prop}{n:Nat}{k:Int}{ws fr:List Int}{w:World}(h:PoolH w.heap p F n ws fr) (hk:k < 0∨(n:Int)≤k∨k∈fr):Rets Tryz.prog Q3z [p, .int .i64 k] w fun v w'=> v= .bool false∧w'=w:=by
 obtain ⟨b,vw,vl,vt,Fw,Fl,Ft,rfl,hb,hw,hl,ht,nw,nl,nt,wl,wt,lt,hF,ok⟩:=h
 have hlt:((tkOf n fr).map QF).length=n:=by rw [List.length_map,Q1o]
 all_goals refine lgo tyD Tryz.func197 ?_
 all_goals (refine Zba ?_)
 all_goals (first|(refine Q1k ?_)|(refine Q1w ?_)|(refine QA rfl rfl (fun hc=> ?_) (fun hc=> ?_)))
 all_goals (refine Zbp ?_;refine Zbh ?_;(first|refine zgn ?_|(refine zgy ?_;(first|(refine Q2K rfl hel1 (Q17 QF _ false (by rw [Q1o];omega)) rfl ?_;rw [Q3P (by omega),show ((k.toNat:Nat):Int)=k by omega,decide_eq_true (show k∈fr from hk.resolve_left (by omega)|>.resolve_left (by omega))])|(refine Q1z rfl (by assumption) (by rfl) ?_))));(first|refine zgn ?_|(refine zgy ?_;refine Q52 (by (conv=> lhs;whnf);first|done|exact rfl) ht ?_)))
 all_goals (first|refine zgn ?_|(refine zgy ?_;(first|(refine Q2w ?_)|(refine Q3k ?_)|(refine Q1I rfl rfl (fun hc=> ?_) (fun hc=> ?_)))))
 all_goals ((first|refine Q1h rfl (by (conv=> lhs;whnf);first|done|exact rfl) ?_|refine Q1y rfl (by (conv=> lhs;whnf);first|done|exact rfl) ?_);refine Zak ?_;refine Zbh ?_;(first|refine zgn ?_|(refine zgy ?_;(first|(refine Q2K rfl hel1 (Q17 QF _ false (by rw [Q1o];omega)) rfl ?_;rw [Q3P (by omega),show ((k.toNat:Nat):Int)=k by omega,decide_eq_true (show k∈fr from hk.resolve_left (by omega)|>.resolve_left (by omega))])|(refine Q1z rfl (by assumption) (by rfl) ?_))));refine Yaa ?_;(first|refine zgn ?_|(refine zgy ?_;refine Qf0 (by (conv=> lhs;whnf);first|done|exact rfl) rfl ht (by omega) (by omega) ?_;intro b1 o1 hel1));(first|refine zgn ?_|(refine zgy ?_;refine Q2K rfl hel1 (Q17 QF _ false (by rw [Q1o];omega)) rfl ?_;rw [Q3P (by omega),show ((k.toNat:Nat):Int)=k by omega,decide_eq_true (show k∈fr from hk.resolve_left (by omega)|>.resolve_left (by omega))])))
 all_goals (refine Yak ?_;(first|refine Q1h rfl (by (conv=> lhs;whnf);first|done|exact rfl) ?_|refine Q1y rfl (by (conv=> lhs;whnf);first|done|exact rfl) ?_);refine zn ?_)
 all_goals refine zct ?_
 all_goals (refine Zao ?_;exact ⟨_,rfl,rfl,rfl⟩)
theorem store_c {p:Value}{F:Nat→Prop}{n i:Nat}{x:Int}{ws fr:List Int}{w:World}(h:PoolH w.heap p F n ws fr) (hi:i < n*16):Rets Tryz.prog Q38 [p, .int .i64 i, .int .i64 x] w fun v w'=> v= .bool true∧PoolH w'.heap p F n (ws.set i x) fr∧Fr F w w':=by
 obtain ⟨b,vw,vl,vt,Fw,Fl,Ft,rfl,hb,hw,hl,ht,nw,nl,nt,wl,wt,lt,hF,ok⟩:=h
 have hlw:(ws.map Qj).length=n*16:=by rw [List.length_map];exact ok.len
 have hle:=ok.le;have hol:=ok.len
 all_goals refine lgo tyD Tryz.func140 ?_
 all_goals (refine Zba ?_)
 all_goals (refine Yas ?_)
 all_goals (refine Zbp ?_;refine Zbh ?_;(first|refine zgn ?_|(refine zgy ?_;refine Q1z rfl (by assumption) (by rfl) ?_));(first|refine zgn ?_|(refine zgy ?_;refine Q52 (by (conv=> lhs;whnf);first|done|exact rfl) hw ?_)))
 all_goals (refine Yau ?_)
 all_goals ((first|refine Q1h rfl (by (conv=> lhs;whnf);first|done|exact rfl) ?_|refine Q1y rfl (by (conv=> lhs;whnf);first|done|exact rfl) ?_);refine zn ?_)
 all_goals refine zcf ?_
 all_goals (refine zsk ?_;refine ZbG ?_;refine zf0 ?_;refine Q1z rfl (by assumption) (by rfl) ?_;refine Zbg ?_;refine Q5i (by (conv=> lhs;whnf);first|done|exact rfl) rfl hw (by omega) ?_;intro b1 o1 hel1;refine Q9j rfl (by (conv=> lhs;whnf);first|done|exact rfl) hel1 (Q17 Qj _ 0 (by omega)) (by omega) rfl ?_;intro w3 hf3 hz3 hel3;have hw3:=hel3.sl;rw [show (Qj (ws.getD i 0)).set 0 (Value.int .i64 x)=Qj x from rfl,map_set] at hw3;refine zn ?_;refine Zao ?_;exact ⟨_,rfl,rfl,⟨b,vw,vl,vt,Fw,Fl,Ft,rfl,hb.fr hf3 nw,hw3,hl.fr hf3 (fun x hl hw=> wl x hw hl),ht.fr hf3 (fun x ht hw=> wt x hw ht),nw,nl,nt,wl,wt,lt,hF,ok.store⟩,hf3.into fun x h=> (hF x).2 (.inr (.inl h))⟩)
theorem Qdr {p:Value}{F:Nat→Prop}{n:Nat}{i x:Int}{ws fr:List Int}{w:World}(h:PoolH w.heap p F n ws fr) (hi:i < 0∨((n*16:Nat):Int)≤i):Rets Tryz.prog Q38 [p, .int .i64 i, .int .i64 x] w fun v w'=> v= .bool false∧w'=w:=by
 obtain ⟨b,vw,vl,vt,Fw,Fl,Ft,rfl,hb,hw,hl,ht,nw,nl,nt,wl,wt,lt,hF,ok⟩:=h
 have hlw:(ws.map Qj).length=n*16:=by rw [List.length_map];exact ok.len
 all_goals refine lgo tyD Tryz.func140 ?_
 all_goals (refine Zba ?_)
 all_goals (first|(refine Q1k ?_)|(refine Q1w ?_)|(refine QA rfl rfl (fun hc=> ?_) (fun hc=> ?_)))
 all_goals (refine Zbp ?_;refine Zbh ?_;(first|refine zgn ?_|(refine zgy ?_;refine Q1z rfl (by assumption) (by rfl) ?_));(first|refine zgn ?_|(refine zgy ?_;refine Q52 (by (conv=> lhs;whnf);first|done|exact rfl) hw ?_)))
 all_goals (first|refine zgn ?_|(refine zgy ?_;refine Q2w ?_))
 all_goals ((first|refine Q1h rfl (by (conv=> lhs;whnf);first|done|exact rfl) ?_|refine Q1y rfl (by (conv=> lhs;whnf);first|done|exact rfl) ?_);refine zn ?_)
 all_goals refine zct ?_
 all_goals (refine Zao ?_;exact ⟨_,rfl,rfl,rfl⟩)
theorem load_c {p:Value}{F:Nat→Prop}{n i:Nat}{ws fr:List Int}{w:World}(h:PoolH w.heap p F n ws fr) (hi:i < n*16):Rets Tryz.prog Q3y [p, .int .i64 i] w fun v w'=> v= .tuple #[.int .i64 (ws.getD i 0), .bool true]∧w'=w:=by
 obtain ⟨b,vw,vl,vt,Fw,Fl,Ft,rfl,hb,hw,hl,ht,nw,nl,nt,wl,wt,lt,hF,ok⟩:=h
 have hlw:(ws.map Qj).length=n*16:=by rw [List.length_map];exact ok.len
 have hle:=ok.le;have hol:=ok.len
 all_goals refine lgo tyD Tryz.func199 ?_
 all_goals (refine Zab ?_;refine ZaM ?_)
 all_goals (refine Yas ?_)
 all_goals (refine Zbp ?_;refine Zbh ?_;(first|refine zgn ?_|(refine zgy ?_;(first|(refine Q2K rfl hel1 (Q17 Qj _ 0 (by omega)) rfl ?_)|(refine Q1z rfl (by assumption) (by rfl) ?_))));(first|refine zgn ?_|(refine zgy ?_;refine Q52 (by (conv=> lhs;whnf);first|done|exact rfl) hw ?_)))
 all_goals (refine Yau ?_)
 all_goals ((first|refine Q1h rfl (by (conv=> lhs;whnf);first|done|exact rfl) ?_|refine Q1y rfl (by (conv=> lhs;whnf);first|done|exact rfl) ?_);refine zn ?_)
 all_goals refine zcf ?_
 all_goals (refine zsk ?_;refine ZbG ?_;refine zf0 ?_;(first|(refine Q2K rfl hel1 (Q17 Qj _ 0 (by omega)) rfl ?_)|(refine Q1z rfl (by assumption) (by rfl) ?_));refine zm ?_;refine Q5i (by (conv=> lhs;whnf);first|done|exact rfl) rfl hw (by omega) ?_;intro b1 o1 hel1;refine Q2K rfl hel1 (Q17 Qj _ 0 (by omega)) rfl ?_;refine Zbi ?_;exact ⟨_,rfl,rfl,rfl⟩)
theorem QfN {p:Value}{F:Nat→Prop}{n:Nat}{i:Int}{ws fr:List Int}{w:World}(h:PoolH w.heap p F n ws fr) (hi:i < 0∨((n*16:Nat):Int)≤i):Rets Tryz.prog Q3y [p, .int .i64 i] w fun v w'=> v= .tuple #[.int .i64 0, .bool false]∧w'=w:=by
 obtain ⟨b,vw,vl,vt,Fw,Fl,Ft,rfl,hb,hw,hl,ht,nw,nl,nt,wl,wt,lt,hF,ok⟩:=h
 have hlw:(ws.map Qj).length=n*16:=by rw [List.length_map];exact ok.len
 all_goals refine lgo tyD Tryz.func199 ?_
 all_goals (refine Zab ?_;refine ZaM ?_)
 all_goals (first|(refine Q1k ?_)|(refine Q1w ?_)|(refine QA rfl rfl (fun hc=> ?_) (fun hc=> ?_)))
 all_goals (refine Zbp ?_;refine Zbh ?_;(first|refine zgn ?_|(refine zgy ?_;refine Q1z rfl (by assumption) (by rfl) ?_));(first|refine zgn ?_|(refine zgy ?_;refine Q52 (by (conv=> lhs;whnf);first|done|exact rfl) hw ?_)))
 all_goals (first|refine zgn ?_|(refine zgy ?_;refine Q2w ?_))
 all_goals ((first|refine Q1h rfl (by (conv=> lhs;whnf);first|done|exact rfl) ?_|refine Q1y rfl (by (conv=> lhs;whnf);first|done|exact rfl) ?_);refine zn ?_)
 all_goals refine zct ?_
 all_goals (refine Zbx ?_;exact ⟨_,rfl,rfl,rfl⟩)
theorem tkOf_new (n:Nat):tkOf n (Q2t n n)=List.replicate n false:=by
 symm
 refine Q9d (by simp) fun j hj=> ?_
 have:(j:Int)∈Q2t n n:=(Q2V (Nat.le_refl n)).2 (by omega)
 simp [this,List.getD_eq_getElem?_getD,hj]

theorem QfE {n:Int}(w:World) (hn:n < 0∨64 < n):Rets Tryz.prog Q9A [.int .i64 n] w fun v w'=> v= .tuple #[.pointer none, .agg ⟨[.int .i64 1, .int .i64 (-1)]⟩]∧Fr NF w w':=by
 all_goals refine lgo tyD Tryz.func132 ?_
 all_goals (refine Zab ?_;refine QbI ?_;intro b3 w1 hb3e hf1 hz1 hb3;refine zn ?_;refine Zah ?_)
 all_goals (first|(refine Q1k ?_)|(refine Q1w ?_)|(refine QA rfl rfl (fun hc=> ?_) (fun hc=> ?_)))
 all_goals (refine Zak ?_)
 all_goals (first|refine zgn ?_|(refine zgy ?_;refine Q1e ?_))
 all_goals ((first|refine Q1h rfl (by (conv=> lhs;whnf);first|done|exact rfl) ?_|refine Q1y rfl (by (conv=> lhs;whnf);first|done|exact rfl) ?_);refine zn ?_)
 all_goals refine zct ?_
 all_goals (refine Zaa ?_;refine Q5A (cs:=[_,_]) (by (conv=> lhs;whnf);first|done|exact rfl) (by (conv=> lhs;whnf);first|done|exact rfl) (by rfl) ?_;refine zm ?_;refine Qaq rfl rfl (by rfl) hb3 (by simp) (by simp [oneC]) (cs':=[_,_]) (by rfl) ?_;intro w2 hf2 hz2 hb2;refine Zbb ?_;refine Q37 (by (conv=> lhs;whnf);first|done|exact rfl) (by (conv=> lhs;whnf);first|done|exact rfl) (Qa (n:=2) (by kernel_rfl) (by kernel_rfl) hb2 (by rfl) (by rfl)) ?_;exact ⟨_,rfl,rfl,Q4R hf1 (fun b hb=> by omega) hf2⟩)

theorem plnew_c {n:Nat}(w:World) (hn:n≤64):Rets Tryz.prog Q9A [.int .i64 n] w fun v w'=>∃p F,v= .tuple #[p, .agg ⟨[.int .i64 0, .int .i64 0]⟩]∧PoolH w'.heap p F n (List.replicate (n*16) 0) (Q2t n n)∧Fr NF w w'∧∀b,F b→w.heap.size≤b:=by
 all_goals refine lgo tyD Tryz.func132 ?_
 all_goals (refine Zab ?_;refine QbI ?_;intro b3 w1 hb3e hf hz1 hb3;refine zn ?_;refine Zah ?_)
 all_goals (refine Yas ?_)
 all_goals (refine Zak ?_)
 all_goals (refine Yat ?_)
 all_goals ((first|refine Q1h rfl (by (conv=> lhs;whnf);first|done|exact rfl) ?_|refine Q1y rfl (by (conv=> lhs;whnf);first|done|exact rfl) ?_);refine zn ?_)
 all_goals refine zcf ?_
 all_goals (refine zsk ?_)
 refine s_mid (fun ρ' w'=>∃(b:Nat) (vw vt:Value) (Fw Ft:Nat→Prop),Has ρ' [(0, .int .i64 n),(3, .pointer (some ⟨b3,0,none⟩)),(4, .pointer (some ⟨b,0,none⟩))]∧Blk w'.heap b 148 [vw, .slice none 0 0,vt]∧Sl w'.heap 2 1 vw Fw (List.replicate (n*16) (Qj 0))∧Sl w'.heap 4 1 vt Ft (List.replicate n (QF false))∧Blk w'.heap b3 29 [.int .i64 0, .int .i64 0]∧Fr NF w w'∧¬Fw b∧¬Ft b∧(∀x,Fw x→¬Ft x)∧b≠b3∧¬Fw b3∧¬Ft b3∧w.heap.size≤b∧(∀x,Fw x→w.heap.size≤x)∧∀x,Ft x→w.heap.size≤x) ?_ ?_
 · skip
   refine Q34 2 4 (by kernel_rfl) ?_ ?_
   · skip
     all_goals (refine QbH [(0,none),(1,none),(3,none),(2,some (some [])),(4,some none),(5,none),(6,some none),(7,some none)] (by kernel_rfl) ?_;have hf:=hf.drew';have hb3:=hb3.fr0 (Fr.drew' (Fr.refl NF _));refine s_cq ?_;refine zm ?_;refine ZaK ?_;refine s_cq ?_;refine zmu ?_;refine ZaK ?_;refine s_cq ?_;refine zm ?_;refine ZaK ?_;refine Q3U ?_;refine Qat Qch rfl rfl (by omega) (by omega) ?_;intro vw w2 hfw hw hzw;have hb3:=hb3.fr0 hfw;have hf:=hf.then0 hfw;refine ZaK ?_;refine ⟨fun _ h=> (List.not_mem_nil h).elim,?_⟩;refine s_cf ?_;refine Qat Qgt rfl rfl (by omega) (by omega) ?_;intro vt w3 hft ht hzt;have hb3:=hb3.fr0 hft;have hf:=hf.then0 hft;refine ZaK ?_;refine s_cq ?_;obtain ⟨aw,cw,rfl⟩:=hw.shape;obtain ⟨at_,ct,rfl⟩:=ht.shape;refine Q5A (cs:=[_,_,_]) (by (conv=> lhs;whnf);first|done|exact rfl) (by (conv=> lhs;whnf);first|done|exact rfl) (by rfl) ?_;refine ZaK ?_;refine s_cf ?_;have hw:=hw.fr0 hft;(first|have ht:=ht.fr0 hfw|skip);refine Qf9 (by (conv=> lhs;whnf);first|done|exact rfl) (by rfl) ?_;intro b w4 hb hf4 hz4 hblk;have hb3:=hb3.fr0 hf4;have hw:=hw.fr0 hf4;have ht:=ht.fr0 hf4;have hf:=hf.then0 hf4)
     all_goals (refine ZaK ?_;refine s_cf ?_;refine zm ?_;refine ZaK ?_;refine zcn ?_;have hd0:w1.drew.heap.size=w1.heap.size:=rfl;exact ⟨b,_,_,_,_,⟨rfl,rfl,rfl,trivial⟩,hblk,hw,ht,hb3,hf,fun (h:b=_)=> by omega,fun (h:b=_)=> by omega,fun x (h:x=_) (h':x=_)=> by omega,by omega,fun (h:b3=_)=> by omega,fun (h:b3=_)=> by omega,by omega,fun x (h:x=_)=> by omega,fun x (h:x=_)=> by omega⟩)
   · skip
     all_goals (refine QbH [(0,none),(1,none),(3,none),(4,some (some [])),(2,some (some [])),(5,none),(6,some none),(7,some none)] (by kernel_rfl) ?_;have hf:=hf.drew';have hb3:=hb3.fr0 (Fr.drew' (Fr.refl NF _));refine s_cq ?_;refine zm ?_;refine ZaK ?_;refine s_cq ?_;refine zmu ?_;refine ZaK ?_;refine s_cq ?_;refine zm ?_;refine ZaK ?_;refine Q3U ?_;refine Qat Qgt rfl rfl (by omega) (by omega) ?_;intro vt w3 hft ht hzt;have hb3:=hb3.fr0 hft;have hf:=hf.then0 hft;refine ZaK ?_;refine ⟨fun _ h=> (List.not_mem_nil h).elim,?_⟩;refine Q3U ?_;refine Qat Qch rfl rfl (by omega) (by omega) ?_;intro vw w2 hfw hw hzw;have hb3:=hb3.fr0 hfw;have hf:=hf.then0 hfw;refine ZaK ?_;refine ⟨fun _ h=> (List.not_mem_nil h).elim,?_⟩;refine s_cq ?_;obtain ⟨aw,cw,rfl⟩:=hw.shape;obtain ⟨at_,ct,rfl⟩:=ht.shape;refine Q5A (cs:=[_,_,_]) (by (conv=> lhs;whnf);first|done|exact rfl) (by (conv=> lhs;whnf);first|done|exact rfl) (by rfl) ?_;refine ZaK ?_;refine s_cf ?_;(first|have hw:=hw.fr0 hft|skip);have ht:=ht.fr0 hfw;refine Qf9 (by (conv=> lhs;whnf);first|done|exact rfl) (by rfl) ?_;intro b w4 hb hf4 hz4 hblk;have hb3:=hb3.fr0 hf4;have hw:=hw.fr0 hf4;have ht:=ht.fr0 hf4;have hf:=hf.then0 hf4)
     all_goals (refine ZaK ?_;refine s_cf ?_;refine zm ?_;refine ZaK ?_;refine zcn ?_;have hd0:w1.drew.heap.size=w1.heap.size:=rfl;exact ⟨b,_,_,_,_,⟨rfl,rfl,rfl,trivial⟩,hblk,hw,ht,hb3,hf,fun (h:b=_)=> by omega,fun (h:b=_)=> by omega,fun x (h:x=_) (h':x=_)=> by omega,by omega,fun (h:b3=_)=> by omega,fun (h:b3=_)=> by omega,by omega,fun x (h:x=_)=> by omega,fun x (h:x=_)=> by omega⟩)
 rintro ρ w5 ⟨b,vw,vt,Fw,Ft,hρ,hb0,hw0,ht0,hb30,hf0,nw,nt,wt,nb,nw3,nt3,low,loww,lowt⟩;obtain ⟨ρ,rfl⟩:=Q3I _ hρ
 all_goals (refine Zah ?_;refine ZaB ?_)
 refine Q8T (fun ρ' w'=>∃(i:Nat) (vl:Value) (Fl:Nat→Prop),Has ρ' [(0, .int .i64 n),(3, .pointer (some ⟨b3,0,none⟩)),(4, .pointer (some ⟨b,0,none⟩)),(20, .int .i64 n),(21, .int .i64 i)]∧i≤n∧Blk w'.heap b 148 [vw,vl,vt]∧Sl w'.heap 2 1 vw Fw (List.replicate (n*16) (Qj 0))∧Sl w'.heap 4 1 vt Ft (List.replicate n (QF false))∧Sl w'.heap 3 1 vl Fl ((Q2t n i).map Qj)∧Blk w'.heap b3 29 [.int .i64 0, .int .i64 0]∧Fr NF w w'∧¬Fl b∧(∀x,Fl x→¬Fw x)∧(∀x,Fl x→¬Ft x)∧¬Fl b3∧∀x,Fl x→w.heap.size≤x) (fun ρ' _=> (n - iv (ρ' 21)).toNat) ?_ ?_
 · exact ⟨0,_,NF,⟨rfl,rfl,rfl,rfl,rfl,trivial⟩,Nat.zero_le _,hb0,hw0,ht0,Sl.nil _ _ _,hb30,hf0,fun h=> h,fun _ h=> h.elim,fun _ h=> h.elim,fun h=> h,fun _ h=> h.elim⟩
 rintro ρ w5 ⟨i,vl,Fl,hρ,hi,hb,hw,ht,hl,hb3,hf,nl,lw,lt,nl3,lowl⟩;obtain ⟨ρ,rfl⟩:=Q3I _ hρ;have hsz:=hf.size;have hfl:((Q2t n i).map Qj).length=i:=(by rw [List.length_map,Q4P])
 all_goals (refine ZaQ ?_)
 refine Qn rfl (fun hc=> ?_) (fun hc=> ?_)
 · skip
   all_goals (refine ZbC ?_;refine Zad ?_;refine ZaI ?_;refine znc ?_;refine zf0 ?_;refine Q1z rfl (by assumption) (by rfl) ?_;refine zm ?_;refine zsu ?_;refine zm ?_;refine zsu ?_;refine Q2c (cs:=[_]) (by (conv=> lhs;whnf);first|done|exact rfl) (by rfl) ?_;intro b6 w6 hb6 hf6 hz6 hk6;have hb:=hb.fr0 hf6;have hw:=hw.fr0 hf6;have ht:=ht.fr0 hf6;have hl:=hl.fr0 hf6;have hb3:=hb3.fr0 hf6;have hf:=hf.then0 hf6)
   all_goals (refine s_app Qgs (.inl QeA) (by (conv=> lhs;whnf);first|done|exact rfl) (by (conv=> lhs;whnf);first|done|exact rfl) hl (QbB hk6 rfl) (by rw [hfl];simp;omega) ?_;rintro vl7 w7 ⟨Fl7,hl7,hf7,hsub7⟩;have hout:∀x,x < w6.heap.size→¬Fl x→¬Fl7 x:=(fun x hx hn h=> (hsub7 x h).elim hn (fun hz=> absurd hz (by omega)));have hll:=hw.lt;have hlt:=ht.lt;have hlb:=hb.lt;have hlb3:=hb3.lt;have hb:=hb.fr hf7 nl;have hw:=hw.fr hf7 (fun x h h'=> lw x h' h);have ht:=ht.fr hf7 (fun x h h'=> lt x h' h);have hb3:=hb3.fr hf7 nl3;have hf:=Q4R hf lowl hf7;have nl7:=hout b hlb nl;have lowl7:∀x,Fl7 x→w.heap.size≤x:=(fun x h=> (hsub7 x h).elim (lowl x) (fun h=> by omega)))
   all_goals (refine znc ?_;refine zf0 ?_;refine Q9i rfl (by (conv=> lhs;whnf);first|done|exact rfl) hb (by simp) hl7.oneC (by rfl) ?_;intro w8 hf8 hz8 hb8;have hl8:=hl7.fr hf8 (fun x hx e=> nl7 (e ▸ hx));have hw8:=hw.fr hf8 (fun x hx e=> nw (e ▸ hx));have ht8:=ht.fr hf8 (fun x hx e=> nt (e ▸ hx));have hb38:=hb3.fr hf8 (fun e=> nb e.symm);have hf8':=Q4R hf (fun x hx=> by omega) hf8;refine Zbq ?_;refine zad ?_;refine Zad ?_)
   all_goals (refine ⟨⟨i+1,vl7,Fl7,⟨rfl,rfl,rfl,rfl,rfl,trivial⟩,by omega,hb8,hw8,ht8,?_,hb38,hf8',nl7,fun x h h'=> hout x (hll x h') (fun h=> lw x h h') h,fun x h h'=> hout x (hlt x h') (fun h=> lt x h h') h,hout b3 hlb3 nl3,lowl7⟩,Qr (by omega)⟩;rw [Qcf,List.map_append];rw [show ((n - 1 - i:Nat):Int)=(n:Int) - 1 - i by omega];exact hl8)
 · skip
   all_goals (refine zex ?_;refine Zab ?_;refine Q79 (cs:=[_,_]) (by rfl) ?_;refine zm ?_;refine Qaq rfl rfl (by rfl) hb3 (by simp) (by simp [oneC]) (cs':=[_,_]) (by rfl) ?_;intro w9 hf9 hz9 hb9;refine Zbb ?_)
   all_goals (refine Q37 (by (conv=> lhs;whnf);first|done|exact rfl) (by (conv=> lhs;whnf);first|done|exact rfl) (Qa (n:=2) (by kernel_rfl) (by kernel_rfl) hb9 (by rfl) (by rfl)) ?_;obtain rfl:i=n:=(by omega);refine ⟨_,rfl,_,fun x=> x=b∨Fw x∨Fl x∨Ft x,rfl,⟨b,vw,vl,vt,Fw,Fl,Ft,rfl,hb.fr hf9 nb,?_,?_,?_,nw,nl,nt,fun x h h'=> lw x h' h,wt,lt,fun x=> Iff.rfl,Q8V hn⟩,Q4R hf (fun x hx=> by omega) hf9,?_⟩;rw [List.map_replicate];exact hw.fr hf9 (fun x hx e=> nw3 (e ▸ hx));exact hl.fr hf9 (fun x hx e=> nl3 (e ▸ hx));rw [tkOf_new,List.map_replicate];exact ht.fr hf9 (fun x hx e=> nt3 (e ▸ hx));rintro x (rfl|h|h|h);exact low;exact loww x h;exact lowl x h;exact lowt x h)
end Go.Proofs.YteflkifmgnpbhaaGreat

namespace Go.Proofs.YteflkifmgnpbhaaGreat
open Go.Lir
set_option maxHeartbeats 1000000
attribute [local irreducible] LC.wp Q0 Qh Qc retQ Qw LO.wp Q3 Calls
set_option linter.unusedSimpArgs false
set_option linter.unusedVariables false

end Go.Proofs.YteflkifmgnpbhaaGreat
namespace Go.Proofs.YteflkifmgnpbhaaGreat
open Go.Lir
set_option maxHeartbeats 1000000
attribute [local irreducible] LC.wp Q0 Qh Qc retQ Qw LO.wp Q3 Calls
set_option linter.unusedSimpArgs false
set_option linter.unusedVariables false

structure PoolS where
 n:Nat
 ws:List Int
 fr:List Int
def PoolS.Ok (s:PoolS):Prop:=PoolOk s.n s.ws s.fr
def PoolS.mk0 (n:Nat):PoolS:=⟨n,List.replicate (n*16) 0,Q2t n n⟩
def PoolS.top (s:PoolS):Int:=s.fr.getLastD (-1)
def PoolS.take (s:PoolS):PoolS:=if s.fr=[] then s else ⟨s.n,Q2u s.ws s.top.toNat,s.fr.dropLast⟩
def PoolS.can (s:PoolS) (k:Int):Bool:=decide (0≤k∧k < s.n∧k∉s.fr)
def PoolS.give (s:PoolS) (k:Int):PoolS:=if s.can k then ⟨s.n,s.ws,s.fr++[k]⟩ else s
def PoolS.isIn (s:PoolS) (i:Int):Bool:=decide (0≤i∧i < ((s.n*16:Nat):Int))
def PoolS.store (s:PoolS) (i x:Int):PoolS:=if s.isIn i then ⟨s.n,s.ws.set i.toNat x,s.fr⟩ else s
def PoolS.word (s:PoolS) (i:Int):Int:=if s.isIn i then s.ws.getD i.toNat 0 else 0

theorem PoolS.ok_new {n:Nat}(h:n≤64):(PoolS.mk0 n).Ok:=Q8V h
theorem PoolS.split {s:PoolS}(h:s.Ok):(s.fr=[]∧s.top=-1∧s.take=s)∨∃(k:Nat) (fr:List Int),s=⟨s.n,s.ws,fr++[(k:Int)]⟩∧s.top=k∧s.take=⟨s.n,Q2u s.ws k,fr⟩:=by
 obtain ⟨n,ws,fr⟩:=s
 rcases List.eq_nil_or_concat fr with rfl|⟨fr,k,rfl⟩
 · exact .inl ⟨rfl,rfl,rfl⟩
 · simp only [List.concat_eq_append] at h ⊢
   have hk:=h.rng k (by simp)
   refine .inr ⟨k.toNat,fr,by rw [Int.toNat_of_nonneg hk.1],?_,?_⟩
   · simp [PoolS.top];omega
   · simp [PoolS.take,PoolS.top]
theorem PoolS.ok_take {s:PoolS}(h:s.Ok):s.take.Ok:=by
 rcases PoolS.split h with ⟨_,_,e⟩|⟨k,fr,e,_,e2⟩
 · rw [e];exact h
 · rw [e2];rw [e] at h;exact (PoolOk.take h).1
theorem PoolS.ok_give {s:PoolS}(h:s.Ok) (k:Int):(s.give k).Ok:=by
 unfold PoolS.give PoolS.can
 split
 · rename_i hc
   have hc:=of_decide_eq_true hc
   obtain ⟨k,rfl⟩:=Int.eq_ofNat_of_zero_le hc.1
   exact PoolOk.give (n:=s.n) h (by omega) hc.2.2
 · exact h
theorem PoolS.ok_store {s:PoolS}(h:s.Ok) (i x:Int):(s.store i x).Ok:=by
 unfold PoolS.store
 split
 · exact PoolOk.store h
 · exact h
theorem PoolS.n_take {s:PoolS}:s.take.n=s.n:=by unfold PoolS.take;split <;> rfl
theorem PoolS.n_give {s:PoolS}{k:Int}:(s.give k).n=s.n:=by unfold PoolS.give;split <;> rfl
theorem PoolS.n_store {s:PoolS}{i x:Int}:(s.store i x).n=s.n:=by unfold PoolS.store;split <;> rfl
theorem PoolS.fr_store {s:PoolS}{i x:Int}:(s.store i x).fr=s.fr:=by unfold PoolS.store;split <;> rfl

def Q1C (p:Value) (s:PoolS):Res where
 A H F:=PoolH H p F s.n s.ws s.fr
 loc:=by
  rintro H H' F ⟨b,vw,vl,vt,Fw,Fl,Ft,h⟩ hs
  have hF:=h.hF
  exact ⟨b,vw,vl,vt,Fw,Fl,Ft,h.hp,h.blk.of_same (hs b ((hF b).2 (.inl rfl)) h.blk.lt),h.sw.of_same (fun x hx=> hs x ((hF x).2 (.inr (.inl hx)))),h.sl.of_same (fun x hx=> hs x ((hF x).2 (.inr (.inr (.inl hx))))),
   h.st.of_same (fun x hx=> hs x ((hF x).2 (.inr (.inr (.inr hx))))),h.nw,h.nl,h.nt,h.wl,h.wt,h.lt,h.hF,h.ok⟩
 lt:=PoolH.lt
 ext:=by
  rintro H F G ⟨b,vw,vl,vt,Fw,Fl,Ft,h⟩ hs
  exact ⟨b,vw,vl,vt,Fw,Fl,Ft,h.hp,h.blk,h.sw,h.sl,h.st,h.nw,h.nl,h.nt,h.wl,h.wt,h.lt,fun x=> (hs x).symm.trans (h.hF x),h.ok⟩
theorem poolX_ok {cx:Cx}{w:World}{L:List Res}{i:Nat}{p:Value}{s:PoolS}(hS:St cx w L) (hi:nth L i=some (Q1C p s)):s.Ok:=by
 obtain ⟨F,hr,_⟩:=hS.step hi
 obtain ⟨b,vw,vl,vt,Fw,Fl,Ft,h⟩:=hr
 exact h.ok
theorem Q2S:∀{L:List Res}{i:Nat}{r:Res},nth L i=some r→L.set i r=L
 | [],_,_,h=> by cases h
 | s::L,0,r,h=> by simp only [nth,Option.some.injEq] at h;subst h;rfl
 | s::L,i+1,r,h=> by rw [List.set_cons_succ,Q2S (L:=L) (i:=i) h]

variable {cx:Cx}{w:World}{L:List Res}{i:Nat}{p:Value}{s:PoolS}
theorem free_x (hS:St cx w L) (hi:nth L i=some (Q1C p s)):Rets Tryz.prog Q56 [p] w fun v w'=> v= .int .i64 s.fr.length∧St cx w' L:=by
 obtain ⟨F,hr,_⟩:=hS.step hi
 exact (free_c hr).mono fun v w' ⟨h,h2⟩=> ⟨h,h2 ▸ hS⟩
theorem take_x (hS:St cx w L) (hi:nth L i=some (Q1C p s)):Rets Tryz.prog Q3x [p] w fun v w'=> v= .int .i64 s.top∧St cx w' (L.set i (Q1C p s.take)):=by
 obtain ⟨F,hr,_,hst⟩:=hS.step hi
 rcases PoolS.split (poolX_ok hS hi) with ⟨h1,h2,h3⟩|⟨k,fr,h1,h2,h3⟩
 · rw [h2,h3,Q2S hi]
   have hr':PoolH w.heap p F s.n s.ws []:=h1 ▸ hr
   exact (Qby hr').mono fun v w' ⟨h,h2⟩=> ⟨h,h2 ▸ hS⟩
 · rw [h2,h3]
   have hr':PoolH w.heap p F s.n s.ws (fr++[(k:Int)]):=by rw [h1] at hr;exact hr
   exact (take_c hr').mono fun v w' ⟨h,h4,h5⟩=> ⟨h,hst w' F _ h4 (Step.same h5)⟩
theorem give_x (k:Int) (hS:St cx w L) (hi:nth L i=some (Q1C p s)):Rets Tryz.prog Q3z [p, .int .i64 k] w fun v w'=> v= .bool (s.can k)∧St cx w' (L.set i (Q1C p (s.give k))):=by
 obtain ⟨F,hr,_,hst⟩:=hS.step hi
 unfold PoolS.give
 by_cases hc:0≤k∧k < s.n∧k∉s.fr
 · have e:s.can k=true:=decide_eq_true hc
   rw [e,if_pos rfl]
   obtain ⟨k,rfl⟩:=Int.eq_ofNat_of_zero_le hc.1
   exact (give_c hr (by omega) hc.2.2).mono fun v w' ⟨h,F',h4,h5⟩=> ⟨h,hst w' F' _ h4 h5⟩
 · have e:s.can k=false:=decide_eq_false hc
   rw [e,if_neg (by simp),Q2S hi]
   refine (Qgf hr ?_).mono fun v w' ⟨h,h2⟩=> ⟨h,h2 ▸ hS⟩
   by_cases h1:k < 0
   · exact .inl h1
   · by_cases h2:(s.n:Int)≤k
     · exact .inr (.inl h2)
     · exact .inr (.inr (Classical.not_not.1 fun h3=> hc ⟨by omega,by omega,h3⟩))
theorem Q9f (j x:Int) (hS:St cx w L) (hi:nth L i=some (Q1C p s)):Rets Tryz.prog Q38 [p, .int .i64 j, .int .i64 x] w fun v w'=> v= .bool (s.isIn j)∧St cx w' (L.set i (Q1C p (s.store j x))):=by
 obtain ⟨F,hr,_,hst⟩:=hS.step hi
 unfold PoolS.store
 by_cases hc:0≤j∧j < ((s.n*16:Nat):Int)
 · have e:s.isIn j=true:=decide_eq_true hc
   rw [e,if_pos rfl]
   obtain ⟨j,rfl⟩:=Int.eq_ofNat_of_zero_le hc.1
   exact (store_c hr (by omega)).mono fun v w' ⟨h,h4,h5⟩=> ⟨h,hst w' F _ h4 (Step.same h5)⟩
 · have e:s.isIn j=false:=decide_eq_false hc
   rw [e,if_neg (by simp),Q2S hi]
   exact (Qdr hr (by omega)).mono fun v w' ⟨h,h2⟩=> ⟨h,h2 ▸ hS⟩
theorem load_x (j:Int) (hS:St cx w L) (hi:nth L i=some (Q1C p s)):Rets Tryz.prog Q3y [p, .int .i64 j] w fun v w'=> v= .tuple #[.int .i64 (s.word j), .bool (s.isIn j)]∧St cx w' L:=by
 obtain ⟨F,hr,_⟩:=hS.step hi
 unfold PoolS.word
 by_cases hc:0≤j∧j < ((s.n*16:Nat):Int)
 · have e:s.isIn j=true:=decide_eq_true hc
   rw [e,if_pos rfl]
   obtain ⟨j,rfl⟩:=Int.eq_ofNat_of_zero_le hc.1
   exact (load_c hr (by omega)).mono fun v w' ⟨h,h2⟩=> ⟨h,h2 ▸ hS⟩
 · have e:s.isIn j=false:=decide_eq_false hc
   rw [e,if_neg (by simp)]
   exact (QfN hr (by omega)).mono fun v w' ⟨h,h2⟩=> ⟨h,h2 ▸ hS⟩
theorem new_x (n:Int) (hS:St cx w L):Rets Tryz.prog Q9A [.int .i64 n] w fun v w'=>
 (n < 0∨64 < n)∧v= .tuple #[.pointer none, .agg ⟨[.int .i64 1, .int .i64 (-1)]⟩]∧St cx w' L∨
 ∃(m:Nat) (b:Nat),n=m∧m≤64∧v= .tuple #[.pointer (some ⟨b,0,none⟩), .agg ⟨[.int .i64 0, .int .i64 0]⟩]∧St cx w' (Q1C (.pointer (some ⟨b,0,none⟩)) (PoolS.mk0 m)::L):=by
 by_cases hc:n < 0∨64 < n
 · exact (QfE w hc).mono fun v w' ⟨h,h2⟩=> .inl ⟨hc,h,hS.fr0 h2⟩
 · obtain ⟨m,rfl⟩:=Int.eq_ofNat_of_zero_le (show 0≤n by omega)
   refine (plnew_c w (show m≤64 by omega)).mono ?_
   rintro v w' ⟨p,F,h,h2,h3,h4⟩
   have h2':=h2
   obtain ⟨b,_,_,_,_,_,_,h5⟩:=h2'
   have hp:=h5.hp
   subst hp
   exact .inr ⟨m,b,rfl,by omega,h,hS.new (r:=Q1C _ (PoolS.mk0 m)) h2 h3 h4⟩
end Go.Proofs.YteflkifmgnpbhaaGreat
namespace Go.Proofs.YteflkifmgnpbhaaGreat
open Go.Lir
def Qe5 (ws:List Int) (k:Nat):Nat→List Int
 | 0=> ws
 | i+1=> (Qe5 ws k i).set (k*16+i) 0
theorem Q5U (ws:List Int) (k:Nat):∀i,(Qe5 ws k i).length=ws.length
 | 0=> rfl
 | i+1=> by rw [Qe5,List.length_set,Q5U ws k i]
theorem Q8q (ws:List Int) (k:Nat):∀(i j:Nat),k*16+i≤ws.length→(Qe5 ws k i).getD j 0=if k*16≤j∧j < k*16+i then 0 else ws.getD j 0
 | 0,j,_=> by rw [if_neg (by omega)];rfl
 | i +1,j,h=> by
   rw [Qe5,Q5N (by rw [Q5U];omega),Q8q ws k i j (by omega)]
   by_cases h1:k*16+i=j
   · rw [if_pos h1,if_pos (by omega)]
   · rw [if_neg h1]
     by_cases h2:k*16≤j∧j < k*16+i
     · rw [if_pos h2,if_pos (by omega)]
     · rw [if_neg h2,if_neg (by omega)]
theorem Qgz {ws:List Int}{k n:Nat}(h:ws.length=n*16) (hk:k < n):Qe5 ws k 16=Q2u ws k:=by
 refine Qde 0 (by rw [Q5U,Q8t h hk,h]) fun j hj=> ?_
 rw [Q5U] at hj
 rw [Q8q ws k 16 j (by omega)]
 simp only [Q2u,List.getD_eq_getElem?_getD]
 have hl:(ws.take (k*16)).length=k*16:=by rw [List.length_take];omega
 by_cases h1:j < k*16
 · rw [if_neg (by omega),List.getElem?_append_left (by omega),List.getElem?_take_of_lt h1]
 · rw [List.getElem?_append_right (by omega),hl]
   by_cases h2:j < k*16+16
   · rw [if_pos (by omega),List.getElem?_append_left (by simp;omega),List.getElem?_replicate,if_pos (by omega)];rfl
   · rw [if_neg (by omega),List.getElem?_append_right (by simp;omega),List.getElem?_drop]
     congr 2
     simp;omega

end Go.Proofs.YteflkifmgnpbhaaGreat
namespace Go.Proofs.YteflkifmgnpbhaaGreat
open Go.Lir
set_option maxHeartbeats 1000000
attribute [local irreducible] LC.wp Q0 Qh Qc retQ Qw LO.wp Q3 Calls
set_option linter.unusedSimpArgs false
set_option linter.unusedVariables false

def TkOk (s:PoolS) (tk:List Int):Prop:=tk.Nodup∧∀k,k∈tk↔s.can k=true
theorem can_iff {s:PoolS}{k:Int}:s.can k=true↔0≤k∧k < s.n∧k∉s.fr:=decide_eq_true_iff
theorem TkOk.len {s:PoolS}{tk:List Int}(h:TkOk s tk) (ok:s.Ok):tk.length+s.fr.length=s.n:=by
 have hnd:(tk++s.fr).Nodup:=List.nodup_append.2 ⟨h.1,ok.nd,fun a ha b hb e=> by subst e;exact (can_iff.1 ((h.2 a).1 ha)).2.2 hb⟩
 have h1:=Q3p (b:=Q2t s.n s.n) hnd fun x hx=> (Q2V (Nat.le_refl _)).2 (by
  rcases List.mem_append.1 hx with hx|hx
  · have:=can_iff.1 ((h.2 x).1 hx);omega
  · have:=ok.rng x hx;omega)
 have h2:=Q3p (b:=tk++s.fr) (Q6L (Nat.le_refl s.n)) fun x hx=> by
  have:=(Q2V (Nat.le_refl _)).1 hx
  by_cases hm:x∈s.fr
  · exact List.mem_append_right _ hm
  · exact List.mem_append_left _ ((h.2 x).2 (can_iff.2 ⟨by omega,by omega,hm⟩))
 rw [Q4P,List.length_append] at*;omega
theorem TkOk.new {n:Nat}:TkOk (PoolS.mk0 n) []:=⟨List.nodup_nil,fun k=> ⟨fun h=> absurd h (by simp),fun h=> by
 obtain ⟨h1,h2,h3⟩:=can_iff.1 h
 exact absurd ((Q2V (Nat.le_refl n)).2 (by simp only [PoolS.mk0] at h2;omega)) h3⟩⟩
theorem TkOk.take {s:PoolS}{tk:List Int}(h:TkOk s tk) (ok:s.Ok){k:Nat}{fr:List Int}(h1:s=⟨s.n,s.ws,fr++[(k:Int)]⟩) (h2:s.top=k) (h3:s.take=⟨s.n,Q2u s.ws k,fr⟩):s.top∉tk∧k < s.n∧TkOk s.take (tk++[s.top]):=by
 have ok':PoolOk s.n s.ws (fr++[(k:Int)]):=by rw [h1] at ok;exact ok
 obtain ⟨_,hk,hkn⟩:=ok'.take
 have hfr:s.fr=fr++[(k:Int)]:=by rw [h1]
 have hnot:(k:Int)∉tk:=fun hm=> (can_iff.1 ((h.2 k).1 hm)).2.2 (by rw [hfr];simp)
 refine ⟨by rw [h2];exact hnot,hk,?_,fun x=> ?_⟩
 · rw [h2];exact List.nodup_append.2 ⟨h.1,by simp,fun a ha b hb e=> by simp at hb;subst hb;subst e;exact hnot ha⟩
 · rw [h2,List.mem_append,List.mem_singleton,h.2 x,can_iff,can_iff,h3,hfr,List.mem_append,List.mem_singleton]
   constructor
   · rintro (⟨h1,h2,h3⟩|rfl)
     · exact ⟨h1,h2,fun h=> h3 (.inl h)⟩
     · exact ⟨by omega,by simpa using hk,hkn⟩
   · rintro ⟨h1,h2,h3⟩
     by_cases hx:x=k
     · exact .inr hx
     · exact .inl ⟨h1,h2,fun h=> h.elim h3 hx⟩
theorem TkOk.give {s:PoolS}{tk:List Int}(h:TkOk s tk) (k:Int):TkOk (s.give k) (tk.filter fun y=> decide (y≠k)):=by
 refine ⟨h.1.filter _,fun x=> ?_⟩
 rw [List.mem_filter,h.2 x,can_iff,can_iff,decide_eq_true_iff,PoolS.n_give]
 unfold PoolS.give
 split
 · simp only [List.mem_append,List.mem_singleton,not_or]
   constructor
   · rintro ⟨⟨h1,h2,h3⟩,h4⟩;exact ⟨h1,h2,h3,h4⟩
   · rintro ⟨h1,h2,h3,h4⟩;exact ⟨⟨h1,h2,h3⟩,h4⟩
 · rename_i hc
   constructor
   · rintro ⟨h1,_⟩;exact h1
   · intro h1;exact ⟨h1,fun e=> hc (by subst e;exact can_iff.2 h1)⟩
theorem TkOk.store {s:PoolS}{tk:List Int}(h:TkOk s tk) (k x:Int):TkOk (s.store k x) tk:=⟨h.1,fun y=> by rw [h.2 y,can_iff,can_iff,PoolS.n_store,PoolS.fr_store]⟩
theorem TkOk.perm {s:PoolS}{l l':List Int}(h:TkOk s l) (hp:l.Perm l'):TkOk s l':=⟨hp.nodup_iff.1 h.1,fun k=> by rw [←h.2 k];exact hp.mem_iff.symm⟩
def PoolS.gives (s:PoolS) (l:List Int):PoolS:=l.foldl PoolS.give s
theorem PoolS.n_gives {l:List Int}:∀{s:PoolS},(s.gives l).n=s.n:=by
 induction l with
 | nil=> intro s;rfl
 | cons k l ih=> intro s;exact (ih (s:=s.give k)).trans PoolS.n_give
theorem PoolS.ok_gives {l:List Int}:∀{s:PoolS},s.Ok→(s.gives l).Ok:=by
 induction l with
 | nil=> intro s h;exact h
 | cons k l ih=> intro s h;exact ih (s:=s.give k) (PoolS.ok_give h k)
theorem QdV {s:PoolS}{l:List Int}{j:Nat}(h:j < l.length):s.gives (l.take (j+1))=(s.gives (l.take j)).give (l.getD j 0):=by
 rw [Q3u 0 h];simp [PoolS.gives,List.foldl_append]
theorem TkOk.gives {l rest:List Int}:∀{s:PoolS},TkOk s (l++rest)→TkOk (s.gives l) rest:=by
 induction l with
 | nil=> intro s h;exact h
 | cons k l ih=>
   intro s h
   have h1:=h.give k
   have hnd:=h.1
   rw [List.cons_append,List.nodup_cons] at hnd
   have e:((k::l++rest).filter fun y=> decide (y≠k))=l++rest:=by
    rw [List.cons_append,List.filter_cons_of_neg (by simp)]
    exact List.filter_eq_self.2 fun y hy=> decide_eq_true fun e=> hnd.1 (e ▸ hy)
   rw [e] at h1
   exact ih h1
theorem Qda {α:Type}:∀{l:List α}{k:Nat}{x:α},l[k]?=some x→l.Perm (x::l.eraseIdx k)
 | [],_,_,h=> by simp at h
 | y::l,0,x,h=> by simp at h;subst h;exact .refl _
 | y::l,k+1,x,h=> ((Qda (l:=l) (by simpa using h)).cons y).trans (.swap _ _ _)
theorem QcC {α:Type}:∀{l:List α}{k:Nat}{x:α},k < l.length→(l.set k x).Perm (x::l.eraseIdx k)
 | [],_,_,h=> by simp at h
 | y::l,0,x,h=> .refl _
 | y::l,k+1,x,h=> ((QcC (l:=l) (by simpa using h)).cons y).trans (.swap _ _ _)
end Go.Proofs.YteflkifmgnpbhaaGreat
namespace Go.Proofs.YteflkifmgnpbhaaGreat
open Go.Lir
set_option maxHeartbeats 1000000
attribute [local irreducible] LC.wp Q0 Qh Qc retQ Qw LO.wp Q3 Calls
set_option linter.unusedSimpArgs false
set_option linter.unusedVariables false

structure Reg where
 there:Bool
 pages:List Int
 used:Int
def Reg.none:Reg:=⟨false,[],0⟩
structure EstS where
 p:PoolS
 rs:List Reg
def EstS.reg (s:EstS) (k:Int):Reg:=if 0≤k then s.rs.getD k.toNat Reg.none else Reg.none
def EstS.has (s:EstS) (k:Int):Bool:=(s.reg k).there
def EstS.all (s:EstS):List Int:=s.rs.flatMap Reg.pages
structure EstS.Ok (s:EstS):Prop where
 len:s.rs.length=16
 off:∀r∈s.rs,r.there=false→r=Reg.none
 used:∀r∈s.rs,0≤r.used∧r.used≤16
 tk:TkOk s.p s.all
 pok:s.p.Ok
 n64:s.p.n≤64
def EstS.low (s:EstS):Nat:=s.rs.findIdx fun r=> !r.there
def EstS.open (s:EstS):EstS:=if s.low < 16 then ⟨s.p,s.rs.set s.low ⟨true,[],0⟩⟩ else s
def EstS.openV (s:EstS):Int:=if s.low < 16 then s.low else -1
def EstS.shut (s:EstS) (k:Int):EstS:=if s.has k then ⟨s.p.gives (s.reg k).pages,s.rs.set k.toNat Reg.none⟩ else s
def Reg.more (r:Reg) (n:Int):Bool:=decide (r.pages=[]∨16 < r.used+n)
def Reg.last (r:Reg):Int:=r.pages.getLastD 0
def EstS.code (s:EstS) (k n:Int):Int:=if !s.has k then 15 else if n < 1∨16 < n then 1 else if (s.reg k).more n∧s.p.fr=[] then 14 else 0
def Reg.grow (r:Reg) (p:Int):Reg:=⟨r.there,r.pages++[p],0⟩
def Reg.use (r:Reg) (n:Int):Reg:=⟨r.there,r.pages,r.used+n⟩
def EstS.regTo (s:EstS) (k n:Int):Reg:=if (s.reg k).more n then (s.reg k).grow s.p.top else s.reg k
def EstS.get (s:EstS) (k n:Int):EstS:=if s.code k n=0 then ⟨if (s.reg k).more n then s.p.take else s.p,s.rs.set k.toNat ((s.regTo k n).use n)⟩ else s
def EstS.getV (s:EstS) (k n:Int):Int:=if s.code k n=0 then (s.regTo k n).last*16+(s.regTo k n).used else 0
def EstS.count (s:EstS):Int:=(s.rs.countP fun r=> r.there:Nat)
def EstS.mk0 (n:Nat):EstS:=⟨PoolS.mk0 n,List.replicate 16 Reg.none⟩

theorem EstS.reg_at {s:EstS}(h:s.Ok){k:Nat}(hk:k < 16):s.rs[k]?=some (s.reg k):=by
 have:=h.len
 unfold EstS.reg
 rw [if_pos (by omega),show (k:Int).toNat=k by omega]
 exact getD_get (by omega)
theorem EstS.reg_out {s:EstS}(h:s.Ok){k:Int}(hk:k < 0∨16≤k):s.reg k=Reg.none:=by
 have:=h.len
 unfold EstS.reg
 split
 · rw [List.getD_eq_getElem?_getD,List.getElem?_eq_none (by omega)];rfl
 · rfl
theorem EstS.has_in {s:EstS}(h:s.Ok){k:Int}(hk:s.has k=true):∃m:Nat,k=m∧m < 16:=by
 by_cases hc:k < 0∨16≤k
 · unfold EstS.has at hk;rw [EstS.reg_out h hc] at hk;cases hk
 · exact ⟨k.toNat,by omega,by omega⟩
theorem Qdm {s:EstS}{k:Nat}{r:Reg}(hr:s.rs[k]?=some r):s.all.Perm (r.pages++(s.rs.eraseIdx k).flatMap Reg.pages):=by
 have:=(Qda hr).flatMap_right Reg.pages
 rw [List.flatMap_cons] at this;exact this
theorem Q6R {rs:List Reg}{k:Nat}{r':Reg}(hk:k < rs.length):((rs.set k r').flatMap Reg.pages).Perm (r'.pages++(rs.eraseIdx k).flatMap Reg.pages):=by
 have:=(QcC (x:=r') hk).flatMap_right Reg.pages
 simpa [List.flatMap_cons] using this
theorem mem_set_of {α:Type}{l:List α}{k:Nat}{x y:α}(h:y∈l.set k x):y=x∨y∈l:=(List.mem_or_eq_of_mem_set h).symm
theorem EstS.ok_set {s:EstS}(h:s.Ok){p:PoolS}{k:Nat}(hk:k < 16){r':Reg}(h1:r'.there=false→r'=Reg.none) (h2:0≤r'.used∧r'.used≤16) (h3:TkOk p (r'.pages++(s.rs.eraseIdx k).flatMap Reg.pages)) (h4:p.Ok) (h5:p.n=s.p.n):(⟨p,s.rs.set k r'⟩:EstS).Ok:=by
 have hl:=h.len
 refine ⟨by simpa using hl,fun r hr=> ?_,fun r hr=> ?_,h3.perm (Q6R (by omega)).symm,h4,by rw [h5];exact h.n64⟩
 · rcases mem_set_of hr with rfl|hr
   · exact h1
   · exact h.off r hr
 · rcases mem_set_of hr with rfl|hr
   · exact h2
   · exact h.used r hr
theorem EstS.tk_at {s:EstS}(h:s.Ok){k:Nat}(hk:k < 16):TkOk s.p ((s.reg k).pages++(s.rs.eraseIdx k).flatMap Reg.pages):=h.tk.perm (Qdm (EstS.reg_at h hk))
theorem EstS.ok_new {n:Nat}(hn:n≤64):(EstS.mk0 n).Ok:=
 ⟨by simp [EstS.mk0],fun r hr _=> List.eq_of_mem_replicate hr,fun r hr=> by rw [List.eq_of_mem_replicate hr];simp [Reg.none],by
   have:(EstS.mk0 n).all=[]:=by simp [EstS.all,EstS.mk0,Reg.none,List.flatMap_replicate]
   rw [this];exact TkOk.new,PoolS.ok_new hn,hn⟩

theorem EstS.low_le {s:EstS}(h:s.Ok):s.low≤16:=by have:=List.findIdx_le_length (xs:=s.rs) (p:=fun r=> !r.there);rw [h.len] at this;exact this
theorem EstS.low_eq {s:EstS}(h:s.Ok){i:Nat}(hi:i < 16) (h1:(s.reg i).there=false) (h2:∀j,j < i→(s.reg (j:Nat)).there=true):s.low=i:=by
 have hl:=h.len
 refine (List.findIdx_eq (by omega)).2 ⟨?_,fun j hj=> ?_⟩
 · have:=EstS.reg_at h hi
   rw [List.getElem?_eq_getElem (by omega)] at this
   simp only [Option.some.injEq] at this
   rw [this,h1];rfl
 · have:=EstS.reg_at h (show j < 16 by omega)
   rw [List.getElem?_eq_getElem (by omega)] at this
   simp only [Option.some.injEq] at this
   rw [this,h2 j hj];rfl
theorem EstS.low_full {s:EstS}(h:s.Ok) (h2:∀j,j < 16→(s.reg (j:Nat)).there=true):s.low=16:=by
 have hl:=h.len
 rw [←hl]
 refine List.findIdx_eq_length.2 fun r hr=> ?_
 obtain ⟨j,hj⟩:=List.mem_iff_getElem?.1 hr
 have hj16:j < 16:=by have:=(List.getElem?_eq_some_iff.1 hj).1;omega
 have:=EstS.reg_at h hj16
 rw [hj] at this
 simp only [Option.some.injEq] at this
 rw [this,h2 j hj16];rfl
theorem EstS.low_off {s:EstS}(h:s.Ok) (hl:s.low < 16):s.reg s.low=Reg.none:=by
 have h1:=EstS.reg_at h hl
 have h2:s.low < s.rs.length:=by rw [h.len];exact hl
 have h3:=List.findIdx_getElem (xs:=s.rs) (p:=fun r:Reg=> !r.there) (w:=h2)
 rw [List.getElem?_eq_getElem h2] at h1
 simp only [Option.some.injEq] at h1
 have h4:(s.rs[s.low]'h2).there=false:=by have h5:(!(s.rs[s.low]'h2).there)=true:=h3;simpa using h5
 rw [←h1]
 exact h.off _ (List.getElem_mem h2) h4
theorem EstS.ok_open {s:EstS}(h:s.Ok):s.open.Ok:=by
 unfold EstS.open
 split
 · rename_i hl
   have:=EstS.tk_at h hl
   rw [EstS.low_off h hl] at this
   exact EstS.ok_set h hl (fun hf=> by cases hf) ⟨Int.le_refl _,by simp⟩ this h.pok rfl
 · exact h
theorem EstS.ok_shut {s:EstS}(h:s.Ok) (k:Int):(s.shut k).Ok:=by
 unfold EstS.shut
 split
 · rename_i hk
   obtain ⟨m,rfl,hm⟩:=EstS.has_in h hk
   exact EstS.ok_set h (show (m:Int).toNat < 16 by omega) (fun _=> rfl) ⟨Int.le_refl _,by simp [Reg.none]⟩ (by rw [show (m:Int).toNat=m by omega];exact (EstS.tk_at h hm).gives) (PoolS.ok_gives h.pok) PoolS.n_gives
 · exact h
theorem EstS.code_0 {s:EstS}{k n:Int}(hc:s.code k n=0):s.has k=true∧1≤n∧n≤16∧¬((s.reg k).more n=true∧s.p.fr=[]):=by
 unfold EstS.code at hc
 split at hc
 · cases hc
 · rename_i h1
   split at hc
   · cases hc
   · split at hc
     · cases hc
     · rename_i h2 h3
       exact ⟨by simpa using h1,by omega,by omega,h3⟩
theorem EstS.regTo_len {s:EstS}(h:s.Ok){k:Nat}(hk:k < 16):(s.reg k).pages.length≤64:=by
 have:=(EstS.tk_at h hk).len h.pok
 rw [List.length_append] at this
 have:=h.n64
 omega
theorem Reg.more_f {r:Reg}{n:Int}(h:¬r.more n=true):r.pages≠[]∧r.used+n≤16:=by
 unfold Reg.more at h
 rw [decide_eq_true_iff] at h
 exact ⟨fun e=> h (.inl e),by omega⟩
theorem EstS.ok_get {s:EstS}(h:s.Ok) (k n:Int):(s.get k n).Ok:=by
 unfold EstS.get
 split
 · rename_i hc
   obtain ⟨h1,h2,h3,h4⟩:=EstS.code_0 hc
   obtain ⟨m,rfl,hm⟩:=EstS.has_in h h1
   rw [show (m:Int).toNat=m by omega]
   have hth:(s.reg m).there=true:=h1
   have hu:=h.used _ (List.mem_of_getElem? (EstS.reg_at h hm))
   unfold EstS.regTo
   by_cases hmo:(s.reg m).more n=true
   · rw [if_pos hmo,if_pos hmo]
     rcases PoolS.split h.pok with ⟨e,_⟩|⟨kk,fr,e1,e2,e3⟩
     · exact absurd ⟨hmo,e⟩ h4
     · obtain ⟨_,_,h5⟩:=(EstS.tk_at h hm).take h.pok e1 e2 e3
       refine EstS.ok_set h hm (fun hf=> by simp [Reg.use,Reg.grow,hth] at hf) ⟨by simp [Reg.use,Reg.grow];omega,by simp [Reg.use,Reg.grow];omega⟩ ?_ (PoolS.ok_take h.pok) PoolS.n_take
       simp only [Reg.use,Reg.grow]
       refine h5.perm ?_
       rw [List.append_assoc,List.append_assoc]
       exact (List.perm_append_comm).append_left _
   · rw [if_neg hmo,if_neg hmo]
     obtain ⟨_,h6⟩:=Reg.more_f hmo
     exact EstS.ok_set h hm (fun hf=> by simp [Reg.use,hth] at hf) ⟨by simp [Reg.use];omega,by simp [Reg.use];omega⟩ (EstS.tk_at h hm) h.pok rfl
 · exact h

structure RegV where
 there:Bool
 pv:Value
 pages:List Int
 used:Int
def RegV.reg (r:RegV):Reg:=⟨r.there,r.pages,r.used⟩
def RegV.cells (r:RegV):List Value:=[.bool r.there,r.pv, .int .i64 r.used]
def RegV.res (r:RegV):Res:=sl 3 1 r.pv (r.pages.map Qj)
def RegV.nil:RegV:=⟨false, .slice none 0 0,[],0⟩
def Q1n (rv:List RegV):List Value:=(rv.map RegV.cells).flatten
theorem Q3H (rv:List RegV):(Q1n rv).length=rv.length*3:=by
 have:=QY (es:=3) (css:=rv.map RegV.cells) (by intro c hc;obtain ⟨r,_,rfl⟩:=List.mem_map.1 hc;rfl)
 rw [List.length_map] at this;exact this
theorem Q2l {rv:List RegV}{pp u:Value}{m j:Nat}{r:RegV}(hr:rv[m]?=some r) (hu:r.cells[j]?=some u):(pp::Q1n rv)[1+m*3+j]?=some u:=by
 have hj:j < 3:=(List.getElem?_eq_some_iff.1 hu).1
 have:=Q3i (es:=3) (css:=rv.map RegV.cells) (by intro c hc;obtain ⟨r,_,rfl⟩:=List.mem_map.1 hc;rfl) (m:=m) (j:=j) (c:=r.cells) (by rw [List.getElem?_map,hr];rfl) hj
 rw [show 1+m*3+j=(m*3+j)+1 by omega,List.getElem?_cons_succ]
 exact this.trans hu
theorem e_set {rv:List RegV}{pp u:Value}{m j:Nat}{r r':RegV}(hr:rv[m]?=some r) (hj:j < 3) (hu:r.cells.set j u=r'.cells):(pp::Q1n rv).set (1+m*3+j) u=pp::Q1n (rv.set m r'):=by
 have:=Q8f (es:=3) (css:=rv.map RegV.cells) (by intro c hc;obtain ⟨r,_,rfl⟩:=List.mem_map.1 hc;rfl) (m:=m) (j:=j) (c:=r.cells) (u:=u) (by rw [List.getElem?_map,hr];rfl) hj
 rw [show 1+m*3+j=(m*3+j)+1 by omega,List.set_cons_succ]
 unfold Q1n
 rw [List.map_set,←hu,this]
theorem e_setn {rv:List RegV}{pp:Value}{m:Nat}{r':RegV}(hm:m < rv.length):(pp::Q1n rv).take (1+m*3)++(r'.cells++(pp::Q1n rv).drop (1+m*3+3))=pp::Q1n (rv.set m r'):=by
 have hl:∀l:List RegV,(∀c∈l.map RegV.cells,c.length=3):=by intro l c hc;obtain ⟨r,_,rfl⟩:=List.mem_map.1 hc;rfl
 rw [show 1+m*3=m*3+1 by omega,show m*3+1+3=(m+1)*3+1 by omega,List.take_succ_cons,List.drop_succ_cons,List.cons_append]
 congr 1
 have e:rv=rv.take m++(rv[m]'hm::rv.drop (m+1)):=by rw [←List.drop_eq_getElem_cons hm,List.take_append_drop]
 have e2:rv.set m r'=rv.take m++(r'::rv.drop (m+1)):=by rw [List.set_eq_take_append_cons_drop,if_pos hm]
 have f1:Q1n rv=Q1n (rv.take m)++((rv[m]'hm).cells++Q1n (rv.drop (m+1))):=by
  refine (congrArg Q1n e).trans ?_
  simp only [Q1n,List.map_append,List.map_cons,List.flatten_append,List.flatten_cons]
 have l1:(Q1n (rv.take m)).length=m*3:=by rw [Q3H,List.length_take];omega
 rw [e2,f1]
 have t1:(Q1n (rv.take m)++((rv[m]'hm).cells++Q1n (rv.drop (m+1)))).take (m*3)=Q1n (rv.take m):=by rw [←l1,List.take_left'];rfl
 have t2:(Q1n (rv.take m)++((rv[m]'hm).cells++Q1n (rv.drop (m+1)))).drop ((m+1)*3)=Q1n (rv.drop (m+1)):=by
  rw [←List.append_assoc,List.drop_left'];rw [List.length_append,l1];show m*3+3=_;omega
 rw [t1,t2]
 simp [Q1n]

structure EstO (e:Value) (s:EstS) (b:Nat) (rv:List RegV):Prop where
 he:e= .pointer (some ⟨b,0,none⟩)
 hr:rv.map RegV.reg=s.rs
 ok:s.Ok
def estX (e:Value) (s:EstS):Res:=Res.ex fun x:Nat×Value×List RegV=> Res.pure (EstO e s x.1 x.2.2) (Q5g [blk x.1 73 (x.2.1::Q1n x.2.2),Q1C x.2.1 s.p,big RegV.res x.2.2])
variable {cx:Cx}{w:World}{L:List Res}{i:Nat}{e:Value}{s:EstS}
theorem Q1V (hS:St cx w (estX e s::L)):∃b pp rv,EstO e s b rv∧St cx w (blk b 73 (pp::Q1n rv)::Q1C pp s.p::big RegV.res rv::L):=by
 obtain ⟨⟨b,pp,rv⟩,h⟩:=hS.ex
 obtain ⟨h1,h2⟩:=h.pure
 exact ⟨b,pp,rv,h1,h2.list⟩
theorem QW {b:Nat}{pp:Value}{rv:List RegV}(h:EstO e s b rv) (hS:St cx w (blk b 73 (pp::Q1n rv)::Q1C pp s.p::big RegV.res rv::L)):St cx w (estX e s::L):=
 St.ex' (b,pp,rv) (St.pure' h (St.list' hS))
theorem EstO.len {b:Nat}{rv:List RegV}(h:EstO e s b rv):rv.length=16:=by have:=congrArg List.length h.hr;rw [List.length_map,h.ok.len] at this;exact this
theorem EstO.at_ {b:Nat}{rv:List RegV}(h:EstO e s b rv){k:Nat}(hk:k < 16):∃r,rv[k]?=some r∧s.reg k=r.reg:=by
 have hl:=h.len
 refine ⟨rv[k]'(by omega),List.getElem?_eq_getElem (by omega),?_⟩
 have:=EstS.reg_at h.ok hk
 rw [←h.hr,List.getElem?_map,List.getElem?_eq_getElem (by omega)] at this
 simpa using this.symm
theorem EstO.set {b:Nat}{rv:List RegV}(h:EstO e s b rv){s':EstS}{k:Nat}{r':RegV}(hs:s'.rs=s.rs.set k r'.reg) (ok:s'.Ok):EstO e s' b (rv.set k r'):=⟨h.he,by rw [List.map_set,h.hr,hs],ok⟩
theorem Qb6 (hS:St cx w L) (hi:nth L i=some (estX e s)):s.Ok∧∃b,e= .pointer (some ⟨b,0,none⟩):=by
 obtain ⟨b,pp,rv,ho,_⟩:=Q1V (hS.out hi);exact ⟨ho.ok,b,ho.he⟩
theorem est_at (hS:St cx w L){b:Nat}(hi:nth L i=some (estX (.pointer (some ⟨b,0,none⟩)) s)):∃pp rv,EstO (.pointer (some ⟨b,0,none⟩)) s b rv∧St cx w (blk b 73 (pp::Q1n rv)::Q1C pp s.p::big RegV.res rv::L.eraseIdx i):=by
 obtain ⟨b',pp,rv,ho,h⟩:=Q1V (hS.out hi)
 have he:=ho.he
 cases he
 exact ⟨pp,rv,ho,h⟩
theorem EstS.pages_rng {s:EstS}(h:s.Ok){k:Nat}(hk:k < 16):∀x∈(s.reg k).pages,0≤x∧x < 64:=by
 intro x hx
 have:=can_iff.1 (((EstS.tk_at h hk).2 x).1 (List.mem_append_left _ hx))
 have:=h.n64
 omega
theorem Qb2 {l:List Int}(h:l≠[]):l.getD (((l.length:Nat):Int) - 1).toNat 0=l.getLastD 0:=by
 rcases List.eq_nil_or_concat l with rfl|⟨l',x,rfl⟩
 · exact absurd rfl h
 · rw [List.concat_eq_append]
   have e2:(l'++[x]).getLastD 0=x:=by simp
   rw [e2,List.length_append,List.length_singleton,show (((l'.length+1:Nat):Int) - 1).toNat=l'.length by omega,List.getD_eq_getElem?_getD,List.getElem?_append_right (Nat.le_refl _)]
   simp
theorem EstS.used_rng {s:EstS}(h:s.Ok){k:Nat}(hk:k < 16):0≤(s.reg k).used∧(s.reg k).used≤16:=h.used _ (List.mem_of_getElem? (EstS.reg_at h hk))
end Go.Proofs.YteflkifmgnpbhaaGreat
namespace Go.Proofs.YteflkifmgnpbhaaGreat
open Go.Lir
set_option maxHeartbeats 1000000
attribute [local irreducible] LC.wp Q0 Qh Qc retQ Qw LO.wp Q3 Calls
set_option linter.unusedSimpArgs false
set_option linter.unusedVariables false
variable {cx:Cx}{w:World}{L:List Res}{i:Nat}{e:Value}{s:EstS}

theorem EstS.has_at {s:EstS}(h:s.Ok){b:Nat}{e:Value}{rv:List RegV}(ho:EstO e s b rv){k:Nat}(hk:k < 16){r:RegV}(hr:rv[k]?=some r):s.has k=r.there:=by
 obtain ⟨r',h1,h2⟩:=ho.at_ hk
 rw [hr] at h1;cases h1
 unfold EstS.has;rw [h2];rfl
theorem Qb7 (k:Int) (hS:St cx w L) (hi:nth L i=some (estX e s)):Rets Tryz.prog Q6z [e, .int .i64 k] w fun v w'=> v= .bool (s.has k)∧St cx w' L:=by
 obtain ⟨b,pp,rv,ho,hS⟩:=Q1V (hS.out hi)
 obtain rfl:=ho.he
 have ok:=ho.ok
 rcases (show (k < 0∨16≤k)∨∃m:Nat,k=m∧m < 16 by (by_cases h:k < 0∨16≤k;(exact .inl h);exact .inr ⟨k.toNat,by omega,by omega⟩)) with hk|⟨m,rfl,hm⟩
 · have e0:s.has k=false:=by unfold EstS.has;rw [EstS.reg_out ok hk];rfl
   all_goals refine lgo tyD Tryz.func196 ?_
   all_goals (refine ZaV ?_)
   all_goals (first|(refine Q2w ?_)|(refine Q3k ?_)|(refine Q1I rfl rfl (fun hc=> ?_) (fun hc=> ?_)))
   all_goals (refine Zak ?_)
   all_goals (refine Ybc ?_)
   all_goals ((first|refine Q1h rfl (by (conv=> lhs;whnf);first|done|exact rfl) ?_|refine Q1y rfl (by (conv=> lhs;whnf);first|done|exact rfl) ?_);refine zm ?_;refine zgn ?_;refine zgn ?_;refine zgn ?_;refine zgn ?_;refine zgn ?_;refine zgn ?_;refine zgn ?_)
   all_goals ((first|refine Q1h rfl (by (conv=> lhs;whnf);first|done|exact rfl) ?_|refine Q1y rfl (by (conv=> lhs;whnf);first|done|exact rfl) ?_);refine Zai ?_;exact ⟨_,rfl,by rw [e0],(QW ho hS).back0 hi⟩)
 · obtain ⟨r,hr,hrs⟩:=ho.at_ hm
   have e0:=EstS.has_at ok ho hm hr
   all_goals refine lgo tyD Tryz.func196 ?_
   all_goals (refine ZaV ?_)
   all_goals (refine Q2w ?_)
   all_goals (refine Zak ?_)
   all_goals (first|refine zgn ?_|(refine zgy ?_;refine Q1k ?_))
   all_goals (refine Q1h rfl (by (conv=> lhs;whnf);first|done|exact rfl) ?_;refine Zbp ?_;refine Zbh ?_;(first|refine zgn ?_|(refine zgy ?_;refine Q7A rfl rfl (by omega) (by omega) ?_));refine Yag ?_;(first|refine zgn ?_|(refine zgy ?_;refine QG hS rfl (NthP.nth (by repeat constructor)) (Q2l (j:=0) hr rfl) ?_)))
   all_goals (refine Q1h rfl (by (conv=> lhs;whnf);first|done|exact rfl) ?_;refine Zai ?_;exact ⟨_,rfl,by rw [e0],(QW ho hS).back0 hi⟩)
theorem eopen_c (hS:St cx w L) (hi:nth L i=some (estX e s)):Rets Tryz.prog Q5P [e] w fun v w'=> v= .int .i64 s.openV∧St cx w' (L.set i (estX e s.open)):=by
 obtain ⟨b,pp,rv,ho,hS⟩:=Q1V (hS.out hi)
 obtain rfl:=ho.he
 have ok:=ho.ok
 have hlen:=ho.len
 all_goals refine lgo tyD Tryz.func136 ?_
 all_goals (refine Zaf ?_;refine ZbA ?_)
 refine Q8T (fun ρ' w'=>∃(j:Nat),Has ρ' [(0, .pointer (some ⟨b,0,none⟩)),(4, .int .i64 j)]∧(j≤16)∧(∀m,m < j→(s.reg (m:Nat)).there=true)∧St cx w' (blk b 73 (pp::Q1n rv)::Q1C pp s.p::big RegV.res rv::L.eraseIdx i)) (fun ρ' _=> (16 - iv (ρ' 4)).toNat) ?_ ?_
 · exact ⟨0,⟨rfl,rfl,trivial⟩,(by omega),fun m hm=> absurd hm (by omega),(hS.subP (by (repeat constructor);first|done|fail))⟩
 rintro ρ w1 ⟨j,hρ,hj,hth,hS⟩;obtain ⟨ρ,rfl⟩:=Q3I _ hρ
 all_goals (refine ZaQ ?_)
 refine Qn rfl (fun hc=> ?_) (fun hc=> ?_)
 · skip
   all_goals (refine ZbC ?_;refine Zaz ?_;obtain ⟨r,hr,hrs⟩:=ho.at_ (k:=j) (by omega);refine ZaI ?_;refine znc ?_;refine zf0 ?_;refine Q7A rfl rfl (by omega) (by omega) ?_;refine Yac ?_;refine QG hS rfl (NthP.nth (by repeat constructor)) (Q2l (j:=0) hr rfl) ?_)
   all_goals (refine ZaU ?_)
   refine Q6H rfl (fun hc=> ?_) (fun hc=> ?_)
   · skip
     all_goals (have hlow:s.low=j:=EstS.low_eq ok (by omega) (by rw [hrs];show r.there=false;simpa using hc) hth;refine Zas ?_;refine Q9r (cs:=[_,_,_]) (by (conv=> lhs;whnf);first|done|exact rfl) (by rfl) ?_;refine znc ?_;refine zf0 ?_;refine Q7A rfl rfl (by omega) (by omega) ?_;refine Q1g hS rfl rfl (by rfl) (NthP.nth (by repeat constructor)) (by rw [List.length_cons,Q3H,hlen];omega) (by simp [oneC]) (e_setn (r':=⟨true, .slice none 0 0,[],0⟩) (by omega)) ?_;intro w1 hS;simp only [List.set_cons_zero,List.set_cons_succ] at hS;simp only [Int.toNat_natCast] at hS;have hS:=hS.mv2;have hS:=hS.bigOut nth0 hr;have hS:=hS.drop.nil (T:=3) (es:=1);have hS:=St.bigIn (f:=RegV.res) (l:=rv) (k:=j) (x':=⟨true, .slice none 0 0,[],0⟩) hS nth0 (by omega);refine ZaH ?_;refine Zai ?_;have e1:s.open=⟨s.p,s.rs.set j ⟨true,[],0⟩⟩:=(by unfold EstS.open;rw [hlow,if_pos (by omega)]);have e2:s.openV=j:=(by unfold EstS.openV;rw [hlow,if_pos (by omega)]);exact ⟨_,rfl,by rw [e2],(QW (s:=s.open) (by rw [e1];exact ho.set (r':=⟨true, .slice none 0 0,[],0⟩) rfl (e1 ▸ EstS.ok_open ok)) (by rw [e1];exact (hS.subP (by (repeat constructor);first|done|fail)))).back hi⟩)
   · skip
     all_goals (refine zsk ?_;refine Q1d ?_;refine zad ?_;refine Zad ?_)
     all_goals (exact ⟨⟨j+1,⟨rfl,rfl,trivial⟩,(by omega),fun m hm=> by rcases Nat.lt_or_ge m j with h|h;exact hth m h;rw [show m=j by omega,hrs];show r.there=true;simpa using hc,(hS.subP (by (repeat constructor);first|done|fail))⟩,Qr (by omega)⟩)
 · skip
   all_goals (refine ZbK ?_;(first|(have e1:s.open=⟨s.p,s.rs.set j ⟨true,[],0⟩⟩:=(by unfold EstS.open;rw [hlow,if_pos (by omega)]);have e2:s.openV=j:=(by unfold EstS.openV;rw [hlow,if_pos (by omega)]);exact ⟨_,rfl,by rw [e2],(QW (s:=s.open) (by rw [e1];exact ho.set (r':=⟨true, .slice none 0 0,[],0⟩) rfl (e1 ▸ EstS.ok_open ok)) (by rw [e1];exact (hS.subP (by (repeat constructor);first|done|fail)))).back hi⟩)|(have hlow:s.low=16:=EstS.low_full ok (fun m hm=> hth m (by omega));have e1:s.open=s:=(by unfold EstS.open;rw [hlow,if_neg (by omega)]);have e2:s.openV=-1:=(by unfold EstS.openV;rw [hlow,if_neg (by omega)]);exact ⟨_,rfl,by rw [e2],(QW (by rw [e1];exact ho) (by rw [e1];exact hS)).back hi⟩)))
theorem Qck {rs:List Reg}{j:Nat}(h:j < rs.length):(rs.take (j+1)).countP (fun r=> r.there)=(rs.take j).countP (fun r=> r.there)+if (rs.getD j Reg.none).there then 1 else 0:=by
 rw [Q3u Reg.none h,List.countP_append,List.countP_singleton]
theorem Qdf (hS:St cx w L) (hi:nth L i=some (estX e s)):Rets Tryz.prog Q5u [e] w fun v w'=> v= .int .i64 s.count∧St cx w' L:=by
 obtain ⟨b,pp,rv,ho,hS⟩:=Q1V (hS.out hi)
 obtain rfl:=ho.he
 have ok:=ho.ok
 have hlen:=ho.len
 have hl:=ok.len
 all_goals refine lgo tyD Tryz.func40 ?_
 all_goals (refine Zaf ?_;refine Zaf ?_;refine ZbA ?_)
 refine Q8T (fun ρ' w'=>∃(j n:Nat),Has ρ' [(0, .pointer (some ⟨b,0,none⟩)),(3, .int .i64 n),(5, .int .i64 j)]∧(j≤16)∧(n=(s.rs.take j).countP (fun r=> r.there))∧St cx w' (blk b 73 (pp::Q1n rv)::Q1C pp s.p::big RegV.res rv::L.eraseIdx i)) (fun ρ' _=> (16 - iv (ρ' 5)).toNat) ?_ ?_
 · exact ⟨0,0,⟨rfl,rfl,rfl,trivial⟩,(by omega),(by first|omega|assumption|rfl),(hS.subP (by (repeat constructor);first|done|fail))⟩
 rintro ρ w1 ⟨j,n,hρ,hj,hn,hS⟩;obtain ⟨ρ,rfl⟩:=Q3I _ hρ;have hcl:=List.countP_le_length (p:=fun r:Reg=> r.there) (l:=s.rs.take j);have htl:=List.length_take_le j s.rs
 all_goals (refine ZaQ ?_)
 refine Qn rfl (fun hc=> ?_) (fun hc=> ?_)
 · skip
   all_goals (refine ZaA ?_;refine Qv ?_;obtain ⟨r,hr,hrs⟩:=ho.at_ (k:=j) (by omega);have hcs:=Qck (rs:=s.rs) (j:=j) (by omega);have hrg:s.rs.getD j Reg.none=r.reg:=(by rw [←hrs];unfold EstS.reg;rw [if_pos (by omega),Int.toNat_natCast]);rw [hrg] at hcs;refine Zag ?_;refine Zad ?_;refine Zas ?_;refine znc ?_;refine zf0 ?_;refine Q7A rfl rfl (by omega) (by omega) ?_;refine Yac ?_;refine QG hS rfl (NthP.nth (by repeat constructor)) (Q2l (j:=0) hr rfl) ?_)
   all_goals (refine zn ?_)
   refine Q6H rfl (fun hc=> ?_) (fun hc=> ?_)
   · skip
     all_goals (refine Zag ?_;refine zad ?_;refine Zad ?_;refine Q1d ?_;refine zad ?_;refine Zad ?_;exact ⟨⟨j+1,n+1,⟨rfl,rfl,rfl,trivial⟩,(by omega),(by rw [hcs,hn,if_pos (show r.reg.there=true from hc)]),(hS.subP (by (repeat constructor);first|done|fail))⟩,Qr (by omega)⟩)
   · skip
     all_goals (refine zsk ?_;refine Q1d ?_;refine zad ?_;refine Zad ?_;(first|(exact ⟨⟨j+1,n+1,⟨rfl,rfl,rfl,trivial⟩,(by omega),(by rw [hcs,hn,if_pos (show r.reg.there=true from hc)]),(hS.subP (by (repeat constructor);first|done|fail))⟩,Qr (by omega)⟩)|(exact ⟨⟨j+1,n,⟨rfl,rfl,rfl,trivial⟩,(by omega),(by rw [hcs,hn,if_neg (show¬r.reg.there=true from by rw [show r.reg.there=false from hc];simp)];rfl),(hS.subP (by (repeat constructor);first|done|fail))⟩,Qr (by omega)⟩)))
 · skip
   all_goals (refine zex ?_;refine Zbl ?_;have hn':s.count=(n:Int):=(by unfold EstS.count;rw [hn,List.take_of_length_le (by omega)]);exact ⟨_,rfl,by rw [hn'],(QW ho hS).back0 hi⟩)
theorem EstS.shut_yes {s:EstS}{m:Nat}(hk:s.has m=true):s.shut m=⟨s.p.gives (s.reg m).pages,s.rs.set m Reg.none⟩:=by unfold EstS.shut;rw [if_pos hk,Int.toNat_natCast]
theorem EstS.shut_no {s:EstS}{k:Int}(hk:s.has k=false):s.shut k=s:=by unfold EstS.shut;rw [hk,if_neg (by simp)]
theorem eshut_c (k:Int) (hS:St cx w L) (hi:nth L i=some (estX e s)):Rets Tryz.prog Q5O [e, .int .i64 k] w fun v w'=> v= .bool (s.has k)∧St cx w' (L.set i (estX e (s.shut k))):=by
 obtain ⟨ok,b,rfl⟩:=Qb6 hS hi
 cases hk:s.has k with
 | true=>
   obtain ⟨m,rfl,hm⟩:=EstS.has_in ok hk
   have e1:=EstS.shut_yes hk
   have hpl:=EstS.regTo_len ok hm
   all_goals refine lgo tyD Tryz.func137 ?_
   all_goals (refine Zba ?_;refine zm ?_;refine Q3T (by (conv=> lhs;whnf);first|done|exact rfl) (by (conv=> lhs;whnf);first|done|exact rfl) (Qb7 _ hS hi) ?_;rintro v1 w1 ⟨rfl,hS⟩;rw [hk];refine ZaU ?_)
   all_goals
    first
    | (refine zct ?_
       all_goals (refine Zab ?_;refine s_nil ?_;(repeat (refine Q7w ?_));refine s_ret ?_;(repeat (refine s_retT ?_));refine zf ?_)
       all_goals (exact ⟨_,rfl,rfl,(QW (s:=s.shut m) (by rw [e1];exact ho.set (k:=m) (r':=RegV.nil) rfl (e1 ▸ EstS.ok_shut ok m)) (by rw [e1];exact (hS.subP (by (repeat constructor);first|done|fail)))).back hi⟩))
    | (refine zcf ?_
       all_goals (refine zsk ?_))
   all_goals (refine Zbo ?_;obtain ⟨pp,rv,ho,hS⟩:=est_at hS hi;obtain ⟨r,hr,hrs⟩:=ho.at_ hm;have hlen:=ho.len;rw [hrs] at hpl e1;have hpl':r.pages.length≤64:=hpl;refine ZaI ?_;refine znc ?_;refine zf0 ?_;refine Q7A rfl rfl (by omega) (by omega) ?_;refine Yac ?_;refine QG hS rfl (NthP.nth (by repeat constructor)) (Q2l (j:=1) hr rfl) ?_;have hS:=hS.bigOut nth2 hr;refine QO hS (by (conv=> lhs;whnf);first|done|exact rfl) (nth0 (a:=RegV.res r)) (List.length_map _) ?_;refine ZaB ?_)
   refine Q8T (fun ρ' w'=>∃(j:Nat),Has ρ' [(0, .pointer (some ⟨b,0,none⟩)),(1, .int .i64 m),(17,r.pv),(18, .int .i64 r.pages.length),(19, .int .i64 j)]∧(j≤r.pages.length)∧St cx w' (sl 3 1 r.pv (r.pages.map Qj)::blk b 73 (pp::Q1n rv)::Q1C pp (s.p.gives (r.pages.take j))::big RegV.res (rv.eraseIdx m)::L.eraseIdx i)) (fun ρ' _=> (r.pages.length - iv (ρ' 19)).toNat) ?_ ?_
   · exact ⟨0,⟨rfl,rfl,rfl,rfl,rfl,trivial⟩,(by omega),(hS.subP (by (repeat constructor);first|done|fail))⟩
   rintro ρ w1 ⟨j,hρ,hj,hS⟩;obtain ⟨ρ,rfl⟩:=Q3I _ hρ
   all_goals (refine ZaQ ?_)
   refine Qn rfl (fun hc=> ?_) (fun hc=> ?_)
   · skip
     all_goals (refine Zbk ?_;refine Q2Q hS (by (conv=> lhs;whnf);first|done|exact rfl) rfl (NthP.nth (by repeat constructor)) (by first|omega|(simp only [List.length_map,List.length_append,List.length_cons,List.length_nil,List.length_set,List.length_replicate];omega)) ?_;intro b1 o1 hel1;(first|(refine QG hS rfl (NthP.nth (by repeat constructor)) (by rfl) ?_)|(refine QbF hS (by assumption) rfl (NthP.nth (by repeat constructor)) rfl (by omega) ?_)))
     all_goals (refine Zad ?_;refine Zby ?_;refine zf0 ?_;refine QG hS rfl (NthP.nth (by repeat constructor)) rfl ?_;refine zm ?_;refine Q3T (by (conv=> lhs;whnf);first|done|exact rfl) (by (conv=> lhs;whnf);first|done|exact rfl) (give_x _ hS (NthP.nth (by repeat constructor))) ?_;rintro v2 w2 ⟨rfl,hS⟩;simp only [List.set_cons_zero,List.set_cons_succ] at hS;refine Zbq ?_;refine zad ?_;refine Zad ?_;exact ⟨⟨j+1,⟨rfl,rfl,rfl,rfl,rfl,trivial⟩,(by omega),by rw [QdV (by omega)];exact (hS.subP (by (repeat constructor);first|done|fail))⟩,Qr (by omega)⟩)
   · skip
     all_goals (refine zex ?_;obtain rfl:j=r.pages.length:=(by omega);rw [List.take_length] at hS;refine Zas ?_;refine Q79 (cs:=[_,_,_]) (by rfl) ?_;refine znc ?_;refine zf0 ?_;refine Q7A rfl rfl (by omega) (by omega) ?_;refine Q1g hS rfl rfl (by rfl) (NthP.nth (by repeat constructor)) (by rw [List.length_cons,Q3H,hlen];omega) (by simp [oneC]) (e_setn (r':=RegV.nil) (by omega)) ?_;intro w1 hS;simp only [List.set_cons_zero,List.set_cons_succ] at hS;simp only [Int.toNat_natCast] at hS;have hS:=hS.drop.nil (T:=3) (es:=1);have hS:=St.bigIn (f:=RegV.res) (l:=rv) (k:=m) (x':=RegV.nil) hS nth2 (by omega);simp only [List.set_cons_zero,List.set_cons_succ] at hS;refine zn ?_;refine Zao ?_;exact ⟨_,rfl,rfl,(QW (s:=s.shut m) (by rw [e1];exact ho.set (k:=m) (r':=RegV.nil) rfl (e1 ▸ EstS.ok_shut ok m)) (by rw [e1];exact (hS.subP (by (repeat constructor);first|done|fail)))).back hi⟩)
 | false=>
   rw [EstS.shut_no hk,Q2S hi]
   all_goals refine lgo tyD Tryz.func137 ?_
   all_goals (refine Zba ?_;refine zm ?_;refine Q3T (by (conv=> lhs;whnf);first|done|exact rfl) (by (conv=> lhs;whnf);first|done|exact rfl) (Qb7 _ hS hi) ?_;rintro v1 w1 ⟨rfl,hS⟩;rw [hk];refine ZaU ?_)
   all_goals refine zct ?_
   all_goals (refine Zao ?_;exact ⟨_,rfl,rfl,hS⟩)
theorem code_no {s:EstS}{k n:Int}(hk:s.has k=false):s.code k n=15:=by unfold EstS.code;rw [hk];rfl
theorem code_rng {s:EstS}{k n:Int}(hk:s.has k=true) (hn:n < 1∨16 < n):s.code k n=1:=by unfold EstS.code;rw [hk,if_neg (by simp),if_pos hn]
theorem Qgx {s:EstS}{k n:Int}(hk:s.has k=true) (hn:¬(n < 1∨16 < n)) (h:(s.reg k).more n=true∧s.p.fr=[]):s.code k n=14:=by unfold EstS.code;rw [hk,if_neg (by simp),if_neg hn,if_pos h]
theorem Qgw {s:EstS}{k n:Int}(hk:s.has k=true) (hn:¬(n < 1∨16 < n)) (h:¬((s.reg k).more n=true∧s.p.fr=[])):s.code k n=0:=by unfold EstS.code;rw [hk,if_neg (by simp),if_neg hn,if_neg h]
theorem Q8b {s:EstS}{k n:Int}(h:s.code k n≠0):s.get k n=s∧s.getV k n=0:=by unfold EstS.get EstS.getV;rw [if_neg h,if_neg h];exact ⟨rfl,rfl⟩
theorem RegV.more_iff {r:RegV}{n:Int}:r.reg.more n=true↔(r.pages=[]∨16 < r.used+n):=decide_eq_true_iff
theorem Qgg {rv:List RegV}{m:Nat}{r:RegV}(h:m < rv.length):(rv.set m r)[m]?=some r:=by simp [h]
theorem set_set {rv:List RegV}{m:Nat}{r r':RegV}:(rv.set m r).set m r'=rv.set m r':=List.set_set ..
theorem eget_c (k n:Int) (hS:St cx w L) (hi:nth L i=some (estX e s)):Rets Tryz.prog Q6A [e, .int .i64 k, .int .i64 n] w fun v w'=> v= .tuple #[.int .i64 (s.getV k n), .int .i64 (s.code k n)]∧St cx w' (L.set i (estX e (s.get k n))):=by
 obtain ⟨ok,b,rfl⟩:=Qb6 hS hi
 cases hk:s.has k with
 | false=>
   have hc:=code_no (n:=n) hk
   obtain ⟨e1,e2⟩:=Q8b (s:=s) (k:=k) (n:=n) (by omega)
   rw [e1,Q2S hi,e2,hc]
   all_goals refine lgo tyD Tryz.func225 ?_
   all_goals (refine Zab ?_;refine Zad ?_;refine Zan ?_;refine Zas ?_;refine Q3T (by (conv=> lhs;whnf);first|done|exact rfl) (by (conv=> lhs;whnf);first|done|exact rfl) (Qb7 _ hS hi) ?_;rintro v1 w1 ⟨rfl,hS⟩;rw [hk];refine znt ?_;refine Zad ?_)
   all_goals refine zct ?_
   all_goals (refine Zbx ?_;exact ⟨_,rfl,rfl,hS⟩)
 | true =>
   by_cases hn:n < 1∨16 < n
   · have hc:=code_rng hk hn
     obtain ⟨e1,e2⟩:=Q8b (s:=s) (k:=k) (n:=n) (by omega)
     rw [e1,Q2S hi,e2,hc]
     all_goals refine lgo tyD Tryz.func225 ?_
     all_goals (refine Zab ?_;refine Zad ?_;refine Zan ?_;refine Zas ?_;refine Q3T (by (conv=> lhs;whnf);first|done|exact rfl) (by (conv=> lhs;whnf);first|done|exact rfl) (Qb7 _ hS hi) ?_;rintro v1 w1 ⟨rfl,hS⟩;rw [hk];refine znt ?_;refine Zad ?_)
     all_goals refine zcf ?_
     all_goals (refine Zab ?_)
     all_goals (first|(refine Q1k ?_)|(refine Q1w ?_)|(refine QA rfl rfl (fun hc=> ?_) (fun hc=> ?_)))
     all_goals (refine Zak ?_)
     all_goals (first|refine zgn ?_|(refine zgy ?_;refine Q1e ?_))
     all_goals ((first|refine Q1h rfl (by (conv=> lhs;whnf);first|done|exact rfl) ?_|refine Q1y rfl (by (conv=> lhs;whnf);first|done|exact rfl) ?_);refine Zad ?_)
     all_goals refine zct ?_
     all_goals (refine Zbx ?_;exact ⟨_,rfl,rfl,hS⟩)
   · obtain ⟨m,rfl,hm⟩:=EstS.has_in ok hk
     have hpl:=EstS.regTo_len ok hm
     have hpr:=EstS.pages_rng ok hm
     have hur:=EstS.used_rng ok hm
     all_goals refine lgo tyD Tryz.func225 ?_
     all_goals (refine Zab ?_;refine Zad ?_;refine Zan ?_;refine Zas ?_;refine Q3T (by (conv=> lhs;whnf);first|done|exact rfl) (by (conv=> lhs;whnf);first|done|exact rfl) (Qb7 _ hS hi) ?_;rintro v1 w1 ⟨rfl,hS⟩;rw [hk];refine znt ?_;refine Zad ?_)
     all_goals refine zcf ?_
     all_goals (refine Zab ?_)
     all_goals (refine Yas ?_)
     all_goals (refine Zak ?_)
     all_goals (refine Yat ?_)
     all_goals ((first|refine Q1h rfl (by (conv=> lhs;whnf);first|done|exact rfl) ?_|refine Q1y rfl (by (conv=> lhs;whnf);first|done|exact rfl) ?_);refine Zad ?_)
     all_goals refine zcf ?_
     all_goals (refine zsk ?_;refine Qv ?_;obtain ⟨pp,rv,ho,hS⟩:=est_at hS hi;obtain ⟨r,hr,hrs⟩:=ho.at_ hm;have hlen:=ho.len;rw [hrs] at hpl hpr hur;have hpl':r.pages.length≤64:=hpl;have hur':0≤r.used∧r.used≤16:=hur;have hS:St cx w1 (sl 3 1 r.pv (r.pages.map Qj)::blk b 73 (pp::Q1n rv)::Q1C pp s.p::big RegV.res (rv.eraseIdx m)::L.eraseIdx i):=hS.bigOut nth2 hr;have hpe:r.pages=[]↔r.pages.length=0:=List.length_eq_zero_iff.symm;refine ZaI ?_;refine znc ?_;refine zf0 ?_;refine Q7A rfl rfl (by omega) (by omega) ?_;refine Zad ?_)
     refine s_mid (fun ρ' w'=>∃(r1:RegV) (p1:PoolS),Has ρ' [(0, .pointer (some ⟨b,0,none⟩)),(1, .int .i64 m),(2, .int .i64 n),(8, .pointer (some ⟨b,1+m*3,none⟩))]∧(s.code m n=0)∧(r1.reg=s.regTo m n)∧(p1=(if (s.reg m).more n then s.p.take else s.p))∧(r1.pages.length≤65)∧(r1.pages≠[])∧(∀x∈r1.pages,0≤x∧x < 64)∧(0≤r1.used∧r1.used+n≤16)∧St cx w' (sl 3 1 r1.pv (r1.pages.map Qj)::blk b 73 (pp::Q1n (rv.set m r1))::Q1C pp p1::big RegV.res (rv.eraseIdx m)::L.eraseIdx i)) ?_ ?_
     · skip
       all_goals (refine Zab ?_;refine Zar ?_;refine QG hS rfl (NthP.nth (by repeat constructor)) (Q2l (j:=1) hr rfl) ?_;refine QO hS (by (conv=> lhs;whnf);first|done|exact rfl) (NthP.nth (by repeat constructor)) (by exact List.length_map _) ?_)
       all_goals (first|(refine Qi ?_)|(refine Qm ?_)|(refine Q5 rfl rfl (fun hc=> ?_) (fun hc=> ?_)))
       all_goals (refine Zak ?_;refine Yah ?_;refine Yag ?_;(first|refine zgn ?_|(refine zgy ?_;(first|(refine QG hS rfl (NthP.nth (by repeat constructor)) (Q2l (j:=1) hr rfl) ?_)|(refine QG hS rfl (NthP.nth (by repeat constructor)) (Q2l (j:=2) hr rfl) ?_))));refine Yaa ?_)
       all_goals ((first|refine zgn ?_|(refine zgy ?_;refine zad ?_)))
       all_goals (first|refine zgn ?_|(refine zgy ?_;(first|(refine Q1e ?_)|(refine Q1s ?_)|(refine Qx rfl rfl (fun hc=> ?_) (fun hc=> ?_)))))
       all_goals ((first|refine Q1h rfl (by (conv=> lhs;whnf);first|done|exact rfl) ?_|refine Q1y rfl (by (conv=> lhs;whnf);first|done|exact rfl) ?_);refine zn ?_)
       all_goals
        first
        | (refine zct ?_
           all_goals (have hmo:(s.reg m).more n=true:=(by rw [hrs,RegV.more_iff,hpe];omega);refine ZbG ?_;refine zf0 ?_;(first|(refine QG hS rfl (NthP.nth (by repeat constructor)) (Q2l (j:=1) hr rfl) ?_)|(refine QG hS rfl (NthP.nth (by repeat constructor)) (Q2l (j:=2) hr rfl) ?_)|(refine QG hS rfl (NthP.nth (by repeat constructor)) (Q2l (j:=1) hr1 rfl) ?_)|(refine QG hS rfl (NthP.nth (by repeat constructor)) (Q2l (j:=2) hr1 rfl) ?_)|(refine QG hS rfl (NthP.nth (by repeat constructor)) (by rfl) ?_));refine Q9l (by (conv=> lhs;whnf);first|done|exact rfl) (take_x hS (NthP.nth (by repeat constructor))) ?_;rintro v4 w4 ⟨rfl,hS⟩;simp only [List.set_cons_zero,List.set_cons_succ] at hS;refine Zad ?_)
           all_goals (refine Zbo ?_)
           all_goals (rcases PoolS.split ok.pok with ⟨h1,h2,h3⟩|⟨k2,fr2,h1,h2,h3⟩)
           all_goals (refine Q1d ?_)
           all_goals (first|(have hcd:=Qgx hk hn ⟨hmo,h1⟩;obtain ⟨e1,e2⟩:=Q8b (s:=s) (k:=m) (n:=n) (by omega);rw [h3] at hS)|(obtain ⟨_,hk2,_⟩:=(EstS.tk_at ok hm).take ok.pok h1 h2 h3;have hcd:=Qgw hk hn (fun h=> by rw [h1] at h;simp at h);have h64:=ok.n64))
           all_goals (refine zm ?_)
           all_goals (refine Yas ?_)
           all_goals (refine zn ?_)
           all_goals
            first
            | (refine zct ?_
               all_goals (refine Zbx ?_)
               all_goals (rw [e1,Q2S hi,e2,hcd];have hS:St cx w4 (RegV.res r::blk b 73 (pp::Q1n rv)::Q1C pp s.p::big RegV.res (rv.eraseIdx m)::L.eraseIdx i):=hS;have hS:=St.bigIn (f:=RegV.res) (l:=rv) (k:=m) (x':=r) hS nth2 (by omega);simp only [List.set_cons_zero,List.set_cons_succ] at hS;rw [Q3S hr] at hS;exact ⟨_,rfl,rfl,(QW ho hS).back0 hi⟩))
            | (refine zcf ?_
               all_goals (refine zsk ?_))
           all_goals (refine Zas ?_;refine Zar ?_;refine QG hS rfl (NthP.nth (by repeat constructor)) (Q2l (j:=1) hr rfl) ?_;refine zm ?_;refine Q2c (cs:=[_]) (by (conv=> lhs;whnf);first|done|exact rfl) (by rfl) ?_;intro b1 w1 hb1 hf1 _ hk1;have hS:=hS.laid hb1 hf1 hk1;refine Q24 Qgs (.inl QeA) hS (by (conv=> lhs;whnf);first|done|exact rfl) (by (conv=> lhs;whnf);first|done|exact rfl) (NthP.nth (by repeat constructor)) (hS.srcB1 (NthP.nth (by repeat constructor)) rfl) (by first|omega|(simp only [List.length_map,List.length_append,List.length_cons,List.length_nil,List.length_set,List.length_replicate];omega)) ?_;intro v7 w7 hS;simp only [List.set_cons_zero,List.set_cons_succ] at hS;have hS:=hS.drop)
           all_goals (refine Zar ?_;refine Q7y hS rfl (by (conv=> lhs;whnf);first|done|exact rfl) (NthP.nth (by repeat constructor)) (by rw [List.length_cons,Q3H,hlen];omega) (by first|rfl|assumption|exact hS.oneC (NthP.nth (by repeat constructor))) (e_set (r':=⟨r.there,v7,r.pages++[s.p.top],r.used⟩) (j:=1) hr (by omega) rfl) ?_;intro w8 hS;simp only [List.set_cons_zero,List.set_cons_succ] at hS;refine Zbs ?_;refine Zar ?_;refine Q7y hS rfl (by (conv=> lhs;whnf);first|done|exact rfl) (NthP.nth (by repeat constructor)) (by rw [List.length_cons,Q3H,List.length_set,hlen];omega) (by rfl) (e_set (r:=⟨r.there,v7,r.pages++[s.p.top],r.used⟩) (r':=⟨r.there,v7,r.pages++[s.p.top],0⟩) (j:=2) (Qgg (by omega)) (by omega) rfl) ?_;intro w9 hS;simp only [List.set_cons_zero,List.set_cons_succ] at hS;simp only [Int.toNat_natCast,set_set] at hS)
           all_goals (refine zn ?_))
        | (refine zcf ?_
           all_goals (have hmo:¬(s.reg m).more n=true:=(by rw [hrs,RegV.more_iff,hpe];omega))
           all_goals (refine zsk ?_))
       all_goals (first|(exact ⟨r,s.p,⟨rfl,rfl,rfl,rfl,trivial⟩,(Qgw hk hn fun h=> hmo h.1),(by unfold EstS.regTo;rw [if_neg hmo,hrs]),(by rw [if_neg hmo]),(by omega),(by rw [Ne,hpe];omega),hpr,(by omega),by rw [Q3S hr];exact (hS.subP (by (repeat constructor);first|done|fail))⟩)|(exact ⟨⟨r.there,v7,r.pages++[s.p.top],0⟩,s.p.take,⟨rfl,rfl,rfl,rfl,trivial⟩,hcd,(by unfold EstS.regTo;rw [if_pos hmo,hrs];rfl),(by rw [if_pos hmo]),(by simp;omega),(by simp),(by intro x hx;rcases List.mem_append.1 hx with h|h;exact hpr x h;simp only [List.mem_singleton] at h;omega),(by simp only;omega),by simp only [List.map_append];exact (hS.subP (by (repeat constructor);first|done|fail))⟩))
     rintro ρ w1 ⟨r1,p1,hρ,hcd,hreg,hp1,hpl1,hne,hrg,hu1,hS⟩;obtain ⟨ρ,rfl⟩:=Q3I _ hρ;have hr1:(rv.set m r1)[m]?=some r1:=Qgg (by omega);have hlast:=Qb2 hne;have hmem:=hrg (r1.pages.getD (((r1.pages.length:Nat):Int) - 1).toNat 0) (getD_mem (by have:=List.length_pos_iff.2 hne;omega));have hpos:=List.length_pos_iff.2 hne
     all_goals (refine Qv ?_;refine Qf5 [(0,none),(1,none),(2,none),(3,none),(4,none),(5,none),(6,none),(7,none),(8,none),(9,none),(10,none),(11,none),(12,none),(13,none),(14,none),(15,none),(16,none),(17,none),(18,some none)] (by kernel_rfl) (by kernel_rfl) ?_;have hS:=hS.drew;refine Zbd ?_;(first|(refine QG hS rfl (NthP.nth (by repeat constructor)) (Q2l (j:=1) hr rfl) ?_)|(refine QG hS rfl (NthP.nth (by repeat constructor)) (Q2l (j:=2) hr rfl) ?_)|(refine QG hS rfl (NthP.nth (by repeat constructor)) (Q2l (j:=1) hr1 rfl) ?_));refine zm ?_)
     all_goals (refine Zar ?_;(first|(refine QG hS rfl (NthP.nth (by repeat constructor)) (Q2l (j:=1) hr rfl) ?_)|(refine QG hS rfl (NthP.nth (by repeat constructor)) (Q2l (j:=2) hr rfl) ?_)|(refine QG hS rfl (NthP.nth (by repeat constructor)) (Q2l (j:=1) hr1 rfl) ?_));refine QO hS (by (conv=> lhs;whnf);first|done|exact rfl) (NthP.nth (by repeat constructor)) (by exact List.length_map _) ?_;refine zsu ?_;(first|(refine Q2Q hS (by (conv=> lhs;whnf);first|done|exact rfl) rfl (NthP.nth (by repeat constructor)) (by first|omega|(simp only [List.length_map,List.length_append,List.length_cons,List.length_nil,List.length_set,List.length_replicate];omega)) ?_;intro b1 o1 hel1)|(refine QJ hS (by (conv=> lhs;whnf);first|done|exact rfl) rfl (NthP.nth (by repeat constructor)) (by omega) (by first|omega|(simp only [List.length_map,List.length_append,List.length_cons,List.length_nil,List.length_set,List.length_replicate];omega)) ?_;intro b1 o1 hel1)))
     all_goals ((first|(refine QG hS rfl (NthP.nth (by repeat constructor)) (Q2l (j:=1) hr rfl) ?_)|(refine QG hS rfl (NthP.nth (by repeat constructor)) (Q2l (j:=2) hr rfl) ?_)|(refine QG hS rfl (NthP.nth (by repeat constructor)) (Q2l (j:=1) hr1 rfl) ?_)|(refine QG hS rfl (NthP.nth (by repeat constructor)) (Q2l (j:=2) hr1 rfl) ?_)|(refine QG hS rfl (NthP.nth (by repeat constructor)) (by rfl) ?_)|(refine QbF hS (by assumption) rfl (NthP.nth (by repeat constructor)) rfl (by omega) ?_));refine zmu ?_;refine Zbd ?_;(first|(refine QG hS rfl (NthP.nth (by repeat constructor)) (Q2l (j:=1) hr rfl) ?_)|(refine QG hS rfl (NthP.nth (by repeat constructor)) (Q2l (j:=2) hr rfl) ?_)|(refine QG hS rfl (NthP.nth (by repeat constructor)) (Q2l (j:=1) hr1 rfl) ?_)|(refine QG hS rfl (NthP.nth (by repeat constructor)) (Q2l (j:=2) hr1 rfl) ?_)))
     all_goals (refine zad ?_;refine ZaT ?_;refine Zar ?_;(first|(refine QG hS rfl (NthP.nth (by repeat constructor)) (Q2l (j:=1) hr rfl) ?_)|(refine QG hS rfl (NthP.nth (by repeat constructor)) (Q2l (j:=2) hr rfl) ?_)|(refine QG hS rfl (NthP.nth (by repeat constructor)) (Q2l (j:=1) hr1 rfl) ?_)|(refine QG hS rfl (NthP.nth (by repeat constructor)) (Q2l (j:=2) hr1 rfl) ?_));refine zm ?_;refine zad ?_)
     all_goals (refine Zar ?_;refine Q7y hS rfl (by (conv=> lhs;whnf);first|done|exact rfl) (NthP.nth (by repeat constructor)) (by rw [List.length_cons,Q3H,List.length_set,hlen];omega) (by rfl) (e_set (r:=r1) (r':=⟨r1.there,r1.pv,r1.pages,r1.used+n⟩) (j:=2) hr1 (by omega) rfl) ?_;intro w9 hS;simp only [List.set_cons_zero,List.set_cons_succ] at hS;simp only [set_set] at hS;have hS:=St.bigIn (f:=RegV.res) (l:=rv) (k:=m) (x':=⟨r1.there,r1.pv,r1.pages,r1.used+n⟩) hS nth2 (by omega);simp only [List.set_cons_zero,List.set_cons_succ] at hS;refine zn ?_;refine Zas ?_;refine ZaD ?_;(first|(rw [e1,Q2S hi,e2,hcd];have hS:St cx w4 (RegV.res r::blk b 73 (pp::Q1n rv)::Q1C pp s.p::big RegV.res (rv.eraseIdx m)::L.eraseIdx i):=hS;have hS:=St.bigIn (f:=RegV.res) (l:=rv) (k:=m) (x':=r) hS nth2 (by omega);simp only [List.set_cons_zero,List.set_cons_succ] at hS;rw [Q3S hr] at hS;exact ⟨_,rfl,rfl,(QW ho hS).back0 hi⟩)|(have e1:s.get m n=⟨p1,s.rs.set m ((s.regTo m n).use n)⟩:=(by unfold EstS.get;rw [if_pos hcd,hp1,Int.toNat_natCast]);have e2:s.getV m n=r1.pages.getD (((r1.pages.length:Nat):Int) - 1).toNat 0*16+r1.used:=(by unfold EstS.getV;rw [if_pos hcd,←hreg,hlast];rfl);exact ⟨_,rfl,by rw [e2,hcd],(QW (s:=s.get m n) (by rw [e1];exact ho.set (k:=m) (r':=⟨r1.there,r1.pv,r1.pages,r1.used+n⟩) (by rw [←hreg];rfl) (e1 ▸ EstS.ok_get ok m n)) (by rw [e1];exact (hS.subP (by (repeat constructor);first|done|fail)))).back hi⟩)))
theorem big_nil:∀(n:Nat){cx:Cx}{w:World}{L:List Res},St cx w L→St cx w (big RegV.res (List.replicate n RegV.nil)::L)
 | 0,_,_,_,h=> h.emp (r:=emp) fun _ h=> h
 | n+1,_,_,_,h=> by
   have h1:=(big_nil n h).nil (T:=3) (es:=1)
   exact St.star' (r:=RegV.res RegV.nil) h1
theorem Qc0 (n:Nat):(List.replicate n RegV.nil).map RegV.reg=List.replicate n Reg.none:=by rw [List.map_replicate];rfl
theorem enew_c (n:Int) (hS:St cx w L):Rets Tryz.prog QdX [.int .i64 n] w fun v w'=>
 (n < 0∨64 < n)∧v= .tuple #[.pointer none, .agg ⟨[.int .i64 1, .int .i64 (-1)]⟩]∧St cx w' L∨
 ∃(m:Nat) (b:Nat),n=m∧m≤64∧v= .tuple #[.pointer (some ⟨b,0,none⟩), .agg ⟨[.int .i64 0, .int .i64 0]⟩]∧St cx w' (estX (.pointer (some ⟨b,0,none⟩)) (EstS.mk0 m)::L):=by
 all_goals refine lgo tyD Tryz.func79 ?_
 all_goals (refine Zab ?_;refine Ql hS ?_;intro b1 w1 hS;refine ZaH ?_)
 all_goals (refine Q9l (by (conv=> lhs;whnf);first|done|exact rfl) (new_x _ hS) ?_;rintro v3 w3 (⟨hn,rfl,hS⟩|⟨m,b,rfl,hm,rfl,hS⟩))
 all_goals (refine Zbw ?_;intro b1 w1 hS;refine zm ?_;refine Q1g hS rfl rfl (by rfl) (NthP.nth (by repeat constructor)) (by simp) (by (simp [oneC];done)) (by rfl) ?_;intro w1 hS;simp only [List.set_cons_zero,List.set_cons_succ] at hS;refine ZbH ?_;refine zf0 ?_;refine QG hS rfl (NthP.nth (by repeat constructor)) (by rfl) ?_)
 all_goals (refine Yaq ?_)
 all_goals (refine zn ?_)
 all_goals
  first
  | (refine zct ?_
     all_goals (refine Qv ?_;refine Qf5 [(0,none),(1,none),(2,some none)] (by kernel_rfl) (by kernel_rfl) ?_;have hS:=hS.drew;refine Q9o hS rfl (NthP.nth (by repeat constructor)) (by rfl) (by rfl) ?_;refine zm ?_;refine Q1g hS rfl rfl (by rfl) (NthP.nth (by repeat constructor)) (by simp) (by (simp [oneC];done)) (by rfl) ?_;intro w1 hS;simp only [List.set_cons_zero,List.set_cons_succ] at hS;refine Zbb ?_)
     all_goals (refine Q37 (by (conv=> lhs;whnf);first|done|exact rfl) (by (conv=> lhs;whnf);first|done|exact rfl) (Qa (n:=2) (by kernel_rfl) (by kernel_rfl) (hS.blkAt (NthP.nth (by repeat constructor))) (by rfl) (by rfl)) ?_;exact ⟨_,rfl, .inl ⟨hn,rfl,(hS.subP (by (repeat constructor);first|done|fail))⟩⟩))
  | (refine zcf ?_
     all_goals (refine zsk ?_))
 all_goals (refine Qv ?_;have hS:=big_nil 16 hS;refine Zag ?_;refine Q9r (cs:=[_,_,_,_,_,_,_,_,_,_,_,_,_,_,_,_,_,_,_,_,_,_,_,_,_,_,_,_,_,_,_,_,_,_,_,_,_,_,_,_,_,_,_,_,_,_,_,_,_]) (by (conv=> lhs;whnf);first|done|exact rfl) (by rfl) ?_;refine Q1U hS (by (conv=> lhs;whnf);first|done|exact rfl) (by rfl) ?_;intro b1 w1 hS;refine Q79 (cs:=[_,_]) (by rfl) ?_;refine zm ?_;refine Q1g hS rfl rfl (by rfl) (NthP.nth (by repeat constructor)) (by simp) (by (simp [oneC];done)) (by rfl) ?_;intro w1 hS;simp only [List.set_cons_zero,List.set_cons_succ] at hS;refine Zbb ?_;(first|(refine Q37 (by (conv=> lhs;whnf);first|done|exact rfl) (by (conv=> lhs;whnf);first|done|exact rfl) (Qa (n:=2) (by kernel_rfl) (by kernel_rfl) (hS.blkAt (NthP.nth (by repeat constructor))) (by rfl) (by rfl)) ?_;exact ⟨_,rfl, .inl ⟨hn,rfl,(hS.subP (by (repeat constructor);first|done|fail))⟩⟩)|(refine Q37 (by (conv=> lhs;whnf);first|done|exact rfl) (by (conv=> lhs;whnf);first|done|exact rfl) (Qa (n:=2) (by kernel_rfl) (by kernel_rfl) (hS.blkAt (NthP.nth (by repeat constructor))) (by rfl) (by rfl)) ?_;exact ⟨_,rfl, .inr ⟨m,_,rfl,hm,rfl,QW (s:=EstS.mk0 m) (rv:=List.replicate 16 RegV.nil) ⟨rfl,Qc0 16,EstS.ok_new hm⟩ (hS.subP (by (repeat constructor);first|done|fail))⟩⟩)))
end Go.Proofs.YteflkifmgnpbhaaGreat
namespace Go.Lir
set_option linter.unusedVariables false
structure Val where
 kind:Int
 region:Int
 thing:Int
 n:Int
deriving DecidableEq
def Val.cells (v:Val):List Value:=[.int .i64 v.kind, .int .i64 v.region, .int .i64 v.thing, .int .i64 v.n]
def Val.v (v:Val):Value:= .agg ⟨v.cells⟩
def Val.zero:Val:=⟨0,0,0,0⟩
structure Thg where
 array:Bool
 l:List Val
structure Rgn where
 there:Bool
 l:List Thg
 pages:Int
 used:Int
def Rgn.none:Rgn:=⟨false,[],0,0⟩
structure HpS where
 l:List Rgn
 left:Int
def HpS.reg (s:HpS) (k:Int):Rgn:=if 0≤k then s.l.getD k.toNat Rgn.none else Rgn.none
def HpS.has (s:HpS) (k:Int):Bool:=(s.reg k).there
def HpS.live (s:HpS):Nat:=s.l.countP fun r=> r.there
def HpS.full (s:HpS):Bool:=decide (s.live=16)
def HpS.open (s:HpS):HpS:=if s.full then s else ⟨s.l++[⟨true,[],0,0⟩],s.left⟩
def HpS.openV (s:HpS):Val:=if s.full then Val.zero else ⟨2,s.l.length,0,0⟩
def HpS.can (s:HpS) (v:Val):Bool:=decide (v.kind=2) && s.has v.region
def HpS.shut (s:HpS) (v:Val):HpS:=if s.can v then ⟨s.l.set v.region.toNat Rgn.none,s.left+(s.reg v.region).pages⟩ else s
def Rgn.more (r:Rgn) (n:Int):Bool:=decide (r.pages=0∨16 < r.used+n)
def Rgn.room (r:Rgn) (n:Int):Rgn:=if r.more n then ⟨r.there,r.l,r.pages+1,n⟩ else ⟨r.there,r.l,r.pages,r.used+n⟩
def Rgn.push (r:Rgn) (t:Thg):Rgn:=⟨r.there,r.l++[t],r.pages,r.used⟩
def HpS.code (s:HpS) (v:Val) (n:Int):Int:=if !s.can v then 20 else if (s.reg v.region).more n∧s.left=0 then 14 else 0
def HpS.put (s:HpS) (v:Val) (n:Int) (t:Thg):HpS:=if s.code v n=0 then ⟨s.l.set v.region.toNat (((s.reg v.region).room n).push t),if (s.reg v.region).more n then s.left - 1 else s.left⟩ else s
def HpS.putV (s:HpS) (v:Val) (kind n:Int):Val:=if s.code v n=0 then ⟨kind,v.region,(s.reg v.region).l.length,0⟩ else Val.zero
def HpS.thg (s:HpS) (k t:Nat):Thg:=(s.reg k).l.getD t ⟨false,[]⟩
def HpS.at_ (s:HpS) (v:Val):Option (Nat×Nat):=
 if (v.kind=3∨v.kind=4)∧s.has v.region=true∧0≤v.thing∧v.thing < (s.reg v.region).l.length∧(s.thg v.region.toNat v.thing.toNat).array=decide (v.kind=4) then some (v.region.toNat,v.thing.toNat) else none
def HpS.get (s:HpS) (v:Val) (k:Int):Val×Int:=match s.at_ v with
 | none=> (Val.zero,20)
 | some (r,t)=> if 0≤k∧k < (s.thg r t).l.length then ((s.thg r t).l.getD k.toNat Val.zero,0) else (Val.zero,1)
def HpS.setC (s:HpS) (v:Val) (k:Int) (x:Val):Int:=match s.at_ v with
 | none=> 20
 | some (r,t)=> if (s.thg r t).array=true∧x.kind≠1 then 20 else if 0≤k∧k < (s.thg r t).l.length then 0 else 1
def Rgn.upd (r:Rgn) (t:Nat) (x:Thg):Rgn:=⟨r.there,r.l.set t x,r.pages,r.used⟩
def Thg.upd (t:Thg) (k:Nat) (x:Val):Thg:=⟨t.array,t.l.set k x⟩
def HpS.set (s:HpS) (v:Val) (k:Int) (x:Val):HpS:=match s.at_ v with
 | none=> s
 | some (r,t)=> if s.setC v k x=0 then ⟨s.l.set r ((s.reg r).upd t ((s.thg r t).upd k.toNat x)),s.left⟩ else s
def HpS.len (s:HpS) (v:Val):Int×Int:=match s.at_ v with
 | none=> (0,20)
 | some (r,t)=> ((s.thg r t).l.length,0)
def QZ (l:List Val):Int:=if l.length=0 then 1 else l.length
def HpS.tuple (s:HpS) (v:Val) (l:List Val):HpS:=s.put v (QZ l) ⟨false,l⟩
def Q1R (n:Int):List Val:=List.replicate n.toNat ⟨1,0,0,0⟩
def HpS.arrC (s:HpS) (v:Val) (n:Int):Int:=if n < 0∨15 < n then 1 else s.code v (n+1)
def HpS.arr (s:HpS) (v:Val) (n:Int):HpS:=if n < 0∨15 < n then s else s.put v (n+1) ⟨true,Q1R n⟩
def HpS.arrV (s:HpS) (v:Val) (n:Int):Val:=if n < 0∨15 < n then Val.zero else s.putV v 4 (n+1)

structure HpS.Ok (N:Nat) (s:HpS):Prop where
 len:s.l.length≤N
 each:∀r∈s.l,r.l.length≤N∧(∀t∈r.l,t.l.length≤1000)∧0≤r.pages∧0≤r.used∧r.used≤1000∧(r.there=false→r=Rgn.none)
 left:0≤s.left
 sum:s.left+(s.l.map Rgn.pages).sum≤1000
 live:s.live≤16

theorem Q9e {l l':List Int}(h:l.Perm l'):l.sum=l'.sum:=by
 induction h with
 | nil=> rfl
 | cons x _ ih=> rw [List.sum_cons,List.sum_cons,ih]
 | swap x y l=> simp only [List.sum_cons];omega
 | trans _ _ h1 h2=> rw [h1,h2]
theorem Q66 {l:List Int}(h:∀x∈l,0≤x):0≤l.sum:=by
 induction l with
 | nil=> simp
 | cons x l ih=> rw [List.sum_cons];have:=h x (by simp);have:=ih fun y hy=> h y (by simp [hy]);omega
theorem Q4B {α:Type}:∀{l:List α}{k:Nat}{x:α},l[k]?=some x→l.Perm (x::l.eraseIdx k)
 | [],_,_,h=> by simp at h
 | y::l,0,x,h=> by simp at h;subst h;exact .refl _
 | y::l,k+1,x,h=> ((Q4B (l:=l) (by simpa using h)).cons y).trans (.swap _ _ _)
theorem Q5z {α:Type}:∀{l:List α}{k:Nat}{x:α},k < l.length→(l.set k x).Perm (x::l.eraseIdx k)
 | [],_,_,h=> by simp at h
 | y::l,0,x,h=> .refl _
 | y::l,k+1,x,h=> ((Q5z (l:=l) (by simpa using h)).cons y).trans (.swap _ _ _)
theorem QeF {l:List Rgn}{k:Nat}{r r':Rgn}(hr:l[k]?=some r):((l.set k r').map Rgn.pages).sum+r.pages=(l.map Rgn.pages).sum+r'.pages:=by
 have h1:=Q9e ((Q4B hr).map Rgn.pages)
 have h2:=Q9e ((Q5z (x:=r') (List.getElem?_eq_some_iff.1 hr).1).map Rgn.pages)
 rw [List.map_cons,List.sum_cons] at h1 h2
 rw [h1,h2];omega
theorem Q4K {l:List Rgn}{k:Nat}{r r':Rgn}(hr:l[k]?=some r):((l.set k r').countP fun r=> r.there)+(if r.there then 1 else 0)=(l.countP fun r=> r.there)+if r'.there then 1 else 0:=by
 have h1:=(Q4B hr).countP_eq fun r:Rgn=> r.there
 have h2:=(Q5z (x:=r') (List.getElem?_eq_some_iff.1 hr).1).countP_eq fun r:Rgn=> r.there
 rw [List.countP_cons] at h1 h2
 rw [h1,h2];omega
theorem HpS.Ok.pages {N:Nat}{s:HpS}(h:s.Ok N):s.left≤1000∧∀r∈s.l,r.pages+s.left≤1000:=by
 have h1:=h.sum
 have h2:=Q66 (l:=s.l.map Rgn.pages) (by intro x hx;obtain ⟨r,hr,rfl⟩:=List.mem_map.1 hx;exact (h.each r hr).2.2.1)
 have h3:=h.left
 refine ⟨by omega,fun r hr=> ?_⟩
 obtain ⟨k,hk⟩:=List.mem_iff_getElem?.1 hr
 have h4:=Q9e ((Q4B hk).map Rgn.pages)
 rw [List.map_cons,List.sum_cons] at h4
 have h5:=Q66 (l:=(s.l.eraseIdx k).map Rgn.pages) (by intro x hx;obtain ⟨r,hr,rfl⟩:=List.mem_map.1 hx;exact (h.each r (List.mem_of_mem_eraseIdx hr)).2.2.1)
 omega
theorem mem_set_or {α:Type}{l:List α}{k:Nat}{x y:α}(h:y∈l.set k x):y=x∨y∈l:=(List.mem_or_eq_of_mem_set h).symm
theorem HpS.Ok.mono {N M:Nat}{s:HpS}(h:s.Ok N) (hm:N≤M):s.Ok M:=⟨by have:=h.len;omega,fun r hr=> by obtain ⟨h1,h2⟩:=h.each r hr;exact ⟨by omega,h2⟩,h.left,h.sum,h.live⟩
theorem HpS.ok_set {N M:Nat}{s:HpS}(h:s.Ok N){k:Nat}{r r':Rgn}(hr:s.l[k]?=some r){left:Int}(hM:N≤M) (h0:0≤left) (hs:left+r'.pages=s.left+r.pages) (hl:s.live+(if r'.there then 1 else 0)≤16+if r.there then 1 else 0)
 (he:r'.l.length≤M∧(∀t∈r'.l,t.l.length≤1000)∧0≤r'.pages∧0≤r'.used∧r'.used≤1000∧(r'.there=false→r'=Rgn.none)):(⟨s.l.set k r',left⟩:HpS).Ok M:=by
 have h1:=QeF (r':=r') hr
 have h2:=Q4K (r':=r') hr
 have h3:=h.sum
 have h4:=h.len
 refine ⟨by rw [List.length_set];omega,fun x hx=> ?_,h0,by show left+((s.l.set k r').map Rgn.pages).sum≤1000;omega,?_⟩
 · rcases mem_set_or hx with rfl|hx
   · exact he
   · obtain ⟨g1,g2⟩:=h.each x hx;exact ⟨by omega,g2⟩
 · show (s.l.set k r').countP (fun r=> r.there)≤16
   have:s.live=s.l.countP fun r=> r.there:=rfl
   omega
theorem HpS.reg_get {s:HpS}{k:Nat}{r:Rgn}(h:s.l[k]?=some r):s.reg k=r:=by
 unfold HpS.reg;rw [if_pos (by omega),Int.toNat_natCast,List.getD_eq_getElem?_getD,h];rfl
theorem HpS.ok_put {N:Nat}{s:HpS}(h:s.Ok N){v:Val}{n:Int}(hn:1≤n∧n≤1000){t:Thg}(ht:t.l.length≤1000):(s.put v n t).Ok (N+1):=by
 unfold HpS.put
 split
 · rename_i hc
   have hcan:s.can v=true:=by
    unfold HpS.code at hc
    cases hx:s.can v with
    | true=> rfl
    | false=> rw [hx] at hc;cases hc
   unfold HpS.can at hcan
   rw [Bool.and_eq_true] at hcan
   have hh:=hcan.2
   unfold HpS.has HpS.reg at hh
   split at hh
   · rename_i h0
     rw [List.getD_eq_getElem?_getD] at hh
     cases hk:s.l[v.region.toNat]? with
     | none=> rw [hk] at hh;cases hh
     | some r=>
       have hrg:s.reg v.region=r:=by have:=HpS.reg_get hk;rw [Int.toNat_of_nonneg h0] at this;exact this
       have hth:r.there=true:=by rw [hk] at hh;exact hh
       rw [hrg]
       have he:=h.each r (List.mem_of_getElem? hk)
       have hl:=h.left
       have hlive:=h.live
       have hne:r.more n=true→s.left≠0:=fun hm e=> by
        unfold HpS.code at hc
        rw [hrg] at hc
        split at hc
        · cases hc
        · rw [if_pos ⟨hm,e⟩] at hc;cases hc
       have hu:¬r.more n=true→r.used+n≤16:=fun hm=> by unfold Rgn.more at hm;rw [decide_eq_true_iff] at hm;omega
       refine HpS.ok_set h hk (by omega) ?_ ?_ ?_ ?_
       · split
         · rename_i hm;have:=hne hm;omega
         · exact hl
       · unfold Rgn.room
         split <;> simp only [Rgn.push] <;> omega
       · unfold Rgn.room
         split <;> simp only [Rgn.push,hth,if_true] <;> omega
       · obtain ⟨g1,g2,g3,g4,g5,g6⟩:=he
         have e1:(r.room n).l=r.l∧(r.room n).there=r.there∧0≤(r.room n).pages∧0≤(r.room n).used∧(r.room n).used≤1000:=by
          unfold Rgn.room
          split
          · exact ⟨rfl,rfl,by simp only;omega,by simp only;omega,by simp only;omega⟩
          · rename_i hm;have:=hu hm;exact ⟨rfl,rfl,by simp only;omega,by simp only;omega,by simp only;omega⟩
         obtain ⟨e1,e2,e3,e4,e5⟩:=e1
         refine ⟨by simp [Rgn.push,e1];omega,fun x hx=> ?_,e3,e4,e5,fun hf=> ?_⟩
         · simp only [Rgn.push,e1,List.mem_append,List.mem_singleton] at hx
           rcases hx with hx|rfl
           · exact g2 x hx
           · exact ht
         · simp only [Rgn.push,e2,hth] at hf;cases hf
   · cases hh
 · exact h.mono (by omega)
theorem HpS.ok_shut {N:Nat}{s:HpS}(h:s.Ok N){m:Nat}{r:Rgn}(hk:s.l[m]?=some r):(⟨s.l.set m Rgn.none,s.left+r.pages⟩:HpS).Ok N:=by
 have he:=h.each r (List.mem_of_getElem? hk)
 have hl:=h.left
 have hlive:=h.live
 exact HpS.ok_set h hk (Nat.le_refl _) (by omega) (by simp [Rgn.none]) (by simp [Rgn.none];split <;> omega) ⟨by simp [Rgn.none],by simp [Rgn.none],by simp [Rgn.none],by simp [Rgn.none],by simp [Rgn.none],fun _=> rfl⟩
theorem HpS.ok_open {N:Nat}{s:HpS}(h:s.Ok N):s.open.Ok (N+1):=by
 unfold HpS.open
 split
 · exact h.mono (by omega)
 · rename_i hf
   have hl:s.live≠16:=fun e=> hf (decide_eq_true e)
   have hlive:=h.live
   have h2:=h.sum
   have h3:=h.len
   refine ⟨by simp;omega,fun r hr=> ?_,h.left,by simp;omega,?_⟩
   · rcases List.mem_append.1 hr with hr|hr
     · obtain ⟨g1,g2⟩:=h.each r hr;exact ⟨by omega,g2⟩
     · simp only [List.mem_singleton] at hr;subst hr;exact ⟨by simp,by simp,by simp,by simp,by simp,fun e=> by cases e⟩
   · show (s.l++[(⟨true,[],0,0⟩:Rgn)]).countP (fun r:Rgn=> r.there)≤16
     rw [List.countP_append]
     have:s.live=s.l.countP fun r:Rgn=> r.there:=rfl
     simp;omega
end Go.Lir
namespace Go.Lir
abbrev wr (n:Int):Int:=IntKind.i64.wrap n
def divF (a b:Int):Int×Bool:=if b=0 then (0,false) else if b=-1 then (wr (0 - a),true) else (wr (a.tdiv b),true)
def opF (k a b:Int):Int×Bool:=
 if k=1 then (wr (a+b),true) else if k=2 then (wr (a - b),true) else if k=3 then (wr (a*b),true)
 else if k=4 then divF a b else if k=5 then (if (divF a b).2 then (wr (a - wr ((divF a b).1*b)),true) else (0,false))
 else if k=6 then (if a < b then 1 else 0,true) else if k=7 then (if a=b then 1 else 0,true) else if k=8 then (bitI .and .i64 a b,true) else if k=9 then (bitI .xor .i64 a b,true) else (0,false)
end Go.Lir
namespace Go.Lir
set_option linter.unusedVariables false
structure Frm where
 f:Nat
 b:Nat
 i:Nat
 vals:List Val
 regs:List Int
structure MS where
 h:HpS
 g:Frm
 st:List Frm
 inp:List Int
 out:List Int
 fuel:Nat
inductive Stp where
 | go (s:MS)
 | halt (e:Int)
 | done (l:List Int)
 | lost
def Q16 {α:Type}(x:Option α) (f:α→Stp):Stp:=match x with
 | none=> .lost
 | some a=> f a
theorem Q1D {α:Type}{x:Option α}{f:α→Stp}(h:x=none):Q16 x f= .lost:=by rw [h];rfl
theorem Qb {α:Type}{x:Option α}{f:α→Stp}{a:α}(h:x=some a):Q16 x f=f a:=by rw [h];rfl
abbrev intV (n:Int):Val:=⟨1,0,0,n⟩
def Frm.val (g:Frm) (k:Int):Option Val:=if k < 0 then none else g.vals[k.toNat]?
def Frm.num (g:Frm) (k:Int):Option Int:=match g.val k with
 | none=> none
 | some v=> if v.kind=1 then some v.n else none
def Frm.args (g:Frm):List Int→Option (List Val)
 | []=> some []
 | k::l=> match g.val k,g.args l with
   | some v,some vs=> some (v::vs)
   | _,_=> none
def Frm.reg (g:Frm) (k:Int):Option Int:=if k < 0 then none else g.regs[k.toNat]?
def Frm.rgs (g:Frm):List Int→Option (List Int)
 | []=> some []
 | k::l=> match g.reg k,g.rgs l with
   | some v,some vs=> some (v::vs)
   | _,_=> none
def MS.put (s:MS) (vs:List Val):MS:=⟨s.h,⟨s.g.f,s.g.b,s.g.i,s.g.vals++vs,s.g.regs⟩,s.st,s.inp,s.out,s.fuel⟩
def MS.hp (s:MS) (h:HpS):MS:=⟨h,s.g,s.st,s.inp,s.out,s.fuel⟩
def MS.fr (s:MS) (g:Frm):MS:=⟨s.h,g,s.st,s.inp,s.out,s.fuel⟩
def MS.made (s:MS) (e:Int) (h:HpS) (v:Val):Stp:=if e=14 then .halt 6 else if e≠0 then .lost else .go ((s.hp h).put [v])
def Q2A (v:Val) (e:Int) (k:Stp):Stp:=if v.kind≠4 then .lost else if e=1 then .halt 2 else if e≠0 then .lost else k
def MS.newR (s:MS):Stp:=if s.h.full=true then .halt 6 else .go ((⟨s.h.open,⟨s.g.f,s.g.b,s.g.i,s.g.vals,s.g.regs++[s.h.openV.region]⟩,s.st,s.inp,s.out,s.fuel⟩:MS).put [s.h.openV])
def MS.inS (s:MS):Stp:=match s.inp with
 | []=> .halt 4
 | n::r=> .go ((⟨s.h,s.g,s.st,r,s.out,s.fuel⟩:MS).put [intV n])
def MS.outS (s:MS) (n:Int):Stp:=if s.out.length=2000 then .halt 8 else .go ⟨s.h,s.g,s.st,s.inp,s.out++[n],s.fuel⟩
def MS.call (m:Module) (s:MS) (x:Ins):Stp:=match m.funcs[x.k.toNat]? with
 | none=> .lost
 | some g=> Q16 (s.g.rgs x.regs) fun rs=> Q16 (s.g.args x.args) fun vs=>
   if (rs.length:Int)≠g.regs∨vs.length≠g.params.length then .lost else if s.st.length+1=40 then .halt 5 else .go ⟨s.h,⟨x.k.toNat,0,0,vs,rs⟩,s.g::s.st,s.inp,s.out,s.fuel⟩
def MS.ins (m:Module) (s:MS) (x:Ins):Stp:=
 if x.op=1 then .go (s.put [intV x.n])
 else if x.op=2 then Q16 (s.g.num x.a) fun a=> Q16 (s.g.num x.b) fun b=> if (opF x.k a b).2=false then .halt 1 else .go (s.put [intV (opF x.k a b).1])
 else if x.op=3 then s.newR
 else if x.op=4 then Q16 (s.g.val x.a) fun v=> if s.h.can v=false then .lost else .go (s.hp (s.h.shut v))
 else if x.op=5 then Q16 (s.g.val x.a) fun v=> Q16 (s.g.args x.args) fun l=> s.made (s.h.code v (QZ l)) (s.h.tuple v l) (s.h.putV v 3 (QZ l))
 else if x.op=6 then Q16 (s.g.val x.a) fun v=> if v.kind≠3 then .lost else if (s.h.get v x.k).2≠0 then .lost else .go (s.put [(s.h.get v x.k).1])
 else if x.op=7 then Q16 (s.g.val x.a) fun v=> if v.kind≠3 then .lost else Q16 (s.g.val x.b) fun y=> if s.h.setC v x.k y≠0 then .lost else .go (s.hp (s.h.set v x.k y))
 else if x.op=8 then Q16 (s.g.val x.a) fun v=> Q16 (s.g.num x.b) fun n=> if n < 0∨15 < n then .halt 3 else s.made (s.h.arrC v n) (s.h.arr v n) (s.h.arrV v n)
 else if x.op=9 then Q16 (s.g.val x.a) fun v=> Q16 (s.g.num x.b) fun n=> Q2A v (s.h.get v n).2 (.go (s.put [(s.h.get v n).1]))
 else if x.op=10 then Q16 (s.g.val x.a) fun v=> Q16 (s.g.num x.b) fun n=> Q16 (s.g.num x.c) fun c=> Q2A v (s.h.setC v n (intV c)) (.go (s.hp (s.h.set v n (intV c))))
 else if x.op=11 then Q16 (s.g.val x.a) fun v=> Q2A v (s.h.len v).2 (.go (s.put [intV (s.h.len v).1]))
 else if x.op=12 then s.inS
 else if x.op=13 then Q16 (s.g.num x.a) fun n=> s.outS n
 else s.call m x
def MS.to (f:Fun) (s:MS) (t:To):Stp:=match f.blocks[t.block.toNat]? with
 | none=> .lost
 | some b=> Q16 (s.g.rgs t.regs) fun rs=> Q16 (s.g.args t.args) fun vs=>
   if (rs.length:Int)≠b.regs∨vs.length≠b.params.length then .lost else .go (s.fr ⟨s.g.f,t.block.toNat,0,vs,rs⟩)
def intsV:List Val→Option (List Int)
 | []=> some []
 | v::l=> match intsV l with
   | none=> none
   | some ns=> if v.kind=1 then some (v.n::ns) else none
def MS.ret (f:Fun) (s:MS) (e:Tail):Stp:=Q16 (s.g.args e.args) fun vs=> if vs.length≠f.results.length then .lost else match s.st with
 | c::st=> .go ((⟨s.h,c,st,s.inp,s.out,s.fuel⟩:MS).put vs)
 | []=> match intsV vs with
   | none=> .lost
   | some ns=> .done ns
def MS.fin (f:Fun) (s:MS) (e:Tail):Stp:=
 if e.op=1 then s.to f e.yes
 else if e.op=2 then Q16 (s.g.num e.a) fun n=> if n≠0 then s.to f e.yes else s.to f e.no
 else s.ret f e
def MS.next (s:MS):MS:=s.fr ⟨s.g.f,s.g.b,s.g.i+1,s.g.vals,s.g.regs⟩
def MS.one (m:Module) (s:MS):Stp:=match m.funcs[s.g.f]? with
 | none=> .lost
 | some f=> match f.blocks[s.g.b]? with
   | none=> .lost
   | some b=> match b.code[s.g.i]? with
     | some x=> s.next.ins m x
     | none=> s.fin f b.fin
def MS.place (m:Module) (s:MS):Int:=match m.funcs[s.g.f]? with
 | none=> 0
 | some f=> match f.blocks[s.g.b]? with
   | none=> 0
   | some b=> if s.g.i < b.code.length then Q60 s.g.f s.g.b s.g.i else Q5v s.g.f s.g.b
def MS.tick (s:MS):MS:=⟨s.h,s.g,s.st,s.inp,s.out,s.fuel+1⟩
inductive Run where
 | on (s:MS)
 | over (s:MS) (e:Int) (back:List Int)
 | stuck (f:Flt)
def Run.of (m:Module) (s:MS):Stp→Run
 | .go s'=> .on s'
 | .halt e=> .over s.tick e []
 | .done l=> .over s.tick 0 l
 | .lost=> .stuck (20,s.place m)
def Run.step (m:Module) (most:Nat):Run→Run
 | .on s=> if s.fuel=most then .over s 7 [] else .of m s (s.tick.one m)
 | r=> r
def Run.steps (m:Module) (most:Nat):Nat→Run→Run
 | 0,r=> r
 | k+1,r=> Run.steps m most k (r.step m most)
def MS.start (inp:List Int) (pages:Int):MS:=⟨⟨[],pages⟩,⟨0,0,0,[],[]⟩,[],inp,[],0⟩
structure Oc where
 e:Int
 back:List Int
 out:List Int
 fuel:Int
def Run.oc:Run→Oc
 | .on s=> ⟨0,[],s.out,s.fuel⟩
 | .over s e back=> ⟨e,back,s.out,s.fuel⟩
 | .stuck _=> ⟨0,[],[],0⟩
def Run.flt:Run→Flt
 | .stuck f=> f
 | _=> (0,0)
def Run.all (m:Module) (inp:List Int) (most:Nat) (pages:Int):Run:=Run.steps m most (most+1) (.on (MS.start inp pages))
end Go.Lir
namespace Go.Proofs.YteflkifmgnpbhaaGreat
open Go.Lir
set_option linter.unusedVariables false
structure RFrm where
 f:Nat
 b:Nat
 i:Nat
 vals:List Int
structure RS where
 e:EstS
 g:RFrm
 st:List RFrm
 inp:List Int
 out:List Int
 fuel:Nat
inductive RStp where
 | go (s:RS)
 | halt (e:Int)
 | done (l:List Int)
 | crash
def Q1x {α:Type}(x:Option α) (f:α→RStp):RStp:=match x with
 | none=> .crash
 | some a=> f a
theorem Q1v {α:Type}{x:Option α}{f:α→RStp}{a:α}(h:x=some a):Q1x x f=f a:=by rw [h];rfl
def RFrm.val (g:RFrm) (k:Int):Option Int:=if k < 0 then none else g.vals[k.toNat]?
def RFrm.args (g:RFrm):List Int→Option (List Int)
 | []=> some []
 | k::l=> match g.val k,g.args l with
   | some v,some vs=> some (v::vs)
   | _,_=> none
def RS.put (s:RS) (vs:List Int):RS:=⟨s.e,⟨s.g.f,s.g.b,s.g.i,s.g.vals++vs⟩,s.st,s.inp,s.out,s.fuel⟩
def RS.es (s:RS) (e:EstS):RS:=⟨e,s.g,s.st,s.inp,s.out,s.fuel⟩
def RS.fr (s:RS) (g:RFrm):RS:=⟨s.e,g,s.st,s.inp,s.out,s.fuel⟩
def EstS.word (s:EstS) (i:Int):Int:=s.p.word i
def EstS.store (s:EstS) (i x:Int):EstS:=⟨s.p.store i x,s.rs⟩
def EstS.storesA (s:EstS) (at_:Int) (k:Nat):List Int→EstS
 | []=> s
 | v::l=> (s.store (wr (at_+k)) v).storesA at_ (k+1) l
def EstS.stores (s:EstS) (at_:Int) (l:List Int):EstS:=s.storesA at_ 0 l
theorem EstS.storesA_one {at_ v:Int}:∀{l:List Int}{s:EstS}{k:Nat},s.storesA at_ k (l++[v])=(s.storesA at_ k l).store (wr (at_+(k+l.length:Nat))) v
 | [],s,k=> by simp [EstS.storesA]
 | a::l,s,k=> by
   rw [List.cons_append,EstS.storesA,EstS.storesA,EstS.storesA_one (l:=l),List.length_cons,show k+1+l.length=k+(l.length+1) by omega]
theorem EstS.stores_take {s:EstS}{at_ v:Int}{l:List Int}{q:Nat}(h:l[q]?=some v):s.stores at_ (l.take (q+1))=(s.stores at_ (l.take q)).store (wr (at_+q)) v:=by
 obtain ⟨hq,hv⟩:=List.getElem?_eq_some_iff.mp h
 rw [List.take_add_one,h]
 show s.storesA at_ 0 (l.take q++[v])=_
 rw [EstS.storesA_one,List.length_take,Nat.min_eq_left (by omega),Nat.zero_add];rfl
def RS.gotR (s:RS) (r n:Int) (k:EstS→Int→RStp):RStp:=if s.e.code r n=14 then .halt 6 else k (s.e.get r n) (s.e.getV r n)
def RS.atR (s:RS) (a k:Int) (c:Int→RStp):RStp:=if k < 0∨s.e.word a≤k then .halt 2 else c (wr (wr (a+1)+k))
def RS.inR (s:RS):RStp:=match s.inp with
 | []=> .halt 4
 | n::r=> .go ((⟨s.e,s.g,s.st,r,s.out,s.fuel⟩:RS).put [n])
def RS.outR (s:RS) (n:Int):RStp:=if s.out.length=2000 then .halt 8 else .go ⟨s.e,s.g,s.st,s.inp,s.out++[n],s.fuel⟩
def RS.callR (s:RS) (k:Int) (vs:List Int):RStp:=if s.st.length+1=40 then .halt 5 else .go ⟨s.e,⟨k.toNat,0,0,vs⟩,s.g::s.st,s.inp,s.out,s.fuel⟩
def RS.ins (m:Module) (s:RS) (x:Ins):RStp:=
 if x.op=1 then .go (s.put [x.n])
 else if x.op=2 then Q1x (s.g.val x.a) fun a=> Q1x (s.g.val x.b) fun b=> if (opF x.k a b).2=false then .halt 1 else .go (s.put [(opF x.k a b).1])
 else if x.op=3 then (if s.e.openV < 0 then .halt 6 else .go ((s.es s.e.open).put [s.e.openV]))
 else if x.op=4 then Q1x (s.g.val x.a) fun a=> .go (s.es (s.e.shut a))
 else if x.op=5 then Q1x (s.g.val x.a) fun a=> Q1x (s.g.args x.args) fun l=> s.gotR a (max (x.args.length:Int) 1) fun e at_=> .go ((s.es (e.stores at_ l)).put [at_])
 else if x.op=6 then Q1x (s.g.val x.a) fun a=> .go (s.put [s.e.word (wr (a+x.k))])
 else if x.op=7 then Q1x (s.g.val x.a) fun a=> Q1x (s.g.val x.b) fun b=> .go (s.es (s.e.store (wr (a+x.k)) b))
 else if x.op=8 then Q1x (s.g.val x.a) fun a=> Q1x (s.g.val x.b) fun n=> if n < 0∨15 < n then .halt 3 else s.gotR a (1+n) fun e at_=> .go ((s.es (e.store at_ n)).put [at_])
 else if x.op=9 then Q1x (s.g.val x.a) fun a=> Q1x (s.g.val x.b) fun k=> s.atR a k fun q=> .go (s.put [s.e.word q])
 else if x.op=10 then Q1x (s.g.val x.a) fun a=> Q1x (s.g.val x.b) fun k=> Q1x (s.g.val x.c) fun c=> s.atR a k fun q=> .go (s.es (s.e.store q c))
 else if x.op=11 then Q1x (s.g.val x.a) fun a=> .go (s.put [s.e.word a])
 else if x.op=12 then s.inR
 else if x.op=13 then Q1x (s.g.val x.a) fun n=> s.outR n
 else Q1x (s.g.args x.args) fun vs=> s.callR x.k vs
def RS.to (s:RS) (t:To):RStp:=Q1x (s.g.args t.args) fun vs=> .go (s.fr ⟨s.g.f,t.block.toNat,0,vs⟩)
def RS.fin (s:RS) (e:Tail):RStp:=
 if e.op=3 then Q1x (s.g.args e.args) fun vs=> match s.st with
  | c::st=> .go ((⟨s.e,c,st,s.inp,s.out,s.fuel⟩:RS).put vs)
  | []=> .done vs
 else if e.op=2 then Q1x (s.g.val e.a) fun n=> if n=0 then s.to e.no else s.to e.yes
 else s.to e.yes
def RS.next (s:RS):RS:=s.fr ⟨s.g.f,s.g.b,s.g.i+1,s.g.vals⟩
def RS.one (m:Module) (s:RS):RStp:=match m.funcs[s.g.f]? with
 | none=> .crash
 | some f=> match f.blocks[s.g.b]? with
   | none=> .crash
   | some b=> match b.code[s.g.i]? with
     | some x=> s.next.ins m x
     | none=> s.fin b.fin
def RS.tick (s:RS):RS:=⟨s.e,s.g,s.st,s.inp,s.out,s.fuel+1⟩
def RS.start (inp:List Int) (pages:Nat):RS:=⟨EstS.mk0 pages,⟨0,0,0,[]⟩,[],inp,[],0⟩
end Go.Proofs.YteflkifmgnpbhaaGreat
namespace Go.Proofs.YteflkifmgnpbhaaGreat
open Go.Lir
set_option maxHeartbeats 1000000
attribute [local irreducible] LC.wp Q0 Qh Qc retQ Qw LO.wp Q3 Calls
set_option linter.unusedSimpArgs false
set_option linter.unusedVariables false
theorem size_c:∀(t:Ty){cx:Cx}{w:World}{L:List Res}{cs:List Value}{left:Int},tyR.at cx cs t→-1≤left→left≤1000000→St cx w L→
 Rets Tryz.prog Qea [.agg ⟨cs⟩, .int .i64 left] w fun v w'=> v= .int .i64 (t.size left)∧St cx w' L:=by
 intro t
 induction t using Ty.ind with
 | h k r l ih=>
   intro cx w L cs left ht h1 h2 hS
   obtain ⟨v,rfl,hl⟩:=Qt ht
   simp only [Ty.kind,Ty.r,Ty.l] at hl ht ⊢
   have hlen:=hl.len
   rw [Ty.size]
   all_goals refine lgo tyD Tryz.func158 ?_
   all_goals (refine Zaq ?_;intro p2 w1 hS;refine ZaT ?_;refine zsu ?_;refine Zaz ?_;refine ZaW ?_)
   refine zoL hS [2] (fun A LL ρ' w'=>∃(j:Nat) (n:Int),Has ρ' A∧Has ρ' [(1, .int .i64 n),(5, .int .i64 j)]∧(j≤l.length)∧(n≤1000000)∧(-2≤n)∧(Tys.size l (left - 1)=Tys.size (l.drop j) n)∧St cx w' (LL)) (fun ρ' _=> (l.length - iv (ρ' 5)).toNat) ?_ ?_
   · exact ⟨0,left - 1,zh,zh,(by omega),(by omega),(by omega),by simp,hS.sp⟩
   rintro ρ w1 ⟨j,n,hA,hρ,hj,hn,hn1,hd,hS⟩;obtain ⟨ρ,rfl⟩:=env2 hA hρ
   all_goals (refine Zah ?_;refine zf0 ?_;refine zl hS ?_;refine zL ?_)
   all_goals (first|(refine Q1k ?_)|(refine Q1w ?_)|(refine QA rfl rfl (fun hc=> ?_) (fun hc=> ?_)))
   all_goals (refine Zak ?_)
   all_goals (first|refine zgn ?_|(refine zgy ?_;(first|(refine Q2w ?_)|(refine Q3k ?_)|(refine Q1I rfl rfl (fun hc=> ?_) (fun hc=> ?_)))))
   all_goals (refine ZaL ?_)
   all_goals
    first
    | (refine zcf ?_
       all_goals (refine zex ?_;refine Zbl ?_)
       all_goals (refine ⟨_,rfl,?_,hS.sp⟩;(rw [hd];congr 1;first|(rw [Tys.size_neg _ (by omega)];done)|(rw [List.drop_of_length_le (by omega),Tys.size];done));done))
    | (refine zct ?_
       all_goals (refine ZaA ?_;refine Q1d ?_;refine zf0 ?_;refine zl hS ?_;refine zm ?_;refine zi ?_;intro b1 o1 cs1 x1 hat1 hx1 he1;obtain ⟨vl1,rfl,hl1⟩:=Qt he1;refine Yai ?_;refine zm ?_;refine zR2 (c:=ih _ (List.mem_of_getElem? (by assumption)) (by assumption) (by omega) (by omega) hS) (h:=?_);rintro v1 w1 ⟨rfl,hS⟩;refine Zad ?_;refine Zag ?_;refine zad ?_;refine Zad ?_)
       all_goals (exact ⟨⟨j+1,_,zh,zh,(by omega),by have:=Ty.size_rng x1 (left:=n) (by omega);omega,by have:=Ty.size_rng x1 (left:=n) (by omega);omega,by rw [hd,Q7 hx1,Tys.size,if_pos (by omega)],hS.sp⟩,Qr (by omega)⟩))
theorem great_c {t:Ty}{cx:Cx}{w:World}{L:List Res}{cs:List Value}(ht:tyR.at cx cs t) (hS:St cx w L):
 Rets Tryz.prog Qcq [.agg ⟨cs⟩] w fun v w'=> v= .bool t.great∧St cx w' L:=by
 obtain ⟨v,rfl,hl⟩:=Qt ht
 all_goals refine lgo tyD Tryz.func101 ?_
 all_goals (refine Zaq ?_;intro p1 w1 hS;refine ZbO ?_;refine zv hS ?_;refine zR2 (c:=size_c t ht (by omega) (by omega) hS) (h:=?_);rintro v1 w1 ⟨rfl,hS⟩;refine Q7z rfl rfl ?_;refine Zai ?_;refine ⟨_,rfl,?_,hS.sp⟩;(rfl);done)
theorem Q9S {l:List Ty}{cx:Cx}{w:World}{L:List Res}{v:Value}(hl:tyR.sl cx v l) (hS:St cx w L):
 Rets Tryz.prog Qbi [v] w fun u w'=> u= .bool (Tys.great l)∧St cx w' L:=by
 have hlen:=hl.len
 unfold Tys.great
 all_goals refine lgo tyD Tryz.func58 ?_
 all_goals (refine Zba ?_;refine zL ?_)
 all_goals (first|(refine Q1e ?_)|(refine Q1s ?_)|(refine Qx rfl rfl (fun hc=> ?_) (fun hc=> ?_)))
 all_goals (refine zn ?_)
 all_goals
  first
  | (refine zct ?_
     all_goals (refine Zao ?_)
     all_goals (refine ⟨_,rfl,?_,hS.sp⟩;rw [decide_eq_true (by omega),Bool.true_or];done))
  | (refine zcf ?_
     all_goals refine zsk ?_)
 all_goals (refine ZbA ?_)
 refine zoL hS [0] (fun A LL ρ' w'=>∃(j:Nat),Has ρ' A∧Has ρ' [(3, .int .i64 j)]∧(j≤l.length)∧(l.any Ty.great=(l.drop j).any Ty.great)∧St cx w' (LL)) (fun ρ' _=> (l.length - iv (ρ' 3)).toNat) ?_ ?_
 · exact ⟨0,zh,zh,(by omega),by simp,hS.sp⟩
 rintro ρ w1 ⟨j,hA,hρ,hj,hd,hS⟩;obtain ⟨ρ,rfl⟩:=env2 hA hρ
 all_goals (refine ZbL ?_;refine zL ?_;refine Zam ?_)
 refine Qn rfl (fun hc=> ?_) (fun hc=> ?_)
 · skip
   all_goals (refine ZaA ?_;refine Zas ?_;refine zi ?_;intro b1 o1 cs1 x1 hat1 hx1 he1;obtain ⟨vl1,rfl,hl1⟩:=Qt he1;refine Yai ?_)
   all_goals (refine zR1 (c:=great_c (by assumption) hS) (h:=?_);rintro v1 w1 ⟨rfl,hS⟩;cases hg:x1.great)
   all_goals (refine zn ?_)
   all_goals
    first
    | (refine zct ?_
       all_goals (refine Zao ?_)
       all_goals (first|(refine ⟨_,rfl,?_,hS.sp⟩;rw [decide_eq_true (by omega),Bool.true_or];done)|(refine ⟨_,rfl,?_,hS.sp⟩;rw [decide_eq_false (by omega),hd,Bool.false_or,Q7 hx1,List.any_cons,hg,Bool.true_or];done)))
    | (refine zcf ?_
       all_goals refine zsk ?_)
   all_goals (refine Zag ?_;refine zad ?_;refine Zad ?_;exact ⟨⟨j+1,zh,zh,(by omega),by rw [hd,Q7 hx1,List.any_cons,hg,Bool.false_or],hS.sp⟩,Qr (by omega)⟩)
 · skip
   all_goals (refine ZbK ?_;(first|(refine ⟨_,rfl,?_,hS.sp⟩;rw [decide_eq_true (by omega),Bool.true_or];done)|(refine ⟨_,rfl,?_,hS.sp⟩;rw [decide_eq_false (by omega),hd,Bool.false_or,Q7 hx1,List.any_cons,hg,Bool.true_or];done)|(refine ⟨_,rfl,?_,hS.sp⟩;rw [decide_eq_false (by omega),hd,Bool.false_or,List.drop_of_length_le (by omega)];rfl;done)))
theorem deep_c:∀(t:Ty){cx:Cx}{w:World}{L:List Res}{cs:List Value}{left:Int},tyR.at cx cs t→left≤1000000→St cx w L→
 Rets Tryz.prog Qdp [.agg ⟨cs⟩, .int .i64 left] w fun v w'=> v= .bool (t.deepB left)∧St cx w' L:=by
 intro t
 induction t using Ty.ind with
 | h k r l ih=>
   intro cx w L cs left ht h1 hS
   obtain ⟨v,rfl,hl⟩:=Qt ht
   simp only [Ty.kind,Ty.r,Ty.l] at hl ht ⊢
   have hlen:=hl.len
   rw [Ty.deepB]
   all_goals refine lgo tyD Tryz.func211 ?_
   all_goals (refine Zaq ?_;intro p2 w1 hS;refine ZaM ?_)
   all_goals (first|(refine Q1k ?_)|(refine Q1w ?_)|(refine QA rfl rfl (fun hc=> ?_) (fun hc=> ?_)))
   all_goals (refine zn ?_)
   all_goals
    first
    | (refine zct ?_
       all_goals (refine Zao ?_)
       all_goals (refine ⟨_,rfl,?_,hS.sp⟩;rw [if_pos (by omega)];done))
    | (refine zcf ?_
       all_goals refine zsk ?_)
   all_goals (refine Zbn ?_;refine zf0 ?_;refine zl hS ?_;refine zL ?_;refine ZaB ?_)
   refine zoL hS [1,10,11] (fun A LL ρ' w'=>∃(j:Nat),Has ρ' A∧Has ρ' [(12, .int .i64 j)]∧(j≤l.length)∧(Tys.deepB l (left - 1)=Tys.deepB (l.drop j) (left - 1))∧St cx w' (LL)) (fun ρ' _=> (l.length - iv (ρ' 12)).toNat) ?_ ?_
   · exact ⟨0,zh,zh,(by omega),by simp,hS.sp⟩
   rintro ρ w1 ⟨j,hA,hρ,hj,hd,hS⟩;obtain ⟨ρ,rfl⟩:=env2 hA hρ
   all_goals (refine ZaQ ?_)
   refine Qn rfl (fun hc=> ?_) (fun hc=> ?_)
   · skip
     all_goals (refine Zbk ?_;refine zi ?_;intro b1 o1 cs1 x1 hat1 hx1 he1;obtain ⟨vl1,rfl,hl1⟩:=Qt he1;refine ZaP ?_;intro p6 w1 hS;refine zsn hS ?_;intro w1 hS;have hS:=hS.ns;refine ZaE ?_;refine zv hS ?_;refine zm ?_;refine zsu ?_)
     all_goals (refine zR2 (c:=ih _ (List.mem_of_getElem? (by assumption)) (by assumption) (by omega) hS) (h:=?_);rintro v1 w1 ⟨rfl,hS⟩;cases hg:x1.deepB (left - 1))
     all_goals (refine ZaU ?_)
     all_goals
      first
      | (refine zcf ?_
         all_goals refine zsk ?_)
      | (refine zct ?_
         all_goals (refine Zao ?_)
         all_goals (first|(refine ⟨_,rfl,?_,hS.sp⟩;rw [if_pos (by omega)];done)|(refine ⟨_,rfl,?_,hS.sp⟩;rw [if_neg (by omega),hd,Q7 hx1,Tys.deepB,hg,Bool.false_and];done)))
     all_goals (refine Q1d ?_;refine zad ?_;refine Zad ?_;exact ⟨⟨j+1,zh,zh,(by omega),by rw [hd,Q7 hx1,Tys.deepB,hg,Bool.true_and],hS.sp⟩,Qr (by omega)⟩)
   · skip
     all_goals (refine ZbK ?_;(first|(refine ⟨_,rfl,?_,hS.sp⟩;rw [if_pos (by omega)];done)|(refine ⟨_,rfl,?_,hS.sp⟩;rw [if_neg (by omega),hd,Q7 hx1,Tys.deepB,hg,Bool.false_and];done)|(refine ⟨_,rfl,?_,hS.sp⟩;rw [if_neg (by omega),hd,List.drop_of_length_le (by omega),Tys.deepB];done)))
theorem wrong_c : ∀ (t:Ty){cx:Cx}{w:World}{L:List Res}{cs:List Value}{regs:Int},tyR.at cx cs t→St cx w L→
 Rets Tryz.prog Qbt [.agg ⟨cs⟩, .int .i64 regs] w fun v w'=> v= .int .i64 (t.wrong 8 regs)∧St cx w' L:=by
 intro t
 induction t using Ty.ind with
 | h k r l ih =>
   intro cx w L cs regs ht hS
   obtain ⟨v,rfl,hl⟩:=Qt ht
   simp only [Ty.kind,Ty.r,Ty.l] at hl ht ⊢
   have hlen:=hl.len
   rw [Ty.wrong]
   all_goals refine lgo tyD Tryz.func212 ?_
   all_goals (refine Zaq ?_;intro p2 w1 hS;refine Zad ?_)
   refine zML hS [1,2] (fun A LL ρ' w'=> Has ρ' A∧Has ρ' []∧(1≤k∧k≤4∧k≠1∧(k≠3→l.length=0)∧l.length≤8)∧St cx w' (LL)) ?_ ?_
   · skip
     all_goals (refine Zaa ?_;refine zf0 ?_;refine zl hS ?_;refine ZbJ ?_;refine Zaa ?_)
     all_goals (first|(refine Qi ?_)|(refine Qm ?_)|(refine Q5 rfl rfl (fun hc=> ?_) (fun hc=> ?_)))
     all_goals (refine Zad ?_)
     all_goals
      first
      | (refine zct ?_
         all_goals (refine Zbn ?_;refine zf0 ?_;refine zl hS ?_)
         all_goals (first|(refine Q11 ?_)|(refine Q18 ?_)|(refine Qu rfl rfl (fun hc=> ?_) (fun hc=> ?_)))
         all_goals (refine ZaO ?_;refine Yaj ?_)
         all_goals (first|refine zgn ?_|(refine zgy ?_;(first|(refine Q1e ?_)|(refine Q1s ?_)|(refine Qx rfl rfl (fun hc=> ?_) (fun hc=> ?_)))))
         all_goals (refine ZaL ?_)
         all_goals
          first
          | (refine zct ?_
             all_goals (refine Zao ?_)
             all_goals (refine ⟨_,rfl,?_,hS.sp⟩;(repeat (first|rw [if_pos (by omega)]|rw [if_neg (by omega)]));done))
          | (refine zcf ?_
             all_goals refine zsk ?_)
         all_goals (refine Zao ?_)
         all_goals (first|(refine ⟨_,rfl,?_,hS.sp⟩;(repeat (first|rw [if_pos (by omega)]|rw [if_neg (by omega)]));done)|(refine ⟨_,rfl,?_,hS.sp⟩;((repeat (first|rw [if_pos (by omega)]|rw [if_neg (by omega)]));rw [hd,Q7 hx1,Tys.wrong,if_pos (by assumption)]);done)|(refine ⟨_,rfl,?_,hS.sp⟩;((repeat (first|rw [if_pos (by omega)]|rw [if_neg (by omega)]));rw [List.eq_nil_of_length_eq_zero (l:=l) (by omega),Tys.wrong]);done)))
      | (refine zcf ?_
         all_goals (refine Zbn ?_)
         all_goals (first|(refine Qi ?_)|(refine Qm ?_)|(refine Q5 rfl rfl (fun hc=> ?_) (fun hc=> ?_)))
         all_goals (refine Zad ?_)
         all_goals
          first
          | (refine zct ?_
             all_goals refine zsk ?_)
          | (refine zcf ?_
             all_goals (refine Q1d ?_)
             all_goals (first|(refine Qi ?_)|(refine Qm ?_)|(refine Q5 rfl rfl (fun hc=> ?_) (fun hc=> ?_)))
             all_goals (refine zm ?_)
             all_goals refine zn ?_)
         all_goals
          first
          | (refine zct ?_
             all_goals (refine Zaa ?_;refine zf0 ?_;refine zl hS ?_;refine zL ?_)
             all_goals (first|(refine Q1e ?_)|(refine Q1s ?_)|(refine Qx rfl rfl (fun hc=> ?_) (fun hc=> ?_)))
             all_goals (refine zn ?_)
             all_goals
              first
              | (refine zct ?_
                 all_goals (refine Zao ?_)
                 all_goals (refine ⟨_,rfl,?_,hS.sp⟩;(repeat (first|rw [if_pos (by omega)]|rw [if_neg (by omega)]));done))
              | (refine zcf ?_
                 all_goals refine zsk ?_))
          | (refine zcf ?_
             all_goals (refine Zaa ?_)
             all_goals (first|(refine Qi ?_)|(refine Qm ?_)|(refine Q5 rfl rfl (fun hc=> ?_) (fun hc=> ?_)))
             all_goals (refine Zad ?_)
             all_goals
              first
              | (refine zct ?_
                 all_goals (refine Zaa ?_;refine zf0 ?_;refine zl hS ?_;refine zL ?_)
                 all_goals (first|(refine Q1e ?_)|(refine Q1s ?_)|(refine Qx rfl rfl (fun hc=> ?_) (fun hc=> ?_)))
                 all_goals (refine zn ?_)
                 all_goals
                  first
                  | (refine zct ?_
                     all_goals (refine Zao ?_)
                     all_goals (refine ⟨_,rfl,?_,hS.sp⟩;(repeat (first|rw [if_pos (by omega)]|rw [if_neg (by omega)]));done))
                  | (refine zcf ?_
                     all_goals refine zsk ?_))
              | (refine zcf ?_
                 all_goals (refine Zao ?_)
                 all_goals (refine ⟨_,rfl,?_,hS.sp⟩;(repeat (first|rw [if_pos (by omega)]|rw [if_neg (by omega)]));done))))
     all_goals (exact ⟨zh,zh,by omega,hS.sp⟩)
   rintro ρ w1 ⟨hA,hρ,hk,hS⟩;obtain ⟨ρ,rfl⟩:=env2 hA hρ
   all_goals (refine Zbn ?_;refine zf0 ?_;refine zl hS ?_)
   all_goals (first|(refine Q1k ?_)|(refine Q1w ?_)|(refine QA rfl rfl (fun hc=> ?_) (fun hc=> ?_)))
   all_goals (refine ZaO ?_;refine Yaa ?_)
   all_goals (first|refine zgn ?_|(refine zgy ?_;(first|(refine Q2w ?_)|(refine Q3k ?_)|(refine Q1I rfl rfl (fun hc=> ?_) (fun hc=> ?_)))))
   all_goals (refine ZaL ?_)
   all_goals
    first
    | (refine zct ?_
       all_goals (refine Zao ?_)
       all_goals (refine ⟨_,rfl,?_,hS.sp⟩;(repeat (first|rw [if_pos (by omega)]|rw [if_neg (by omega)]));done))
    | (refine zcf ?_
       all_goals refine zsk ?_)
   all_goals (refine Zbn ?_;refine zf0 ?_;refine zl hS ?_;refine zL ?_;refine ZaB ?_)
   refine zoL hS [1,44,45] (fun A LL ρ' w'=>∃(j:Nat),Has ρ' A∧Has ρ' [(46, .int .i64 j)]∧(j≤l.length)∧(Tys.wrong 8 l regs=Tys.wrong 8 (l.drop j) regs)∧St cx w' (LL)) (fun ρ' _=> (l.length - iv (ρ' 46)).toNat) ?_ ?_
   · exact ⟨0,zh,zh,(by omega),by simp,hS.sp⟩
   rintro ρ w1 ⟨j,hA,hρ,hj,hd,hS⟩;obtain ⟨ρ,rfl⟩:=env2 hA hρ
   all_goals (refine ZaQ ?_)
   refine Qn rfl (fun hc=> ?_) (fun hc=> ?_)
   · skip
     all_goals (refine Zbk ?_;refine zi ?_;intro b1 o1 cs1 x1 hat1 hx1 he1;obtain ⟨vl1,rfl,hl1⟩:=Qt he1;refine ZaP ?_;intro p6 w1 hS;refine zsn hS ?_;intro w1 hS;have hS:=hS.ns;refine ZaE ?_;refine zv hS ?_;refine zm ?_;refine zR2 (c:=ih _ (List.mem_of_getElem? (by assumption)) (by assumption) hS) (h:=?_);rintro v1 w1 ⟨rfl,hS⟩;refine ZaT ?_)
     all_goals (first|(refine Q11 ?_)|(refine Q18 ?_)|(refine Qu rfl rfl (fun hc=> ?_) (fun hc=> ?_)))
     all_goals (refine zn ?_)
     all_goals
      first
      | (refine zct ?_
         all_goals (refine Zbl ?_)
         all_goals (first|(refine ⟨_,rfl,?_,hS.sp⟩;(repeat (first|rw [if_pos (by omega)]|rw [if_neg (by omega)]));done)|(refine ⟨_,rfl,?_,hS.sp⟩;((repeat (first|rw [if_pos (by omega)]|rw [if_neg (by omega)]));rw [hd,Q7 hx1,Tys.wrong,if_pos (by assumption)]);done)))
      | (refine zcf ?_
         all_goals refine zsk ?_)
     all_goals (refine Q1d ?_;refine zad ?_;refine Zad ?_;exact ⟨⟨j+1,zh,zh,(by omega),by rw [hd,Q7 hx1,Tys.wrong,if_neg (by omega)],hS.sp⟩,Qr (by omega)⟩)
   · skip
     all_goals (refine ZbK ?_;(first|(refine ⟨_,rfl,?_,hS.sp⟩;(repeat (first|rw [if_pos (by omega)]|rw [if_neg (by omega)]));done)|(refine ⟨_,rfl,?_,hS.sp⟩;((repeat (first|rw [if_pos (by omega)]|rw [if_neg (by omega)]));rw [hd,Q7 hx1,Tys.wrong,if_pos (by assumption)]);done)|(refine ⟨_,rfl,?_,hS.sp⟩;((repeat (first|rw [if_pos (by omega)]|rw [if_neg (by omega)]));rw [List.eq_nil_of_length_eq_zero (l:=l) (by omega),Tys.wrong]);done)|(refine ⟨_,rfl,?_,hS.sp⟩;((repeat (first|rw [if_pos (by omega)]|rw [if_neg (by omega)]));rw [hd,List.drop_of_length_le (by omega),Tys.wrong]);done)))
theorem Qcy {t:Ty}{cx:Cx}{w:World}{L:List Res}{cs:List Value}{regs:Int}(ht:tyR.at cx cs t) (hS:St cx w L):
 Rets Tryz.prog Qbu [.agg ⟨cs⟩, .int .i64 regs] w fun v w'=> v= .int .i64 (t.fault regs)∧St cx w' L:=by
 obtain ⟨v,rfl,hl⟩:=Qt ht
 unfold Ty.fault
 all_goals refine lgo tyD Tryz.func159 ?_
 all_goals (refine Zaq ?_;intro p2 w1 hS;refine ZbD ?_;refine zv hS ?_)
 all_goals (refine zR2 (c:=deep_c t ht (by omega) hS) (h:=?_);rintro v1 w1 ⟨rfl,hS⟩;cases hg:t.deepB 4)
 all_goals (refine ZaU ?_)
 all_goals
  first
  | (refine zct ?_
     all_goals (refine Zao ?_)
     all_goals (refine ⟨_,rfl,?_,hS.sp⟩;(rfl);done))
  | (refine zcf ?_
     all_goals refine zsk ?_)
 all_goals (refine Zaa ?_;refine zv hS ?_;refine zm ?_;refine zR2 (c:=wrong_c t ht hS) (h:=?_);rintro v1 w1 ⟨rfl,hS⟩;refine Zai ?_;refine ⟨_,rfl,?_,hS.sp⟩;(rfl);done)
end Go.Proofs.YteflkifmgnpbhaaGreat
namespace Go.Proofs.YteflkifmgnpbhaaGreat
open Go.Lir
set_option maxRecDepth 100000
theorem el_T22:Q1H Tryz.prog 22=some (95,4,80,[(.int .i64 0),(.slice none 0 0),(.slice none 0 0),(.slice none 0 0)]):=by kernel_rfl
theorem u_T22:∃e2,Tryz.prog.underlying 22=some (.slice e2):=⟨95,by kernel_rfl⟩
theorem Q5R:Q1H Tryz.prog 25=some (2,1,8,[(.int .i64 0)]):=by kernel_rfl
theorem Qal:∃e2,Tryz.prog.underlying 25=some (.slice e2):=⟨2,by kernel_rfl⟩
theorem el_T64:Q1H Tryz.prog 64=some (138,4,48,[(.int .i64 0),(.int .i64 0),(.int .i64 0),(.slice none 0 0)]):=by kernel_rfl
theorem u_T64:∃e2,Tryz.prog.underlying 64=some (.slice e2):=⟨138,by kernel_rfl⟩
theorem Q5e:Q1H Tryz.prog 68=some (3,1,8,[(.int .i64 0)]):=by kernel_rfl
theorem Q9a:∃e2,Tryz.prog.underlying 68=some (.slice e2):=⟨3,by kernel_rfl⟩
theorem el_T85:Q1H Tryz.prog 85=some (84,8,96,[(.int .i64 0),(.int .i64 0),(.int .i64 0),(.int .i64 0),(.int .i64 0),(.int .i64 0),(.slice none 0 0),(.slice none 0 0)]):=by kernel_rfl
theorem u_T85:∃e2,Tryz.prog.underlying 85=some (.slice e2):=⟨84,by kernel_rfl⟩
theorem Q5Q:Q1H Tryz.prog 86=some (115,3,40,[(.int .i64 0),(.int .i64 0),(.slice none 0 0)]):=by kernel_rfl
theorem Qak:∃e2,Tryz.prog.underlying 86=some (.slice e2):=⟨115,by kernel_rfl⟩
theorem el_T93:Q1H Tryz.prog 93=some (92,12,208,[(.int .i64 0),(.slice none 0 0),(.slice none 0 0),(.int .i64 0),(.int .i64 0),(.int .i64 0),(.slice none 0 0),(.slice none 0 0),(.int .i64 0),(.slice none 0 0),(.slice none 0 0),(.slice none 0 0)]):=by kernel_rfl
theorem u_T93:∃e2,Tryz.prog.underlying 93=some (.slice e2):=⟨92,by kernel_rfl⟩
theorem Qci:Q1H Tryz.prog 146=some (4,1,1,[(.bool false)]):=by kernel_rfl
theorem u_T146:∃e2,Tryz.prog.underlying 146=some (.slice e2):=⟨4,by kernel_rfl⟩
end Go.Proofs.YteflkifmgnpbhaaGreat
namespace Go.Proofs.YteflkifmgnpbhaaGreat
open Go.Lir
set_option maxHeartbeats 1000000
attribute [local irreducible] LC.wp Q0 Qh Qc retQ Qw LO.wp Q3 Calls
set_option linter.unusedSimpArgs false
set_option linter.unusedVariables false
theorem QcY {l:List Ty}(hlen:l.length≤100000) (ih:∀x∈l,∀{cx:Cx}{w:World}{L:List Res}{cs:List Value},tyR.at cx cs x→St cx w L→Rets Tryz.prog Q6P [.agg ⟨cs⟩] w fun u w'=>∃c' ds,u= .agg ⟨ds⟩∧cx.Le c'∧tyR.at c' ds x∧St c' w' L)
 {cx:Cx}{w:World}{L:List Res}{v:Value}(hl:tyR.sl cx v l) (hS:St cx w L):Rets Tryz.prog Q5S [v] w fun u w'=>∃c',cx.Le c'∧tyR.sl c' u l∧St c' w' L:=by
 all_goals refine lgo tyD Tryz.func109 ?_
 all_goals (refine Zaf ?_;refine Zba ?_;refine zL ?_;refine ZaB ?_)
 refine zoL hS [6,7] (fun A LL ρ' w'=>∃(c1:Cx) (j:Nat) (u:Value) (css:List (List Value)),Has ρ' A∧Has ρ' [(3,u),(8, .int .i64 j)]∧(cx.Le c1)∧(j≤l.length)∧(tyR.ls c1 css (l.take j))∧(oneC u=true)∧St c1 w' (sl 115 3 u css::LL)) (fun ρ' _=> (l.length - iv (ρ' 8)).toNat) ?_ ?_
 · exact ⟨cx,0, .slice none 0 0,[],zh,zh,St.refl hS,(by omega),Rep.LR.nil _ _ _,rfl,by have hS:=hS.nil (T:=115) (es:=3);exact hS⟩
 rintro ρ w1 ⟨c1,j,u,css,hA,hρ,hle,hj,hls,hu,hS⟩;obtain ⟨ρ,rfl⟩:=env2 hA hρ;have hl:=Rep.SR.up hl hle
 all_goals (refine ZaQ ?_)
 refine Qn rfl (fun hc=> ?_) (fun hc=> ?_)
 · skip
   all_goals (refine Zbk ?_;refine zi ?_;intro b1 o1 cs1 x1 hat1 hx1 he1;obtain ⟨vl1,rfl,hl1⟩:=Qt he1;refine ZaP ?_;intro p5 w1 hS;refine zsn hS ?_;intro w1 hS;have hS:=hS.ns;refine Zbs ?_;refine zv hS ?_;refine zR1 (c:=ih _ (List.mem_of_getElem? hx1) he1 hS) (h:=?_);rintro v1 w1 ⟨c2,ds,rfl,hle2,hd,hS⟩;obtain ⟨v2,rfl,hv2⟩:=Qt hd;have hls:=Rep.LR.up hls hle2;refine zB1 hS [_,_,_] ?_;intro b1 w1 hS;refine za Q5Q Qak hS ?_;intro vp1 w1 css1 hls1 hv1 hS;have hS:=hS.ns;refine Zad ?_;refine Q1d ?_;refine zad ?_;refine Zad ?_;exact ⟨⟨c2,j+1,_,_,zh,zh,hle.trans hle2,(by omega),by rw [Q2E hx1];assumption,by assumption,hS.sp⟩,Qr (by omega)⟩)
 · skip
   all_goals (refine zex ?_;refine Zbl ?_;obtain ⟨c3,hle3,hS,hl3⟩:=St.freezeL (r:=tyR) (l:=l) (T:=115) (es:=3) (v:=u) (css:=css) (L:=L) hS.sp (by rw [List.take_of_length_le (by omega)] at hls;exact hls) rfl (by omega);exact ⟨_,rfl,c3,hle.trans hle3,hl3,hS⟩)
theorem pown_c:∀(t:Ty),t.Short→∀{cx:Cx}{w:World}{L:List Res}{cs:List Value},tyR.at cx cs t→St cx w L→
 Rets Tryz.prog Q6P [.agg ⟨cs⟩] w fun u w'=>∃c' ds,u= .agg ⟨ds⟩∧cx.Le c'∧tyR.at c' ds t∧St c' w' L:=by
 intro t
 induction t using Ty.ind with
 | h k r l ih=>
   intro hs cx w L cs ht hS
   obtain ⟨v,rfl,hl⟩:=Qt ht
   simp only [Ty.kind,Ty.r,Ty.l] at hl ht ⊢
   obtain ⟨hlen,hsub⟩:=hs.parts
   all_goals refine lgo tyD Tryz.func166 ?_
   all_goals (refine Zaq ?_;intro p1 w1 hS;refine Ql hS ?_;intro p2 w1 hS;refine ZaE ?_;refine zf0 ?_;refine zl hS ?_;refine zf0 ?_;refine zl hS ?_;refine zb2 [_,_,_] ?_;refine Ql hS ?_;intro p3 w1 hS;refine zsn hS ?_;intro w1 hS;have hS:=hS.ns;refine ZaE ?_;refine zf0 ?_;refine zl hS ?_;refine zR1 (c:=QcY hlen (fun x hx=> ih x hx (hsub x hx)) hl hS) (h:=?_);rintro v1 w1 ⟨c1,hle,hl1,hS⟩;obtain ⟨a1,n1,rfl⟩:=Rep.SR.shape hl1;refine zf0 ?_;refine zst hS ?_;intro w1 hS;have hS:=hS.ns;refine ZaE ?_;refine zv hS ?_;refine zsn hS ?_;intro w1 hS;have hS:=hS.ns;refine Zbb ?_;refine Q25 vw (Qa (n:=3) (by kernel_rfl) (by kernel_rfl) (hS.blkAt fd) (by rfl) (by rfl)) ?_;exact ⟨_,rfl,c1,_,rfl,hle,Q2P hl1,hS.sp⟩)
theorem Q4l {l:List Ty}(hlen:l.length≤100000) (hs:∀x∈l,x.Short){cx:Cx}{w:World}{L:List Res}{v:Value}(hl:tyR.sl cx v l) (hS:St cx w L):Rets Tryz.prog Q5S [v] w fun u w'=>∃c',cx.Le c'∧tyR.sl c' u l∧St c' w' L:=
 QcY hlen (fun x hx=> pown_c x (hs x hx)) hl hS
end Go.Proofs.YteflkifmgnpbhaaGreat
namespace Go.Proofs.YteflkifmgnpbhaaGreat
open Go.Lir
set_option maxHeartbeats 1000000
attribute [local irreducible] LC.wp Q0 Qh Qc retQ Qw LO.wp Q3 Calls
set_option linter.unusedSimpArgs false
set_option linter.unusedVariables false
theorem eqfT_c {l:List Ty}{f:FuncId}(hf:Q3G Tryz.prog f=true){m:List Ty}{cx:Cx}{w:World}{L:List Res}{v v2:Value}
 (hcall:∀x∈l,∀y∈m,∀{w:World}{L:List Res}{cs ds:List Value},tyR.at cx cs x→tyR.at cx ds y→St cx w L→Rets Tryz.prog f [.agg ⟨cs⟩, .agg ⟨ds⟩] w fun u w'=> u= .bool (decide (x=y))∧St cx w' L)
 (hl:tyR.sl cx v l) (hm:tyR.sl cx v2 m) (hS:St cx w L):Rets Tryz.prog Q1j [v,v2, .func (.func f) #[] #[]] w fun u w'=> u= .bool (decide (l=m))∧St cx w' L:=by
 have hlen:=hl.len
 all_goals refine lgo tyD Tryz.func162 ?_
 all_goals (refine Zba ?_;refine zL ?_;refine zm ?_;refine zL ?_)
 all_goals (first|(refine Q11 ?_)|(refine Q18 ?_)|(refine Qu rfl rfl (fun hc=> ?_) (fun hc=> ?_)))
 all_goals (refine zn ?_)
 all_goals
  first
  | (refine zct ?_
     all_goals (refine Zao ?_)
     all_goals (refine ⟨_,rfl,?_,hS.sp⟩;rw [decide_eq_false];exact fun e=> absurd (congrArg List.length e) (by omega);done))
  | (refine zcf ?_
     all_goals refine zsk ?_)
 all_goals (refine Zah ?_;refine zL ?_;refine ZaB ?_)
 refine zoL hS [1,2,15,16] (fun A LL ρ' w'=>∃(j:Nat),Has ρ' A∧Has ρ' [(17, .int .i64 j)]∧(j≤l.length)∧(l.length=m.length)∧(l=m↔l.drop j=m.drop j)∧St cx w' (LL)) (fun ρ' _=> (l.length - iv (ρ' 17)).toNat) ?_ ?_
 · exact ⟨0,zh,zh,(by omega),(by omega),by simp,hS.sp⟩
 rintro ρ w1 ⟨j,hA,hρ,hj,hlm,hd,hS⟩;obtain ⟨ρ,rfl⟩:=env2 hA hρ
 all_goals (refine ZaQ ?_)
 refine Qn rfl (fun hc=> ?_) (fun hc=> ?_)
 · skip
   all_goals (refine ZbC ?_;refine zi ?_;intro b1 o1 cs1 x1 hat1 hx1 he1;obtain ⟨vl1,rfl,hl1⟩:=Qt he1;refine ZaP ?_;intro p8 w1 hS;refine zm ?_;refine zsn hS ?_;intro w1 hS;have hS:=hS.ns;refine zn ?_;refine Zas ?_;refine zi ?_;intro b2 o2 cs2 x2 hat2 hx2 he2;obtain ⟨vl2,rfl,hl2⟩:=Qt he2;refine ZaP ?_;intro p9 w1 hS;refine zsn hS ?_;intro w1 hS;have hS:=hS.ns;refine ZaH ?_;refine zv hS ?_;refine zv hS ?_)
   all_goals (refine QeW rfl hf (by rfl) (hcall _ (List.mem_of_getElem? hx1) _ (List.mem_of_getElem? hx2) he1 he2 hS) ?_;rintro v1 w1 ⟨rfl,hS⟩;(cases hdec:decide (x1=x2));have hg:=of_decide_eq_false hdec;rotate_left;have hg:=of_decide_eq_true hdec;all_goals skip)
   all_goals (refine ZaU ?_)
   all_goals
    first
    | (refine zct ?_
       all_goals (refine Zao ?_)
       all_goals (first|(refine ⟨_,rfl,?_,hS.sp⟩;rw [decide_eq_false];exact fun e=> absurd (congrArg List.length e) (by omega);done)|(refine ⟨_,rfl,?_,hS.sp⟩;rw [decide_eq_false];rw [hd,Q7 hx1,Q7 hx2];simp [hg];done)))
    | (refine zcf ?_
       all_goals refine zsk ?_)
   all_goals (refine Q1d ?_;refine zad ?_;refine Zad ?_;exact ⟨⟨j+1,zh,zh,(by omega),(by omega),by rw [hd,Q7 hx1,Q7 hx2,hg];simp,hS.sp⟩,Qr (by omega)⟩)
 · skip
   all_goals (refine ZbK ?_;(first|(refine ⟨_,rfl,?_,hS.sp⟩;rw [decide_eq_false];exact fun e=> absurd (congrArg List.length e) (by omega);done)|(refine ⟨_,rfl,?_,hS.sp⟩;rw [decide_eq_false];rw [hd,Q7 hx1,Q7 hx2];simp [hg];done)|(refine ⟨_,rfl,?_,hS.sp⟩;rw [decide_eq_true];rw [hd,List.drop_of_length_le (by omega),List.drop_of_length_le (by omega)];done)))
theorem Q7M:∀(t u:Ty){cx:Cx}{w:World}{L:List Res}{cs ds:List Value},tyR.at cx cs t→tyR.at cx ds u→St cx w L→
 Rets Tryz.prog Qdq [.agg ⟨cs⟩, .agg ⟨ds⟩] w fun v w'=> v= .bool (decide (t=u))∧St cx w' L:=by
 intro t
 induction t using Ty.ind with
 | h k r l ih=>
   rintro ⟨k2,r2,m⟩ cx w L cs ds ht hu hS
   obtain ⟨v,rfl,hl⟩:=Qt ht
   obtain ⟨v2,rfl,hm⟩:=Qt hu
   simp only [Ty.kind,Ty.r,Ty.l,Ty.mk.injEq] at hl hm ht hu ⊢
   all_goals refine lgo tyD Tryz.func163 ?_
   all_goals (refine Zaq ?_;intro p2 w1 hS;refine zb hS ?_;intro p3 w1 hS;refine ZbO ?_;refine zf0 ?_;refine zl hS ?_;refine zf0 ?_;refine zl hS ?_)
   all_goals (first|(refine Qi ?_)|(refine Qm ?_)|(refine Q5 rfl rfl (fun hc=> ?_) (fun hc=> ?_)))
   all_goals (refine ZaO ?_;refine Zap ?_)
   all_goals (first|refine zgn ?_|(refine zgy ?_;(first|(refine Qi ?_)|(refine Qm ?_)|(refine Q5 rfl rfl (fun hc=> ?_) (fun hc=> ?_)))))
   all_goals (refine Yae ?_;refine ZaO ?_;refine Zap ?_;(first|refine zgn ?_|(refine zgy ?_;refine zR3 (c:=eqfT_c (by kernel_rfl) (fun x hx y _ {_ _ _ _} h1 h2 h3=> ih x hx y h1 h2 h3) hl hm hS) (h:=?_);rintro v1 w1 ⟨rfl,hS⟩));refine Yae ?_;refine Zai ?_;refine ⟨_,rfl,?_,hS.sp⟩;(simp [*]);done)
end Go.Proofs.YteflkifmgnpbhaaGreat
namespace Go.Proofs.YteflkifmgnpbhaaGreat
open Go.Lir
set_option maxHeartbeats 1000000
attribute [local irreducible] LC.wp Q0 Qh Qc retQ Qw LO.wp Q3 Calls
set_option linter.unusedSimpArgs false
set_option linter.unusedVariables false
theorem Q5C {l:List Int}(hb:l.length≤1000000){cx:Cx}{w:World}{L:List Res}{v:Value}(hl:intR.sl cx v l) (hS:St cx w L):Rets Tryz.prog Q4Y [v] w fun u w'=>∃c',cx.Le c'∧intR.sl c' u l∧St c' w' L:=by
 obtain ⟨a,c,hv⟩:=Rep.SR.shape hl
 cases a with
 | none=>
   have hl0:=Rep.SR.nil_of hl hv
   subst hl0
   subst hv
   all_goals refine lgo tyD Tryz.func111 ?_
   all_goals (refine Zba ?_;refine Q69 (e:=3) (by kernel_rfl) rfl rfl ?_;refine zn ?_)
   all_goals
    first
    | (refine zct ?_
       all_goals (refine Zao ?_)
       all_goals (exact ⟨_,rfl,cx,St.refl hS,Rep.SR.nil _ _ _,hS⟩))
   all_goals (refine Zaa ?_; fail "no law for buildSlice"; refine zm ?_; refine za Q5e Q9a hS ?_; intro vp1 w1 css1 hls1 hv1 hS; have hS := hS.ns; refine Zai ?_; exact ⟨_, rfl, cx, St.refl hS, Rep.SR.nil _ _ _, hS⟩)
 | some a=>
   have hn:intR.ls cx [] []:=Rep.LR.nil _ _ _
   all_goals refine lgo tyD Tryz.func111 ?_
   all_goals (refine Zba ?_;refine Q69 (e:=3) (by kernel_rfl) hv rfl ?_;refine zn ?_)
   all_goals refine zcf ?_
   all_goals (refine zsk ?_;refine Zaa ?_;refine QbE Q5e ?_;intro v1 w1 hf1 hs1 hz1;have hS:=hS.new (r:=sl 3 1 v1 []) hs1 hf1 (fun b hb=> Nat.le_of_eq hb.symm);refine zm ?_;(first|(refine za Q5e Q9a hS ?_;intro vp1 w1 css1 hls1 hv1 hS;have hS:=hS.ns)|(refine zak Q5e Q9a hS ?_;intro vp1 w1 css1 hls1 hv1 hS;have hS:=hS.ns));refine Zai ?_;obtain ⟨c3,hle3,hS,hl3⟩:=St.freezeL (r:=intR) (l:=l) (T:=3) (es:=1) (L:=L) hS.sp hls1 rfl (by omega);exact ⟨_,rfl,c3,hle3,hl3,hS⟩)
theorem QcX {x:To}(hb1:x.regs.length≤1000000) (hb2:x.args.length≤1000000){cx:Cx}{w:World}{L:List Res}{cs:List Value}(hx:toR.at cx cs x) (hS:St cx w L):Rets Tryz.prog Qe1 [.agg ⟨cs⟩] w fun u w'=>∃c' ds,u= .agg ⟨ds⟩∧cx.Le c'∧toR.at c' ds x∧St c' w' L:=by
 obtain ⟨v1,v2,rfl,h1,h2⟩:=Q64 hx
 all_goals refine lgo tyD Tryz.func110 ?_
 all_goals (refine Zaq ?_;intro p1 w1 hS;refine Ql hS ?_;intro p2 w1 hS;refine ZaF ?_;refine zC [(0,none),(1,none),(2,none),(3,none),(5,none),(6,none),(4,some (some [1,6])),(7,some (some [1])),(8,none),(9,some none)] ?_;have hS:=hS.drew;refine s_cq ?_;refine zf0 ?_;refine Zac ?_;refine zl hS ?_;refine Zac ?_;refine zf0 ?_;refine Zac ?_;refine zl hS ?_;refine Zac ?_;refine zf0 ?_;refine Zac ?_;refine zl hS ?_;refine Zal ?_;refine zR1 (c:=Q5C hb1 h1 hS) (h:=?_);rintro v1 w1 ⟨c1,hle,hl1,hS⟩;obtain ⟨a1,n1,rfl⟩:=Rep.SR.shape hl1;have h2:=Rep.SR.up h2 hle;refine Zbe ?_;refine zR1 (c:=Q5C hb2 h2 hS) (h:=?_);rintro v1 w1 ⟨c2,hle2,hl2,hS⟩;obtain ⟨a2,n2,rfl⟩:=Rep.SR.shape hl2;have hl1:=Rep.SR.up hl1 hle2;refine ZaS ?_;refine zb3 [_,_,_] ?_;refine Zay ?_;refine zsn hS ?_;intro w1 hS;have hS:=hS.ns;refine Zav ?_;refine zr ?_)
 all_goals (refine Q25 vw (Qa (n:=3) (by kernel_rfl) (by kernel_rfl) (hS.blkAt fd) (by rfl) (by rfl)) ?_;exact ⟨_,rfl,c2,_,rfl,hle.trans hle2,⟨_,_,rfl,hl1,hl2⟩,hS.sp⟩)
end Go.Proofs.YteflkifmgnpbhaaGreat
namespace Go.Proofs.YteflkifmgnpbhaaGreat
open Go.Lir
set_option maxHeartbeats 1000000
attribute [local irreducible] LC.wp Q0 Qh Qc retQ Qw LO.wp Q3 Calls
set_option linter.unusedSimpArgs false
set_option linter.unusedVariables false
end Go.Proofs.YteflkifmgnpbhaaGreat
namespace Go.Proofs.YteflkifmgnpbhaaGreat
open Go.Lir
set_option maxHeartbeats 1000000
attribute [local irreducible] LC.wp Q0 Qh Qc retQ Qw LO.wp Q3 Calls
set_option linter.unusedSimpArgs false
set_option linter.unusedVariables false
variable {cx:Cx}{w:World}{L:List Res}{i:Nat}
abbrev jdg (b:Nat) (vf:Value) (g:Flt) (at':Int):Res:=blk b 173 [vf, .int .i64 g.1, .int .i64 g.2, .int .i64 at']
theorem Q27 {is:Bool}{c:Int}{vf:Value}{g:Flt}{at':Int}{b:Nat}(hc0:is=true→c≠0) (hS:St cx w L) (hi:nth L i=some (jdg b vf g at')):
 Rets Tryz.prog Q8o [.pointer (some ⟨b,0,none⟩), .bool is, .int .i64 c] w fun u w'=> u= .tuple #[]∧St cx w' (L.set i (jdg b vf (orF g (mkF (if is=true then c else 0) at')) at')):=by
 have hS:=hS.out hi
 cases is with
 | false=>
   have e:orF g (mkF (if false=true then c else 0) at')=g:=QdH rfl
   rw [e]
   all_goals refine lgo tyD Tryz.func103 ?_
   all_goals (refine Zas ?_;refine zgn ?_;refine zgn ?_;refine zgn ?_;refine zgn ?_;refine zgn ?_)
   all_goals (refine zgn ?_)
   all_goals (refine ZaL ?_)
   all_goals
    first
    | (refine zct ?_
       all_goals (refine ZaI ?_;refine Zbm ?_;refine zf0 ?_;refine zl hS ?_;refine zb2 [_,_] ?_;refine znc ?_;refine zf0 ?_;refine zsn hS ?_;intro w1 hS;have hS:=hS.ns)
       all_goals refine zn ?_)
    | (refine zcf ?_
       all_goals refine zsk ?_)
   all_goals (refine Q19 ?_;exact ⟨_,rfl,rfl,St.back hS hi⟩)
 | true=>
   have hc0:=hc0 rfl
   by_cases h0:g.1=0
   · have e:orF g (mkF (if true=true then c else 0) at')=(c,at'):=by rw [if_pos rfl,mkF_c hc0];unfold orF;rw [if_pos ⟨h0,hc0⟩]
     rw [e]
     all_goals refine lgo tyD Tryz.func103 ?_
     all_goals (refine Zab ?_;refine Zak ?_;refine Zbh ?_;refine Yag ?_;refine Yad ?_)
     all_goals (refine Yax ?_)
     all_goals (refine zpt ?_;refine zn ?_)
     all_goals refine zct ?_
     all_goals (refine ZaI ?_;refine Zbm ?_;refine zf0 ?_;refine zl hS ?_;refine zb2 [_,_] ?_;refine znc ?_;refine zf0 ?_;(first|(refine zsn hS ?_;intro w1 hS;have hS:=hS.ns)|(refine zsm hS ?_;intro w1 hS;have hS:=hS.ns));refine ZbB ?_;exact ⟨_,rfl,rfl,St.back hS hi⟩)
   · rw [QbT h0]
     all_goals refine lgo tyD Tryz.func103 ?_
     all_goals (refine Zab ?_;refine Zak ?_;refine Zbh ?_;refine Yag ?_;refine Yad ?_)
     all_goals (refine Ybb ?_)
     all_goals (refine zpt ?_;refine zn ?_)
     all_goals refine zcf ?_
     all_goals (refine zsk ?_;refine Q19 ?_;exact ⟨_,rfl,rfl,St.back hS hi⟩)
theorem uindex_c {s:List UInt8}{c:Nat}{v:Value}(hK:u8R.sl cx v s) (hS:St cx w L):Rets Tryz.prog Q4c [v, .int .u8 c] w fun u w'=>∃r:Int,u= .int .i64 r∧(0≤r↔(s.any fun b=> decide (b.toNat=c))=true)∧St cx w' L:=by
 have hlen:=hK.len
 all_goals refine lgo tyD Tryz.func265 ?_
 all_goals (refine Zba ?_;refine zL ?_;refine ZaB ?_)
 refine zoL hS [0,1,7] (fun A LL ρ' w'=>∃(j:Nat),Has ρ' A∧Has ρ' [(8, .int .i64 j)]∧(j≤s.length)∧((s.any fun b=> decide (b.toNat=c))=((s.drop j).any fun b=> decide (b.toNat=c)))∧St cx w' (LL)) (fun ρ' _=> (s.length - iv (ρ' 8)).toNat) ?_ ?_
 · exact ⟨0,zh,zh,(by omega),by simp,hS.sp⟩
 rintro ρ w1 ⟨j,hA,hρ,hj,hd,hS⟩;obtain ⟨ρ,rfl⟩:=env2 hA hρ
 all_goals (refine ZaQ ?_)
 refine Qn rfl (fun hc=> ?_) (fun hc=> ?_)
 · skip
   all_goals (refine ZbC ?_;refine Zad ?_;refine Zas ?_;refine zm ?_;refine zi ?_;intro b1 o1 cs1 x1 hat1 hx1 he1;(first|(obtain rfl:=QQ he1)|(obtain rfl:=u8R_out he1));refine Yap ?_)
   all_goals (first|(refine Qi ?_)|(refine Qm ?_)|(refine Q5 rfl rfl (fun hc=> ?_) (fun hc=> ?_)))
   all_goals (refine zn ?_)
   all_goals
    first
    | (refine zct ?_
       all_goals (refine Zbl ?_)
       all_goals (exact ⟨_,rfl,j,rfl,by rw [hd,Q7 hx1,List.any_cons,decide_eq_true (by omega),Bool.true_or];simp,hS.sp⟩))
    | (refine zcf ?_
       all_goals refine zsk ?_)
   all_goals (refine Q1d ?_;refine zad ?_;refine Zad ?_;exact ⟨⟨j+1,zh,zh,(by omega),by rw [hd,Q7 hx1,List.any_cons,decide_eq_false (by omega),Bool.false_or],hS.sp⟩,Qr (by omega)⟩)
 · skip
   all_goals (refine ZbK ?_;(first|(exact ⟨_,rfl,j,rfl,by rw [hd,Q7 hx1,List.any_cons,decide_eq_true (by omega),Bool.true_or];simp,hS.sp⟩)|(exact ⟨_,rfl, -1,rfl,by rw [hd,List.drop_of_length_le (by omega)];simp,hS.sp⟩)))
theorem Qbr {s:List UInt8}{c:Nat}{v:Value}(hK:u8R.sl cx v s) (hS:St cx w L):Rets Tryz.prog Q3w [v, .int .u8 c] w fun u w'=> u= .bool (s.any fun b=> decide (b.toNat=c))∧St cx w' L:=by
 all_goals refine lgo tyD Tryz.func252 ?_
 all_goals (refine Zaf ?_;refine Zas ?_;refine zR2 (c:=uindex_c hK hS) (h:=?_);rintro v1 w1 ⟨r,rfl,hr,hS⟩)
 all_goals (first|(refine Q2w ?_)|(refine Q3k ?_)|(refine Q1I rfl rfl (fun hc=> ?_) (fun hc=> ?_)))
 all_goals (refine Zai ?_)
 all_goals (refine ⟨_,rfl,?_,hS.sp⟩;(cases hb:(s.any fun b=> decide (b.toNat=c)) <;> simp_all);done)
theorem Q7m {s:ByteArray}{c:Nat}(hs:s.size≤1000000) (hS:St cx w L):Rets Tryz.prog Qgv [.string s, .int .u8 c] w fun u w'=> u= .bool (Q1f s c)∧St cx w' L:=by
 have hle:=St.refl hS
 all_goals refine lgo tyD Tryz.func214 ?_
 all_goals (refine ZaV ?_;refine s_bytes (e:=5) (by kernel_rfl) (by kernel_rfl) (by kernel_rfl) hS vw ?_;intro v1 w1 hS;obtain ⟨c1,hle2,hS,hk1⟩:=St.freezeL (r:=u8R) hS (u8R_ls _) rfl (by rw [Array.length_toList];show s.size≤140737488355328;omega);refine zm ?_;refine zR2 (c:=Qbr hk1 hS) (h:=?_);rintro v1 w1 ⟨rfl,hS⟩;refine Zai ?_;exact ⟨_,rfl,rfl,St.weak hS.sp hle2⟩)
theorem has_c {op:Int}(hS:St cx w L):Rets Tryz.prog code_has [.int .i64 op] w fun u w'=> u= .string (hasF op)∧St cx w' L:=by
 by_cases hb:op < 1∨14 < op
 · have e:hasF op=⟨#[]⟩:=by unfold hasF;rw [if_pos hb]
   rw [e]
   all_goals refine lgo tyD Tryz.func213 ?_
   all_goals (refine Zba ?_)
   all_goals (first|(refine Q1k ?_)|(refine Q1w ?_)|(refine QA rfl rfl (fun hc=> ?_) (fun hc=> ?_)))
   all_goals (refine Zak ?_)
   all_goals (first|refine zgn ?_|(refine zgy ?_;refine Q1e ?_))
   all_goals (refine ZaL ?_)
   all_goals refine zct ?_
   all_goals (refine Zao ?_;refine ⟨_,rfl,?_,hS.sp⟩;(rfl);done)
 · have hu:(hasTab.map Value.string)[op.toNat]?=some (.string (hasF op)):=by
    rcases op_cases (op:=op) (by omega) (by omega) with rfl|rfl|rfl|rfl|rfl|rfl|rfl|rfl|rfl|rfl|rfl|rfl|rfl|rfl <;> rfl
   generalize hasF op=s at hu ⊢
   all_goals refine lgo tyD Tryz.func213 ?_
   all_goals (refine Zba ?_)
   all_goals (refine Yas ?_)
   all_goals (refine Zak ?_)
   all_goals (refine Yat ?_)
   all_goals (refine ZaL ?_)
   all_goals refine zcf ?_
   all_goals (refine zsk ?_;refine Zaa ?_;refine Qf8 (cs:=[_,_,_,_,_,_,_,_,_,_,_,_,_,_,_]) vw vw vw vw vw vw vw vw vw vw vw vw vw vw vw (by rfl) ?_;refine zm ?_;refine s_idxv (n:=15) (e:=9) (by kernel_rfl) (by kernel_rfl) (by kernel_rfl) vw vw (by omega) (by omega) hu ?_;refine Zai ?_;refine ⟨_,rfl,?_,hS.sp⟩;(rfl);done)
theorem Qgd (op:Int):(hasF op).size≤1000000:=by
 by_cases hb:op < 1∨14 < op
 · unfold hasF;rw [if_pos hb];decide
 · rcases op_cases (op:=op) (by omega) (by omega) with rfl|rfl|rfl|rfl|rfl|rfl|rfl|rfl|rfl|rfl|rfl|rfl|rfl|rfl <;> decide
theorem ins_end {g:Flt}{at':Int}{n:Nat}{x:Ins}{q:Bool}{c3:Int}(hq:q=true↔(((((((Q1f (hasF x.op) 97=false∧x.a≠0)∨(Q1f (hasF x.op) 98=false∧x.b≠0))∨(Q1f (hasF x.op) 99=false∧x.c≠0))∨(Q1f (hasF x.op) 107=false∧x.k≠0))∨(Q1f (hasF x.op) 110=false∧x.n≠0))∨(Q1f (hasF x.op) 103=false∧0 < x.regs.length))∨(Q1f (hasF x.op) 114=false∧0 < x.args.length))) (h3:c3=Q1m n x):
 orF (orF (orF g (mkF (if x.op < 1∨14 < x.op then 3 else 0) at')) (mkF (if q=true then 4 else 0) at')) (mkF c3 at')=orF g (mkF (QE n x) at'):=by
 rw [Q2o,Q2o]
 congr 2
 subst h3
 unfold QE
 by_cases hb:x.op < 1∨14 < x.op
 · rw [if_pos hb,if_pos hb];rfl
 · rw [if_neg hb,if_neg hb]
   obtain ⟨h1,h2,h3,h4,h5,h6,h7⟩:=with_all x.op hb
   rw [h1,h2,h3,h4,h5,h6,h7] at hq
   simp only [or_assoc] at hq
   by_cases ho:x.odd
   · rw [if_pos ho,if_pos (hq.2 ho)];rfl
   · rw [if_neg ho,if_neg fun h=> ho (hq.1 h)];rfl
theorem Q6i {a b:Int}(h:a≠0):orC a b=a:=if_pos h
theorem Q5m (b:Int):orC 0 b=b:=rfl
section
attribute [local irreducible] orF mkF orC Q1m QE Q1O Q1M
set_option maxHeartbeats 1000000 in
theorem ins_c {x :Ins}{n:List Fun}{vf:Value}{g:Flt}{at':Int}{b:Nat}{cs:List Value}(hx:insR.at cx cs x) (hf:funcR.sl cx vf n) (hS:St cx w L) (hi:nth L i=some (jdg b vf g at')):
 Rets Tryz.prog Q8J [.pointer (some ⟨b,0,none⟩), .agg ⟨cs⟩] w fun u w'=> u= .tuple #[]∧St cx w' (L.set i (jdg b vf (orF g (mkF (QE n.length x) at')) at')):=by
 have hS:=hS.out hi
 obtain ⟨vr,va,rfl,hr,ha⟩:=Q1a hx
 have hlr:=hr.len
 have hla:=ha.len
 have hln:=hf.len
 have hsz:=Qgd x.op
 all_goals refine lgo tyD Tryz.func164 ?_
 all_goals (refine Zaq ?_;intro p3 w1 hS;refine zn ?_)
 refine zM [0,3] (fun A ρ' w'=> Has ρ' A∧Has ρ' []∧St cx w' (blk p3 84 [.int .i64 x.op, .int .i64 x.a, .int .i64 x.b, .int .i64 x.c, .int .i64 x.k, .int .i64 x.n,vr,va]::jdg b vf (orF g (mkF (if x.op < 1∨14 < x.op then 3 else 0) at')) at'::L.eraseIdx i)) ?_ ?_
 · skip
   all_goals (refine Zag ?_;refine zf0 ?_;refine zl hS ?_)
   all_goals (first|(refine Q1k ?_)|(refine Q1w ?_)|(refine QA rfl rfl (fun hc=> ?_) (fun hc=> ?_)))
   all_goals (refine ZaO ?_)
   all_goals (first|refine zgn ?_|(refine zgy ?_;(first|(refine Q1e ?_)|(refine Q1s ?_)|(refine Qx rfl rfl (fun hc=> ?_) (fun hc=> ?_)))))
   all_goals (refine Yae ?_;refine zR3 (c:=Q27 (by intro _;decide) hS fd) (h:=?_);rintro v1 w1 ⟨rfl,hS⟩;simp only [List.set_cons_zero,List.set_cons_succ,if_true,Bool.false_eq_true,if_false] at hS;refine zn ?_;exact ⟨zh,zh,by first|(rw [if_pos (by omega)];exact hS.sp)|(rw [if_neg (by omega)];exact hS.sp)⟩)
 rintro ρ w1 ⟨hA,hρ,hS⟩;obtain ⟨ρ,rfl⟩:=env2 hA hρ
 all_goals (refine Zaa ?_;refine zf0 ?_;refine zl hS ?_;refine zR1 (c:=has_c hS) (h:=?_);rintro v1 w1 ⟨rfl,hS⟩;refine Zad ?_;generalize hh:hasF x.op=h at*;refine Zaa ?_)
 refine zKL hS 9 [0,3,4] (fun A LL ρ' w'=>∃(q1:Bool),Has ρ' A∧Has ρ' [(18, .pointer (some ⟨b,0,none⟩)),(26, .bool q1)]∧(q1=true↔(Q1f h 97=false∧x.a≠0))∧St cx w' (LL)) ?_ ?_
 · skip
   all_goals (refine Zbg ?_;refine zR2 (c:=Q7m hsz hS) (h:=?_);rintro v1 w1 ⟨rfl,hS⟩)
   all_goals (cases ha1:Q1f h 97)
   all_goals (refine znt ?_;refine ZaO ?_)
   all_goals (first|refine zgn ?_|(refine zgy ?_;(first|(refine Q11 ?_)|(refine Q18 ?_)|(refine Qu rfl rfl (fun hc=> ?_) (fun hc=> ?_)))))
   all_goals (refine Yae ?_;refine ZaK ?_)
   all_goals (first|(exact ⟨_,zh,zh,by exact ⟨fun _=> ⟨(by first|rfl|assumption),by omega⟩,fun _=> rfl⟩,hS.sp⟩)|(exact ⟨_,zh,zh,by exact ⟨fun h=> Bool.noConfusion h,fun h=> by obtain ⟨h1,h2⟩:=h;first|(exfalso;omega)|(simp_all;done)⟩,hS.sp⟩))
 rintro ρ w1 ⟨q1,hA,hρ,hq1,hS⟩;obtain ⟨ρ,rfl⟩:=env2 hA hρ
 refine zKL hS 10 [0,3,4,18] (fun A LL ρ' w'=>∃(q2:Bool),Has ρ' A∧Has ρ' [(36, .bool q2)]∧(q2=true↔((Q1f h 97=false∧x.a≠0)∨(Q1f h 98=false∧x.b≠0)))∧St cx w' (LL)) ?_ ?_
 · skip
   all_goals (cases q1)
   all_goals (refine Zak ?_;(first|refine zgn ?_|(refine zgy ?_;refine zR2 (c:=Q7m hsz hS) (h:=?_);rintro v1 w1 ⟨rfl,hS⟩)))
   all_goals (cases ha2:Q1f h 98)
   all_goals (refine Yak ?_;refine ZbP ?_)
   all_goals (first|refine zgn ?_|(refine zgy ?_;(first|(refine Q11 ?_)|(refine Q18 ?_)|(refine Qu rfl rfl (fun hc=> ?_) (fun hc=> ?_)))))
   all_goals (refine Yal ?_;refine Yae ?_;refine ZaK ?_)
   all_goals (first|(exact ⟨_,zh,zh,by exact ⟨fun _=> .inl (hq1.1 rfl),fun _=> rfl⟩,hS.sp⟩)|(exact ⟨_,zh,zh,by exact ⟨fun _=> .inr ⟨(by first|rfl|assumption),by omega⟩,fun _=> rfl⟩,hS.sp⟩)|(exact ⟨_,zh,zh,by exact ⟨fun h=> Bool.noConfusion h,fun h=> h.elim (fun h=> hq1.2 h) (fun h=> by obtain ⟨h1,h2⟩:=h;first|(exfalso;omega)|(simp_all;done))⟩,hS.sp⟩))
 rintro ρ w1 ⟨q2,hA,hρ,hq2,hS⟩;obtain ⟨ρ,rfl⟩:=env2 hA hρ
 refine zKL hS 10 [0,3,4,18] (fun A LL ρ' w'=>∃(q3:Bool),Has ρ' A∧Has ρ' [(46, .bool q3)]∧(q3=true↔(((Q1f h 97=false∧x.a≠0)∨(Q1f h 98=false∧x.b≠0))∨(Q1f h 99=false∧x.c≠0)))∧St cx w' (LL)) ?_ ?_
 · skip
   all_goals (cases q2)
   all_goals (refine Zak ?_;(first|refine zgn ?_|(refine zgy ?_;refine zR2 (c:=Q7m hsz hS) (h:=?_);rintro v1 w1 ⟨rfl,hS⟩)))
   all_goals (cases ha3:Q1f h 99)
   all_goals (refine Yak ?_;refine ZbP ?_)
   all_goals (first|refine zgn ?_|(refine zgy ?_;(first|(refine Q11 ?_)|(refine Q18 ?_)|(refine Qu rfl rfl (fun hc=> ?_) (fun hc=> ?_)))))
   all_goals (refine Yal ?_;refine Yae ?_;refine ZaK ?_)
   all_goals (first|(exact ⟨_,zh,zh,by exact ⟨fun _=> .inl (hq2.1 rfl),fun _=> rfl⟩,hS.sp⟩)|(exact ⟨_,zh,zh,by exact ⟨fun _=> .inr ⟨(by first|rfl|assumption),by omega⟩,fun _=> rfl⟩,hS.sp⟩)|(exact ⟨_,zh,zh,by exact ⟨fun h=> Bool.noConfusion h,fun h=> h.elim (fun h=> hq2.2 h) (fun h=> by obtain ⟨h1,h2⟩:=h;first|(exfalso;omega)|(simp_all;done))⟩,hS.sp⟩))
 rintro ρ w1 ⟨q3,hA,hρ,hq3,hS⟩;obtain ⟨ρ,rfl⟩:=env2 hA hρ
 refine zKL hS 10 [0,3,4,18] (fun A LL ρ' w'=>∃(q4:Bool),Has ρ' A∧Has ρ' [(56, .bool q4)]∧(q4=true↔((((Q1f h 97=false∧x.a≠0)∨(Q1f h 98=false∧x.b≠0))∨(Q1f h 99=false∧x.c≠0))∨(Q1f h 107=false∧x.k≠0)))∧St cx w' (LL)) ?_ ?_
 · skip
   all_goals (cases q3)
   all_goals (refine Zak ?_;(first|refine zgn ?_|(refine zgy ?_;refine zR2 (c:=Q7m hsz hS) (h:=?_);rintro v1 w1 ⟨rfl,hS⟩)))
   all_goals (cases ha4:Q1f h 107)
   all_goals (refine Yak ?_;refine ZbP ?_)
   all_goals (first|refine zgn ?_|(refine zgy ?_;(first|(refine Q11 ?_)|(refine Q18 ?_)|(refine Qu rfl rfl (fun hc=> ?_) (fun hc=> ?_)))))
   all_goals (refine Yal ?_;refine Yae ?_;refine ZaK ?_)
   all_goals (first|(exact ⟨_,zh,zh,by exact ⟨fun _=> .inl (hq3.1 rfl),fun _=> rfl⟩,hS.sp⟩)|(exact ⟨_,zh,zh,by exact ⟨fun _=> .inr ⟨(by first|rfl|assumption),by omega⟩,fun _=> rfl⟩,hS.sp⟩)|(exact ⟨_,zh,zh,by exact ⟨fun h=> Bool.noConfusion h,fun h=> h.elim (fun h=> hq3.2 h) (fun h=> by obtain ⟨h1,h2⟩:=h;first|(exfalso;omega)|(simp_all;done))⟩,hS.sp⟩))
 rintro ρ w1 ⟨q4,hA,hρ,hq4,hS⟩;obtain ⟨ρ,rfl⟩:=env2 hA hρ
 refine zKL hS 10 [0,3,4,18] (fun A LL ρ' w'=>∃(q5:Bool),Has ρ' A∧Has ρ' [(66, .bool q5)]∧(q5=true↔(((((Q1f h 97=false∧x.a≠0)∨(Q1f h 98=false∧x.b≠0))∨(Q1f h 99=false∧x.c≠0))∨(Q1f h 107=false∧x.k≠0))∨(Q1f h 110=false∧x.n≠0)))∧St cx w' (LL)) ?_ ?_
 · skip
   all_goals (cases q4)
   all_goals (refine Zak ?_;(first|refine zgn ?_|(refine zgy ?_;refine zR2 (c:=Q7m hsz hS) (h:=?_);rintro v1 w1 ⟨rfl,hS⟩)))
   all_goals (cases ha5:Q1f h 110)
   all_goals (refine Yak ?_;refine ZbP ?_)
   all_goals (first|refine zgn ?_|(refine zgy ?_;(first|(refine Q11 ?_)|(refine Q18 ?_)|(refine Qu rfl rfl (fun hc=> ?_) (fun hc=> ?_)))))
   all_goals (refine Yal ?_;refine Yae ?_;refine ZaK ?_)
   all_goals (first|(exact ⟨_,zh,zh,by exact ⟨fun _=> .inl (hq4.1 rfl),fun _=> rfl⟩,hS.sp⟩)|(exact ⟨_,zh,zh,by exact ⟨fun _=> .inr ⟨(by first|rfl|assumption),by omega⟩,fun _=> rfl⟩,hS.sp⟩)|(exact ⟨_,zh,zh,by exact ⟨fun h=> Bool.noConfusion h,fun h=> h.elim (fun h=> hq4.2 h) (fun h=> by obtain ⟨h1,h2⟩:=h;first|(exfalso;omega)|(simp_all;done))⟩,hS.sp⟩))
 rintro ρ w1 ⟨q5,hA,hρ,hq5,hS⟩;obtain ⟨ρ,rfl⟩:=env2 hA hρ
 refine zKL hS 11 [0,3,4,18] (fun A LL ρ' w'=>∃(q6:Bool),Has ρ' A∧Has ρ' [(77, .bool q6)]∧(q6=true↔((((((Q1f h 97=false∧x.a≠0)∨(Q1f h 98=false∧x.b≠0))∨(Q1f h 99=false∧x.c≠0))∨(Q1f h 107=false∧x.k≠0))∨(Q1f h 110=false∧x.n≠0))∨(Q1f h 103=false∧0 < x.regs.length)))∧St cx w' (LL)) ?_ ?_
 · skip
   all_goals (cases q5)
   all_goals (refine Zak ?_;(first|refine zgn ?_|(refine zgy ?_;refine zR2 (c:=Q7m hsz hS) (h:=?_);rintro v1 w1 ⟨rfl,hS⟩)))
   all_goals (cases ha6:Q1f h 103)
   all_goals (refine Yak ?_;refine ZbP ?_;refine Yaj ?_)
   all_goals (first|refine zgn ?_|(refine zgy ?_;(first|(refine Q1e ?_)|(refine Q1s ?_)|(refine Qx rfl rfl (fun hc=> ?_) (fun hc=> ?_)))))
   all_goals (refine Yal ?_;refine Yae ?_;refine ZaK ?_)
   all_goals (first|(exact ⟨_,zh,zh,by exact ⟨fun _=> .inl (hq5.1 rfl),fun _=> rfl⟩,hS.sp⟩)|(exact ⟨_,zh,zh,by exact ⟨fun _=> .inr ⟨(by first|rfl|assumption),by omega⟩,fun _=> rfl⟩,hS.sp⟩)|(exact ⟨_,zh,zh,by exact ⟨fun h=> Bool.noConfusion h,fun h=> h.elim (fun h=> hq5.2 h) (fun h=> by obtain ⟨h1,h2⟩:=h;first|(exfalso;omega)|(simp_all;done))⟩,hS.sp⟩))
 rintro ρ w1 ⟨q6,hA,hρ,hq6,hS⟩;obtain ⟨ρ,rfl⟩:=env2 hA hρ
 refine zKL hS 11 [0,3,18] (fun A LL ρ' w'=>∃(q7:Bool),Has ρ' A∧Has ρ' [(88, .bool q7)]∧(q7=true↔(((((((Q1f h 97=false∧x.a≠0)∨(Q1f h 98=false∧x.b≠0))∨(Q1f h 99=false∧x.c≠0))∨(Q1f h 107=false∧x.k≠0))∨(Q1f h 110=false∧x.n≠0))∨(Q1f h 103=false∧0 < x.regs.length))∨(Q1f h 114=false∧0 < x.args.length)))∧St cx w' (LL)) ?_ ?_
 · skip
   all_goals (cases q6)
   all_goals (refine Zak ?_;(first|refine zgn ?_|(refine zgy ?_;refine zR2 (c:=Q7m hsz hS) (h:=?_);rintro v1 w1 ⟨rfl,hS⟩)))
   all_goals (cases ha7:Q1f h 114)
   all_goals (refine Yak ?_;refine ZbP ?_;refine Yaj ?_)
   all_goals (first|refine zgn ?_|(refine zgy ?_;(first|(refine Q1e ?_)|(refine Q1s ?_)|(refine Qx rfl rfl (fun hc=> ?_) (fun hc=> ?_)))))
   all_goals (refine Yal ?_;refine Yae ?_;refine ZaK ?_)
   all_goals (first|(exact ⟨_,zh,zh,by exact ⟨fun _=> .inl (hq6.1 rfl),fun _=> rfl⟩,hS.sp⟩)|(exact ⟨_,zh,zh,by exact ⟨fun _=> .inr ⟨(by first|rfl|assumption),by omega⟩,fun _=> rfl⟩,hS.sp⟩)|(exact ⟨_,zh,zh,by exact ⟨fun h=> Bool.noConfusion h,fun h=> h.elim (fun h=> hq6.2 h) (fun h=> by obtain ⟨h1,h2⟩:=h;first|(exfalso;omega)|(simp_all;done))⟩,hS.sp⟩))
 rintro ρ w1 ⟨q7,hA,hρ,hq7,hS⟩;obtain ⟨ρ,rfl⟩:=env2 hA hρ
 all_goals (refine zR3 (c:=Q27 (by intro _;decide) hS fd) (h:=?_);rintro v1 w1 ⟨rfl,hS⟩;simp only [List.set_cons_zero,List.set_cons_succ,if_true,Bool.false_eq_true,if_false] at hS;refine ZaF ?_;clear hq1 hq2 hq3 hq4 hq5 hq6;have hq:=hq7;clear hq7;refine Q1d ?_;refine zf0 ?_;refine zl hS ?_;refine ZbJ ?_;refine Zaa ?_)
 all_goals (first|(refine Qi ?_)|(refine Qm ?_)|(refine Q5 rfl rfl (fun hc=> ?_) (fun hc=> ?_)))
 all_goals (refine Zad ?_)
 all_goals
  first
  | (refine zct ?_
     all_goals (refine Zag ?_;refine zf0 ?_;refine zl hS ?_)
     all_goals (first|(refine Q1k ?_)|(refine Q1w ?_)|(refine QA rfl rfl (fun hc=> ?_) (fun hc=> ?_)))
     all_goals (refine ZaO ?_)
     all_goals (first|refine zgn ?_|(refine zgy ?_;(first|(refine Q1e ?_)|(refine Q1s ?_)|(refine Qx rfl rfl (fun hc=> ?_) (fun hc=> ?_)))))
     all_goals (refine Yae ?_;refine zR3 (c:=Q27 (by intro _;decide) hS fd) (h:=?_);rintro v1 w1 ⟨rfl,hS⟩;simp only [List.set_cons_zero,List.set_cons_succ,if_true,Bool.false_eq_true,if_false] at hS)
     all_goals refine zn ?_)
  | (refine zcf ?_
     all_goals (refine Zaa ?_)
     all_goals (first|(refine Qi ?_)|(refine Qm ?_)|(refine Q5 rfl rfl (fun hc=> ?_) (fun hc=> ?_)))
     all_goals (refine Zad ?_)
     all_goals
      first
      | (refine zct ?_
         all_goals (refine Zag ?_;refine zf0 ?_;refine zl hS ?_;refine zL ?_)
         all_goals (first|(refine Q1e ?_)|(refine Q1s ?_)|(refine Qx rfl rfl (fun hc=> ?_) (fun hc=> ?_)))
         all_goals (refine zR3 (c:=Q27 (by intro _;decide) hS fd) (h:=?_);rintro v1 w1 ⟨rfl,hS⟩;simp only [List.set_cons_zero,List.set_cons_succ,if_true,Bool.false_eq_true,if_false] at hS)
         all_goals refine zn ?_)
      | (refine zcf ?_
         all_goals (refine Zbn ?_)
         all_goals (first|(refine Qi ?_)|(refine Qm ?_)|(refine Q5 rfl rfl (fun hc=> ?_) (fun hc=> ?_)))
         all_goals (refine Zad ?_)
         all_goals
          first
          | (refine zct ?_
             all_goals refine zsk ?_)
          | (refine zcf ?_
             all_goals (refine Q1d ?_)
             all_goals (first|(refine Qi ?_)|(refine Qm ?_)|(refine Q5 rfl rfl (fun hc=> ?_) (fun hc=> ?_)))
             all_goals (refine zm ?_)
             all_goals refine zn ?_)
         all_goals
          first
          | (refine zct ?_
             all_goals (refine Zag ?_;refine zf0 ?_;refine zl hS ?_)
             all_goals (first|(refine Q1k ?_)|(refine Q1w ?_)|(refine QA rfl rfl (fun hc=> ?_) (fun hc=> ?_)))
             all_goals (refine ZaO ?_)
             all_goals (first|refine zgn ?_|(refine zgy ?_;(first|(refine Q2w ?_)|(refine Q3k ?_)|(refine Q1I rfl rfl (fun hc=> ?_) (fun hc=> ?_)))))
             all_goals (refine Yae ?_;refine zR3 (c:=Q27 (by intro _;decide) hS fd) (h:=?_);rintro v1 w1 ⟨rfl,hS⟩;simp only [List.set_cons_zero,List.set_cons_succ,if_true,Bool.false_eq_true,if_false] at hS)
             all_goals refine zn ?_)
          | (refine zcf ?_
             all_goals (refine Zaa ?_)
             all_goals (first|(refine Qi ?_)|(refine Qm ?_)|(refine Q5 rfl rfl (fun hc=> ?_) (fun hc=> ?_)))
             all_goals (refine Zad ?_)
             all_goals
              first
              | (refine zct ?_
                 all_goals (refine Qv ?_;refine zD (ci 16 [15]) ?_;have hS:=hS.drew;refine zm ?_;refine zf0 ?_;refine zl hS ?_)
                 all_goals (first|(refine Q1k ?_)|(refine Q1w ?_)|(refine QA rfl rfl (fun hc=> ?_) (fun hc=> ?_)))
                 all_goals (refine ZaO ?_;refine Yaa ?_;refine Zbh ?_;refine Zap ?_;refine Yaj ?_)
                 all_goals (first|refine zgn ?_|(refine zgy ?_;(first|(refine Q2w ?_)|(refine Q3k ?_)|(refine Q1I rfl rfl (fun hc=> ?_) (fun hc=> ?_)))))
                 all_goals (refine Yae ?_;refine zR3 (c:=Q27 (by intro _;decide) hS fd) (h:=?_);rintro v1 w1 ⟨rfl,hS⟩;simp only [List.set_cons_zero,List.set_cons_succ,if_true,Bool.false_eq_true,if_false] at hS;refine Zbs ?_;refine zf0 ?_;refine zl hS ?_;refine zL ?_)
                 all_goals (first|(refine Q1e ?_)|(refine Q1s ?_)|(refine Qx rfl rfl (fun hc=> ?_) (fun hc=> ?_)))
                 all_goals (refine ZaO ?_;refine Yaj ?_)
                 all_goals (first|refine zgn ?_|(refine zgy ?_;(first|(refine Q1e ?_)|(refine Q1s ?_)|(refine Qx rfl rfl (fun hc=> ?_) (fun hc=> ?_)))))
                 all_goals (refine Yae ?_;refine zR3 (c:=Q27 (by intro _;decide) hS fd) (h:=?_);rintro v1 w1 ⟨rfl,hS⟩;simp only [List.set_cons_zero,List.set_cons_succ,if_true,Bool.false_eq_true,if_false] at hS)
                 all_goals refine zn ?_)
              | (refine zcf ?_
                 all_goals refine zsk ?_))))
 all_goals (refine Q19 ?_; refine ⟨_, rfl, rfl, ?_⟩; subst hh; rw [← ins_end (c3 := Q1m n.length x) hq rfl]; clear hq hx hr ha hf hsz; have hS := hS.drop; refine St.back ?_ hi; first | (rw [show Q1m n.length x = 0 from (by unfold Q1m; (repeat (first | rw [if_pos (by omega)] | rw [if_neg (by omega)])))]; first | (rw [mkF_0, QdH rfl]; exact hS) | exact hS | (rw [Q2o, Q5m] at hS; exact hS)) | (rw [show Q1m n.length x = 1 from (by unfold Q1m; (repeat (first | rw [if_pos (by omega)] | rw [if_neg (by omega)])))]; first | exact hS | (rw [Q2o, Q6i (by decide)] at hS; exact hS)) | (rw [show Q1m n.length x = 2 from (by unfold Q1m; (repeat (first | rw [if_pos (by omega)] | rw [if_neg (by omega)])))]; first | exact hS | (rw [Q2o, Q5m] at hS; exact hS)) | (trace_state; fail "end"))
theorem to_c {x:Fun}{t:To}{is:Bool}{vf:Value}{g:Flt}{at':Int}{b:Nat}{cs ds:List Value}(hx:funcR.at cx cs x) (ht:toR.at cx ds t) (hS:St cx w L) (hi:nth L i=some (jdg b vf g at')):
 Rets Tryz.prog Qa0 [.pointer (some ⟨b,0,none⟩), .agg ⟨cs⟩, .agg ⟨ds⟩, .bool is] w fun u w'=> u= .tuple #[]∧St cx w' (L.set i (jdg b vf (orF g (mkF (Q1O x.blocks.length t is) at')) at')):=by
 have hS:=hS.out hi
 obtain ⟨vp,vr,vb,rfl,hp,hr,hb⟩:=QM hx
 obtain ⟨v1,v2,rfl,h1,h2⟩:=Q64 ht
 have hlb:=hb.len
 have hl1:=h1.len
 have hl2:=h2.len
 cases is with
 | false=>
   all_goals refine lgo tyD Tryz.func215 ?_
   all_goals (refine Zaq ?_;intro p5 w1 hS;refine zb hS ?_;intro p6 w1 hS;refine zn ?_;refine Zah ?_;refine ZaU ?_)
   all_goals refine zct ?_
   all_goals (refine Zab ?_;refine zf0 ?_;refine zl hS ?_)
   all_goals (first|(refine Q11 ?_)|(refine Q18 ?_)|(refine Qu rfl rfl (fun hc=> ?_) (fun hc=> ?_)))
   all_goals (refine ZaO ?_;refine Yaj ?_)
   all_goals (first|refine zgn ?_|(refine zgy ?_;(first|(refine Q1e ?_)|(refine Q1s ?_)|(refine Qx rfl rfl (fun hc=> ?_) (fun hc=> ?_)))))
   all_goals (refine Yae ?_;refine ZaO ?_;refine Yaj ?_)
   all_goals (first|refine zgn ?_|(refine zgy ?_;(first|(refine Q1e ?_)|(refine Q1s ?_)|(refine Qx rfl rfl (fun hc=> ?_) (fun hc=> ?_)))))
   all_goals (refine Yae ?_;refine zR3 (c:=Q27 (by intro _;decide) hS fd) (h:=?_);rintro v1 w1 ⟨rfl,hS⟩;simp only [List.set_cons_zero,List.set_cons_succ,if_true,Bool.false_eq_true,if_false] at hS;refine Zbb ?_;refine QaD ?_;refine ⟨_,rfl,rfl,?_⟩;have hS:=hS.drop.drop;refine St.back ?_ hi;first|(rw [show Q1O x.blocks.length t false=4 from (by unfold Q1O;rw [if_pos rfl,if_pos (by omega)])];exact hS)|(rw [show Q1O x.blocks.length t false=0 from (by unfold Q1O;rw [if_pos rfl,if_neg (by omega)])];exact hS))
 | true=>
   all_goals refine lgo tyD Tryz.func215 ?_
   all_goals (refine Zaq ?_;intro p5 w1 hS;refine zb hS ?_;intro p6 w1 hS;refine zn ?_;refine Zah ?_;refine ZaU ?_)
   all_goals refine zcf ?_
   all_goals (refine zsk ?_;refine Zab ?_;refine zf0 ?_;refine zl hS ?_)
   all_goals (first|(refine Q1k ?_)|(refine Q1w ?_)|(refine QA rfl rfl (fun hc=> ?_) (fun hc=> ?_)))
   all_goals (refine ZaO ?_;refine Zap ?_;refine Yaj ?_)
   all_goals (first|refine zgn ?_|(refine zgy ?_;(first|(refine Q2w ?_)|(refine Q3k ?_)|(refine Q1I rfl rfl (fun hc=> ?_) (fun hc=> ?_)))))
   all_goals (refine Yae ?_;refine zR3 (c:=Q27 (by intro _;decide) hS fd) (h:=?_);rintro v1 w1 ⟨rfl,hS⟩;simp only [List.set_cons_zero,List.set_cons_succ,if_true,Bool.false_eq_true,if_false] at hS;refine Zbs ?_;refine zf0 ?_;refine zl hS ?_;refine zL ?_)
   all_goals (first|(refine Q1e ?_)|(refine Q1s ?_)|(refine Qx rfl rfl (fun hc=> ?_) (fun hc=> ?_)))
   all_goals (refine ZaO ?_;refine Yaj ?_)
   all_goals (first|refine zgn ?_|(refine zgy ?_;(first|(refine Q1e ?_)|(refine Q1s ?_)|(refine Qx rfl rfl (fun hc=> ?_) (fun hc=> ?_)))))
   all_goals (refine Yae ?_;refine zR3 (c:=Q27 (by intro _;decide) hS fd) (h:=?_);rintro v1 w1 ⟨rfl,hS⟩;simp only [List.set_cons_zero,List.set_cons_succ,if_true,Bool.false_eq_true,if_false] at hS;refine ZbB ?_;refine ⟨_,rfl,rfl,?_⟩;have hS:=hS.drop.drop;rw [Q2o] at hS;refine St.back ?_ hi;first|(rw [show Q1O x.blocks.length t true=1 from (by unfold Q1O;rw [if_neg Bool.noConfusion,if_pos (by omega)])];rw [Q6i (by decide)] at hS;exact hS)|(rw [show Q1O x.blocks.length t true=2 from (by unfold Q1O;rw [if_neg Bool.noConfusion,if_neg (by omega),if_pos (by omega)])];rw [Q5m] at hS;exact hS)|(rw [show Q1O x.blocks.length t true=0 from (by unfold Q1O;rw [if_neg Bool.noConfusion,if_neg (by omega),if_neg (by omega)])];rw [Q5m] at hS;exact hS))
theorem end_sum {g:Flt}{at':Int}{n:Nat}{e:Tail}:orF (orF (orF (orF (orF g (mkF (if e.op < 1∨3 < e.op then 3 else 0) at')) (mkF (if e.op≠2∧e.a≠0∨e.op≠3∧0 < e.args.length then 4 else 0) at')) (mkF (if 8 < e.args.length then 2 else 0) at')) (mkF (Q1O n e.yes (decide (e.op≠3))) at')) (mkF (Q1O n e.no (decide (e.op=2))) at')=orF g (mkF (Q1M n e) at'):=by
 rw [Q2o,Q2o,Q2o,Q2o]
 congr 2
 unfold Q1M
 split
 · simp only [Q6i (show (3:Int)≠0 by decide)]
 · rw [Q5m]
   split
   · simp only [Q6i (show (4:Int)≠0 by decide)]
   · rw [Q5m]
     split
     · simp only [Q6i (show (2:Int)≠0 by decide)]
     · rw [Q5m]
theorem end_c {x:Fun}{e:Tail}{vf:Value}{g:Flt}{at':Int}{b:Nat}{cs ds:List Value}(hx:funcR.at cx cs x) (he:endR.at cx ds e) (hS:St cx w L) (hi:nth L i=some (jdg b vf g at')):
 Rets Tryz.prog Q8K [.pointer (some ⟨b,0,none⟩), .agg ⟨cs⟩, .agg ⟨ds⟩] w fun u w'=> u= .tuple #[]∧St cx w' (L.set i (jdg b vf (orF g (mkF (Q1M x.blocks.length e) at')) at')):=by
 have hS:=hS.out hi
 obtain ⟨vp,vr,vb,rfl,hp,hr,hb⟩:=QM hx
 obtain ⟨v1,v2,v3,v4,v5,rfl,h1,h2,h3,h4,h5⟩:=Q22 he
 have hl5:=h5.len
 all_goals refine lgo tyD Tryz.func165 ?_
 all_goals (refine Zaq ?_;intro p4 w1 hS;refine zb hS ?_;intro p5 w1 hS;refine zn ?_)
 refine zM [0,4,5] (fun A ρ' w'=> Has ρ' A∧Has ρ' []∧St cx w' (blk p5 90 [.int .i64 e.op, .int .i64 e.a, .int .i64 e.yes.block,v1,v2, .int .i64 e.no.block,v3,v4,v5]::blk p4 95 [.int .i64 x.regs,vp,vr,vb]::jdg b vf (orF g (mkF (if e.op < 1∨3 < e.op then 3 else 0) at')) at'::L.eraseIdx i)) ?_ ?_
 · skip
   all_goals (refine Zag ?_;refine zf0 ?_;refine zl hS ?_)
   all_goals (first|(refine Q1k ?_)|(refine Q1w ?_)|(refine QA rfl rfl (fun hc=> ?_) (fun hc=> ?_)))
   all_goals (refine ZaO ?_)
   all_goals (first|refine zgn ?_|(refine zgy ?_;(first|(refine Q1e ?_)|(refine Q1s ?_)|(refine Qx rfl rfl (fun hc=> ?_) (fun hc=> ?_)))))
   all_goals (refine Yae ?_;refine zR3 (c:=Q27 (by intro _;decide) hS fd) (h:=?_);rintro v1 w1 ⟨rfl,hS⟩;simp only [List.set_cons_zero,List.set_cons_succ,if_true,Bool.false_eq_true,if_false] at hS;refine zn ?_;exact ⟨zh,zh,by first|(rw [if_pos (by omega)];exact hS.sp)|(rw [if_neg (by omega)];exact hS.sp)⟩)
 rintro ρ w1 ⟨hA,hρ,hS⟩;obtain ⟨ρ,rfl⟩:=env2 hA hρ
 refine zM [0,4,5] (fun A ρ' w'=> Has ρ' A∧Has ρ' []∧St cx w' (blk p5 90 [.int .i64 e.op, .int .i64 e.a, .int .i64 e.yes.block,v1,v2, .int .i64 e.no.block,v3,v4,v5]::blk p4 95 [.int .i64 x.regs,vp,vr,vb]::jdg b vf (orF (orF g (mkF (if e.op < 1∨3 < e.op then 3 else 0) at')) (mkF (if e.op≠2∧e.a≠0∨e.op≠3∧0 < e.args.length then 4 else 0) at')) at'::L.eraseIdx i)) ?_ ?_
 · skip
   all_goals (refine Zag ?_;refine zf0 ?_;refine zl hS ?_)
   all_goals (first|(refine Q11 ?_)|(refine Q18 ?_)|(refine Qu rfl rfl (fun hc=> ?_) (fun hc=> ?_)))
   all_goals (refine ZaO ?_)
   all_goals (first|refine zgn ?_|(refine zgy ?_;(first|(refine Q11 ?_)|(refine Q18 ?_)|(refine Qu rfl rfl (fun hc=> ?_) (fun hc=> ?_)))))
   all_goals (refine Yae ?_;refine ZaO ?_)
   all_goals (first|refine zgn ?_|(refine zgy ?_;(first|(refine Q11 ?_)|(refine Q18 ?_)|(refine Qu rfl rfl (fun hc=> ?_) (fun hc=> ?_)))))
   all_goals (refine ZbP ?_;refine Yaj ?_)
   all_goals (first|refine zgn ?_|(refine zgy ?_;(first|(refine Q1e ?_)|(refine Q1s ?_)|(refine Qx rfl rfl (fun hc=> ?_) (fun hc=> ?_)))))
   all_goals (refine Yal ?_;refine Yae ?_;refine zR3 (c:=Q27 (by intro _;decide) hS fd) (h:=?_);rintro v1 w1 ⟨rfl,hS⟩;simp only [List.set_cons_zero,List.set_cons_succ,if_true,Bool.false_eq_true,if_false] at hS;refine zn ?_;exact ⟨zh,zh,by first|(rw [if_pos (c:=e.op≠2∧e.a≠0∨e.op≠3∧0 < e.args.length) (by omega)];exact hS.sp)|(rw [if_neg (c:=e.op≠2∧e.a≠0∨e.op≠3∧0 < e.args.length) (by omega)];exact hS.sp)⟩)
 rintro ρ w1 ⟨hA,hρ,hS⟩;obtain ⟨ρ,rfl⟩:=env2 hA hρ
 refine zM [0,4,5] (fun A ρ' w'=> Has ρ' A∧Has ρ' []∧St cx w' (blk p5 90 [.int .i64 e.op, .int .i64 e.a, .int .i64 e.yes.block,v1,v2, .int .i64 e.no.block,v3,v4,v5]::blk p4 95 [.int .i64 x.regs,vp,vr,vb]::jdg b vf (orF (orF (orF g (mkF (if e.op < 1∨3 < e.op then 3 else 0) at')) (mkF (if e.op≠2∧e.a≠0∨e.op≠3∧0 < e.args.length then 4 else 0) at')) (mkF (if 8 < e.args.length then 2 else 0) at')) at'::L.eraseIdx i)) ?_ ?_
 · skip
   all_goals (refine Zag ?_;refine zf0 ?_;refine zl hS ?_;refine zL ?_)
   all_goals (first|(refine Q1e ?_)|(refine Q1s ?_)|(refine Qx rfl rfl (fun hc=> ?_) (fun hc=> ?_)))
   all_goals (refine zR3 (c:=Q27 (by intro _;decide) hS fd) (h:=?_);rintro v1 w1 ⟨rfl,hS⟩;simp only [List.set_cons_zero,List.set_cons_succ,if_true,Bool.false_eq_true,if_false] at hS;refine zn ?_;exact ⟨zh,zh,by first|(rw [if_pos (c:=8 < e.args.length) (by omega)];exact hS.sp)|(rw [if_neg (c:=8 < e.args.length) (by omega)];exact hS.sp)⟩)
 rintro ρ w1 ⟨hA,hρ,hS⟩;obtain ⟨ρ,rfl⟩:=env2 hA hρ
 all_goals (refine Zab ?_;refine zv hS ?_;refine zf0 ?_;refine zv hS ?_;refine zf0 ?_;refine zl hS ?_;refine Q4h rfl rfl ?_;refine zR4 (c:=to_c (t:=e.yes) hx ⟨_,_,rfl,h1,h2⟩ hS fd) (h:=?_);rintro v1 w1 ⟨rfl,hS⟩;have hS:=hS.ns;refine Zbs ?_;refine zv hS ?_;refine zf0 ?_;refine zv hS ?_;refine zf0 ?_;refine zl hS ?_;refine Q9q rfl rfl ?_;refine zR4 (c:=to_c (t:=e.no) hx ⟨_,_,rfl,h3,h4⟩ hS fd) (h:=?_);rintro v1 w1 ⟨rfl,hS⟩;have hS:=hS.ns;refine ZbB ?_;refine ⟨_,rfl,rfl,?_⟩;rw [end_sum] at hS;exact St.back hS.drop.drop hi)
end
end Go.Proofs.YteflkifmgnpbhaaGreat
namespace Go.Proofs.YteflkifmgnpbhaaGreat
open Go.Lir
set_option maxHeartbeats 1000000
attribute [local irreducible] LC.wp Q0 Qh Qc retQ Qw LO.wp Q3 Calls
set_option linter.unusedSimpArgs false
set_option linter.unusedVariables false
structure RFV where
 f:Nat
 b:Nat
 i:Nat
 vv:Value
 vals:List Int
def RFV.abs (x:RFV):RFrm:=⟨x.f,x.b,x.i,x.vals⟩
def RFV.cells (x:RFV):List Value:=[.int .i64 x.f, .int .i64 x.b, .int .i64 x.i,x.vv]
def RFV.res (x:RFV):Res:=sl 2 1 x.vv (x.vals.map Qj)
structure RC where
 ep:Value
 fn:Value
 lv:Value
 iv:Value
 e:Int
 bv:Value
 ov:Value
 fu:Int
 mo:Int
 dn:Bool
@[reducible] def RC.cells (x:RC):List Value:=[x.ep,x.fn,x.lv,x.iv, .int .i64 x.e,x.bv,x.ov, .int .i64 x.fu, .int .i64 x.mo, .bool x.dn]
@[reducible] def Q35 (fr:List RFV) (g:RFV):List (List Value):=fr.map RFV.cells++[g.cells]
theorem Q6 (fr:List RFV) (g:RFV):(Q35 fr g).length=fr.length+1:=by simp
theorem Q9 (fr:List RFV) (g:RFV):(Q35 fr g)[fr.length]?=some g.cells:=by
 rw [List.getElem?_append_right (by simp)];simp
theorem Qax {fr:List RFV}{g g':RFV}{j:Nat}{u:Value}(h:g.cells.set j u=g'.cells):(Q35 fr g).set fr.length (g.cells.set j u)=Q35 fr g':=by
 rw [h]
 unfold Q35
 rw [List.set_append_right _ _ (by simp)];simp
@[reducible] def rL (p:Nat) (c:RC) (fr:List RFV) (g:RFV) (L:List Res):List Res:=blk p 66 c.cells::sl 138 4 c.lv (Q35 fr g)::sl 2 1 g.vv (g.vals.map Qj)::big RFV.res fr::L
@[reducible] def Q8A (e:Int):Value:= .iface 139 (.int .i64 e)
variable {cx:Cx}{w:World}{L:List Res}{p:Nat}{c:RC}{fr:List RFV}{g:RFV}
theorem Q3X {e:Int}(hS:St cx w L):Rets Tryz.prog QcV [.bool false, .int .i64 e] w fun u w'=> u= .tuple #[]∧St cx w' L:=by
 all_goals refine lgo tyD Tryz.func81 ?_
 all_goals (refine Zaf ?_)
 all_goals refine zcf ?_
 all_goals (refine zsk ?_;refine Q19 ?_;exact ⟨_,rfl,rfl,hS.sp⟩)
theorem Q3W {e:Int}(hS:St cx w L):Fins Tryz.prog QcV [.bool true, .int .i64 e] w (fun _ _=> False) (fun u w'=> u=Q8A e∧St cx w' L):=by
 unfold Fins
 all_goals refine lgo tyD Tryz.func81 ?_
 all_goals (refine Zaf ?_)
 all_goals refine zct ?_
 all_goals (refine Zag ?_;refine zki ?_;refine QeX rfl ?_;(repeat (first|refine Qe ?_|refine Qf ?_));refine Qy ?_;exact .inr ⟨_,rfl,rfl,hS.sp⟩)
theorem Q54 (hf:fr.length≤1000) (hS:St cx w (rL p c fr g L)):Rets Tryz.prog Q7G [.pointer (some ⟨p,0,none⟩)] w fun u w'=>∃b o,u= .pointer (some ⟨b,o,none⟩)∧ElP c.lv (fr.length+1) 4 fr.length b o∧St cx w' (rL p c fr g L):=by
 all_goals refine lgo tyD Tryz.func82 ?_
 all_goals (refine Zaf ?_;refine Qv ?_;refine zD (ci 12 [11]) ?_;have hS:=hS.drew;refine Zbm ?_;refine zf0 ?_;refine zl hS ?_;refine Zbm ?_;refine zf0 ?_;refine zl hS ?_;refine QO hS vw fd (Q6 fr g) ?_;refine zsu ?_;rw [show ((fr.length+1:Nat):Int) - 1=fr.length by omega];refine Q2Q hS vw rfl fd (by rw [Q6];omega) ?_;rw [Q6];intro b1 o1 hel;refine Zai ?_;exact ⟨_,rfl,b1,o1,rfl,hel,hS.sp⟩)
theorem RFrm.val_in {g:RFrm}{k v:Int}(h:g.val k=some v):0≤k∧k.toNat < g.vals.length∧g.vals[k.toNat]?=some v:=by
 unfold RFrm.val at h
 by_cases h0:k < 0
 · rw [if_pos h0] at h;cases h
 · rw [if_neg h0] at h;exact ⟨by omega,(List.getElem?_eq_some_iff.mp h).1,h⟩
theorem Q2y {k v:Int}(hf:fr.length≤1000) (hS:St cx w (rL p c fr g L)) (hg:g.abs.val k=some v):Rets Tryz.prog Q7F [.pointer (some ⟨p,0,none⟩), .int .i64 k] w fun u w'=> u= .int .i64 v∧St cx w' (rL p c fr g L):=by
 obtain ⟨h0,hl,hv⟩:=RFrm.val_in hg
 all_goals refine lgo tyD Tryz.func135 ?_
 all_goals (refine ZaV ?_;refine zR1 (c:=Q54 hf hS) (h:=?_);rintro v1 w1 ⟨b1,o1,rfl,hel,hS⟩;refine Zar ?_;refine Q1 hS hel rfl fd (Q6 fr g) (Q9 fr g) rfl ?_;refine zm ?_;refine QJ hS vw rfl fd (by omega) (by rw [List.length_map];show k < (g.vals.length:Int);have:k.toNat < g.vals.length:=hl;omega) ?_;rw [List.length_map];intro b2 o2 hel2;refine Qs hS hel2 rfl fd (List.length_map _) (show (g.vals.map Qj)[k.toNat]?=some (Qj v) by rw [List.getElem?_map];rw [show g.vals[k.toNat]?=some v from hv];rfl) rfl ?_;refine Zai ?_;exact ⟨_,rfl,rfl,hS.sp⟩)
end Go.Proofs.YteflkifmgnpbhaaGreat
namespace Go.Proofs.YteflkifmgnpbhaaGreat
open Go.Lir
theorem QdD {g:RFrm}{l:List Int}{q:Nat}{k v:Int}{out:List Int}(hd:g.args l=(g.args (l.drop q)).map fun r=> out++r) (hx:l[q]?=some k) (hv:g.val k=some v):g.args l=(g.args (l.drop (q+1))).map fun r=> (out++[v])++r:=by
 rw [hd,Q7 hx,RFrm.args,hv]
 cases g.args (l.drop (q+1)) with
 | none=> rfl
 | some r=> simp
theorem Qfs {g:RFrm}{l:List Int}{q:Nat}{out:List Int}(hd:g.args l=(g.args (l.drop q)).map fun r=> out++r) (hq:l.length≤q):g.args l=some out:=by
 rw [hd,List.drop_of_length_le hq,RFrm.args];simp
theorem rargs_0 {g:RFrm}{l:List Int}:g.args l=(g.args (l.drop 0)).map fun r=> []++r:=by
 rw [List.drop_zero];cases g.args l <;> rfl
theorem QaB {g:RFrm}{k:Int}:∀{l:List Int}{vs:List Int},g.args l=some vs→∀{q:Nat},l[q]?=some k→∃v,g.val k=some v
 | [],_,_,_,h=> by simp at h
 | a ::l,vs,h,q,hq=> by
   rw [RFrm.args] at h
   cases ha:g.val a with
   | none=> rw [ha] at h;cases h
   | some v=>
     rw [ha] at h
     cases hl:g.args l with
     | none=> rw [hl] at h;cases h
     | some r=>
       cases q with
       | zero=> simp at hq;subst hq;exact ⟨v,ha⟩
       | succ q=> exact QaB hl (q:=q) (by simpa using hq)
end Go.Proofs.YteflkifmgnpbhaaGreat
namespace Go.Proofs.YteflkifmgnpbhaaGreat
open Go.Lir
set_option maxHeartbeats 1000000
attribute [local irreducible] LC.wp Q0 Qh Qc retQ Qw LO.wp Q3 Calls
set_option linter.unusedSimpArgs false
set_option linter.unusedVariables false
variable {cx:Cx}{w:World}{L:List Res}{p:Nat}{c:RC}{fr:List RFV}{g:RFV}
attribute [local irreducible] RFrm.val RFrm.args
theorem Qb0 (l:List Int):∀c∈l.map Qj,∀u∈c,oneC u=true:=by
 intro c hc u hu;obtain ⟨v,_,rfl⟩:=List.mem_map.1 hc;simp [Qj] at hu;rcases hu with rfl;rfl
def RFV.push (g:RFV) (tv:Value) (vs:List Int):RFV:=⟨g.f,g.b,g.i,tv,g.vals++vs⟩
theorem Q55 {j:Nat}{v2:Value}{vs:List Int}(hf:fr.length≤1000) (hn:g.vals.length+vs.length≤1000000) (hS:St cx w (rL p c fr g L)) (hj:nth L j=some (sl 2 1 v2 (vs.map Qj))):
 Rets Tryz.prog Q7H [.pointer (some ⟨p,0,none⟩),v2] w fun u w'=>∃tv,u= .tuple #[]∧St cx w' (rL p c fr (g.push tv vs) L):=by
 all_goals refine lgo tyD Tryz.func133 ?_
 all_goals (refine Zag ?_;refine zR1 (c:=Q54 hf hS) (h:=?_);rintro v1 w1 ⟨b1,o1,rfl,hel1,hS⟩;refine zm ?_;refine zR1 (c:=Q54 hf hS) (h:=?_);rintro v2 w1 ⟨b2,o2,rfl,hel2,hS⟩;refine Zar ?_;refine Q1 hS hel2 rfl fd (Q6 fr g) (Q9 fr g) rfl ?_;refine zm ?_;refine Q24 Q5R (.inl Qal) hS vw vw (i:=2) rfl (hS.srcS (i:=j+4) hj (Qb0 vs)) (by rw [List.length_map,List.length_map];omega) ?_;intro v7 w7 hS;have hS:=hS.ns;have ho7:=hS.oneC (i:=2) rfl;rw [←List.map_append] at hS;refine Zar ?_;refine Q10 hS hel1 rfl vw fd (Q6 fr g) (Q9 fr g) (by omega) ho7 (Qax (g':=g.push v7 vs) rfl) ?_;intro w8 hS;have hS:=hS.ns;refine ZbB ?_;exact ⟨_,rfl,v7,rfl,hS.sp⟩)
theorem Q5j {l:List Int}{vs:List Int}{v1:Value}(hl1:l.length≤100000) (hf:fr.length≤1000) (hl:intR.sl cx v1 l) (hv:g.abs.args l=some vs) (hS:St cx w (rL p c fr g L)):Rets Tryz.prog Q71 [.pointer (some ⟨p,0,none⟩),v1] w
 fun u w'=> vs.length=l.length∧oneC u=true∧St cx w' (rL p c fr g (sl 2 1 u (vs.map Qj)::L)):=by
 have hlen:=hl.len
 all_goals refine lgo tyD Tryz.func143 ?_
 all_goals (refine Zaf ?_;refine Zba ?_;refine zL ?_;refine ZaB ?_;have hS:St cx _ (rL p c fr g (sl 2 1 (.slice none 0 0) (([]:List Int).map Qj)::L)):=(by have hS:=hS.nil (T:=2) (es:=1);exact hS.sp))
 refine zo [0,8,9] (fun A ρ' w'=>∃(q:Nat) (vo:Value) (out:List Int),Has ρ' A∧Has ρ' [(5,vo),(10, .int .i64 q)]∧(q≤l.length)∧(out.length=q)∧(oneC vo=true)∧(g.abs.args l=(g.abs.args (l.drop q)).map fun r=> out++r)∧St cx w' (rL p c fr g (sl 2 1 vo (out.map Qj)::L))) (fun ρ' _=> (l.length - iv (ρ' 10)).toNat) ?_ ?_
 · exact ⟨0, .slice none 0 0,[],zh,zh,(by omega),rfl,rfl,rargs_0,hS.sp⟩
 rintro ρ w1 ⟨q,vo,out,hA,hρ,hq,hol,hvo,hd,hS⟩;obtain ⟨ρ,rfl⟩:=env2 hA hρ
 all_goals (refine ZaQ ?_)
 refine Qn rfl (fun hc=> ?_) (fun hc=> ?_)
 · skip
   all_goals (refine Zbk ?_;refine zi ?_;intro b1 o1 cs1 x1 hat1 hx1 he1;obtain rfl:=QQ he1;refine Yap ?_;refine Zad ?_;refine ZaI ?_;refine zm ?_;obtain ⟨n1,hn1⟩:=QaB hv hx1;refine zR2 (c:=Q2y hf hS hn1) (h:=?_);rintro v2 w2 ⟨rfl,hS⟩;refine zB1 hS [_] ?_;intro b1 w1 hS;refine Q24 Q5R (.inl Qal) hS vw vw (i:=5) rfl (hS.srcB (i:=0) rfl (by rfl) (by simp [oneC])) (by rw [List.length_map];simp only [List.length_cons,List.length_nil];omega) ?_;intro v7 w7 hS;have hS:=hS.ns;have ho7:=hS.oneC (i:=5) rfl;refine Zad ?_;refine Q1d ?_;refine zad ?_;refine Zad ?_;exact ⟨⟨q+1,v7,out++[n1],zh,zh,(by omega),by rw [List.length_append,hol];rfl,ho7,QdD hd hx1 hn1,by rw [List.map_append];exact hS.sp⟩,Qr (by omega)⟩)
 · skip
   all_goals (refine zex ?_;refine Zbl ?_)
   all_goals (have e9:=Qfs hd (by omega);rw [hv] at e9;cases e9;exact ⟨_,rfl,by omega,hvo,hS.sp⟩)
end Go.Proofs.YteflkifmgnpbhaaGreat
namespace Go.Proofs.YteflkifmgnpbhaaGreat
open Go.Lir
set_option maxHeartbeats 1000000
attribute [local irreducible] LC.wp Q0 Qh Qc retQ Qw LO.wp Q3 Calls
set_option linter.unusedSimpArgs false
set_option linter.unusedVariables false
@[reducible] def rS (p:Nat) (c:RC) (fr:List RFV) (g:RFV) (s:EstS) (out:List Int) (L:List Res):List Res:=rL p c fr g (estX c.ep s::sl 2 1 c.ov (out.map Qj)::L)
variable {cx:Cx}{w:World}{L:List Res}{p:Nat}{c:RC}{fr:List RFV}{g:RFV}{s:EstS}{out:List Int}
attribute [local irreducible] RFrm.val RFrm.args
theorem Q9s {b:Nat}{pp:Value}{cs:List Value}{q:PoolS}(k:Int) (hb:c.ep= .pointer (some ⟨b,0,none⟩)) (hS:St cx w (rL p c fr g (blk b 73 (pp::cs)::Q1C pp q::L))):Rets Tryz.prog Q70 [.pointer (some ⟨p,0,none⟩), .int .i64 k] w fun u w'=> u= .int .i64 (q.word k)∧St cx w' (rL p c fr g (blk b 73 (pp::cs)::Q1C pp q::L)):=by
 obtain ⟨ep,fn,lv,iv,e,bv,ov,fu,mo,dn⟩:=c
 obtain rfl:ep=_:=hb
 all_goals refine lgo tyD Tryz.func139 ?_
 all_goals (refine ZaV ?_;refine znc ?_;refine zf0 ?_;refine zl hS ?_;refine znc ?_;refine zf0 ?_;refine zl hS ?_;refine zm ?_;refine zR2 (c:=load_x (s:=q) k hS fd) (h:=?_);rintro v1 w1 ⟨rfl,hS⟩;refine Zbc ?_;refine ZaT ?_;refine Zai ?_;exact ⟨_,rfl,rfl,hS.sp⟩)
theorem rget_c (r n:Int) (hS:St cx w (rS p c fr g s out L)):Fins Tryz.prog Q7J [.pointer (some ⟨p,0,none⟩), .int .i64 r, .int .i64 n] w
 (fun u w'=> s.code r n≠14∧u= .int .i64 (s.getV r n)∧St cx w' (rS p c fr g (s.get r n) out L)) (fun u w'=> s.code r n=14∧u=Q8A 6∧St cx w' (rS p c fr g (s.get r n) out L)):=by
 unfold Fins
 all_goals refine lgo tyD Tryz.func198 ?_
 all_goals (refine ZaV ?_;refine znc ?_;refine zf0 ?_;refine zl hS ?_;refine Zbg ?_;refine zR3 (c:=eget_c (e:=c.ep) (s:=s) r n hS fd) (h:=?_);rintro v1 w1 ⟨rfl,hS⟩;have hS:=hS.ns;refine Zbc ?_;refine ZaT ?_)
 all_goals (first|(refine Qi ?_)|(refine Qm ?_)|(refine Q5 rfl rfl (fun hc=> ?_) (fun hc=> ?_)))
 all_goals (first|(refine zR2 (c:=Q3X hS) (h:=?_);rintro v1 w1 ⟨rfl,hS⟩)|(refine zE2 (c:=Q3W hS) (p:=by rintro v9 w9 ⟨rfl,hS⟩;(repeat (first|refine Qe ?_|refine Qf ?_|refine fun _=> ?_));refine Qy ?_;refine .inr ⟨_,rfl,?_⟩;first|(exact ⟨by omega,rfl,hS.sp⟩)) (h:=fun _ _ h=> h.elim)))
 all_goals (refine ZaH ?_;refine Zai ?_;exact .inl ⟨_,rfl,by omega,rfl,hS.sp⟩)
end Go.Proofs.YteflkifmgnpbhaaGreat
namespace Go.Proofs.YteflkifmgnpbhaaGreat
open Go.Lir
set_option maxHeartbeats 1000000
attribute [local irreducible] LC.wp Q0 Qh Qc retQ Qw LO.wp Q3 Calls
set_option linter.unusedSimpArgs false
set_option linter.unusedVariables false
variable {cx:Cx}{w:World}{L:List Res}{p:Nat}{c:RC}{fr:List RFV}{g:RFV}{s:EstS}{out:List Int}
attribute [local irreducible] RFrm.val RFrm.args EstS.get EstS.getV EstS.code EstS.word EstS.store
theorem rat_o {b:Nat}{pp:Value}{ds:List Value}{q:PoolS}{x:Ins}{cs:List Value}{a k:Int}(hb:c.ep= .pointer (some ⟨b,0,none⟩)) (hx:insR.at cx cs x) (hf:fr.length≤1000) (ha:g.abs.val x.a=some a) (hk:g.abs.val x.b=some k) (hS:St cx w (rL p c fr g (blk b 73 (pp::ds)::Q1C pp q::L))):Fins Tryz.prog Q8E [.pointer (some ⟨p,0,none⟩), .agg ⟨cs⟩] w
 (fun u w'=>¬(k < 0∨q.word a≤k)∧u= .int .i64 (wr (wr (a+1)+k))∧St cx w' (rL p c fr g (blk b 73 (pp::ds)::Q1C pp q::L))) (fun u w'=> (k < 0∨q.word a≤k)∧u=Q8A 2∧St cx w' (rL p c fr g (blk b 73 (pp::ds)::Q1C pp q::L))):=by
 obtain ⟨vr,va,rfl,hr,ha1⟩:=Q1a hx
 unfold Fins
 all_goals refine lgo tyD Tryz.func142 ?_
 all_goals (refine Zaq ?_;intro p3 w1 hS;refine Zaz ?_;refine zC [(0,none),(1,none),(2,none),(4,none),(5,none),(6,none),(3,some (some [6])),(7,some none),(8,none),(9,some none)] ?_;have hS:=hS.drew;refine ZaC ?_;refine zf0 ?_;refine Zac ?_;refine zl hS ?_;refine Zax ?_;refine zf0 ?_;refine Zac ?_;refine zl hS ?_;refine Zal ?_)
 all_goals (refine zR2 (c:=Q2y hf (show St cx _ (rL p c fr g _) from hS.sp) ha) (h:=?_);rintro v1 w1 ⟨rfl,hS⟩)
 all_goals (refine ZaZ ?_)
 all_goals (first|(refine zR2 (c:=Q2y hf (show St cx _ (rL p c fr g _) from hS.sp) ha) (h:=?_);rintro v1 w1 ⟨rfl,hS⟩)|(refine zR2 (c:=Q2y hf (show St cx _ (rL p c fr g _) from hS.sp) hk) (h:=?_);rintro v2 w2 ⟨rfl,hS⟩))
 all_goals (refine Zac ?_;refine zm ?_;refine Zay ?_;refine ZbN ?_;refine Zab ?_)
 all_goals (first|(refine Q1k ?_)|(refine Q1w ?_)|(refine QA rfl rfl (fun hc=> ?_) (fun hc=> ?_)))
 all_goals (refine Zbp ?_;refine Yaa ?_;(first|refine zgn ?_|(refine zgy ?_;refine zR2 (c:=Q9s (q:=q) a hb (show St cx _ (rL p c fr g (blk b 73 (pp::ds)::Q1C pp q::_)) from hS.sp)) (h:=?_);rintro v3 w3 ⟨rfl,hS⟩)))
 all_goals (first|refine zgn ?_|(refine zgy ?_;(first|(refine Q2w ?_)|(refine Q3k ?_)|(refine Q1I rfl rfl (fun hc=> ?_) (fun hc=> ?_)))))
 all_goals (refine Yae ?_)
 all_goals (first|(refine zR2 (c:=Q3X hS) (h:=?_);rintro v1 w1 ⟨rfl,hS⟩)|(refine zE2 (c:=Q3W hS) (p:=by rintro v9 w9 ⟨rfl,hS⟩;(repeat (first|refine Qe ?_|refine Qf ?_|refine fun _=> ?_));refine Qy ?_;refine .inr ⟨_,rfl,?_⟩;first|(exact ⟨by omega,rfl,hS.sp⟩)) (h:=fun _ _ h=> h.elim)))
 all_goals (refine ZaH ?_;refine Ybd ?_;refine zm ?_;refine Ybd ?_;refine Zai ?_;exact .inl ⟨_,rfl,by omega,rfl,hS.sp⟩)
end Go.Proofs.YteflkifmgnpbhaaGreat
namespace Go.Proofs.YteflkifmgnpbhaaGreat
open Go.Lir
set_option maxHeartbeats 1000000
attribute [local irreducible] LC.wp Q0 Qh Qc retQ Qw LO.wp Q3 Calls
set_option linter.unusedSimpArgs false
set_option linter.unusedVariables false
variable {cx:Cx}{w:World}{L:List Res}{p:Nat}{c:RC}{fr:List RFV}{g:RFV}{s:EstS}{out:List Int}
theorem EstS.rok_store {s:EstS}(h:s.Ok) (k x:Int):(s.store k x).Ok:=⟨h.len,h.off,h.used,h.tk.store k x,PoolS.ok_store h.pok k x,by show (s.p.store k x).n≤64;rw [PoolS.n_store];exact h.n64⟩
theorem EstO.rstore {e:Value}{s:EstS}{b:Nat}{rv:List RegV}(h:EstO e s b rv) (k x:Int):EstO e (s.store k x) b rv:=⟨h.he,h.hr,EstS.rok_store h.ok k x⟩
theorem Q4S {e:Value}{s:EstS}{b:Nat}{pp:Value}{rv:List RegV}{k x:Int}(h:EstO e s b rv) (hS:St cx w (blk b 73 (pp::Q1n rv)::Q1C pp (s.p.store k x)::big RegV.res rv::L)):St cx w (estX e (s.store k x)::L):=QW (s:=s.store k x) (h.rstore k x) hS
attribute [local irreducible] RFrm.val RFrm.args EstS.get EstS.getV EstS.code EstS.word EstS.store
theorem rarray_c {x:Ins}{cs:List Value}{a n:Int}(hx:insR.at cx cs x) (hf:fr.length≤1000) (hn:g.vals.length≤900000) (ha:g.abs.val x.a=some a) (hk:g.abs.val x.b=some n) (hS:St cx w (rS p c fr g s out L)):Fins Tryz.prog Q6h [.pointer (some ⟨p,0,none⟩), .agg ⟨cs⟩] w
 (fun u w'=>¬(n < 0∨15 < n)∧s.code a (1+n)≠14∧u= .tuple #[]∧∃tv,St cx w' (rS p c fr (g.push tv [s.getV a (1+n)]) ((s.get a (1+n)).store (s.getV a (1+n)) n) out L))
 (fun u w'=> (n < 0∨15 < n)∧u=Q8A 3∧St cx w' (rS p c fr g s out L)∨¬(n < 0∨15 < n)∧s.code a (1+n)=14∧u=Q8A 6∧St cx w' (rS p c fr g (s.get a (1+n)) out L)):=by
 obtain ⟨vr,va,rfl,hr,ha1⟩:=Q1a hx
 obtain ⟨ep,fn,lv,iv,e,bv,ov,fu,mo,dn⟩:=c
 unfold Fins
 all_goals refine lgo tyD Tryz.func141 ?_
 all_goals (refine Zaq ?_;intro p3 w1 hS;refine ZaH ?_;refine zf0 ?_;refine zl hS ?_;refine zR2 (c:=Q2y hf (show St cx _ (rL p _ fr g _) from hS.sp) hk) (h:=?_);rintro v1 w1 ⟨rfl,hS⟩;refine ZaT ?_)
 all_goals (first|(refine Q1k ?_)|(refine Q1w ?_)|(refine QA rfl rfl (fun hc=> ?_) (fun hc=> ?_)))
 all_goals (refine Zak ?_)
 all_goals (first|refine zgn ?_|(refine zgy ?_;(first|(refine Q1e ?_)|(refine Q1s ?_)|(refine Qx rfl rfl (fun hc=> ?_) (fun hc=> ?_)))))
 all_goals (refine Yae ?_)
 all_goals (first|(refine zR2 (c:=Q3X hS) (h:=?_);rintro v1 w1 ⟨rfl,hS⟩)|(refine zE2 (c:=Q3W hS) (p:=by rintro v9 w9 ⟨rfl,hS⟩;(repeat (first|refine Qe ?_|refine Qf ?_|refine fun _=> ?_));refine Qy ?_;refine .inr ⟨_,rfl,?_⟩;first|(exact .inl ⟨by omega,rfl,hS.sp⟩)) (h:=fun _ _ h=> h.elim)))
 all_goals (refine zn ?_;refine Zas ?_;refine zf0 ?_;refine zl hS ?_;refine zR2 (c:=Q2y hf (show St cx _ (rL p _ fr g _) from hS.sp) ha) (h:=?_);rintro v1 w1 ⟨rfl,hS⟩;refine zm ?_;refine zad ?_;refine zE3 (c:=rget_c (s:=s) (out:=out) a (1+n) (show St cx _ (rS p _ fr g s out _) from hS.sp)) (p:=by rintro u9 w9 ⟨h14,rfl,hS⟩;(repeat (first|refine Qe ?_|refine Qf ?_|refine fun _=> ?_));refine Qy ?_;refine .inr ⟨_,rfl,?_⟩;exact .inr ⟨by omega,h14,rfl,hS.sp⟩) (h:=?_);rintro u1 w2 ⟨h14,rfl,hS⟩;refine Zaz ?_;obtain ⟨b9,pp,rv,ho,hS⟩:=Q1V (hS.out (i:=4) rfl);obtain rfl:=ho.he;refine Zby ?_;refine zf0 ?_;refine zl hS ?_;refine znc ?_;refine zf0 ?_;refine zl hS ?_;refine Zbg ?_;refine zR3 (c:=Q9f (s:=(s.get a (1+n)).p) (s.getV a (1+n)) n hS nth1) (h:=?_);rintro v1 w1 ⟨rfl,hS⟩;have hS:=hS.ns;have hS:=Q4S ho hS;have hS:=hS.ns;refine zn ?_;refine ZaI ?_;refine zB1 hS [_] ?_;intro b1 w1 hS;have hS:=St.slOf (T:=2) (es:=1) (css:=[s.getV a (1+n)].map Qj) hS rfl (by simp [Qj]) rfl;have hS:St cx _ (rL p _ fr g (sl 2 1 (.slice (some ⟨b1,0,none⟩) 1 1) ([s.getV a (1+n)].map Qj)::_)):=hS.sp;refine zR2 (c:=Q55 (j:=0) hf (by simp only [List.length_cons,List.length_nil];omega) hS rfl) (h:=?_);rintro u1 w1 ⟨tv,rfl,hS⟩)
 all_goals (refine ZbB ?_;exact .inl ⟨_,rfl,by omega,h14,rfl,tv,hS.sp⟩)
end Go.Proofs.YteflkifmgnpbhaaGreat
namespace Go.Proofs.YteflkifmgnpbhaaGreat
open Go.Lir
set_option maxHeartbeats 1000000
attribute [local irreducible] LC.wp Q0 Qh Qc retQ Qw LO.wp Q3 Calls
set_option linter.unusedSimpArgs false
set_option linter.unusedVariables false
variable {cx:Cx}{w:World}{L:List Res}{p:Nat}{c:RC}{fr:List RFV}{g:RFV}{s:EstS}{out:List Int}
theorem EstS.stores_0 {s:EstS}{a:Int}{l:List Int}:s.stores a (l.take 0)=s:=rfl
attribute [local irreducible] RFrm.val RFrm.args EstS.get EstS.getV EstS.code EstS.word EstS.store EstS.stores
theorem rtuple_c {x:Ins}{cs:List Value}{a n:Int}{vs:List Int}(hx:insR.at cx cs x) (h8:x.args.length≤100) (hN:n=max (x.args.length:Int) 1) (hf:fr.length≤1000) (hn:g.vals.length≤900000) (ha:g.abs.val x.a=some a) (hv:g.abs.args x.args=some vs) (hS:St cx w (rS p c fr g s out L)):Fins Tryz.prog Q6g [.pointer (some ⟨p,0,none⟩), .agg ⟨cs⟩] w
 (fun u w'=> s.code a n≠14∧u= .tuple #[]∧∃tv,St cx w' (rS p c fr (g.push tv [s.getV a n]) ((s.get a n).stores (s.getV a n) vs) out L))
 (fun u w'=> s.code a n=14∧u=Q8A 6∧St cx w' (rS p c fr g (s.get a n) out L)):=by
 obtain ⟨vr,va,rfl,hr,ha1⟩:=Q1a hx
 obtain ⟨ep,f1,l1,i1,e1,b2,o2,f2,m2,d2⟩:=c
 have hsg:=fun (w:World) (L:List Res) (hS:St cx w (rS p ⟨ep,f1,l1,i1,e1,b2,o2,f2,m2,d2⟩ fr g s out L))=> rget_c a n hS
 rw [hN] at hsg
 unfold Fins
 all_goals refine lgo tyD Tryz.func138 ?_
 all_goals (refine Zaq ?_;intro p3 w1 hS;refine ZaF ?_;refine zC [(0,none),(1,none),(2,none),(3,none),(5,none),(6,none),(7,none),(8,none),(4,some (some [6])),(9,some none),(10,some none)] ?_;have hS:=hS.drew;refine Zbf ?_;refine zf0 ?_;refine Zac ?_;refine zl hS ?_;refine Zac ?_;refine zf0 ?_;refine Zac ?_;refine zl hS ?_;refine Zac ?_;refine zL ?_;refine Zac ?_;refine s_max rfl rfl ?_;refine Zal ?_;refine zR2 (c:=Q2y hf (show St cx _ (rL p _ fr g _) from hS.sp) ha) (h:=?_);rintro v1 w1 ⟨rfl,hS⟩;refine ZaZ ?_;refine zE3 (c:=hsg _ _ (show St cx _ (rS p _ fr g s out _) from hS.sp)) (p:=by rintro u9 w9 ⟨h14,rfl,hS⟩;(repeat (first|refine Qe ?_|refine Qf ?_|refine fun _=> ?_));refine Qy ?_;refine .inr ⟨_,rfl,?_⟩;rw [←hN] at h14 hS;exact ⟨h14,rfl,hS.sp⟩) (h:=?_);rintro u1 w2 ⟨h14,rfl,hS⟩;rw [←hN] at h14 hS ⊢;refine Zay ?_;refine ZbN ?_)
 all_goals (refine Zah ?_;refine zf0 ?_;refine zl hS ?_;refine zR2 (c:=Q5j (by omega) hf ha1 hv (show St cx _ (rL p _ fr g _) from hS.sp)) (h:=?_);rintro v2 w2 ⟨hvl,ho2,hS⟩;refine Yay ?_;refine ZaB ?_)
 refine zo [0,4,20,21] (fun A ρ' w'=>∃(q:Nat),Has ρ' A∧Has ρ' [(22, .int .i64 q)]∧(q≤vs.length)∧St cx w' (rS p ⟨ep,f1,l1,i1,e1,b2,o2,f2,m2,d2⟩ fr g ((s.get a n).stores (s.getV a n) (vs.take q)) out (sl 2 1 v2 (vs.map Qj)::blk p3 84 [.int .i64 x.op, .int .i64 x.a, .int .i64 x.b, .int .i64 x.c, .int .i64 x.k, .int .i64 x.n,vr,va]::L))) (fun ρ' _=> (vs.length - iv (ρ' 22)).toNat) ?_ ?_
 · exact ⟨0,zh,zh,(by omega),by rw [EstS.stores_0];exact hS.sp⟩
 rintro ρ w1 ⟨q,hA,hρ,hq,hS⟩;obtain ⟨ρ,rfl⟩:=env2 hA hρ
 all_goals (refine ZaQ ?_)
 refine Qn rfl (fun hc=> ?_) (fun hc=> ?_)
 · skip
   all_goals (refine ZaA ?_;refine Qv ?_;have hlt:q < vs.length:=(by omega);have hvq:vs[q]?=some (vs.getD q 0):=(by rw [List.getD_eq_getElem?_getD,List.getElem?_eq_getElem hlt];rfl);refine Zag ?_;refine Q2Q hS vw rfl fd (by rw [List.length_map];omega) ?_;rw [List.length_map];intro b2 o2 hel2;refine Qs hS hel2 rfl fd (List.length_map _) (show (vs.map Qj)[q]?=some (Qj (vs.getD q 0)) by rw [List.getElem?_map,hvq];rfl) rfl ?_;refine zm ?_;refine Zad ?_;obtain ⟨b9,pp,rv,ho,hS⟩:=Q1V (hS.out (i:=4) rfl);obtain rfl:=ho.he;refine Zby ?_;refine zf0 ?_;refine zl hS ?_;refine znc ?_;refine zf0 ?_;refine zl hS ?_;refine Zbg ?_;refine Ybd ?_;refine zm ?_;refine zR3 (c:=Q9f (s:=((s.get a n).stores (s.getV a n) (vs.take q)).p) (wr (s.getV a n+q)) (vs.getD q 0) hS nth1) (h:=?_);rintro v1 w1 ⟨rfl,hS⟩;have hS:=hS.ns;have hS:=Q4S ho hS;rw [←EstS.stores_take hvq] at hS;refine Zbq ?_)
   all_goals (refine zad ?_;refine Zad ?_;exact ⟨⟨q+1,zh,zh,(by omega),hS.sp⟩,Qr (by omega)⟩)
 · skip
   all_goals (refine zex ?_;refine ZaI ?_;refine zB1 hS [_] ?_;intro b1 w1 hS;rw [List.take_of_length_le (by omega)] at hS;have hS:=St.slOf (T:=2) (es:=1) (css:=[s.getV a n].map Qj) hS rfl (by simp [Qj]) rfl;have hS:St cx _ (rL p _ fr g (sl 2 1 (.slice (some ⟨b1,0,none⟩) 1 1) ([s.getV a n].map Qj)::_)):=hS.sp;refine zR2 (c:=Q55 (j:=0) hf (by simp only [List.length_cons,List.length_nil];omega) hS rfl) (h:=?_);rintro u1 w1 ⟨tv,rfl,hS⟩;refine ZbB ?_;exact .inl ⟨_,rfl,h14,rfl,tv,hS.sp⟩)
end Go.Proofs.YteflkifmgnpbhaaGreat
namespace Go.Proofs.YteflkifmgnpbhaaGreat
open Go.Lir
set_option maxHeartbeats 1000000
attribute [local irreducible] LC.wp Q0 Qh Qc retQ Qw LO.wp Q3 Calls
set_option linter.unusedSimpArgs false
set_option linter.unusedVariables false
variable {cx:Cx}{w:World}{L:List Res}{p:Nat}{c:RC}{fr:List RFV}{g:RFV}{s:EstS}{out:List Int}
attribute [local irreducible] RFrm.val RFrm.args EstS.get EstS.getV EstS.code EstS.word EstS.store EstS.stores
@[reducible] def RC.did (c:RC) (bv:Value):RC:=⟨c.ep,c.fn,c.lv,c.iv,c.e,bv,c.ov,c.fu,c.mo,true⟩
theorem rend_d {e:Tail}{cs:List Value}{vs:List Int}(hx:endR.at cx cs e) (h3:e.op=3) (h8:e.args.length≤100) (hv:g.abs.args e.args=some vs) (hS:St cx w (rS p c [] g s out L)):
 Rets Tryz.prog Q1K [.pointer (some ⟨p,0,none⟩), .agg ⟨cs⟩] w fun u w'=>∃bv,u= .tuple #[]∧oneC bv=true∧St cx w' (rS p (c.did bv) [] g s out (sl 2 1 bv (vs.map Qj)::L)):=by
 obtain ⟨v1,v2,v3,v4,v5,rfl,k1,k2,k3,k4,k5⟩:=Q22 hx
 have hf0:([]:List RFV).length≤1000:=by simp
 all_goals refine lgo tyD Tryz.func84 ?_
 all_goals (refine Zaq ?_;intro p3 w1 hS;refine ZaH ?_;refine zR1 (c:=Q54 hf0 (show St cx _ (rL p c [] g _) from hS.sp)) (h:=?_);rintro v9 w1 ⟨b9,o9,rfl,hel,hS⟩;refine ZaB ?_;refine Zaa ?_;refine zf0 ?_;refine zl hS ?_)
 all_goals (refine Qi ?_)
 all_goals (refine Zak ?_;refine Yah ?_;refine Zap ?_;(first|refine zgn ?_|(refine zgy ?_;refine QO hS vw fd (show (Q35 [] g).length=1 from rfl) ?_)))
 all_goals (refine Yax ?_)
 all_goals (refine zpt ?_;refine Zad ?_)
 all_goals refine zct ?_
 all_goals (refine ZaI ?_;refine zm ?_;refine zf0 ?_;refine zl hS ?_;refine zR2 (c:=Q5j (by omega) hf0 k5 hv (show St cx _ (rL p c [] g _) from hS.sp)) (h:=?_);rintro u2 w2 ⟨hvl,ho2,hS⟩;refine znc ?_;refine zf0 ?_;refine Yac ?_;refine zst hS ?_;intro w1 hS;have hS:=hS.ns;refine znc ?_;refine zf0 ?_;refine zst hS ?_;intro w1 hS;have hS:=hS.ns;refine ZbB ?_;exact ⟨_,rfl,u2,rfl,ho2,hS.sp⟩)
end Go.Proofs.YteflkifmgnpbhaaGreat
namespace Go.Proofs.YteflkifmgnpbhaaGreat
open Go.Lir
set_option maxHeartbeats 1000000
attribute [local irreducible] LC.wp Q0 Qh Qc retQ Qw LO.wp Q3 Calls
set_option linter.unusedSimpArgs false
set_option linter.unusedVariables false
variable {cx:Cx}{w:World}{L:List Res}{p:Nat}{c:RC}{fr:List RFV}{g:RFV}{s:EstS}{out:List Int}
attribute [local irreducible] RFrm.val RFrm.args EstS.get EstS.getV EstS.code EstS.word EstS.store EstS.stores
@[reducible] def RC.upd (c:RC) (lv iv ov:Value):RC:=⟨c.ep,c.fn,lv,iv,c.e,c.bv,ov,c.fu,c.mo,c.dn⟩
theorem Qfi {k:RFV}:((Q35 (fr++[k]) g).take (fr++[k]).length).drop 0=Q35 fr k:=by
 unfold Q35
 rw [List.drop_zero,List.take_append_of_le_length (by simp),List.take_of_length_le (by simp),List.map_append];rfl
theorem rbig_k {k:RFV}(hS:St cx w (big RFV.res (fr++[k])::L)):St cx w (sl 2 1 k.vv (k.vals.map Qj)::big RFV.res fr::L):=by
 have h1:=hS.bigOut (i:=0) (k:=fr.length) (x:=k) rfl (by simp)
 have h2:(fr++[k]).eraseIdx fr.length=fr:=by rw [List.eraseIdx_append_of_length_le (Nat.le_refl _)];simp
 rw [List.set_cons_zero,h2] at h1
 exact h1
theorem rend_k {e:Tail}{cs:List Value}{vs:List Int}{k:RFV}(hx:endR.at cx cs e) (h3:e.op=3) (h8:e.args.length≤100) (hv:g.abs.args e.args=some vs) (hf:fr.length≤900) (hn:k.vals.length≤900000) (hS:St cx w (rS p c (fr++[k]) g s out L)):
 Rets Tryz.prog Q1K [.pointer (some ⟨p,0,none⟩), .agg ⟨cs⟩] w fun u w'=>∃lv tv,u= .tuple #[]∧St cx w' (rS p (c.upd lv c.iv c.ov) fr (k.push tv vs) s out L):=by
 obtain ⟨v1,v2,v3,v4,v5,rfl,k1,k2,k3,k4,k5⟩:=Q22 hx
 have hl1:(fr++[k]).length=fr.length+1:=by simp
 have hf0:(fr++[k]).length≤1000:=by omega
 all_goals refine lgo tyD Tryz.func84 ?_
 all_goals (refine Zaq ?_;intro p3 w1 hS;refine ZaH ?_;refine zR1 (c:=Q54 hf0 (show St cx _ (rL p c (fr++[k]) g _) from hS.sp)) (h:=?_);rintro v9 w1 ⟨b9,o9,rfl,hel,hS⟩;refine ZaB ?_;refine Zaa ?_;refine zf0 ?_;refine zl hS ?_)
 all_goals (refine Qi ?_)
 all_goals (refine Zak ?_;refine Yah ?_;refine Zap ?_;(first|refine zgn ?_|(refine zgy ?_;refine QO (n:=fr.length+2) hS vw fd (by rw [Q6];omega) ?_)))
 all_goals (refine Ybb ?_)
 all_goals (refine zpt ?_;refine Zad ?_)
 all_goals refine zcf ?_
 all_goals (refine Zaa ?_;refine zf0 ?_;refine zl hS ?_)
 all_goals (refine Qi ?_)
 all_goals (refine Zad ?_)
 all_goals refine zct ?_
 all_goals (refine Zab ?_;refine zf0 ?_;refine zl hS ?_;refine zR2 (c:=Q5j (by omega) hf0 k5 hv (show St cx _ (rL p c (fr++[k]) g _) from hS.sp)) (h:=?_);rintro u2 w2 ⟨hvl,ho2,hS⟩;obtain ⟨a2,n2,rfl⟩:=hS.shape (i:=4) rfl;refine Zaz ?_;refine zD (ci 15 [14]) ?_;have hS:=hS.drew;refine Zbg ?_;refine znc ?_;refine zf0 ?_;refine zl hS ?_;refine Zbm ?_;refine zf0 ?_;refine zl hS ?_;refine QO (n:=fr.length+2) hS vw fd (by rw [Q6];omega) ?_;refine zsu ?_;rw [show ((fr.length+2:Nat):Int) - 1=(((fr++[k]).length:Nat):Int) by omega];refine s_subE (l':=0) (h':=(fr++[k]).length) hS vw (i:=1) rfl rfl ⟨_,rfl⟩ rfl (by rw [Q6];omega) (by omega) ?_;intro v7 hS;rw [Qfi] at hS;have hS:=hS.ns;have ho7:=hS.oneC (i:=1) rfl)
 all_goals (refine znc ?_;refine zf0 ?_;refine zst hS ?_;intro w1 hS;have hS:=hS.ns;refine zn ?_;refine ZaI ?_;have hS:=rbig_k (fr:=fr) (k:=k) (L:=blk p 66 _::sl 138 4 v7 (Q35 fr k)::sl 2 1 (.slice a2 _ n2) _::estX c.ep s::sl 2 1 c.ov (out.map Qj)::L) hS.sp;have hS:St cx _ (rL p (c.upd v7 c.iv c.ov) fr k (sl 2 1 (.slice a2 (vs.map Qj).length n2) (vs.map Qj)::estX c.ep s::sl 2 1 c.ov (out.map Qj)::L)):=hS.sp;refine zR2 (c:=Q55 (j:=0) (vs:=vs) (by omega) (by omega) hS rfl) (h:=?_);rintro u1 w1 ⟨tv,rfl,hS⟩;refine ZbB ?_;exact ⟨_,rfl,v7,tv,rfl,hS.sp⟩)
end Go.Proofs.YteflkifmgnpbhaaGreat
namespace Go.Proofs.YteflkifmgnpbhaaGreat
open Go.Lir
set_option maxHeartbeats 1000000
attribute [local irreducible] LC.wp Q0 Qh Qc retQ Qw LO.wp Q3 Calls
set_option linter.unusedSimpArgs false
set_option linter.unusedVariables false
variable {cx:Cx}{w:World}{L:List Res}{p:Nat}{c:RC}{fr:List RFV}{g:RFV}{s:EstS}{out:List Int}
attribute [local irreducible] RFrm.val RFrm.args EstS.get EstS.getV EstS.code EstS.word EstS.store EstS.stores
theorem Q6e {g':RFV}:(Q35 fr g).set fr.length g'.cells=Q35 fr g':=by
 unfold Q35
 rw [List.set_append_right _ _ (by simp)];simp
theorem rend_n {e:Tail}{cs:List Value}{vs:List Int}(hx:endR.at cx cs e) (h2:e.op=2) (ha:g.abs.val e.a=some 0) (h8:e.no.args.length≤100) (hb0:0≤e.no.block) (hv:g.abs.args e.no.args=some vs) (hf:fr.length≤1000) (hS:St cx w (rS p c fr g s out L)):
 Rets Tryz.prog Q1K [.pointer (some ⟨p,0,none⟩), .agg ⟨cs⟩] w fun u w'=>∃vv,u= .tuple #[]∧St cx w' (rS p c fr ⟨g.f,e.no.block.toNat,0,vv,vs⟩ s out L):=by
 obtain ⟨v1,v2,v3,v4,v5,rfl,k1,k2,k3,k4,k5⟩:=Q22 hx
 all_goals refine lgo tyD Tryz.func84 ?_
 all_goals (refine Zaq ?_;intro p3 w1 hS;refine ZaH ?_;refine zR1 (c:=Q54 hf (show St cx _ (rL p c fr g _) from hS.sp)) (h:=?_);rintro v9 w1 ⟨b9,o9,rfl,hel,hS⟩;refine ZaB ?_;refine Zaa ?_;refine zf0 ?_;(first|(refine Qs hS hel rfl fd (Q6 fr g) (Q9 fr g) rfl ?_)|(refine zl hS ?_)))
 all_goals (refine Yao ?_)
 all_goals (refine zm ?_;refine zgn ?_;refine zgn ?_;refine zgn ?_;refine zgn ?_;refine zgn ?_)
 all_goals (refine zgn ?_)
 all_goals (refine Yae ?_;refine Zad ?_)
 all_goals refine zcf ?_
 all_goals (refine Zaa ?_;refine zf0 ?_;(first|(refine Qs hS hel rfl fd (Q6 fr g) (Q9 fr g) rfl ?_)|(refine zl hS ?_)))
 all_goals (refine Yao ?_)
 all_goals (refine Zad ?_)
 all_goals refine zcf ?_
 all_goals (refine Zaa ?_;refine zf0 ?_;(first|(refine Qs hS hel rfl fd (Q6 fr g) (Q9 fr g) rfl ?_)|(refine zl hS ?_)))
 all_goals (refine Qi ?_)
 all_goals (refine Zak ?_;refine Yab ?_;(first|refine zgn ?_|(refine zgy ?_;(first|(refine Qs hS hel rfl fd (Q6 fr g) (Q9 fr g) rfl ?_)|(refine zl hS ?_))));(first|refine zgn ?_|(refine zgy ?_;refine zR2 (c:=Q2y hf (show St cx _ (rL p c fr g _) from hS.sp) ha) (h:=?_);rintro v7 w7 ⟨rfl,hS⟩)))
 all_goals (refine Yax ?_)
 all_goals (refine zpt ?_;refine Zad ?_)
 all_goals refine zct ?_
 all_goals (refine zC [(0,none),(1,none),(2,none),(3,none),(4,none),(5,none),(6,none),(7,none),(8,none),(9,none),(10,none),(11,none),(12,some (some [4,7])),(13,none),(14,none),(15,some none)] ?_;have hS:=hS.drew;refine Zbf ?_;refine ZbI ?_;refine Qs hS hel rfl fd (Q6 fr g) (Q9 fr g) rfl ?_;refine Zac ?_;refine zf0 ?_;refine Zbj ?_;(first|(refine Qs hS hel rfl fd (Q6 fr g) (Q9 fr g) rfl ?_)|(refine zl hS ?_));refine Zax ?_;refine zf0 ?_;refine Zbj ?_;(first|(refine Qs hS hel rfl fd (Q6 fr g) (Q9 fr g) rfl ?_)|(refine zl hS ?_));refine zt ?_)
 all_goals (refine Q3U ?_;refine zR2 (c:=Q5j (by omega) hf k4 hv (show St cx _ (rL p c fr g _) from hS.sp)) (h:=?_);rintro u2 w2 ⟨hvl,ho2,hS⟩;obtain ⟨a2,n2,rfl⟩:=hS.shape (i:=4) rfl;refine zt ?_;refine ⟨List.forall_mem_cons.2 ⟨(by (exact Qp hS hel rfl fd (Q6 fr g) (Q9 fr g) rfl)),List.forall_mem_cons.2 ⟨(by first|(exact Qp hS hel rfl fd (Q6 fr g) (Q9 fr g) rfl)|(exact QK hS rfl fd rfl)),fun _ h=> (List.not_mem_nil h).elim⟩⟩,?_⟩;refine s_cq ?_;refine zb3 [_,_,_,_] ?_;refine Zac ?_;refine znc ?_;refine Zay ?_;refine Q3D (css':=Q35 fr ⟨g.f,e.no.block.toNat,0, .slice a2 (vs.map Qj).length n2,vs⟩) hS hel rfl vw (by rfl) fd (Q6 fr g) (Q9 fr g) rfl (by simp [oneC,ho2]) (by rw [show Value.int .i64 e.no.block= .int .i64 ((e.no.block.toNat:Nat):Int) by rw [Int.toNat_of_nonneg hb0]];exact Q6e (g':=⟨g.f,e.no.block.toNat,0, .slice a2 (vs.map Qj).length n2,vs⟩)) ?_;intro w8 hS;have hS:=hS.ns;refine Zav ?_)
 all_goals (refine Q19 ?_;exact ⟨_,rfl,_,rfl,hS.sp⟩)
theorem rend_y {e:Tail}{cs:List Value}{vs:List Int}{n:Int}(hx:endR.at cx cs e) (h2:e.op=2) (h0:n≠0) (ha:g.abs.val e.a=some n) (h8:e.yes.args.length≤100) (hb0:0≤e.yes.block) (hv:g.abs.args e.yes.args=some vs) (hf:fr.length≤1000) (hS:St cx w (rS p c fr g s out L)):
 Rets Tryz.prog Q1K [.pointer (some ⟨p,0,none⟩), .agg ⟨cs⟩] w fun u w'=>∃vv,u= .tuple #[]∧St cx w' (rS p c fr ⟨g.f,e.yes.block.toNat,0,vv,vs⟩ s out L):=by
 obtain ⟨v1,v2,v3,v4,v5,rfl,k1,k2,k3,k4,k5⟩:=Q22 hx
 all_goals refine lgo tyD Tryz.func84 ?_
 all_goals (refine Zaq ?_;intro p3 w1 hS;refine ZaH ?_;refine zR1 (c:=Q54 hf (show St cx _ (rL p c fr g _) from hS.sp)) (h:=?_);rintro v9 w1 ⟨b9,o9,rfl,hel,hS⟩;refine ZaB ?_;refine Zaa ?_;refine zf0 ?_;(first|(refine Qs hS hel rfl fd (Q6 fr g) (Q9 fr g) rfl ?_)|(refine zl hS ?_)))
 all_goals (refine Yao ?_)
 all_goals (refine zm ?_;refine zgn ?_;refine zgn ?_;refine zgn ?_;refine zgn ?_;refine zgn ?_)
 all_goals (refine zgn ?_)
 all_goals (refine Yae ?_;refine Zad ?_)
 all_goals refine zcf ?_
 all_goals (refine Zaa ?_;refine zf0 ?_;(first|(refine Qs hS hel rfl fd (Q6 fr g) (Q9 fr g) rfl ?_)|(refine zl hS ?_)))
 all_goals (refine Yao ?_)
 all_goals (refine Zad ?_)
 all_goals refine zcf ?_
 all_goals (refine Zaa ?_;refine zf0 ?_;(first|(refine Qs hS hel rfl fd (Q6 fr g) (Q9 fr g) rfl ?_)|(refine zl hS ?_)))
 all_goals (refine Qi ?_)
 all_goals (refine Zak ?_;refine Yab ?_;(first|refine zgn ?_|(refine zgy ?_;(first|(refine Qs hS hel rfl fd (Q6 fr g) (Q9 fr g) rfl ?_)|(refine zl hS ?_))));(first|refine zgn ?_|(refine zgy ?_;refine zR2 (c:=Q2y hf (show St cx _ (rL p c fr g _) from hS.sp) ha) (h:=?_);rintro v7 w7 ⟨rfl,hS⟩)))
 all_goals (refine Ybb ?_)
 all_goals (refine zpt ?_;refine Zad ?_)
 all_goals refine zcf ?_
 all_goals (refine zC [(0,none),(1,none),(2,none),(3,none),(4,none),(5,none),(6,none),(7,none),(8,none),(9,none),(10,none),(11,none),(12,some (some [4,7])),(13,none),(14,none),(15,some none)] ?_;have hS:=hS.drew;refine Zbf ?_;refine ZbI ?_;refine Qs hS hel rfl fd (Q6 fr g) (Q9 fr g) rfl ?_;refine Zac ?_;refine zf0 ?_;refine Zbj ?_;(first|(refine Qs hS hel rfl fd (Q6 fr g) (Q9 fr g) rfl ?_)|(refine zl hS ?_));refine Zax ?_;refine zf0 ?_;refine Zbj ?_;(first|(refine Qs hS hel rfl fd (Q6 fr g) (Q9 fr g) rfl ?_)|(refine zl hS ?_));refine zt ?_)
 all_goals (refine Q3U ?_;refine zR2 (c:=Q5j (by omega) hf k2 hv (show St cx _ (rL p c fr g _) from hS.sp)) (h:=?_);rintro u2 w2 ⟨hvl,ho2,hS⟩;obtain ⟨a2,n2,rfl⟩:=hS.shape (i:=4) rfl;refine zt ?_;refine ⟨List.forall_mem_cons.2 ⟨(by (exact Qp hS hel rfl fd (Q6 fr g) (Q9 fr g) rfl)),List.forall_mem_cons.2 ⟨(by first|(exact Qp hS hel rfl fd (Q6 fr g) (Q9 fr g) rfl)|(exact QK hS rfl fd rfl)),fun _ h=> (List.not_mem_nil h).elim⟩⟩,?_⟩;refine s_cq ?_;refine zb3 [_,_,_,_] ?_;refine Zac ?_;refine znc ?_;refine Zay ?_;refine Q3D (css':=Q35 fr ⟨g.f,e.yes.block.toNat,0, .slice a2 (vs.map Qj).length n2,vs⟩) hS hel rfl vw (by rfl) fd (Q6 fr g) (Q9 fr g) rfl (by simp [oneC,ho2]) (by rw [show Value.int .i64 e.yes.block= .int .i64 ((e.yes.block.toNat:Nat):Int) by rw [Int.toNat_of_nonneg hb0]];exact Q6e (g':=⟨g.f,e.yes.block.toNat,0, .slice a2 (vs.map Qj).length n2,vs⟩)) ?_;intro w8 hS;have hS:=hS.ns;refine Zav ?_)
 all_goals (refine Q19 ?_;exact ⟨_,rfl,_,rfl,hS.sp⟩)
theorem rend_j {e:Tail}{cs:List Value}{vs:List Int}(hx:endR.at cx cs e) (h2:e.op≠2) (h3:e.op≠3) (h8:e.yes.args.length≤100) (hb0:0≤e.yes.block) (hv:g.abs.args e.yes.args=some vs) (hf:fr.length≤1000) (hS:St cx w (rS p c fr g s out L)):
 Rets Tryz.prog Q1K [.pointer (some ⟨p,0,none⟩), .agg ⟨cs⟩] w fun u w'=>∃vv,u= .tuple #[]∧St cx w' (rS p c fr ⟨g.f,e.yes.block.toNat,0,vv,vs⟩ s out L):=by
 obtain ⟨v1,v2,v3,v4,v5,rfl,k1,k2,k3,k4,k5⟩:=Q22 hx
 all_goals refine lgo tyD Tryz.func84 ?_
 all_goals (refine Zaq ?_;intro p3 w1 hS;refine ZaH ?_;refine zR1 (c:=Q54 hf (show St cx _ (rL p c fr g _) from hS.sp)) (h:=?_);rintro v9 w1 ⟨b9,o9,rfl,hel,hS⟩;refine ZaB ?_;refine Zaa ?_;refine zf0 ?_;(first|(refine Qs hS hel rfl fd (Q6 fr g) (Q9 fr g) rfl ?_)|(refine zl hS ?_)))
 all_goals (refine Yao ?_)
 all_goals (refine zm ?_;refine zgn ?_;refine zgn ?_;refine zgn ?_;refine zgn ?_;refine zgn ?_)
 all_goals (refine zgn ?_)
 all_goals (refine Yae ?_;refine Zad ?_)
 all_goals refine zcf ?_
 all_goals (refine Zaa ?_;refine zf0 ?_;(first|(refine Qs hS hel rfl fd (Q6 fr g) (Q9 fr g) rfl ?_)|(refine zl hS ?_)))
 all_goals (refine Yao ?_)
 all_goals (refine Zad ?_)
 all_goals refine zcf ?_
 all_goals (refine Zaa ?_;refine zf0 ?_;(first|(refine Qs hS hel rfl fd (Q6 fr g) (Q9 fr g) rfl ?_)|(refine zl hS ?_)))
 all_goals (refine Yao ?_)
 all_goals (refine zm ?_;refine zgn ?_;refine zgn ?_;refine zgn ?_;refine zgn ?_)
 all_goals (refine zgn ?_)
 all_goals (refine Yae ?_;refine Zad ?_)
 all_goals refine zcf ?_
 all_goals (refine zC [(0,none),(1,none),(2,none),(3,none),(4,none),(5,none),(6,none),(7,none),(8,none),(9,none),(10,none),(11,none),(12,some (some [4,7])),(13,none),(14,none),(15,some none)] ?_;have hS:=hS.drew;refine Zbf ?_;refine ZbI ?_;refine Qs hS hel rfl fd (Q6 fr g) (Q9 fr g) rfl ?_;refine Zac ?_;refine zf0 ?_;refine Zbj ?_;(first|(refine Qs hS hel rfl fd (Q6 fr g) (Q9 fr g) rfl ?_)|(refine zl hS ?_));refine Zax ?_;refine zf0 ?_;refine Zbj ?_;(first|(refine Qs hS hel rfl fd (Q6 fr g) (Q9 fr g) rfl ?_)|(refine zl hS ?_));refine zt ?_)
 all_goals (refine Q3U ?_;refine zR2 (c:=Q5j (by omega) hf k2 hv (show St cx _ (rL p c fr g _) from hS.sp)) (h:=?_);rintro u2 w2 ⟨hvl,ho2,hS⟩;obtain ⟨a2,n2,rfl⟩:=hS.shape (i:=4) rfl;refine zt ?_;refine ⟨List.forall_mem_cons.2 ⟨(by (exact Qp hS hel rfl fd (Q6 fr g) (Q9 fr g) rfl)),List.forall_mem_cons.2 ⟨(by first|(exact Qp hS hel rfl fd (Q6 fr g) (Q9 fr g) rfl)|(exact QK hS rfl fd rfl)),fun _ h=> (List.not_mem_nil h).elim⟩⟩,?_⟩;refine s_cq ?_;refine zb3 [_,_,_,_] ?_;refine Zac ?_;refine znc ?_;refine Zay ?_;refine Q3D (css':=Q35 fr ⟨g.f,e.yes.block.toNat,0, .slice a2 (vs.map Qj).length n2,vs⟩) hS hel rfl vw (by rfl) fd (Q6 fr g) (Q9 fr g) rfl (by simp [oneC,ho2]) (by rw [show Value.int .i64 e.yes.block= .int .i64 ((e.yes.block.toNat:Nat):Int) by rw [Int.toNat_of_nonneg hb0]];exact Q6e (g':=⟨g.f,e.yes.block.toNat,0, .slice a2 (vs.map Qj).length n2,vs⟩)) ?_;intro w8 hS;have hS:=hS.ns;refine Zav ?_)
 all_goals (refine Q19 ?_;exact ⟨_,rfl,_,rfl,hS.sp⟩)
end Go.Proofs.YteflkifmgnpbhaaGreat
namespace Go.Proofs.YteflkifmgnpbhaaGreat
open Go.Lir
set_option maxHeartbeats 1000000
attribute [local irreducible] LC.wp Q0 Qh Qc retQ Qw LO.wp Q3 Calls
set_option linter.unusedSimpArgs false
set_option linter.unusedVariables false
theorem QeC (b:Bool) (w:World):Rets Tryz.prog Qco [.bool b] w fun v w'=> v= .int .i64 (if b then 1 else 0)∧w'=w:=by
 cases b
 all_goals
  all_goals refine lgo tyD Tryz.func195 ?_
  all_goals (refine Zaf ?_;refine Qv ?_;refine Zaf ?_)
  all_goals
   first
   | (refine zct ?_
      all_goals (refine Zao ?_)
      all_goals (exact ⟨_,rfl,rfl,rfl⟩))
   | (refine zcf ?_
      all_goals (refine zsk ?_))
  all_goals (refine Zao ?_;exact ⟨_,rfl,rfl,rfl⟩)
theorem Qdg (a b:Int) (w:World):Rets Tryz.prog Qbf [.int .i64 a, .int .i64 b] w fun v w'=> v= .tuple #[.int .i64 (divF a b).1, .bool (divF a b).2]∧w'=w:=by
 all_goals refine lgo tyD Tryz.func194 ?_
 all_goals (refine Zab ?_;refine Zaz ?_;refine ZaW ?_;refine Zaa ?_)
 all_goals (first|(refine Qi ?_)|(refine Qm ?_)|(refine Q5 rfl rfl (fun hc=> ?_) (fun hc=> ?_)))
 all_goals (refine Zad ?_)
 all_goals
  first
  | (refine zct ?_
     all_goals (refine Zbx ?_)
     all_goals (exact ⟨_,rfl,by simp [divF, *],rfl⟩))
  | (refine zcf ?_
     all_goals (refine Zaa ?_)
     all_goals (first|(refine Qi ?_)|(refine Qm ?_)|(refine Q5 rfl rfl (fun hc=> ?_) (fun hc=> ?_)))
     all_goals (refine Zad ?_)
     all_goals
      first
      | (refine zct ?_
         all_goals (refine Zab ?_;refine s_neg rfl ?_;refine Zbi ?_)
         all_goals (exact ⟨_,rfl,by simp [divF, *],rfl⟩))
      | (refine zcf ?_
         all_goals (refine zsk ?_)))
 all_goals (refine Zas ?_;refine s_quo rfl rfl (by omega) ?_;refine Zbi ?_;exact ⟨_,rfl,by simp [divF, *],rfl⟩)
set_option maxHeartbeats 1000000 in
theorem op_c (k a b : Int) (w :World):Rets Tryz.prog Qdk [.int .i64 k, .int .i64 a, .int .i64 b] w fun v w'=> v= .tuple #[.int .i64 (opF k a b).1, .bool (opF k a b).2]∧w'=w:=by
 cases hd:(divF a b).2
 all_goals
  all_goals refine lgo tyD Tryz.func134 ?_
  all_goals (refine Zab ?_;refine Zaz ?_;refine ZaW ?_;refine Zaa ?_)
  all_goals (first|(refine Qi ?_)|(refine Qm ?_)|(refine Q5 rfl rfl (fun hc=> ?_) (fun hc=> ?_)))
  all_goals (refine Zad ?_)
  all_goals
   first
   | (refine zct ?_
      all_goals (refine Zas ?_;refine Qau rfl rfl ?_;refine Zbi ?_)
      all_goals (exact ⟨_,rfl,by simp [opF, *],rfl⟩))
   | (refine zcf ?_
      all_goals (refine Zaa ?_)
      all_goals (first|(refine Qi ?_)|(refine Qm ?_)|(refine Q5 rfl rfl (fun hc=> ?_) (fun hc=> ?_)))
      all_goals (refine Zad ?_)
      all_goals
       first
       | (refine zct ?_
          all_goals (refine Zas ?_;refine Ybe ?_;refine Zbi ?_)
          all_goals (exact ⟨_,rfl,by simp [opF, *],rfl⟩))
       | (refine zcf ?_
          all_goals (refine Zaa ?_)
          all_goals (first|(refine Qi ?_)|(refine Qm ?_)|(refine Q5 rfl rfl (fun hc=> ?_) (fun hc=> ?_)))
          all_goals (refine Zad ?_)
          all_goals
           first
           | (refine zct ?_
              all_goals (refine Zas ?_;refine Yaz ?_;refine Zbi ?_)
              all_goals (exact ⟨_,rfl,by simp [opF, *],rfl⟩))
           | (refine zcf ?_
              all_goals (refine Zaa ?_)
              all_goals (first|(refine Qi ?_)|(refine Qm ?_)|(refine Q5 rfl rfl (fun hc=> ?_) (fun hc=> ?_)))
              all_goals (refine Zad ?_)
              all_goals
               first
               | (refine zct ?_
                  all_goals (refine Zas ?_;refine Q4b rfl (Qdg _ _ _) ?_;rw [hd];rintro _ _ ⟨rfl,rfl⟩;refine ZaG ?_;refine Zbi ?_)
                  all_goals (exact ⟨_,rfl,by simp [opF, *],rfl⟩))
               | (refine zcf ?_
                  all_goals (refine Zaa ?_)
                  all_goals (first|(refine Qi ?_)|(refine Qm ?_)|(refine Q5 rfl rfl (fun hc=> ?_) (fun hc=> ?_)))
                  all_goals (refine Zad ?_)
                  all_goals
                   first
                   | (refine zct ?_
                      all_goals (refine Zas ?_;refine Q4b rfl (Qdg _ _ _) ?_;rw [hd];rintro _ _ ⟨rfl,rfl⟩;refine ZbF ?_)
                      all_goals
                       first
                       | (refine zct ?_
                          all_goals (refine Zbx ?_)
                          all_goals (exact ⟨_,rfl,by simp [opF, *],rfl⟩))
                       | (refine zcf ?_
                          all_goals (refine zsk ?_))
                      all_goals (refine Zas ?_;refine zm ?_;refine Yaz ?_;refine Ybe ?_;refine Zbi ?_)
                      all_goals (exact ⟨_,rfl,by simp [opF, *],rfl⟩))
                   | (refine zcf ?_
                      all_goals (refine Zaa ?_)
                      all_goals (first|(refine Qi ?_)|(refine Qm ?_)|(refine Q5 rfl rfl (fun hc=> ?_) (fun hc=> ?_)))
                      all_goals (refine Zad ?_)
                      all_goals
                       first
                       | (refine zct ?_
                          all_goals (refine Zas ?_)
                          all_goals (first|(refine Q1k ?_)|(refine Q1w ?_)|(refine QA rfl rfl (fun hc=> ?_) (fun hc=> ?_)))
                          all_goals (refine Q4b rfl (QeC _ _) ?_;rintro _ _ ⟨rfl,rfl⟩;refine Zbi ?_)
                          all_goals (exact ⟨_,rfl,by simp [opF, *],rfl⟩))
                       | (refine zcf ?_
                          all_goals (refine Zaa ?_)
                          all_goals (first|(refine Qi ?_)|(refine Qm ?_)|(refine Q5 rfl rfl (fun hc=> ?_) (fun hc=> ?_)))
                          all_goals (refine Zad ?_)
                          all_goals
                           first
                           | (refine zct ?_
                              all_goals (refine Zas ?_)
                              all_goals (first|(refine Qi ?_)|(refine Qm ?_)|(refine Q5 rfl rfl (fun hc=> ?_) (fun hc=> ?_)))
                              all_goals (refine Q4b rfl (QeC _ _) ?_;rintro _ _ ⟨rfl,rfl⟩;refine Zbi ?_)
                              all_goals (exact ⟨_,rfl,by simp [opF, *],rfl⟩))
                           | (refine zcf ?_
                              all_goals (refine Zaa ?_)
                              all_goals (first|(refine Qi ?_)|(refine Qm ?_)|(refine Q5 rfl rfl (fun hc=> ?_) (fun hc=> ?_)))
                              all_goals (refine Zad ?_)
                              all_goals
                               first
                               | (refine zct ?_
                                  all_goals (refine Zas ?_;refine s_and rfl rfl ?_;refine Zbi ?_)
                                  all_goals (exact ⟨_,rfl,by simp [opF, *],rfl⟩))
                               | (refine zcf ?_
                                  all_goals (refine Zaa ?_)
                                  all_goals (first|(refine Qi ?_)|(refine Qm ?_)|(refine Q5 rfl rfl (fun hc=> ?_) (fun hc=> ?_)))
                                  all_goals (refine Zad ?_)
                                  all_goals
                                   first
                                   | (refine zct ?_
                                      all_goals (refine Zas ?_;refine s_xor rfl rfl ?_;refine Zbi ?_)
                                      all_goals (exact ⟨_,rfl,by simp [opF, *],rfl⟩))
                                   | (refine zcf ?_
                                      all_goals (refine zsk ?_))))))))))
  all_goals (refine Zbx ?_;exact ⟨_,rfl,by simp [opF, *],rfl⟩)
theorem op_s {cx:Cx}{w:World}{L:List Res}{k a b:Int}(hS:St cx w L):Rets Tryz.prog Qdk [.int .i64 k, .int .i64 a, .int .i64 b] w fun v w'=> v= .tuple #[.int .i64 (opF k a b).1, .bool (opF k a b).2]∧St cx w' L:=
 (op_c k a b w).mono fun _ _ ⟨h1,h2⟩=> ⟨h1,by rw [h2];exact hS⟩
end Go.Proofs.YteflkifmgnpbhaaGreat
