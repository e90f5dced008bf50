/- Lemmas of the proof, part 6: what the functions of the program do (contracts), and what follows. -/
import Derived.Test.YteflkifmgnpbhaaGreatZ2
import Derived.Test.YteflkifmgnpbhaaGreatZ5
import Derived.Test.YteflkifmgnpbhaaGreatZ3
import Derived.Lib.Strings
import Derived.Test.YteflkifmgnpbhaaGreatProg
import Derived.Test.YteflkifmgnpbhaaGreatZ1
import Derived.Test.YteflkifmgnpbhaaGreatZ4
namespace Go.Lir
def Q3l (m:Module) (inp:List Int) (fuel pages:Int):Flt:=if m.fault.1≠0 then m.fault else if 200 < inp.length∨fuel < 0∨20000 < fuel∨pages < 0∨64 < pages then (1, -1) else (0,0)
theorem Q2d {m:Module}{inp:List Int}{fuel pages:Int}(h:m.fault.1≠0):Q3l m inp fuel pages=m.fault:=if_pos h
theorem Q2F {m:Module}{inp:List Int}{fuel pages:Int}(h:¬m.fault.1≠0) (hr:200 < inp.length∨fuel < 0∨20000 < fuel∨pages < 0∨64 < pages):Q3l m inp fuel pages=(1, -1):=(if_neg h).trans (if_pos hr)
theorem Q5K {m:Module}{inp:List Int}{fuel pages:Int}(h:¬m.fault.1≠0) (hr:¬(200 < inp.length∨fuel < 0∨20000 < fuel∨pages < 0∨64 < pages)):Q3l m inp fuel pages=(0,0):=(if_neg h).trans (if_neg hr)
end Go.Lir
namespace Go.Proofs.YteflkifmgnpbhaaGreat
open Go.Lir
set_option maxHeartbeats 1000000
attribute [local irreducible] LC.wp Q0 Qk Qh retQ Qt LO.wp Q4 Calls
set_option linter.unusedSimpArgs false
set_option linter.unusedVariables false
variable {cx:Cx}{w:World}{L:List Res}{m:Module}{inp:List Int}
@[reducible] def newC (hp fn lv iv:Value) (fuel:Int):MC:=⟨hp,fn,lv,iv,0, .slice none 0 0, .slice none 0 0,0,fuel,false,0,0⟩
@[reducible] def newG:FrmV:=⟨0,0,0, .slice none 0 0,[], .slice none 0 0,[]⟩
def NewS (m:Module) (inp:List Int) (fuel pages:Int) (cx:Cx) (L:List Res) (u:Value) (w':World):Prop:=
 ((Q3l m inp fuel pages).1≠0∧u= .tuple #[.pointer none,fltV (Q3l m inp fuel pages)]∧St cx w' L)∨
 (Q3l m inp fuel pages=(0,0)∧m.fault.1=0∧inp.length≤200∧0≤fuel∧fuel≤20000∧0≤pages∧pages≤64∧∃c' p hp fn lv iv,u= .tuple #[.pointer (some ⟨p,0,none⟩),fltV (0,0)]∧cx.Le c'∧funcR.sl c' fn m.funcs∧intR.sl c' iv inp∧St c' w' (mS p (newC hp fn lv iv fuel) [] newG 0 ⟨[],pages⟩ [] L))
theorem new_c {cs:List Value}{v:Value}{fuel pages:Int}(hsh:m.Short) (hx:modR.at cx cs m) (hi:intR.sl cx v inp) (hS:St cx w L):
 Rets Tryz.prog Qg3 [.agg ⟨cs⟩,v, .int .i64 fuel, .int .i64 pages] w (NewS m inp fuel pages cx L):=by
 have hle:=St.refl hS
 have hx':=hx
 obtain ⟨vf,rfl,hf⟩:=Q1e hx
 have hil:=hi.len
 unfold NewS
 all_goals refine lgo tyD Tryz.func20 ?_
 all_goals (refine Zat ?_;intro p4 w1 hS;refine zm ?_;refine Qg hS ?_;intro p9 w1 hS;refine Zbu ?_;refine zv hS ?_;refine zR1 (c:=Qa3 hsh hx' hS) (h:=?_);rintro v1 w1 ⟨rfl,hS⟩;unfold fltV;refine Qg hS ?_;intro p10 w1 hS;refine zsn hS ?_;intro w1 hS;have hS:=hS.ns;refine ZaD ?_;refine zf0 ?_;refine zl hS ?_)
 all_goals (first|(refine Q1D ?_)|(refine Q1M ?_)|(refine QI rfl rfl (fun hc=> ?_) (fun hc=> ?_)))
 all_goals (refine zn ?_)
 all_goals
  first
  | (refine zct ?_
     all_goals (refine QB ?_;refine zD (ci 3 [2]) ?_;have hS:=hS.drew;refine zv hS ?_;refine zm ?_;refine zsn hS ?_;intro w1 hS;have hS:=hS.ns;refine ZaS ?_;refine Q1G vw vw (Q9 (n:=2) (by kernel_rfl) (by kernel_rfl) (hS.blkAt fd) (by rfl) (by rfl)) ?_)
     all_goals (exact ⟨_,rfl, .inl ⟨by rw [Q2d (by omega)];omega,by rw [Q2d (by omega)];rfl,hS.sp⟩⟩))
  | (refine zcf ?_
     all_goals refine zsk ?_)
 all_goals (refine Zak ?_;refine zL ?_)
 all_goals (first|(refine Q17 ?_)|(refine Q1a ?_)|(refine Qs rfl rfl (fun hc=> ?_) (fun hc=> ?_)))
 all_goals (refine Zam ?_)
 all_goals (first|refine zgn ?_|(refine zgy ?_;(first|(refine Q15 ?_)|(refine Q1c ?_)|(refine Qu rfl rfl (fun hc=> ?_) (fun hc=> ?_)))))
 all_goals (refine Zbr ?_)
 all_goals (first|refine zgn ?_|(refine zgy ?_;(first|(refine Q17 ?_)|(refine Q1a ?_)|(refine Qs rfl rfl (fun hc=> ?_) (fun hc=> ?_)))))
 all_goals (refine Zbr ?_)
 all_goals (first|refine zgn ?_|(refine zgy ?_;(first|(refine Q15 ?_)|(refine Q1c ?_)|(refine Qu rfl rfl (fun hc=> ?_) (fun hc=> ?_)))))
 all_goals (refine Zbr ?_)
 all_goals (first|refine zgn ?_|(refine zgy ?_;(first|(refine Q17 ?_)|(refine Q1a ?_)|(refine Qs rfl rfl (fun hc=> ?_) (fun hc=> ?_)))))
 all_goals (refine ZaO ?_)
 all_goals
  first
  | (refine zct ?_
     all_goals (refine Zaa ?_;refine zb2 [_,_] ?_;refine zm ?_;refine zsn hS ?_;intro w1 hS;have hS:=hS.ns;refine ZaS ?_;refine Q1G vw vw (Q9 (n:=2) (by kernel_rfl) (by kernel_rfl) (hS.blkAt fd) (by rfl) (by rfl)) ?_)
     all_goals ((first|exact ⟨_,rfl, .inl ⟨by rw [Q2d (by omega)];omega,by rw [Q2d (by omega)];rfl,hS.sp⟩⟩|exact ⟨_,rfl, .inl ⟨by rw [Q2F (by omega) (by omega)];decide,by rw [Q2F (by omega) (by omega)];rfl,hS.sp⟩⟩)))
  | (refine zcf ?_
     all_goals refine zsk ?_)
 all_goals (refine QB ?_)
 refine Q1N 1 5 (by kernel_rfl) ?_ ?_
 · skip
   refine Q1N 3 5 (by kernel_rfl) ?_ ?_
   · skip
     refine Q1N 5 7 (by kernel_rfl) ?_ ?_
     · skip
       all_goals (refine zC [(0,none),(2,none),(4,none),(6,none),(8,none),(11,none),(1,some (some [2])),(3,some (some [])),(5,some (some [])),(7,some (some [])),(9,none),(10,some (some [])),(12,none),(13,some none)] ?_;have hS:=hS.drew;refine Zax ?_;refine zv hS ?_;refine Zab ?_;refine zb0 [_,_,_,_,_] ?_;refine Zaq ?_;refine Zag ?_;refine zb0 [_,_] ?_;refine Zaj ?_;refine zR1 (c:=Qdy pages (by omega) hS) (h:=?_);rintro v1 w1 ⟨bh,rfl,hS⟩;refine Zay ?_;refine zR1 (c:=Q3D hsh hx' hS) (h:=?_);rintro v1 w1 ⟨c1,ds,rfl,hle1,hx1,hS⟩;obtain ⟨vf1,rfl,hf1⟩:=Q1e hx1;have hi:=Rep.SR.up hi hle1;obtain ⟨af,nf,rfl⟩:=Rep.SR.shape hf1;refine Zay ?_;refine zB1 hS [_,_,_,_,_] ?_;intro b1 w1 hS;have hS:=St.slOf (T:=110) (es:=5) (css:=[[.int .i64 0, .int .i64 0, .int .i64 0, .slice none 0 0, .slice none 0 0]]) hS rfl (by simp) rfl;refine Zay ?_;refine zR1 (c:=Q4L (by omega) hi hS) (h:=?_);rintro vi w1 ⟨c2,hle2,hi2,hS⟩;have hf1:=Rep.SR.up hf1 hle2;obtain ⟨ai,ni,rfl⟩:=Rep.SR.shape hi2;refine ZaH ?_;refine zb5 [_,_,_,_,_,_,_,_,_,_,_,_] ?_)
       all_goals (refine Zaj ?_;refine zb hS ?_;intro p47 w1 hS;refine ZaH ?_;refine zm ?_;refine Zau ?_;refine zsn hS ?_;intro w1 hS;have hS:=hS.ns;refine Zao ?_;refine zr ?_;refine Q1G vw vw (Q9 (n:=2) (by kernel_rfl) (by kernel_rfl) (hS.blkAt fd) (by rfl) (by rfl)) ?_;(first|exact ⟨_,rfl, .inl ⟨by rw [Q2d (by omega)];omega,by rw [Q2d (by omega)];rfl,hS.sp⟩⟩|exact ⟨_,rfl, .inl ⟨by rw [Q2F (by omega) (by omega)];decide,by rw [Q2F (by omega) (by omega)];rfl,hS.sp⟩⟩|(have hS:=St.big_nil FrmV.res (St.nil (T:=224) (es:=4) (St.nil (T:=3) (es:=1) (St.nil (T:=2) (es:=1) hS)));exact ⟨_,rfl, .inr ⟨Q5K (by omega) (by omega),by omega,by omega,by omega,by omega,by omega,by omega,c2,_,_,_,_,_,rfl,hle1.trans hle2,hf1,hi2,hS.sp⟩⟩)))
     · skip
       all_goals (refine zC [(0,none),(2,none),(4,none),(6,none),(8,none),(11,none),(1,some (some [2])),(3,some (some [])),(7,some (some [])),(5,some (some [])),(9,none),(10,some (some [])),(12,none),(13,some none)] ?_;have hS:=hS.drew;refine Zax ?_;refine zv hS ?_;refine Zab ?_;refine zb0 [_,_,_,_,_] ?_;refine Zaq ?_;refine Zag ?_;refine zb0 [_,_] ?_;refine Zaj ?_;refine zR1 (c:=Qdy pages (by omega) hS) (h:=?_);rintro v1 w1 ⟨bh,rfl,hS⟩;refine Zay ?_;refine zR1 (c:=Q3D hsh hx' hS) (h:=?_);rintro v1 w1 ⟨c1,ds,rfl,hle1,hx1,hS⟩;obtain ⟨vf1,rfl,hf1⟩:=Q1e hx1;have hi:=Rep.SR.up hi hle1;obtain ⟨af,nf,rfl⟩:=Rep.SR.shape hf1;refine Zay ?_;refine zR1 (c:=Q4L (by omega) hi hS) (h:=?_);rintro vi w1 ⟨c2,hle2,hi2,hS⟩;have hf1:=Rep.SR.up hf1 hle2;obtain ⟨ai,ni,rfl⟩:=Rep.SR.shape hi2;refine Zay ?_;refine zB1 hS [_,_,_,_,_] ?_;intro b1 w1 hS;have hS:=St.slOf (T:=110) (es:=5) (css:=[[.int .i64 0, .int .i64 0, .int .i64 0, .slice none 0 0, .slice none 0 0]]) hS rfl (by simp) rfl;refine ZaH ?_;refine zb5 [_,_,_,_,_,_,_,_,_,_,_,_] ?_)
       all_goals (refine Zaj ?_;refine zb hS ?_;intro p47 w1 hS;refine ZaH ?_;refine zm ?_;refine Zau ?_;refine zsn hS ?_;intro w1 hS;have hS:=hS.ns;refine Zao ?_;refine zr ?_;refine Q1G vw vw (Q9 (n:=2) (by kernel_rfl) (by kernel_rfl) (hS.blkAt fd) (by rfl) (by rfl)) ?_;(first|exact ⟨_,rfl, .inl ⟨by rw [Q2d (by omega)];omega,by rw [Q2d (by omega)];rfl,hS.sp⟩⟩|exact ⟨_,rfl, .inl ⟨by rw [Q2F (by omega) (by omega)];decide,by rw [Q2F (by omega) (by omega)];rfl,hS.sp⟩⟩|(have hS:=St.big_nil FrmV.res (St.nil (T:=224) (es:=4) (St.nil (T:=3) (es:=1) (St.nil (T:=2) (es:=1) hS)));exact ⟨_,rfl, .inr ⟨Q5K (by omega) (by omega),by omega,by omega,by omega,by omega,by omega,by omega,c2,_,_,_,_,_,rfl,hle1.trans hle2,hf1,hi2,hS.sp⟩⟩)))
   · skip
     all_goals (refine zC [(0,none),(2,none),(4,none),(6,none),(8,none),(11,none),(1,some (some [2])),(5,some (some [2])),(3,some (some [])),(7,some (some [])),(9,none),(10,some (some [])),(12,none),(13,some none)] ?_;have hS:=hS.drew;refine Zax ?_;refine zv hS ?_;refine Zab ?_;refine zb0 [_,_,_,_,_] ?_;refine Zaq ?_;refine Zag ?_;refine zb0 [_,_] ?_;refine Zaj ?_;refine zR1 (c:=Qdy pages (by omega) hS) (h:=?_);rintro v1 w1 ⟨bh,rfl,hS⟩;refine Zay ?_;refine zB1 hS [_,_,_,_,_] ?_;intro b1 w1 hS;have hS:=St.slOf (T:=110) (es:=5) (css:=[[.int .i64 0, .int .i64 0, .int .i64 0, .slice none 0 0, .slice none 0 0]]) hS rfl (by simp) rfl;refine Zay ?_;refine zR1 (c:=Q3D hsh hx' hS) (h:=?_);rintro v1 w1 ⟨c1,ds,rfl,hle1,hx1,hS⟩;obtain ⟨vf1,rfl,hf1⟩:=Q1e hx1;have hi:=Rep.SR.up hi hle1;obtain ⟨af,nf,rfl⟩:=Rep.SR.shape hf1;refine Zay ?_;refine zR1 (c:=Q4L (by omega) hi hS) (h:=?_);rintro vi w1 ⟨c2,hle2,hi2,hS⟩;have hf1:=Rep.SR.up hf1 hle2;obtain ⟨ai,ni,rfl⟩:=Rep.SR.shape hi2;refine ZaH ?_;refine zb5 [_,_,_,_,_,_,_,_,_,_,_,_] ?_)
     all_goals (refine Zaj ?_;refine zb hS ?_;intro p47 w1 hS;refine ZaH ?_;refine zm ?_;refine Zau ?_;refine zsn hS ?_;intro w1 hS;have hS:=hS.ns;refine Zao ?_;refine zr ?_;refine Q1G vw vw (Q9 (n:=2) (by kernel_rfl) (by kernel_rfl) (hS.blkAt fd) (by rfl) (by rfl)) ?_;(first|exact ⟨_,rfl, .inl ⟨by rw [Q2d (by omega)];omega,by rw [Q2d (by omega)];rfl,hS.sp⟩⟩|exact ⟨_,rfl, .inl ⟨by rw [Q2F (by omega) (by omega)];decide,by rw [Q2F (by omega) (by omega)];rfl,hS.sp⟩⟩|(have hS:=St.big_nil FrmV.res (St.nil (T:=224) (es:=4) (St.nil (T:=3) (es:=1) (St.nil (T:=2) (es:=1) hS)));exact ⟨_,rfl, .inr ⟨Q5K (by omega) (by omega),by omega,by omega,by omega,by omega,by omega,by omega,c2,_,_,_,_,_,rfl,hle1.trans hle2,hf1,hi2,hS.sp⟩⟩)))
 · skip
   all_goals (refine zC [(0,none),(2,none),(4,none),(6,none),(8,none),(11,none),(5,some (some [2])),(1,some (some [2])),(3,some (some [])),(7,some (some [])),(9,none),(10,some (some [])),(12,none),(13,some none)] ?_;have hS:=hS.drew;refine Zax ?_;refine zv hS ?_;refine Zab ?_;refine zb0 [_,_,_,_,_] ?_;refine Zaq ?_;refine Zag ?_;refine zb0 [_,_] ?_;refine Zaj ?_;refine zB1 hS [_,_,_,_,_] ?_;intro b1 w1 hS;have hS:=St.slOf (T:=110) (es:=5) (css:=[[.int .i64 0, .int .i64 0, .int .i64 0, .slice none 0 0, .slice none 0 0]]) hS rfl (by simp) rfl;refine Zay ?_;refine zR1 (c:=Qdy pages (by omega) hS) (h:=?_);rintro v1 w1 ⟨bh,rfl,hS⟩;refine Zay ?_;refine zR1 (c:=Q3D hsh hx' hS) (h:=?_);rintro v1 w1 ⟨c1,ds,rfl,hle1,hx1,hS⟩;obtain ⟨vf1,rfl,hf1⟩:=Q1e hx1;have hi:=Rep.SR.up hi hle1;obtain ⟨af,nf,rfl⟩:=Rep.SR.shape hf1;refine Zay ?_;refine zR1 (c:=Q4L (by omega) hi hS) (h:=?_);rintro vi w1 ⟨c2,hle2,hi2,hS⟩;have hf1:=Rep.SR.up hf1 hle2;obtain ⟨ai,ni,rfl⟩:=Rep.SR.shape hi2;refine ZaH ?_;refine zb5 [_,_,_,_,_,_,_,_,_,_,_,_] ?_)
   all_goals (refine Zaj ?_;refine zb hS ?_;intro p47 w1 hS;refine ZaH ?_;refine zm ?_;refine Zau ?_;refine zsn hS ?_;intro w1 hS;have hS:=hS.ns;refine Zao ?_;refine zr ?_;refine Q1G vw vw (Q9 (n:=2) (by kernel_rfl) (by kernel_rfl) (hS.blkAt fd) (by rfl) (by rfl)) ?_;(first|exact ⟨_,rfl, .inl ⟨by rw [Q2d (by omega)];omega,by rw [Q2d (by omega)];rfl,hS.sp⟩⟩|exact ⟨_,rfl, .inl ⟨by rw [Q2F (by omega) (by omega)];decide,by rw [Q2F (by omega) (by omega)];rfl,hS.sp⟩⟩|(have hS:=St.big_nil FrmV.res (St.nil (T:=224) (es:=4) (St.nil (T:=3) (es:=1) (St.nil (T:=2) (es:=1) hS)));exact ⟨_,rfl, .inr ⟨Q5K (by omega) (by omega),by omega,by omega,by omega,by omega,by omega,by omega,c2,_,_,_,_,_,rfl,hle1.trans hle2,hf1,hi2,hS.sp⟩⟩)))
end Go.Proofs.YteflkifmgnpbhaaGreat
namespace Go.Lir
set_option linter.unusedVariables false
def zigI (n:Int):Int:=bitI .xor .u64 (IntKind.u64.wrap (IntKind.u64.wrap n*2 ^ (min (1:Int).toNat IntKind.u64.bits))) (IntKind.u64.wrap (n.fdiv (2 ^ (min (63:Int).toNat IntKind.i64.bits))))
def zig (n:Int):Nat:=(zigI n).toNat
def leb:Nat→Nat→List UInt8
 | 0,_=> []
 | k+1,u=> if u < 128 then [UInt8.ofNat u] else UInt8.ofNat (u % 128+128)::leb k (u / 128)
theorem QfL:∀(k u:Nat),(leb k u).length≤k
 | 0,_=> by simp [leb]
 | k +1,u=> by
   rw [leb]
   split
   · simp
   · have:=QfL k (u / 128)
     simp only [List.length_cons];omega
def Q4h (n:Int):List UInt8:=leb 10 (zig n)
def Qdr (l:List Int):List UInt8:=l.flatMap Q4h
theorem QU (n:Int):(Q4h n).length≤10:=QfL 10 _
theorem Q9p:∀(l:List Int),(Qdr l).length≤10*l.length
 | []=> by simp [Qdr]
 | n::l=> by
   have h1:=QU n
   have h2:=Q9p l
   simp only [Qdr,List.flatMap_cons,List.length_append,List.length_cons] at h2 ⊢
   omega
def QcB (l:List Int):List UInt8:=Q4h l.length++Qdr l
mutual
def Ty.bts:Ty→List UInt8
 | .mk k r l=> Q4h k++(if k≠1 then Q4h r else [])++(if k=3 then Q4h l.length++Tys.bts l else [])
def Tys.bts:List Ty→List UInt8
 | []=> []
 | x::l=> x.bts++Tys.bts l
end
def tysB (l:List Ty):List UInt8:=Q4h l.length++Tys.bts l
def To.bts (t:To):List UInt8:=Q4h t.block++QcB t.regs++QcB t.args
def Tail.bts (e:Tail):List UInt8:=Q4h e.op++(if e.op=1 then e.yes.bts else if e.op=2 then Q4h e.a++e.yes.bts++e.no.bts else if e.op=3 then QcB e.args else [])
def Q2Q (op:Int):Nat:=if op < 0∨14 < op then 0 else [0,64,11,0,1,33,9,11,3,3,7,1,0,1,56].getD op.toNat 0
def regsB (h:Nat):Nat→List Int→List UInt8
 | _,[]=> []
 | k,n::l=> (if h / 2 ^ k % 2=1 then Q4h n else [])++regsB h (k+1) l
def Ins.bts (x:Ins):List UInt8:=Q4h x.op++regsB (Q2Q x.op) 0 [x.a,x.b,x.c,x.k]++(if Q2Q x.op / 64 % 2=1 then Q4h x.n else [])++(if Q2Q x.op / 16 % 2=1 then QcB x.regs else [])++(if Q2Q x.op / 32 % 2=1 then QcB x.args else [])
end Go.Lir
namespace Go.Lir
set_option linter.unusedVariables false
mutual
def Ty.nodes:Ty→Nat
 | .mk _ _ l=> 1+Tys.nodes l
def Tys.nodes:List Ty→Nat
 | []=> 0
 | x::l=> x.nodes+Tys.nodes l
end
mutual
theorem Ty.size_nodes:∀(t:Ty){n:Int},0≤t.size n→t.size n=n - t.nodes
 | .mk k r l,n,h=> by
   rw [Ty.size] at h ⊢
   rw [Tys.size_nodes l h,Ty.nodes]
   omega
theorem Tys.size_nodes:∀(l:List Ty){n:Int},0≤Tys.size l n→Tys.size l n=n - Tys.nodes l
 | [],n,h=> by rw [Tys.size,Tys.nodes];omega
 | x ::l,n,h=> by
   rw [Tys.size] at h ⊢
   by_cases hn:0≤n
   · rw [if_pos hn] at h ⊢
     have hx:0≤x.size n:=by
      rcases Int.lt_or_le (x.size n) 0 with h1|h1
      · rw [Tys.size_neg l h1] at h;omega
      · exact h1
     rw [Tys.size_nodes l h,Ty.size_nodes x hx,Tys.nodes]
     omega
   · rw [if_neg hn] at h;omega
end
theorem Ty.nodes_of_great {t:Ty}(h:t.great=false):t.nodes≤2000:=by
 unfold Ty.great at h
 simp at h
 have:=Ty.size_nodes t h
 omega
end Go.Lir
namespace Go.Lir
set_option linter.unusedVariables false
def crcStep (c:BitVec 32):BitVec 32:=(c >>> 1) ^^^ (3988292384#32 &&& -(c &&& 1#32))
def crcN:Nat→BitVec 32→BitVec 32
 | 0,c=> c
 | k+1,c=> crcN k (crcStep c)
def crcByte (c:BitVec 32) (x:UInt8):BitVec 32:=crcN 8 (c ^^^ BitVec.ofNat 32 x.toNat)
def crcOf (bs:List UInt8):BitVec 32:=4294967295#32 ^^^ bs.foldl crcByte 4294967295#32
section
variable {P:Program}{l:List GO}{Q:QT}{ρ:Env}{w:World}
end
end Go.Lir
namespace Go.Lir
set_option linter.unusedVariables false
def Block.bts (b:Block):List UInt8:=Q4h b.regs++tysB b.params++Q4h b.code.length++b.code.flatMap Ins.bts++b.fin.bts
def Fun.bts (f:Fun):List UInt8:=Q4h f.regs++tysB f.params++tysB f.results++Q4h f.blocks.length++f.blocks.flatMap Block.bts
def Module.body (m:Module):List UInt8:=[67,72,1]++Q4h m.funcs.length++m.funcs.flatMap Fun.bts
def Ins.Few (x:Ins):Prop:=x.regs.length≤300∧x.args.length≤300
def To.Few (x:To):Prop:=x.regs.length≤300∧x.args.length≤300
def Tail.Few (x:Tail):Prop:=x.yes.Few∧x.no.Few∧x.args.length≤300
def Block.Few (b:Block):Prop:=Tys.great b.params=false∧b.code.length≤200∧(∀i∈b.code,i.Few)∧b.fin.Few
def Fun.Few (f:Fun):Prop:=Tys.great f.params=false∧Tys.great f.results=false∧f.blocks.length≤30∧∀b∈f.blocks,b.Few
def Module.Few (m:Module):Prop:=m.funcs.length≤20∧∀f∈m.funcs,f.Few
theorem QdD {α:Type}{f:α→List UInt8}{c:Nat}:∀{l:List α},(∀x∈l,(f x).length≤c)→(l.flatMap f).length≤l.length*c
 | [],_=> by simp
 | x::l,h=> by
   have h1:=h x (List.mem_cons_self ..)
   have h2:=QdD (l:=l) fun y hy=> h y (List.mem_cons_of_mem _ hy)
   rw [List.flatMap_cons,List.length_append,List.length_cons,Nat.succ_mul]
   omega
theorem QbE {α:Type}{f:α→List UInt8}{c n:Nat}{l:List α}(h:∀x∈l,(f x).length≤c) (hn:l.length≤n):(l.flatMap f).length≤n*c:=
 Nat.le_trans (QdD h) (Nat.mul_le_mul_right c hn)
mutual
theorem Ty.bts_len:∀(t:Ty),t.bts.length≤30*t.nodes
 | .mk k r l=> by
   have h1:=Tys.bts_len l
   have h2:=QU k
   have h3:=QU r
   have h4:=QU l.length
   rw [Ty.bts,Ty.nodes]
   simp only [List.length_append]
   split <;> split <;> simp only [List.length_append,List.length_nil] <;> omega
theorem Tys.bts_len:∀(l:List Ty),(Tys.bts l).length≤30*Tys.nodes l
 | []=> by simp [Tys.bts]
 | x::l=> by
   have h1:=Ty.bts_len x
   have h2:=Tys.bts_len l
   rw [Tys.bts,Tys.nodes,List.length_append]
   omega
end
theorem Tys.nodes_few:∀{l:List Ty},(∀x∈l,x.nodes≤2000)→Tys.nodes l≤2000*l.length
 | [],_=> by simp [Tys.nodes]
 | x::l,h=> by
   have h1:=h x (List.mem_cons_self ..)
   have h2:=Tys.nodes_few (l:=l) fun y hy=> h y (List.mem_cons_of_mem _ hy)
   rw [Tys.nodes,List.length_cons]
   omega
theorem Q9G {l:List Ty}(h:Tys.great l=false):(tysB l).length≤12000010:=by
 unfold Tys.great at h
 rw [Bool.or_eq_false_iff] at h
 have hl:l.length≤200:=by have:=of_decide_eq_false h.1;omega
 have h1:=Tys.bts_len l
 have h2:=Tys.nodes_few (l:=l) fun x hx=> Ty.nodes_of_great (by have:=List.any_eq_false.1 h.2 x hx;simpa using this)
 have h3:=QU l.length
 unfold tysB
 rw [List.length_append]
 omega
theorem Q4B {l:List Int}(h:l.length≤300):(QcB l).length≤3010:=by
 have h1:=Q9p l
 have h2:=QU l.length
 unfold QcB
 rw [List.length_append]
 omega
theorem To.bts_few {x:To}(h:x.Few):x.bts.length≤6030:=by
 have h1:=Q4B h.1
 have h2:=Q4B h.2
 have h3:=QU x.block
 unfold To.bts
 simp only [List.length_append]
 omega
theorem Tail.bts_few {x:Tail}(h:x.Few):x.bts.length≤13000:=by
 have h1:=To.bts_few h.1
 have h2:=To.bts_few h.2.1
 have h3:=Q4B h.2.2
 have h4:=QU x.op
 have h5:=QU x.a
 unfold Tail.bts
 rw [List.length_append]
 split
 · omega
 · split
   · simp only [List.length_append];omega
   · split
     · omega
     · simp only [List.length_nil];omega
theorem Ins.bts_few {x:Ins}(h:x.Few):x.bts.length≤6110:=by
 have h1:=Q4B h.1
 have h2:=Q4B h.2
 have h3:=QU x.op
 have h4:=QU x.n
 have ha:=QU x.a
 have hb:=QU x.b
 have hc:=QU x.c
 have hk:=QU x.k
 have h5:(regsB (Q2Q x.op) 0 [x.a,x.b,x.c,x.k]).length≤40:=by
  simp only [regsB,List.length_append,List.length_nil]
  split <;> split <;> split <;> split <;> (try simp only [List.length_nil]) <;> omega
 unfold Ins.bts
 simp only [List.length_append]
 split <;> split <;> split <;> (try simp only [List.length_nil]) <;> omega
theorem Block.bts_few {b:Block}(h:b.Few):b.bts.length≤14000000:=by
 have h1:=Q9G h.1
 have h2:=QbE (f:=Ins.bts) (c:=6110) (fun x hx=> Ins.bts_few (h.2.2.1 x hx)) h.2.1
 have h3:=Tail.bts_few h.2.2.2
 have h4:=QU b.regs
 have h5:=QU b.code.length
 unfold Block.bts
 simp only [List.length_append]
 omega
theorem Fun.bts_few {f:Fun}(h:f.Few):f.bts.length≤450000000:=by
 have h1:=Q9G h.1
 have h2:=Q9G h.2.1
 have h3:=QbE (f:=Block.bts) (c:=14000000) (fun x hx=> Block.bts_few (h.2.2.2 x hx)) h.2.2.1
 have h4:=QU f.regs
 have h5:=QU f.blocks.length
 unfold Fun.bts
 simp only [List.length_append]
 omega
end Go.Lir
namespace Go.Lir
set_option linter.unusedVariables false
abbrev Got (α:Type):=Except Flt (α×List UInt8)
end Go.Lir
namespace Go.Lir
section
variable {P:Program}{l:List GO}{Q:QT}{ρ:Env}{w:World}
theorem Qch {a b T T':Nat}{R:Ending→World→Prop}{p o p' o':Nat}{v v':Value}(ha:ρ a= .pointer (some ⟨p,o,none⟩)) (hv:QaK P w ⟨p,o,none⟩ T v) (ha':ρ b= .pointer (some ⟨p',o',none⟩)) (hv':QaK P w ⟨p',o',none⟩ T' v') (h:R (.returned (.tuple #[v,v'])) w):retQ P [.cell a T, .cell b T'] R .ret ρ w:=
 ⟨_,v,ha,hv,_,v',ha',hv',h⟩
end
end Go.Lir
namespace Go.Lir
def Qgs (w:World) (b j:Nat):Value:=(w.cell? ⟨b,j,none⟩).getD undef
theorem QaF {w:World}{c:Cx}{L:List Res}{T b j i:Nat}{cs:List Value}{u:Value}(hS:St c w L) (hi:nth L i=some (blk b T cs)) (hj:cs[j]?=some u):Qgs w b j=u:=by
 unfold Qgs;rw [(hS.blkAt hi).cell hj];rfl
def downV:Value→Nat
 | .bool true=> 0
 | _=> 1
def msrW (w:World) (p:Nat):Nat:=2*(iv (Qgs w p 8) - iv (Qgs w p 7)).toNat+downV (Qgs w p 9)
end Go.Lir
namespace Go.Proofs.YteflkifmgnpbhaaGreat
open Go.Lir
set_option maxHeartbeats 1000000
attribute [local irreducible] LC.wp Q0 Qk Qh retQ Qt LO.wp Q4 Calls
set_option linter.unusedSimpArgs false
set_option linter.unusedVariables false
variable {cx:Cx}{w:World}{L:List Res}{p N:Nat}{c:MC}{fr:List FrmV}{g:FrmV}{h:HpS}{out inp:List Int}{m:Module}
def msr (c:MC):Nat:=2*(c.mo - c.fu).toNat+downV (.bool c.dn)
theorem Qdo (hS:St cx w (blk p 55 c.cells::L)):msrW w p=msr c:=by
 unfold msrW msr
 rw [QaF (j:=8) hS (i:=0) rfl rfl,QaF (j:=7) hS (i:=0) rfl rfl,QaF (j:=9) hS (i:=0) rfl rfl]
 rfl
def RunL (m:Module) (r:Run) (most k:Nat) (c:MC) (fr:List FrmV) (g:FrmV) (N:Nat) (h:HpS) (inp out:List Int):Prop:=
 c.dn=false∧c.c=0∧c.e=0∧c.fu=k∧k≤most∧c.mo=most∧N≤k∧Bnd m k (msOf h g fr inp out k)∧r=Run.steps m most (most+1 - k) (.on (msOf h g fr inp out k))
def RunI (m:Module) (r:Run) (most:Nat) (c:MC) (fr:List FrmV) (g:FrmV) (N:Nat) (h:HpS) (inp out back:List Int):Prop:=
 (back=[]∧∃k,RunL m r most k c fr g N h inp out)∨(c.dn=true∧r.oc=⟨c.e,back,out,c.fu⟩∧r.flt=(0,0)∧out.length≤2000∧back.length≤100000)
theorem RunL.next {r:Run}{most k:Nat}{u:Value}(hI:RunL m r most k c fr g N h inp out) (hM:m.fault.1=0) (hi:intR.sl cx c.iv inp) (hs:StepS m p c fr g N h inp out (k+1) cx (sl 2 1 c.bv []::L) u w):
 (u=fltV (0,0)∧∃c' fr' g' N' h' inp' out' back',RunI m r most c' fr' g' N' h' inp' out' back'∧c'.fn=c.fn∧intR.sl cx c'.iv inp'∧msr c' < msr c∧St cx w (mS p c' fr' g' N' h' out' (sl 2 1 c'.bv (Qw back')::L)))∨
 ∃f,r= .stuck (20,f)∧u=fltV (20,f)∧St cx w L:=by
 obtain ⟨hdn,hc0,he0,hfu,hkm,hmo,hN,hB,hr⟩:=hI
 rcases hs with ⟨h7,rfl,hS⟩|⟨hlt,hs⟩
 · refine .inl ⟨rfl,c.over 7,fr,g,N,h,inp,out,[], .inr ⟨rfl,?_,?_,hB.out,Nat.zero_le _⟩,rfl,hi,?_,hS⟩
   · rw [hr,Qc2 (m:=m) (most:=most) (k:=k) (s:=msOf h g fr inp out k) (by show k=most;omega) rfl];show Oc.mk 7 [] out k=Oc.mk 7 [] out c.fu;rw [hfu]
   · rw [hr,Qc2 (m:=m) (most:=most) (k:=k) (s:=msOf h g fr inp out k) (by show k=most;omega) rfl];rfl
   · unfold msr;rw [hdn];show 2*(c.mo - c.fu).toNat+0 < 2*(c.mo - c.fu).toNat+1;omega
 · have hst:=hr.trans (Qd0 (m:=m) (most:=most) (k:=k) (s:=msOf h g fr inp out k) (by show k < most;omega) rfl)
   have hone:(msOf h g fr inp out k).tick.one m=(msOf h g fr inp out (k+1)).one m:=rfl
   rw [hone] at hst
   have hB1:((msOf h g fr inp out (k+1)).one m).All (Bnd m (k+1)):=Bnd.one (s:=msOf h g fr inp out (k+1)) (k:=k) ⟨hB.cur,hB.st,hB.sl,hB.out⟩ hM
   have hms:2*(c.mo - (c.fu+1)).toNat+1 < 2*(c.mo - c.fu).toNat+1:=by omega
   rcases hs with ⟨rfl,hG⟩|⟨e,hX,rfl,fr',g',N',hN',hS⟩|⟨hX,rfl,hS⟩
   · rcases hG with ⟨lv,iv,ov,fr',g',N',h',inp',out',hX,hi',hN', -,hS⟩|⟨ns,bv,fr',g',hX, -,hS⟩
     · rw [hX] at hst hB1
       refine .inl ⟨rfl,c.tick.upd lv iv ov,fr',g',N',h',inp',out',[], .inl ⟨rfl,k+1,hdn,hc0,he0,?_,by omega,hmo,by omega,hB1,hst⟩,rfl,hi',?_,hS⟩
       · show c.fu+1=((k+1:Nat):Int);omega
       · unfold msr;rw [hdn];exact hms
     · rw [hX] at hst
       rw [show Run.of m (msOf h g fr inp out k) (.done ns)= .over (msOf h g fr inp out k).tick 0 ns from rfl,Q5J] at hst
       refine .inl ⟨rfl,⟨c.hp,c.fn,c.lv,c.iv,c.e,bv,c.ov,c.fu+1,c.mo,true,c.c,c.a⟩,fr',g',N,h,inp,out,ns, .inr ⟨rfl,?_,?_,hB.out,?_⟩,rfl,hi,?_,hS.sp⟩
       · rw [hst];show Oc.mk 0 ns out ((k+1:Nat):Int)=Oc.mk c.e ns out (c.fu+1);rw [hfu,he0];rfl
       · rw [hst];rfl
       · have h8:ns.length≤8:=by rw [hX] at hB1;exact hB1
         omega
       · unfold msr;rw [hdn];show 2*(c.mo - (c.fu+1)).toNat+0 < _;omega
   · rw [hX] at hst
     rw [show Run.of m (msOf h g fr inp out k) (.halt e)= .over (msOf h g fr inp out k).tick e [] from rfl,Q5J] at hst
     refine .inl ⟨rfl,c.tick.over e,fr',g',N',h,inp,out,[], .inr ⟨rfl,?_,?_,hB.out,Nat.zero_le _⟩,rfl,hi,?_,hS⟩
     · rw [hst];show Oc.mk e [] out ((k+1:Nat):Int)=Oc.mk e [] out (c.fu+1);rw [hfu];rfl
     · rw [hst];rfl
     · unfold msr;rw [hdn];show 2*(c.mo - (c.fu+1)).toNat+0 < _;omega
   · rw [hX] at hst
     rw [show Run.of m (msOf h g fr inp out k) .lost= .stuck (20,(msOf h g fr inp out k).place m) from rfl,Q9K] at hst
     exact .inr ⟨_,hst,rfl,hS.sp⟩
theorem NewS.bad {fuel pages:Int}{u:Value}(hz:(Q3l m inp fuel pages).1≠0) (hs:NewS m inp fuel pages cx L u w):u= .tuple #[.pointer none,fltV (Q3l m inp fuel pages)]∧St cx w L:=by
 rcases hs with ⟨_,h1,h2⟩|⟨h1,_⟩
 · exact ⟨h1,h2⟩
 · rw [h1] at hz;exact absurd rfl hz
theorem NewS.ok {fuel pages:Int}{u:Value}(hz:(Q3l m inp fuel pages).1=0) (hs:NewS m inp fuel pages cx L u w):Q3l m inp fuel pages=(0,0)∧m.fault.1=0∧inp.length≤200∧0≤fuel∧fuel≤20000∧0≤pages∧pages≤64∧∃c' p hp fn lv iv,u= .tuple #[.pointer (some ⟨p,0,none⟩),fltV (0,0)]∧cx.Le c'∧funcR.sl c' fn m.funcs∧intR.sl c' iv inp∧St c' w (mS p (newC hp fn lv iv fuel) [] newG 0 ⟨[],pages⟩ [] L):=by
 rcases hs with ⟨h1,_⟩|h1
 · exact absurd hz h1
 · exact h1
def ocV (o:Oc) (v1 v2:Value):Value:= .agg ⟨[.int .i64 o.e,v1,v2, .int .i64 o.fuel]⟩
def RunS (m:Module) (inp:List Int) (fuel pages:Int) (cx:Cx) (L:List Res) (u:Value) (w':World):Prop:=
 ((Q3l m inp fuel pages).1≠0∧u= .tuple #[.agg ⟨[.int .i64 0, .slice none 0 0, .slice none 0 0, .int .i64 0]⟩,fltV (Q3l m inp fuel pages)]∧St cx w' L)∨
 (Q3l m inp fuel pages=(0,0)∧∃c' v1 v2,cx.Le c'∧u= .tuple #[ocV (Run.all m inp fuel.toNat pages).oc v1 v2,fltV (Run.all m inp fuel.toNat pages).flt]∧intR.sl c' v1 (Run.all m inp fuel.toNat pages).oc.back∧intR.sl c' v2 (Run.all m inp fuel.toNat pages).oc.out∧St c' w' L)
theorem RunI.first {fuel pages:Int}{hp fn lv iv:Value}(hM:m.fault.1=0) (h0:0≤fuel):RunI m (Run.all m inp fuel.toNat pages) fuel.toNat (newC hp fn lv iv fuel) [] newG 0 ⟨[],pages⟩ inp [] []:=
 .inl ⟨rfl,0,rfl,rfl,rfl,rfl,Nat.zero_le _,(Int.toNat_of_nonneg h0).symm,Nat.zero_le _,Bnd.start hM inp pages,rfl⟩
end Go.Proofs.YteflkifmgnpbhaaGreat
namespace Go.Proofs.YteflkifmgnpbhaaGreat
open Go.Lir
set_option maxHeartbeats 1000000
attribute [local irreducible] LC.wp Q0 Qk Qh retQ Qt LO.wp Q4 Calls
set_option linter.unusedSimpArgs false
set_option linter.unusedVariables false
variable {cx:Cx}{w:World}{L:List Res}{p:Nat}{c:RC}{fr:List RFV}{g:RFV}{s:EstS}{out inp back:List Int}{m:Module}{φ:RMap}
theorem blk_ok {i j:Nat}{f:Fun}{b:Block}(hM:m.fault.1=0) (hf:m.funcs[i]?=some f) (hb:f.blocks[j]?=some b):(∀x∈b.code,QcV m x)∧Qex f b.fin∧b.code.length≤40∧(∀x∈b.code,x.args.length≤16):=by
 obtain ⟨q0,q1,q2⟩:=Q1x hM hf hb
 obtain ⟨e1,e2,e3,e4⟩:=Q3J q2
 have hcl:=(Q1W q0).2.2.2.2
 have hto:∀{t:To},Q1K f.blocks.length t true=0→ToOK f t:=fun ht=> ⟨Q3N ht,by have:=QaV ht;omega,by have:=QaV ht;omega⟩
 exact ⟨fun x hx=> ⟨Q2Y (q1 x hx),insF_k (q1 x hx),by have:=Q5C (q1 x hx);omega,by have:=Q5C (q1 x hx);omega⟩,⟨by have:=Qaz q2;omega,⟨e1,e2⟩,fun hq=> hto (by rw [decide_eq_true hq] at e3;exact e3),fun hq=> hto (by rw [decide_eq_true hq] at e4;exact e4)⟩,hcl,fun x hx=> by have:=Q5C (q1 x hx);omega⟩
theorem mcode_ok (hM:m.fault.1=0):CodeOK m:=fun i j f b hf hb=> by
 obtain ⟨_,h2,_,h4⟩:=blk_ok hM hf hb
 exact ⟨h4,h2.2.1⟩
theorem Qgf {φ:RMap}{h:HpS}:∀{l:List Frm}{l':List RFrm},FrsR φ h l l'→∀b∈l',∃a∈l,FrR φ h a b
 | [],[],_,b,hb=> by simp at hb
 | a::l,b::l',hf,x,hx=> by
   rcases List.mem_cons.1 hx with rfl|hx
   · exact ⟨a,by simp,hf.1⟩
   · obtain ⟨y,hy,h2⟩:=Qgf hf.2 x hx;exact ⟨y,by simp [hy],h2⟩
 | [],_::_,hf,_,_=> hf.elim
 | _::_,[],hf,_,_=> hf.elim
theorem bnd_r {k most:Nat}{ms:MS}{fu:Nat}(S:SimF φ ms (rsOf s g fr inp out fu)) (hB:Bnd m k ms) (hM:m.fault.1=0) (hk:k≤most) (hm:most≤20000):∃f b,m.funcs[g.f]?=some f∧f.blocks[g.b]?=some b∧(∀x∈b.code,QcV m x)∧Qex f b.fin∧g.i≤1000∧fr.length≤900∧g.vals.length≤800000∧(∀x∈fr,x.vals.length≤900000)∧out.length≤2000:=by
 obtain ⟨f,b,hf,hb,h1,h2,h3⟩:=hB.cur
 obtain ⟨b1,b2,b3,_⟩:=blk_ok hM hf hb
 obtain ⟨e1,e2,e3,e4⟩:=S.g
 have e1:ms.g.f=g.f:=e1
 have e2:ms.g.b=g.b:=e2
 have e3:ms.g.i=g.i:=e3
 have e5:ms.g.vals.length=g.vals.length:=e4.1
 have hsl:=hB.sl
 have hln:ms.st.length=((fr.map RFV.abs).reverse).length:=QcJ S.st
 rw [List.length_reverse,List.length_map] at hln
 have ho:ms.out=out:=S.out
 rw [e1] at hf
 rw [e2] at hb
 refine ⟨f,b,hf,hb,b1,b2,by omega,by omega,by omega,fun x hx=> ?_,by rw [←ho];exact hB.out⟩
 obtain ⟨a,ha,h9⟩:=Qgf S.st x.abs (by show x.abs∈(fr.map RFV.abs).reverse;rw [List.mem_reverse];exact List.mem_map_of_mem hx)
 obtain ⟨_,_,_,_,_,h10,_⟩:=hB.st a ha
 have:a.vals.length=x.vals.length:=h9.2.2.2.1
 omega
def rmsr (c:RC):Nat:=2*(c.mo - c.fu).toNat+downV (.bool c.dn)
def QR (m:Module) (most:Nat) (c:RC) (fr:List RFV) (g:RFV) (s:EstS) (inp out back:List Int):Run→Prop
 | .on ms=> (∃φ,SimF φ ms (rsOf s g fr inp out ms.fuel))∧back=[]∧c.dn=false∧c.e=0∧c.fu=ms.fuel∧ms.fuel≤most∧c.mo=most∧Bnd m ms.fuel ms∧Q9d m ms
 | .over ms e b=> out=ms.out∧back=b∧c.dn=true∧c.e=e∧c.fu=ms.fuel∧out.length≤2000∧back.length≤100000∧ms.h.left=s.p.fr.length∧s.count=ms.h.live∧(e=0→Q6n ms.h)
 | .stuck _=> False
theorem qone {ms:MS}{k:Nat}(S:SimF φ ms (rsOf s g fr inp out k)) (hR:m.runs.1=0) (hsh:m.Short) (hf:Q9d m ms):StpR (ms.tick.one m) ((rsOf s g fr inp out (k+1)).one m)∧StE m ms.h (ms.tick.one m)∧(rsOf s g fr inp out (k+1)).one m≠ .crash:=by
 have h1:StpR (ms.tick.one m) ((rsOf s g fr inp out (k+1)).one m):=one_r (mcode_ok (Q1i hR)) (tick_r S)
 have h2:StE m ms.h (ms.tick.one m):=Qd5 hR hsh (QaY hf)
 refine ⟨h1,h2,?_⟩
 cases hX:ms.tick.one m with
 | go s'=> rw [hX] at h1;obtain ⟨r',e,_⟩:=h1;rw [e];exact RStp.noConfusion
 | halt e=> rw [hX] at h1;have h1:_=RStp.halt e:=h1;rw [h1];exact RStp.noConfusion
 | done l=> rw [hX] at h1;have h1:_=RStp.done l:=h1;rw [h1];exact RStp.noConfusion
 | lost=> rw [hX] at h2;exact h2.elim
theorem QR.step {most:Nat}{ms:MS}{u:Value}(hP:QR m most c fr g s inp out back (.on ms)) (hR:m.runs.1=0) (hsh:m.Short) (hi:intR.sl cx c.iv inp) (hs:QgE m p c fr g s inp out (ms.fuel+1) cx (sl 2 1 c.bv []::L) u w):
 u= .tuple #[]∧∃c' fr' g' s' inp' out' back',QR m most c' fr' g' s' inp' out' back' (Run.step m most (.on ms))∧c'.fn=c.fn∧intR.sl cx c'.iv inp'∧rmsr c' < rmsr c∧St cx w (rS p c' fr' g' s' out' (sl 2 1 c'.bv (back'.map Qj)::L)):=by
 obtain ⟨⟨φ,S⟩, -,hdn,he0,hfu,hkm,hmo,hB,hf⟩:=hP
 have hM:=Q1i hR
 obtain ⟨O,E,hX0⟩:=qone S hR hsh hf
 have ho:ms.out=out:=S.out
 have hle:ms.h.left=s.p.fr.length:=S.hr.left
 have hcn:s.count=ms.h.live:=S.hr.cnt
 have hol:out.length≤2000:=by rw [←ho];exact hB.out
 obtain ⟨rfl,hs⟩:=hs
 refine ⟨rfl,?_⟩
 rcases hs with ⟨h7,hS⟩|⟨hlt,hs⟩
 · have hst:Run.step m most (.on ms)= .over ms 7 []:=if_pos (show ms.fuel=most by omega)
   rw [hst]
   refine ⟨c.over 7,fr,g,s,inp,out,[],⟨ho.symm,rfl,rfl,rfl,hfu,hol,Nat.zero_le _,hle,hcn,fun h=> by cases h⟩,rfl,hi,?_,hS⟩
   unfold rmsr;rw [hdn];show 2*(c.mo - c.fu).toNat+0 < 2*(c.mo - c.fu).toNat+1;omega
 · have hst:Run.step m most (.on ms)= .of m ms (ms.tick.one m):=if_neg (show¬ms.fuel=most by omega)
   have hB1:(ms.tick.one m).All (Bnd m (ms.fuel+1)):=Bnd.one (s:=ms.tick) (k:=ms.fuel) ⟨hB.cur,hB.st,hB.sl,hB.out⟩ hM
   have hmm:2*(c.mo - (c.fu+1)).toNat+1 < 2*(c.mo - c.fu).toNat+1:=by omega
   have hmz:2*(c.mo - (c.fu+1)).toNat+0 < 2*(c.mo - c.fu).toNat+1:=by omega
   rcases hs with (⟨lv,iv,ov,fr',g',s',inp',out',hX,hi', -,hS⟩|⟨ns,bv,fr',g',hX, -,hS⟩)|⟨e,hX,fr',g',hS⟩
   · rw [hX] at O
     cases hY:ms.tick.one m with
     | lost=> rw [hY] at E;exact E.elim
     | halt e=> rw [hY] at O;exact absurd O RStp.noConfusion
     | done l=> rw [hY] at O;exact absurd O RStp.noConfusion
     | go ms'=>
       rw [hY] at O E hst hB1
       rw [hst]
       obtain ⟨r',er,φ',S'⟩:=O
       cases er
       have hfl:ms'.fuel=ms.fuel+1:=Qa8 hY
       refine ⟨c.tick.upd lv iv ov,fr',g',s',inp',out',[],⟨⟨φ',by rw [hfl];exact S'⟩,rfl,hdn,he0,?_,?_,hmo,by rw [hfl];exact hB1,E⟩,rfl,hi',?_,hS⟩
       · show c.fu+1=_;omega
       · omega
       · unfold rmsr;rw [hdn];exact hmm
   · rw [hX] at O
     cases hY:ms.tick.one m with
     | lost=> rw [hY] at E;exact E.elim
     | halt e=> rw [hY] at O;exact absurd O RStp.noConfusion
     | go ms'=> rw [hY] at O;obtain ⟨r',er,_⟩:=O;exact absurd er RStp.noConfusion
     | done l=>
       rw [hY] at O E hst hB1
       rw [hst]
       have hl:RStp.done ns= .done l:=O
       cases hl
       refine ⟨c.tick.did bv,fr',g',s,inp,out,ns,⟨ho.symm,rfl,rfl,he0,?_,hol,?_,hle,hcn,fun _=> E⟩,rfl,hi,?_,(hS.subP (by (repeat constructor);first|done|fail))⟩
       · show c.fu+1=((ms.fuel+1:Nat):Int);omega
       · have h8:ns.length≤8:=hB1;omega
       · unfold rmsr;rw [hdn];exact hmz
   · rw [hX] at O
     cases hY:ms.tick.one m with
     | lost=> rw [hY] at E;exact E.elim
     | done l=> rw [hY] at O;exact absurd O RStp.noConfusion
     | go ms'=> rw [hY] at O;obtain ⟨r',er,_⟩:=O;exact absurd er RStp.noConfusion
     | halt e'=>
       rw [hY] at O hst
       rw [hst]
       have hl:RStp.halt e= .halt e':=O
       cases hl
       refine ⟨c.tick.over e,fr',g',s,inp,out,[],⟨ho.symm,rfl,rfl,rfl,?_,hol,Nat.zero_le _,hle,hcn,fun h0=> absurd h0 (Qga hY)⟩,rfl,hi,?_,hS⟩
       · show c.fu+1=((ms.fuel+1:Nat):Int);omega
       · unfold rmsr;rw [hdn];exact hmz
theorem rnext_c {most:Nat}{ms:MS}(hP:QR m most c fr g s inp out back (.on ms)) (hR:m.runs.1=0) (hsh:m.Short) (hmo:most≤20000) (hfn:funcR.sl cx c.fn m.funcs) (hi:intR.sl cx c.iv inp) (hS:St cx w (rS p c fr g s out (sl 2 1 c.bv (back.map Qj)::L))):
 Rets Tryz.prog Q4d [.pointer (some ⟨p,0,none⟩)] w fun u w'=> u= .tuple #[]∧∃c' fr' g' s' inp' out' back',QR m most c' fr' g' s' inp' out' back' (Run.step m most (.on ms))∧c'.fn=c.fn∧intR.sl cx c'.iv inp'∧rmsr c' < rmsr c∧St cx w' (rS p c' fr' g' s' out' (sl 2 1 c'.bv (back'.map Qj)::L)):=by
 have hP':=hP
 obtain ⟨⟨φ,S⟩,rfl,hdn,he0,hfu,hkm,hmo2,hB,hf⟩:=hP
 obtain ⟨O,E,hX0⟩:=qone S hR hsh hf
 obtain ⟨f,b,h1,h2,k1,k2,k3,k4,k5,k6,k7⟩:=bnd_r S hB (Q1i hR) hkm hmo
 exact (rwstep_c (m:=m) (f:=f) (b:=b) (inp:=inp) (fu:=ms.fuel+1) hdn hfn hi h1 h2 k1 k2 k3 k4 k5 k6 k7 ⟨by omega,by omega⟩ hX0 hS).mono fun u w' hs=> hP'.step hR hsh hi hs
end Go.Proofs.YteflkifmgnpbhaaGreat
namespace Go.Proofs.YteflkifmgnpbhaaGreat
open Go.Lir
set_option maxHeartbeats 1000000
attribute [local irreducible] LC.wp Q0 Qk Qh retQ Qt LO.wp Q4 Calls
set_option linter.unusedSimpArgs false
set_option linter.unusedVariables false
variable {cx:Cx}{w:World}{L:List Res}{p:Nat}{c:RC}{out:List Int}
theorem rdone_c (hS:St cx w (blk p 66 c.cells::L)):Rets Tryz.prog Q7l [.pointer (some ⟨p,0,none⟩)] w fun u w'=> u= .bool c.dn∧St cx w' (blk p 66 c.cells::L):=by
 all_goals refine lgo tyD Tryz.func36 ?_
 all_goals (refine ZbE ?_;refine zf0 ?_;refine zl hS ?_;refine Zap ?_;exact ⟨_,rfl,rfl,hS.sp⟩)
end Go.Proofs.YteflkifmgnpbhaaGreat
namespace Go.Proofs.YteflkifmgnpbhaaGreat
open Go.Lir

@[reducible] def Qbo:FuncId:=147
@[reducible] def Q8e:FuncId:=148
@[reducible] def Q8f:FuncId:=149
@[reducible] def held_New:FuncId:=202
@[reducible] def Qbn:FuncId:=205
@[reducible] def Q6K:FuncId:=206
@[reducible] def Q8c:FuncId:=207
@[reducible] def Q6L:FuncId:=209
@[reducible] def Q8d:FuncId:=210
@[reducible] def Q5i:FuncId:=237
@[reducible] def Q8b:FuncId:=238
@[reducible] def Q7m:FuncId:=239
@[reducible] def Q6G:FuncId:=240
@[reducible] def Q64:FuncId:=241
@[reducible] def Q5m:FuncId:=242
@[reducible] def Q92:FuncId:=243
@[reducible] def Q5k:FuncId:=244
@[reducible] def Q6I:FuncId:=245
@[reducible] def Q6J:FuncId:=246
@[reducible] def Q6H:FuncId:=247
@[reducible] def Q7n:FuncId:=248
@[reducible] def Q91:FuncId:=249
@[reducible] def Q7o:FuncId:=250
@[reducible] def Q5n:FuncId:=251
@[reducible] def Q65:FuncId:=261
@[reducible] def Q5l:FuncId:=264
end Go.Proofs.YteflkifmgnpbhaaGreat
namespace Go.Lir
section
variable {P:Program}{l:List GO}{Q:QT}{ρ:Env}{w:World}
end
end Go.Lir
namespace Go.Lir
section
variable {P:Program}{l:List GO}{Q:QT}{ρ:Env}{w:World}
theorem St.freeze1 {α:Type}{r:Rep α}{c:Cx}{L:List Res}{T b:Nat}{cs:List Value}{x:α}(h:St c w (blk b T cs::L)) (hr:r.at c cs x):∃c',c.Le c'∧St c' w L∧r.sl c' (.slice (some ⟨b,0,none⟩) 1 1) [x]:=by
 have h1:St c w (sl T r.es (.slice (some ⟨b,0,none⟩) 1 1) [cs]::L):=h.slOf (css:=[cs]) (by simp) (by intro q hq;simp at hq;subst hq;exact r.len hr) rfl
 exact h1.freezeL (r:=r) ((Rep.LR.nil r _ _).push hr) rfl (by simp)
end
end Go.Lir
namespace Go.Proofs.YteflkifmgnpbhaaGreat
open Go.Lir
set_option maxHeartbeats 1000000
attribute [local irreducible] LC.wp Q0 Qk Qh retQ Qt LO.wp Q4 Calls
set_option linter.unusedSimpArgs false
set_option linter.unusedVariables false
attribute [local irreducible] hasB Q3g Q1L Q1U
variable {cx:Cx}{w:World}{L:List Res}
def Qan (hp:Nat) (h:List Bool):Res:=Res.ex fun v=> star (blk hp 296 [v]) (sl 4 1 v (h.map QD))
theorem Q3F {hp:Nat}{h:List Bool}(hS:St cx w (Qan hp h::L)):∃v,St cx w (blk hp 296 [v]::sl 4 1 v (h.map QD)::L):=by
 obtain ⟨v,hS⟩:=St.ex hS
 exact ⟨v,hS.star⟩
theorem Q3f {hp:Nat}{h:List Bool}{v:Value}(hS:St cx w (blk hp 296 [v]::sl 4 1 v (h.map QD)::L)):St cx w (Qan hp h::L):=St.ex' v hS.star'
theorem has_u {hp:Nat}{h:List Bool}{v:Value}{r:Int}(hS:St cx w (blk hp 296 [v]::sl 4 1 v (h.map QD)::L)):
 Rets Tryz.prog Q65 [.pointer (some ⟨hp,0,none⟩), .int .i64 r] w fun u w'=> u= .bool (hasB h r)∧St cx w' (blk hp 296 [v]::sl 4 1 v (h.map QD)::L):=by
 have hlen:(h.map QD).length=h.length:=List.length_map _
 all_goals refine lgo tyD Tryz.func261 ?_
 all_goals (refine ZbA ?_)
 all_goals (first|(refine Q2n ?_)|(refine Q2Z ?_)|(refine Q1r rfl rfl (fun hc=> ?_) (fun hc=> ?_)))
 all_goals (refine Zbl ?_;refine ZaV ?_;(first|refine zgn ?_|(refine zgy ?_;(first|(refine Qy hS hel1 rfl nth1 (Q16 QD h false (by omega)) rfl ?_)|(refine zl hS ?_))));refine Yan ?_)
 all_goals (first|refine zgn ?_|(refine zgy ?_;(first|(refine Q15 ?_)|(refine Q1c ?_)|(refine Qu rfl rfl (fun hc=> ?_) (fun hc=> ?_)))))
 all_goals (refine Zbr ?_;refine ZaV ?_;(first|refine zgn ?_|(refine zgy ?_;(first|(refine Qy hS hel1 rfl nth1 (Q16 QD h false (by omega)) rfl ?_)|(refine zl hS ?_))));refine Yaa ?_;(first|refine zgn ?_|(refine zgy ?_;(first|(refine Yam ?_;intro b1 o1 cs1 x1 hat1 hx1 he1;obtain rfl:=QY he1)|(refine zie hS ?_;intro b1 o1 hel1)|(refine zij hS ?_;intro b1 o1 hel1))));(first|refine zgn ?_|(refine zgy ?_;(first|(refine Qy hS hel1 rfl nth1 (Q16 QD h false (by omega)) rfl ?_)|(refine zl hS ?_)|(refine zlk hS ?_)|(refine zlj hS ?_)|(refine zli hS ?_)|(refine zlb hS ?_))));refine Yae ?_;refine Zap ?_;(first|(refine ⟨_,rfl,?_,hS.sp⟩;unfold hasB;simp [*];omega;done)|(refine ⟨_,rfl,?_,hS.sp⟩;unfold hasB;simp [*];done)))
theorem len_u {hp:Nat}{h:List Bool}{v:Value}(hS:St cx w (blk hp 296 [v]::sl 4 1 v (h.map QD)::L)):
 Rets Tryz.prog Q64 [.pointer (some ⟨hp,0,none⟩)] w fun u w'=> u= .int .i64 h.length∧St cx w' (blk hp 296 [v]::sl 4 1 v (h.map QD)::L):=by
 have hlen:(h.map QD).length=h.length:=List.length_map _
 all_goals refine lgo tyD Tryz.func241 ?_
 all_goals (refine ZbE ?_;refine zf0 ?_;refine zl hS ?_;refine Yas ?_;refine Zap ?_;refine ⟨_,rfl,?_,hS.sp⟩;(rfl);done)
theorem list_u {hp:Nat}{h:List Bool}{v:Value}(hl:h.length≤16) (hS:St cx w (blk hp 296 [v]::sl 4 1 v (h.map QD)::L)):
 Rets Tryz.prog Q5n [.pointer (some ⟨hp,0,none⟩)] w fun u w'=>∃c',cx.Le c'∧intR.sl c' u (Q3g h)∧St c' w' (blk hp 296 [v]::sl 4 1 v (h.map QD)::L):=by
 have hlen:(h.map QD).length=h.length:=List.length_map _
 all_goals refine lgo tyD Tryz.func251 ?_
 all_goals (refine Zaf ?_;refine ZaQ ?_;refine znc ?_;refine zf0 ?_;(first|(refine Qy hS (by assumption) rfl nth2 (Q16 QD h false (by omega)) rfl ?_)|(refine zl hS ?_));refine Yas ?_;refine ZaB ?_;have hS:=St.nil (T:=3) (es:=1) hS)
 refine zo [9,10] (fun A ρ' w'=>∃(j:Nat) (vo:Value) (co:List (List Value)),Has ρ' A∧Has ρ' [(11, .int .i64 j),(3,vo)]∧(j≤h.length)∧(intR.ls cx co (Q1U h j))∧St cx w' (sl 3 1 vo co::blk hp 296 [v]::sl 4 1 v (h.map QD)::L)) (fun ρ' _=> (h.length - iv (ρ' 11)).toNat) ?_ ?_
 · exact ⟨0,_,[],zh,zh,(by omega),by unfold Q1U;exact Rep.LR.nil _ _ _,hS.sp⟩
 rintro ρ w1 ⟨j,vo,co,hA,hρ,hj,hls,hS⟩;obtain ⟨ρ,rfl⟩:=env2 hA hρ;have hll:=Qef h j;have hsu:=Q5F h j
 all_goals (refine ZaI ?_)
 refine Qq rfl (fun hc=> ?_) (fun hc=> ?_)
 · skip
   all_goals (refine Zbp ?_;(first|(refine Yam ?_;intro b1 o1 cs1 x1 hat1 hx1 he1;obtain rfl:=QY he1)|(refine zie hS ?_;intro b1 o1 hel1));(first|(refine Qy hS (by assumption) rfl nth2 (Q16 QD h false (by omega)) rfl ?_)|(refine zl hS ?_)|(refine zlk hS ?_)|(refine zlj hS ?_)|(refine zli hS ?_)|(refine zlb hS ?_));refine zm ?_;refine Zad ?_;refine Zaf ?_)
   refine Q9i rfl (fun hc=> ?_) (fun hc=> ?_)
   · skip
     all_goals (refine Zae ?_;refine zm ?_;refine zB1 hS [_] ?_;intro b1 w1 hS;refine za Q5o Q9F hS ?_;intro vp1 w1 css1 hls1 hv1 hS;have hS:=hS.ns;refine Zad ?_;refine Q10 ?_;refine zad ?_;refine Zad ?_;exact ⟨⟨j+1,_,_,zh,zh,(by omega),by rw [hsu,if_pos (by assumption)];exact hls1,hS.sp⟩,Qv (by omega)⟩)
   · skip
     all_goals (refine zsk ?_;refine Q10 ?_;refine zad ?_;refine Zad ?_;(first|(exact ⟨⟨j+1,_,_,zh,zh,(by omega),by rw [hsu,if_pos (by assumption)];exact hls1,hS.sp⟩,Qv (by omega)⟩)|(exact ⟨⟨j+1,_,_,zh,zh,(by omega),by rw [hsu,if_neg (by rw [hc];decide),List.append_nil];exact hls,hS.sp⟩,Qv (by omega)⟩)))
 · skip
   all_goals (refine zex ?_;refine Zbq ?_;refine ⟨_,rfl,?_⟩;obtain ⟨c',hle,hS',hk⟩:=St.freezeL (r:=intR) hS hls rfl (by omega);refine ⟨c',hle,?_,hS'⟩;rw [show j=h.length by omega] at hk;unfold Q3g;exact hk)
theorem open_u {hp:Nat}{h:List Bool}{v:Value}(hl:h.length < 16) (hS:St cx w (blk hp 296 [v]::sl 4 1 v (h.map QD)::L)):
 Rets Tryz.prog Q5m [.pointer (some ⟨hp,0,none⟩)] w fun u w'=> u= .int .i64 h.length∧∃v',St cx w' (blk hp 296 [v']::sl 4 1 v' ((h++[true]).map QD)::L):=by
 have hlen:(h.map QD).length=h.length:=List.length_map _
 all_goals refine lgo tyD Tryz.func242 ?_
 all_goals (refine ZaQ ?_;refine znc ?_;refine zf0 ?_;refine zl hS ?_;refine Yas ?_)
 all_goals (refine Yap ?_)
 all_goals (refine zn ?_)
 all_goals refine zcf ?_
 all_goals (refine zsk ?_;refine Zac ?_;refine ZaA ?_;refine zf0 ?_;refine zl hS ?_;refine zB1 hS [_] ?_;intro b1 w1 hS;refine Q1T QcO (.inl u_T146) hS vw vw fd (hS.srcB1 fd rfl) (by simp;omega) ?_;intro vp w2 hS;have hS:=hS.ns;rw [show h.map QD++[[Value.bool true]]=(h++[true]).map QD by simp [QD]] at hS;refine znc ?_;refine zf0 ?_;refine zst hS ?_;intro w1 hS;have hS:=hS.ns;refine Zal ?_;have hlen1:(h++[true]).length=h.length+1:=(by simp);refine Zbt ?_;refine zf0 ?_;refine zl hS ?_;refine Yas ?_;refine zsu ?_)
 all_goals (refine Zap ?_;exact ⟨_,rfl,(by congr 1;omega),_,hS.sp⟩)
theorem shut_u {hp:Nat}{h:List Bool}{v:Value}{r:Int}(hr:hasB h r=true) (hS:St cx w (blk hp 296 [v]::sl 4 1 v (h.map QD)::L)):
 Rets Tryz.prog Q5k [.pointer (some ⟨hp,0,none⟩), .int .i64 r] w fun u w'=> u= .bool true∧St cx w' (blk hp 296 [v]::sl 4 1 v ((h.set r.toNat false).map QD)::L):=by
 have hlen:(h.map QD).length=h.length:=List.length_map _
 have hr':=Q46 hr
 all_goals refine lgo tyD Tryz.func244 ?_
 all_goals (refine Zaf ?_;refine ZaX ?_;refine Q3C rfl (has_u hS) ?_;rintro v1 w1 ⟨rfl,hS⟩;rw [hr];refine ZaF ?_;refine Zaf ?_)
 all_goals refine zct ?_
 all_goals (refine Zbt ?_;refine zf0 ?_;refine zl hS ?_;refine zm ?_;(first|(refine Yam ?_;intro b1 o1 cs1 x1 hat1 hx1 he1;obtain rfl:=QY he1)|(refine zie hS ?_;intro b1 o1 hel1)|(refine zij hS ?_;intro b1 o1 hel1));(first|(refine Q9P hS hel1 rfl vw nth1 (Q16 QD h false (by omega)) rfl rfl ?_;intro w2 hS;have hS:=hS.ns;rw [show (QD (h.getD r.toNat false)).set 0 (Value.bool false)=QD false from rfl,map_set] at hS)|(refine zst hS ?_;intro w1 hS;have hS:=hS.ns)|(refine zsi hS ?_;intro w1 hS;have hS:=hS.ns)|(refine zsb hS ?_;intro w1 hS;have hS:=hS.ns));refine Zaz ?_;refine Zap ?_;refine ⟨_,rfl,?_,hS.sp⟩;(rfl);done)
theorem pass_u {hp:Nat}{h:List Bool}{v v2:Value}{xs:List Int}(hl:h.length≤16) (hx:intR.sl cx v2 xs) (hS:St cx w (blk hp 296 [v]::sl 4 1 v (h.map QD)::L)):
 Rets Tryz.prog Q5l [.pointer (some ⟨hp,0,none⟩),v2] w fun u w'=> u= .int .i64 (Q1L h [] xs)∧∃c',cx.Le c'∧St c' w' (blk hp 296 [v]::sl 4 1 v (h.map QD)::L):=by
 have hlen:(h.map QD).length=h.length:=List.length_map _
 have hxl:=hx.len
 all_goals refine lgo tyD Tryz.func264 ?_
 all_goals (refine ZbE ?_;refine zf0 ?_;(first|(refine Qy hS hel2 rfl fd hgetS rfl ?_)|(refine zl hS ?_));refine Yas ?_;refine s_makeE QcO hS rfl rfl (by omega) (by omega) ?_;intro v5 w1 hS;rw [Int.toNat_natCast] at hS;refine ZbC ?_;have hS:St cx _ (sl 4 1 v5 ((Q5r h []).map QD)::blk hp 296 [v]::sl 4 1 v (h.map QD)::L):=(by rw [QeR,List.map_replicate];exact hS);refine Zae ?_;refine zL ?_;refine ZaB ?_)
 refine zo [0,1,5,14,15] (fun A ρ' w'=>∃(j:Nat),Has ρ' A∧Has ρ' [(16, .int .i64 j)]∧(j≤xs.length)∧(Q1L h [] xs=Q1L h (xs.take j) (xs.drop j))∧St cx w' (sl 4 1 v5 ((Q5r h (xs.take j)).map QD)::blk hp 296 [v]::sl 4 1 v (h.map QD)::L)) (fun ρ' _=> (xs.length - iv (ρ' 16)).toNat) ?_ ?_
 · exact ⟨0,zh,zh,(by omega),by rfl,hS.sp⟩
 rintro ρ w1 ⟨j,hA,hρ,hj,hgo,hS⟩;obtain ⟨ρ,rfl⟩:=env2 hA hρ;have hln:=QeS h (xs.take j);have hlm:((Q5r h (xs.take j)).map QD).length=h.length:=(by rw [List.length_map,hln])
 all_goals (refine ZaI ?_)
 refine Qq rfl (fun hc=> ?_) (fun hc=> ?_)
 · skip
   all_goals (refine Zbf ?_;refine zi ?_;intro b1 o1 cs1 x1 hat1 hx1 he1;obtain rfl:=QY he1;(first|(refine Qy hS hel2 rfl fd hgetS rfl ?_)|(refine zl hS ?_)|(refine zlk hS ?_));refine ZbC ?_;rw [Qb hx1,Q1L] at hgo;refine Zae ?_;refine zm ?_;refine Q3C rfl (has_u (L:=sl 4 1 v5 ((Q5r h (xs.take j)).map QD)::L) hS.sp) ?_;rintro v1 w1 ⟨rfl,hS⟩;refine Zbm ?_)
   refine Q9i rfl (fun hc=> ?_) (fun hc=> ?_)
   · skip
     all_goals (refine Zas ?_;exact ⟨_,rfl,(by rw [hgo,if_neg (by simpa using hc)]),cx,St.refl hS,hS.sp⟩)
   · skip
     all_goals (have hc1:hasB h x1=true:=(by simpa using hc);have hr:=Q46 hc1;rw [if_pos hc1] at hgo;have hsg:(Q5r h (xs.take j)).getD x1.toNat false=decide (x1∈xs.take j):=QeT (by omega) (by omega);have hgetS:=Q16 QD (Q5r h (xs.take j)) false (m:=x1.toNat) (by omega);refine zsk ?_;refine Zak ?_;refine zm ?_;(first|(refine Yam ?_;intro b2 o2 cs2 x2 hat2 hx2 he2;obtain rfl:=QY he2)|(refine zie hS ?_;intro b2 o2 hel2)|(refine zij hS ?_;intro b2 o2 hel2));(first|(refine Qy hS hel2 rfl fd hgetS rfl ?_)|(refine zl hS ?_)|(refine zlk hS ?_)|(refine zlj hS ?_)|(refine zli hS ?_)|(refine zlb hS ?_));refine zn ?_)
     refine Q9i rfl (fun hc=> ?_) (fun hc=> ?_)
     · skip
       all_goals (have hc2:x1∈xs.take j:=(by rw [hsg] at hc;exact of_decide_eq_true hc);rw [if_pos hc2] at hgo;refine Zas ?_;(first|(exact ⟨_,rfl,(by rw [hgo,if_neg (by simpa using hc)]),cx,St.refl hS,hS.sp⟩)|(exact ⟨_,rfl,hgo ▸ rfl,cx,St.refl hS,hS.sp⟩)))
     · skip
       all_goals (have hc2:x1∉xs.take j:=(by rw [hsg] at hc;exact of_decide_eq_false hc);rw [if_neg hc2] at hgo;refine zsk ?_;refine Zae ?_;refine zm ?_;(first|(refine Yam ?_;intro b3 o3 cs3 x3 hat3 hx3 he3;obtain rfl:=QY he3)|(refine zie hS ?_;intro b3 o3 hel3)|(refine zij hS ?_;intro b3 o3 hel3));(first|(refine zst hS ?_;intro w1 hS;have hS:=hS.ns)|(refine zsi hS ?_;intro w1 hS;have hS:=hS.ns)|(refine zsb hS ?_;intro w1 hS;have hS:=hS.ns));refine Zbi ?_;refine zad ?_;refine Zad ?_;exact ⟨⟨j+1,zh,zh,(by omega),by rw [hgo,Q2H hx1],by rw [Q2H hx1,←QeQ hr.1];exact hS.sp⟩,Qv (by omega)⟩)
 · skip
   all_goals (refine zex ?_;refine QB ?_;refine QB ?_;have hie:j=xs.length:=(by omega);subst hie;rw [List.take_length,List.drop_length,Q1L] at hgo;refine Zae ?_;refine zL ?_;refine zm ?_;refine Q3C rfl (list_u (L:=L) hl hS.sp) ?_;rintro v5 w5 ⟨c5,hle5,hk5,hS⟩;refine zL ?_)
   all_goals (first|(refine Q15 ?_)|(refine Q1c ?_)|(refine Qu rfl rfl (fun hc=> ?_) (fun hc=> ?_)))
   all_goals (refine zn ?_)
   all_goals
    first
    | (refine zct ?_
       all_goals (refine Zas ?_)
       all_goals (first|(exact ⟨_,rfl,(by rw [hgo,if_neg (by simpa using hc)]),cx,St.refl hS,hS.sp⟩)|(exact ⟨_,rfl,hgo ▸ rfl,cx,St.refl hS,hS.sp⟩)|(exact ⟨_,rfl,(by rw [hgo,if_pos (by omega)]),c5,hle5,hS.sp⟩)))
    | (refine zcf ?_
       all_goals refine zsk ?_)
   all_goals (refine Zas ?_;(first|(exact ⟨_,rfl,(by rw [hgo,if_neg (by simpa using hc)]),cx,St.refl hS,hS.sp⟩)|(exact ⟨_,rfl,hgo ▸ rfl,cx,St.refl hS,hS.sp⟩)|(exact ⟨_,rfl,(by rw [hgo,if_pos (by omega)]),c5,hle5,hS.sp⟩)|(exact ⟨_,rfl,(by rw [hgo,if_neg (by omega)]),c5,hle5,hS.sp⟩)))
theorem new_u {n:Int}(hS:St cx w L):Rets Tryz.prog held_New [.int .i64 n] w fun u w'=>∃hp v,u= .pointer (some ⟨hp,0,none⟩)∧St cx w' (blk hp 296 [v]::sl 4 1 v ((List.replicate (min n 16).toNat true).map QD)::L):=by
 all_goals refine lgo tyD Tryz.func202 ?_
 all_goals (refine Zaf ?_;refine Zaa ?_;refine zb0 [_] ?_;refine zb hS ?_;intro p5 w1 hS;refine Zbj ?_;refine s_min rfl rfl ?_;refine ZaB ?_;have hS:=St.nil (T:=4) (es:=1) hS)
 refine zo [3,7] (fun A ρ' w'=>∃(j:Nat) (v:Value),Has ρ' A∧Has ρ' [(8, .int .i64 j)]∧(j≤(min n 16).toNat)∧St cx w' (sl 4 1 v ((List.replicate j true).map QD)::blk p5 296 [v]::L)) (fun ρ' _=> (min n 16 - iv (ρ' 8)).toNat) ?_ ?_
 · exact ⟨0,_,zh,zh,(by omega),hS.sp⟩
 rintro ρ w1 ⟨j,v,hA,hρ,hj,hS⟩;obtain ⟨ρ,rfl⟩:=env2 hA hρ
 all_goals (refine ZaI ?_)
 refine Qq rfl (fun hc=> ?_) (fun hc=> ?_)
 · skip
   all_goals (refine ZaE ?_;refine Zae ?_;refine ZaA ?_;refine zf0 ?_;refine zl hS ?_;refine zB1 hS [_] ?_;intro b1 w1 hS;refine Q1T QcO (.inl u_T146) hS vw vw fd (hS.srcB1 fd rfl) (by simp;omega) ?_;intro vp w2 hS;have hS:=hS.ns;rw [show (List.replicate j true).map QD++[[Value.bool true]]=(List.replicate (j+1) true).map QD by rw [List.replicate_succ',List.map_append];rfl] at hS;refine znc ?_;refine zf0 ?_;refine zst hS ?_;intro w1 hS;have hS:=hS.ns;refine Zbi ?_;refine zad ?_;refine Zad ?_;exact ⟨⟨j+1,_,zh,zh,(by omega),hS.sp⟩,Qv (by omega)⟩)
 · skip
   all_goals (refine zex ?_;refine Zbq ?_;exact ⟨_,rfl,_,v,rfl,(by rw [show (min n 16).toNat=j by omega];exact hS.sp)⟩)
end Go.Proofs.YteflkifmgnpbhaaGreat
namespace Go.Proofs.YteflkifmgnpbhaaGreat
open Go.Lir
set_option maxHeartbeats 1000000
attribute [local irreducible] LC.wp Q0 Qk Qh retQ Qt LO.wp Q4 Calls
set_option linter.unusedSimpArgs false
set_option linter.unusedVariables false
theorem Qfp {k r:Int}{l:List Ty}{to:List Int}(h:k≠1∧(r < 0∨(to.length:Int)≤r)):Ty.ren (.mk k r l) to=none:=by
 rw [Ty.ren,if_pos (by omega)]
theorem Qce {k r x:Int}{l:List Ty}{to:List Int}(hk:k≠1) (hx:to[r.toNat]?=some x) (h:x < 0):Ty.ren (.mk k r l) to=none:=by
 rw [Ty.ren,if_pos ⟨hk, .inr (.inr (by rw [List.getD_eq_getElem?_getD,hx];exact h))⟩]
theorem ren_one {k r:Int}{l:List Ty}{to:List Int}(h:k=1):Ty.ren (.mk k r l) to=(Tys.ren l to).map (Ty.mk k r):=by
 subst h
 rw [Ty.ren,if_neg (by omega)]
 cases Tys.ren l to <;> rfl
theorem ren_to {k r x:Int}{l:List Ty}{to:List Int}(hk:k≠1) (h0:0≤r) (h1:r < to.length) (hx:to[r.toNat]?=some x) (h:0≤x):Ty.ren (.mk k r l) to=(Tys.ren l to).map (Ty.mk k x):=by
 have hd:to.getD r.toNat 0=x:=by rw [List.getD_eq_getElem?_getD,hx];rfl
 rw [Ty.ren,if_neg (by omega),hd]
 cases Tys.ren l to with
 | none=> rfl
 | some m=> simp [hk]
theorem Qb7 {l us:List Ty}{to:List Int}{j:Nat}{x:Ty}(hd:Tys.ren l to=(Tys.ren (l.drop j) to).map (us++·)) (hx:l[j]?=some x) (hn:x.ren to=none):Tys.ren l to=none:=by
 rw [hd,Qb hx,Tys.ren,hn];rfl
theorem Qfo {l us:List Ty}{to:List Int}{j:Nat}{x y:Ty}(hd:Tys.ren l to=(Tys.ren (l.drop j) to).map (us++·)) (hx:l[j]?=some x) (hn:x.ren to=some y):Tys.ren l to=(Tys.ren (l.drop (j+1)) to).map ((us++[y])++·):=by
 rw [hd,Qb hx,Tys.ren,hn]
 cases Tys.ren (l.drop (j+1)) to <;> simp
theorem rens_all {l us:List Ty}{to:List Int}{j:Nat}(hd:Tys.ren l to=(Tys.ren (l.drop j) to).map (us++·)) (hj:l.length≤j):Tys.ren l to=some us:=by
 rw [hd,List.drop_of_length_le hj,Tys.ren];simp
theorem pren_c:∀(t:Ty),t.Short→∀{cx:Cx}{w:World}{L:List Res}{cs:List Value}{v2:Value}{to:List Int},tyR.at cx cs t→intR.sl cx v2 to→St cx w L→
 Rets Tryz.prog QaT [.agg ⟨cs⟩,v2] w fun u w'=>∃c' ds,u= .tuple #[.agg ⟨ds⟩, .bool (t.ren to).isSome]∧cx.Le c'∧tyR.at c' ds ((t.ren to).getD (.mk 0 0 []))∧St c' w' L:=by
 intro t
 induction t using Ty.ind with
 | h k r l ih=>
   intro hs cx w L cs v2 to ht hto hS
   obtain ⟨v,rfl,hl⟩:=Qr ht
   simp only [Ty.kind,Ty.r,Ty.l] at hl ht ⊢
   obtain ⟨hlen,hsub⟩:=hs.parts
   have hle:=St.refl hS
   all_goals refine lgo tyD Tryz.func263 ?_
   all_goals (refine Zat ?_;intro p2 w1 hS;refine Qg hS ?_;intro p4 w1 hS;refine Zad ?_;refine Zaa ?_;refine zf0 ?_;refine zl hS ?_;refine zf0 ?_;refine zl hS ?_;refine zb2 [_,_,_] ?_;refine Qg hS ?_;intro p6 w1 hS;refine zsn hS ?_;intro w1 hS;have hS:=hS.ns;refine zn ?_)
   refine zM [1,2,4,6] (fun A ρ' w'=>∃(r2:Int),Has ρ' A∧Has ρ' []∧(Ty.ren (.mk k r l) to=(Tys.ren l to).map (Ty.mk k r2))∧St cx w' (blk p6 115 [.int .i64 k, .int .i64 r2, .slice none 0 0]::blk p4 115 [.int .i64 0, .int .i64 0, .slice none 0 0]::blk p2 115 [.int .i64 k, .int .i64 r,v]::L)) ?_ ?_
   · skip
     all_goals (refine Zaa ?_;refine zf0 ?_;refine zl hS ?_)
     all_goals (first|(refine Q1D ?_)|(refine Q1M ?_)|(refine QI rfl rfl (fun hc=> ?_) (fun hc=> ?_)))
     all_goals (refine zn ?_)
     all_goals
      first
      | (refine zct ?_
         all_goals (refine Zbs ?_;refine zf0 ?_;refine zl hS ?_)
         all_goals (first|(refine Q15 ?_)|(refine Q1c ?_)|(refine Qu rfl rfl (fun hc=> ?_) (fun hc=> ?_)))
         all_goals (refine ZaN ?_;refine Yaa ?_;refine Yaj ?_)
         all_goals (first|refine zgn ?_|(refine zgy ?_;(first|(refine Q2n ?_)|(refine Q2Z ?_)|(refine Q1r rfl rfl (fun hc=> ?_) (fun hc=> ?_)))))
         all_goals (refine Zbr ?_;refine Zan ?_;(first|refine zgn ?_|(refine zgy ?_;refine Yam ?_;intro b1 o1 cs1 x1 hat1 hx1 he1;obtain rfl:=QY he1));(first|refine zgn ?_|(refine zgy ?_;(first|(refine zl hS ?_)|(refine zlk hS ?_)))))
         all_goals (first|refine zgn ?_|(refine zgy ?_;(first|(refine Q15 ?_)|(refine Q1c ?_)|(refine Qu rfl rfl (fun hc=> ?_) (fun hc=> ?_)))))
         all_goals (refine ZaO ?_)
         all_goals
          first
          | (refine zct ?_
             all_goals (refine Zaa ?_;refine zb0 [_,_,_] ?_;refine zsn hS ?_;intro w1 hS;have hS:=hS.ns;refine ZaK ?_;refine Q2g vw (Q9 (n:=3) (by kernel_rfl) (by kernel_rfl) (hS.blkAt fd) (by rfl) (by rfl)) vw ?_)
             all_goals (first|(rw [Qfp (by omega)];exact ⟨_,rfl,_,_,rfl,hle,Q2R (Rep.SR.nil _ _ _),hS.sp⟩)|(rw [Qce (by omega) hx1 (by omega)];exact ⟨_,rfl,_,_,rfl,hle,Q2R (Rep.SR.nil _ _ _),hS.sp⟩)))
          | (refine zcf ?_
             all_goals refine zsk ?_)
         all_goals (refine Zae ?_;refine zf0 ?_;refine zl hS ?_;refine Yam ?_;intro b2 o2 cs2 x2 hat2 hx2 he2;obtain rfl:=QY he2;refine Yat ?_;refine zf0 ?_;refine zst hS ?_;intro w1 hS;have hS:=hS.ns)
         all_goals refine zn ?_)
      | (refine zcf ?_
         all_goals refine zsk ?_)
     all_goals ((first|(exact ⟨_,zh,zh,ren_to (by omega) (by omega) (by omega) hx2 (by have h9:=Option.some.inj (hx1.symm.trans hx2);omega),hS.sp⟩)|(exact ⟨_,zh,zh,ren_one (by omega),hS.sp⟩)))
   rintro ρ w1 ⟨r2,hA,hρ,hr,hS⟩;obtain ⟨ρ,rfl⟩:=env2 hA hρ
   all_goals (refine Zbs ?_;refine zf0 ?_;refine zl hS ?_;refine zL ?_;refine ZaB ?_)
   refine zo [1,4,6,45,46] (fun A ρ' w'=>∃(k0:Cx) (j:Nat) (u:Value) (css:List (List Value)) (us:List Ty),Has ρ' A∧Has ρ' [(47, .int .i64 j)]∧(cx.Le k0)∧(j≤l.length)∧(us.length=j)∧(Tys.ren l to=(Tys.ren (l.drop j) to).map (us++·))∧(tyR.ls k0 css us)∧(oneC u=true)∧St k0 w' (sl 115 3 u css::blk p6 115 [.int .i64 k, .int .i64 r2,u]::blk p4 115 [.int .i64 0, .int .i64 0, .slice none 0 0]::blk p2 115 [.int .i64 k, .int .i64 r,v]::L)) (fun ρ' _=> (l.length - iv (ρ' 47)).toNat) ?_ ?_
   · exact ⟨cx,0, .slice none 0 0,[],[],zh,zh,St.refl hS,(by omega),rfl,by simp,Rep.LR.nil _ _ _,rfl,by have hS:=hS.nil (T:=115) (es:=3);exact hS.sp⟩
   rintro ρ w1 ⟨k0,j,u,css,us,hA,hρ,hle2,hj,hus,hd,hls,hu,hS⟩;obtain ⟨ρ,rfl⟩:=env2 hA hρ;have hL0:=hle2;(try have hle:=hle.trans hle2);(try have hl:=hl.up hle2);(try have hto:=hto.up hle2)
   all_goals (refine ZaI ?_)
   refine Qq rfl (fun hc=> ?_) (fun hc=> ?_)
   · skip
     all_goals (refine Zbf ?_;refine zi ?_;intro b3 o3 cs3 x3 hat3 hx3 he3;obtain ⟨vl3,rfl,hl3⟩:=Qr he3;refine ZaP ?_;intro p8 w1 hS;refine zsn hS ?_;intro w1 hS;have hS:=hS.ns;refine ZaD ?_;refine zv hS ?_;refine zm ?_)
     all_goals (refine zR2 (c:=ih _ (List.mem_of_getElem? hx3) (hsub _ (List.mem_of_getElem? hx3)) he3 hto hS) (h:=?_);rintro v1 w1 ⟨c1,ds,rfl,hle2,hd1,hS⟩;obtain ⟨y,hy⟩:∃y,(x3.ren to).getD (.mk 0 0 [])=y:=⟨_,rfl⟩;rw [hy] at hd1;obtain ⟨v7,rfl,hv7⟩:=Qr hd1;(try have hle:=hle.trans hle2);(try have hL0:=hL0.trans hle2);(try have hl:=hl.up hle2);(try have hl3:=hl3.up hle2);(try have he3:=he3.up hle2);(try have hls:=hls.up hle2);(try have hto:=hto.up hle2);cases hg:x3.ren to)
     all_goals (refine ZbI ?_;intro p9 w1 hS;refine zsn hS ?_;intro w1 hS;have hS:=hS.ns;refine Zbj ?_;refine Zbm ?_)
     all_goals
      first
      | (refine zct ?_
         all_goals (refine Zaa ?_;refine zb0 [_,_,_] ?_;refine zsn hS ?_;intro w1 hS;have hS:=hS.ns;refine ZaK ?_;refine Q2g vw (Q9 (n:=3) (by kernel_rfl) (by kernel_rfl) (hS.blkAt fd) (by rfl) (by rfl)) vw ?_)
         all_goals (first|(rw [Qfp (by omega)];exact ⟨_,rfl,_,_,rfl,hle,Q2R (Rep.SR.nil _ _ _),hS.sp⟩)|(rw [Qce (by omega) hx1 (by omega)];exact ⟨_,rfl,_,_,rfl,hle,Q2R (Rep.SR.nil _ _ _),hS.sp⟩)|(rw [hr,Qb7 hd hx3 hg];exact ⟨_,rfl,_,_,rfl,hle,Q2R (Rep.SR.nil _ _ _),hS.sp⟩)))
      | (refine zcf ?_
         all_goals refine zsk ?_)
     all_goals (refine Q10 ?_;refine zf0 ?_;refine zl hS ?_;refine zv hS ?_;refine zB1 hS [_,_,_] ?_;intro b1 w1 hS;refine za Q6c QaS hS ?_;intro vp1 w1 css1 hls1 hv1 hS;have hS:=hS.ns;refine zf0 ?_;refine zst hS ?_;intro w1 hS;have hS:=hS.ns;refine Zbi ?_;refine zad ?_;refine Zad ?_;exact ⟨⟨_,j+1,_,_,us++[y],zh,zh,hL0,(by omega),by simp [hus],Qfo hd hx3 (by rw [hg,←hy,hg];rfl),by assumption,by assumption,hS.sp⟩,Qv (by omega)⟩)
   · skip
     all_goals (refine zex ?_;refine Zaa ?_;refine zv hS ?_;refine zsn hS ?_;intro w1 hS;have hS:=hS.ns;refine ZaK ?_;refine Q2g vw (Q9 (n:=3) (by kernel_rfl) (by kernel_rfl) (hS.blkAt fd) (by rfl) (by rfl)) vw ?_;(first|(rw [Qfp (by omega)];exact ⟨_,rfl,_,_,rfl,hle,Q2R (Rep.SR.nil _ _ _),hS.sp⟩)|(rw [Qce (by omega) hx1 (by omega)];exact ⟨_,rfl,_,_,rfl,hle,Q2R (Rep.SR.nil _ _ _),hS.sp⟩)|(rw [hr,Qb7 hd hx3 hg];exact ⟨_,rfl,_,_,rfl,hle,Q2R (Rep.SR.nil _ _ _),hS.sp⟩)|(rw [hr,rens_all hd (by omega)];obtain ⟨c3,hle3,hS,hl3⟩:=St.freezeL (r:=tyR) (l:=us) (T:=115) (es:=3) (v:=u) (css:=css) (L:=L) hS.sp hls rfl (by omega);exact ⟨_,rfl,c3,_,rfl,hle.trans hle3,Q2R hl3,hS⟩)))
end Go.Proofs.YteflkifmgnpbhaaGreat
namespace Go.Proofs.YteflkifmgnpbhaaGreat
open Go.Lir
set_option maxHeartbeats 1000000
attribute [local irreducible] LC.wp Q0 Qk Qh retQ Qt LO.wp Q4 Calls
set_option linter.unusedSimpArgs false
set_option linter.unusedVariables false
attribute [local irreducible] hasB Q3g Q1L Q1U
section
variable {P:Program}{l:List GO}{Q:QT}{ρ:Env}
variable {cx:Cx}{w:World}{L:List Res}
structure JP where
 sp:Nat
 hp:Nat
 f:Fun
 vm:Value
 vp:Value
 vr:Value
 vb:Value
structure JP.Fits (j:JP) (cx:Cx) (m:Module):Prop where
 m:funcR.sl cx j.vm m.funcs
 p:tyR.sl cx j.vp j.f.params
 r:tyR.sl cx j.vr j.f.results
 b:blockR.sl cx j.vb j.f.blocks
theorem JP.Fits.up {j:JP}{cx cx':Cx}{m:Module}(h:j.Fits cx m) (hle:cx.Le cx'):j.Fits cx' m:=⟨h.m.up hle,h.p.up hle,h.r.up hle,h.b.up hle⟩
@[reducible] def JP.cells (j:JP) (vl:Value):List Value:=[.pointer (some ⟨j.hp,0,none⟩),j.vm, .int .i64 j.f.regs,j.vp,j.vr,j.vb,vl]
def JP.res (j:JP) (h:List Bool) (vl:Value) (css:List (List Value)):Res:=star (blk j.sp 258 (j.cells vl)) (star (Qan j.hp h) (sl 115 3 vl css))
variable {j:JP}{h:List Bool}{vl:Value}{css:List (List Value)}
theorem JP.opn {i:Nat}(hS:St cx w L) (hi:nth L i=some (j.res h vl css)):St cx w (blk j.sp 258 (j.cells vl)::Qan j.hp h::sl 115 3 vl css::L.eraseIdx i):=by
 have h1:=(hS.out hi).star
 exact (St.star (h1.mv1)).mv2
theorem JP.cls {i:Nat}{h':List Bool}{vl':Value}{css':List (List Value)}(hi:nth L i=some (j.res h vl css)) (hS:St cx w (blk j.sp 258 (j.cells vl')::Qan j.hp h'::sl 115 3 vl' css'::L.eraseIdx i)):St cx w (L.set i (j.res h' vl' css')):=by
 have h1:St cx w (star (Qan j.hp h') (sl 115 3 vl' css')::blk j.sp 258 (j.cells vl')::L.eraseIdx i):=St.star' (hS.mv2.mv2)
 exact St.back (St.star' h1.mv1) hi
theorem JP.cls0 {i:Nat}(hi:nth L i=some (j.res h vl css)) (hS:St cx w (blk j.sp 258 (j.cells vl)::Qan j.hp h::sl 115 3 vl css::L.eraseIdx i)):St cx w L:=by
 have h1:St cx w (star (Qan j.hp h) (sl 115 3 vl css)::blk j.sp 258 (j.cells vl)::L.eraseIdx i):=St.star' (hS.mv2.mv2)
 exact St.back0 (St.star' h1.mv1) hi
theorem Q1v {d i o:Nat}{x:Operand}{u:Value}(hS:St cx w L) (hx:ρ.ev x= .pointer (some ⟨j.sp,o,none⟩)) (hi:nth L i=some (j.res h vl css)) (hu:(j.cells vl)[o]?=some u) (h:Q0 P l Q (upd ρ d u) w):Q0 P (⟨none, .load1 d x⟩::l) Q ρ w:=
 QE (JP.opn hS hi) hx nth0 hu h
theorem Q7t {d n i o:Nat}{x:Operand}{us:List Value}(hS:St cx w L) (hx:ρ.ev x= .pointer (some ⟨j.sp,o,none⟩)) (hi:nth L i=some (j.res h vl css)) (hu:((j.cells vl).drop o).take n=us) (hl:us.length=n) (h:Q0 P l Q (upd ρ d (.agg ⟨us⟩)) w):Q0 P (⟨none, .loadn d n x⟩::l) Q ρ w:=
 Q9U (JP.opn hS hi) hx nth0 hu hl h
theorem Q19 {d i o:Nat}{x:Operand}{u:Value}(hS:St cx w L) (hx:ρ.ev x= .pointer (some ⟨j.sp,o,none⟩)) (hi:nth L i=some (j.res h vl css)) (hu:(j.cells vl)[o]?=some u):gqv P ρ w ⟨none, .load1 d x⟩ u:=QL (JP.opn hS hi) hx nth0 hu
theorem Q9h {d i n:Nat}{x:Operand}(hS:St cx w L) (hi:nth L i=some (j.res h vl css)) (hx:ρ.ev x=vl) (hn:css.length=n) (h:Q0 P l Q (upd ρ d (.int .i64 n)) w):Q0 P (⟨none, .len d x⟩::l) Q ρ w:=
 QQ (JP.opn hS hi) hx nth2 hn h
end
variable {cx:Cx}{w:World}{L:List Res}{j:JP}{h:List Bool}{vl:Value}{css:List (List Value)}{i:Nat}{m:Module}
theorem jhas_c {r:Int}(hS:St cx w L) (hi:nth L i=some (j.res h vl css)):Rets Tryz.prog Q65 [.pointer (some ⟨j.hp,0,none⟩), .int .i64 r] w fun u w'=> u= .bool (hasB h r)∧St cx w' L:=by
 obtain ⟨v,h2⟩:=Q3F (JP.opn hS hi).mv1
 refine (has_u h2).mono ?_
 rintro u w' ⟨h3,h4⟩
 exact ⟨h3,JP.cls0 hi (Q3f h4).mv1⟩
theorem jlen_c (hS:St cx w L) (hi:nth L i=some (j.res h vl css)):Rets Tryz.prog Q64 [.pointer (some ⟨j.hp,0,none⟩)] w fun u w'=> u= .int .i64 h.length∧St cx w' L:=by
 obtain ⟨v,h2⟩:=Q3F (JP.opn hS hi).mv1
 refine (len_u h2).mono ?_
 rintro u w' ⟨h3,h4⟩
 exact ⟨h3,JP.cls0 hi (Q3f h4).mv1⟩
theorem jlist_c (hl:h.length≤16) (hS:St cx w L) (hi:nth L i=some (j.res h vl css)):Rets Tryz.prog Q5n [.pointer (some ⟨j.hp,0,none⟩)] w fun u w'=>∃c',cx.Le c'∧intR.sl c' u (Q3g h)∧St c' w' L:=by
 obtain ⟨v,h2⟩:=Q3F (JP.opn hS hi).mv1
 refine (list_u hl h2).mono ?_
 rintro u w' ⟨c',h3,h5,h4⟩
 exact ⟨c',h3,h5,JP.cls0 hi (Q3f h4).mv1⟩
theorem jopen_c (hl:h.length < 16) (hS:St cx w L) (hi:nth L i=some (j.res h vl css)):Rets Tryz.prog Q5m [.pointer (some ⟨j.hp,0,none⟩)] w fun u w'=> u= .int .i64 h.length∧St cx w' (L.set i (j.res (h++[true]) vl css)):=by
 obtain ⟨v,h2⟩:=Q3F (JP.opn hS hi).mv1
 refine (open_u hl h2).mono ?_
 rintro u w' ⟨h3,v',h4⟩
 exact ⟨h3,JP.cls hi (Q3f h4).mv1⟩
theorem jshut_c {r:Int}(hr:hasB h r=true) (hS:St cx w L) (hi:nth L i=some (j.res h vl css)):Rets Tryz.prog Q5k [.pointer (some ⟨j.hp,0,none⟩), .int .i64 r] w fun u w'=> u= .bool true∧St cx w' (L.set i (j.res (h.set r.toNat false) vl css)):=by
 obtain ⟨v,h2⟩:=Q3F (JP.opn hS hi).mv1
 refine (shut_u hr h2).mono ?_
 rintro u w' ⟨h3,h4⟩
 exact ⟨h3,JP.cls hi (Q3f h4).mv1⟩
theorem jpass_c {v2:Value}{xs:List Int}(hl:h.length≤16) (hx:intR.sl cx v2 xs) (hS:St cx w L) (hi:nth L i=some (j.res h vl css)):Rets Tryz.prog Q5l [.pointer (some ⟨j.hp,0,none⟩),v2] w fun u w'=> u= .int .i64 (Q1L h [] xs)∧St cx w' L:=by
 obtain ⟨v,h2⟩:=Q3F (JP.opn hS hi).mv1
 refine (pass_u hl hx h2).mono ?_
 rintro u w' ⟨h3,c',h5,h4⟩
 exact ⟨h3,St.weak (JP.cls0 hi (Q3f h4).mv1) h5⟩

@[reducible] def Q68 (c:Int):Value:= .iface 297 (.int .i64 c)
theorem Q2i {c:Int}(hS:St cx w L):Rets Tryz.prog Q6G [.bool false, .int .i64 c] w fun u w'=> u= .tuple #[]∧St cx w' L:=by
 all_goals refine lgo tyD Tryz.func240 ?_
 all_goals (refine Zaf ?_)
 all_goals refine zcf ?_
 all_goals (refine zsk ?_;refine Qz ?_;exact ⟨_,rfl,rfl,hS.sp⟩)
theorem Q2h {c:Int}(hS:St cx w L):Fins Tryz.prog Q6G [.bool true, .int .i64 c] w (fun _ _=> False) (fun u w'=> u=Q68 c∧St cx w' L):=by
 unfold Fins
 all_goals refine lgo tyD Tryz.func240 ?_
 all_goals (refine Zaf ?_)
 all_goals refine zct ?_
 all_goals (refine Zae ?_;refine zki ?_;refine Q9T rfl ?_;(repeat (refine Yba ?_));refine Qc ?_;exact .inr ⟨_,rfl,rfl,hS.sp⟩)
theorem Q3d {b:Bool}{c:Int}(hS:St cx w L):Fins Tryz.prog Q6G [.bool b, .int .i64 c] w (fun u w'=> u= .tuple #[]∧b=false∧St cx w' L) (fun u w'=> u=Q68 c∧b=true∧St cx w' L):=by
 cases b with
 | false=> exact ((Q2i hS).mono fun u w' h=> (⟨h.1,rfl,h.2⟩:u= .tuple #[]∧false=false∧St cx w' L)).ends
 | true=> exact (Q2h hS).mono (fun _ _ h=> h.elim) (fun _ _ h=> ⟨h.1,rfl,h.2⟩)
theorem Q4U {s:JS}{k:Int}(hls:tyR.ls cx css s.l) (hS:St cx w L) (hi:nth L i=some (j.res h vl css)):Fins Tryz.prog Q6H [.pointer (some ⟨j.sp,0,none⟩), .int .i64 k] w
 (fun u w'=>∃t cs,jval s k= .ok t∧u= .agg ⟨cs⟩∧tyR.at cx cs t∧St cx w' L) (fun u w'=>∃c,jval s k= .error c∧u=Q68 c∧St cx w' L):=by
 have hlc:=hls.1
 have hS:=JP.opn hS hi
 unfold Fins
 all_goals refine lgo tyD Tryz.func247 ?_
 all_goals (refine Zbe ?_;intro p4 w1 hS;refine Zaz ?_)
 all_goals (first|(refine Q15 ?_)|(refine Q1c ?_)|(refine Qu rfl rfl (fun hc=> ?_) (fun hc=> ?_)))
 all_goals (refine Zbl ?_;refine Zbv ?_;(first|refine zgn ?_|(refine zgy ?_;refine QQ hS vw fd hlc ?_)))
 all_goals (first|refine zgn ?_|(refine zgy ?_;(first|(refine Q2n ?_)|(refine Q2Z ?_)|(refine Q1r rfl rfl (fun hc=> ?_) (fun hc=> ?_)))))
 all_goals (refine Yae ?_)
 all_goals (first|(refine zR2 (c:=Q2i hS) (h:=?_);rintro v1 w1 ⟨rfl,hS⟩)|(refine zE2 (c:=Q2h hS) (p:=by rintro v9 w9 ⟨rfl,hS⟩;(repeat (first|refine Q2 ?_|refine Q3 ?_|refine fun _=> ?_));refine Qc ?_;refine .inr ⟨_,rfl,?_⟩;first|(exact ⟨_,jval_no (by omega),rfl,(JP.cls0 hi hS.sp)⟩)) (h:=fun _ _ h=> h.elim)))
 all_goals (refine Zal ?_;obtain ⟨t,ht⟩:∃t,s.l[k.toNat]?=some t:=⟨_,List.getElem?_eq_getElem (by omega)⟩;obtain ⟨d,hd,hrd⟩:=hls.2 _ _ ht;obtain ⟨vd,rfl,hld⟩:=Qr hrd;refine Zbt ?_;refine zf0 ?_;refine zl hS ?_;refine zm ?_;(first|(refine Yam ?_;intro b1 o1 cs1 x1 hat1 hx1 he1;obtain ⟨vl1,rfl,hl1⟩:=Qr he1)|(refine zie hS ?_;intro b1 o1 hel1)|(refine zij hS ?_;intro b1 o1 hel1));refine Q7u hS hel1 rfl fd rfl hd ?_;refine zsn hS ?_;intro w1 hS;have hS:=hS.ns;refine ZaS ?_;refine Q1z vw (Q9 (n:=3) (by kernel_rfl) (by kernel_rfl) (hS.blkAt fd) (by rfl) (by rfl)) ?_;exact .inl ⟨_,rfl,t,_,Qaf (by omega) ht,rfl,hrd,(JP.cls0 hi hS.sp)⟩)
theorem Q44 {s:JS}{k kd:Int}(hls:tyR.ls cx css s.l) (hS:St cx w L) (hi:nth L i=some (j.res h vl css)):Fins Tryz.prog Q7m [.pointer (some ⟨j.sp,0,none⟩), .int .i64 k, .int .i64 kd] w
 (fun u w'=>∃t cs,Q29 s k kd= .ok t∧u= .agg ⟨cs⟩∧tyR.at cx cs t∧St cx w' L) (fun u w'=>∃c,Q29 s k kd= .error c∧u=Q68 c∧St cx w' L):=by
 have hS:=hS.out hi
 unfold Fins Q29
 all_goals refine lgo tyD Tryz.func239 ?_
 all_goals (refine Zbe ?_;intro p6 w1 hS;refine Zaz ?_;refine zm ?_;refine zE2 (c:=Q4U hls hS fd) (p:=by rintro v9 w9 ⟨c,h1,rfl,hS⟩;(repeat (first|refine Q2 ?_|refine Q3 ?_|refine fun _=> ?_));refine Qc ?_;refine .inr ⟨_,rfl,?_⟩;exact ⟨_,QF h1,rfl,(St.back0 hS.sp hi)⟩) (h:=?_);rintro v1 w1 ⟨t,cs,h1,rfl,hrd,hS⟩;have hrd':=hrd;obtain ⟨vd,rfl,hld⟩:=Qr hrd;refine Qg hS ?_;intro p7 w1 hS;refine zsn hS ?_;intro w1 hS;have hS:=hS.ns;refine ZaD ?_;refine zf0 ?_;refine zl hS ?_;refine zm ?_)
 all_goals (first|(refine Q1D ?_)|(refine Q1M ?_)|(refine QI rfl rfl (fun hc=> ?_) (fun hc=> ?_)))
 all_goals (first|(refine zR2 (c:=Q2i hS) (h:=?_);rintro v1 w1 ⟨rfl,hS⟩)|(refine zE2 (c:=Q2h hS) (p:=by rintro v9 w9 ⟨rfl,hS⟩;(repeat (first|refine Q2 ?_|refine Q3 ?_|refine fun _=> ?_));refine Qc ?_;refine .inr ⟨_,rfl,?_⟩;first|(exact ⟨_,(Qd h1).trans (if_pos (by omega)),rfl,(St.back0 hS.sp hi)⟩)) (h:=fun _ _ h=> h.elim)))
 all_goals (refine ZaD ?_;refine zv hS ?_;refine zsn hS ?_;intro w1 hS;have hS:=hS.ns;refine ZaS ?_;refine Q1z vw (Q9 (n:=3) (by kernel_rfl) (by kernel_rfl) (hS.blkAt fd) (by rfl) (by rfl)) ?_;exact .inl ⟨_,rfl,t,_,(Qd h1).trans (if_neg (by omega)),rfl,hrd',(St.back0 hS.sp hi)⟩)
theorem Q93 {s:JS}{k kd:Int}(hls:tyR.ls cx css s.l) (hS:St cx w L) (hi:nth L i=some (j.res s.h vl css)):Fins Tryz.prog Q92 [.pointer (some ⟨j.sp,0,none⟩), .int .i64 k, .int .i64 kd] w
 (fun u w'=>∃t cs,jat s k kd= .ok t∧u= .agg ⟨cs⟩∧tyR.at cx cs t∧St cx w' L) (fun u w'=>∃c,jat s k kd= .error c∧u=Q68 c∧St cx w' L):=by
 have hS:=hS.out hi
 unfold Fins jat
 all_goals refine lgo tyD Tryz.func243 ?_
 all_goals (refine Zbe ?_;intro p6 w1 hS;refine Zaz ?_;refine ZaT ?_;refine zE3 (c:=Q44 hls hS fd) (p:=by rintro v9 w9 ⟨c,h1,rfl,hS⟩;(repeat (first|refine Q2 ?_|refine Q3 ?_|refine fun _=> ?_));refine Qc ?_;refine .inr ⟨_,rfl,?_⟩;exact ⟨_,QF h1,rfl,(St.back0 hS.sp hi)⟩) (h:=?_);rintro v1 w1 ⟨t,cs,h1,rfl,hrd,hS⟩;have hrd':=hrd;obtain ⟨vd,rfl,hld⟩:=Qr hrd;refine Qg hS ?_;intro p7 w1 hS;refine zsn hS ?_;intro w1 hS;have hS:=hS.ns;refine Zal ?_;refine zD (ci 9 [6,8]) ?_;have hS:=hS.drew;refine ZaA ?_;refine zf0 ?_;refine Q1v hS rfl fd rfl ?_;refine zf0 ?_;refine Yag ?_;refine zR2 (c:=jhas_c hS fd) (h:=?_);rintro v1 w1 ⟨rfl,hS⟩;refine znt ?_)
 all_goals (first|(refine zR2 (c:=Q2i hS) (h:=?_);rintro v1 w1 ⟨rfl,hS⟩)|(refine zE2 (c:=Q2h hS) (p:=by rintro v9 w9 ⟨rfl,hS⟩;(repeat (refine Q2 ?_));refine Qc ?_;refine .inr ⟨_,rfl,?_⟩;first|(exact ⟨_,(Qd h1).trans (if_pos (by simpa using hb)),rfl,(St.back0 hS.sp hi)⟩)) (h:=fun _ _ h=> h.elim))|(refine zE2 (c:=Q3d hS) (p:=by rintro v9 w9 ⟨rfl,hb,hS⟩;(repeat (first|refine Q2 ?_|refine Q3 ?_|refine fun _=> ?_));refine Qc ?_;refine .inr ⟨_,rfl,?_⟩;first|(exact ⟨_,(Qd h1).trans (if_pos (by simpa using hb)),rfl,(St.back0 hS.sp hi)⟩)) (h:=?_);rintro v1 w1 ⟨rfl,hb,hS⟩))
 all_goals (refine ZaD ?_;refine zv hS ?_;refine zsn hS ?_;intro w1 hS;have hS:=hS.ns;refine ZaS ?_;refine Q1z vw (Q9 (n:=3) (by kernel_rfl) (by kernel_rfl) (hS.blkAt fd) (by rfl) (by rfl)) ?_;exact .inl ⟨_,rfl,t,_,(Qd h1).trans (if_neg (by simpa using hb)),rfl,hrd',(St.back0 hS.sp hi)⟩)
end Go.Proofs.YteflkifmgnpbhaaGreat
namespace Go.Proofs.YteflkifmgnpbhaaGreat
open Go.Lir
set_option maxHeartbeats 1000000
attribute [local irreducible] LC.wp Q0 Qk Qh retQ Qt LO.wp Q4 Calls
set_option linter.unusedSimpArgs false
set_option linter.unusedVariables false
attribute [local irreducible] hasB Q3g Q1L Q1U
variable {cx:Cx}{w:World}{L:List Res}{j:JP}{h:List Bool}{vl:Value}{css:List (List Value)}{i:Nat}{m:Module}
theorem Q5V {s:JS}{t:Ty}{cs:List Value}(hn:s.l.length≤100000) (ht:tyR.at cx cs t) (hls:tyR.ls cx css s.l) (hS:St cx w L) (hi:nth L i=some (j.res h vl css)):Fins Tryz.prog Q8b [.pointer (some ⟨j.sp,0,none⟩), .agg ⟨cs⟩] w
 (fun u w'=> u= .tuple #[]∧s.l.length≠80∧∃vl' css',tyR.ls cx css' (s.l++[t])∧St cx w' (L.set i (j.res h vl' css'))) (fun u w'=> u=Q68 2∧s.l.length=80∧St cx w' L):=by
 have hlc:=hls.1
 have hS:=JP.opn hS hi
 have ht':=ht
 obtain ⟨vd,rfl,hld⟩:=Qr ht
 have hz:tyR.at cx [.int .i64 0, .int .i64 0, .slice none 0 0] (.mk 0 0 []):=Q2R (Rep.SR.nil _ _ _)
 unfold Fins
 all_goals refine lgo tyD Tryz.func238 ?_
 all_goals (refine Zat ?_;intro p3 w1 hS;refine ZbD ?_;refine zf0 ?_;refine zl hS ?_;refine QQ hS vw fd hlc ?_)
 all_goals (first|(refine Ql ?_)|(refine Qo ?_)|(refine Q8 rfl rfl (fun hc=> ?_) (fun hc=> ?_)))
 all_goals (first|(refine zR2 (c:=Q2i hS) (h:=?_);rintro v1 w1 ⟨rfl,hS⟩)|(refine zE2 (c:=Q2h hS) (p:=by rintro v9 w9 ⟨rfl,hS⟩;(repeat (first|refine Q2 ?_|refine Q3 ?_|refine fun _=> ?_));refine Qc ?_;refine .inr ⟨_,rfl,?_⟩;first|(exact ⟨rfl,by omega,(JP.cls0 hi hS.sp)⟩)) (h:=fun _ _ h=> h.elim)))
 all_goals (refine zn ?_)
 refine Q1N 9 12 (by kernel_rfl) ?_ ?_
 · skip
   all_goals (refine zC [(0,none),(1,none),(2,none),(3,none),(4,none),(5,none),(6,some (some [3,4])),(7,some none),(8,none),(10,none),(11,none),(9,some (some [])),(12,some none)] ?_;have hS:=hS.drew;refine ZaW ?_;refine zf0 ?_;refine Zab ?_;refine zl hS ?_;refine Zab ?_;refine zv hS ?_;refine Zab ?_;refine QQ hS vw fd hlc ?_;refine Zaj ?_;refine zB1 hS [_,_,_] ?_;intro b1 w1 hS;refine ZaC ?_;refine za Q6c QaS hS ?_;intro vp1 w1 css1 hls1 hv1 hS;have hS:=hS.ns;refine Zab ?_;have hl1:=hls1.1;rw [List.length_append,List.length_cons,List.length_nil] at hl1;obtain ⟨d1,hd1,_⟩:=hls1.2 s.l.length (.mk 0 0 []) (by simp);(first|(refine Yam ?_;intro b1 o1 cs1 x1 hat1 hx1 he1;obtain ⟨vl1,rfl,hl1⟩:=Qr he1)|(refine zie hS ?_;intro b1 o1 hel1)))
   all_goals (refine Zab ?_;refine Zaw ?_;refine zf0 ?_;refine Zaj ?_;refine Q7R hS hel1 rfl rfl rfl fd rfl hd1 rfl (tyR.one ht') ?_;intro w3 hS;have hS:=hS.ns;refine ZaC ?_;refine zst hS ?_;intro w1 hS;have hS:=hS.ns;refine Zao ?_;refine Qz ?_;have hls2:=Rep.LR.set (i:=s.l.length) hls1 ht';rw [List.set_append_right _ _ (Nat.le_refl _),Nat.sub_self,List.set_cons_zero] at hls2;exact .inl ⟨_,rfl,rfl,by omega,_,_,hls2,(JP.cls hi hS.sp)⟩)
 · skip
   all_goals (refine zC [(0,none),(1,none),(2,none),(3,none),(4,none),(5,none),(6,some (some [3,4])),(7,some none),(8,none),(10,none),(11,none),(12,some (some [])),(9,some (some []))] ?_;have hS:=hS.drew;refine ZaW ?_;refine zf0 ?_;refine Zab ?_;refine zl hS ?_;refine Zab ?_;refine zv hS ?_;refine Zab ?_;refine QQ hS vw fd hlc ?_;refine Zaj ?_;refine zB1 hS [_,_,_] ?_;intro b1 w1 hS;refine ZaC ?_;refine za Q6c QaS hS ?_;intro vp1 w1 css1 hls1 hv1 hS;have hS:=hS.ns;refine Zab ?_;have hl1:=hls1.1;rw [List.length_append,List.length_cons,List.length_nil] at hl1;obtain ⟨d1,hd1,_⟩:=hls1.2 s.l.length (.mk 0 0 []) (by simp);(first|(refine Yam ?_;intro b1 o1 cs1 x1 hat1 hx1 he1;obtain ⟨vl1,rfl,hl1⟩:=Qr he1)|(refine zie hS ?_;intro b1 o1 hel1)))
   all_goals (refine Zab ?_;refine Zaw ?_;refine zf0 ?_;refine Zaj ?_;refine zst hS ?_;intro w1 hS;have hS:=hS.ns;refine Zay ?_;refine Q7R hS hel1 rfl rfl rfl fd rfl hd1 rfl (tyR.one ht') ?_;intro w3 hS;have hS:=hS.ns;refine Zai ?_;refine zcn ?_;refine Qz ?_;have hls2:=Rep.LR.set (i:=s.l.length) hls1 ht';rw [List.set_append_right _ _ (Nat.le_refl _),Nat.sub_self,List.set_cons_zero] at hls2;exact .inl ⟨_,rfl,rfl,by omega,_,_,hls2,(JP.cls hi hS.sp)⟩)
theorem Q7B {t:Ty}{k:Int}{cs:List Value}(hk:0≤k) (ht:tyR.at cx cs t) (hS:St cx w L):Fins Tryz.prog Q6J [.pointer (some ⟨j.sp,0,none⟩), .agg ⟨cs⟩, .int .i64 k] w
 (fun u w'=>∃t' cs',Q3E t k= .ok t'∧u= .agg ⟨cs'⟩∧tyR.at cx cs' t'∧St cx w' L) (fun u w'=>∃c,Q3E t k= .error c∧u=Q68 c∧St cx w' L):=by
 obtain ⟨vd,rfl,hld⟩:=Qr ht
 unfold Fins Q3E
 all_goals refine lgo tyD Tryz.func246 ?_
 all_goals (refine Zat ?_;intro p4 w1 hS;refine Qg hS ?_;intro p6 w1 hS;refine Zaz ?_;refine zf0 ?_;refine zl hS ?_;refine zL ?_)
 all_goals (first|(refine Q2n ?_)|(refine Q2Z ?_)|(refine Q1r rfl rfl (fun hc=> ?_) (fun hc=> ?_)))
 all_goals (first|(refine zR2 (c:=Q2i hS) (h:=?_);rintro v1 w1 ⟨rfl,hS⟩)|(refine zE2 (c:=Q2h hS) (p:=by rintro v9 w9 ⟨rfl,hS⟩;(repeat (first|refine Q2 ?_|refine Q3 ?_|refine fun _=> ?_));refine Qc ?_;refine .inr ⟨_,rfl,?_⟩;first|(exact ⟨_,by rw [List.getElem?_eq_none (by omega)],rfl,hS.sp⟩)) (h:=fun _ _ h=> h.elim)))
 all_goals (refine ZaD ?_;refine zf0 ?_;refine zl hS ?_;refine zm ?_;refine s_idxL vw rfl hld rfl hk (by omega) ?_;intro b1 o1 cs1 x1 hat1 hx1 he1;have he1':=he1;obtain ⟨vl1,rfl,hl1⟩:=Qr he1;refine Yai ?_;refine zsn hS ?_;intro w1 hS;have hS:=hS.ns;refine ZaS ?_;refine Q1z vw (Q9 (n:=3) (by kernel_rfl) (by kernel_rfl) (hS.blkAt fd) (by rfl) (by rfl)) ?_;exact .inl ⟨_,rfl,x1,_,by rw [hx1],rfl,he1',hS.sp⟩)
theorem QcA {s:JS}{l regs:List Int}{want:List Ty}{v1 v2 v3:Value}(hsh:∀t∈want,t.Short) (hls:tyR.ls cx css s.l) (h1:intR.sl cx v1 l) (h2:tyR.sl cx v2 want) (h3:intR.sl cx v3 regs) (hS:St cx w L) (hi:nth L i=some (j.res h vl css)):
 Fins Tryz.prog Q7o [.pointer (some ⟨j.sp,0,none⟩),v1,v2,v3] w
 (fun u w'=> Q58 s l want regs= .ok ()∧u= .tuple #[]∧St cx w' L) (fun u w'=>∃c,Q58 s l want regs= .error c∧u=Q68 c∧St cx w' L):=by
 have hl1:=h1.len
 have hl2:=h2.len
 have hS:=hS.out hi
 have hle:=St.refl hS
 unfold Fins Q58
 all_goals refine lgo tyD Tryz.func250 ?_
 all_goals (refine Zac ?_;refine zL ?_;refine zm ?_;refine zL ?_)
 all_goals (first|(refine Q1D ?_)|(refine Q1M ?_)|(refine QI rfl rfl (fun hc=> ?_) (fun hc=> ?_)))
 all_goals (first|(refine zR2 (c:=Q2i hS) (h:=?_);rintro v1 w1 ⟨rfl,hS⟩)|(refine zE2 (c:=Q2h hS) (p:=by rintro v9 w9 ⟨rfl,hS⟩;(repeat (first|refine Q2 ?_|refine Q3 ?_|refine fun _=> ?_));refine Qc ?_;refine .inr ⟨_,rfl,?_⟩;first|(exact ⟨_,if_pos (by omega),rfl,(St.back0 hS.sp hi)⟩)|(exact ⟨_,by rw [if_neg (by omega),hd];exact Qcy hx1 hx2 g1 hn,rfl,St.weak (St.back0 hS.sp hi) hL0⟩)|(exact ⟨_,by rw [if_neg (by omega),hd];exact Qcz hx1 hx2 g1 hn (by simpa using hb),rfl,St.weak (St.back0 hS.sp hi) hL0⟩)) (h:=fun _ _ h=> h.elim)))
 all_goals (refine Zaz ?_;refine zL ?_;refine ZaB ?_)
 refine zoL hS [0,2,3,19,20] (fun A LL ρ' w'=>∃(k0:Cx) (q:Nat),Has ρ' A∧Has ρ' [(21, .int .i64 q)]∧(cx.Le k0)∧(q≤l.length)∧(Q25 s regs l want=Q25 s regs (l.drop q) (want.drop q))∧(want.length=l.length)∧St k0 w' (LL)) (fun ρ' _=> (l.length - iv (ρ' 21)).toNat) ?_ ?_
 · exact ⟨cx,0,zh,zh,St.refl hS,(by omega),by rfl,by omega,hS.sp⟩
 rintro ρ w1 ⟨k0,q,hA,hρ,hle2,hq,hd,hw,hS⟩;obtain ⟨ρ,rfl⟩:=env2 hA hρ;have hL0:=hle2;(try have hle:=hle.trans hle2);(try have hls:=hls.up hle2);(try have h1:=h1.up hle2);(try have h2:=h2.up hle2);(try have h3:=h3.up hle2)
 all_goals (refine ZaI ?_)
 refine Qq rfl (fun hc=> ?_) (fun hc=> ?_)
 · skip
   all_goals (refine Zbp ?_;(first|(refine Q6u vw rfl h2 rfl (by omega) ?_);intro b2 o2 cs2 x2 hat2 hx2 he2;have he2':=he2;obtain ⟨vl2,rfl,hl2⟩:=Qr he2|(refine zi ?_;intro b1 o1 cs1 x1 hat1 hx1 he1;obtain rfl:=QY he1));refine Yat ?_;refine zm ?_;refine ZaL ?_;refine zm ?_;refine zE2 (c:=Q4U hls hS fd) (p:=by rintro v9 w9 ⟨c,g1,rfl,hS⟩;(repeat (first|refine Q2 ?_|refine Q3 ?_|refine fun _=> ?_));refine Qc ?_;refine .inr ⟨_,rfl,?_⟩;exact ⟨_,by rw [if_neg (by omega),hd];exact jargs_e hx1 (List.getElem?_eq_getElem (by omega)) g1,rfl,St.weak (St.back0 hS.sp hi) hL0⟩) (h:=?_);rintro v1 w1 ⟨t,cs,g1,rfl,hrd,hS⟩;have hrd':=hrd;obtain ⟨vd,rfl,hld⟩:=Qr hrd;refine Qg hS ?_;intro p10 w1 hS;refine zsn hS ?_;intro w1 hS;have hS:=hS.ns;refine Zaz ?_;refine zm ?_;refine Q6u vw rfl h2 rfl (by omega) ?_;intro b2 o2 cs2 x2 hat2 hx2 he2;have he2':=he2;obtain ⟨vl2,rfl,hl2⟩:=Qr he2)
   all_goals (refine Yai ?_;refine zm ?_)
   all_goals (refine zR2 (c:=pren_c x2 (hsh x2 (List.mem_of_getElem? hx2)) he2' h3 hS) (h:=?_);rintro v1 w1 ⟨c3,ds,rfl,hle2,hu3,hS⟩;(try have hle:=hle.trans hle2);(try have hL0:=hL0.trans hle2);(try have hl2:=hl2.up hle2);(try have he2:=he2.up hle2);(try have hls:=hls.up hle2);(try have h1:=h1.up hle2);(try have h2:=h2.up hle2);(try have h3:=h3.up hle2);have hrd':=Rep.R.up hrd' hle2;cases hn:x2.ren regs <;> rw [hn] at hu3 <;> simp only [Option.getD_none,Option.getD_some] at hu3 <;> (have hu3':=hu3) <;> obtain ⟨vu,rfl,hlu⟩:=Qr hu3)
   all_goals (refine ZbI ?_;intro p11 w1 hS;refine zsn hS ?_;intro w1 hS;have hS:=hS.ns;refine Zad ?_;refine Zae ?_;refine znt ?_;refine zm ?_;(first|refine zgn ?_|(refine zgy ?_;refine zv hS ?_));(first|refine zgn ?_|(refine zgy ?_;refine zv hS ?_));(first|(refine zgn ?_)|(refine zgy ?_;refine zR2 (c:=Q85 _ _ hrd' hu3' hS) (h:=?_);rintro v1 w1 ⟨rfl,hS⟩));refine Yak ?_;refine Yae ?_)
   all_goals (first|(refine zR2 (c:=Q2i hS) (h:=?_);rintro v1 w1 ⟨rfl,hS⟩)|(refine zE2 (c:=Q2h hS) (p:=by rintro v9 w9 ⟨rfl,hS⟩;(repeat (first|refine Q2 ?_|refine Q3 ?_|refine fun _=> ?_));refine Qc ?_;refine .inr ⟨_,rfl,?_⟩;first|(exact ⟨_,if_pos (by omega),rfl,(St.back0 hS.sp hi)⟩)|(exact ⟨_,by rw [if_neg (by omega),hd];exact Qcy hx1 hx2 g1 hn,rfl,St.weak (St.back0 hS.sp hi) hL0⟩)|(exact ⟨_,by rw [if_neg (by omega),hd];exact Qcz hx1 hx2 g1 hn (by simpa using hb),rfl,St.weak (St.back0 hS.sp hi) hL0⟩)) (h:=fun _ _ h=> h.elim))|(refine zE2 (c:=Q3d hS) (p:=by rintro v9 w9 ⟨rfl,hb,hS⟩;(repeat (first|refine Q2 ?_|refine Q3 ?_|refine fun _=> ?_));refine Qc ?_;refine .inr ⟨_,rfl,?_⟩;first|(exact ⟨_,if_pos (by omega),rfl,(St.back0 hS.sp hi)⟩)|(exact ⟨_,by rw [if_neg (by omega),hd];exact Qcy hx1 hx2 g1 hn,rfl,St.weak (St.back0 hS.sp hi) hL0⟩)|(exact ⟨_,by rw [if_neg (by omega),hd];exact Qcz hx1 hx2 g1 hn (by simpa using hb),rfl,St.weak (St.back0 hS.sp hi) hL0⟩)) (h:=?_);rintro v1 w1 ⟨rfl,hb,hS⟩))
   all_goals (refine Zbi ?_;refine zad ?_;refine Zad ?_;exact ⟨⟨_,q+1,zh,zh,hL0,(by omega),by rw [hd,jargs_s hx1 hx2 g1 hn (by simpa using hb)],hw,hS.sp⟩,Qv (by omega)⟩)
 · skip
   all_goals (refine zex ?_;refine Qz ?_;exact .inl ⟨_,rfl,(by rw [if_neg (by omega),hd,jargs_z (by omega)]),rfl,St.weak (St.back0 hS.sp hi) hL0⟩)
theorem iindex_c {s:List Int}{c:Int}{v:Value}(hK:intR.sl cx v s) (hS:St cx w L):Rets Tryz.prog Q55 [v, .int .i64 c] w fun u w'=>∃r:Int,u= .int .i64 r∧(0≤r↔c∈s)∧St cx w' L:=by
 have hlen:=hK.len
 all_goals refine lgo tyD Tryz.func89 ?_
 all_goals (refine ZaQ ?_;refine zL ?_;refine ZaB ?_)
 refine zoL hS [0,1,7] (fun A LL ρ' w'=>∃(j:Nat),Has ρ' A∧Has ρ' [(8, .int .i64 j)]∧(j≤s.length)∧(c∈s↔c∈s.drop j)∧St cx w' (LL)) (fun ρ' _=> (s.length - iv (ρ' 8)).toNat) ?_ ?_
 · exact ⟨0,zh,zh,(by omega),by simp,hS.sp⟩
 rintro ρ w1 ⟨j,hA,hρ,hj,hd,hS⟩;obtain ⟨ρ,rfl⟩:=env2 hA hρ
 all_goals (refine ZaI ?_)
 refine Qq rfl (fun hc=> ?_) (fun hc=> ?_)
 · skip
   all_goals (refine Zbp ?_;refine ZaL ?_;refine ZaT ?_;refine zi ?_;intro b1 o1 cs1 x1 hat1 hx1 he1;obtain rfl:=QY he1;refine Yat ?_)
   all_goals (first|(refine Ql ?_)|(refine Qo ?_)|(refine Q8 rfl rfl (fun hc=> ?_) (fun hc=> ?_)))
   all_goals (refine zn ?_)
   all_goals
    first
    | (refine zct ?_
       all_goals (refine Zbq ?_)
       all_goals (exact ⟨_,rfl,j,rfl,⟨fun _=> by rw [hd,Qb hx1,List.mem_cons];exact .inl (by omega),fun _=> by omega⟩,hS.sp⟩))
    | (refine zcf ?_
       all_goals refine zsk ?_)
   all_goals (refine Q10 ?_;refine zad ?_;refine Zad ?_)
   all_goals (exact ⟨⟨j+1,zh,zh,(by omega),by rw [hd,Qb hx1,List.mem_cons];exact ⟨fun h=> h.resolve_left (by omega), .inr⟩,hS.sp⟩,Qv (by omega)⟩)
 · skip
   all_goals (refine ZbL ?_)
   all_goals (first|(exact ⟨_,rfl,j,rfl,⟨fun _=> by rw [hd,Qb hx1,List.mem_cons];exact .inl (by omega),fun _=> by omega⟩,hS.sp⟩)|(exact ⟨_,rfl, -1,rfl,⟨fun h=> by omega,fun h=> by rw [hd,List.drop_of_length_le (by omega)] at h;cases h⟩,hS.sp⟩))
theorem QcD {s:List Int}{c:Int}{v:Value}(hK:intR.sl cx v s) (hS:St cx w L):Rets Tryz.prog Q3Q [v, .int .i64 c] w fun u w'=> u= .bool (decide (c∈s))∧St cx w' L:=by
 all_goals refine lgo tyD Tryz.func262 ?_
 all_goals (refine Zaf ?_;refine ZaX ?_;refine zR2 (c:=iindex_c hK hS) (h:=?_);rintro v1 w1 ⟨r,rfl,hr,hS⟩)
 all_goals (first|(refine Q2n ?_)|(refine Q2Z ?_)|(refine Q1r rfl rfl (fun hc=> ?_) (fun hc=> ?_)))
 all_goals (refine Zap ?_)
 all_goals (refine ⟨_,rfl,?_,hS.sp⟩;(first|rw [decide_eq_true (hr.1 (by omega))]|rw [decide_eq_false (fun h=> by have:=hr.2 h;omega)]);done)
def JOk (cx:Cx) (L:List Res) (j:JP) (i:Nat) (r:Except Int JS) (u:Value) (w':World):Prop:=u= .tuple #[]∧∃c' s' vl' css',cx.Le c'∧r= .ok s'∧tyR.ls c' css' s'.l∧St c' w' (L.set i (j.res s'.h vl' css'))
def JNo {α:Type}(cx:Cx) (L:List Res) (r:Except Int α) (u:Value) (w':World):Prop:=∃e,r= .error e∧u=Q68 e∧St cx w' L
theorem jregs_b {h:List Bool}{p l:List Int}{q:Nat}{x:Int}(hx:l[q]?=some x) (hd:Q2u h [] l=Q2u h (l.take q) (l.drop q)) (hb:hasB h x=false):Q2u h [] l= .error 10:=by
 rw [hd,Qb hx,Q2u,if_pos hb]
theorem Qcx {h:List Bool}{l:List Int}{q:Nat}{x:Int}(hx:l[q]?=some x) (hd:Q2u h [] l=Q2u h (l.take q) (l.drop q)) (hb:hasB h x=true) (ht:x∈l.take q):Q2u h [] l= .error 13:=by
 rw [hd,Qb hx,Q2u,if_neg (by rw [hb];decide),if_pos ht]
theorem jregs_s {h:List Bool}{l:List Int}{q:Nat}{x:Int}(hx:l[q]?=some x) (hd:Q2u h [] l=Q2u h (l.take q) (l.drop q)) (hb:hasB h x=true) (ht:x∉l.take q):Q2u h [] l=Q2u h (l.take (q+1)) (l.drop (q+1)):=by
 rw [hd,Qb hx,Q2u,if_neg (by rw [hb];decide),if_neg ht,Q2H hx]
theorem QfN {h:List Bool}{l:List Int}{q:Nat}(hd:Q2u h [] l=Q2u h (l.take q) (l.drop q)) (hq:l.length≤q):Q2u h [] l= .ok ():=by
 rw [hd,List.drop_of_length_le hq,Q2u]
theorem jcall_c {s:JS}{x:Ins}{cs:List Value}(hm:m.Short) (hk:0≤x.k∧x.k < m.funcs.length) (hn:s.l.length≤80) (hj:j.Fits cx m) (hx:insR.at cx cs x) (hls:tyR.ls cx css s.l) (hS:St cx w L) (hi:nth L i=some (j.res s.h vl css)):
 Fins Tryz.prog Q7n [.pointer (some ⟨j.sp,0,none⟩), .agg ⟨cs⟩] w (JOk cx L j i (Q5A m s x)) (JNo cx L (Q5A m s x)):=by
 have hS:=hS.out hi
 have hle:=St.refl hS
 obtain ⟨vr,va,rfl,hr,ha⟩:=QZ hx
 have hlr:=hr.len
 have hla:=ha.len
 have hm1:=hj.m
 unfold Fins
 all_goals refine lgo tyD Tryz.func248 ?_
 all_goals (refine Zat ?_;intro p3 w1 hS;refine Zal ?_;refine zC [(0,none),(1,none),(2,none),(3,none),(4,none),(5,none),(6,none),(7,none),(8,none),(9,some (some [4,6,8])),(10,some none)] ?_;have hS:=hS.drew;refine ZaW ?_;refine zf0 ?_;refine Zbb ?_;refine Q1v hS rfl fd rfl ?_;refine Zab ?_;refine zf0 ?_;refine Zbx ?_;refine Zab ?_;refine Yam ?_;intro b1 o1 cs1 x1 hat1 hx1 he1;obtain ⟨vp1,vr1,vb1,rfl,hp1,hr1,hb1⟩:=QG he1;refine Zab ?_;refine Yai ?_;refine ZaY ?_;intro p4 w1 hS;refine zt ?_;refine ⟨List.forall_mem_cons.2 ⟨(by (exact Q19 hS rfl fd rfl)),List.forall_mem_cons.2 ⟨(by first|(exact Q19 hS rfl fd rfl)|(exact QL hS rfl fd rfl)),List.forall_mem_cons.2 ⟨(by first|(exact Q19 hS rfl fd rfl)|(exact Q1V hS rfl fd rfl rfl)|(exact Q2D hS (by assumption) rfl rfl rfl)),fun _ h=> (List.not_mem_nil h).elim⟩⟩⟩,?_⟩)
 all_goals (refine s_cf ?_;refine zsn hS ?_;intro w1 hS;have hS:=hS.ns;refine Zao ?_;have ej:Q5A m s x=(if (x.regs.length:Int)≠x1.regs then .error 2 else QA (Q2u s.h [] x.regs) fun _=> QA (Q58 s x.args x1.params x.regs) fun _=> if 80 < s.l.length+x1.results.length then .error 2 else .ok ⟨s.h,s.l++x1.results.map (renT x.regs)⟩):=by {unfold Q5A;rw [hx1]};have hsf:=hm.2 x1 (List.mem_of_getElem? hx1);have hrl:=hr1.len;refine Zaa ?_;refine zf0 ?_;refine Yag ?_;(first|(refine Q9h hS fd vw hls.1 ?_)|(refine zL ?_));refine zf0 ?_;refine Yag ?_)
 all_goals (first|(refine Q1D ?_)|(refine Q1M ?_)|(refine QI rfl rfl (fun hc=> ?_) (fun hc=> ?_)))
 all_goals (first|(refine zR2 (c:=Q2i hS) (h:=?_);rintro v1 w1 ⟨rfl,hS⟩)|(refine zE2 (c:=Q2h hS) (p:=by rintro v9 w9 ⟨rfl,hS⟩;(repeat (first|refine Q2 ?_|refine Q3 ?_|refine fun _=> ?_));refine Qc ?_;refine .inr ⟨_,rfl,?_⟩;first|(exact ⟨_,ej.trans (if_pos (by omega)),rfl,(St.back0 hS.sp hi)⟩)|(exact ⟨_,by rw [ej,if_neg hne,QF (Qcx hx2 hd (by simpa using hb1) (of_decide_eq_true hb))],rfl,(St.back0 hS.sp hi)⟩)) (h:=fun _ _ h=> h.elim)))
 all_goals (refine Zbu ?_;refine zf0 ?_;refine Yag ?_;(first|(refine Q9h hS fd vw hls.1 ?_)|(refine zL ?_));refine ZaB ?_)
 refine zoL hS [0,3,4,28,29] (fun A LL ρ' w'=>∃(q:Nat),Has ρ' A∧Has ρ' [(30, .int .i64 q)]∧(q≤x.regs.length)∧(Q2u s.h [] x.regs=Q2u s.h (x.regs.take q) (x.regs.drop q))∧(¬(x.regs.length:Int)≠x1.regs)∧St cx w' (LL)) (fun ρ' _=> (x.regs.length - iv (ρ' 30)).toNat) ?_ ?_
 · exact ⟨0,zh,zh,(by omega),by rfl,by omega,hS.sp⟩
 rintro ρ w1 ⟨q,hA,hρ,hq,hd,hne,hS⟩;obtain ⟨ρ,rfl⟩:=env2 hA hρ
 all_goals (refine ZaI ?_)
 refine Qq rfl (fun hc=> ?_) (fun hc=> ?_)
 · skip
   all_goals (refine Zbp ?_;refine zi ?_;intro b2 o2 cs2 x2 hat2 hx2 he2;obtain rfl:=QY he2;(first|(refine Q1v hS rfl fd rfl ?_)|(refine zl hS ?_)|(refine zlk hS ?_));refine zm ?_;refine ZaL ?_;refine znc ?_;refine zf0 ?_;refine Q1v hS rfl fd rfl ?_;refine zm ?_;refine zR2 (c:=jhas_c hS fd) (h:=?_);rintro v1 w1 ⟨rfl,hS⟩;refine znt ?_;refine zE2 (c:=Q3d hS) (p:=by rintro v9 w9 ⟨rfl,hb,hS⟩;(repeat (first|refine Q2 ?_|refine Q3 ?_|refine fun _=> ?_));refine Qc ?_;refine .inr ⟨_,rfl,?_⟩;exact ⟨_,by rw [ej,if_neg hne,QF (jregs_b (p:=[]) hx2 hd (by simpa using hb))],rfl,(St.back0 hS.sp hi)⟩) (h:=?_);rintro v1 w1 ⟨rfl,hb1,hS⟩;refine Zbi ?_;refine zf0 ?_;refine Yag ?_;refine zm ?_)
   all_goals (refine QeY vw hr rfl rfl ⟨_,rfl⟩ rfl (by omega) (by omega) ?_;intro v4 hs4;rw [List.drop_zero] at hs4;refine zm ?_;refine zR2 (c:=QcD (by assumption) hS) (h:=?_);rintro v1 w1 ⟨rfl,hS⟩)
   all_goals (first|(refine zR2 (c:=Q2i hS) (h:=?_);rintro v1 w1 ⟨rfl,hS⟩)|(refine zE2 (c:=Q2h hS) (p:=by rintro v9 w9 ⟨rfl,hS⟩;(repeat (refine Q2 ?_));refine Qc ?_;refine .inr ⟨_,rfl,?_⟩;first|(exact ⟨_,ej.trans (if_pos (by omega)),rfl,(St.back0 hS.sp hi)⟩)|(exact ⟨_,by rw [ej,if_neg hne,QF (Qcx hx2 hd (by simpa using hb1) (of_decide_eq_true hb))],rfl,(St.back0 hS.sp hi)⟩)) (h:=fun _ _ h=> h.elim))|(refine zE2 (c:=Q3d hS) (p:=by rintro v9 w9 ⟨rfl,hb,hS⟩;(repeat (first|refine Q2 ?_|refine Q3 ?_|refine fun _=> ?_));refine Qc ?_;refine .inr ⟨_,rfl,?_⟩;first|(exact ⟨_,ej.trans (if_pos (by omega)),rfl,(St.back0 hS.sp hi)⟩)|(exact ⟨_,by rw [ej,if_neg hne,QF (Qcx hx2 hd (by simpa using hb1) (of_decide_eq_true hb))],rfl,(St.back0 hS.sp hi)⟩)) (h:=?_);rintro v1 w1 ⟨rfl,hb,hS⟩))
   all_goals (refine Zbi ?_;refine zad ?_;refine Zad ?_;exact ⟨⟨q+1,zh,zh,(by omega),by exact jregs_s hx2 hd (by simpa using hb1) (of_decide_eq_false hb),hne,hS.sp⟩,Qv (by omega)⟩)
 · skip
   all_goals (refine zex ?_;refine Zac ?_;refine zf0 ?_;refine Yag ?_;refine zf0 ?_;refine Yag ?_;refine zf0 ?_;refine Yag ?_;refine zE4 (c:=QcA (s:=s) hsf.1.2 hls ha hp1 hr hS fd) (p:=by rintro v9 w9 ⟨c,g1,rfl,hS⟩;(repeat (first|refine Q2 ?_|refine Q3 ?_|refine fun _=> ?_));refine Qc ?_;refine .inr ⟨_,rfl,?_⟩;exact ⟨_,by rw [ej,if_neg hne,Qd (QfN hd (by omega)),QF g1],rfl,(St.back0 hS.sp hi)⟩) (h:=?_);rintro v1 w1 ⟨har,rfl,hS⟩;have hrg:=QfN hd (by omega);refine Zal ?_;refine zD (ci 11 [10]) ?_;have hS:=hS.drew;refine ZaA ?_;refine zf0 ?_;refine Q1v hS rfl fd rfl ?_)
   all_goals (refine Q9h hS fd vw hls.1 ?_;refine zf0 ?_;refine Yag ?_;(first|(refine Q9h hS fd vw hls.1 ?_)|(refine zL ?_));refine zad ?_;refine Q7V rfl rfl ?_;refine zE2 (c:=Q3d hS) (p:=by rintro v9 w9 ⟨rfl,hb,hS⟩;(repeat (first|refine Q2 ?_|refine Q3 ?_|refine fun _=> ?_));refine Qc ?_;refine .inr ⟨_,rfl,?_⟩;exact ⟨_,by rw [ej,if_neg hne,Qd hrg,Qd har,if_pos (by have:=of_decide_eq_true hb;omega)],rfl,(St.back0 hS.sp hi)⟩) (h:=?_);rintro v1 w1 ⟨rfl,hb,hS⟩;have h80:¬80 < s.l.length+x1.results.length:=(by have:=of_decide_eq_false hb;omega);refine ZaD ?_;refine zf0 ?_;refine Yag ?_;(first|(refine Q9h hS fd vw hls.1 ?_)|(refine zL ?_));refine ZaB ?_)
   refine zo [0,3,71,72] (fun A ρ' w'=>∃(k1:Cx) (q:Nat) (vl2:Value) (cs2:List (List Value)),Has ρ' A∧Has ρ' [(73, .int .i64 q)]∧(cx.Le k1)∧(q≤x1.results.length)∧(tyR.ls k1 cs2 (s.l++(x1.results.take q).map (renT x.regs)))∧St k1 w' (blk p4 95 [.int .i64 x1.regs,vp1,vr1,vb1]::blk p3 84 [.int .i64 x.op, .int .i64 x.a, .int .i64 x.b, .int .i64 x.c, .int .i64 x.k, .int .i64 x.n,vr,va]::j.res s.h vl2 cs2::L.eraseIdx i)) (fun ρ' _=> (x1.results.length - iv (ρ' 73)).toNat) ?_ ?_
   · exact ⟨cx,0,vl,css,zh,zh,St.refl hS,(by omega),by simpa using hls,hS.sp⟩
   rintro ρ w1 ⟨k1,q,vl2,cs2,hA,hρ,hle2,hq,hls,hS⟩;obtain ⟨ρ,rfl⟩:=env2 hA hρ;have hL1:=hle2;(try have hle:=hle.trans hle2);(try have hp1:=hp1.up hle2);(try have hr1:=hr1.up hle2);(try have hb1:=hb1.up hle2);(try have he1:=he1.up hle2);(try have hr:=hr.up hle2);(try have ha:=ha.up hle2);(try have hm1:=hm1.up hle2)
   all_goals (refine ZaI ?_)
   refine Qq rfl (fun hc=> ?_) (fun hc=> ?_)
   · skip
     all_goals (refine Zbf ?_;refine zi ?_;intro b3 o3 cs3 x3 hat3 hx3 he3;obtain ⟨vl3,rfl,hl3⟩:=Qr he3;refine ZaP ?_;intro p8 w1 hS;refine zsn hS ?_;intro w1 hS;have hS:=hS.ns;refine ZaD ?_;refine zv hS ?_;refine zf0 ?_;refine Yag ?_)
     all_goals (refine zR2 (c:=pren_c x3 (hsf.2.1.2 x3 (List.mem_of_getElem? hx3)) he3 hr hS) (h:=?_);rintro v1 w1 ⟨c3,ds,rfl,hle2,hu3,hS⟩;(try have hle:=hle.trans hle2);(try have hL1:=hL1.trans hle2);(try have hp1:=hp1.up hle2);(try have hr1:=hr1.up hle2);(try have hb1:=hb1.up hle2);(try have hl3:=hl3.up hle2);(try have he1:=he1.up hle2);(try have he3:=he3.up hle2);(try have hls:=hls.up hle2);(try have hr:=hr.up hle2);(try have ha:=ha.up hle2);(try have hm1:=hm1.up hle2);have hu3':=hu3;obtain ⟨vu,rfl,hlu⟩:=Qr hu3)
     all_goals (refine ZbI ?_;intro p9 w1 hS;refine zsn hS ?_;intro w1 hS;have hS:=hS.ns;refine Zad ?_;refine Zae ?_;refine zv hS ?_;refine zE2 (c:=Q5V (s:=⟨s.h,_⟩) (by simp only [List.length_append,List.length_map,List.length_take];omega) hu3' hls hS fd) (p:=by rintro v9 w9 ⟨rfl,h80',hS⟩;(repeat (first|refine Q2 ?_|refine Q3 ?_|refine fun _=> ?_));refine Qc ?_;refine .inr ⟨_,rfl,?_⟩;(exfalso;simp only [List.length_append,List.length_map,List.length_take] at h80';omega)) (h:=?_);rintro v1 w1 ⟨rfl,hne80,vl4,cs4,hls4,hS⟩;have hS:=hS.ns;refine Zbi ?_;refine zad ?_;refine Zad ?_;exact ⟨⟨_,q+1,vl4,cs4,zh,zh,hL1,(by omega),by rw [Q2H hx3,List.map_append,←List.append_assoc];exact hls4,hS.sp⟩,Qv (by omega)⟩)
   · skip
     all_goals (refine zex ?_;refine Qz ?_;refine .inl ⟨_,rfl,rfl,k1,⟨s.h,s.l++x1.results.map (renT x.regs)⟩,vl2,cs2,hL1,by rw [ej,if_neg hne,Qd hrg,Qd har,if_neg h80],?_,(St.back hS.sp hi)⟩;rw [List.take_of_length_le (by omega)] at hls;exact hls)
end Go.Proofs.YteflkifmgnpbhaaGreat
namespace Go.Proofs.YteflkifmgnpbhaaGreat
open Go.Lir
set_option maxHeartbeats 1000000
attribute [local irreducible] LC.wp Q0 Qk Qh retQ Qt LO.wp Q4 Calls
set_option linter.unusedSimpArgs false
set_option linter.unusedVariables false
attribute [local irreducible] hasB Q3g Q1L Q1U
variable {cx:Cx}{w:World}{L:List Res}{j:JP}{h:List Bool}{vl:Value}{css:List (List Value)}{i:Nat}{m:Module}
theorem jtuple_c {s:JS}{x:Ins}{cs:List Value}(hal:x.args.length≤8) (hn:s.l.length≤80) (hx:insR.at cx cs x) (hls:tyR.ls cx css s.l) (hS:St cx w L) (hi:nth L i=some (j.res s.h vl css)):
 Fins Tryz.prog Q6I [.pointer (some ⟨j.sp,0,none⟩), .agg ⟨cs⟩] w (JOk cx L j i (Q5j s x)) (JNo cx L (Q5j s x)):=by
 have hS:=hS.out hi
 obtain ⟨vr,va,rfl,hr,ha⟩:=QZ hx
 unfold Fins Q5j
 all_goals refine lgo tyD Tryz.func245 ?_
 all_goals (refine Zat ?_;intro p3 w1 hS;refine Zaz ?_;refine zf0 ?_;refine Yag ?_;refine zE3 (c:=Q93 hls hS fd) (p:=by rintro v9 w9 ⟨c,h1,rfl,hS⟩;(repeat (first|refine Q2 ?_|refine Q3 ?_|refine fun _=> ?_));refine Qc ?_;refine .inr ⟨_,rfl,?_⟩;exact ⟨_,QF h1,rfl,(St.back0 hS.sp hi)⟩) (h:=?_);rintro v1 w1 ⟨t,cs1,h1,rfl,hrd,hS⟩;have hrd':=hrd;obtain ⟨vd,rfl,hld⟩:=Qr hrd;refine Q7W rfl rfl ?_;refine zb2 [_,_,_] ?_;refine Qg hS ?_;intro p4 w1 hS;refine zsn hS ?_;intro w1 hS;have hS:=hS.ns;refine Zbu ?_;refine zf0 ?_;refine Yag ?_;refine zL ?_;refine ZaB ?_;have hS:=St.nil (T:=115) (es:=3) hS)
 refine zo [0,4,14,15] (fun A ρ' w'=>∃(q:Nat) (vo:Value) (co:List (List Value)) (ts:List Ty),Has ρ' A∧Has ρ' [(16, .int .i64 q)]∧(q≤x.args.length)∧(tyR.ls cx co ts)∧(ts.length=q)∧(oneC vo=true)∧(jfields s x.args=QA (jfields s (x.args.drop q)) fun l=> .ok (ts++l))∧St cx w' (sl 115 3 vo co::blk p4 115 [.int .i64 3, .int .i64 t.r,vo]::blk p3 84 [.int .i64 x.op, .int .i64 x.a, .int .i64 x.b, .int .i64 x.c, .int .i64 x.k, .int .i64 x.n,vr,va]::j.res s.h vl css::L.eraseIdx i)) (fun ρ' _=> (x.args.length - iv (ρ' 16)).toNat) ?_ ?_
 · exact ⟨0,_,[],[],zh,zh,(by omega),Rep.LR.nil _ _ _,rfl,rfl,by rw [List.drop_zero];cases jfields s x.args <;> rfl,hS.sp⟩
 rintro ρ w1 ⟨q,vo,co,ts,hA,hρ,hq,hlo,hlt,hvo,hd,hS⟩;obtain ⟨ρ,rfl⟩:=env2 hA hρ
 all_goals (refine ZaI ?_)
 refine Qq rfl (fun hc=> ?_) (fun hc=> ?_)
 · skip
   all_goals (refine Zbf ?_;refine zi ?_;intro b1 o1 cs1 x1 hat1 hx1 he1;obtain rfl:=QY he1;(first|(refine Q1v hS rfl fd rfl ?_)|(refine zl hS ?_)|(refine zlk hS ?_));refine Zad ?_;refine zC [(0,none),(1,none),(2,none),(3,none),(4,some (some [1])),(5,some (some [1])),(6,some none),(7,none),(8,some none)] ?_;have hS:=hS.drew;refine s_cq ?_;refine zf0 ?_;refine Zbx ?_;refine Zaq ?_;refine zm ?_;refine Zaj ?_;refine zE2 (c:=Q4U hls hS fd) (p:=by rintro v9 w9 ⟨c,h2,rfl,hS⟩;(repeat (first|refine Q2 ?_|refine Q3 ?_|refine fun _=> ?_));refine Qc ?_;refine .inr ⟨_,rfl,?_⟩;exact ⟨_,by rw [Qd h1,QF (QfS hx1 hd h2)],rfl,(St.back0 hS.sp hi)⟩) (h:=?_);rintro v1 w1 ⟨t2,cs2,h2,rfl,hrd2,hS⟩;have hrd2':=hrd2;obtain ⟨vd2,rfl,hld2⟩:=Qr hrd2;refine zt ?_;refine ⟨List.forall_mem_cons.2 ⟨(by first|(exact Q19 hS rfl fd rfl)|(exact QL hS rfl fd rfl)),fun _ h=> (List.not_mem_nil h).elim⟩,?_⟩)
   all_goals (refine Q4g ?_;refine zB1 hS [_,_,_] ?_;intro b1 w1 hS;refine zt ?_;refine ⟨List.forall_mem_cons.2 ⟨(by first|(exact Q19 hS rfl fd rfl)|(exact QL hS rfl fd rfl)),fun _ h=> (List.not_mem_nil h).elim⟩,?_⟩;refine s_cf ?_;refine za Q6c QaS hS ?_;intro vp1 w1 css1 hls1 hv1 hS;have hS:=hS.ns;refine Zab ?_;refine zf0 ?_;refine Zau ?_;refine zst hS ?_;intro w1 hS;have hS:=hS.ns;refine Zao ?_;refine Q10 ?_;refine zad ?_;refine Zad ?_;exact ⟨⟨q+1,_,_,ts++[t2],zh,zh,(by omega),hls1,by simp [hlt],by assumption,QfR hx1 hd h2,hS.sp⟩,Qv (by omega)⟩)
 · skip
   all_goals (refine zex ?_;have hts:=QfQ hd (by omega);obtain ⟨c1,hle2,hS,hk1⟩:=St.freezeL (r:=tyR) hS hlo rfl (by omega);have hT:=Q2R (k:=3) (r:=t.r) hk1;have hls:=hls.up hle2;obtain ⟨ao,no,rfl⟩:=Rep.SR.shape hk1;refine QB ?_;refine zC [(0,none),(1,none),(2,none),(3,none),(4,none),(5,some (some [0])),(6,some none),(7,none),(8,some none)] ?_;have hS:=hS.drew;refine s_cq ?_;refine zv hS ?_;refine Zaq ?_;refine Zaw ?_;refine zf0 ?_;refine Zab ?_;refine Q1v hS rfl fd rfl ?_;refine Zaj ?_;refine zR1 (c:=jlen_c hS fd) (h:=?_);rintro v1 w1 ⟨rfl,hS⟩;refine zt ?_;refine ⟨List.forall_mem_cons.2 ⟨(by first|(exact Q19 hS rfl fd rfl)|(exact Q1V hS rfl fd rfl rfl)),fun _ h=> (List.not_mem_nil h).elim⟩,?_⟩;refine s_cf ?_;refine zR2 (c:=QcZ hT hS) (h:=?_);rintro v1 w1 ⟨rfl,hS⟩;refine Zab ?_;refine Q4n rfl rfl ?_;refine Zau ?_)
   all_goals (first|(refine zR2 (c:=Q2i hS) (h:=?_);rintro v1 w1 ⟨rfl,hS⟩)|(refine zE2 (c:=Q2h hS) (p:=by rintro v9 w9 ⟨rfl,hS⟩;(repeat (refine Q2 ?_));refine Qc ?_;refine .inr ⟨_,rfl,?_⟩;first|(exact ⟨_,by rw [Qd h1,Qd hts,if_pos (of_decide_eq_true hb)],rfl,St.weak (St.back0 hS.sp hi) hle2⟩)) (h:=fun _ _ h=> h.elim))|(refine zE2 (c:=Q3d hS) (p:=by rintro v9 w9 ⟨rfl,hb,hS⟩;(repeat (first|refine Q2 ?_|refine Q3 ?_|refine fun _=> ?_));refine Qc ?_;refine .inr ⟨_,rfl,?_⟩;first|(exact ⟨_,by rw [Qd h1,Qd hts,if_pos (of_decide_eq_true hb)],rfl,St.weak (St.back0 hS.sp hi) hle2⟩)) (h:=?_);rintro v1 w1 ⟨rfl,hb,hS⟩))
   all_goals (refine Zao ?_;refine Zae ?_;refine zv hS ?_;refine zE2 (c:=Q5V (s:=s) (by omega) hT hls hS fd) (p:=by rintro v9 w9 ⟨rfl,h80',hS⟩;(repeat (first|refine Q2 ?_|refine Q3 ?_|refine fun _=> ?_));refine Qc ?_;refine .inr ⟨_,rfl,?_⟩;exact ⟨_,by rw [Qd h1,Qd hts,if_neg (of_decide_eq_false hb),Q5x h80'],rfl,St.weak (St.back0 hS.sp hi) hle2⟩) (h:=?_);rintro v1 w1 ⟨rfl,hne80,vl4,cs4,hls4,hS⟩;have hS:=hS.ns;refine Zbc ?_;exact .inl ⟨_,rfl,rfl,c1,⟨s.h,_⟩,vl4,cs4,hle2,by rw [Qd h1,Qd hts,if_neg (of_decide_eq_false hb),Q43 hne80],hls4,(St.back hS.sp hi)⟩)
theorem Q4C {n:Nat}{x:Ins}(h:QC n x=0):Q1k n x=0:=by
 unfold QC at h
 split at h
 · cases h
 · split at h
   · cases h
   · exact h
theorem Q5X {n:Nat}{x:Ins}(h:QC n x=0) (ho:x.op=6∨x.op=7):0≤x.k:=by
 have h:=Q4C h
 unfold Q1k at h
 rcases ho with ho|ho <;> simp [ho] at h <;> omega
theorem Qg0 {n:Nat}{x:Ins}(h:QC n x=0) (ho:x.op=5):x.args.length≤8:=by
 have h:=Q4C h
 unfold Q1k at h
 simp [ho] at h;omega
theorem Qg1 {n:Nat}{x:Ins}(h:QC n x=0) (ho:x.op=14):0≤x.k∧x.k < n:=by
 have h:=Q4C h
 unfold Q1k at h
 simp [ho] at h;omega
theorem jins_c {s : JS} {x : Ins} {cs : List Value} (hm:m.Short) (hF:QC m.funcs.length x=0) (hn:s.l.length≤80) (hh:s.h.length≤16) (hj:j.Fits cx m) (hx:insR.at cx cs x) (hls:tyR.ls cx css s.l) (hS:St cx w L) (hi:nth L i=some (j.res s.h vl css)):
 Fins Tryz.prog Q8c [.pointer (some ⟨j.sp,0,none⟩), .agg ⟨cs⟩] w (JOk cx L j i (jins m j.f s x)) (JNo cx L (jins m j.f s x)):=by
 have hS:=hS.out hi
 have hx':=hx
 have hop:=Q2Y hF
 have hlc:=hls.1
 have hN:tyR.at cx [.int .i64 1, .int .i64 0, .slice none 0 0] number:=Q2R (Rep.SR.nil _ _ _)
 obtain ⟨vr,va,rfl,hr,ha⟩:=QZ hx
 unfold Fins
 all_goals refine lgo tyD Tryz.func207 ?_
 all_goals (refine Zat ?_;intro p3 w1 hS;refine ZaD ?_;refine zb1 [_,_,_] ?_;refine Qg hS ?_;intro p4 w1 hS;refine zsn hS ?_;intro w1 hS;have hS:=hS.ns;refine ZaD ?_;refine zf0 ?_;refine Yag ?_;refine zn ?_;refine Q3v ?_;refine Zbs ?_)
 all_goals (first|(refine Ql ?_)|(refine Qo ?_)|(refine Q8 rfl rfl (fun hc=> ?_) (fun hc=> ?_)))
 all_goals (refine Zad ?_)
 all_goals
  first
  | (refine zct ?_
     all_goals refine zsk ?_)
  | (refine zcf ?_
     all_goals (refine Q10 ?_)
     all_goals (first|(refine Ql ?_)|(refine Qo ?_)|(refine Q8 rfl rfl (fun hc=> ?_) (fun hc=> ?_)))
     all_goals (refine zm ?_)
     all_goals refine zn ?_)
 all_goals
  first
  | (refine zct ?_
     all_goals (refine Zae ?_;refine zv hS ?_;refine zE2 (c:=Q5V (s:=s) (by omega) hN hls hS fd) (p:=by rintro v9 w9 ⟨rfl,h80,hS⟩;(repeat (first|refine Q2 ?_|refine Q3 ?_|refine fun _=> ?_));refine Qc ?_;refine .inr ⟨_,rfl,?_⟩;exact ⟨_,by rw [Q7b (by omega),Q5x h80],rfl,(St.back0 hS.sp hi)⟩) (h:=?_);rintro v1 w1 ⟨rfl,hne,vl4,cs4,hls4,hS⟩;have hS:=hS.ns;have hJ:JOk cx L j i (jins m j.f s x) (.tuple #[]) w1:=⟨rfl,cx,⟨s.h,_⟩,vl4,cs4,St.refl hS,by rw [Q7b (by omega),Q43 hne],hls4,(St.back hS.sp hi)⟩;refine zn ?_)
     all_goals (refine Qz ?_;exact .inl ⟨_,rfl,hJ⟩))
  | (refine zcf ?_
     all_goals (refine Zaa ?_)
     all_goals (first|(refine Ql ?_)|(refine Qo ?_)|(refine Q8 rfl rfl (fun hc=> ?_) (fun hc=> ?_)))
     all_goals (refine Zad ?_)
     all_goals
      first
      | (refine zct ?_
         all_goals (refine Zac ?_;refine zf0 ?_;refine Yag ?_;refine zE3 (c:=Q44 (s:=s) hls hS fd) (p:=by rintro v9 w9 ⟨c,h1,rfl,hS⟩;(repeat (first|refine Q2 ?_|refine Q3 ?_|refine fun _=> ?_));refine Qc ?_;refine .inr ⟨_,rfl,?_⟩;exact ⟨_,by rw [Q8j (by omega),QF h1],rfl,(St.back0 hS.sp hi)⟩) (h:=?_);rintro v1 w1 ⟨t1,cs1,h1,rfl,hrd1,hS⟩;skip;refine Zaz ?_;refine zf0 ?_;refine Yag ?_;refine zE3 (c:=Q44 (s:=s) hls hS fd) (p:=by rintro v9 w9 ⟨c,h2,rfl,hS⟩;(repeat (first|refine Q2 ?_|refine Q3 ?_|refine fun _=> ?_));refine Qc ?_;refine .inr ⟨_,rfl,?_⟩;exact ⟨_,by rw [Q8j (by omega),Qd h1,QF h2],rfl,(St.back0 hS.sp hi)⟩) (h:=?_);rintro v1 w1 ⟨t2,cs2,h2,rfl,hrd2,hS⟩;skip;refine ZaJ ?_;refine zv hS ?_;refine zE2 (c:=Q5V (s:=s) (by omega) hN hls hS fd) (p:=by rintro v9 w9 ⟨rfl,h80,hS⟩;(repeat (first|refine Q2 ?_|refine Q3 ?_|refine fun _=> ?_));refine Qc ?_;refine .inr ⟨_,rfl,?_⟩;exact ⟨_,by rw [Q8j (by omega),Qd h1,Qd h2,Q5x h80],rfl,(St.back0 hS.sp hi)⟩) (h:=?_);rintro v1 w1 ⟨rfl,hne,vl4,cs4,hls4,hS⟩;have hS:=hS.ns;have hJ:JOk cx L j i (jins m j.f s x) (.tuple #[]) w1:=⟨rfl,cx,⟨s.h,_⟩,vl4,cs4,St.refl hS,by rw [Q8j (by omega),Qd h1,Qd h2,Q43 hne],hls4,(St.back hS.sp hi)⟩)
         all_goals (refine zn ?_)
         all_goals (refine Qz ?_;exact .inl ⟨_,rfl,hJ⟩))
      | (refine zcf ?_
         all_goals (refine Zaa ?_)
         all_goals (first|(refine Ql ?_)|(refine Qo ?_)|(refine Q8 rfl rfl (fun hc=> ?_) (fun hc=> ?_)))
         all_goals (refine Zad ?_)
         all_goals
          first
          | (refine zcf ?_
             all_goals (refine Zaa ?_)
             all_goals (first|(refine Ql ?_)|(refine Qo ?_)|(refine Q8 rfl rfl (fun hc=> ?_) (fun hc=> ?_)))
             all_goals (refine Zad ?_)
             all_goals
              first
              | (refine zct ?_
                 all_goals (refine Zac ?_;refine zf0 ?_;refine Yag ?_;refine zE3 (c:=Q93 (s:=s) hls hS fd) (p:=by rintro v9 w9 ⟨c,h1,rfl,hS⟩;(repeat (first|refine Q2 ?_|refine Q3 ?_|refine fun _=> ?_));refine Qc ?_;refine .inr ⟨_,rfl,?_⟩;exact ⟨_,by rw [Q9r (by omega),QF h1],rfl,(St.back0 hS.sp hi)⟩) (h:=?_);rintro v1 w1 ⟨t1,cs1,h1,rfl,hrd1,hS⟩;obtain ⟨vd1,rfl,hld1⟩:=Qr hrd1;refine Q7W rfl rfl ?_;refine ZaL ?_;refine ZaA ?_;refine zf0 ?_;refine Yad ?_;refine Q1v hS rfl fd rfl ?_)
                 all_goals (first|(refine Q15 ?_)|(refine Q1c ?_)|(refine Qu rfl rfl (fun hc=> ?_) (fun hc=> ?_)))
                 all_goals (first|(refine zR2 (c:=Q2i hS) (h:=?_);rintro v1 w1 ⟨rfl,hS⟩)|(refine zE2 (c:=Q2h hS) (p:=by rintro v9 w9 ⟨rfl,hS⟩;(repeat (first|refine Q2 ?_|refine Q3 ?_|refine fun _=> ?_));refine Qc ?_;refine .inr ⟨_,rfl,?_⟩;exact ⟨_,by rw [Q9r (by omega),Qd h1,if_pos (by omega)],rfl,(St.back0 hS.sp hi)⟩) (h:=fun _ _ h=> h.elim)))
                 all_goals (refine ZaJ ?_;refine znc ?_;refine zf0 ?_;refine Q1v hS rfl fd rfl ?_;refine zm ?_;refine zR2 (c:=jshut_c (Q9u h1).2.2.2 hS fd) (h:=?_);rintro v1 w1 ⟨rfl,hS⟩;have hS:=hS.ns;have hJ:JOk cx L j i (jins m j.f s x) (.tuple #[]) w1:=⟨rfl,cx,⟨s.h.set t1.r.toNat false,s.l⟩,vl,css,St.refl hS,by rw [Q9r (by omega),Qd h1,if_neg (by omega)],hls,(St.back hS.sp hi)⟩;refine zn ?_)
                 all_goals (refine Qz ?_;exact .inl ⟨_,rfl,hJ⟩))
              | (refine zcf ?_
                 all_goals (refine Zaa ?_)
                 all_goals (first|(refine Ql ?_)|(refine Qo ?_)|(refine Q8 rfl rfl (fun hc=> ?_) (fun hc=> ?_)))
                 all_goals (refine Zad ?_)
                 all_goals
                  first
                  | (refine zct ?_
                     all_goals (refine Zae ?_;refine zv hS ?_;refine zE2 (c:=jtuple_c (Qg0 hF (by omega)) hn hx' hls hS fd) (p:=by rintro v9 w9 ⟨c,g1,rfl,hS⟩;(repeat (first|refine Q2 ?_|refine Q3 ?_|refine fun _=> ?_));refine Qc ?_;refine .inr ⟨_,rfl,?_⟩;exact ⟨_,by rw [Qbq (by omega)];exact g1,rfl,(St.back0 hS.sp hi)⟩) (h:=?_);rintro v1 w1 ⟨rfl,c1,s1,vl4,cs4,hle,hr1,hls4,hS⟩;have hS:=hS.ns;have hJ:JOk cx L j i (jins m j.f s x) (.tuple #[]) w1:=⟨rfl,c1,s1,vl4,cs4,hle,by rw [Qbq (by omega)];exact hr1,hls4,(St.back hS.sp hi)⟩;refine zn ?_)
                     all_goals (refine Qz ?_;exact .inl ⟨_,rfl,hJ⟩))
                  | (refine zcf ?_
                     all_goals (refine Zaa ?_)
                     all_goals (first|(refine Ql ?_)|(refine Qo ?_)|(refine Q8 rfl rfl (fun hc=> ?_) (fun hc=> ?_)))
                     all_goals (refine Zad ?_)
                     all_goals
                      first
                      | (refine zct ?_
                         all_goals (refine zC [(0,none),(1,none),(2,none),(3,none),(4,none),(6,none),(7,none),(5,some (some [7])),(8,some (some [])),(9,some none)] ?_;have hS:=hS.drew;refine Zbg ?_;refine Zag ?_;refine zf0 ?_;refine Zbx ?_;refine Zab ?_;refine zf0 ?_;refine Zbx ?_;refine Zaj ?_;refine zE3 (c:=Q93 (s:=s) hls hS fd) (p:=by rintro v9 w9 ⟨c,h1,rfl,hS⟩;(repeat (first|refine Q2 ?_|refine Q3 ?_|refine fun _=> ?_));refine Qc ?_;refine .inr ⟨_,rfl,?_⟩;exact ⟨_,by rw [Q8i (by omega),QF h1],rfl,(St.back0 hS.sp hi)⟩) (h:=?_);rintro v1 w1 ⟨t1,cs1,h1,rfl,hrd1,hS⟩;have hrd1':=hrd1;obtain ⟨vd1,rfl,hld1⟩:=Qr hrd1;refine zt ?_;refine ⟨List.forall_mem_cons.2 ⟨(by first|(exact Q19 hS rfl fd rfl)|(exact QL hS rfl fd rfl)),fun _ h=> (List.not_mem_nil h).elim⟩,?_⟩)
                         all_goals (refine Q4g ?_;refine zE3 (c:=Q7B (j:=j) (Q5X hF (by omega)) hrd1' hS) (p:=by rintro v9 w9 ⟨c,h2,rfl,hS⟩;(repeat (first|refine Q2 ?_|refine Q3 ?_|refine fun _=> ?_));refine Qc ?_;refine .inr ⟨_,rfl,?_⟩;exact ⟨_,by rw [Q8i (by omega),Qd h1,QF h2],rfl,(St.back0 hS.sp hi)⟩) (h:=?_);rintro v1 w1 ⟨t2,cs2,h2,rfl,hrd2,hS⟩;skip;refine zt ?_;refine ⟨fun _ h=> (List.not_mem_nil h).elim,?_⟩;refine s_cf ?_;refine zE2 (c:=Q5V (s:=s) (by omega) hrd2 hls hS fd) (p:=by rintro v9 w9 ⟨rfl,h80,hS⟩;(repeat (first|refine Q2 ?_|refine Q3 ?_|refine fun _=> ?_));refine Qc ?_;refine .inr ⟨_,rfl,?_⟩;exact ⟨_,by rw [Q8i (by omega),Qd h1,Qd h2,Q5x h80],rfl,(St.back0 hS.sp hi)⟩) (h:=?_);rintro v1 w1 ⟨rfl,hne,vl4,cs4,hls4,hS⟩;have hS:=hS.ns;have hJ:JOk cx L j i (jins m j.f s x) (.tuple #[]) w1:=⟨rfl,cx,⟨s.h,_⟩,vl4,cs4,St.refl hS,by rw [Q8i (by omega),Qd h1,Qd h2,Q43 hne],hls4,(St.back hS.sp hi)⟩;refine Zao ?_)
                         all_goals (refine Qz ?_;exact .inl ⟨_,rfl,hJ⟩))
                      | (refine zcf ?_
                         all_goals (refine Zaa ?_)
                         all_goals (first|(refine Ql ?_)|(refine Qo ?_)|(refine Q8 rfl rfl (fun hc=> ?_) (fun hc=> ?_)))
                         all_goals (refine Zad ?_)
                         all_goals
                          first
                          | (refine zct ?_
                             all_goals (refine QB ?_)
                             refine Q1N 4 8 (by kernel_rfl) ?_ ?_
                             · skip
                               refine Q1N 7 8 (by kernel_rfl) ?_ ?_
                               · skip
                                 all_goals (refine zC [(0,none),(1,none),(2,none),(3,none),(5,none),(6,none),(4,some (some [6])),(7,some none),(8,some none),(9,some none)] ?_;have hS:=hS.drew;refine Zbg ?_;refine zf0 ?_;refine Zbx ?_;refine Zab ?_;refine zf0 ?_;refine Zbx ?_;refine Zaj ?_;refine zE3 (c:=Q93 (s:=s) hls hS fd) (p:=by rintro v9 w9 ⟨c,h1,rfl,hS⟩;(repeat (first|refine Q2 ?_|refine Q3 ?_|refine fun _=> ?_));refine Qc ?_;refine .inr ⟨_,rfl,?_⟩;exact ⟨_,by rw [Q2B (by omega),QF h1],rfl,(St.back0 hS.sp hi)⟩) (h:=?_);rintro v1 w1 ⟨t1,cs1,h1,rfl,hrd1,hS⟩;have hrd1':=hrd1;obtain ⟨vd1,rfl,hld1⟩:=Qr hrd1;refine zt ?_;refine ⟨List.forall_mem_cons.2 ⟨(by first|(exact Q19 hS rfl fd rfl)|(exact QL hS rfl fd rfl)),fun _ h=> (List.not_mem_nil h).elim⟩,?_⟩)
                                 all_goals (refine s_cf ?_;refine zE3 (c:=Q7B (j:=j) (Q5X hF (by omega)) hrd1' hS) (p:=by rintro v9 w9 ⟨c,h2,rfl,hS⟩;(repeat (first|refine Q2 ?_|refine Q3 ?_|refine fun _=> ?_));refine Qc ?_;refine .inr ⟨_,rfl,?_⟩;exact ⟨_,by rw [Q2B (by omega),Qd h1,QF h2],rfl,(St.back0 hS.sp hi)⟩) (h:=?_);rintro v1 w1 ⟨t2,cs2,h2,rfl,hrd2,hS⟩;have hrd2':=hrd2;obtain ⟨vd2,rfl,hld2⟩:=Qr hrd2;refine Zau ?_;refine Qg hS ?_;intro p6 w1 hS;refine Zau ?_;refine zsn hS ?_;intro w1 hS;have hS:=hS.ns;refine Zao ?_;refine zC [(0,none),(1,none),(2,none),(3,none),(4,some (some [0])),(5,some none),(6,none),(7,some none)] ?_;have hS:=hS.drew;refine s_cq ?_;refine zv hS ?_;refine Zaq ?_;refine zf0 ?_;refine Zbx ?_;refine Zaj ?_;refine zE2 (c:=Q4U (s:=s) hls hS fd) (p:=by rintro v9 w9 ⟨c,h3,rfl,hS⟩;(repeat (first|refine Q2 ?_|refine Q3 ?_|refine fun _=> ?_));refine Qc ?_;refine .inr ⟨_,rfl,?_⟩;exact ⟨_,by rw [Q2B (by omega),Qd h1,Qd h2,QF h3],rfl,(St.back0 hS.sp hi)⟩) (h:=?_);rintro v1 w1 ⟨t3,cs3,h3,rfl,hrd3,hS⟩;skip)
                                 all_goals (refine zt ?_;refine ⟨List.forall_mem_cons.2 ⟨(by first|(exact Q19 hS rfl fd rfl)|(exact Q1V hS rfl fd rfl rfl)),fun _ h=> (List.not_mem_nil h).elim⟩,?_⟩;refine s_cf ?_;refine zR2 (c:=Q85 _ _ hrd2' hrd3 hS) (h:=?_);rintro v1 w1 ⟨rfl,hS⟩;refine Zab ?_;refine znt ?_;refine Zau ?_;refine zE2 (c:=Q3d hS) (p:=by rintro v9 w9 ⟨rfl,hb,hS⟩;(repeat (first|refine Q2 ?_|refine Q3 ?_|refine fun _=> ?_));refine Qc ?_;refine .inr ⟨_,rfl,?_⟩;exact ⟨_,by rw [Q2B (by omega),Qd h1,Qd h2,Qd h3,if_pos (by simpa using hb)],rfl,(St.back0 hS.sp hi)⟩) (h:=?_);rintro v1 w1 ⟨rfl,hb,hS⟩;refine Zao ?_;have hJ:JOk cx L j i (jins m j.f s x) (.tuple #[]) w1:=⟨rfl,cx,s,vl,css,St.refl hS,by rw [Q2B (by omega),Qd h1,Qd h2,Qd h3,if_neg (by simpa using hb)],hls,(St.back hS.sp hi)⟩;refine Qz ?_;exact .inl ⟨_,rfl,hJ⟩)
                               · skip
                                 all_goals (refine zC [(0,none),(1,none),(2,none),(3,none),(5,none),(6,none),(4,some (some [6])),(8,some (some [6])),(7,some none),(9,some none)] ?_;have hS:=hS.drew;refine Zbg ?_;refine zf0 ?_;refine Zbx ?_;refine Zab ?_;refine zf0 ?_;refine Zbx ?_;refine Zaj ?_;refine zE3 (c:=Q93 (s:=s) hls hS fd) (p:=by rintro v9 w9 ⟨c,h1,rfl,hS⟩;(repeat (first|refine Q2 ?_|refine Q3 ?_|refine fun _=> ?_));refine Qc ?_;refine .inr ⟨_,rfl,?_⟩;exact ⟨_,by rw [Q2B (by omega),QF h1],rfl,(St.back0 hS.sp hi)⟩) (h:=?_);rintro v1 w1 ⟨t1,cs1,h1,rfl,hrd1,hS⟩;have hrd1':=hrd1;obtain ⟨vd1,rfl,hld1⟩:=Qr hrd1;refine zt ?_;refine ⟨List.forall_mem_cons.2 ⟨(by first|(exact Q19 hS rfl fd rfl)|(exact QL hS rfl fd rfl)),fun _ h=> (List.not_mem_nil h).elim⟩,?_⟩)
                                 all_goals (refine Q4g ?_;refine Qg hS ?_;intro p6 w1 hS;refine zt ?_;refine ⟨List.forall_mem_cons.2 ⟨(by first|(exact Q19 hS rfl fd rfl)|(exact QL hS rfl fd rfl)),fun _ h=> (List.not_mem_nil h).elim⟩,?_⟩;refine s_cf ?_;refine zE3 (c:=Q7B (j:=j) (Q5X hF (by omega)) hrd1' hS) (p:=by rintro v9 w9 ⟨c,h2,rfl,hS⟩;(repeat (first|refine Q2 ?_|refine Q3 ?_|refine fun _=> ?_));refine Qc ?_;refine .inr ⟨_,rfl,?_⟩;exact ⟨_,by rw [Q2B (by omega),Qd h1,QF h2],rfl,(St.back0 hS.sp hi)⟩) (h:=?_);rintro v1 w1 ⟨t2,cs2,h2,rfl,hrd2,hS⟩;have hrd2':=hrd2;obtain ⟨vd2,rfl,hld2⟩:=Qr hrd2;refine Zau ?_;refine zsn hS ?_;intro w1 hS;have hS:=hS.ns;refine Zao ?_;refine zC [(0,none),(1,none),(2,none),(3,none),(4,some (some [0])),(5,some none),(6,none),(7,some none)] ?_;have hS:=hS.drew;refine s_cq ?_;refine zv hS ?_;refine Zaq ?_;refine zf0 ?_;refine Zbx ?_)
                                 all_goals (refine Zaj ?_;refine zE2 (c:=Q4U (s:=s) hls hS fd) (p:=by rintro v9 w9 ⟨c,h3,rfl,hS⟩;(repeat (first|refine Q2 ?_|refine Q3 ?_|refine fun _=> ?_));refine Qc ?_;refine .inr ⟨_,rfl,?_⟩;exact ⟨_,by rw [Q2B (by omega),Qd h1,Qd h2,QF h3],rfl,(St.back0 hS.sp hi)⟩) (h:=?_);rintro v1 w1 ⟨t3,cs3,h3,rfl,hrd3,hS⟩;skip;refine zt ?_;refine ⟨List.forall_mem_cons.2 ⟨(by first|(exact Q19 hS rfl fd rfl)|(exact Q1V hS rfl fd rfl rfl)),fun _ h=> (List.not_mem_nil h).elim⟩,?_⟩;refine s_cf ?_;refine zR2 (c:=Q85 _ _ hrd2' hrd3 hS) (h:=?_);rintro v1 w1 ⟨rfl,hS⟩;refine Zab ?_;refine znt ?_;refine Zau ?_;refine zE2 (c:=Q3d hS) (p:=by rintro v9 w9 ⟨rfl,hb,hS⟩;(repeat (first|refine Q2 ?_|refine Q3 ?_|refine fun _=> ?_));refine Qc ?_;refine .inr ⟨_,rfl,?_⟩;exact ⟨_,by rw [Q2B (by omega),Qd h1,Qd h2,Qd h3,if_pos (by simpa using hb)],rfl,(St.back0 hS.sp hi)⟩) (h:=?_);rintro v1 w1 ⟨rfl,hb,hS⟩;refine Zao ?_;have hJ:JOk cx L j i (jins m j.f s x) (.tuple #[]) w1:=⟨rfl,cx,s,vl,css,St.refl hS,by rw [Q2B (by omega),Qd h1,Qd h2,Qd h3,if_neg (by simpa using hb)],hls,(St.back hS.sp hi)⟩;refine Qz ?_;exact .inl ⟨_,rfl,hJ⟩)
                             · skip
                               all_goals (refine zC [(0,none),(1,none),(2,none),(3,none),(5,none),(6,none),(8,some (some [3,6])),(4,some (some [6])),(7,some none),(9,some none)] ?_;have hS:=hS.drew;refine Zbg ?_;refine zf0 ?_;refine Zbx ?_;refine Zab ?_;refine zf0 ?_;refine Zbx ?_;refine ZaY ?_;intro p6 w1 hS;refine zt ?_;refine ⟨List.forall_mem_cons.2 ⟨(by first|(exact Q19 hS rfl fd rfl)|(exact QL hS rfl fd rfl)),List.forall_mem_cons.2 ⟨(by first|(exact Q19 hS rfl fd rfl)|(exact QL hS rfl fd rfl)),fun _ h=> (List.not_mem_nil h).elim⟩⟩,?_⟩;refine Q4g ?_;refine zE3 (c:=Q93 (s:=s) hls hS fd) (p:=by rintro v9 w9 ⟨c,h1,rfl,hS⟩;(repeat (first|refine Q2 ?_|refine Q3 ?_|refine fun _=> ?_));refine Qc ?_;refine .inr ⟨_,rfl,?_⟩;exact ⟨_,by rw [Q2B (by omega),QF h1],rfl,(St.back0 hS.sp hi)⟩) (h:=?_);rintro v1 w1 ⟨t1,cs1,h1,rfl,hrd1,hS⟩;have hrd1':=hrd1;obtain ⟨vd1,rfl,hld1⟩:=Qr hrd1)
                               all_goals (refine zt ?_;refine ⟨List.forall_mem_cons.2 ⟨(by first|(exact Q19 hS rfl fd rfl)|(exact QL hS rfl fd rfl)),fun _ h=> (List.not_mem_nil h).elim⟩,?_⟩;refine s_cf ?_;refine zE3 (c:=Q7B (j:=j) (Q5X hF (by omega)) hrd1' hS) (p:=by rintro v9 w9 ⟨c,h2,rfl,hS⟩;(repeat (first|refine Q2 ?_|refine Q3 ?_|refine fun _=> ?_));refine Qc ?_;refine .inr ⟨_,rfl,?_⟩;exact ⟨_,by rw [Q2B (by omega),Qd h1,QF h2],rfl,(St.back0 hS.sp hi)⟩) (h:=?_);rintro v1 w1 ⟨t2,cs2,h2,rfl,hrd2,hS⟩;have hrd2':=hrd2;obtain ⟨vd2,rfl,hld2⟩:=Qr hrd2;refine Zau ?_;refine zsn hS ?_;intro w1 hS;have hS:=hS.ns;refine Zao ?_;refine zC [(0,none),(1,none),(2,none),(3,none),(4,some (some [0])),(5,some none),(6,none),(7,some none)] ?_;have hS:=hS.drew;refine s_cq ?_;refine zv hS ?_;refine Zaq ?_;refine zf0 ?_;refine Zbx ?_;refine zt ?_)
                               all_goals (refine Q4g ?_;refine zE2 (c:=Q4U (s:=s) hls hS fd) (p:=by rintro v9 w9 ⟨c,h3,rfl,hS⟩;(repeat (first|refine Q2 ?_|refine Q3 ?_|refine fun _=> ?_));refine Qc ?_;refine .inr ⟨_,rfl,?_⟩;exact ⟨_,by rw [Q2B (by omega),Qd h1,Qd h2,QF h3],rfl,(St.back0 hS.sp hi)⟩) (h:=?_);rintro v1 w1 ⟨t3,cs3,h3,rfl,hrd3,hS⟩;skip;refine zt ?_;refine ⟨List.forall_mem_cons.2 ⟨(by first|(exact Q19 hS rfl fd rfl)|(exact Q1V hS rfl fd rfl rfl)),fun _ h=> (List.not_mem_nil h).elim⟩,?_⟩;refine s_cf ?_;refine zR2 (c:=Q85 _ _ hrd2' hrd3 hS) (h:=?_);rintro v1 w1 ⟨rfl,hS⟩;refine Zab ?_;refine znt ?_;refine Zau ?_;refine zE2 (c:=Q3d hS) (p:=by rintro v9 w9 ⟨rfl,hb,hS⟩;(repeat (first|refine Q2 ?_|refine Q3 ?_|refine fun _=> ?_));refine Qc ?_;refine .inr ⟨_,rfl,?_⟩;exact ⟨_,by rw [Q2B (by omega),Qd h1,Qd h2,Qd h3,if_pos (by simpa using hb)],rfl,(St.back0 hS.sp hi)⟩) (h:=?_);rintro v1 w1 ⟨rfl,hb,hS⟩;refine Zao ?_;have hJ:JOk cx L j i (jins m j.f s x) (.tuple #[]) w1:=⟨rfl,cx,s,vl,css,St.refl hS,by rw [Q2B (by omega),Qd h1,Qd h2,Qd h3,if_neg (by simpa using hb)],hls,(St.back hS.sp hi)⟩)
                               all_goals (refine Qz ?_;exact .inl ⟨_,rfl,hJ⟩))
                          | (refine zcf ?_
                             all_goals (refine Zaa ?_)
                             all_goals (first|(refine Ql ?_)|(refine Qo ?_)|(refine Q8 rfl rfl (fun hc=> ?_) (fun hc=> ?_)))
                             all_goals (refine Zad ?_)
                             all_goals
                              first
                              | (refine zct ?_
                                 all_goals (refine Zac ?_;refine zf0 ?_;refine Yag ?_;refine zE3 (c:=Q93 (s:=s) hls hS fd) (p:=by rintro v9 w9 ⟨c,h1,rfl,hS⟩;(repeat (first|refine Q2 ?_|refine Q3 ?_|refine fun _=> ?_));refine Qc ?_;refine .inr ⟨_,rfl,?_⟩;exact ⟨_,by rw [Q8h (by omega),QF h1],rfl,(St.back0 hS.sp hi)⟩) (h:=?_);rintro v1 w1 ⟨t1,cs1,h1,rfl,hrd1,hS⟩;obtain ⟨vd1,rfl,hld1⟩:=Qr hrd1;refine Q7W rfl rfl ?_;refine ZaL ?_;refine zf0 ?_;refine Yag ?_;refine zE3 (c:=Q44 (s:=s) hls hS fd) (p:=by rintro v9 w9 ⟨c,h2,rfl,hS⟩;(repeat (first|refine Q2 ?_|refine Q3 ?_|refine fun _=> ?_));refine Qc ?_;refine .inr ⟨_,rfl,?_⟩;exact ⟨_,by rw [Q8h (by omega),Qd h1,QF h2],rfl,(St.back0 hS.sp hi)⟩) (h:=?_);rintro v1 w1 ⟨t2,cs2,h2,rfl,hrd2,hS⟩;skip;refine ZaJ ?_;refine zm ?_;refine zb2 [_,_,_] ?_;refine zE2 (c:=Q5V (s:=s) (by omega) (Q2R (k:=4) (r:=t1.r) (l:=[]) (Rep.SR.nil _ _ _)) hls hS fd) (p:=by rintro v9 w9 ⟨rfl,h80,hS⟩;(repeat (first|refine Q2 ?_|refine Q3 ?_|refine fun _=> ?_));refine Qc ?_;refine .inr ⟨_,rfl,?_⟩;exact ⟨_,by rw [Q8h (by omega),Qd h1,Qd h2,Q5x h80],rfl,(St.back0 hS.sp hi)⟩) (h:=?_);rintro v1 w1 ⟨rfl,hne,vl4,cs4,hls4,hS⟩;have hS:=hS.ns;have hJ:JOk cx L j i (jins m j.f s x) (.tuple #[]) w1:=⟨rfl,cx,⟨s.h,_⟩,vl4,cs4,St.refl hS,by rw [Q8h (by omega),Qd h1,Qd h2,Q43 hne],hls4,(St.back hS.sp hi)⟩)
                                 all_goals refine zn ?_)
                              | (refine zcf ?_
                                 all_goals (refine Zaa ?_)
                                 all_goals (first|(refine Ql ?_)|(refine Qo ?_)|(refine Q8 rfl rfl (fun hc=> ?_) (fun hc=> ?_)))
                                 all_goals (refine Zad ?_)
                                 all_goals
                                  first
                                  | (refine zct ?_
                                     all_goals (refine Zac ?_;refine zf0 ?_;refine Yag ?_;refine zE3 (c:=Q93 (s:=s) hls hS fd) (p:=by rintro v9 w9 ⟨c,h1,rfl,hS⟩;(repeat (first|refine Q2 ?_|refine Q3 ?_|refine fun _=> ?_));refine Qc ?_;refine .inr ⟨_,rfl,?_⟩;exact ⟨_,by rw [Q8g (by omega),QF h1],rfl,(St.back0 hS.sp hi)⟩) (h:=?_);rintro v1 w1 ⟨t1,cs1,h1,rfl,hrd1,hS⟩;skip;refine Zaz ?_;refine zf0 ?_;refine Yag ?_;refine zE3 (c:=Q44 (s:=s) hls hS fd) (p:=by rintro v9 w9 ⟨c,h2,rfl,hS⟩;(repeat (first|refine Q2 ?_|refine Q3 ?_|refine fun _=> ?_));refine Qc ?_;refine .inr ⟨_,rfl,?_⟩;exact ⟨_,by rw [Q8g (by omega),Qd h1,QF h2],rfl,(St.back0 hS.sp hi)⟩) (h:=?_);rintro v1 w1 ⟨t2,cs2,h2,rfl,hrd2,hS⟩;skip;refine ZaJ ?_;refine zv hS ?_;refine zE2 (c:=Q5V (s:=s) (by omega) hN hls hS fd) (p:=by rintro v9 w9 ⟨rfl,h80,hS⟩;(repeat (first|refine Q2 ?_|refine Q3 ?_|refine fun _=> ?_));refine Qc ?_;refine .inr ⟨_,rfl,?_⟩;exact ⟨_,by rw [Q8g (by omega),Qd h1,Qd h2,Q5x h80],rfl,(St.back0 hS.sp hi)⟩) (h:=?_);rintro v1 w1 ⟨rfl,hne,vl4,cs4,hls4,hS⟩;have hS:=hS.ns;have hJ:JOk cx L j i (jins m j.f s x) (.tuple #[]) w1:=⟨rfl,cx,⟨s.h,_⟩,vl4,cs4,St.refl hS,by rw [Q8g (by omega),Qd h1,Qd h2,Q43 hne],hls4,(St.back hS.sp hi)⟩)
                                     all_goals refine zn ?_)
                                  | (refine zcf ?_
                                     all_goals (refine Zaa ?_)
                                     all_goals (first|(refine Ql ?_)|(refine Qo ?_)|(refine Q8 rfl rfl (fun hc=> ?_) (fun hc=> ?_)))
                                     all_goals (refine Zad ?_)
                                     all_goals
                                      first
                                      | (refine zct ?_
                                         all_goals (refine Zac ?_;refine zf0 ?_;refine Yag ?_;refine zE3 (c:=Q93 (s:=s) hls hS fd) (p:=by rintro v9 w9 ⟨c,h1,rfl,hS⟩;(repeat (first|refine Q2 ?_|refine Q3 ?_|refine fun _=> ?_));refine Qc ?_;refine .inr ⟨_,rfl,?_⟩;exact ⟨_,by rw [Q5y (by omega),QF h1],rfl,(St.back0 hS.sp hi)⟩) (h:=?_);rintro v1 w1 ⟨t1,cs1,h1,rfl,hrd1,hS⟩;skip;refine Zaz ?_;refine zf0 ?_;refine Yag ?_;refine zE3 (c:=Q44 (s:=s) hls hS fd) (p:=by rintro v9 w9 ⟨c,h2,rfl,hS⟩;(repeat (first|refine Q2 ?_|refine Q3 ?_|refine fun _=> ?_));refine Qc ?_;refine .inr ⟨_,rfl,?_⟩;exact ⟨_,by rw [Q5y (by omega),Qd h1,QF h2],rfl,(St.back0 hS.sp hi)⟩) (h:=?_);rintro v1 w1 ⟨t2,cs2,h2,rfl,hrd2,hS⟩;skip;refine ZaJ ?_;refine zf0 ?_;refine Yag ?_)
                                         all_goals (refine zE3 (c:=Q44 (s:=s) hls hS fd) (p:=by rintro v9 w9 ⟨c,h3,rfl,hS⟩;(repeat (first|refine Q2 ?_|refine Q3 ?_|refine fun _=> ?_));refine Qc ?_;refine .inr ⟨_,rfl,?_⟩;exact ⟨_,by rw [Q5y (by omega),Qd h1,Qd h2,QF h3],rfl,(St.back0 hS.sp hi)⟩) (h:=?_);rintro v1 w1 ⟨t3,cs3,h3,rfl,hrd3,hS⟩;skip;refine zn ?_)
                                         all_goals (have hJ:JOk cx L j i (jins m j.f s x) (.tuple #[]) w1:=⟨rfl,cx,s,vl,css,St.refl hS,by rw [Q5y (by omega),Qd h1,Qd h2,Qd h3],hls,(St.back hS.sp hi)⟩))
                                      | (refine zcf ?_
                                         all_goals (refine Zaa ?_)
                                         all_goals (first|(refine Ql ?_)|(refine Qo ?_)|(refine Q8 rfl rfl (fun hc=> ?_) (fun hc=> ?_)))
                                         all_goals (refine Zad ?_)
                                         all_goals
                                          first
                                          | (refine zct ?_
                                             all_goals (refine Zac ?_;refine zf0 ?_;refine Yag ?_;refine zE3 (c:=Q93 (s:=s) hls hS fd) (p:=by rintro v9 w9 ⟨c,h1,rfl,hS⟩;(repeat (first|refine Q2 ?_|refine Q3 ?_|refine fun _=> ?_));refine Qc ?_;refine .inr ⟨_,rfl,?_⟩;exact ⟨_,by rw [Q6O (by omega),QF h1],rfl,(St.back0 hS.sp hi)⟩) (h:=?_);rintro v1 w1 ⟨t1,cs1,h1,rfl,hrd1,hS⟩;skip;refine ZaJ ?_;refine zv hS ?_;refine zE2 (c:=Q5V (s:=s) (by omega) hN hls hS fd) (p:=by rintro v9 w9 ⟨rfl,h80,hS⟩;(repeat (first|refine Q2 ?_|refine Q3 ?_|refine fun _=> ?_));refine Qc ?_;refine .inr ⟨_,rfl,?_⟩;exact ⟨_,by rw [Q6O (by omega),Qd h1,Q5x h80],rfl,(St.back0 hS.sp hi)⟩) (h:=?_);rintro v1 w1 ⟨rfl,hne,vl4,cs4,hls4,hS⟩;have hS:=hS.ns;have hJ:JOk cx L j i (jins m j.f s x) (.tuple #[]) w1:=⟨rfl,cx,⟨s.h,_⟩,vl4,cs4,St.refl hS,by rw [Q6O (by omega),Qd h1,Q43 hne],hls4,(St.back hS.sp hi)⟩)
                                             all_goals refine zn ?_)
                                          | (refine zcf ?_
                                             all_goals (refine Zaa ?_)
                                             all_goals (first|(refine Ql ?_)|(refine Qo ?_)|(refine Q8 rfl rfl (fun hc=> ?_) (fun hc=> ?_)))
                                             all_goals (refine Zad ?_)
                                             all_goals
                                              first
                                              | (refine zct ?_
                                                 all_goals (refine Zae ?_;refine zf0 ?_;refine Yag ?_;refine zE3 (c:=Q44 (s:=s) hls hS fd) (p:=by rintro v9 w9 ⟨c,h1,rfl,hS⟩;(repeat (first|refine Q2 ?_|refine Q3 ?_|refine fun _=> ?_));refine Qc ?_;refine .inr ⟨_,rfl,?_⟩;exact ⟨_,by rw [Q8k (by omega),QF h1],rfl,(St.back0 hS.sp hi)⟩) (h:=?_);rintro v1 w1 ⟨t1,cs1,h1,rfl,hrd1,hS⟩;skip;refine zn ?_)
                                                 all_goals (have hJ:JOk cx L j i (jins m j.f s x) (.tuple #[]) w1:=⟨rfl,cx,s,vl,css,St.refl hS,by rw [Q8k (by omega),Qd h1],hls,(St.back hS.sp hi)⟩))
                                              | (refine zcf ?_
                                                 all_goals (refine Zaa ?_)
                                                 all_goals (refine Ql ?_)
                                                 all_goals (refine Zad ?_)
                                                 all_goals
                                                  first
                                                  | (refine zct ?_
                                                     all_goals (refine Zae ?_;refine zv hS ?_;refine zE2 (c:=jcall_c hm (Qg1 hF (by omega)) hn hj hx' hls hS fd) (p:=by rintro v9 w9 ⟨c,g1,rfl,hS⟩;(repeat (first|refine Q2 ?_|refine Q3 ?_|refine fun _=> ?_));refine Qc ?_;refine .inr ⟨_,rfl,?_⟩;exact ⟨_,by rw [Q6N (by omega)];exact g1,rfl,(St.back0 hS.sp hi)⟩) (h:=?_);rintro v1 w1 ⟨rfl,c1,s1,vl4,cs4,hle,hr1,hls4,hS⟩;have hS:=hS.ns;have hJ:JOk cx L j i (jins m j.f s x) (.tuple #[]) w1:=⟨rfl,c1,s1,vl4,cs4,hle,by rw [Q6N (by omega)];exact hr1,hls4,(St.back hS.sp hi)⟩)
                                                     all_goals refine zn ?_))))))
                             all_goals (refine Qz ?_;exact .inl ⟨_,rfl,hJ⟩))))))
          | (refine zct ?_
             all_goals (refine ZaR ?_;refine zf0 ?_;refine Q1v hS rfl fd rfl ?_;refine zR1 (c:=jlen_c hS fd) (h:=?_);rintro v1 w1 ⟨rfl,hS⟩)
             all_goals (first|(refine Ql ?_)|(refine Qo ?_)|(refine Q8 rfl rfl (fun hc=> ?_) (fun hc=> ?_)))
             all_goals (refine Zam ?_;refine ZaV ?_;(first|refine zgn ?_|(refine zgy ?_;refine Q1v hS rfl fd rfl ?_));(first|refine zgn ?_|(refine zgy ?_;refine Q9h hS fd vw hlc ?_)))
             all_goals (first|refine zgn ?_|(refine zgy ?_;(first|(refine Ql ?_)|(refine Qo ?_)|(refine Q8 rfl rfl (fun hc=> ?_) (fun hc=> ?_)))))
             all_goals (refine Yae ?_)
             all_goals (first|(refine zR2 (c:=Q2i hS) (h:=?_);rintro v1 w1 ⟨rfl,hS⟩)|(refine zE2 (c:=Q2h hS) (p:=by rintro v9 w9 ⟨rfl,hS⟩;(repeat (first|refine Q2 ?_|refine Q3 ?_|refine fun _=> ?_));refine Qc ?_;refine .inr ⟨_,rfl,?_⟩;exact ⟨_,by rw [Qbr (by omega),if_pos (by omega)],rfl,(St.back0 hS.sp hi)⟩) (h:=fun _ _ h=> h.elim)))
             all_goals (refine ZaJ ?_;refine ZaA ?_;refine zf0 ?_;refine Q1v hS rfl fd rfl ?_;refine zR1 (c:=jopen_c (h:=s.h) (by omega) hS fd) (h:=?_);rintro v1 w1 ⟨rfl,hS⟩;have hS:=hS.ns;refine zb2 [_,_,_] ?_;refine zE2 (c:=Q5V (s:=s) (by omega) (Q2R (k:=2) (r:=s.h.length) (l:=[]) (Rep.SR.nil _ _ _)) hls hS fd) (p:=by rintro v9 w9 ⟨rfl,h80,hS⟩;(repeat (first|refine Q2 ?_|refine Q3 ?_|refine fun _=> ?_));refine Qc ?_;refine .inr ⟨_,rfl,?_⟩;(exfalso;omega)) (h:=?_);rintro v1 w1 ⟨rfl,hne,vl4,cs4,hls4,hS⟩;have hS:=hS.ns;have hJ:JOk cx L j i (jins m j.f s x) (.tuple #[]) w1:=⟨rfl,cx,⟨s.h++[true],_⟩,vl4,cs4,St.refl hS,by rw [Qbr (by omega),if_neg (by omega)],hls4,(St.back hS.sp hi)⟩;refine zn ?_)
             all_goals (refine Qz ?_;exact .inl ⟨_,rfl,hJ⟩))))
end Go.Proofs.YteflkifmgnpbhaaGreat
namespace Go.Proofs.YteflkifmgnpbhaaGreat
open Go.Lir
set_option maxHeartbeats 1000000
attribute [local irreducible] LC.wp Q0 Qk Qh retQ Qt LO.wp Q4 Calls
set_option linter.unusedSimpArgs false
set_option linter.unusedVariables false
attribute [local irreducible] hasB Q3g Q1L Q1U Q42 upTo
variable {cx:Cx}{w:World}{L:List Res}{j:JP}{h:List Bool}{vl:Value}{css:List (List Value)}{i:Nat}{m:Module}
theorem jto_c {s:JS}{t:To}{cs:List Value}(hsf:j.f.Short) (hb:0≤t.block∧t.block < j.f.blocks.length) (hfb:∀b∈j.f.blocks,j.f.regs≤b.regs) (hh:s.h.length≤16) (hj:j.Fits cx m) (hx:toR.at cx cs t) (hls:tyR.ls cx css s.l) (hS:St cx w L) (hi:nth L i=some (j.res s.h vl css)):
 Fins Tryz.prog Q91 [.pointer (some ⟨j.sp,0,none⟩), .agg ⟨cs⟩] w (fun u w'=> jto j.f s t= .ok ()∧u= .tuple #[]∧St cx w' L) (JNo cx L (jto j.f s t)):=by
 have hS:=hS.out hi
 obtain ⟨vr,va,rfl,hr,ha⟩:=Q6q hx
 have hlr:=hr.len
 have hbl:=hj.b
 unfold Fins
 all_goals refine lgo tyD Tryz.func249 ?_
 all_goals (refine Zat ?_;intro p3 w1 hS;refine Zal ?_;refine zC [(0,none),(1,none),(2,none),(3,none),(4,none),(5,none),(6,none),(7,none),(8,none),(9,some (some [4,6,8])),(10,some none)] ?_;have hS:=hS.drew;refine ZaW ?_;refine zf0 ?_;refine Zbb ?_;refine Q1v hS rfl fd rfl ?_;refine Zab ?_;refine zf0 ?_;refine Zbx ?_;refine Zab ?_;refine Yam ?_;intro b1 o1 cs1 x1 hat1 hx1 he1;obtain ⟨vp1,vc1,ve11,ve12,ve13,ve14,ve15,rfl,hp1,hc1,he11,he12,he13,he14,he15⟩:=Q1S he1;refine Zab ?_;refine Yai ?_;refine ZaY ?_;intro p4 w1 hS;refine zt ?_;refine ⟨List.forall_mem_cons.2 ⟨(by (exact Q19 hS rfl fd rfl)),List.forall_mem_cons.2 ⟨(by first|(exact Q19 hS rfl fd rfl)|(exact QL hS rfl fd rfl)),List.forall_mem_cons.2 ⟨(by first|(exact Q19 hS rfl fd rfl)|(exact Q1V hS rfl fd rfl rfl)|(exact Q2D hS (by assumption) rfl rfl rfl)),fun _ h=> (List.not_mem_nil h).elim⟩⟩⟩,?_⟩)
 all_goals (refine s_cf ?_;refine zsn hS ?_;intro w1 hS;have hS:=hS.ns;refine Zao ?_;have hbm:=List.mem_of_getElem? hx1;have hf1:=hfb x1 hbm;have hsb:=hsf.2.2.2 x1 hbm;refine Zaa ?_;refine zf0 ?_;refine Yag ?_;refine zL ?_;refine zf0 ?_;refine Yag ?_)
 all_goals (first|(refine Q1D ?_)|(refine Q1M ?_)|(refine QI rfl rfl (fun hc=> ?_) (fun hc=> ?_)))
 all_goals (first|(refine zR2 (c:=Q2i hS) (h:=?_);rintro v1 w1 ⟨rfl,hS⟩)|(refine zE2 (c:=Q2h hS) (p:=by rintro v9 w9 ⟨rfl,hS⟩;(repeat (first|refine Q2 ?_|refine Q3 ?_|refine fun _=> ?_));refine Qc ?_;refine .inr ⟨_,rfl,?_⟩;exact ⟨_,jto_2 hx1 (by omega),rfl,(St.back0 hS.sp hi)⟩) (h:=fun _ _ h=> h.elim)))
 all_goals (refine zn ?_;refine Zak ?_;refine znc ?_;refine zf0 ?_;refine Yad ?_;refine Q1v hS rfl fd rfl ?_;refine ZaB ?_)
 refine zoL hS [0,3,4,27] (fun A LL ρ' w'=>∃(q:Nat),Has ρ' A∧Has ρ' [(28, .int .i64 q)]∧(q≤j.f.regs.toNat)∧(Q42 t.regs q=true)∧(¬(t.regs.length:Int)≠x1.regs)∧St cx w' (LL)) (fun ρ' _=> (j.f.regs - iv (ρ' 28)).toNat) ?_ ?_
 · exact ⟨0,zh,zh,(by omega),by unfold Q42;rfl,by omega,hS.sp⟩
 rintro ρ w1 ⟨q,hA,hρ,hq,hk,hne,hS⟩;obtain ⟨ρ,rfl⟩:=env2 hA hρ
 all_goals (refine ZaI ?_)
 refine Qq rfl (fun hc=> ?_) (fun hc=> ?_)
 · skip
   all_goals (refine Zbp ?_;refine Zad ?_;refine Q10 ?_;refine zf0 ?_;refine Yag ?_;refine zm ?_;refine zi ?_;intro b2 o2 cs2 x2 hat2 hx2 he2;obtain rfl:=QY he2;(first|(refine Q1v hS rfl fd rfl ?_)|(refine zl hS ?_)|(refine zlk hS ?_));refine zm ?_)
   all_goals (first|(refine Q1D ?_)|(refine Q1M ?_)|(refine QI rfl rfl (fun hc=> ?_) (fun hc=> ?_)))
   all_goals (first|(refine zR2 (c:=Q2i hS) (h:=?_);rintro v1 w1 ⟨rfl,hS⟩)|(refine zE2 (c:=Q2h hS) (p:=by rintro v9 w9 ⟨rfl,hS⟩;(repeat (first|refine Q2 ?_|refine Q3 ?_|refine fun _=> ?_));refine Qc ?_;refine .inr ⟨_,rfl,?_⟩;exact ⟨_,jto_11 hx1 hne (kept_no (q:=q) (by omega) (by rw [hx2];intro h;cases h;omega)),rfl,(St.back0 hS.sp hi)⟩) (h:=fun _ _ h=> h.elim)))
   all_goals (refine Zbi ?_;refine zad ?_;refine Zad ?_;exact ⟨⟨q+1,zh,zh,(by omega),by rw [kept_s,hk,hx2];simp;omega,hne,hS.sp⟩,Qv (by omega)⟩)
 · skip
   all_goals (refine zex ?_;have hq':q=j.f.regs.toNat:=(by omega);rw [hq'] at hk;refine QB ?_;refine zD (ci 8 [6,7]) ?_;have hS:=hS.drew;refine ZaA ?_;refine zf0 ?_;refine Q1v hS rfl fd rfl ?_;refine zf0 ?_;refine Yag ?_;refine zR2 (c:=jpass_c (h:=s.h) hh hr hS fd) (h:=?_);rintro v1 w1 ⟨rfl,hS⟩;refine ZaL ?_;refine Q4n rfl rfl ?_;refine zm ?_;refine zE2 (c:=Q3d hS) (p:=by rintro v9 w9 ⟨rfl,hb,hS⟩;(repeat (first|refine Q2 ?_|refine Q3 ?_|refine fun _=> ?_));refine Qc ?_;refine .inr ⟨_,rfl,?_⟩;exact ⟨_,jto_p hx1 hne hk (of_decide_eq_true hb),rfl,(St.back0 hS.sp hi)⟩) (h:=?_);rintro v1 w1 ⟨rfl,hb,hS⟩;refine ZaJ ?_;refine zf0 ?_;refine Yag ?_;refine zf0 ?_;refine Yag ?_)
   all_goals (refine zf0 ?_;refine Yag ?_;refine zE4 (c:=QcA (s:=s) hsb.1.2 hls ha hp1 hr hS fd) (p:=by rintro v9 w9 ⟨c,g1,rfl,hS⟩;(repeat (first|refine Q2 ?_|refine Q3 ?_|refine fun _=> ?_));refine Qc ?_;refine .inr ⟨_,rfl,?_⟩;exact ⟨_,(jto_a hx1 hne hk (Classical.not_not.1 (of_decide_eq_false hb))).trans g1,rfl,(St.back0 hS.sp hi)⟩) (h:=?_);rintro v1 w1 ⟨har,rfl,hS⟩;refine Zbc ?_;exact .inl ⟨_,rfl,(jto_a hx1 hne hk (Classical.not_not.1 (of_decide_eq_false hb))).trans har,rfl,(St.back0 hS.sp hi)⟩)
theorem jend_c {s:JS}{e:Tail}{cs:List Value}(hsf:j.f.Short) (hF:Q1I j.f.blocks.length e=0) (hfb:∀b∈j.f.blocks,j.f.regs≤b.regs) (hfr:j.f.regs≤100000) (hh:s.h.length≤16) (hj:j.Fits cx m) (hx:endR.at cx cs e) (hls:tyR.ls cx css s.l) (hS:St cx w L) (hi:nth L i=some (j.res s.h vl css)):
 Fins Tryz.prog Q8d [.pointer (some ⟨j.sp,0,none⟩), .agg ⟨cs⟩] w (fun u w'=> jend j.f s e= .ok ()∧u= .tuple #[]∧St cx w' L) (JNo cx L (jend j.f s e)):=by
 have hS:=hS.out hi
 obtain ⟨v1,v2,v3,v4,v5,rfl,h1,h2,h3,h4,h5⟩:=Q22 hx
 have hop:=Q3J hF
 have hy:e.op≠3→0≤e.yes.block∧e.yes.block < j.f.blocks.length:=fun h=> Q3N (by have:=hop.2.2.1;rwa [decide_eq_true h] at this)
 have hz:e.op=2→0≤e.no.block∧e.no.block < j.f.blocks.length:=fun h=> Q3N (by have:=hop.2.2.2;rwa [decide_eq_true h] at this)
 have hT1:toR.at cx [.int .i64 e.yes.block,v1,v2] e.yes:=⟨_,_,rfl,h1,h2⟩
 have hT2:toR.at cx [.int .i64 e.no.block,v3,v4] e.no:=⟨_,_,rfl,h3,h4⟩
 have hjr:=hj.r
 unfold Fins
 all_goals refine lgo tyD Tryz.func210 ?_
 all_goals (refine Zat ?_;intro p3 w1 hS;refine ZaD ?_;refine zf0 ?_;refine Yag ?_;refine zn ?_;refine Zby ?_)
 all_goals (first|(refine Ql ?_)|(refine Qo ?_)|(refine Q8 rfl rfl (fun hc=> ?_) (fun hc=> ?_)))
 all_goals (refine Zad ?_)
 all_goals
  first
  | (refine zct ?_
     all_goals (refine Zae ?_;refine zf0 ?_;refine zv hS ?_;refine zE2 (c:=jto_c (s:=s) hsf (hy (by omega)) hfb hh hj hT1 hls hS fd) (p:=by rintro v9 w9 ⟨c,g1,rfl,hS⟩;(repeat (first|refine Q2 ?_|refine Q3 ?_|refine fun _=> ?_));refine Qc ?_;refine .inr ⟨_,rfl,?_⟩;exact ⟨_,(QfU (by omega)).trans g1,rfl,(St.back0 hS.sp hi)⟩) (h:=?_);rintro v6 w1 ⟨g1,rfl,hS⟩;have hJ:=(QfU (f:=j.f) (s:=s) (e:=e) (by omega)).trans g1;refine zn ?_)
     all_goals (refine Qz ?_;exact .inl ⟨_,rfl,hJ,rfl,(St.back0 hS.sp hi)⟩))
  | (refine zcf ?_
     all_goals (refine Zaa ?_)
     all_goals (first|(refine Ql ?_)|(refine Qo ?_)|(refine Q8 rfl rfl (fun hc=> ?_) (fun hc=> ?_)))
     all_goals (refine Zad ?_)
     all_goals
      first
      | (refine zct ?_
         all_goals (refine Zac ?_;refine zf0 ?_;refine Yag ?_;refine zE3 (c:=Q44 (s:=s) hls hS fd) (p:=by rintro v9 w9 ⟨c,g1,rfl,hS⟩;(repeat (first|refine Q2 ?_|refine Q3 ?_|refine fun _=> ?_));refine Qc ?_;refine .inr ⟨_,rfl,?_⟩;exact ⟨_,by rw [Qbs (by omega),QF g1],rfl,(St.back0 hS.sp hi)⟩) (h:=?_);rintro v6 w1 ⟨t1,cs1,g1,rfl,hrd1,hS⟩;refine Zaz ?_;refine zf0 ?_;refine zv hS ?_;refine zE2 (c:=jto_c (s:=s) hsf (hy (by omega)) hfb hh hj hT1 hls hS fd) (p:=by rintro v9 w9 ⟨c,g2,rfl,hS⟩;(repeat (first|refine Q2 ?_|refine Q3 ?_|refine fun _=> ?_));refine Qc ?_;refine .inr ⟨_,rfl,?_⟩;exact ⟨_,by rw [Qbs (by omega),Qd g1,QF g2],rfl,(St.back0 hS.sp hi)⟩) (h:=?_);rintro v6 w1 ⟨g2,rfl,hS⟩;refine ZaJ ?_;refine zf0 ?_;refine zv hS ?_;refine zE2 (c:=jto_c (s:=s) hsf (hz (by omega)) hfb hh hj hT2 hls hS fd) (p:=by rintro v9 w9 ⟨c,g3,rfl,hS⟩;(repeat (first|refine Q2 ?_|refine Q3 ?_|refine fun _=> ?_));refine Qc ?_;refine .inr ⟨_,rfl,?_⟩;exact ⟨_,by rw [Qbs (by omega),Qd g1,Qd g2];exact g3,rfl,(St.back0 hS.sp hi)⟩) (h:=?_);rintro v6 w1 ⟨g3,rfl,hS⟩;have hJ:jend j.f s e= .ok ():=(by rw [Qbs (by omega),Qd g1,Qd g2];exact g3))
         all_goals (refine zn ?_)
         all_goals (refine Qz ?_;exact .inl ⟨_,rfl,hJ,rfl,(St.back0 hS.sp hi)⟩))
      | (refine zcf ?_
         all_goals (refine Zaa ?_)
         all_goals (refine Ql ?_)
         all_goals (refine Zad ?_)
         all_goals
          first
          | (refine zcf ?_
             all_goals (refine zsk ?_)
             all_goals (refine Qz ?_;exact .inl ⟨_,rfl,hJ,rfl,(St.back0 hS.sp hi)⟩))
          | (refine zct ?_
             all_goals (refine ZaQ ?_;refine znc ?_;refine zf0 ?_;refine Yad ?_;refine Q1v hS rfl fd rfl ?_;refine ZaB ?_;have hS:=St.nil (T:=3) (es:=1) hS)
             refine zo [0,3,34] (fun A ρ' w'=>∃(q:Nat) (vo:Value) (co:List (List Value)),Has ρ' A∧Has ρ' [(35, .int .i64 q),(4,vo)]∧(q≤j.f.regs.toNat)∧(intR.ls cx co (upTo q))∧((upTo q).length=q)∧(e.op=3)∧St cx w' (sl 3 1 vo co::blk p3 90 [.int .i64 e.op, .int .i64 e.a, .int .i64 e.yes.block,v1,v2, .int .i64 e.no.block,v3,v4,v5]::j.res s.h vl css::L.eraseIdx i)) (fun ρ' _=> (j.f.regs - iv (ρ' 35)).toNat) ?_ ?_
             · exact ⟨0,_,[],zh,zh,(by omega),by unfold upTo;exact Rep.LR.nil _ _ _,by unfold upTo;rfl,by omega,hS.sp⟩
             rintro ρ w1 ⟨q,vo,co,hA,hρ,hq,hlo,hlq,ho3,hS⟩;obtain ⟨ρ,rfl⟩:=env2 hA hρ
             all_goals (refine ZaI ?_)
             refine Qq rfl (fun hc=> ?_) (fun hc=> ?_)
             · skip
               all_goals (refine Zbp ?_;refine Zad ?_;refine Zae ?_;refine zm ?_;refine zB1 hS [_] ?_;intro b1 w1 hS;refine za Q5o Q9F hS ?_;intro vp1 w1 css1 hls1 hv1 hS;have hS:=hS.ns;refine Zad ?_;refine Q10 ?_;refine zad ?_;refine Zad ?_;exact ⟨⟨q+1,_,_,zh,zh,(by omega),by rw [upTo_s];exact hls1,by rw [upTo_s,List.length_append,hlq];rfl,ho3,hS.sp⟩,Qv (by omega)⟩)
             · skip
               all_goals (refine zex ?_;have hq':q=j.f.regs.toNat:=(by omega);rw [hq'] at hlo;obtain ⟨c1,hle2,hS,hk1⟩:=St.freezeL (r:=intR) hS hlo rfl (by rw [←hq'];omega);have hls':=hls.up hle2;have h5':=h5.up hle2;have hjr':=hjr.up hle2;refine QB ?_;refine zD (ci 10 [9]) ?_;have hS:=hS.drew;refine zm ?_;refine zf0 ?_;refine Yag ?_;refine ZaA ?_;refine zf0 ?_;refine Yad ?_;refine Q1v hS rfl fd rfl ?_;refine zm ?_;refine zE4 (c:=QcA (s:=s) hsf.2.1.2 hls' h5' hjr' hk1 hS fd) (p:=by rintro v9 w9 ⟨c,g1,rfl,hS⟩;(repeat (first|refine Q2 ?_|refine Q3 ?_|refine fun _=> ?_));refine Qc ?_;refine .inr ⟨_,rfl,?_⟩;exact ⟨_,by rw [Qdv ho3,QF g1],rfl,St.weak (St.back0 hS.sp hi) hle2⟩) (h:=?_);rintro v6 w1 ⟨har,rfl,hS⟩;refine zn ?_;refine zC [(0,none),(1,none),(2,none),(3,none),(6,none),(7,none),(8,none),(9,none),(10,none),(4,some (some [10])),(5,none),(11,none),(12,some none)] ?_;have hS:=hS.drew)
               all_goals (refine ZaW ?_;refine zf0 ?_;refine Zab ?_;refine Q1v hS rfl fd rfl ?_;refine Zaq ?_;refine Zaw ?_;refine zf0 ?_;refine Zbb ?_;refine Q1v hS rfl fd rfl ?_;refine Zaj ?_;refine zR1 (c:=jlist_c (h:=s.h) hh hS fd) (h:=?_);rintro v1 w1 ⟨c2,hle3,hk2,hS⟩;have hS:=St.weak hS hle3;have hS:=St.weak hS hle2;have hl2:=hk2.len;refine zt ?_;refine ⟨List.forall_mem_cons.2 ⟨(by (exact Q19 hS rfl fd rfl)),fun _ h=> (List.not_mem_nil h).elim⟩,?_⟩;refine s_cq ?_;refine zL ?_;refine Zab ?_;refine Q7V rfl rfl ?_;refine Zau ?_)
               all_goals (refine zE2 (c:=Q3d hS) (p:=by rintro v9 w9 ⟨rfl,hb,hS⟩;(repeat (first|refine Q2 ?_|refine Q3 ?_|refine fun _=> ?_));refine Qc ?_;refine .inr ⟨_,rfl,?_⟩;exact ⟨_,by rw [Qdv ho3,Qd har,if_pos (by have:=of_decide_eq_true hb;omega)],rfl,(St.back0 hS.sp hi)⟩) (h:=?_);rintro v1 w1 ⟨rfl,hb,hS⟩;have hJ:jend j.f s e= .ok ():=(by rw [Qdv ho3,Qd har,if_neg (by have:=of_decide_eq_false hb;omega)]);refine Zao ?_)
               all_goals (refine Qz ?_;exact .inl ⟨_,rfl,hJ,rfl,(St.back0 hS.sp hi)⟩))))
end Go.Proofs.YteflkifmgnpbhaaGreat
namespace Go.Proofs.YteflkifmgnpbhaaGreat
open Go.Lir
set_option maxHeartbeats 1000000
attribute [local irreducible] LC.wp Q0 Qk Qh retQ Qt LO.wp Q4 Calls
set_option linter.unusedSimpArgs false
set_option linter.unusedVariables false
attribute [local irreducible] hasB Q3g Q1L Q1U Q42 upTo
variable {cx:Cx}{w:World}{L:List Res}{j:JP}{h:List Bool}{vl:Value}{css:List (List Value)}{i:Nat}{m:Module}
theorem Qgv {p:Nat}{n:Int}(hS:St cx w (blk p 3 [.int .i64 n]::L)):Defs Tryz.prog Q5i [.pointer (some ⟨p,0,none⟩)] .returning w fun u' w'=> u'= .returning∧St cx w' (blk p 3 [.int .i64 n]::L):=by
 unfold Defs
 all_goals refine lgr tyD Tryz.func237 ?_
 all_goals (refine Qcg ?_;refine r_sp ?_;refine zn ?_;refine Zad ?_;refine r_pl ?_;refine Zac ?_;refine Qdb (ms:=#[]) (by kernel_rfl) rfl ?_;refine zn ?_)
 all_goals refine zcf ?_
 all_goals (refine zsk ?_;refine ZbP ?_;exact ⟨⟨_,rfl⟩,rfl,hS.sp⟩)
theorem Qgu {p:Nat}{n e:Int}(hS:St cx w (blk p 3 [.int .i64 n]::L)):Defs Tryz.prog Q5i [.pointer (some ⟨p,0,none⟩)] (.panicking [{v:=Q68 e,recovered:=false}]) w fun u' w'=> u'= .panicking [{v:=Q68 e,recovered:=true}]∧St cx w' (blk p 3 [.int .i64 e]::L):=by
 unfold Defs
 all_goals refine lgr tyD Tryz.func237 ?_
 all_goals (refine Qcg ?_;refine r_sp ?_;refine zn ?_;refine Zad ?_;refine r_pl ?_;refine Zac ?_;refine Qda (ms:=#[]) (by kernel_rfl) rfl ?_;refine zn ?_)
 all_goals refine zct ?_
 all_goals (refine Zac ?_;refine Q7x (D:= .int .i64) (by kernel_rfl) (by intro m;exact TypeDesc.noConfusion) rfl ?_;refine zm ?_;refine Zba ?_;refine zm ?_;refine Zbj ?_;refine Zbm ?_)
 all_goals refine zcf ?_
 all_goals (refine zsk ?_;refine Zae ?_;refine zst hS ?_;intro w1 hS;have hS:=hS.ns;refine zn ?_;refine ZbP ?_;exact ⟨⟨_,rfl⟩,rfl,hS.sp⟩)
theorem QdH {f:FuncId}{cap:List Value}{X:Cx→List Res→Prop}{Y:Int→Cx→List Res→Prop}(hf:Q3G Tryz.prog f=true)
 (hc:∀(p:Nat) (w:World),St cx w (blk p 3 [.int .i64 0]::L)→Fins Tryz.prog f cap w (fun _ w'=>∃c' L',cx.Le c'∧St c' w' (blk p 3 [.int .i64 0]::L')∧X c' L') (fun u w'=>∃e c' L',u=Q68 e∧cx.Le c'∧St c' w' (blk p 3 [.int .i64 0]::L')∧Y e c' L')) (hS:St cx w L):
 Rets Tryz.prog Qbn [.func (.func f) #[] ⟨cap⟩] w fun u w'=>∃e c' L',u= .int .i64 e∧cx.Le c'∧St c' w' L'∧(e=0∧X c' L'∨Y e c' L'):=by
 all_goals refine lgd tyD Tryz.func205 ?_
 all_goals (refine QaD ?_;refine d_pl ?_;refine Q10 ?_;refine Qg hS ?_;intro p2 w1 hS;refine zn ?_;refine QaD ?_;refine d_sp ?_;refine Qb2 ?_;refine zn ?_;refine ⟨_,_,rfl,?_⟩;refine zn ?_;refine d_pl ?_;refine Zac ?_)
 all_goals (refine s_endsv rfl hf rfl (hc _ _ hS) (by rintro v9 w9 ⟨e,c1,L1,rfl,hle,hS,hY⟩;(repeat (refine Yba ?_));refine Qdk ?_;refine Q2t (by intro h;cases h) (by kernel_rfl) (Qgu hS) ?_;rintro u' w' ⟨rfl,hS⟩;refine Q1Z ?_;refine Q1z vw (Q9x (by kernel_rfl) (hS.blkAt nth0) rfl) ?_;exact ⟨_,rfl,e,c1,L1,rfl,hle,hS.drop, .inr hY⟩) ?_;rintro v1 w1 ⟨c1,L1,hle,hS,hX⟩)
 all_goals (refine ZaD ?_;refine zst hS ?_;intro w1 hS;have hS:=hS.ns;refine ZaS ?_)
 all_goals (refine q_retD ?_;refine Q2t (by intro h;cases h) (by kernel_rfl) (Qgv hS) ?_;rintro u1 w1 ⟨rfl,hS⟩;refine Q1Z ?_)
 all_goals (refine Q1z vw (Q9x (by kernel_rfl) (hS.blkAt fd) rfl) ?_;exact ⟨_,rfl,0,c1,L1,rfl,hle,hS.drop, .inl ⟨rfl,hX⟩⟩)
theorem jins1_c {s:JS}{x:Ins}{cs:List Value}{p pa pb:Nat}(hm:m.Short) (hF:QC m.funcs.length x=0) (hn:s.l.length≤80) (hh:s.h.length≤16) (hj:j.Fits cx m) (hx:insR.at cx cs x) (hls:tyR.ls cx css s.l)
 (hS:St cx w (blk p 3 [.int .i64 0]::blk pb 84 cs::blk pa 207 [.pointer (some ⟨j.sp,0,none⟩)]::j.res s.h vl css::L)):
 Fins Tryz.prog Q6K [.pointer (some ⟨pa,0,none⟩), .pointer (some ⟨pb,0,none⟩)] w
  (fun _ w'=>∃c' L',cx.Le c'∧St c' w' (blk p 3 [.int .i64 0]::L')∧∃s' vl' css',jins m j.f s x= .ok s'∧tyR.ls c' css' s'.l∧L'=blk pb 84 cs::blk pa 207 [.pointer (some ⟨j.sp,0,none⟩)]::j.res s'.h vl' css'::L)
  (fun u w'=>∃e c' L',u=Q68 e∧cx.Le c'∧St c' w' (blk p 3 [.int .i64 0]::L')∧jins m j.f s x= .error e∧c'=cx∧L'=blk pb 84 cs::blk pa 207 [.pointer (some ⟨j.sp,0,none⟩)]::j.res s.h vl css::L):=by
 have hx':=hx
 obtain ⟨vr,va,rfl,hr,ha⟩:=QZ hx
 unfold Fins
 all_goals refine lgo tyD Tryz.func206 ?_
 all_goals (refine Q10 ?_;refine zl hS ?_;refine zv hS ?_;refine zE2 (c:=jins_c hm hF hn hh hj hx' hls hS fd) (p:=by rintro v9 w9 ⟨c,g1,rfl,hS⟩;(repeat (first|refine Q2 ?_|refine Q3 ?_|refine fun _=> ?_));refine Qc ?_;refine .inr ⟨_,rfl,?_⟩;exact ⟨c,cx,_,rfl,St.refl hS,hS,g1,rfl,rfl⟩) (h:=?_);rintro v1 w1 ⟨rfl,c1,s1,vl4,cs4,hle,hr1,hls4,hS⟩;have hS:=hS.ns;refine Zbc ?_;exact .inl ⟨_,rfl,c1,_,hle,hS,s1,vl4,cs4,hr1,hls4,rfl⟩)
theorem jIns_c {s:JS}{x:Ins}{cs:List Value}(hm:m.Short) (hn:s.l.length≤80) (hh:s.h.length≤16) (hj:j.Fits cx m) (hx:insR.at cx cs x) (hls:tyR.ls cx css s.l) (hS:St cx w L) (hi:nth L i=some (j.res s.h vl css)):
 Rets Tryz.prog Q8e [.pointer (some ⟨j.sp,0,none⟩), .agg ⟨cs⟩] w fun u w'=> u= .int .i64 (jIns m j.f s x).1∧∃c' vl' css',cx.Le c'∧tyR.ls c' css' (jIns m j.f s x).2.l∧St c' w' (L.set i (j.res (jIns m j.f s x).2.h vl' css')):=by
 have hS:=hS.out hi
 have hx':=hx
 obtain ⟨vr,va,rfl,hr,ha⟩:=QZ hx
 unfold jIns
 all_goals refine lgo tyD Tryz.func148 ?_
 all_goals (refine Zat ?_;intro p2 w1 hS;refine zb hS ?_;intro p3 w1 hS;refine ZbC ?_;refine zD (ci 7 [5,6]) ?_;have hS:=hS.drew;refine Yag ?_;refine znc ?_;refine zf0 ?_;refine Q7t hS rfl fd rfl rfl ?_;(first|(refine Q7t hS rfl fd rfl rfl ?_)|(refine zv hS ?_));refine zR2 (c:=pins_c (m:=m) ⟨_,rfl,hj.m⟩ hx' hS) (h:=?_);rintro v1 w1 ⟨rfl,hS⟩;refine ZaL ?_)
 all_goals (first|(refine Q1D ?_)|(refine Q1M ?_)|(refine QI rfl rfl (fun hc=> ?_) (fun hc=> ?_)))
 all_goals (refine zn ?_)
 all_goals
  first
  | (refine zct ?_
     all_goals (refine Zbq ?_)
     all_goals (exact ⟨_,rfl,by rw [if_pos (by omega)],cx,vl,css,St.refl hS,by rw [if_pos (by omega)];exact hls,by rw [if_pos (by omega)];exact (St.back hS.sp hi)⟩))
  | (refine zcf ?_
     all_goals refine zsk ?_)
 all_goals (refine Zaa ?_;refine Qb2 ?_)
 all_goals (refine zR1 (c:=QdH (by kernel_rfl) (fun p w hS=> jins1_c (s:=s) hm (by omega) hn hh hj hx' hls hS) hS.sp) (h:=?_);rintro v1 w1 ⟨e,c1,L1,rfl,hle,hS,⟨rfl,s1,vl4,cs4,hr1,hls4,rfl⟩|⟨hr1,rfl,rfl⟩⟩)
 all_goals (refine Zap ?_;(first|(exact ⟨_,rfl,by rw [if_pos (by omega)],cx,vl,css,St.refl hS,by rw [if_pos (by omega)];exact hls,by rw [if_pos (by omega)];exact (St.back hS.sp hi)⟩)|(exact ⟨_,rfl,by rw [if_neg (by omega),hr1],c1,vl4,cs4,hle,by rw [if_neg (by omega),hr1];exact hls4,by rw [if_neg (by omega),hr1];exact (St.back hS.sp hi)⟩)|(exact ⟨_,rfl,by rw [if_neg (by omega),hr1],_,vl,css,St.refl hS,by rw [if_neg (by omega),hr1];exact hls,by rw [if_neg (by omega),hr1];exact (St.back hS.sp hi)⟩)))
theorem jend1_c {s:JS}{x:Tail}{cs:List Value}{p pa pb:Nat}(hsf:j.f.Short) (hF:Q1I j.f.blocks.length x=0) (hfb:∀b∈j.f.blocks,j.f.regs≤b.regs) (hfr:j.f.regs≤100000) (hh:s.h.length≤16) (hj:j.Fits cx m) (hx:endR.at cx cs x) (hls:tyR.ls cx css s.l)
 (hS:St cx w (blk p 3 [.int .i64 0]::blk pb 90 cs::blk pa 207 [.pointer (some ⟨j.sp,0,none⟩)]::j.res s.h vl css::L)):
 Fins Tryz.prog Q6L [.pointer (some ⟨pa,0,none⟩), .pointer (some ⟨pb,0,none⟩)] w
  (fun _ w'=>∃c' L',cx.Le c'∧St c' w' (blk p 3 [.int .i64 0]::L')∧jend j.f s x= .ok ()∧c'=cx∧L'=blk pb 90 cs::blk pa 207 [.pointer (some ⟨j.sp,0,none⟩)]::j.res s.h vl css::L)
  (fun u w'=>∃e c' L',u=Q68 e∧cx.Le c'∧St c' w' (blk p 3 [.int .i64 0]::L')∧jend j.f s x= .error e∧c'=cx∧L'=blk pb 90 cs::blk pa 207 [.pointer (some ⟨j.sp,0,none⟩)]::j.res s.h vl css::L):=by
 have hx':=hx
 obtain ⟨u1,u2,u3,u4,u5,rfl,h1,h2,h3,h4,h5⟩:=Q22 hx
 unfold Fins
 all_goals refine lgo tyD Tryz.func209 ?_
 all_goals (refine Q10 ?_;refine zl hS ?_;refine zv hS ?_;refine zE2 (c:=jend_c hsf hF hfb hfr hh hj hx' hls hS fd) (p:=by rintro v9 w9 ⟨c,g1,rfl,hS⟩;(repeat (first|refine Q2 ?_|refine Q3 ?_|refine fun _=> ?_));refine Qc ?_;refine .inr ⟨_,rfl,?_⟩;exact ⟨c,cx,_,rfl,St.refl hS,hS,g1,rfl,rfl⟩) (h:=?_);rintro v1 w1 ⟨hr1,rfl,hS⟩;refine Zbc ?_;exact .inl ⟨_,rfl,cx,_,St.refl hS,hS,hr1,rfl,rfl⟩)
theorem jEnd_c {s:JS}{x:Tail}{cs:List Value}(hsf:j.f.Short) (hfb:∀b∈j.f.blocks,j.f.regs≤b.regs) (hfr:j.f.regs≤100000) (hh:s.h.length≤16) (hj:j.Fits cx m) (hx:endR.at cx cs x) (hls:tyR.ls cx css s.l) (hS:St cx w L) (hi:nth L i=some (j.res s.h vl css)):
 Rets Tryz.prog Q8f [.pointer (some ⟨j.sp,0,none⟩), .agg ⟨cs⟩] w fun u w'=> u= .int .i64 (jEnd j.f s x)∧St cx w' L:=by
 have hS:=hS.out hi
 have hx':=hx
 obtain ⟨u1,u2,u3,u4,u5,rfl,h1,h2,h3,h4,h5⟩:=Q22 hx
 unfold jEnd
 all_goals refine lgo tyD Tryz.func149 ?_
 all_goals (refine Zat ?_;intro p2 w1 hS;refine zb hS ?_;intro p3 w1 hS;refine ZbC ?_;refine zD (ci 7 [5,6]) ?_;have hS:=hS.drew;refine Yag ?_;refine znc ?_;refine zf0 ?_;refine Q7t hS rfl fd rfl rfl ?_;(first|(refine Q7t hS rfl fd rfl rfl ?_)|(refine zv hS ?_));refine zR2 (c:=pend_c (x:=j.f) ⟨_,_,_,rfl,hj.p,hj.r,hj.b⟩ hx' hS) (h:=?_);rintro v1 w1 ⟨rfl,hS⟩;refine ZaL ?_)
 all_goals (first|(refine Q1D ?_)|(refine Q1M ?_)|(refine QI rfl rfl (fun hc=> ?_) (fun hc=> ?_)))
 all_goals (refine zn ?_)
 all_goals
  first
  | (refine zct ?_
     all_goals (refine Zbq ?_)
     all_goals (exact ⟨_,rfl,by rw [if_pos (by omega)],(St.back0 hS.sp hi)⟩))
  | (refine zcf ?_
     all_goals refine zsk ?_)
 all_goals (refine Zaa ?_;refine Qb2 ?_)
 all_goals (refine zR1 (c:=QdH (by kernel_rfl) (fun p w hS=> jend1_c (s:=s) hsf (by omega) hfb hfr hh hj hx' hls hS) hS.sp) (h:=?_);rintro v1 w1 ⟨e,c1,L1,rfl,hle,hS,⟨rfl,hr1,rfl,rfl⟩|⟨hr1,rfl,rfl⟩⟩)
 all_goals (refine Zap ?_;(first|(exact ⟨_,rfl,by rw [if_pos (by omega)],(St.back0 hS.sp hi)⟩)|(exact ⟨_,rfl,by rw [if_neg (by omega),hr1],(St.back0 hS.sp hi)⟩)))
end Go.Proofs.YteflkifmgnpbhaaGreat
namespace Go.Proofs.YteflkifmgnpbhaaGreat
open Go.Lir
set_option maxHeartbeats 1000000
attribute [local irreducible] LC.wp Q0 Qk Qh retQ Qt LO.wp Q4 Calls
set_option linter.unusedSimpArgs false
set_option linter.unusedVariables false
attribute [local irreducible] hasB Q3g Q1L Q1U Q42 upTo Module.fault
variable {cx:Cx}{w:World}{L:List Res}{j:JP}{h:List Bool}{vl:Value}{css:List (List Value)}{i:Nat}{m:Module}
theorem clonet_c {l:List Ty}{v:Value}(hl:tyR.sl cx v l) (hb:l.length≤1000000) (hS:St cx w L):Rets Tryz.prog Q2J [v] w fun u w'=> oneC u=true∧∃css,tyR.ls cx css l∧St cx w' (sl 115 3 u css::L):=by
 obtain ⟨a,c,hv⟩:=Rep.SR.shape hl
 cases a with
 | none=>
   have hl0:=Rep.SR.nil_of hl hv
   subst hl0
   subst hv
   all_goals refine lgo tyD Tryz.func203 ?_
   all_goals (refine ZaQ ?_;refine Q3u (e:=115) (by kernel_rfl) rfl rfl ?_;refine zn ?_)
   all_goals
    first
    | (refine zct ?_
       all_goals (refine Zas ?_)
       all_goals (exact ⟨_,rfl,rfl,[],Rep.LR.nil _ _ _,hS.nil⟩))
   all_goals (refine Zaa ?_; fail "no law for buildSlice"; refine zm ?_; refine za Q6c QaS hS ?_; intro vp1 w1 css1 hls1 hv1 hS; have hS := hS.ns; refine Zap ?_; exact ⟨_, rfl, rfl, [], Rep.LR.nil _ _ _, hS.nil⟩)
 | some a=>
   have hn:tyR.ls cx [] []:=Rep.LR.nil _ _ _
   all_goals refine lgo tyD Tryz.func203 ?_
   all_goals (refine ZaQ ?_;refine Q3u (e:=115) (by kernel_rfl) hv rfl ?_;refine zn ?_)
   all_goals refine zcf ?_
   all_goals (refine zsk ?_;refine Zaa ?_;refine Q7T Q6c ?_;intro v1 w1 hf1 hs1 hz1;have hS:=hS.new (r:=sl 115 3 v1 []) hs1 hf1 (fun b hb=> Nat.le_of_eq hb.symm);refine zm ?_;(first|(refine za Q6c QaS hS ?_;intro vp1 w1 css1 hls1 hv1 hS;have hS:=hS.ns)|(refine zak Q6c QaS hS ?_;intro vp1 w1 css1 hls1 hv1 hS;have hS:=hS.ns));refine Zap ?_;exact ⟨_,rfl,by assumption,_,hls1,hS.sp⟩)
theorem JP.shut {v:Value}(hS:St cx w (blk j.sp 258 (j.cells vl)::blk j.hp 296 [v]::sl 4 1 v (h.map QD)::sl 115 3 vl css::L)):St cx w (j.res h vl css::L):=by
 have h1:St cx w (Qan j.hp h::sl 115 3 vl css::blk j.sp 258 (j.cells vl)::L):=Q3f (hS.perm (by
  refine List.Perm.trans (List.Perm.swap _ _ _) (List.Perm.cons _ ?_)
  refine List.Perm.trans (List.Perm.swap _ _ _) (List.Perm.cons _ ?_)
  exact List.Perm.swap _ _ _))
 exact St.star' (St.mv1 (St.star' h1))
theorem jNew_c {f b:Int}{cs:List Value}(hm:m.Short) (hx:modR.at cx cs m) (hS:St cx w L):
 Rets Tryz.prog Qbo [.agg ⟨cs⟩, .int .i64 f, .int .i64 b] w fun u w'=>
  (m.fault.1≠0∧u= .tuple #[.pointer none,fltV m.fault]∧St cx w' L)∨
  (m.fault.1=0∧((f < 0∨m.funcs.length≤f)∨∃fn,m.funcs[f.toNat]?=some fn∧(b < 0∨fn.blocks.length≤b))∧u= .tuple #[.pointer none,fltV (1, -1)]∧St cx w' L)∨
  (∃(fn:Fun) (y:Block) (j:JP) (c':Cx) (vl:Value) (css:List (List Value)),m.fault.1=0∧0≤f∧0≤b∧m.funcs[f.toNat]?=some fn∧fn.blocks[b.toNat]?=some y∧u= .tuple #[.pointer (some ⟨j.sp,0,none⟩),fltV (0,0)]∧cx.Le c'∧j.Fits c' m∧j.f=fn∧tyR.ls c' css y.params∧St c' w' (j.res (Q1g y).h vl css::L)):=by
 obtain ⟨vf,rfl,hf⟩:=Q1e hx
 obtain ⟨a0,n0,rfl⟩:=Rep.SR.shape hf
 have hlf:=hf.len
 all_goals refine lgo tyD Tryz.func147 ?_
 all_goals (refine Zat ?_;intro p3 w1 hS;refine zm ?_;refine Qg hS ?_;intro p7 w1 hS;refine Zbu ?_;refine zv hS ?_;refine zR1 (c:=Qa3 hm hx hS) (h:=?_);rintro v1 w1 ⟨rfl,hS⟩;unfold fltV;refine Qg hS ?_;intro p8 w1 hS;refine zsn hS ?_;intro w1 hS;have hS:=hS.ns;refine ZaD ?_;refine zf0 ?_;refine zl hS ?_)
 all_goals (first|(refine Q1D ?_)|(refine Q1M ?_)|(refine QI rfl rfl (fun hc=> ?_) (fun hc=> ?_)))
 all_goals (refine zn ?_)
 all_goals
  first
  | (refine zct ?_
     all_goals (refine QB ?_;refine zD (ci 3 [2]) ?_;have hS:=hS.drew;refine zv hS ?_;refine zm ?_;refine zsn hS ?_;intro w1 hS;have hS:=hS.ns;refine ZaS ?_;refine Q1G vw vw (Q9 (n:=2) (by kernel_rfl) (by kernel_rfl) (hS.blkAt fd) (by rfl) (by rfl)) ?_)
     all_goals (exact ⟨_,rfl, .inl ⟨by omega,rfl,hS.sp⟩⟩))
  | (refine zcf ?_
     all_goals refine zsk ?_)
 refine zML hS [1,2,3,7] (fun A LL ρ' w'=> Has ρ' A∧Has ρ' []∧(m.fault.1=0)∧(0≤f∧f < m.funcs.length∧∃fn,m.funcs[f.toNat]?=some fn∧0≤b∧b < fn.blocks.length)∧St cx w' (LL)) ?_ ?_
 · skip
   all_goals (refine Zac ?_)
   all_goals (first|(refine Q15 ?_)|(refine Q1c ?_)|(refine Qu rfl rfl (fun hc=> ?_) (fun hc=> ?_)))
   all_goals (refine Zam ?_;refine Zan ?_;refine Yaj ?_)
   all_goals (first|refine zgn ?_|(refine zgy ?_;(first|(refine Q2n ?_)|(refine Q2Z ?_)|(refine Q1r rfl rfl (fun hc=> ?_) (fun hc=> ?_)))))
   all_goals (refine Zbr ?_)
   all_goals (first|refine zgn ?_|(refine zgy ?_;(first|(refine Q15 ?_)|(refine Q1c ?_)|(refine Qu rfl rfl (fun hc=> ?_) (fun hc=> ?_)))))
   all_goals (refine Zbr ?_;refine Zan ?_;refine Yaa ?_;(first|refine zgn ?_|(refine zgy ?_;refine Yam ?_;intro b1 o1 cs1 x1 hat1 hx1 he1;obtain ⟨vp1,vr1,vb1,rfl,hp1,hr1,hb1⟩:=QG he1));refine Yah ?_;(first|refine zgn ?_|(refine zgy ?_;(first|(refine zl hS ?_)|(refine zlk hS ?_)|(refine zlj hS ?_))));refine Yaj ?_)
   all_goals (first|refine zgn ?_|(refine zgy ?_;(first|(refine Q2n ?_)|(refine Q2Z ?_)|(refine Q1r rfl rfl (fun hc=> ?_) (fun hc=> ?_)))))
   all_goals (refine ZaO ?_;skip)
   all_goals
    first
    | (refine zcf ?_
       all_goals refine zsk ?_)
    | (refine zct ?_
       all_goals (refine Zaa ?_;refine zb2 [_,_] ?_;refine zm ?_;refine zsn hS ?_;intro w1 hS;have hS:=hS.ns;refine ZaS ?_;refine Q1G vw vw (Q9 (n:=2) (by kernel_rfl) (by kernel_rfl) (hS.blkAt fd) (by rfl) (by rfl)) ?_)
       all_goals (first|(exact ⟨_,rfl, .inl ⟨by omega,rfl,hS.sp⟩⟩)|(exact ⟨_,rfl, .inr (.inl ⟨by omega, .inl (.inl (by omega)),rfl,hS.sp⟩)⟩)|(exact ⟨_,rfl, .inr (.inl ⟨by omega, .inl (.inr (by omega)),rfl,hS.sp⟩)⟩)|(exact ⟨_,rfl, .inr (.inl ⟨by omega, .inr ⟨_,List.getElem?_eq_getElem (i:=f.toNat) (by omega), .inl (by omega)⟩,rfl,hS.sp⟩)⟩)|(exact ⟨_,rfl, .inr (.inl ⟨by omega, .inr ⟨x1,hx1, .inr (by omega)⟩,rfl,hS.sp⟩)⟩)))
   all_goals (exact ⟨zh,zh,by omega,by refine ⟨by omega,by omega,x1,hx1,by omega,by omega⟩,hS.sp⟩)
 rintro ρ w1 ⟨hA,hρ,hz,hb,hS⟩;obtain ⟨ρ,rfl⟩:=env2 hA hρ
 all_goals (refine Zaa ?_;refine zv hS ?_;refine zR1 (c:=Q3D hm hx hS) (h:=?_);rintro v1 w1 ⟨c1,ds,rfl,hle,hm2,hS⟩;obtain ⟨vm,rfl,hf2⟩:=Q1e hm2;obtain ⟨hb1,hb2,fn,hfn,hb3,hb4⟩:=hb;refine zb1 [_,_,_,_,_,_,_] ?_;refine zb hS ?_;intro p45 w1 hS;refine Zad ?_;skip;refine Zac ?_;refine ZaA ?_;refine zf0 ?_;refine Yad ?_;refine zl hS ?_;refine zm ?_;refine Yam ?_;intro b2 o2 cs2 x2 hat2 hx2 he2;obtain ⟨vp2,vr2,vb2,rfl,hp2,hr2,hb2⟩:=QG he2;refine Yai ?_;refine znc ?_;refine zf0 ?_;(first|(refine zsn hS ?_;intro w1 hS;have hS:=hS.ns)|(refine zsm hS ?_;intro w1 hS;have hS:=hS.ns));refine zn ?_;obtain rfl:fn=x2:=Option.some.inj (hfn.symm.trans hx2);have hsf:=hm.2 fn (List.mem_of_getElem? hfn);refine ZaR ?_;refine zf0 ?_;refine Yad ?_;refine zl hS ?_;refine zm ?_)
 all_goals (refine Yam ?_;intro b3 o3 cs3 x3 hat3 hx3 he3;obtain ⟨vp3,vc3,ve31,ve32,ve33,ve34,ve35,rfl,hp3,hc3,he31,he32,he33,he34,he35⟩:=Q1S he3;refine ZaP ?_;intro p10 w1 hS;refine zsn hS ?_;intro w1 hS;have hS:=hS.ns;refine Zaz ?_;refine zf0 ?_;refine zl hS ?_;refine zR1 (c:=new_u hS) (h:=?_);rintro v1 w1 ⟨hp,vh,rfl,hS⟩;refine znc ?_;refine zf0 ?_;refine zst hS ?_;intro w1 hS;have hS:=hS.ns;refine Zaz ?_;refine zf0 ?_;refine zl hS ?_;refine zR1 (c:=clonet_c hp3 (by have:=(hsf.2.2.2 x3 (List.mem_of_getElem? hx3)).1.1;omega) hS) (h:=?_);rintro v1 w1 ⟨hvl,css4,hls4,hS⟩;refine znc ?_;refine zf0 ?_;refine zst hS ?_;intro w1 hS;have hS:=hS.ns;refine Zaz ?_;refine zb0 [_,_] ?_;refine zm ?_;refine zsn hS ?_;intro w1 hS;have hS:=hS.ns;refine zn ?_)
 all_goals (refine zr ?_;refine Q1G vw vw (Q9 (n:=2) (by kernel_rfl) (by kernel_rfl) (hS.blkAt fd) (by rfl) (by rfl)) ?_;(first|(exact ⟨_,rfl, .inl ⟨by omega,rfl,hS.sp⟩⟩)|(exact ⟨_,rfl, .inr (.inl ⟨by omega, .inl (.inl (by omega)),rfl,hS.sp⟩)⟩)|(exact ⟨_,rfl, .inr (.inl ⟨by omega, .inl (.inr (by omega)),rfl,hS.sp⟩)⟩)|(exact ⟨_,rfl, .inr (.inl ⟨by omega, .inr ⟨_,List.getElem?_eq_getElem (i:=f.toNat) (by omega), .inl (by omega)⟩,rfl,hS.sp⟩)⟩)|(exact ⟨_,rfl, .inr (.inl ⟨by omega, .inr ⟨x1,hx1, .inr (by omega)⟩,rfl,hS.sp⟩)⟩)|(exact ⟨_,rfl, .inr (.inr ⟨fn,x3,⟨p45,hp,fn,vm,vp2,vr2,vb2⟩,c1,_,css4,hz,by omega,by omega,hfn,hx3,rfl,hle,⟨hf2,hp2,hr2,hb2⟩,rfl,hls4,JP.shut (v:=vh) hS.sp⟩)⟩)))
end Go.Proofs.YteflkifmgnpbhaaGreat
namespace Go.Proofs.YteflkifmgnpbhaaGreat
open Go.Lir
set_option maxHeartbeats 1000000
attribute [local irreducible] LC.wp Q0 Qk Qh retQ Qt LO.wp Q4 Calls
set_option linter.unusedSimpArgs false
set_option linter.unusedVariables false
end Go.Proofs.YteflkifmgnpbhaaGreat
namespace Go.Proofs.YteflkifmgnpbhaaGreat
open Go.Lir
set_option maxHeartbeats 1000000
attribute [local irreducible] LC.wp Q0 Qk Qh retQ Qt LO.wp Q4 Calls
set_option linter.unusedSimpArgs false
set_option linter.unusedVariables false
variable {cx:Cx}{w:World}{L:List Res}{i:Nat}
abbrev Q9q (vc:Value):List Value:=[.int .i64 0, .slice none 0 0,vc, .int .i64 3, .int .i64 0, .int .i64 0, .slice none 0 0, .slice none 0 0, .int .i64 0, .slice none 0 0, .slice none 0 0, .slice none 0 0]
theorem least_c (hS:St cx w L):Rets Tryz.prog QgF [] w fun u w'=>∃a b,u= .agg ⟨[.slice (some ⟨a,0,none⟩) 1 1]⟩∧St cx w' (blk a 95 [.int .i64 0, .slice none 0 0, .slice none 0 0, .slice (some ⟨b,0,none⟩) 1 1]::blk b 92 (Q9q (.slice none 0 0))::L):=by
 all_goals refine lgo tyD Tryz.func51 ?_
 all_goals (refine Zbe ?_;intro p0 w1 hS;refine ZaD ?_;refine zb1 [_,_,_,_,_,_,_,_,_] ?_;refine zb1 [_,_,_,_,_,_,_,_,_,_,_,_] ?_;refine Q2b (cs:=[_,_,_,_,_,_,_,_,_,_,_,_]) vw (by rfl) ?_;intro q1 w1 hb1 hf1 _ hk1;have hS:=hS.laid hb1 hf1 hk1;refine zb1 [_,_,_,_] ?_;refine Q2b (cs:=[_,_,_,_]) vw (by rfl) ?_;intro q2 w1 hb1 hf1 _ hk1;have hS:=hS.laid hb1 hf1 hk1;refine zb1 [_] ?_;refine zsn hS ?_;intro w1 hS;have hS:=hS.ns;refine ZaS ?_;refine Q1z vw (Q9 (n:=1) (by kernel_rfl) (by kernel_rfl) (hS.blkAt fd) (by rfl) (by rfl)) ?_;exact ⟨_,rfl,q2,q1,rfl,hS.sp⟩)
end Go.Proofs.YteflkifmgnpbhaaGreat
namespace Go.Proofs.YteflkifmgnpbhaaGreat
open Go.Lir
set_option maxHeartbeats 1000000
attribute [local irreducible] LC.wp Q0 Qk Qh retQ Qt LO.wp Q4 Calls
set_option linter.unusedSimpArgs false
set_option linter.unusedVariables false
attribute [local irreducible] hasB Q3g Q1L Q1U Q42 upTo Module.fault jIns jEnd
variable {cx:Cx}{w:World}{L:List Res}{j:JP}{h:List Bool}{vl:Value}{css:List (List Value)}{i:Nat}{m:Module}
end Go.Proofs.YteflkifmgnpbhaaGreat
namespace Go.Proofs.YteflkifmgnpbhaaGreat
open Go.Lir
set_option maxHeartbeats 1000000
attribute [local irreducible] LC.wp Q0 Qk Qh retQ Qt LO.wp Q4 Calls
set_option linter.unusedSimpArgs false
set_option linter.unusedVariables false
attribute [local irreducible] hasB Q3g Q1L Q1U Q42 upTo wantC firstC rmk jIns jEnd Module.fault Q7r Q74
variable {cx:Cx}{w:World}{L:List Res}{j:JP}{h:List Bool}{vl:Value}{css:List (List Value)}{i:Nat}{m:Module}
theorem jNewOk_c {f b:Nat}{fn:Fun}{y:Block}{cs:List Value}(hm:m.Short) (hF:m.fault.1=0) (hfn:m.funcs[f]?=some fn) (hy:fn.blocks[b]?=some y) (hx:modR.at cx cs m) (hS:St cx w L):
 Rets Tryz.prog Qbo [.agg ⟨cs⟩, .int .i64 f, .int .i64 b] w fun u w'=>∃(j:JP) (c':Cx) (vl:Value) (css:List (List Value)),u= .tuple #[.pointer (some ⟨j.sp,0,none⟩),fltV (0,0)]∧cx.Le c'∧j.Fits c' m∧j.f=fn∧tyR.ls c' css y.params∧St c' w' (j.res (Q1g y).h vl css::L):=by
 refine (jNew_c hm hx hS).mono ?_
 have h1:=(List.getElem?_eq_some_iff.1 hfn).1
 have h2:=(List.getElem?_eq_some_iff.1 hy).1
 rintro u w' (⟨h0, -⟩|⟨-,h9, -⟩|⟨fn',y',j,c2,vl,css, -, -, -,hf',hy',rfl,hle,hj,jf,hls,hS⟩)
 · exact absurd hF h0
 · exfalso
   rcases h9 with (h|h)|⟨fn',hf',h⟩
   · omega
   · omega
   · rw [Int.toNat_natCast] at hf'
     obtain rfl:fn=fn':=Option.some.inj (hfn.symm.trans hf')
     omega
 · rw [Int.toNat_natCast] at hf' hy'
   obtain rfl:fn=fn':=Option.some.inj (hfn.symm.trans hf')
   obtain rfl:y=y':=Option.some.inj (hy.symm.trans hy')
   exact ⟨j,c2,vl,css,rfl,hle,hj,jf,hls,hS⟩
theorem vblock_c {q b:Nat}{fn:Fun}{y:Block}{cs:List Value}(hm:m.Short) (hF:m.fault.1=0) (hfn:m.funcs[q]?=some fn) (hy:fn.blocks[b]?=some y) (hx:modR.at cx cs m) (hS:St cx w L):
 Rets Tryz.prog QaM [.agg ⟨cs⟩, .int .i64 q, .int .i64 b] w fun u w'=> u=fltV (QH m fn q b y.fin 0 (Q1g y) y.code)∧St cx w' L:=by
 have hx':=hx
 obtain ⟨vf,rfl,hf1⟩:=Q1e hx
 have hle:=St.refl hS
 have hsf:=hm.2 fn (List.mem_of_getElem? hfn)
 have hfb:=mod_fb hF hfn
 have hfh:=Q1w (Q1R hF hfn)
 have hg0:=Q8m hm hF hfn hy
 have hlc:=(hsf.2.2.2 y (List.mem_of_getElem? hy)).2.1
 have hq1:=(List.getElem?_eq_some_iff.1 hfn).1
 have hq2:=hm.1
 have hb1:=(List.getElem?_eq_some_iff.1 hy).1
 all_goals refine lgo tyD Tryz.func91 ?_
 all_goals (refine Zat ?_;intro p3 w1 hS;refine Qg hS ?_;intro p6 w1 hS;refine ZaD ?_;refine zv hS ?_;refine ZaT ?_)
 all_goals (refine zR3 (c:=jNewOk_c hm hF hfn hy hx' hS) (h:=?_);rintro v1 w1 ⟨j,c2,vl,css,rfl,hle2,hj,hjf,hls,hS⟩;(try have hle:=hle.trans hle2);(try have hf1:=hf1.up hle2);unfold fltV;subst hjf)
 all_goals (refine ZbI ?_;intro p8 w1 hS;refine zm ?_;refine zsn hS ?_;intro w1 hS;have hS:=hS.ns;refine ZaD ?_;refine zf0 ?_;refine zl hS ?_;refine zm ?_;refine zi ?_;intro b1 o1 cs1 x1 hat1 hx1 he1;obtain ⟨vp1,vr1,vb1,rfl,hp1,hr1,hb1⟩:=QG he1;obtain rfl:j.f=x1:=Option.some.inj (hfn.symm.trans hx1);refine Yad ?_;refine Yaq ?_;refine zm ?_;refine zi ?_;intro b2 o2 cs2 x2 hat2 hx2 he2;obtain ⟨vp2,vc2,ve21,ve22,ve23,ve24,ve25,rfl,hp2,hc2,he21,he22,he23,he24,he25⟩:=Q1S he2;refine ZaP ?_;intro p9 w1 hS;refine zsn hS ?_;intro w1 hS;have hS:=hS.ns;refine zn ?_;obtain rfl:y=x2:=Option.some.inj (hy.symm.trans hx2);refine Zbs ?_;refine zf0 ?_;refine zl hS ?_;refine zL ?_)
 all_goals (refine ZaB ?_)
 refine zo [1,2,6,7,9,31,32] (fun A ρ' w'=>∃(k0:Cx) (i:Nat) (s:JS) (vl:Value) (css:List (List Value)),Has ρ' A∧Has ρ' [(33, .int .i64 i)]∧(c2.Le k0)∧(i≤y.code.length)∧(QH m j.f q b y.fin 0 (Q1g y) y.code=QH m j.f q b y.fin i s (y.code.drop i))∧(j.Fits k0 m)∧(tyR.ls k0 css s.l)∧(JGood s)∧St k0 w' (blk p9 92 [.int .i64 y.regs,vp2,vc2, .int .i64 y.fin.op, .int .i64 y.fin.a, .int .i64 y.fin.yes.block,ve21,ve22, .int .i64 y.fin.no.block,ve23,ve24,ve25]::j.res s.h vl css::blk p6 29 [.int .i64 0, .int .i64 0]::L)) (fun ρ' _=> (y.code.length - iv (ρ' 33)).toNat) ?_ ?_
 · exact ⟨c2,0,Q1g y,vl,css,zh,zh,St.refl hS,(by omega),by rfl,hj,hls,hg0,hS.sp⟩
 rintro ρ w1 ⟨k0,i,s,vl,css,hA,hρ,hle2,hi,hdi,hj,hls,hg,hS⟩;obtain ⟨ρ,rfl⟩:=env2 hA hρ;have hL0:=hle2;(try have hle:=hle.trans hle2);(try have hp1:=hp1.up hle2);(try have hr1:=hr1.up hle2);(try have hb1:=hb1.up hle2);(try have hp2:=hp2.up hle2);(try have hc2:=hc2.up hle2);(try have he21:=he21.up hle2);(try have he22:=he22.up hle2);(try have he23:=he23.up hle2);(try have he24:=he24.up hle2);(try have he25:=he25.up hle2);(try have he1:=he1.up hle2);(try have he2:=he2.up hle2);(try have hf1:=hf1.up hle2)
 all_goals (refine ZaI ?_)
 refine Qq rfl (fun hc=> ?_) (fun hc=> ?_)
 · skip
   all_goals (refine Zbp ?_;refine zi ?_;intro b3 o3 cs3 x3 hat3 hx3 he3;obtain ⟨vr3,va3,rfl,hr3,ha3⟩:=QZ he3;refine ZaP ?_;intro p11 w1 hS;refine zm ?_;refine zsn hS ?_;intro w1 hS;have hS:=hS.ns;refine Zaz ?_;refine zv hS ?_)
   all_goals (refine zR2 (c:=jIns_c (s:=s) (x:=x3) hm hg.n hg.h hj he3 hls hS fd) (h:=?_);rintro v1 w1 ⟨rfl,c4,vl4,css4,hle2,hls4,hS⟩;have hS:=hS.ns;(try have hle:=hle.trans hle2);(try have hL0:=hL0.trans hle2);(try have hp1:=hp1.up hle2);(try have hr1:=hr1.up hle2);(try have hb1:=hb1.up hle2);(try have hp2:=hp2.up hle2);(try have hc2:=hc2.up hle2);(try have he21:=he21.up hle2);(try have he22:=he22.up hle2);(try have he23:=he23.up hle2);(try have he24:=he24.up hle2);(try have he25:=he25.up hle2);(try have hr3:=hr3.up hle2);(try have ha3:=ha3.up hle2);(try have he1:=he1.up hle2);(try have he2:=he2.up hle2);(try have he3:=he3.up hle2);(try have hls:=hls.up hle2);(try have hf1:=hf1.up hle2);have hj:=hj.up hle2;have hg1:=QfX (f:=j.f) (x:=x3) hm hg;obtain ⟨s1,hs1⟩:∃s1,(jIns m j.f s x3).2=s1:=⟨_,rfl⟩;rw [hs1] at hls4 hS hg1)
   all_goals (refine ZaL ?_)
   all_goals (first|(refine Q1D ?_)|(refine Q1M ?_)|(refine QI rfl rfl (fun hc=> ?_) (fun hc=> ?_)))
   all_goals (refine zn ?_)
   all_goals
    first
    | (refine zct ?_
       all_goals (refine Zac ?_;refine ZaT ?_;refine zm ?_;refine zR3 (c:=Qa4 q b i (by omega) (by omega) (by omega) hS) (h:=?_);rintro v1 w1 ⟨rfl,hS⟩;refine zb2 [_,_] ?_;refine zsn hS ?_;intro w1 hS;have hS:=hS.ns;refine zn ?_;have hJ:QH m j.f q b y.fin 0 (Q1g y) y.code=((jIns m j.f s x3).1,Q7r q b i):=(by rw [hdi,Qb hx3,Q6k (by omega)]);refine zr ?_;refine Q1z vw (Q9 (n:=2) (by kernel_rfl) (by kernel_rfl) (hS.blkAt fd) (by rfl) (by rfl)) ?_)
       all_goals (exact ⟨_,rfl,by rw [hJ];rfl,St.weak hS.sp hle⟩))
    | (refine zcf ?_
       all_goals refine zsk ?_)
   all_goals (refine Q10 ?_;refine zad ?_;refine Zad ?_;exact ⟨⟨_,i+1,s1,vl4,css4,zh,zh,hL0,(by omega),by rw [hdi,Qb hx3,Q6l (by omega),hs1],hj,hls4,hg1,hS.sp⟩,Qv (by omega)⟩)
 · skip
   all_goals (refine zex ?_;refine Zak ?_;refine zf0 ?_;refine zv hS ?_;refine zR2 (c:=jEnd_c (s:=s) (x:=y.fin) hsf hfb (by omega) hg.h hj ⟨_,_,_,_,_,rfl,he21,he22,he23,he24,he25⟩ hls hS fd) (h:=?_);rintro v1 w1 ⟨rfl,hS⟩;have hde:=Q7e (m:=m) (f:=j.f) (fi:=q) (bi:=b) (e:=y.fin) (s:=s) (i:=i) (l:=y.code) (by omega);refine ZaL ?_)
   all_goals (first|(refine Q1D ?_)|(refine Q1M ?_)|(refine QI rfl rfl (fun hc=> ?_) (fun hc=> ?_)))
   all_goals (refine zn ?_)
   all_goals
    first
    | (refine zct ?_
       all_goals (refine Zac ?_;refine ZaT ?_;refine zR2 (c:=Qa5 q b (by omega) (by omega) hS) (h:=?_);rintro v1 w1 ⟨rfl,hS⟩;refine zb2 [_,_] ?_;refine zsn hS ?_;intro w1 hS;have hS:=hS.ns;refine zn ?_;have hJ:=hdi.trans (hde.trans (mkF_c (by omega)));refine zr ?_;refine Q1z vw (Q9 (n:=2) (by kernel_rfl) (by kernel_rfl) (hS.blkAt fd) (by rfl) (by rfl)) ?_)
       all_goals (exact ⟨_,rfl,by rw [hJ];rfl,St.weak hS.sp hle⟩))
    | (refine zcf ?_
       all_goals refine zsk ?_)
   all_goals (refine Zaa ?_;refine zb0 [_,_] ?_;refine zsn hS ?_;intro w1 hS;have hS:=hS.ns;refine zn ?_;have hJ:=hdi.trans (hde.trans (Q90 _ _ (by rw [Q3Z];omega)));refine zr ?_;refine Q1z vw (Q9 (n:=2) (by kernel_rfl) (by kernel_rfl) (hS.blkAt fd) (by rfl) (by rfl)) ?_;exact ⟨_,rfl,by rw [hJ];rfl,St.weak hS.sp hle⟩)
theorem vcheck_c {cs:List Value}(hm:m.Short) (hx:modR.at cx cs m) (hS:St cx w L):
 Rets Tryz.prog QaN [.agg ⟨cs⟩] w fun u w'=> u=fltV m.runs∧St cx w' L:=by
 have hx':=hx
 obtain ⟨vf,rfl,hf1⟩:=Q1e hx
 have hlf:=hf1.len
 all_goals refine lgo tyD Tryz.func44 ?_
 all_goals (refine Zat ?_;intro p1 w1 hS;refine Qg hS ?_;intro p2 w1 hS;refine Zbu ?_;refine zv hS ?_;refine zR1 (c:=Qa3 hm hx' hS) (h:=?_);rintro v1 w1 ⟨rfl,hS⟩;unfold fltV;refine Qg hS ?_;intro p3 w1 hS;refine zsn hS ?_;intro w1 hS;have hS:=hS.ns;refine ZaD ?_;refine zf0 ?_;refine zl hS ?_)
 all_goals (first|(refine Q1D ?_)|(refine Q1M ?_)|(refine QI rfl rfl (fun hc=> ?_) (fun hc=> ?_)))
 all_goals (refine zn ?_)
 all_goals
  first
  | (refine zct ?_
     all_goals (refine Zaa ?_;refine zv hS ?_;refine zsn hS ?_;intro w1 hS;have hS:=hS.ns;refine zn ?_;have hJ:=runs_no (m:=m) (by omega);refine zr ?_;refine Q1z vw (Q9 (n:=2) (by kernel_rfl) (by kernel_rfl) (hS.blkAt fd) (by rfl) (by rfl)) ?_)
     all_goals (exact ⟨_,rfl,by rw [hJ];rfl,hS.sp⟩))
  | (refine zcf ?_
     all_goals refine zsk ?_)
 all_goals (refine QB ?_;refine QB ?_;have hF:m.fault.1=0:=(by omega);have hr0:=runs_go hF;have hlf8:=hm.1;refine Q10 ?_;refine zf0 ?_;refine zl hS ?_;refine zL ?_;refine ZaB ?_)
 refine zoL hS [1,2,15,16] (fun A LL ρ' w'=>∃(q:Nat),Has ρ' A∧Has ρ' [(17, .int .i64 q)]∧(q≤m.funcs.length)∧(m.runs=Q1H m q (m.funcs.drop q))∧St cx w' (LL)) (fun ρ' _=> (m.funcs.length - iv (ρ' 17)).toNat) ?_ ?_
 · exact ⟨0,zh,zh,(by omega),by rw [hr0];rfl,hS.sp⟩
 rintro ρ w1 ⟨q,hA,hρ,hq,hd,hS⟩;obtain ⟨ρ,rfl⟩:=env2 hA hρ
 all_goals (refine ZaI ?_)
 refine Qq rfl (fun hc=> ?_) (fun hc=> ?_)
 · skip
   all_goals (refine Zbp ?_;refine zi ?_;intro b1 o1 cs1 x1 hat1 hx1 he1;obtain ⟨vp1,vr1,vb1,rfl,hp1,hr1,hb1⟩:=QG he1;refine ZaP ?_;intro p5 w1 hS;refine zm ?_;refine zsn hS ?_;intro w1 hS;have hS:=hS.ns;refine zn ?_;have hsf:=hm.2 x1 (List.mem_of_getElem? hx1);have hbl:=hsf.2.2.1;refine Zaa ?_;refine zf0 ?_;refine zl hS ?_;refine zL ?_;refine ZaB ?_)
   refine zoL hS [1,2,4,15,16,17,24] (fun A LL ρ' w'=>∃(b:Nat),Has ρ' A∧Has ρ' [(25, .int .i64 b)]∧(b≤x1.blocks.length)∧(Qx m x1 q 0 x1.blocks=Qx m x1 q b (x1.blocks.drop b))∧St cx w' (LL)) (fun ρ' _=> (x1.blocks.length - iv (ρ' 25)).toNat) ?_ ?_
   · exact ⟨0,zh,zh,(by omega),by rfl,hS.sp⟩
   rintro ρ w1 ⟨b,hA,hρ,hb,hdb,hS⟩;obtain ⟨ρ,rfl⟩:=env2 hA hρ
   all_goals (refine ZaI ?_)
   refine Qq rfl (fun hc=> ?_) (fun hc=> ?_)
   · skip
     all_goals (refine ZaE ?_;refine QB ?_;obtain ⟨y,hy⟩:∃y,x1.blocks[b]?=some y:=⟨_,List.getElem?_eq_getElem (by omega)⟩;refine Zae ?_;refine Zad ?_;refine Zaa ?_;refine zv hS ?_;refine ZaT ?_;refine zR3 (c:=vblock_c hm hF hx1 hy hx' hS) (h:=?_);rintro v1 w1 ⟨rfl,hS⟩;unfold fltV;refine Qg hS ?_;intro p7 w1 hS;refine zsn hS ?_;intro w1 hS;have hS:=hS.ns;refine ZaD ?_;refine zf0 ?_;refine zl hS ?_)
     all_goals (first|(refine Q1D ?_)|(refine Q1M ?_)|(refine QI rfl rfl (fun hc=> ?_) (fun hc=> ?_)))
     all_goals (refine zn ?_)
     all_goals
      first
      | (refine zct ?_
         all_goals (refine Zaa ?_;refine zv hS ?_;refine zsn hS ?_;intro w1 hS;have hS:=hS.ns;refine zn ?_;have hJ:=runs_at hd hx1 hdb hy rfl (by omega);refine zr ?_;refine Q1z vw (Q9 (n:=2) (by kernel_rfl) (by kernel_rfl) (hS.blkAt fd) (by rfl) (by rfl)) ?_)
         all_goals (exact ⟨_,rfl,by rw [hJ];rfl,hS.sp⟩))
      | (refine zcf ?_
         all_goals refine zsk ?_)
     all_goals (refine Q10 ?_;refine zad ?_;refine Zad ?_;exact ⟨⟨b+1,zh,zh,(by omega),runs_b hdb hy (by omega),hS.sp⟩,Qv (by omega)⟩)
   · skip
     all_goals (refine zex ?_;refine Q10 ?_;refine zad ?_;refine Zad ?_;exact ⟨⟨q+1,zh,zh,(by omega),runs_f hd hx1 hdb (by omega),hS.sp⟩,Qv (by omega)⟩)
 · skip
   all_goals (refine zex ?_;refine Zaa ?_;refine zb0 [_,_] ?_;refine zsn hS ?_;intro w1 hS;have hS:=hS.ns;refine zn ?_;have hJ:=runs_z hd (by omega);refine zr ?_;refine Q1z vw (Q9 (n:=2) (by kernel_rfl) (by kernel_rfl) (hS.blkAt fd) (by rfl) (by rfl)) ?_;exact ⟨_,rfl,by rw [hJ];rfl,hS.sp⟩)
end Go.Proofs.YteflkifmgnpbhaaGreat
namespace Go.Lir
def Q1E (m:Module) (inp:List Int) (fuel pages:Int):Flt:=if m.runs.1≠0 then m.runs else if 200 < inp.length∨fuel < 0∨20000 < fuel∨pages < 0∨64 < pages then (1, -1) else (0,0)
theorem Q4R {m:Module}{inp:List Int}{fuel pages:Int}(h:m.runs.1≠0):Q1E m inp fuel pages=m.runs:=if_pos h
theorem Q7s {m:Module}{inp:List Int}{fuel pages:Int}(h:¬m.runs.1≠0) (hr:200 < inp.length∨fuel < 0∨20000 < fuel∨pages < 0∨64 < pages):Q1E m inp fuel pages=(1, -1):=(if_neg h).trans (if_pos hr)
theorem startW_0 {m:Module}{inp:List Int}{fuel pages:Int}(h:¬m.runs.1≠0) (hr:¬(200 < inp.length∨fuel < 0∨20000 < fuel∨pages < 0∨64 < pages)):Q1E m inp fuel pages=(0,0):=(if_neg h).trans (if_neg hr)
end Go.Lir
namespace Go.Proofs.YteflkifmgnpbhaaGreat
open Go.Lir
set_option maxHeartbeats 1000000
attribute [local irreducible] LC.wp Q0 Qk Qh retQ Qt LO.wp Q4 Calls
set_option linter.unusedSimpArgs false
set_option linter.unusedVariables false
variable {cx:Cx}{w:World}{L:List Res}{m:Module}{inp:List Int}
@[reducible] def Qcs (ep fn lv iv:Value) (fuel:Int):RC:=⟨ep,fn,lv,iv,0, .slice none 0 0, .slice none 0 0,0,fuel,false⟩
@[reducible] def Qcr:RFV:=⟨0,0,0, .slice none 0 0,[]⟩
def RNewS (m:Module) (inp:List Int) (fuel pages:Int) (cx:Cx) (L:List Res) (u:Value) (w':World):Prop:=
 ((Q1E m inp fuel pages).1≠0∧u= .tuple #[.pointer none,fltV (Q1E m inp fuel pages)]∧St cx w' L)∨
 (Q1E m inp fuel pages=(0,0)∧m.runs.1=0∧inp.length≤200∧0≤fuel∧fuel≤20000∧∃(q:Nat),pages=q∧q≤64∧∃c' p ep fn lv iv,u= .tuple #[.pointer (some ⟨p,0,none⟩),fltV (0,0)]∧cx.Le c'∧funcR.sl c' fn m.funcs∧intR.sl c' iv inp∧St c' w' (rS p (Qcs ep fn lv iv fuel) [] Qcr (EstS.mk0 q) [] L))
theorem rnew_c {cs:List Value}{v:Value}{fuel pages:Int}(hsh:m.Short) (hx:modR.at cx cs m) (hi:intR.sl cx v inp) (hS:St cx w L):
 Rets Tryz.prog raw_New [.agg ⟨cs⟩,v, .int .i64 fuel, .int .i64 pages] w (RNewS m inp fuel pages cx L):=by
 have hle:=St.refl hS
 have hx':=hx
 obtain ⟨vf,rfl,hf⟩:=Q1e hx
 have hil:=hi.len
 unfold RNewS
 all_goals refine lgo tyD Tryz.func35 ?_
 all_goals (refine Zat ?_;intro p4 w1 hS;refine zm ?_;refine Qg hS ?_;intro p9 w1 hS;refine Zbu ?_;refine zv hS ?_;refine zR1 (c:=vcheck_c hsh hx' hS) (h:=?_);rintro v1 w1 ⟨rfl,hS⟩;unfold fltV;refine Qg hS ?_;intro p10 w1 hS;refine zsn hS ?_;intro w1 hS;have hS:=hS.ns;refine ZaD ?_;refine zf0 ?_;refine zl hS ?_)
 all_goals (first|(refine Q1D ?_)|(refine Q1M ?_)|(refine QI rfl rfl (fun hc=> ?_) (fun hc=> ?_)))
 all_goals (refine zn ?_)
 all_goals
  first
  | (refine zct ?_
     all_goals (refine QB ?_;refine zD (ci 3 [2]) ?_;have hS:=hS.drew;refine zv hS ?_;refine zm ?_;refine zsn hS ?_;intro w1 hS;have hS:=hS.ns;refine ZaS ?_;refine Q1G vw vw (Q9 (n:=2) (by kernel_rfl) (by kernel_rfl) (hS.blkAt fd) (by rfl) (by rfl)) ?_)
     all_goals (exact ⟨_,rfl, .inl ⟨by rw [Q4R (by omega)];omega,by rw [Q4R (by omega)];rfl,hS.sp⟩⟩))
  | (refine zcf ?_
     all_goals refine zsk ?_)
 all_goals (refine Zak ?_;refine zL ?_)
 all_goals (first|(refine Q17 ?_)|(refine Q1a ?_)|(refine Qs rfl rfl (fun hc=> ?_) (fun hc=> ?_)))
 all_goals (refine Zam ?_)
 all_goals (first|refine zgn ?_|(refine zgy ?_;(first|(refine Q15 ?_)|(refine Q1c ?_)|(refine Qu rfl rfl (fun hc=> ?_) (fun hc=> ?_)))))
 all_goals (refine Zbr ?_)
 all_goals (first|refine zgn ?_|(refine zgy ?_;(first|(refine Q17 ?_)|(refine Q1a ?_)|(refine Qs rfl rfl (fun hc=> ?_) (fun hc=> ?_)))))
 all_goals (refine Zbr ?_)
 all_goals (first|refine zgn ?_|(refine zgy ?_;(first|(refine Q15 ?_)|(refine Q1c ?_)|(refine Qu rfl rfl (fun hc=> ?_) (fun hc=> ?_)))))
 all_goals (refine Zbr ?_)
 all_goals (first|refine zgn ?_|(refine zgy ?_;(first|(refine Q17 ?_)|(refine Q1a ?_)|(refine Qs rfl rfl (fun hc=> ?_) (fun hc=> ?_)))))
 all_goals (refine ZaO ?_)
 all_goals
  first
  | (refine zct ?_
     all_goals (refine Zaa ?_;refine zb2 [_,_] ?_;refine zm ?_;refine zsn hS ?_;intro w1 hS;have hS:=hS.ns;refine ZaS ?_;refine Q1G vw vw (Q9 (n:=2) (by kernel_rfl) (by kernel_rfl) (hS.blkAt fd) (by rfl) (by rfl)) ?_)
     all_goals ((first|exact ⟨_,rfl, .inl ⟨by rw [Q4R (by omega)];omega,by rw [Q4R (by omega)];rfl,hS.sp⟩⟩|exact ⟨_,rfl, .inl ⟨by rw [Q7s (by omega) (by omega)];decide,by rw [Q7s (by omega) (by omega)];rfl,hS.sp⟩⟩)))
  | (refine zcf ?_
     all_goals refine zsk ?_)
 all_goals (refine Zac ?_)
 all_goals (refine zR1 (c:=enew_c pages hS) (h:=?_);rintro v1 w1 (⟨hbad, -, -⟩|⟨q,bq,hq,hq64,rfl,hS⟩);exact absurd hbad (by omega))
 all_goals (refine ZbI ?_;intro p12 w1 hS;refine zm ?_;refine zsn hS ?_;intro w1 hS;have hS:=hS.ns;refine Zaz ?_;refine zv hS ?_;refine zR1 (c:=Q3D hsh hx' hS) (h:=?_);rintro v1 w1 ⟨c1,ds,rfl,hle1,hx1,hS⟩;obtain ⟨vf1,rfl,hf1⟩:=Q1e hx1;have hi:=Rep.SR.up hi hle1;obtain ⟨af,nf,rfl⟩:=Rep.SR.shape hf1;refine zb0 [_,_,_,_] ?_;refine zB1 hS [_,_,_,_] ?_;intro b1 w1 hS;have hS:=St.slOf (T:=138) (es:=4) (css:=[[.int .i64 0, .int .i64 0, .int .i64 0, .slice none 0 0]]) hS rfl (by simp) rfl;refine zm ?_;refine zR1 (c:=Q4L (by omega) hi hS) (h:=?_);rintro vi w1 ⟨c2,hle2,hi2,hS⟩;have hf1:=Rep.SR.up hf1 hle2;obtain ⟨ai,ni,rfl⟩:=Rep.SR.shape hi2;refine zm ?_;refine zb5 [_,_,_,_,_,_,_,_,_,_] ?_;refine zb hS ?_;intro p53 w1 hS;refine zb0 [_,_] ?_;refine zm ?_;refine zsn hS ?_;intro w1 hS;have hS:=hS.ns;refine ZaS ?_;refine Q1G vw vw (Q9 (n:=2) (by kernel_rfl) (by kernel_rfl) (hS.blkAt fd) (by rfl) (by rfl)) ?_;(first|exact ⟨_,rfl, .inl ⟨by rw [Q4R (by omega)];omega,by rw [Q4R (by omega)];rfl,hS.sp⟩⟩|exact ⟨_,rfl, .inl ⟨by rw [Q7s (by omega) (by omega)];decide,by rw [Q7s (by omega) (by omega)];rfl,hS.sp⟩⟩|(have hS:=St.big_nil RFV.res (St.nil (T:=2) (es:=1) (St.nil (T:=2) (es:=1) hS));exact ⟨_,rfl, .inr ⟨startW_0 (by omega) (by omega),by omega,by omega,by omega,by omega,q,hq,hq64,c2,_,_,_,_,_,rfl,hle1.trans hle2,hf1,hi2,hS.sp⟩⟩)))
end Go.Proofs.YteflkifmgnpbhaaGreat
namespace Go.Proofs.YteflkifmgnpbhaaGreat
open Go.Lir
set_option maxHeartbeats 1000000
attribute [local irreducible] LC.wp Q0 Qk Qh retQ Qt LO.wp Q4 Calls
set_option linter.unusedSimpArgs false
set_option linter.unusedVariables false
variable {cx:Cx}{w:World}{L:List Res}{p:Nat}{c:RC}{fr:List RFV}{g:RFV}{s:EstS}{out inp back:List Int}{m:Module}
theorem QR.first {fuel:Int}{q:Nat}{ep fn lv iv:Value}(hR:m.runs.1=0) (hsh:m.Short) (h0:0≤fuel) (hq:q≤64):QR m fuel.toNat (Qcs ep fn lv iv fuel) [] Qcr (EstS.mk0 q) inp [] [] (.on (MS.start inp q)):=
 ⟨start_r hq,rfl,rfl,rfl,rfl,Nat.zero_le _,(Int.toNat_of_nonneg h0).symm,Bnd.start (Q1i hR) inp q,QdX hR hsh inp q⟩
theorem QR.on {most:Nat}{r:Run}(hQ:QR m most c fr g s inp out back r) (hdn:c.dn=false):∃ms,r= .on ms∧ms.fuel≤most:=by
 cases r with
 | on ms=> obtain ⟨-, -, -, -, -,h, -⟩:=hQ;exact ⟨ms,rfl,h⟩
 | over ms e b=> obtain ⟨-, -,h, -⟩:=hQ;rw [hdn] at h;cases h
 | stuck f=> exact hQ.elim
theorem QR.fin {most:Nat}{r a:Run}(hQ:QR m most c fr g s inp out back r) (hA:RA m most a r) (hdn:c.dn=true):a.oc=⟨c.e,back,out,c.fu⟩∧out.length≤2000∧back.length≤100000:=by
 cases r with
 | on ms=> obtain ⟨-, -,h, -⟩:=hQ;rw [hdn] at h;cases h
 | over ms e b=>
   obtain ⟨h1,h2, -,h4,h5,h6,h7, -⟩:=hQ
   have hA:a= .over ms e b:=hA
   refine ⟨?_,h6,h7⟩
   rw [hA,h1,h2,h4,h5];rfl
 | stuck f=> exact hQ.elim
theorem icell_ls {l:List Int}:intR.ls cx (l.map Qj) l:=
 ⟨by simp,fun k x hx=> ⟨[.int .i64 x],by rw [List.getElem?_map,hx];rfl,rfl⟩⟩
def RRunS (m:Module) (inp:List Int) (fuel pages:Int) (cx:Cx) (L:List Res) (u:Value) (w':World):Prop:=
 ((Q1E m inp fuel pages).1≠0∧u= .tuple #[.agg ⟨[.int .i64 0, .slice none 0 0, .slice none 0 0, .int .i64 0]⟩,fltV (Q1E m inp fuel pages)]∧St cx w' L)∨
 (Q1E m inp fuel pages=(0,0)∧m.runs.1=0∧∃c' v1 v2,cx.Le c'∧u= .tuple #[ocV (Run.all m inp fuel.toNat pages).oc v1 v2,fltV (0,0)]∧intR.sl c' v1 (Run.all m inp fuel.toNat pages).oc.back∧intR.sl c' v2 (Run.all m inp fuel.toNat pages).oc.out∧St c' w' L)
attribute [local irreducible] QR RA Run.all Run.oc
theorem RNewS.split {fuel pages:Int}{u:Value}(h:RNewS m inp fuel pages cx L u w):((Q1E m inp fuel pages).1≠0∧u= .tuple #[.pointer none,fltV (Q1E m inp fuel pages)]∧St cx w L)∨
 (Q1E m inp fuel pages=(0,0)∧m.runs.1=0∧inp.length≤200∧0≤fuel∧fuel≤20000∧∃(q:Nat),pages=q∧q≤64∧∃c' p ep fn lv iv,u= .tuple #[.pointer (some ⟨p,0,none⟩),fltV (0,0)]∧cx.Le c'∧funcR.sl c' fn m.funcs∧intR.sl c' iv inp∧St c' w (rS p (Qcs ep fn lv iv fuel) [] Qcr (EstS.mk0 q) [] L)):=h
end Go.Proofs.YteflkifmgnpbhaaGreat
namespace Go.Proofs.YteflkifmgnpbhaaGreat
open Go.Lir
set_option maxHeartbeats 1000000
attribute [local irreducible] LC.wp Q0 Qk Qh retQ Qt LO.wp Q4 Calls
set_option linter.unusedSimpArgs false
set_option linter.unusedVariables false
def H1:HT:=⟨182,278,131,46⟩
structure GZ where
 fn:Value
 fv:Value
 iv:Value
 e:Int
 bv:Value
 ov:Value
 fu:Int
 mo:Int
 dn:Bool
 c:Int
 a:Int
@[reducible] def gBlk (z:GZ) (b:Nat) (lv:Value) (left:Int):Res:=blk b 49 [z.fn,lv, .int .i64 left,z.fv,z.iv, .int .i64 z.e,z.bv,z.ov, .int .i64 z.fu, .int .i64 z.mo, .bool z.dn, .int .i64 z.c, .int .i64 z.a]
abbrev rTrio (z:GZ) (b:Nat) (lv:Value) (left:Int) (rv:List RgnV) (L:List Res):List Res:=gBlk z b lv left::sl 131 4 lv (rv.map RgnV.cells)::big (RgnV.res H1) rv::L
def QeM (z:GZ) (N:Nat) (h:Value) (s:HpS):Res:=Res.ex fun x:Nat×Value×List RgnV=> Res.pure (h= .pointer (some ⟨x.1,1,none⟩)∧HpO N s x.2.2) (Q5q [gBlk z x.1 x.2.1 s.left,sl 131 4 x.2.1 (x.2.2.map RgnV.cells),big (RgnV.res H1) x.2.2])
variable {z:GZ}{cx:Cx}{w:World}{L:List Res}{i:Nat}{N:Nat}{h:Value}{s:HpS}
theorem Qc0 (hS:St cx w (QeM z N h s::L)):∃b lv rv,h= .pointer (some ⟨b,1,none⟩)∧HpO N s rv∧St cx w (rTrio z b lv s.left rv L):=by
 obtain ⟨⟨b,lv,rv⟩,h⟩:=hS.ex
 obtain ⟨⟨h0,h1⟩,h2⟩:=h.pure
 exact ⟨b,lv,rv,h0,h1,h2.list⟩
variable {b:Nat}{lv:Value}{left:Int}{rv:List RgnV}
end Go.Proofs.YteflkifmgnpbhaaGreat
namespace Go.Proofs.YteflkifmgnpbhaaGreat
open Go.Lir
set_option maxHeartbeats 1000000
attribute [local irreducible] LC.wp Q0 Qk Qh retQ Qt LO.wp Q4 Calls
set_option linter.unusedSimpArgs false
set_option linter.unusedVariables false
variable {z:GZ}{cx:Cx}{w:World}{L:List Res}{i:Nat}{N:Nat}{h:Value}{s:HpS}
end Go.Proofs.YteflkifmgnpbhaaGreat
namespace Go.Lir
theorem num_mem {g:Frm}{k n:Int}(h:g.num k=some n):∃v∈g.vals,v.n=n:=by
 unfold Frm.num Frm.val at h
 split at h
 · cases h
 · rename_i v hv
   split at hv
   · cases hv
   · split at h
     · exact ⟨v,List.mem_of_getElem? hv,Option.some.inj h⟩
     · cases h
end Go.Lir
namespace Go.Proofs.YteflkifmgnpbhaaGreat
open Go.Lir
set_option maxHeartbeats 1000000
attribute [local irreducible] LC.wp Q0 Qk Qh retQ Qt LO.wp Q4 Calls
set_option linter.unusedSimpArgs false
set_option linter.unusedVariables false
def FrmV.res1 (x:FrmV):Res:=star (sl 182 4 x.vv (x.vals.map Val.cells)) (sl 3 1 x.rv (Qw x.regs))
@[reducible] def gL (p:Nat) (z:GZ) (lv:Value) (left:Int) (fr:List FrmV) (g:FrmV) (L:List Res):List Res:=gBlk z p lv left::sl 119 5 z.fv (Q24 fr g)::sl 182 4 g.vv (g.vals.map Val.cells)::sl 3 1 g.rv (Qw g.regs)::big FrmV.res1 fr::L
@[reducible] def GZ.end (z:GZ) (e:Int):GZ:=⟨z.fn,z.fv,z.iv,e,z.bv,z.ov,z.fu,z.mo,true,z.c,z.a⟩
variable {cx:Cx}{w:World}{L:List Res}{p:Nat}{z:GZ}{fr:List FrmV}{g:FrmV}{lv:Value}{left:Int}
attribute [local irreducible] Frm.val Frm.num Frm.args Frm.rgs Frm.reg
end Go.Proofs.YteflkifmgnpbhaaGreat
namespace Go.Lir
end Go.Lir
namespace Go.Proofs.YteflkifmgnpbhaaGreat
open Go.Lir
set_option maxHeartbeats 1000000
attribute [local irreducible] LC.wp Q0 Qk Qh retQ Qt LO.wp Q4 Calls
set_option linter.unusedSimpArgs false
set_option linter.unusedVariables false
variable {cx:Cx}{w:World}{L:List Res}{p:Nat}{z:GZ}{fr:List FrmV}{g:FrmV}{lv:Value}{left:Int}
attribute [local irreducible] Frm.val Frm.num Frm.args Frm.rgs Frm.reg
end Go.Proofs.YteflkifmgnpbhaaGreat
namespace Go.Lir
theorem St.lent {c:Cx}{w:World}{L:List Res}{r:Res}(h:St c w (r::L)):∃c' F,c.Le c'∧St c' w L∧r.A c'.H0 F∧(∀b,F b→c'.K b)∧∀{w':World}{L':List Res},St c' w' L'→St c w' (r::L'):=by
 obtain ⟨ok,F,⟨F1,F2,h1,h2,h3,h4⟩,hd⟩:=h
 have hle:c.Le ⟨c.base,fun b=> c.K b∨F1 b,w.heap⟩:=⟨rfl,fun b hb=> ⟨.inl hb,ok.same b hb⟩,ok.size,ok.lt⟩
 refine ⟨⟨c.base,fun b=> c.K b∨F1 b,w.heap⟩,F1,hle,⟨⟨ok.os,ok.tape,ok.output,Nat.le_refl _,fun b hb=> hb.elim (fun hb=> Nat.lt_of_lt_of_le (ok.lt b hb) ok.size) (r.lt h1 b),fun b _=> rfl⟩,F2,h2,?_⟩,h1,fun b hb=> .inr hb,?_⟩
 · rintro b hb (hk|hk)
   · exact hd b ((h4 b).2 (.inr hb)) hk
   · exact h3 b hk hb
 · intro w' L' hS
   have hw:=hS.weak hle
   obtain ⟨ok',F',hF',hd'⟩:=hS
   refine ⟨hw.1,fun b=> F1 b∨F' b,⟨F1,F',r.loc h1 fun b hb _=> ok'.same b (.inr hb),hF',fun b hb hb'=> hd' b hb' (.inr hb),fun b=> Iff.rfl⟩,?_⟩
   rintro b (hb|hb) hk
   · exact hd b ((h4 b).2 (.inl hb)) hk
   · exact hd' b hb (.inl hk)
end Go.Lir
namespace Go.Lir
end Go.Lir
namespace Go.Proofs.YteflkifmgnpbhaaGreat
open Go.Lir
set_option maxHeartbeats 1000000
attribute [local irreducible] LC.wp Q0 Qk Qh retQ Qt LO.wp Q4 Calls
set_option linter.unusedSimpArgs false
set_option linter.unusedVariables false
@[reducible] def gX (p:Nat) (z:GZ) (fr:List FrmV) (g:FrmV) (N:Nat) (h:HpS) (out:List Int) (L:List Res):List Res:=QeM z N (.pointer (some ⟨p,1,none⟩)) h::sl 119 5 z.fv (Q24 fr g)::sl 182 4 g.vv (g.vals.map Val.cells)::sl 3 1 g.rv (Qw g.regs)::big FrmV.res1 fr::sl 2 1 z.ov (Qw out)::L
variable {cx:Cx}{w:World}{L:List Res}{p N:Nat}{z:GZ}{fr:List FrmV}{g:FrmV}{h:HpS}{out:List Int}
theorem gX_open (hS:St cx w (gX p z fr g N h out L)):∃lv rv,HpO N h rv∧St cx w (gL p z lv h.left fr g (sl 131 4 lv (rv.map RgnV.cells)::big (RgnV.res H1) rv::sl 2 1 z.ov (Qw out)::L)):=by
 obtain ⟨b,lv,rv,he,ho,hS⟩:=Qc0 hS
 cases he
 exact ⟨lv,rv,ho,(hS.subP (by (repeat constructor);first|done|fail))⟩
attribute [local irreducible] Frm.val Frm.num Frm.args Frm.rgs Frm.reg
end Go.Proofs.YteflkifmgnpbhaaGreat
namespace Go.Lir
section
variable {m:Module}{s:MS}{x:Ins}
end
end Go.Lir
namespace Go.Proofs.YteflkifmgnpbhaaGreat
open Go.Lir
set_option maxHeartbeats 1000000
attribute [local irreducible] LC.wp Q0 Qk Qh retQ Qt LO.wp Q4 Calls
set_option linter.unusedSimpArgs false
set_option linter.unusedVariables false
variable {cx:Cx}{w:World}{L:List Res}{p N:Nat}{z:GZ}{fr:List FrmV}{g:FrmV}{h:HpS}{out inp:List Int}{fu:Nat}
@[reducible] def GZ.upd (z:GZ) (fv iv ov:Value):GZ:=⟨z.fn,fv,iv,z.e,z.bv,ov,z.fu,z.mo,z.dn,z.c,z.a⟩
@[reducible] def GZ.bk (z:GZ) (bv:Value):GZ:=⟨z.fn,z.fv,z.iv,z.e,bv,z.ov,z.fu,z.mo,z.dn,z.c,z.a⟩
def GQ (p:Nat) (z:GZ) (N fu:Nat) (h:HpS) (out:List Int) (X:Stp) (cx:Cx) (L:List Res) (u:Value) (w':World):Prop:=
 (∃fv iv ov fr' g' N' h' inp' out',X= .go (msOf h' g' fr' inp' out' fu)∧intR.sl cx iv inp'∧N'≤N+1∧u= .int .i64 0∧St cx w' (gX p (z.upd fv iv ov) fr' g' N' h' out' L))
 ∨(∃e fr' g' N',X= .halt e∧N'≤N+1∧u= .int .i64 1∧St cx w' (gX p (z.end e) fr' g' N' h out L))
 ∨(∃l bv fr' g' N',X= .done l∧N'≤N+1∧l.length≤100000∧u= .int .i64 1∧St cx w' (gX p ((z.bk bv).end 0) fr' g' N' h out (sl 2 1 bv (Qw l)::L)))
 ∨(X= .lost∧u= .int .i64 2∧∃lv left,St cx w' (gBlk z p lv left::L))
theorem gX_lost (hS:St cx w (gX p z fr g N h out L)):∃lv left,St cx w (gBlk z p lv left::L):=by
 obtain ⟨lv,rv,ho,hS⟩:=gX_open hS
 exact ⟨lv,_,hS.sp⟩
theorem GQ.lost {X:Stp}{L':List Res}{h2:HpS}{N2:Nat}{out2:List Int}(hX:X= .lost) (hS:St cx w (gX p z fr g N2 h2 out2 L')) (hsub:∀lv left,St cx w (gBlk z p lv left::L')→St cx w (gBlk z p lv left::L)):GQ p z N fu h out X cx L (.int .i64 2) w:=by
 obtain ⟨lv,left,hS⟩:=gX_lost hS
 exact .inr (.inr (.inr ⟨hX,rfl,lv,left,hsub _ _ hS⟩))
end Go.Proofs.YteflkifmgnpbhaaGreat
namespace Go.Proofs.YteflkifmgnpbhaaGreat
open Go.Lir
set_option maxHeartbeats 1000000
attribute [local irreducible] LC.wp Q0 Qk Qh retQ Qt LO.wp Q4 Calls
set_option linter.unusedSimpArgs false
set_option linter.unusedVariables false
variable {cx:Cx}{w:World}{L:List Res}{p N:Nat}{z:GZ}{fr:List FrmV}{g:FrmV}{h:HpS}{out inp:List Int}{fu:Nat}{m:Module}
theorem GQ.go {X:Stp}{fr':List FrmV}{g':FrmV}{N':Nat}{h':HpS}{out':List Int}{u:Value}(hX:X= .go (msOf h' g' fr' inp out' fu)) (hi:intR.sl cx z.iv inp) (hN:N'≤N+1) (hu:u= .int .i64 0) (hS:St cx w (gX p z fr' g' N' h' out' L)):GQ p z N fu h out X cx L u w:=
 .inl ⟨z.fv,z.iv,z.ov,fr',g',N',h',inp,out',hX,hi,hN,hu,hS⟩
theorem GQ.halt {X:Stp}{e:Int}{fr':List FrmV}{g':FrmV}{N':Nat}{u:Value}(hX:X= .halt e) (hN:N'≤N+1) (hu:u= .int .i64 1) (hS:St cx w (gX p (z.end e) fr' g' N' h out L)):GQ p z N fu h out X cx L u w:=
 .inr (.inl ⟨e,fr',g',N',hX,hN,hu,hS⟩)
attribute [local irreducible] Frm.val Frm.num Frm.args Frm.rgs Frm.reg intsV MS.ins MS.call HpS.get HpS.set HpS.setC HpS.len HpS.code HpS.put HpS.putV HpS.open HpS.shut HpS.full HpS.openV HpS.can HpS.tuple HpS.arr HpS.arrC HpS.arrV opF Q1d
end Go.Proofs.YteflkifmgnpbhaaGreat
namespace Go.Lir
def inI (n:Int):Prop:=-9223372036854775808≤n∧n≤9223372036854775807
theorem wr_eq (n:Int):wr n=if n % 18446744073709551616≥9223372036854775808 then n % 18446744073709551616 - 18446744073709551616 else n % 18446744073709551616:=by
 unfold wr IntKind.wrap
 simp [IntKind.bits,IntKind.signed]
theorem Qey (n:Int):inI (wr n):=by
 unfold inI;rw [wr_eq];split <;> omega
theorem opF_in (k a b:Int):inI (opF k a b).1:=by
 have h0:inI 0:=by unfold inI;omega
 have h1:inI 1:=by unfold inI;omega
 have hd:inI (divF a b).1:=by
  unfold divF
  split
  · exact h0
  · split <;> exact Qey _
 unfold opF
 repeat' split
 all_goals first|exact Qey _|exact h0|exact h1|exact hd|(unfold bitI;exact Qey _)|(simp;done)
end Go.Lir
namespace Go.Proofs.YteflkifmgnpbhaaGreat
open Go.Lir
set_option maxHeartbeats 1000000
attribute [local irreducible] LC.wp Q0 Qk Qh retQ Qt LO.wp Q4 Calls
set_option linter.unusedSimpArgs false
set_option linter.unusedVariables false
end Go.Proofs.YteflkifmgnpbhaaGreat
namespace Go.Lir
section
variable {m:Module}{s:MS}{x:Ins}
end
end Go.Lir
namespace Go.Proofs.YteflkifmgnpbhaaGreat
open Go.Lir
set_option maxHeartbeats 1000000
attribute [local irreducible] LC.wp Q0 Qk Qh retQ Qt LO.wp Q4 Calls
set_option linter.unusedSimpArgs false
set_option linter.unusedVariables false
variable {cx:Cx}{w:World}{L:List Res}{p N:Nat}{z:GZ}{fr:List FrmV}{g:FrmV}{h:HpS}{out inp:List Int}{fu:Nat}{m:Module}
attribute [local irreducible] Frm.val Frm.num Frm.args Frm.rgs Frm.reg intsV MS.ins MS.call HpS.get HpS.set HpS.setC HpS.len HpS.code HpS.put HpS.putV HpS.open HpS.shut HpS.full HpS.openV HpS.can HpS.tuple HpS.arr HpS.arrC HpS.arrV opF Q1d
end Go.Proofs.YteflkifmgnpbhaaGreat
namespace Go.Proofs.YteflkifmgnpbhaaGreat
open Go.Lir
set_option maxHeartbeats 1000000
attribute [local irreducible] LC.wp Q0 Qk Qh retQ Qt LO.wp Q4 Calls
set_option linter.unusedSimpArgs false
set_option linter.unusedVariables false
variable {cx:Cx}{w:World}{L:List Res}{p N:Nat}{z:GZ}{fr:List FrmV}{g:FrmV}{h:HpS}{out inp:List Int}{fu:Nat}{m:Module}
@[reducible] def FrmV.fi (g:FrmV) (i:Nat):FrmV:=⟨g.f,g.b,i,g.vv,g.vals,g.rv,g.regs⟩
@[reducible] def FrmV.fv (g:FrmV) (v:Value) (l:List Val):FrmV:=⟨g.f,g.b,g.i,v,l,g.rv,g.regs⟩
attribute [local irreducible] Frm.val Frm.num Frm.args Frm.rgs Frm.reg
end Go.Proofs.YteflkifmgnpbhaaGreat
namespace Go.Lir
end Go.Lir
namespace Go.Proofs.YteflkifmgnpbhaaGreat
open Go.Lir
set_option maxHeartbeats 1000000
attribute [local irreducible] LC.wp Q0 Qk Qh retQ Qt LO.wp Q4 Calls
set_option linter.unusedSimpArgs false
set_option linter.unusedVariables false
variable {cx:Cx}{w:World}{L:List Res}{p N:Nat}{z:GZ}{fr:List FrmV}{g:FrmV}{h:HpS}{out inp:List Int}{fu:Nat}{m:Module}
theorem GQ.drop {X:Stp}{u:Value}{r:Res}(hG:GQ p z N fu h out X cx (r::L) u w):GQ p z N fu h out X cx L u w:=by
 rcases hG with ⟨fv,iv,ov,fr',g',N',h',inp',out',h1,h2,h3,h4,hS⟩|⟨e,fr',g',N',h1,h2,h3,hS⟩|⟨l,bv,fr',g',N',h1,h2,h3,h4,hS⟩|⟨h1,h2,lv,left,hS⟩
 · exact .inl ⟨fv,iv,ov,fr',g',N',h',inp',out',h1,h2,h3,h4,hS.sp⟩
 · exact .inr (.inl ⟨e,fr',g',N',h1,h2,h3,hS.sp⟩)
 · exact .inr (.inr (.inl ⟨l,bv,fr',g',N',h1,h2,h3,h4,hS.sp⟩))
 · exact .inr (.inr (.inr ⟨h1,h2,lv,left,hS.sp⟩))
attribute [local irreducible] Frm.val Frm.num Frm.args Frm.rgs Frm.reg intsV MS.to MS.ret GQ
end Go.Proofs.YteflkifmgnpbhaaGreat
namespace Go.Proofs.YteflkifmgnpbhaaGreat
open Go.Lir
set_option maxHeartbeats 1000000
attribute [local irreducible] LC.wp Q0 Qk Qh retQ Qt LO.wp Q4 Calls
set_option linter.unusedSimpArgs false
set_option linter.unusedVariables false
variable {cx:Cx}{w:World}{L:List Res}{p N:Nat}{z:GZ}{fr:List FrmV}{g:FrmV}{h:HpS}{out inp:List Int}{fu:Nat}{m:Module}
attribute [local irreducible] Frm.val Frm.num Frm.args Frm.rgs Frm.reg intsV MS.to MS.ret GQ
end Go.Proofs.YteflkifmgnpbhaaGreat
namespace Go.Proofs.YteflkifmgnpbhaaGreat
open Go.Lir
set_option maxHeartbeats 1000000
attribute [local irreducible] LC.wp Q0 Qk Qh retQ Qt LO.wp Q4 Calls
set_option linter.unusedSimpArgs false
set_option linter.unusedVariables false
variable {cx:Cx}{w:World}{L:List Res}{p N:Nat}{z:GZ}{fr:List FrmV}{g:FrmV}{h:HpS}{out inp:List Int}{fu:Nat}{m:Module}
@[reducible] def GZ.tick (z:GZ):GZ:=⟨z.fn,z.fv,z.iv,z.e,z.bv,z.ov,z.fu+1,z.mo,z.dn,z.c,z.a⟩
@[reducible] def GZ.stk (z:GZ) (c a:Int):GZ:=⟨z.fn,z.fv,z.iv,z.e,z.bv,z.ov,z.fu,z.mo,z.dn,c,a⟩
def GSt (p:Nat) (z:GZ) (N fu most:Nat) (h:HpS) (out:List Int) (X:Stp) (at_:Int) (fr:List FrmV) (g:FrmV) (cx:Cx) (L:List Res) (u:Value) (w':World):Prop:=
 (fu=most∧u=fltV (0,0)∧St cx w' (gX p (z.end 7) fr g N h out L))
 ∨(fu≠most∧u=fltV (0,0)∧∃k,k≠2∧GQ p z.tick N (fu+1) h out X cx L (.int .i64 k) w')
 ∨(fu≠most∧X= .lost∧u=fltV (20,at_)∧∃lv left,St cx w' (gBlk (z.tick.stk 20 at_) p lv left::L))
attribute [local irreducible] Frm.val Frm.num Frm.args Frm.rgs Frm.reg intsV MS.ins MS.fin MS.one MS.place
end Go.Proofs.YteflkifmgnpbhaaGreat
namespace Go.Lir
def crc4 (c:BitVec 32):List UInt8:=[UInt8.ofNat c.toNat,UInt8.ofNat (c >>> 8).toNat,UInt8.ofNat (c >>> 16).toNat,UInt8.ofNat (c >>> 24).toNat]
def Module.enc (m:Module):List UInt8:=m.body++crc4 (crcOf m.body)
end Go.Lir
namespace Go.Lir
section
variable {bs:List UInt8}{at0 i u:Nat}{x:UInt8}{X:Got Nat}
end
end Go.Lir
namespace Go.Lir
section
variable {α:Type}
variable {f:List UInt8→Got α}{N k n0:Nat}{n:Int}{xs:List α}{r r1 r2 r3:List UInt8}{a:α}{e:Flt}{X:Got (List α)}
end
end Go.Lir
namespace Go.Lir
section
variable {bs r:List UInt8}{N:Nat}{e:Flt}{l:List Fun}
end
end Go.Lir
namespace Go.Lir
set_option linter.unusedVariables false
section
variable {α β:Type}{M n:Nat}
def Goodp (M:Nat) (f:List UInt8→Got α) (p:α→Prop):Prop:=∀r x r',r.length≤M→f r= .ok (x,r')→p x∧r'.length≤r.length
theorem Goodp.weak {f:List UInt8→Got α}{p q:α→Prop}(h:Goodp M f p) (hq:∀x,p x→q x):Goodp M f q:=fun r x r' h1 h2=> ⟨hq x (h r x r' h1 h2).1,(h r x r' h1 h2).2⟩
end
end Go.Lir
namespace Go.Lir
section
variable {n:Nat}{r r1 r2 r3 r4:List UInt8}{e:Flt}{op a:Int}{yes no:To}{l:List Int}
variable {h j:Nat}{x:Int×Int×Int×Int}{y:Int}{X:Got (Int×Int×Int×Int)}
end
end Go.Lir
namespace Go.Lir
set_option linter.unusedVariables false
section
variable {α:Type}{n:Nat}
def InI (x:Int):Prop:=-9223372036854775808≤x∧x≤9223372036854775807
def QdN (l:List Int):Prop:=l.length≤9000000000000000000∧∀x∈l,InI x
def ToOK (t:To):Prop:=InI t.block∧QdN t.regs∧QdN t.args
def QcV (x:Ins):Prop:=(InI x.op∧InI x.a∧InI x.b∧InI x.c∧InI x.k∧InI x.n)∧((¬Q2Q x.op / 2 ^ 0 % 2=1→x.a=0)∧(¬Q2Q x.op / 2 ^ 1 % 2=1→x.b=0)∧(¬Q2Q x.op / 2 ^ 2 % 2=1→x.c=0)∧(¬Q2Q x.op / 2 ^ 3 % 2=1→x.k=0))∧
 (¬Q2Q x.op / 64 % 2=1→x.n=0)∧(¬Q2Q x.op / 16 % 2=1→x.regs=[])∧(¬Q2Q x.op / 32 % 2=1→x.args=[])∧QdN x.regs∧QdN x.args
end
end Go.Lir
namespace Go.Lir
set_option linter.unusedVariables false
variable {α:Type}
def Rep.an (r:Rep α) (p:α→Prop):Rep α where
 es:=r.es
 pos:=r.pos
 R:=fun H K cs x=> r.R H K cs x∧p x
 len:=fun h=> r.len h.1
 one:=fun h=> r.one h.1
 turn:=fun h hs=> ⟨r.turn h.1 hs,h.2⟩
def To.InR (t:To):Prop:=InI t.block∧(∀n∈t.regs,InI n)∧∀n∈t.args,InI n
def Ins.InR (x:Ins):Prop:=(InI x.op∧InI x.a∧InI x.b∧InI x.c∧InI x.k∧InI x.n)∧(∀n∈x.regs,InI n)∧∀n∈x.args,InI n
def Tail.InR (x:Tail):Prop:=InI x.op∧InI x.a∧x.yes.InR∧x.no.InR∧∀n∈x.args,InI n
def Block.InR (x:Block):Prop:=InI x.regs∧(∀t∈x.params,t.InR)∧(∀i∈x.code,i.InR)∧x.fin.InR
def Fun.InR (x:Fun):Prop:=InI x.regs∧(∀t∈x.params,t.InR)∧(∀t∈x.results,t.InR)∧∀b∈x.blocks,b.InR
def Module.InR (m:Module):Prop:=∀f∈m.funcs,f.InR
section
variable {P:Program}{T e:TypeId}
end
theorem Q7O {m:Module}(h:m.Few):m.Short:=by
 refine ⟨by have:=h.1;omega,fun f hf=> ?_⟩
 obtain ⟨h1,h2,h3,h4⟩:=h.2 f hf
 refine ⟨Tys.Short.of_great h1,Tys.Short.of_great h2,by omega,fun b hb=> ?_⟩
 obtain ⟨g1,g2,g3,⟨⟨g4,g5⟩,⟨g6,g7⟩,g8⟩⟩:=h4 b hb
 exact ⟨Tys.Short.of_great g1,by omega,fun x hx=> ⟨by have:=(g3 x hx).1;omega,by have:=(g3 x hx).2;omega⟩,⟨by omega,by omega⟩,⟨by omega,by omega⟩,by omega⟩
end Go.Lir
namespace Go.Lir
set_option linter.unusedVariables false
def VR (l:List Val):Prop:=∀v∈l,inI v.n
def TR (t:Thg):Prop:=t.l.length≤1000∧VR t.l
def RR (r:Rgn):Prop:=∀t∈r.l,TR t
def HR (h:HpS):Prop:=∀r∈h.l,RR r
structure Rg (s:MS):Prop where
 g:VR s.g.vals
 st:∀x∈s.st,VR x.vals
 h:HR s.h
 inp:∀n∈s.inp,inI n
theorem in0:inI 0:=by unfold inI;omega
theorem in_nat {n:Nat}(h:n≤1000):inI n:=by unfold inI;omega
theorem VR.nil:VR []:=fun v hv=> by cases hv
theorem VR.one {v:Val}(h:inI v.n):VR [v]:=fun u hu=> by rw [List.mem_singleton.1 hu];exact h
theorem VR.app {a b:List Val}(ha:VR a) (hb:VR b):VR (a++b):=fun v hv=> (List.mem_append.1 hv).elim (ha v) (hb v)
theorem RR.none:RR Rgn.none:=fun t ht=> by cases ht
theorem TR.dflt:TR ⟨false,[]⟩:=⟨Nat.zero_le _,VR.nil⟩
theorem val_in {g:Frm}{k:Int}{v:Val}(hg:VR g.vals) (h:g.val k=some v):inI v.n:=by
 unfold Frm.val at h
 split at h
 · cases h
 · exact hg v (List.mem_of_getElem? h)
theorem num_in {g:Frm}{k n:Int}(hg:VR g.vals) (h:g.num k=some n):inI n:=by
 obtain ⟨v,hv,rfl⟩:=num_mem h;exact hg v hv
theorem Q8R {g:Frm}(hg:VR g.vals):∀{l:List Int}{vs:List Val},g.args l=some vs→VR vs
 | [],vs,h=> by rw [Frm.args] at h;cases h;exact VR.nil
 | k ::l,vs,h=> by
   rw [Frm.args] at h
   cases hv:g.val k with
   | none=> rw [hv] at h;cases h
   | some v=>
     rw [hv] at h
     cases hl:g.args l with
     | none=> rw [hl] at h;cases h
     | some us=>
       rw [hl] at h
       cases h
       intro u hu
       rcases List.mem_cons.1 hu with rfl|hu
       · exact val_in hg hv
       · exact Q8R hg hl u hu
theorem Qay {α:Type}{P:α→Prop}{l:List α}{k:Nat}{d:α}(h:∀x∈l,P x) (hd:P d):P (l.getD k d):=by
 rw [List.getD_eq_getElem?_getD]
 cases hk:l[k]? with
 | none=> exact hd
 | some x=> exact h x (List.mem_of_getElem? hk)
theorem HR.reg {h:HpS}(hh:HR h) (k:Int):RR (h.reg k):=by
 unfold HpS.reg
 split
 · exact Qay (P:=RR) hh RR.none
 · exact RR.none
theorem HR.thg {h:HpS}(hh:HR h) (k t:Nat):TR (h.thg k t):=Qay (P:=TR) (hh.reg k) TR.dflt
theorem HR.upd {l:List Rgn}{k:Nat}{r:Rgn}{a b:Int}(hh:HR ⟨l,a⟩) (hr:RR r):HR ⟨l.set k r,b⟩:=fun q hq=> by
 rcases mem_set_or hq with rfl|hq
 · exact hr
 · exact hh q hq
theorem HR.open {h:HpS}(hh:HR h):HR h.open:=by
 unfold HpS.open
 split
 · exact hh
 · intro r hr
   rcases List.mem_append.1 hr with hr|hr
   · exact hh r hr
   · rw [List.mem_singleton.1 hr];exact RR.none
theorem openV_in {h:HpS}:inI h.openV.n:=by
 unfold HpS.openV;split <;> exact in0
theorem HR.shut {h:HpS}(hh:HR h) (v:Val):HR (h.shut v):=by
 unfold HpS.shut
 split
 · exact HR.upd (a:=h.left) hh RR.none
 · exact hh
theorem HR.put {h:HpS}(hh:HR h) (v:Val) (n:Int){t:Thg}(ht:TR t):HR (h.put v n t):=by
 unfold HpS.put
 split
 · refine HR.upd (a:=h.left) hh fun u hu=> ?_
   have hl:(((h.reg v.region).room n).push t).l=(h.reg v.region).l++[t]:=by unfold Rgn.room;split <;> rfl
   rw [hl] at hu
   rcases List.mem_append.1 hu with hu|hu
   · exact hh.reg _ u hu
   · rw [List.mem_singleton.1 hu];exact ht
 · exact hh
theorem Qfu {h:HpS}{v:Val}{k n:Int}:inI (h.putV v k n).n:=by
 unfold HpS.putV;split <;> exact in0
theorem HR.arr {h:HpS}(hh:HR h) (v:Val) (n:Int):HR (h.arr v n):=by
 unfold HpS.arr
 split
 · exact hh
 · refine hh.put v _ ⟨?_,fun u hu=> ?_⟩
   · show (List.replicate _ _).length≤1000;rw [List.length_replicate];omega
   · rw [List.eq_of_mem_replicate hu];exact in0
theorem arrV_in {h:HpS}{v:Val}{n:Int}:inI (h.arrV v n).n:=by
 unfold HpS.arrV;split
 · exact in0
 · exact Qfu
theorem get_in {h:HpS}(hh:HR h) (v:Val) (k:Int):inI (h.get v k).1.n:=by
 unfold HpS.get
 split
 · exact in0
 · split
   · exact Qay (P:=fun v:Val=> inI v.n) (hh.thg _ _).2 in0
   · exact in0
theorem len_in {h:HpS}(hh:HR h) (v:Val):inI (h.len v).1:=by
 unfold HpS.len
 split
 · exact in0
 · exact in_nat (hh.thg _ _).1
theorem HR.set {h:HpS}(hh:HR h) (v:Val) (k:Int){x:Val}(hx:inI x.n):HR (h.set v k x):=by
 unfold HpS.set
 split
 · exact hh
 · rename_i r t _
   split
   · refine HR.upd (a:=h.left) hh fun u hu=> ?_
     rcases mem_set_or hu with rfl|hu
     · refine ⟨by show ((h.thg r t).l.set _ _).length≤_;rw [List.length_set];exact (hh.thg r t).1,fun y hy=> ?_⟩
       rcases mem_set_or hy with rfl|hy
       · exact hx
       · exact (hh.thg r t).2 y hy
     · exact hh.reg _ u hu
   · exact hh
section
variable {m:Module}{s:MS}
theorem Rg.put (h:Rg s){vs:List Val}(hv:VR vs):Rg (s.put vs):=⟨h.g.app hv,h.st,h.h,h.inp⟩
theorem Rg.hp (h:Rg s){q:HpS}(hq:HR q):Rg (s.hp q):=⟨h.g,h.st,hq,h.inp⟩
theorem Rg.made (h:Rg s){e:Int}{q:HpS}{v:Val}(hq:HR q) (hv:inI v.n):(s.made e q v).All Rg:=by
 unfold MS.made
 exact Stp.all_if (fun _=> trivial) fun _=> Stp.all_if (fun _=> trivial) fun _=> (h.hp hq).put (.one hv)
theorem Rg.ins (h:Rg s){x:Ins}(hx:QC m.funcs.length x=0) (hn:inI x.n):(s.ins m x).All Rg:=by
 obtain ⟨q1,q2⟩:=Q5C hx
 have h1:∀(v:Val),inI v.n→(Stp.go (s.put [v])).All Rg:=fun v hv=> h.put (.one hv)
 have h2:∀(q:HpS),HR q→(Stp.go (s.hp q)).All Rg:=fun q hq=> h.hp hq
 unfold MS.ins
 refine Stp.all_if (fun _=> h1 _ hn) fun _=> Stp.all_if (fun _=> Stp.all_bind fun a _=> Stp.all_bind fun b _=> Stp.all_if (fun _=> trivial) fun _=> h1 _ (opF_in _ _ _)) fun _=> Stp.all_if (fun _=> ?_) fun _=>
  Stp.all_if (fun _=> Stp.all_bind fun v _=> Stp.all_if (fun _=> trivial) fun _=> h2 _ (h.h.shut v)) fun _=> Stp.all_if (fun _=> Stp.all_bind fun v _=> Stp.all_bind fun l hl=> h.made (h.h.put v _ ⟨by have:=Q4b hl;show l.length≤_;omega,Q8R h.g hl⟩) Qfu) fun _=>
  Stp.all_if (fun _=> Stp.all_bind fun v _=> Stp.all_if (fun _=> trivial) fun _=> Stp.all_if (fun _=> trivial) fun _=> h1 _ (get_in h.h _ _)) fun _=>
  Stp.all_if (fun _=> Stp.all_bind fun v _=> Stp.all_if (fun _=> trivial) fun _=> Stp.all_bind fun y hy=> Stp.all_if (fun _=> trivial) fun _=> h2 _ (h.h.set _ _ (val_in h.g hy))) fun _=>
  Stp.all_if (fun _=> Stp.all_bind fun v _=> Stp.all_bind fun n _=> Stp.all_if (fun _=> trivial) fun _=> h.made (h.h.arr _ _) arrV_in) fun _=>
  Stp.all_if (fun _=> Stp.all_bind fun v _=> Stp.all_bind fun n _=> Q54 (h1 _ (get_in h.h _ _))) fun _=>
  Stp.all_if (fun _=> Stp.all_bind fun v _=> Stp.all_bind fun n _=> Stp.all_bind fun c hc=> Q54 (h2 _ (h.h.set _ _ (num_in h.g hc)))) fun _=>
  Stp.all_if (fun _=> Stp.all_bind fun v _=> Q54 (h1 _ (len_in h.h _))) fun _=> Stp.all_if (fun _=> ?_) fun _=> Stp.all_if (fun _=> Stp.all_bind fun n _=> ?_) fun _=> ?_
 · unfold MS.newR
   exact Stp.all_if (fun _=> trivial) fun _=> ⟨h.g.app (.one openV_in),h.st,h.h.open,h.inp⟩
 · unfold MS.inS
   cases hi:s.inp with
   | nil=> exact trivial
   | cons n r=> exact ⟨h.g.app (.one (h.inp n (by rw [hi];simp))),h.st,h.h,fun q hq=> h.inp q (by rw [hi];exact List.mem_cons_of_mem _ hq)⟩
 · unfold MS.outS
   exact Stp.all_if (fun _=> trivial) fun _=> ⟨h.g,h.st,h.h,h.inp⟩
 · unfold MS.call
   split
   · exact trivial
   · refine Stp.all_bind fun rs _=> Stp.all_bind fun vs hv=> Stp.all_if (fun _=> trivial) fun _=> Stp.all_if (fun _=> trivial) fun _=> ?_
     refine ⟨Q8R h.g hv,fun y hy=> ?_,h.h,h.inp⟩
     rcases List.mem_cons.1 hy with rfl|hy
     · exact h.g
     · exact h.st y hy
theorem Rg.to (h:Rg s){f:Fun}{t:To}:(s.to f t).All Rg:=by
 unfold MS.to
 split
 · exact trivial
 · exact Stp.all_bind fun rs _=> Stp.all_bind fun vs hv=> Stp.all_if (fun _=> trivial) fun _=> ⟨Q8R h.g hv,h.st,h.h,h.inp⟩
theorem Rg.fin (h:Rg s){f:Fun}{e:Tail}{n:Nat}(he:Q1I n e=0):(s.fin f e).All Rg:=by
 unfold MS.fin
 refine Stp.all_if (fun _=> h.to) fun _=> Stp.all_if (fun _=> Stp.all_bind fun n _=> Stp.all_if (fun _=> h.to) fun _=> h.to) fun _=> ?_
 unfold MS.ret
 refine Stp.all_bind fun vs hv=> Stp.all_if (fun _=> trivial) fun _=> ?_
 cases hs:s.st with
 | cons c st=> exact Rg.put (s:=⟨s.h,c,st,s.inp,s.out,s.fuel⟩) ⟨h.st c (by rw [hs];simp),fun x hx=> h.st x (by rw [hs];exact List.mem_cons_of_mem _ hx),h.h,h.inp⟩ (Q8R h.g hv)
 | nil=>
   dsimp only
   cases hi:intsV vs with
   | none=> exact trivial
   | some ns=> show ns.length≤8;rw [Q8n hi,Q4b hv];exact Qaz he
theorem Rg.one {k:Nat}(h:Rg s) (hB:Bnd m k s) (hM:m.fault.1=0) (hR:m.InR):(s.one m).All Rg:=by
 obtain ⟨f,b,hf,hb,hi,hv,hr⟩:=hB.cur
 obtain ⟨-,q1,q2⟩:=Q1x hM hf hb
 unfold MS.one
 rw [hf];dsimp only;rw [hb];dsimp only
 cases hx:b.code[s.g.i]? with
 | none=> exact h.fin q2
 | some x=>
   have hxm:=List.mem_of_getElem? hx
   have hxr:=((hR f (List.mem_of_getElem? hf)).2.2.2 b (List.mem_of_getElem? hb)).2.2.1 x hxm
   exact Rg.ins (s:=s.next) ⟨h.g,h.st,h.h,h.inp⟩ (q1 x hxm) hxr.1.2.2.2.2.2
theorem Rg.start {inp:List Int}{pages:Int}(hi:∀n∈inp,inI n):Rg (MS.start inp pages):=⟨VR.nil,fun x hx=> (by cases hx),fun r hr=> (by cases hr),hi⟩
end
end Go.Lir
namespace Go.Proofs.YteflkifmgnpbhaaGreat
open Go.Lir
set_option maxHeartbeats 1000000
attribute [local irreducible] LC.wp Q0 Qk Qh retQ Qt LO.wp Q4 Calls
set_option linter.unusedSimpArgs false
set_option linter.unusedVariables false
variable {cx:Cx}{w:World}{L:List Res}{p N:Nat}{z:GZ}{fr:List FrmV}{g:FrmV}{h:HpS}{out inp:List Int}{fu:Nat}{m:Module}
@[reducible] def newZ (fn fv iv:Value) (fuel:Int):GZ:=⟨fn,fv,iv,0, .slice none 0 0, .slice none 0 0,0,fuel,false,0,0⟩
end Go.Proofs.YteflkifmgnpbhaaGreat
namespace Go.Proofs.YteflkifmgnpbhaaGreat
open Go.Lir
set_option maxHeartbeats 1000000
attribute [local irreducible] LC.wp Q0 Qk Qh retQ Qt LO.wp Q4 Calls
set_option linter.unusedSimpArgs false
set_option linter.unusedVariables false
variable {cx:Cx}{w:World}{L:List Res}{p N:Nat}{c:MC}{z:GZ}{fr:List FrmV}{g:FrmV}{h:HpS}{out inp back:List Int}{m:Module}
def PR (m:Module) (most:Nat) (c:MC) (fr:List FrmV) (g:FrmV) (N:Nat) (h:HpS) (inp out back:List Int):Run→Prop
 | .on s=> s=msOf h g fr inp out s.fuel∧back=[]∧c.dn=false∧c.c=0∧c.e=0∧c.fu=s.fuel∧s.fuel≤most∧c.mo=most∧N≤s.fuel∧Bnd m s.fuel s
 | .over s e b=> h=s.h∧out=s.out∧back=b∧c.dn=true∧c.e=e∧c.fu=s.fuel∧out.length≤2000∧back.length≤100000
 | .stuck _=> False
def DR (m:Module) (most:Nat) (z:GZ) (fr:List FrmV) (g:FrmV) (N:Nat) (h:HpS) (inp out back:List Int):Run→Prop
 | .on s=> s=msOf h g fr inp out s.fuel∧back=[]∧z.dn=false∧(z.c=0∧z.a=0)∧z.e=0∧z.fu=s.fuel∧s.fuel≤most∧z.mo=most∧N≤s.fuel∧Bnd m s.fuel s∧Rg s
 | .over s e b=> h=s.h∧out=s.out∧back=b∧z.dn=true∧(z.c=0∧z.a=0)∧z.e=e∧z.fu=s.fuel∧N≤most+1∧out.length≤2000∧back.length≤100000
 | .stuck _=> False
theorem oneB {s:MS}(hB:Bnd m s.fuel s) (hM:m.fault.1=0):(s.tick.one m).All (Bnd m (s.fuel+1)):=Bnd.one (s:=s.tick) (k:=s.fuel) ⟨hB.cur,hB.st,hB.sl,hB.out⟩ hM
theorem oneR {s:MS}(hR:Rg s) (hB:Bnd m s.fuel s) (hM:m.fault.1=0) (hIn:m.InR):(s.tick.one m).All Rg:=Rg.one (s:=s.tick) (k:=s.fuel) ⟨hR.g,hR.st,hR.h,hR.inp⟩ ⟨hB.cur,hB.st,hB.sl,hB.out⟩ hM hIn
theorem PR.step {most:Nat}{s:MS}{u:Value}(hP:PR m most c fr g N h inp out back (.on s)) (hM:m.fault.1=0) (hi:intR.sl cx c.iv inp) (hs:StepS m p c fr g N h inp out (s.fuel+1) cx (sl 2 1 c.bv []::L) u w):
 (∀f,Run.step m most (.on s)≠ .stuck f)∧(u=fltV (0,0)∧∃c' fr' g' N' h' inp' out' back',PR m most c' fr' g' N' h' inp' out' back' (Run.step m most (.on s))∧c'.fn=c.fn∧intR.sl cx c'.iv inp'∧msr c' < msr c∧St cx w (mS p c' fr' g' N' h' out' (sl 2 1 c'.bv (Qw back')::L)))∨
 ∃(f:Int) (c':MC),Run.step m most (.on s)= .stuck (20,f)∧u=fltV (20,f)∧c'.c=20∧c'.a=f∧St cx w (blk p 55 c'.cells::L):=by
 obtain ⟨hms, -,hdn,hc0,he0,hfu,hkm,hmo,hN,hB⟩:=hP
 generalize hk:s.fuel=k at*
 subst hms
 rcases hs with ⟨h7,rfl,hS⟩|⟨hlt,hs⟩
 · have hst:Run.step m most (.on (msOf h g fr inp out k))= .over (msOf h g fr inp out k) 7 []:=if_pos (show k=most by omega)
   rw [hst]
   refine .inl ⟨fun f hf=> (by cases hf),rfl,c.over 7,fr,g,N,h,inp,out,[],⟨rfl,rfl,rfl,rfl,rfl,hfu,hB.out,Nat.zero_le _⟩,rfl,hi,?_,hS⟩
   unfold msr;rw [hdn];show 2*(c.mo - c.fu).toNat+0 < 2*(c.mo - c.fu).toNat+1;omega
 · have hst:Run.step m most (.on (msOf h g fr inp out k))= .of m (msOf h g fr inp out k) ((msOf h g fr inp out (k+1)).one m):=if_neg (show¬k=most by omega)
   have hB1:((msOf h g fr inp out (k+1)).one m).All (Bnd m (k+1)):=oneB (s:=msOf h g fr inp out k) hB hM
   have hmm:2*(c.mo - (c.fu+1)).toNat+1 < 2*(c.mo - c.fu).toNat+1:=by omega
   have hmz:2*(c.mo - (c.fu+1)).toNat+0 < 2*(c.mo - c.fu).toNat+1:=by omega
   rcases hs with ⟨rfl,hG⟩|⟨e,hX,rfl,fr',g',N',hN',hS⟩|⟨hX,rfl,hS⟩
   · rcases hG with ⟨lv,iv,ov,fr',g',N',h',inp',out',hX,hi',hN', -,hS⟩|⟨ns,bv,fr',g',hX, -,hS⟩
     · rw [hX] at hst hB1
       rw [hst]
       refine .inl ⟨fun f hf=> (by cases hf),rfl,c.tick.upd lv iv ov,fr',g',N',h',inp',out',[],⟨rfl,rfl,hdn,hc0,he0,?_,?_,hmo,?_,hB1⟩,rfl,hi',?_,hS⟩
       · show c.fu+1=((k+1:Nat):Int);omega
       · show k+1≤most;omega
       · show N'≤k+1;omega
       · unfold msr;rw [hdn];exact hmm
     · rw [hX] at hst hB1
       rw [hst]
       refine .inl ⟨fun f hf=> (by cases hf),rfl,⟨c.hp,c.fn,c.lv,c.iv,c.e,bv,c.ov,c.fu+1,c.mo,true,c.c,c.a⟩,fr',g',N,h,inp,out,ns,⟨rfl,rfl,rfl,rfl,he0,?_,hB.out,?_⟩,rfl,hi,?_,(hS.subP (by (repeat constructor);first|done|fail))⟩
       · show c.fu+1=((k+1:Nat):Int);omega
       · have h8:ns.length≤8:=hB1;omega
       · unfold msr;rw [hdn];exact hmz
   · rw [hX] at hst
     rw [hst]
     refine .inl ⟨fun f hf=> (by cases hf),rfl,c.tick.over e,fr',g',N',h,inp,out,[],⟨rfl,rfl,rfl,rfl,rfl,?_,hB.out,Nat.zero_le _⟩,rfl,hi,?_,hS⟩
     · show c.fu+1=((k+1:Nat):Int);omega
     · unfold msr;rw [hdn];exact hmz
   · rw [hX] at hst
     rw [hst]
     exact .inr ⟨_,c.tick.stk ((msOf h g fr inp out (k+1)).place m),rfl,rfl,rfl,rfl,(hS.subP (by (repeat constructor);first|done|fail))⟩
theorem DR.step {most:Nat}{s:MS}{u:Value}(hP:DR m most z fr g N h inp out back (.on s)) (hM:m.fault.1=0) (hIn:m.InR) (hi:intR.sl cx z.iv inp) (hs:GSt p z N s.fuel most h out ((msOf h g fr inp out (s.fuel+1)).one m) ((msOf h g fr inp out s.fuel).place m) fr g cx (sl 2 1 z.bv []::L) u w):
 (u=fltV (0,0)∧∃z' fr' g' N' h' inp' out' back',DR m most z' fr' g' N' h' inp' out' back' (Run.step m most (.on s))∧z'.fn=z.fn∧intR.sl cx z'.iv inp'∧St cx w (gX p z' fr' g' N' h' out' (sl 2 1 z'.bv (Qw back')::L)))∨
 ∃(f:Int) (z':GZ) (lv:Value) (left:Int),Run.step m most (.on s)= .stuck (20,f)∧u=fltV (20,f)∧z'.c=20∧z'.a=f∧z'.dn=false∧St cx w (gBlk z' p lv left::L):=by
 obtain ⟨hms, -,hdn,⟨hc0,ha0⟩,he0,hfu,hkm,hmo,hN,hB,hR⟩:=hP
 generalize hk:s.fuel=k at*
 subst hms
 have hst:k≠most→Run.step m most (.on (msOf h g fr inp out k))= .of m (msOf h g fr inp out k) ((msOf h g fr inp out (k+1)).one m):=fun hne=> if_neg (show¬k=most from hne)
 have hB1:((msOf h g fr inp out (k+1)).one m).All (Bnd m (k+1)):=oneB (s:=msOf h g fr inp out k) hB hM
 have hR1:((msOf h g fr inp out (k+1)).one m).All Rg:=oneR (s:=msOf h g fr inp out k) hR hB hM hIn
 rcases hs with ⟨h7,rfl,hS⟩|⟨hlt,rfl,q,hq,hG⟩|⟨hlt,hX,rfl,lv,left,hS⟩
 · have hs7:Run.step m most (.on (msOf h g fr inp out k))= .over (msOf h g fr inp out k) 7 []:=if_pos (show k=most by omega)
   rw [hs7]
   exact .inl ⟨rfl,z.end 7,fr,g,N,h,inp,out,[],⟨rfl,rfl,rfl,rfl,⟨hc0,ha0⟩,rfl,hfu,(by omega),hB.out,Nat.zero_le _⟩,rfl,hi,hS⟩
 · have hst:=hst hlt
   rcases hG with ⟨fv,iv,ov,fr',g',N',h',inp',out',hX,hi',hN', -,hS⟩|⟨e,fr',g',N',hX,hN', -,hS⟩|⟨l,bv,fr',g',N',hX,hN',hl, -,hS⟩|⟨-,hu, -⟩
   · rw [hX] at hst hB1 hR1
     rw [hst]
     refine .inl ⟨rfl,z.tick.upd fv iv ov,fr',g',N',h',inp',out',[],⟨rfl,rfl,hdn,⟨hc0,ha0⟩,he0,?_,?_,hmo,?_,hB1,hR1⟩,rfl,hi',hS⟩
     · show z.fu+1=((k+1:Nat):Int);omega
     · show k+1≤most;omega
     · show N'≤k+1;omega
   · rw [hX] at hst
     rw [hst]
     refine .inl ⟨rfl,z.tick.end e,fr',g',N',h,inp,out,[],⟨rfl,rfl,rfl,rfl,⟨hc0,ha0⟩,rfl,?_,(by omega),hB.out,Nat.zero_le _⟩,rfl,hi,hS⟩
     show z.fu+1=((k+1:Nat):Int);omega
   · rw [hX] at hst
     rw [hst]
     refine .inl ⟨rfl,(z.tick.bk bv).end 0,fr',g',N',h,inp,out,l,⟨rfl,rfl,rfl,rfl,⟨hc0,ha0⟩,rfl,?_,(by omega),hB.out,hl⟩,rfl,hi,(hS.subP (by (repeat constructor);first|done|fail))⟩
     show z.fu+1=((k+1:Nat):Int);omega
   · cases hu;exact absurd rfl hq
 · have hst:=hst hlt
   rw [hX] at hst
   rw [hst]
   exact .inr ⟨_,z.tick.stk 20 ((msOf h g fr inp out k).place m),lv,left,rfl,rfl,rfl,rfl,hdn,(hS.subP (by (repeat constructor);first|done|fail))⟩
end Go.Proofs.YteflkifmgnpbhaaGreat
namespace Go.Proofs.YteflkifmgnpbhaaGreat
open Go.Lir
set_option maxHeartbeats 1000000
attribute [local irreducible] LC.wp Q0 Qk Qh retQ Qt LO.wp Q4 Calls
set_option linter.unusedSimpArgs false
set_option linter.unusedVariables false
theorem Qeh {x:Module}{cx:Cx}{w:World}{L:List Res}{cs:List Value}(hx:modR.at cx cs x) (hS:St cx w L):Rets Tryz.prog QaI [.agg ⟨cs⟩] w fun u w'=>∃b,u= .bool b∧(b=false→x.Few)∧St cx w' L:=by
 obtain ⟨vf,rfl,hl⟩:=Q1e hx
 obtain ⟨l⟩:=x
 have hl:funcR.sl cx vf l:=hl
 have hlen:=hl.len
 all_goals refine lgo tyD Tryz.func18 ?_
 all_goals (refine Zat ?_;intro p1 w1 hS;refine ZaF ?_;refine Zaa ?_;refine zf0 ?_;refine zl hS ?_;refine zL ?_)
 all_goals (first|(refine Q17 ?_)|(refine Q1a ?_)|(refine Qs rfl rfl (fun hc=> ?_) (fun hc=> ?_)))
 all_goals (refine zn ?_)
 all_goals
  first
  | (refine zct ?_
     all_goals (refine Zas ?_)
     all_goals (exact ⟨_,rfl,true,rfl,fun h=> Bool.noConfusion h,hS.sp⟩))
  | (refine zcf ?_
     all_goals refine zsk ?_)
 all_goals (refine QB ?_;refine ZbO ?_)
 refine zoL hS [1] (fun A LL ρ' w'=>∃(j:Nat),Has ρ' A∧Has ρ' [(3, .int .i64 j)]∧(j≤l.length)∧(l.length≤20)∧(∀f∈l.take j,f.Few)∧St cx w' (LL)) (fun ρ' _=> (l.length - iv (ρ' 3)).toNat) ?_ ?_
 · exact ⟨0,zh,zh,(by omega),(by omega),by simp,hS.sp⟩
 rintro ρ w1 ⟨j,hA,hρ,hj,hl20,hd,hS⟩;obtain ⟨ρ,rfl⟩:=env2 hA hρ
 all_goals (refine Zak ?_;refine zf0 ?_;refine zl hS ?_;refine zL ?_;refine Q3T rfl rfl ?_;refine zn ?_)
 refine Qq rfl (fun hc=> ?_) (fun hc=> ?_)
 · skip
   all_goals (refine Zbf ?_;refine zf0 ?_;refine zl hS ?_;refine zm ?_;refine zi ?_;intro b1 o1 cs1 x1 hat1 hx1 he1;obtain ⟨vp1,vr1,vb1,rfl,hp1,hr1,hb1⟩:=QG he1;refine ZaP ?_;intro p4 w1 hS;refine zsn hS ?_;intro w1 hS;have hS:=hS.ns;refine Zbu ?_;refine zf0 ?_;refine zl hS ?_;refine zL ?_)
   all_goals (first|(refine Q17 ?_)|(refine Q1a ?_)|(refine Qs rfl rfl (fun hc=> ?_) (fun hc=> ?_)))
   all_goals (refine ZaN ?_)
   all_goals ((first|(refine zgn ?_)|(refine zgy ?_;refine zR1 (c:=Qaw hp1 hS) (h:=?_);rintro v1 w1 ⟨rfl,hS⟩;cases hg1:Tys.great x1.params)))
   all_goals (refine Yae ?_;refine ZaN ?_)
   all_goals ((first|(refine zgn ?_)|(refine zgy ?_;refine zR1 (c:=Qaw hr1 hS) (h:=?_);rintro v1 w1 ⟨rfl,hS⟩;cases hg2:Tys.great x1.results)))
   all_goals (refine ZaO ?_)
   all_goals
    first
    | (refine zct ?_
       all_goals (refine Zas ?_)
       all_goals (exact ⟨_,rfl,true,rfl,fun h=> Bool.noConfusion h,hS.sp⟩))
    | (refine zcf ?_
       all_goals refine zsk ?_)
   all_goals (refine QB ?_;have hlb:=hb1.len;refine Q10 ?_;refine ZaB ?_)
   refine zoL hS [1,3,4] (fun A LL ρ' w'=>∃(i:Nat),Has ρ' A∧Has ρ' [(5, .int .i64 i)]∧(i≤x1.blocks.length)∧(x1.blocks.length≤30)∧(Tys.great x1.params=false)∧(Tys.great x1.results=false)∧(∀f∈x1.blocks.take i,f.Few)∧St cx w' (LL)) (fun ρ' _=> (x1.blocks.length - iv (ρ' 5)).toNat) ?_ ?_
   · exact ⟨0,zh,zh,(by omega),(by omega),by assumption,by assumption,by simp,hS.sp⟩
   rintro ρ w1 ⟨i,hA,hρ,hi,hl30,hg1,hg2,hd1,hS⟩;obtain ⟨ρ,rfl⟩:=env2 hA hρ
   all_goals (refine Zak ?_;refine zf0 ?_;refine zl hS ?_;refine zL ?_;refine Q3T rfl rfl ?_;refine zn ?_)
   refine Qq rfl (fun hc=> ?_) (fun hc=> ?_)
   · skip
     all_goals (refine Zbf ?_;refine zf0 ?_;refine zl hS ?_;refine zm ?_;refine zi ?_;intro b2 o2 cs2 x2 hat2 hx2 he2;obtain ⟨vp2,vc2,ve21,ve22,ve23,ve24,ve25,rfl,hp2,hc2,he21,he22,he23,he24,he25⟩:=Q1S he2;refine ZaP ?_;intro p6 w1 hS;refine zsn hS ?_;intro w1 hS;have hS:=hS.ns;refine Zbu ?_;refine zf0 ?_;refine zl hS ?_;refine zL ?_)
     all_goals (first|(refine Q17 ?_)|(refine Q1a ?_)|(refine Qs rfl rfl (fun hc=> ?_) (fun hc=> ?_)))
     all_goals (refine ZaN ?_)
     all_goals ((first|(refine zgn ?_)|(refine zgy ?_;refine zR1 (c:=Qaw hp2 hS) (h:=?_);rintro v1 w1 ⟨rfl,hS⟩;cases hg3:Tys.great x2.params)))
     all_goals (refine ZbJ ?_;refine Yab ?_;refine Yah ?_;refine Yac ?_;refine Yaj ?_)
     all_goals (first|refine zgn ?_|(refine zgy ?_;(first|(refine Q17 ?_)|(refine Q1a ?_)|(refine Qs rfl rfl (fun hc=> ?_) (fun hc=> ?_)))))
     all_goals (refine ZbJ ?_;refine Yab ?_;refine Yah ?_;refine Yah ?_;refine Yac ?_;refine Yaj ?_)
     all_goals (first|refine zgn ?_|(refine zgy ?_;(first|(refine Q17 ?_)|(refine Q1a ?_)|(refine Qs rfl rfl (fun hc=> ?_) (fun hc=> ?_)))))
     all_goals (refine ZbJ ?_;refine Yab ?_;refine Yah ?_;refine Yah ?_;refine Yac ?_;refine Yaj ?_)
     all_goals (first|refine zgn ?_|(refine zgy ?_;(first|(refine Q17 ?_)|(refine Q1a ?_)|(refine Qs rfl rfl (fun hc=> ?_) (fun hc=> ?_)))))
     all_goals (refine ZbJ ?_;refine Yab ?_;refine Yah ?_;refine Yah ?_;refine Yac ?_;refine Yaj ?_)
     all_goals (first|refine zgn ?_|(refine zgy ?_;(first|(refine Q17 ?_)|(refine Q1a ?_)|(refine Qs rfl rfl (fun hc=> ?_) (fun hc=> ?_)))))
     all_goals (refine ZbJ ?_;refine Yab ?_;refine Yah ?_;refine Yah ?_;refine Yac ?_;refine Yaj ?_)
     all_goals (first|refine zgn ?_|(refine zgy ?_;(first|(refine Q17 ?_)|(refine Q1a ?_)|(refine Qs rfl rfl (fun hc=> ?_) (fun hc=> ?_)))))
     all_goals (refine ZaO ?_)
     all_goals
      first
      | (refine zct ?_
         all_goals (refine Zas ?_)
         all_goals (exact ⟨_,rfl,true,rfl,fun h=> Bool.noConfusion h,hS.sp⟩))
      | (refine zcf ?_
         all_goals refine zsk ?_)
     all_goals (refine QB ?_;have hlc:=hc2.len;refine Q10 ?_;refine ZaB ?_)
     refine zoL hS [1,3,4,5,6] (fun A LL ρ' w'=>∃(k:Nat),Has ρ' A∧Has ρ' [(7, .int .i64 k)]∧(k≤x2.code.length)∧(x2.code.length≤200)∧(Tys.great x2.params=false)∧(x2.fin.Few)∧(∀f∈x2.code.take k,f.Few)∧St cx w' (LL)) (fun ρ' _=> (x2.code.length - iv (ρ' 7)).toNat) ?_ ?_
     · exact ⟨0,zh,zh,(by omega),(by omega),by assumption,⟨⟨by omega,by omega⟩,⟨by omega,by omega⟩,by omega⟩,by simp,hS.sp⟩
     rintro ρ w1 ⟨k,hA,hρ,hk,hl200,hg3,hfin,hd2,hS⟩;obtain ⟨ρ,rfl⟩:=env2 hA hρ
     all_goals (refine Zak ?_;refine zf0 ?_;refine zl hS ?_;refine zL ?_;refine Q3T rfl rfl ?_;refine zn ?_)
     refine Qq rfl (fun hc=> ?_) (fun hc=> ?_)
     · skip
       all_goals (refine Zbf ?_;refine zf0 ?_;refine zl hS ?_;refine zm ?_;refine zi ?_;intro b3 o3 cs3 x3 hat3 hx3 he3;obtain ⟨vr3,va3,rfl,hr3,ha3⟩:=QZ he3;refine Yad ?_;refine Yaq ?_;refine zL ?_)
       all_goals (first|(refine Q17 ?_)|(refine Q1a ?_)|(refine Qs rfl rfl (fun hc=> ?_) (fun hc=> ?_)))
       all_goals (refine ZaN ?_;refine Yaa ?_;(first|(refine zgn ?_)|(refine zgy ?_;refine Q6u vw rfl (by assumption) rfl (by omega) ?_;intro b4 o4 cs4 x4 hat4 hx4 he4;rw [hx3] at hx4;obtain rfl:x3=x4:=Option.some.inj hx4;obtain ⟨vr4,va4,rfl,hr4,ha4⟩:=QZ he4));refine Yah ?_;(first|refine zgn ?_|(refine zgy ?_;(first|(refine zl hS ?_)|(refine zlk hS ?_)|(refine zlj hS ?_))));refine Yaj ?_)
       all_goals (first|refine zgn ?_|(refine zgy ?_;(first|(refine Q17 ?_)|(refine Q1a ?_)|(refine Qs rfl rfl (fun hc=> ?_) (fun hc=> ?_)))))
       all_goals (refine ZaO ?_)
       all_goals
        first
        | (refine zct ?_
           all_goals (refine Zas ?_)
           all_goals (exact ⟨_,rfl,true,rfl,fun h=> Bool.noConfusion h,hS.sp⟩))
        | (refine zcf ?_
           all_goals refine zsk ?_)
       all_goals (refine Zae ?_;refine zad ?_;refine Zad ?_;exact ⟨⟨k+1,zh,zh,(by omega),(by omega),by assumption,by assumption,Q7H hd2 hx3 ⟨by omega,by omega⟩,hS.sp⟩,Qv (by omega)⟩)
     · skip
       all_goals (refine zex ?_;refine Zae ?_;refine zad ?_;refine Zad ?_;exact ⟨⟨i+1,zh,zh,(by omega),(by omega),by assumption,by assumption,Q7H hd1 hx2 ⟨hg3,by omega,Q7G hd2 (by omega),hfin⟩,hS.sp⟩,Qv (by omega)⟩)
   · skip
     all_goals (refine zex ?_;refine Zae ?_;refine zad ?_;refine Zad ?_;exact ⟨⟨j+1,zh,zh,(by omega),(by omega),Q7H hd hx1 ⟨hg1,hg2,by omega,Q7G hd1 (by omega)⟩,hS.sp⟩,Qv (by omega)⟩)
 · skip
   all_goals (refine ZbL ?_)
   all_goals (first|(exact ⟨_,rfl,true,rfl,fun h=> Bool.noConfusion h,hS.sp⟩)|(have h1:l.length≤20:=(by omega);exact ⟨_,rfl,false,rfl,fun _=> ⟨h1,Q7G (l:=l) hd (by omega)⟩,hS.sp⟩))
end Go.Proofs.YteflkifmgnpbhaaGreat
namespace Go.Proofs.YteflkifmgnpbhaaGreat
open Go.Lir
set_option maxHeartbeats 1000000
attribute [local irreducible] LC.wp Q0 Qk Qh retQ Qt LO.wp Q4 Calls
set_option linter.unusedSimpArgs false
set_option linter.unusedVariables false
variable {cx:Cx}{w:World}{L:List Res}{m:Module}{inp:List Int}
theorem long_c {fuel:Int}{cs:List Value}(hx:modR.at cx cs m) (hS:St cx w L):Rets Tryz.prog Law_long [.agg ⟨cs⟩, .int .i64 fuel] w fun u w'=>∃b,u= .bool b∧(b=false→m.Few∧fuel≤3000)∧St cx w' L:=by
 have hx':=hx
 obtain ⟨vf,rfl,hf⟩:=Q1e hx
 all_goals refine lgo tyD Tryz.func14 ?_
 all_goals (refine Zat ?_;intro p2 w1 hS;refine Zad ?_;refine Zaa ?_;refine zv hS ?_)
 all_goals (refine zR1 (c:=Qeh hx' hS) (h:=?_);rintro v1 w1 ⟨b,rfl,hb,hS⟩;cases b)
 all_goals (refine Zam ?_)
 all_goals (first|refine zgn ?_|(refine zgy ?_;(first|(refine Q17 ?_)|(refine Q1a ?_)|(refine Qs rfl rfl (fun hc=> ?_) (fun hc=> ?_)))))
 all_goals (refine Yae ?_;refine Zap ?_)
 all_goals ((first|exact ⟨_,rfl,true,rfl,(fun h=> by cases h),hS.sp⟩|exact ⟨_,rfl,_,rfl,(fun h9=> ⟨hb rfl,by first|omega|(have:=of_decide_eq_false h9;omega)⟩),hS.sp⟩))
end Go.Proofs.YteflkifmgnpbhaaGreat
namespace Go.Lir
set_option linter.unusedVariables false
structure Tot (n:Int) (h:HpS):Prop where
 sum:h.left+(h.l.map Rgn.pages).sum=n
 left:0≤h.left
 each:∀r∈h.l,0≤r.pages∧(r.there=false→r.pages=0)
theorem Tot.set {n:Int}{h:HpS}(H:Tot n h){k:Nat}{r r':Rgn}{left:Int}(hr:h.l[k]?=some r) (h0:0≤left) (hs:left+r'.pages=h.left+r.pages) (h1:0≤r'.pages∧(r'.there=false→r'.pages=0)):Tot n ⟨h.l.set k r',left⟩:=by
 have h2:=QeN (r':=r') hr
 have h3:=H.sum
 refine ⟨by show left+((h.l.set k r').map Rgn.pages).sum=n;omega,h0,fun x hx=> ?_⟩
 rcases mem_set_or hx with rfl|hx
 · exact h1
 · exact H.each x hx
theorem Tot.at_ {n:Int}{h:HpS}(H:Tot n h){k:Int}(hk:h.has k=true):h.l[k.toNat]?=some (h.reg k)∧0≤(h.reg k).pages∧(h.reg k).there=true:=by
 obtain ⟨_,_,h1,h2⟩:=Q28 hk
 exact ⟨h1,(H.each _ (List.mem_of_getElem? h1)).1,h2⟩
theorem Tot.open {n:Int}{h:HpS}(H:Tot n h):Tot n h.open:=by
 unfold HpS.open
 split
 · exact H
 · have h2:=H.sum
   refine ⟨by simp;omega,H.left,fun r hr=> ?_⟩
   rcases List.mem_append.1 hr with hr|hr
   · exact H.each r hr
   · simp only [List.mem_singleton] at hr;subst hr;exact ⟨by simp,fun e=> by cases e⟩
theorem Tot.shut {n:Int}{h:HpS}(H:Tot n h) (v:Val):Tot n (h.shut v):=by
 unfold HpS.shut
 split
 · rename_i hc
   unfold HpS.can at hc
   rw [Bool.and_eq_true] at hc
   obtain ⟨h1,h2,h3⟩:=H.at_ hc.2
   have:=H.left
   exact H.set h1 (by omega) (by simp [Rgn.none]) ⟨by simp [Rgn.none],fun _=> rfl⟩
 · exact H
theorem Tot.put {n:Int}{h:HpS}(H:Tot n h) (v:Val) (x:Int) (t:Thg):Tot n (h.put v x t):=by
 unfold HpS.put
 split
 · rename_i hc
   obtain ⟨_,hh⟩:=QbH hc
   obtain ⟨h1,h2,h3⟩:=H.at_ hh
   have hl:=H.left
   have hne:(h.reg v.region).more x=true→h.left≠0:=fun hm e=> by
    unfold HpS.code at hc
    split at hc
    · cases hc
    · rw [if_pos ⟨hm,e⟩] at hc;cases hc
   have hf:∀b:Bool,((h.reg v.region).room x).there=(h.reg v.region).there:=fun _=> by unfold Rgn.room;split <;> rfl
   by_cases hm:(h.reg v.region).more x=true
   · rw [if_pos hm]
     have hp:(((h.reg v.region).room x).push t).pages=(h.reg v.region).pages+1:=by unfold Rgn.room;rw [if_pos hm];rfl
     have:=hne hm
     exact H.set h1 (by omega) (by rw [hp];omega) ⟨by rw [hp];omega,fun e=> by have e:((h.reg v.region).room x).there=false:=e;rw [hf true,h3] at e;cases e⟩
   · rw [if_neg hm]
     have hp:(((h.reg v.region).room x).push t).pages=(h.reg v.region).pages:=by unfold Rgn.room;rw [if_neg hm];rfl
     exact H.set h1 hl (by rw [hp]) ⟨by rw [hp];exact h2,fun e=> by have e:((h.reg v.region).room x).there=false:=e;rw [hf true,h3] at e;cases e⟩
 · exact H
theorem Tot.sets {n:Int}{h:HpS}(H:Tot n h) (v:Val) (k:Int) (x:Val):Tot n (h.set v k x):=by
 unfold HpS.set
 split
 · exact H
 · rename_i r t ha
   split
   · have hh:h.has r=true:=by
      unfold HpS.at_ at ha
      split at ha
      · rename_i hc;cases ha;rw [Int.toNat_of_nonneg (Q28 hc.2.1).1];exact hc.2.1
      · cases ha
     obtain ⟨h1,h2,h3⟩:=H.at_ hh
     rw [Int.toNat_natCast] at h1
     exact H.set h1 H.left rfl ⟨h2,fun e=> by have e:(h.reg r).there=false:=e;rw [h3] at e;cases e⟩
   · exact H
def Stp.Tt (n:Int):Stp→Prop
 | .go s=> Tot n s.h
 | _=> True
theorem Stp.tt_bind {α:Type}{n:Int}{x:Option α}{f:α→Stp}(h:∀a,(f a).Tt n):(Q14 x f).Tt n:=by
 cases x with
 | none=> exact trivial
 | some a=> exact h a
theorem Stp.tt_if {n:Int}{c:Prop} [Decidable c] {a b:Stp}(h1:a.Tt n) (h2:b.Tt n):(if c then a else b).Tt n:=by
 by_cases hc:c
 · rw [if_pos hc];exact h1
 · rw [if_neg hc];exact h2
section
variable {m:Module}{s:MS}{n:Int}
theorem QeH {e:Int}{h:HpS}{v:Val}(H:Tot n h):(s.made e h v).Tt n:=Stp.tt_if trivial (Stp.tt_if trivial H)
theorem QbY {v:Val}{e:Int}{r:Stp}(h:r.Tt n):(Q38 v e r).Tt n:=Stp.tt_if trivial (Stp.tt_if trivial (Stp.tt_if trivial h))
theorem tt_to (H:Tot n s.h){f:Fun}{t:To}:(s.to f t).Tt n:=by
 unfold MS.to
 split
 · exact trivial
 · exact Stp.tt_bind fun _=> Stp.tt_bind fun _=> Stp.tt_if trivial H
theorem tt_ins (H:Tot n s.h){x:Ins}:(s.ins m x).Tt n:=by
 unfold MS.ins
 refine Stp.tt_if H (Stp.tt_if (Stp.tt_bind fun _=> Stp.tt_bind fun _=> Stp.tt_if trivial H) (Stp.tt_if (Stp.tt_if trivial H.open) (Stp.tt_if (Stp.tt_bind fun _=> Stp.tt_if trivial (H.shut _)) (Stp.tt_if (Stp.tt_bind fun _=> Stp.tt_bind fun _=> QeH (H.put _ _ _)) (Stp.tt_if (Stp.tt_bind fun _=> Stp.tt_if trivial (Stp.tt_if trivial H)) (Stp.tt_if (Stp.tt_bind fun _=> Stp.tt_if trivial (Stp.tt_bind fun _=> Stp.tt_if trivial (H.sets _ _ _))) (Stp.tt_if (Stp.tt_bind fun _=> Stp.tt_bind fun k=> Stp.tt_if trivial (QeH ?_)) (Stp.tt_if (Stp.tt_bind fun _=> Stp.tt_bind fun _=> QbY H) (Stp.tt_if (Stp.tt_bind fun _=> Stp.tt_bind fun _=> Stp.tt_bind fun _=> QbY (H.sets _ _ _)) (Stp.tt_if (Stp.tt_bind fun _=> QbY H) (Stp.tt_if ?_ (Stp.tt_if (Stp.tt_bind fun _=> Stp.tt_if trivial H) ?_))))))))))))
 · unfold HpS.arr;split
   · exact H
   · exact H.put _ _ _
 · unfold MS.inS;split <;> first|exact trivial|exact H
 · unfold MS.call
   split
   · exact trivial
   · exact Stp.tt_bind fun _=> Stp.tt_bind fun _=> Stp.tt_if trivial (Stp.tt_if trivial H)
theorem tt_one (H:Tot n s.h):(s.one m).Tt n:=by
 unfold MS.one
 split
 · exact trivial
 · split
   · exact trivial
   · split
     · exact tt_ins (s:=s.next) H
     · unfold MS.fin
       refine Stp.tt_if (tt_to H) (Stp.tt_if (Stp.tt_bind fun _=> Stp.tt_if (tt_to H) (tt_to H)) ?_)
       unfold MS.ret
       refine Stp.tt_bind fun vs=> Stp.tt_if trivial ?_
       split
       · exact H
       · split <;> exact trivial
def Run.Tt (n:Int):Run→Prop
 | .on s=> Tot n s.h
 | .over s _ _=> Tot n s.h
 | .stuck _=> True
theorem tt_step {most:Nat}{r:Run}(h:r.Tt n):(r.step m most).Tt n:=by
 cases r with
 | on s=>
   unfold Run.step
   dsimp only
   split
   · exact h
   · have h1:(s.tick.one m).Tt n:=tt_one (s:=s.tick) h
     cases hr:s.tick.one m with
     | go t=> rw [hr] at h1;exact h1
     | halt e=> exact h
     | done l=> exact h
     | lost=> exact trivial
 | over s e b=> exact h
 | stuck f=> exact h
theorem tt_start {inp:List Int}(h:0≤n):(Run.on (MS.start inp n)).Tt n:=⟨by show n+0=n;omega,h,fun r hr=> by cases hr⟩
theorem Tot.le {h:HpS}(H:Tot n h):h.left≤n:=by
 have:=Q6s (l:=h.l.map Rgn.pages) (by intro x hx;obtain ⟨r,hr,rfl⟩:=List.mem_map.1 hx;exact (H.each r hr).1)
 have:=H.sum;omega
theorem Tot.none {h:HpS}(H:Tot n h) (hn:Q6n h):h.left=n∧h.live=0:=by
 have hall:∀r∈h.l,r.there=false:=fun r hr=> by
  obtain ⟨k,hk⟩:=List.mem_iff_getElem?.1 hr
  have:=hn k
  unfold HpS.has at this
  rw [HpS.reg_get hk] at this
  exact this
 have hz:(h.l.map Rgn.pages).sum=0:=by
  have:∀l:List Rgn,(∀r∈l,r.pages=0)→(l.map Rgn.pages).sum=0:=by
   intro l hl
   induction l with
   | nil=> rfl
   | cons a l ih=> rw [List.map_cons,List.sum_cons,hl a (by simp),ih fun r hr=> hl r (by simp [hr])];rfl
  exact this _ fun r hr=> (H.each r hr).2 (hall r hr)
 refine ⟨by have:=H.sum;omega,?_⟩
 unfold HpS.live
 rw [List.countP_eq_zero]
 intro r hr
 rw [hall r hr];decide
end
end Go.Lir
