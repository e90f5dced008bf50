/- Lemmas of the proof, part 6: what the functions of the program do (contracts), and what follows. -/
import Derived.Test.YteflkifmgnpbhaaGreatZ5
import Derived.Test.YteflkifmgnpbhaaGreatProg
import Derived.Test.YteflkifmgnpbhaaGreatZ2
import Derived.Test.YteflkifmgnpbhaaGreatZ3
import Derived.Test.YteflkifmgnpbhaaGreatZ4
namespace Go.Lir
set_option linter.unusedVariables false
section
variable {m : Module} {Ψ Ψ' : HMap} {s : MS} {f : Fun} {b : Block} {z z' : JS} {O : Int → Prop} {g : Frm} {k : Int} {t u : Ty} {v : Val}
theorem Q70 {l : List Bool} {r : Int} (h0 : 0 ≤ r) (h1 : l[r.toNat]? = some true) : hasB l r = true := by
 have := (List.getElem?_eq_some_iff.1 h1).1
 unfold hasB
 rw [List.getD_eq_getElem?_getD, h1]
 simp; omega
theorem Q8s {l : List Bool} {r : Int} (h : hasB l r = true) : 0 ≤ r ∧ l[r.toNat]? = some true := by
 obtain ⟨h0, h1, h2⟩ := Q5j h
 rw [List.getD_eq_getElem?_getD] at h2
 cases hx : l[r.toNat]? with
 | none => rw [hx] at h2; cases h2
 | some y => rw [hx] at h2; exact ⟨h0, by rw [show y = true from h2]⟩
theorem hasB_snoc {l : List Bool} {r : Int} (h : hasB (l ++ [true]) r = true) : hasB l r = true ∨ r = l.length := by
 obtain ⟨h0, h1⟩ := Q8s h
 by_cases hr : r < l.length
 · rw [List.getElem?_append_left (by omega)] at h1; exact .inl (Q70 h0 h1)
 · have := (List.getElem?_eq_some_iff.1 h1).1
   rw [List.length_append] at this
   simp only [List.length_cons, List.length_nil] at this
   exact .inr (by omega)
theorem Qaq {l : List Bool} {r : Int} (h : hasB l r = true) : hasB (l ++ [true]) r = true := Qbk h
theorem Qap (l : List Bool) : hasB (l ++ [true]) l.length = true := Q70 (by omega) (by rw [Int.toNat_natCast, List.getElem?_append_right (Nat.le_refl _), Nat.sub_self]; rfl)
theorem Q49 {l : List Bool} {r q : Int} (h0 : 0 ≤ q) : hasB (l.set q.toNat false) r = true ↔ hasB l r = true ∧ r ≠ q := by
 constructor
 · intro h
   obtain ⟨h1, h2⟩ := Q8s h
   rw [List.getElem?_set] at h2
   split at h2
   · split at h2 <;> cases h2
   · rename_i hne; exact ⟨Q70 h1 h2, by omega⟩
 · rintro ⟨h1, h2⟩
   obtain ⟨h3, h4⟩ := Q8s h1
   exact Q70 h3 (by rw [List.getElem?_set, if_neg (by omega)]; exact h4)
theorem hasB_all {n : Nat} {r : Int} : hasB (List.replicate n true) r = true ↔ 0 ≤ r ∧ r < n := by
 constructor
 · intro h; have := Q1Z h; rw [List.length_replicate] at this; exact this
 · rintro ⟨h1, h2⟩; exact Q70 h1 (by rw [List.getElem?_replicate, if_pos (by omega)])
theorem Qbl {l : List Int} {a : Int} {i : Nat} (h : i < l.length) : (l ++ [a]).getD i 0 = l.getD i 0 := by
 rw [List.getD_eq_getElem?_getD, List.getElem?_append_left h, ← List.getD_eq_getElem?_getD]
theorem Q8v {l : List Int} {fn : Int → Int} {i : Nat} (h : i < l.length) : (l.map fn).getD i 0 = fn (l.getD i 0) := by
 rw [List.getD_eq_getElem?_getD, List.getElem?_map, List.getElem?_eq_getElem h, List.getD_eq_getElem?_getD, List.getElem?_eq_getElem h]; rfl
theorem kept_app {a : Int} {i : Nat} {vs : List Val} (hl : f.regs ≤ g.regs.length) : Q3B f ⟨g.f, g.b, i, vs, g.regs ++ [a]⟩ = Q3B f g := by
 unfold Q3B
 exact List.take_append_of_le_length (by omega)
theorem not_new (h : Safe m Ψ s f b z O) : s.h.has s.h.l.length = false := by
 cases hx : s.h.has s.h.l.length with
 | false => rfl
 | true => have := Q5K hx; omega
theorem safe_new (hM : m.fault.1 = 0) (hm : m.Short) (h : Safe m Ψ s f b z O) {x : Ins} (hx : b.code[s.g.i]? = some x) (hop : x.op = 3) : StS m ((s.next).ins m x) := by
 obtain ⟨hF, hj, hrun⟩ := h.ins hx
 have hinv := Q5a hM hm h.inv hF hj
 have hrl := Q6J h.inv
 have hn := h.ft.n
 unfold MS.ins
 rw [if_neg (by omega), if_neg (by omega), if_pos hop]
 unfold MS.newR
 by_cases hfu : s.h.full = true
 · rw [if_pos (show s.next.h.full = true from hfu)]; exact trivial
 · rw [if_neg (show ¬ s.next.h.full = true from hfu)]
   rw [Qbd hop] at hj
   split at hj
   · cases hj
   · generalize (jIns m f z x).2 = z' at hj hrun hinv
     cases hj
     have eo : s.h.open = ⟨s.h.l ++ [⟨true, [], 0, 0⟩], s.h.left⟩ := by unfold HpS.open; rw [if_neg hfu]
     have ev : s.h.openV = ⟨2, s.h.l.length, 0, 0⟩ := by unfold HpS.openV; rw [if_neg hfu]
     show Q9x m ⟨s.h.open, ⟨s.g.f, s.g.b, s.g.i + 1, s.g.vals ++ [s.h.openV], s.g.regs ++ [s.h.openV.region]⟩, s.st, s.inp, s.out, s.fuel⟩
     rw [ev]
     have hrho : ∀ r : Int, hasB z.h r = true → (⟨s.g.f, s.g.b, s.g.i + 1, s.g.vals ++ [⟨2, s.h.l.length, 0, 0⟩], s.g.regs ++ [(s.h.l.length : Int)]⟩ : Frm).ρ r = s.g.ρ r := fun r hr => by
      have := Q1Z hr
      unfold Frm.ρ
      exact Qbl (by omega)
     have hrhn : (⟨s.g.f, s.g.b, s.g.i + 1, s.g.vals ++ [⟨2, s.h.l.length, 0, 0⟩], s.g.regs ++ [(s.h.l.length : Int)]⟩ : Frm).ρ z.h.length = s.h.l.length := by
      unfold Frm.ρ
      rw [Int.toNat_natCast, ← hn, List.getD_eq_getElem?_getD, List.getElem?_append_right (Nat.le_refl _), Nat.sub_self]; rfl
     have hhas : ∀ q, s.h.open.has q = true ↔ (s.h.has q = true ∨ q = s.h.l.length) := fun q => by
      unfold HpS.has
      rw [eo, Qa1]
      by_cases hq : q = s.h.l.length
      · rw [if_pos hq]; exact ⟨fun _ => .inr hq, fun _ => rfl⟩
      · rw [if_neg hq]; exact ⟨fun hh => .inl hh, fun hh => hh.elim id fun hh => absurd hh hq⟩
     have hnn := not_new h
     refine ⟨Ψ, f, b, _, O, hty_open h.ty, h.hf, h.hb, hrun, hinv, ⟨by show (s.g.regs ++ [_]).length = (z.h ++ [true]).length; rw [List.length_append, List.length_append, hn]; rfl, ?_⟩, ?_, ?_, ?_, fun q => ?_⟩
     · show VTs Ψ (s.g.vals ++ [_]) ((z.l ++ [Ty.mk 2 z.h.length []]).map fun t => t.rn (s.g.regs ++ [(s.h.l.length : Int)]))
       rw [List.map_append]
       refine VTs.app ?_ (VTs.one ?_)
       · have e9 : (z.l.map fun t => t.rn (s.g.regs ++ [(s.h.l.length : Int)])) = z.l.map fun t => t.rn s.g.regs := List.map_congr_left fun t ht => Ty.rn_congr (n := z.h.length) (fun i hi => Qbl (by omega)) t (h.inv.wf t ht)
         rw [e9]; exact h.ft.v
       · show VT Ψ ⟨2, s.h.l.length, 0, 0⟩ ((Ty.mk 2 z.h.length []).rn (s.g.regs ++ [(s.h.l.length : Int)]))
         rw [Ty.rn_mk]
         refine ⟨rfl, fun _ => ?_, fun h9 => by cases h9 <;> rename_i h9 <;> cases h9⟩
         rw [if_pos (show (2 : Int) ≠ 1 by decide)]
         exact hrhn.symm
     · rw [show Q3B f ⟨s.g.f, s.g.b, s.g.i + 1, s.g.vals ++ [⟨2, s.h.l.length, 0, 0⟩], s.g.regs ++ [(s.h.l.length : Int)]⟩ = Q3B f s.g from kept_app (by omega)]
       exact h.wt
     · intro r q hr hq h1 h2 he
       rcases hasB_snoc hr with hr | rfl
       · rcases hasB_snoc hq with hq | rfl
         · rw [hrho r hr, hrho q hq] at he; exact h.inj r q hr hq h1 h2 he
         · rw [hrho r hr, hrhn] at he
           have := h.held hr; rw [he, hnn] at this; cases this
       · rcases hasB_snoc hq with hq | rfl
         · rw [hrhn, hrho q hq] at he
           have := h.held hq; rw [← he, hnn] at this; cases this
         · rfl
     · rintro q ⟨r, hr, h1, rfl⟩ hO
       rcases hasB_snoc hr with hr | rfl
       · rw [hrho r hr] at hO; exact h.dis _ ⟨r, hr, h1, rfl⟩ hO
       · rw [hrhn] at hO
         have := (h.has s.h.l.length).2 (.inr hO)
         rw [hnn] at this; cases this
     · rw [hhas, h.has]
       constructor
       · rintro ((⟨r, hr, h1, rfl⟩ | hO) | rfl)
         · exact .inl ⟨r, Qaq hr, h1, hrho r hr⟩
         · exact .inr hO
         · exact .inl ⟨z.h.length, Qap _, hrl, hrhn⟩
       · rintro (⟨r, hr, h1, rfl⟩ | hO)
         · rcases hasB_snoc hr with hr | rfl
           · exact .inl (.inl ⟨r, hr, h1, (hrho r hr).symm⟩)
           · exact .inr hrhn
         · exact .inl (.inr hO)
theorem shut_has (hc : s.h.can v = true) (q : Int) : (s.h.shut v).has q = true ↔ s.h.has q = true ∧ q ≠ v.region := by
 have e : s.h.shut v = ⟨s.h.l.set v.region.toNat Rgn.none, s.h.left + (s.h.reg v.region).pages⟩ := by unfold HpS.shut; rw [hc]; rfl
 unfold HpS.can at hc
 rw [Bool.and_eq_true] at hc
 obtain ⟨g0, g1, g2, g3⟩ := Q5K hc.2
 unfold HpS.has
 rw [e, Q6K (left' := s.h.left) (by omega)]
 by_cases hq : q = v.region
 · rw [if_pos (by omega)]; exact ⟨fun h => (by cases h), fun h => absurd hq h.2⟩
 · rw [if_neg (by omega)]; exact ⟨fun h => ⟨h, hq⟩, fun h => h.1⟩
theorem Qcz (hM : m.fault.1 = 0) (hm : m.Short) (h : Safe m Ψ s f b z O) {x : Ins} (hx : b.code[s.g.i]? = some x) (hop : x.op = 4) : StS m ((s.next).ins m x) := by
 obtain ⟨hF, hj, hrun⟩ := h.ins hx
 have hinv := Q5a hM hm h.inv hF hj
 unfold MS.ins
 rw [if_neg (by omega), if_neg (by omega), if_neg (by omega), if_pos hop]
 rw [Qbc hop] at hj
 obtain ⟨t, h1, hj⟩ := Q7 hj
 split at hj
 · cases hj
 · rename_i hlt
   obtain ⟨v, g1, g2, g3, g4, g5, g6⟩ := h.at_ h1 (by decide)
   obtain ⟨_, _, _, hh⟩ := Q5c h1
   have hrg := Q1Z hh
   have hcan := can_of g2 g3 g5
   have hv : v.region = s.g.ρ t.r := by rw [g2.reg (by omega), g6]
   generalize (jIns m f z x).2 = z' at hj hrun hinv
   cases hj
   rw [Q4 (show s.next.g.val x.a = some v from g1), if_neg (by rw [show s.next.h.can v = s.h.can v from rfl, hcan]; decide)]
   refine ⟨Ψ, f, b, _, O, hty_shut h.ty, h.hf, h.hb, hrun, hinv, ⟨by show s.g.regs.length = (z.h.set _ _).length; rw [List.length_set]; exact h.ft.n, h.ft.v⟩, h.wt, ?_, ?_, fun q => ?_⟩
   · intro r q hr hq h1 h2 he
     exact h.inj r q ((Q49 hrg.1).1 hr).1 ((Q49 hrg.1).1 hq).1 h1 h2 he
   · rintro q ⟨r, hr, h1, rfl⟩ hO
     exact h.dis _ ⟨r, ((Q49 hrg.1).1 hr).1, h1, rfl⟩ hO
   · show (s.h.shut v).has q = true ↔ _
     rw [shut_has hcan, h.has, hv]
     constructor
     · rintro ⟨⟨r, hr, h1, rfl⟩ | hO, hne⟩
       · exact .inl ⟨r, (Q49 hrg.1).2 ⟨hr, fun he => hne (by rw [he])⟩, h1, rfl⟩
       · exact .inr hO
     · rintro (⟨r, hr, h1, rfl⟩ | hO)
       · obtain ⟨h3, h4⟩ := (Q49 hrg.1).1 hr
         exact ⟨.inl ⟨r, h3, h1, rfl⟩, fun he => h4 (h.inj r t.r h3 hh h1 (by omega) he)⟩
       · exact ⟨.inr hO, fun he => h.dis _ ⟨t.r, hh, by omega, he.symm⟩ hO⟩
/-! ### calls -/
theorem Q5u {f : Fun} {fi : Nat} : ∀ {l : List Block} {b0 : Nat}, (QE m f fi b0 l).1 = 0 → ∀ (b : Nat) (y : Block), l[b]? = some y → (QX m f fi (b0 + b) y.fin 0 (Q1s y) y.code).1 = 0
 | [], _, _, b, y, hy => by simp at hy
 | z :: l, b0, h, b, y, hy => by
   rw [QE] at h
   obtain ⟨h1, h2⟩ := Q3c h
   cases b with
   | zero => rw [List.getElem?_cons_zero] at hy; cases hy; exact h1
   | succ b => rw [List.getElem?_cons_succ] at hy; rw [show b0 + (b + 1) = b0 + 1 + b by omega]; exact Q5u h2 b y hy
theorem Q74 : ∀ {l : List Fun} {f0 : Nat}, (Q1C m f0 l).1 = 0 → ∀ (f : Nat) (x : Fun), l[f]? = some x → (QE m x (f0 + f) 0 x.blocks).1 = 0
 | [], _, _, b, y, hy => by simp at hy
 | z :: l, b0, h, b, y, hy => by
   rw [Q1C] at h
   obtain ⟨h1, h2⟩ := Q3c h
   cases b with
   | zero => rw [List.getElem?_cons_zero] at hy; cases hy; exact h1
   | succ b => rw [List.getElem?_cons_succ] at hy; rw [show b0 + (b + 1) = b0 + 1 + b by omega]; exact Q74 h2 b y hy
theorem Q2R (h : m.runs.1 = 0) : m.fault.1 = 0 := (Q3c h).1
theorem Q5I (h : m.runs.1 = 0) {fi bi : Nat} {x : Fun} {y : Block} (hx : m.funcs[fi]? = some x) (hy : x.blocks[bi]? = some y) : (QX m x fi bi y.fin 0 (Q1s y) y.code).1 = 0 := by
 have h1 := Q74 (Q3c h).2 fi x hx
 rw [Nat.zero_add] at h1
 have h2 := Q5u h1 bi y hy
 rwa [Nat.zero_add] at h2
/-- A frame at the beginning of a block. -/
theorem Qbm {vs : List Val} {rs regs l : List Int} {bb : Block} {fi bi : Nat} (hrs : rs = l.map g.ρ) (hl : (l.length : Int) = bb.regs) (h16 : bb.regs ≤ 16) (hv : VTs Ψ vs (bb.params.map fun t => (t.rn l).rn g.regs)) (hw : ∀ t ∈ bb.params, t.wrong 8 bb.regs = 0) :
 FT Ψ (Q1s bb) ⟨fi, bi, 0, vs, rs⟩ := by
 subst hrs
 refine ⟨by show (l.map g.ρ).length = (List.replicate (min bb.regs 16).toNat true).length; rw [List.length_map, List.length_replicate]; omega, ?_⟩
 show VTs Ψ vs (bb.params.map fun t => t.rn (l.map g.ρ))
 have e : (bb.params.map fun t => t.rn (l.map g.ρ)) = bb.params.map fun t => (t.rn l).rn g.regs := List.map_congr_left fun t ht => (Ty.rn_rn (n := bb.regs) (fun i hi => Q8v (by omega)) t (hw t ht)).symm
 rw [e]; exact hv
theorem Q2W {bb : Block} (h0 : 0 ≤ bb.regs) (h16 : bb.regs ≤ 16) {r : Int} : hasB (Q1s bb).h r = true ↔ 0 ≤ r ∧ r < bb.regs := by
 unfold Q1s
 dsimp only
 rw [hasB_all]
 omega
theorem QcA (hR : m.runs.1 = 0) (hm : m.Short) (h : Safe m Ψ s f b z O) {x : Ins} (hx : b.code[s.g.i]? = some x) (hop : x.op = 14) : StS m ((s.next).ins m x) := by
 have hM := Q2R hR
 obtain ⟨hF, hj, hrun⟩ := h.ins hx
 unfold MS.ins
 rw [if_neg (by omega), if_neg (by omega), if_neg (by omega), if_neg (by omega), if_neg (by omega), if_neg (by omega), if_neg (by omega), if_neg (by omega), if_neg (by omega), if_neg (by omega), if_neg (by omega), if_neg (by omega), if_neg (by omega)]
 rw [Q6R hop] at hj
 cases hg : m.funcs[x.k.toNat]? with
 | none => unfold Q6k at hj; rw [hg] at hj; cases hj
 | some gf =>
   obtain ⟨h1, h2, h3, h4⟩ := Q4P hj hg
   have hall := Q41 h2
   have hrs := rgs_of h.ft.n hall
   obtain ⟨vs, k1, k2⟩ := Q6T h.ft h3
   unfold MS.call
   rw [hg]
   dsimp only
   rw [Q4 ((next_rgs s x.regs).trans hrs), Q4 ((Q96 s x.args).trans k1)]
   have hlen := k2.1
   rw [List.length_map] at hlen
   rw [if_neg (by rw [List.length_map]; omega)]
   split
   · exact trivial
   · have hfh := Q1x (Q1K hM hg)
     obtain ⟨b0, hb0⟩ : ∃ b0, gf.blocks[0]? = some b0 := ⟨_, List.getElem?_eq_getElem (by omega)⟩
     have hbh := Q2c (Q1V hM hg hb0).1
     obtain ⟨e1, e2⟩ := hbh.2.2.2.1 rfl
     have hno : ∀ r, hasB (Q1s b0).h r = true → gf.regs ≤ r → False := fun r hr hge => by
      have := (Q2W (by omega) (by omega)).1 hr; omega
     refine ⟨Ψ, gf, b0, Q1s b0, (fun k => Own f z s.next.g k ∨ O k), h.ty, hg, hb0, ?_, Q4r hm hM hg hb0, Qbm (regs := []) (g := s.g) rfl (by omega) (by omega) (by rw [e2]; exact k2) (fun t ht => ?_), ?_, ?_, ?_, fun q => ?_⟩
     · exact Q5I hR hg hb0
     · exact Ty.fault_wrong (Q2I hbh.2.2.1 t ht)
     · show Wt m Ψ (s.next.g :: s.st) gf (Q3B gf ⟨x.k.toNat, 0, 0, vs, x.regs.map s.g.ρ⟩) _
       rw [show Q3B gf ⟨x.k.toNat, 0, 0, vs, x.regs.map s.g.ρ⟩ = x.regs.map s.next.g.ρ from List.take_of_length_le (by rw [List.length_map]; omega)]
       exact .cons (c := s.next.g) (z := z) h.hf h.hb h.inv ⟨h.ft.n, h.ft.v⟩ hop hF hj hg hrun h.wt h.inj h.dis
     · intro r q hr _ h5 _ _; exact (hno r hr h5).elim
     · rintro q ⟨r, hr, h5, rfl⟩ _; exact hno r hr h5
     · show s.h.has q = true ↔ _
       rw [h.has]
       exact ⟨fun hh => .inr hh, fun hh => hh.elim (fun ⟨r, hr, h5, _⟩ => (hno r hr h5).elim) id⟩
/-! ### ends -/
theorem Q9b (f : Fun) (z : JS) (t : To) : NZ (jto f z t) := by
 unfold jto
 split
 · exact .e (by decide)
 · split
   · exact .e (by decide)
   · split
     · exact .e (by decide)
     · split
       · rename_i h; exact .e h
       · exact Q3C _ _ _ _
theorem jend_nz (f : Fun) (z : JS) (e : Tail) : NZ (jend f z e) := by
 unfold jend
 refine .ite (Q9b _ _ _) (.ite (.bind (Q2q _ _ _) fun _ _ => .bind (Q9b _ _ _) fun _ _ => Q9b _ _ _) (.bind (Q3C _ _ _ _) fun _ _ => .ite (.e (by decide)) (.o _)))
theorem Safe.fin (h : Safe m Ψ s f b z O) (hx : b.code[s.g.i]? = none) : Q1l f.blocks.length b.fin = 0 ∧ jend f z b.fin = .ok () := by
 have h1 := h.run
 rw [Q6d (List.getElem?_eq_none_iff.1 hx), Q1O] at h1
 unfold jEnd at h1
 split at h1
 · rename_i hne; exact absurd h1 hne
 · rename_i he
   refine ⟨Classical.not_not.1 he, ?_⟩
   cases hj : jend f z b.fin with
   | ok u => rfl
   | error c =>
     rw [hj] at h1
     dsimp only at h1
     have hnz : NZ (jend f z b.fin) := jend_nz _ _ _
     exact absurd h1 (hnz c hj)
theorem Q6M {h : List Bool} : ∀ {l seen : List Int}, Q1r h seen l = 0 → (∀ r ∈ l, hasB h r = true) ∧ l.Nodup ∧ (∀ r ∈ l, r ∉ seen) ∧ (Q1B h).length ≤ seen.length + l.length
 | [], seen, hp => by
   rw [Q1r] at hp
   split at hp
   · cases hp
   · exact ⟨by simp, List.nodup_nil, by simp, by simp only [List.length_nil]; omega⟩
 | x :: l, seen, hp => by
   rw [Q1r] at hp
   split at hp
   · rename_i hx
     split at hp
     · cases hp
     · rename_i hns
       obtain ⟨h1, h2, h3, h4⟩ := Q6M hp
       refine ⟨fun r hr => ?_, List.nodup_cons.2 ⟨fun hm => h3 x hm (by simp), h2⟩, fun r hr => ?_, by simp only [List.length_append, List.length_cons, List.length_nil] at h4 ⊢; omega⟩
       · rcases List.mem_cons.1 hr with rfl | hr
         · exact hx
         · exact h1 r hr
       · rcases List.mem_cons.1 hr with rfl | hr
         · exact hns
         · exact fun hs => h3 r hr (List.mem_append.2 (.inl hs))
   · cases hp
theorem pass_all {h : List Bool} {l : List Int} (hp : Q1r h [] l = 0) : ∀ r, hasB h r = true → r ∈ l := by
 obtain ⟨h1, h2, _, h4⟩ := Q6M hp
 intro r hr
 refine Classical.byContradiction fun hn => ?_
 have := Q3d (a := r :: l) (b := Q1B h) (List.nodup_cons.2 ⟨hn, h2⟩) (by
  intro y hy
  rcases List.mem_cons.1 hy with rfl | hy
  · exact mem_heldL.2 hr
  · exact mem_heldL.2 (h1 y hy))
 simp only [List.length_cons, List.length_nil] at this h4
 omega
theorem Q8f {l : List Int} {n : Nat} (h : Q37 l n = true) {i : Nat} (hi : i < n) : l[i]? = some (i : Int) := by
 unfold Q37 at h
 rw [List.all_eq_true] at h
 exact of_decide_eq_true (h i (List.mem_range.2 hi))
theorem Q95 {l : List Int} (h : l.Nodup) {i j : Nat} {a : Int} (hi : l[i]? = some a) (hj : l[j]? = some a) : i = j := by
 have h1 := (List.getElem?_eq_some_iff.1 hi).1
 exact (List.getElem?_inj h1 h).1 (by rw [hi, hj])
theorem Q9P (hR : m.runs.1 = 0) (hm : m.Short) (h : Safe m Ψ s f b z O) {t : To} (hj : jto f z t = .ok ()) (hb0 : 0 ≤ t.block) : StS m (s.to f t) := by
 have hM := Q2R hR
 unfold jto at hj
 unfold MS.to
 cases hb : f.blocks[t.block.toNat]? with
 | none => rw [hb] at hj; cases hj
 | some b' =>
   rw [hb] at hj
   dsimp only at hj ⊢
   split at hj
   · cases hj
   · rename_i hl
     split at hj
     · cases hj
     · rename_i hk
       split at hj
       · cases hj
       · rename_i hp
         have hp : Q1r z.h [] t.regs = 0 := Classical.not_not.1 hp
         have hk : Q37 t.regs f.regs.toNat = true := by simpa using hk
         obtain ⟨p1, p2, _, _⟩ := Q6M hp
         have p3 := pass_all hp
         have hrs := rgs_of h.ft.n p1
         obtain ⟨vs, k1, k2⟩ := Q6T h.ft hj
         have hlen := k2.1
         rw [List.length_map] at hlen
         rw [Q4 hrs, Q4 k1, if_neg (by rw [List.length_map]; omega)]
         have hbh := Q2c (Q1V hM h.hf hb).1
         have hfh := Q1x (Q1K hM h.hf)
         have hn := h.ft.n
         have hrl := Q6J h.inv
         -- the new names
         have idx : ∀ r : Int, hasB (Q1s b').h r = true → ∃ q, t.regs[r.toNat]? = some q ∧ hasB z.h q = true ∧ (⟨s.g.f, t.block.toNat, 0, vs, t.regs.map s.g.ρ⟩ : Frm).ρ r = s.g.ρ q := fun r hr => by
          have h1 := (Q2W (by omega) (by omega)).1 hr
          have h2 : t.regs[r.toNat]? = some t.regs[r.toNat] := List.getElem?_eq_getElem (by omega)
          refine ⟨_, h2, p1 _ (List.mem_of_getElem? h2), ?_⟩
          have h3 : (t.regs.map s.g.ρ).getD r.toNat 0 = s.g.ρ (t.regs.getD r.toNat 0) := Q8v (by omega)
          show (t.regs.map s.g.ρ).getD r.toNat 0 = _
          rw [h3, List.getD_eq_getElem?_getD, h2]; rfl
         have up : ∀ (r q : Int), 0 ≤ r → t.regs[r.toNat]? = some q → hasB z.h q = true → (f.regs ≤ r ↔ f.regs ≤ q) := fun r q h0 hq hh => by
          have hqr := Q1Z hh
          constructor
          · intro hr
            refine Classical.byContradiction fun hc => ?_
            have h1 := Q8f hk (i := q.toNat) (by omega)
            rw [show ((q.toNat : Nat) : Int) = q by omega] at h1
            have := Q95 p2 hq h1; omega
          · intro hq2
            refine Classical.byContradiction fun hc => ?_
            have h1 := Q8f hk (i := r.toNat) (by omega)
            rw [hq] at h1; cases h1; omega
         have own : ∀ q, Own f (Q1s b') ⟨s.g.f, t.block.toNat, 0, vs, t.regs.map s.g.ρ⟩ q ↔ Own f z s.g q := fun q => by
          constructor
          · rintro ⟨r, hr, h1, rfl⟩
            obtain ⟨a, h2, h3, h4⟩ := idx r hr
            have h0 := ((Q2W (by omega) (by omega)).1 hr).1
            exact ⟨a, h3, (up r a h0 h2 h3).1 h1, h4.symm⟩
          · rintro ⟨a, ha, h1, rfl⟩
            obtain ⟨i, hi⟩ := List.mem_iff_getElem?.1 (p3 a ha)
            have hil := (List.getElem?_eq_some_iff.1 hi).1
            have hri : hasB (Q1s b').h (i : Int) = true := (Q2W (by omega) (by omega)).2 (by omega)
            obtain ⟨a2, h2, h3, h4⟩ := idx i hri
            rw [Int.toNat_natCast, hi] at h2
            cases h2
            exact ⟨i, hri, (up i a (by omega) (by rw [Int.toNat_natCast]; exact hi) h3).2 h1, h4⟩
         refine ⟨Ψ, f, b', Q1s b', O, h.ty, h.hf, hb, Q5I hR h.hf hb, Q4r hm hM h.hf hb, Qbm (regs := []) (g := s.g) rfl (by omega) (by omega) k2 (fun u hu => Ty.fault_wrong (Q2I hbh.2.2.1 u hu)), ?_, ?_, ?_, fun q => ?_⟩
         · have ek : Q3B f ⟨s.g.f, t.block.toNat, 0, vs, t.regs.map s.g.ρ⟩ = Q3B f s.g := by
            unfold Q3B
            refine List.ext_getElem? fun i => ?_
            by_cases hi : i < f.regs.toNat
            · rw [List.getElem?_take_of_lt hi, List.getElem?_take_of_lt hi, List.getElem?_map, Q8f hk hi]
              unfold Frm.ρ
              rw [List.getElem?_eq_getElem (show i < s.g.regs.length by omega)]
              simp only [Option.map_some, Int.toNat_natCast]
              rw [List.getD_eq_getElem?_getD, List.getElem?_eq_getElem (show i < s.g.regs.length by omega)]; rfl
            · rw [List.getElem?_eq_none (by rw [List.length_take]; omega), List.getElem?_eq_none (by rw [List.length_take]; omega)]
           show Wt m Ψ s.st f (Q3B f ⟨s.g.f, t.block.toNat, 0, vs, t.regs.map s.g.ρ⟩) O
           rw [ek]; exact h.wt
         · intro r q hr hq h1 h2 he
           obtain ⟨a, a1, a2, a3⟩ := idx r hr
           obtain ⟨c, c1, c2, c3⟩ := idx q hq
           have hr0 := ((Q2W (by omega) (by omega)).1 hr).1
           have hq0 := ((Q2W (by omega) (by omega)).1 hq).1
           have hac := h.inj a c a2 c2 ((up r a hr0 a1 a2).1 h1) ((up q c hq0 c1 c2).1 h2) (by rw [← a3, ← c3]; exact he)
           subst hac
           have := Q95 p2 a1 c1; omega
         · exact fun q hq => h.dis q ((own q).1 hq)
         · show s.h.has q = true ↔ _
           rw [h.has]
           exact or_congr (own q).symm Iff.rfl
theorem upTo_get {n i : Nat} (h : i < n) : (upTo n).getD i 0 = i := by
 unfold upTo
 rw [List.getD_eq_getElem?_getD, List.getElem?_map, List.getElem?_range h]; rfl
theorem ints_of {l : List Val} {ts : List Ty} (h : VTs Ψ l ts) (hk : ∀ t ∈ ts, t.kind = 1) : ∃ ns, intsV l = some ns := by
 induction l generalizing ts with
 | nil => exact ⟨[], rfl⟩
 | cons v l ih =>
   cases ts with
   | nil => have := h.1; simp at this
   | cons t ts =>
     have h1 := h.2 0 v t rfl rfl
     obtain ⟨ns, h2⟩ := ih (ts := ts) ⟨by have := h.1; simpa using this, fun i w u hw hu => h.2 (i + 1) w u (by simpa using hw) (by simpa using hu)⟩ (fun u hu => hk u (List.mem_cons_of_mem _ hu))
     exact ⟨v.n :: ns, by rw [intsV, h2]; exact if_pos (by rw [h1.kind]; exact hk t (List.mem_cons_self ..))⟩
/-- Nothing is left. -/
def Qbw (h : HpS) : Prop := ∀ q, h.has q = false
/-- What came of a step: it goes on safely; it ends; it came to its end, and nothing is left. -/
def StE (m : Module) (h : HpS) : Stp → Prop
 | .go s => Q9x m s
 | .halt _ => True
 | .done _ => Qbw h
 | .lost => False
theorem QaI {h : HpS} {r : Stp} (hr : StS m r) (hd : ∀ l, r ≠ .done l) : StE m h r := by
 cases r with
 | go s => exact hr
 | halt e => exact trivial
 | done l => exact absurd rfl (hd l)
 | lost => exact hr
theorem Q1h {α : Type} {o : Option α} {fn : α → Stp} (h : ∀ a l, fn a ≠ .done l) : ∀ l, Q1k o fn ≠ .done l := by
 cases o with
 | none => intro l h; cases h
 | some a => exact h a
theorem Q1t {p : Prop} [Decidable p] {a b : Stp} (h1 : ∀ l, a ≠ .done l) (h2 : ∀ l, b ≠ .done l) : ∀ l, (if p then a else b) ≠ .done l := by
 split
 · exact h1
 · exact h2
theorem Q58 {s : MS} : ∀ l, Stp.go s ≠ .done l := fun l h => by cases h
theorem Q3Y {e : Int} : ∀ l, Stp.halt e ≠ .done l := fun l h => by cases h
theorem Q2L : ∀ l, Stp.lost ≠ .done l := fun l h => by cases h
theorem to_nd {f : Fun} {t : To} : ∀ l, s.to f t ≠ .done l := by
 unfold MS.to
 split
 · exact Q2L
 · exact Q1h fun _ => Q1h fun _ => Q1t Q2L Q58
theorem Qa8 {v : Val} {e : Int} {k : Stp} (h : ∀ l, k ≠ .done l) : ∀ l, Q3y v e k ≠ .done l := Q1t Q2L (Q1t Q3Y (Q1t Q2L h))
theorem Qdp {e : Int} {h : HpS} {v : Val} : ∀ l, s.made e h v ≠ .done l := Q1t Q3Y (Q1t Q2L Q58)
theorem ins_nd {x : Ins} : ∀ l, s.ins m x ≠ .done l := by
 unfold MS.ins
 refine Q1t Q58 (Q1t (Q1h fun _ => Q1h fun _ => Q1t Q3Y Q58) (Q1t (Q1t Q3Y Q58) (Q1t (Q1h fun _ => Q1t Q2L Q58) (Q1t (Q1h fun _ => Q1h fun _ => Qdp)
  (Q1t (Q1h fun _ => Q1t Q2L (Q1t Q2L Q58)) (Q1t (Q1h fun _ => Q1t Q2L (Q1h fun _ => Q1t Q2L Q58)) (Q1t (Q1h fun _ => Q1h fun _ => Q1t Q3Y Qdp)
  (Q1t (Q1h fun _ => Q1h fun _ => Qa8 Q58) (Q1t (Q1h fun _ => Q1h fun _ => Q1h fun _ => Qa8 Q58) (Q1t (Q1h fun _ => Qa8 Q58) (Q1t ?_ (Q1t (Q1h fun _ => Q1t Q3Y Q58) ?_))))))))))))
 · unfold MS.inS
   split
   · exact Q3Y
   · exact Q58
 · unfold MS.call
   split
   · exact Q2L
   · exact Q1h fun _ => Q1h fun _ => Q1t Q2L (Q1t Q3Y Q58)
/-- How it ends is told by a code other than 0. -/
def HzS : Stp → Prop
 | .halt e => e ≠ 0
 | _ => True
theorem Q1j {p : Prop} [Decidable p] {a b : Stp} (h1 : HzS a) (h2 : HzS b) : HzS (if p then a else b) := by
 split
 · exact h1
 · exact h2
theorem Q34 {α : Type} {o : Option α} {fn : α → Stp} (h : ∀ a, HzS (fn a)) : HzS (Q1k o fn) := by
 cases o with
 | none => exact trivial
 | some a => exact h a
theorem hz_h {e : Int} (h : e ≠ 0) : HzS (.halt e) := h
theorem Qao {v : Val} {e : Int} {k : Stp} (h : HzS k) : HzS (Q3y v e k) := Q1j trivial (Q1j (hz_h (by decide)) (Q1j trivial h))
theorem QdL {e : Int} {h : HpS} {v : Val} : HzS (s.made e h v) := Q1j (hz_h (by decide)) (Q1j trivial trivial)
theorem hz_ins {x : Ins} : HzS (s.ins m x) := by
 unfold MS.ins
 refine Q1j trivial (Q1j (Q34 fun _ => Q34 fun _ => Q1j (hz_h (by decide)) trivial) (Q1j (Q1j (hz_h (by decide)) trivial) (Q1j (Q34 fun _ => Q1j trivial trivial) (Q1j (Q34 fun _ => Q34 fun _ => QdL)
  (Q1j (Q34 fun _ => Q1j trivial (Q1j trivial trivial)) (Q1j (Q34 fun _ => Q1j trivial (Q34 fun _ => Q1j trivial trivial)) (Q1j (Q34 fun _ => Q34 fun _ => Q1j (hz_h (by decide)) QdL)
  (Q1j (Q34 fun _ => Q34 fun _ => Qao trivial) (Q1j (Q34 fun _ => Q34 fun _ => Q34 fun _ => Qao trivial) (Q1j (Q34 fun _ => Qao trivial) (Q1j ?_ (Q1j (Q34 fun _ => Q1j (hz_h (by decide)) trivial) ?_))))))))))))
 · unfold MS.inS
   split
   · exact hz_h (by decide)
   · exact trivial
 · unfold MS.call
   split
   · exact trivial
   · exact Q34 fun _ => Q34 fun _ => Q1j trivial (Q1j (hz_h (by decide)) trivial)
theorem hz_to {f : Fun} {t : To} : HzS (s.to f t) := by
 unfold MS.to
 split
 · exact trivial
 · exact Q34 fun _ => Q34 fun _ => Q1j trivial trivial
theorem hz_fin {f : Fun} {e : Tail} : HzS (s.fin f e) := by
 unfold MS.fin
 refine Q1j hz_to (Q1j (Q34 fun _ => Q1j hz_to hz_to) ?_)
 unfold MS.ret
 refine Q34 fun vs => Q1j trivial ?_
 split
 · exact trivial
 · split <;> exact trivial
theorem one_halt {s : MS} {e : Int} (h : s.one m = .halt e) : e ≠ 0 := by
 have h1 : HzS (s.one m) := by
  unfold MS.one
  split
  · exact trivial
  · split
    · exact trivial
    · split
      · exact hz_ins
      · exact hz_fin
 rw [h] at h1; exact h1
theorem safe_ret (hR : m.runs.1 = 0) (hm : m.Short) (h : Safe m Ψ s f b z O) {e : Tail} (hj : ebind (Q45 z e.args f.results (upTo f.regs.toNat)) (fun _ => if f.regs < (Q1B z.h).length then (.error 12 : Except Int Unit) else .ok ()) = .ok ()) : StE m s.h (s.ret f e) := by
 have hM := Q2R hR
 have hfh := Q1x (Q1K hM h.hf)
 have hrl := Q6J h.inv
 have hn := h.ft.n
 obtain ⟨_, h1, hj⟩ := Q7 hj
 split at hj
 · cases hj
 · rename_i hlt
   have hno : ∀ q, ¬ Own f z s.g q := by
    rintro q ⟨r, hr, h2, rfl⟩
    exact hlt ((Q8e h.inv hfh.1).2 ⟨r, mem_heldL.2 hr, h2⟩)
   obtain ⟨vs, k1, k2⟩ := Q6T h.ft h1
   have hwr : ∀ t ∈ f.results, t.wrong 8 f.regs = 0 := fun t ht => Ty.fault_wrong (Q2I hfh.2.2.2.1 t ht)
   have hlen := k2.1
   rw [List.length_map] at hlen
   unfold MS.ret
   rw [Q4 k1, if_neg (by omega)]
   have hw := h.wt
   generalize hkp : Q3B f s.g = kp at hw
   cases hst : s.st with
   | nil =>
     rw [hst] at hw
     dsimp only
     cases hw with
     | nil hf0 =>
       have hfz := Q1K hM hf0
       have hres : ∀ t ∈ f.results, t.kind = 1 := by
        unfold Qz at hfz
        split at hfz
        · cases hfz
        · split at hfz
          · rename_i hh; exact absurd hfz hh
          · split at hfz
            · rename_i hh; exact absurd hfz hh
            · split at hfz
              · cases hfz
              · split at hfz
                · cases hfz
                · rename_i hh
                  intro t ht
                  exact Classical.byContradiction fun hk => hh ⟨rfl, .inr (.inr ⟨t, ht, hk⟩)⟩
       obtain ⟨ns, h2⟩ := ints_of k2 (fun u hu => by
        obtain ⟨t, ht, rfl⟩ := List.mem_map.1 hu
        rw [Ty.rn_kind, Ty.rn_kind]; exact hres t ht)
       rw [h2]
       intro q
       cases hq : s.h.has q with
       | false => rfl
       | true => rcases (h.has q).1 hq with h3 | h3
                 · exact absurd h3 (hno q)
                 · exact h3.elim
   | cons c st =>
     rw [hst] at hw
     dsimp only
     have hhas := h.has
     cases hw with
     | @cons _ _ fc _ bc zc z' x O' hf hb hi ht hx hF hc hg hr hw' hj' hd' =>
       obtain ⟨c1, c2, c3, rfl⟩ := Q4P hc hg
       have hall := Q41 c2
       have hinv := Q5a (x := x) hM hm hi hF (by rw [Q6R hx]; exact hc)
       refine ⟨Ψ, fc, bc, _, O', h.ty, hf, hb, hr, hinv, ⟨ht.n, ?_⟩, hw', hj', hd', fun q => ?_⟩
       · show VTs Ψ (c.vals ++ vs) ((zc.l ++ f.results.map (renT x.regs)).map fun t => t.rn c.regs)
         rw [List.map_append, List.map_map]
         refine VTs.app ht.v ?_
         have e9 : (f.results.map ((fun t : Ty => t.rn c.regs) ∘ renT x.regs)) = f.results.map fun t => (t.rn (upTo f.regs.toNat)).rn s.g.regs := by
          refine List.map_congr_left fun t ht2 => ?_
          have hw8 := hwr t ht2
          have hrg : ∀ r ∈ x.regs, 0 ≤ r ∧ r < zc.h.length := fun r hr => Q1Z (hall r hr)
          obtain ⟨u, hu, _⟩ := Ty.ren_right (n := zc.h.length) (f := x.regs) (fun i hi => by
           rw [List.getD_eq_getElem?_getD, List.getElem?_eq_getElem hi]
           exact hrg _ (List.getElem_mem hi)) t (by rw [c1]; exact hw8)
          have e1 : renT x.regs t = t.rn x.regs := by unfold renT; rw [hu]; exact Ty.rn_of t u hu
          show (renT x.regs t).rn c.regs = _
          rw [e1, Ty.rn_rn (e := x.regs.map c.ρ) (n := f.regs) (fun i hi => by rw [Q8v (by omega)]; rfl) t hw8,
           Ty.rn_rn (e := s.g.regs) (n := f.regs) (fun i hi => by rw [upTo_get (by omega)]; rfl) t hw8]
          refine Ty.rn_congr (n := f.regs) (fun i hi => ?_) t hw8
          rw [← hkp]
          unfold Q3B
          rw [List.getD_eq_getElem?_getD, List.getElem?_take_of_lt (by omega), ← List.getD_eq_getElem?_getD]
         rw [e9]; exact k2
       · show s.h.has q = true ↔ _
         rw [hhas]
         exact ⟨fun hh => hh.elim (fun h3 => absurd h3 (hno q)) id, fun hh => .inr hh⟩
theorem safe_one (hR : m.runs.1 = 0) (hm : m.Short) (h : Q9x m s) : StE m s.h (s.one m) := by
 obtain ⟨Ψ, f, b, z, O, h⟩ := h
 have hM := Q2R hR
 unfold MS.one
 rw [h.hf]
 dsimp only
 rw [h.hb]
 dsimp only
 cases hx : b.code[s.g.i]? with
 | some x =>
   dsimp only
   refine QaI ?_ ins_nd
   by_cases h3 : x.op = 3
   · exact safe_new hM hm h hx h3
   · by_cases h4 : x.op = 4
     · exact Qcz hM hm h hx h4
     · by_cases h14 : x.op = 14
       · exact QcA hR hm h hx h14
       · exact ext_len hM hm h hx h3 h4 h14
 | none =>
   dsimp only
   obtain ⟨he, hj⟩ := h.fin hx
   obtain ⟨e1, e2, e3, e4⟩ := Q4v he
   unfold MS.fin
   by_cases h1 : b.fin.op = 1
   · rw [if_pos h1]
     rw [jend_1 h1] at hj
     have hd : decide (b.fin.op ≠ 3) = true := decide_eq_true (by omega)
     rw [hd] at e3
     exact QaI (Q9P hR hm h hj (Q4l e3).1) to_nd
   · rw [if_neg h1]
     by_cases h2 : b.fin.op = 2
     · rw [if_pos h2]
       rw [Qbg h2] at hj
       obtain ⟨t, g1, hj⟩ := Q7 hj; obtain ⟨u, g2, hj⟩ := Q7 hj
       obtain ⟨n, hn⟩ := Q66 h.ft g1
       have hd : decide (b.fin.op ≠ 3) = true := decide_eq_true (by omega)
       have hd2 : decide (b.fin.op = 2) = true := decide_eq_true h2
       rw [hd] at e3
       rw [hd2] at e4
       rw [Q4 hn]
       split
       · exact QaI (Q9P hR hm h g2 (Q4l e3).1) to_nd
       · exact QaI (Q9P hR hm h hj (Q4l e4).1) to_nd
     · rw [if_neg h2]
       rw [Qbf (by omega)] at hj
       exact safe_ret hR hm h hj
theorem Qcy (h : Q9x m s) : Q9x m s.tick := by
 obtain ⟨Ψ, f, b, z, O, h⟩ := h
 exact ⟨Ψ, f, b, z, O, h.ty, h.hf, h.hb, h.run, h.inv, h.ft, h.wt, h.inj, h.dis, h.has⟩
theorem QbF (hR : m.runs.1 = 0) (hm : m.Short) (inp : List Int) (pages : Int) : Q9x m (MS.start inp pages) := by
 have hM := Q2R hR
 have hl := Q77 hM
 obtain ⟨f, hf⟩ : ∃ f, m.funcs[0]? = some f := ⟨_, List.getElem?_eq_getElem (by omega)⟩
 have hfh := Q1x (Q1K hM hf)
 have hz : f.regs = 0 ∧ f.params = [] := by
  have hfz := Q1K hM hf
  unfold Qz at hfz
  split at hfz
  · cases hfz
  · split at hfz
    · rename_i hh; exact absurd hfz hh
    · split at hfz
      · rename_i hh; exact absurd hfz hh
      · split at hfz
        · cases hfz
        · split at hfz
          · cases hfz
          · rename_i hh
            exact ⟨Classical.byContradiction fun hk => hh ⟨rfl, .inl (by omega)⟩, Classical.byContradiction fun hk => hh ⟨rfl, .inr (.inl (List.length_pos_iff.2 hk))⟩⟩
 obtain ⟨b, hb⟩ : ∃ b, f.blocks[0]? = some b := ⟨_, List.getElem?_eq_getElem (by omega)⟩
 have hbh := Q2c (Q1V hM hf hb).1
 obtain ⟨e1, e2⟩ := hbh.2.2.2.1 rfl
 have hno : ∀ r, hasB (Q1s b).h r = true → False := fun r hr => by have := (Q2W (by omega) (by omega)).1 hr; omega
 refine ⟨fun _ _ => none, f, b, Q1s b, fun _ => False, ⟨fun _ _ _ h => (by cases h), fun _ _ _ h => (by cases h)⟩, hf, hb, Q5I hR hf hb, Q4r hm hM hf hb, ⟨?_, ?_⟩, ?_, ?_, ?_, fun q => ?_⟩
 · show 0 = (List.replicate (min b.regs 16).toNat true).length
   rw [List.length_replicate]; omega
 · show VTs _ [] (b.params.map _)
   rw [e2, hz.2]; exact VTs.nil _
 · show Wt m _ [] f (Q3B f ⟨0, 0, 0, [], []⟩) _
   rw [show Q3B f ⟨0, 0, 0, [], []⟩ = [] from List.take_nil]
   exact .nil hf
 · intro r q hr; exact (hno r hr).elim
 · rintro q ⟨r, hr, _⟩; exact (hno r hr).elim
 · constructor
   · intro hh
     have := Q5K hh
     have hl0 : (MS.start inp pages).h.l.length = 0 := rfl
     omega
   · rintro (⟨r, hr, _⟩ | hh)
     · exact (hno r hr).elim
     · exact hh.elim
/-- What is true of a run of what may be run. -/
def Q8G (m : Module) : Run → Prop
 | .on s => Q9x m s
 | .over s e _ => e = 0 → Qbw s.h
 | .stuck _ => False
theorem halt_nz {s : MS} {e : Int} (h : s.one m = .halt e) : e ≠ 0 := one_halt h
theorem Q86 (hR : m.runs.1 = 0) (hm : m.Short) {most : Nat} {r : Run} (h : Q8G m r) : Q8G m (r.step m most) := by
 cases r with
 | on s =>
   unfold Run.step
   dsimp only
   split
   · intro h0; cases h0
   · have h1 := safe_one hR hm (Qcy h)
     cases hr : s.tick.one m with
     | go t => rw [hr] at h1; exact h1
     | halt e => exact fun h0 => absurd h0 (halt_nz hr)
     | done l => rw [hr] at h1; exact fun _ => h1
     | lost => rw [hr] at h1; exact h1
 | over s e b => exact h
 | stuck f => exact h
theorem QaP (hR : m.runs.1 = 0) (hm : m.Short) {most : Nat} : ∀ (k : Nat) {r : Run}, Q8G m r → Q8G m (Run.steps m most k r)
 | 0, r, h => h
 | k + 1, r, h => QaP hR hm k (Q86 hR hm h)
/-- WHAT MAY BE RUN IS NEVER STUCK. -/
theorem Qad (hR : m.runs.1 = 0) (hm : m.Short) (inp : List Int) (most : Nat) (pages : Int) : (Run.all m inp most pages).flt = (0, 0) := by
 have h := QaP hR hm (most := most) (most + 1) (r := .on (MS.start inp pages)) (QbF hR hm inp pages)
 unfold Run.all
 cases hr : Run.steps m most (most + 1) (.on (MS.start inp pages)) with
 | on s => rfl
 | over s e b => rfl
 | stuck f => rw [hr] at h; exact h.elim
end
end Go.Lir
namespace Go.Lir
def crc4 (c : BitVec 32) : List UInt8 := [UInt8.ofNat c.toNat, UInt8.ofNat (c >>> 8).toNat, UInt8.ofNat (c >>> 16).toNat, UInt8.ofNat (c >>> 24).toNat]
def Module.enc (m : Module) : List UInt8 := m.body ++ crc4 (crcOf m.body)
end Go.Lir
namespace Go.Lir
section
variable {bs : List UInt8} {at0 i u : Nat} {x : UInt8} {X : Got Nat}
end
end Go.Lir
namespace Go.Lir
section
variable {α : Type}
variable {f : List UInt8 → Got α} {N k n0 : Nat} {n : Int} {xs : List α} {r r1 r2 r3 : List UInt8} {a : α} {e : Flt} {X : Got (List α)}
end
end Go.Lir
namespace Go.Lir
section
variable {bs r : List UInt8} {N : Nat} {e : Flt} {l : List Fun}
end
end Go.Lir
namespace Go.Lir
set_option linter.unusedVariables false
section
variable {α β : Type} {M n : Nat}
def Goodp (M : Nat) (f : List UInt8 → Got α) (p : α → Prop) : Prop := ∀ r x r', r.length ≤ M → f r = .ok (x, r') → p x ∧ r'.length ≤ r.length
theorem Goodp.weak {f : List UInt8 → Got α} {p q : α → Prop} (h : Goodp M f p) (hq : ∀ x, p x → q x) : Goodp M f q := fun r x r' h1 h2 => ⟨hq x (h r x r' h1 h2).1, (h r x r' h1 h2).2⟩
end
end Go.Lir
namespace Go.Lir
section
variable {n : Nat} {r r1 r2 r3 r4 : List UInt8} {e : Flt} {op a : Int} {yes no : To} {l : List Int}
variable {h j : Nat} {x : Int × Int × Int × Int} {y : Int} {X : Got (Int × Int × Int × Int)}
end
end Go.Lir
namespace Go.Lir
set_option linter.unusedVariables false
section
variable {α : Type} {n : Nat}
def InI (x : Int) : Prop := -9223372036854775808 ≤ x ∧ x ≤ 9223372036854775807
def Qbx (l : List Int) : Prop := l.length ≤ 9000000000000000000 ∧ ∀ x ∈ l, InI x
def ToOK (t : To) : Prop := InI t.block ∧ Qbx t.regs ∧ Qbx t.args
def InsOK (x : Ins) : Prop := (InI x.op ∧ InI x.a ∧ InI x.b ∧ InI x.c ∧ InI x.k ∧ InI x.n) ∧ ((¬ Q2M x.op / 2 ^ 0 % 2 = 1 → x.a = 0) ∧ (¬ Q2M x.op / 2 ^ 1 % 2 = 1 → x.b = 0) ∧ (¬ Q2M x.op / 2 ^ 2 % 2 = 1 → x.c = 0) ∧ (¬ Q2M x.op / 2 ^ 3 % 2 = 1 → x.k = 0)) ∧
 (¬ Q2M x.op / 64 % 2 = 1 → x.n = 0) ∧ (¬ Q2M x.op / 16 % 2 = 1 → x.regs = []) ∧ (¬ Q2M x.op / 32 % 2 = 1 → x.args = []) ∧ Qbx x.regs ∧ Qbx x.args
end
end Go.Lir
namespace Go.Lir
set_option linter.unusedVariables false
variable {α : Type}
/-- A kind of data of which more is known. -/
def Rep.an (r : Rep α) (p : α → Prop) : Rep α where
 es := r.es
 pos := r.pos
 R := fun H K cs x => r.R H K cs x ∧ p x
 len := fun h => r.len h.1
 one := fun h => r.one h.1
 turn := fun h hs => ⟨r.turn h.1 hs, h.2⟩
def To.InR (t : To) : Prop := InI t.block ∧ (∀ n ∈ t.regs, InI n) ∧ ∀ n ∈ t.args, InI n
def Ins.InR (x : Ins) : Prop := (InI x.op ∧ InI x.a ∧ InI x.b ∧ InI x.c ∧ InI x.k ∧ InI x.n) ∧ (∀ n ∈ x.regs, InI n) ∧ ∀ n ∈ x.args, InI n
def Tail.InR (x : Tail) : Prop := InI x.op ∧ InI x.a ∧ x.yes.InR ∧ x.no.InR ∧ ∀ n ∈ x.args, InI n
def Block.InR (x : Block) : Prop := InI x.regs ∧ (∀ t ∈ x.params, t.InR) ∧ (∀ i ∈ x.code, i.InR) ∧ x.fin.InR
def Fun.InR (x : Fun) : Prop := InI x.regs ∧ (∀ t ∈ x.params, t.InR) ∧ (∀ t ∈ x.results, t.InR) ∧ ∀ b ∈ x.blocks, b.InR
def Module.InR (m : Module) : Prop := ∀ f ∈ m.funcs, f.InR
section
variable {P : Program} {T e : TypeId}
end
/-! ### of the right form: read as written -/
/-! ### few parts are short lists -/
theorem Q6C {m : Module} (h : m.Few) : m.Short := by
 refine ⟨by have := h.1; omega, fun f hf => ?_⟩
 obtain ⟨h1, h2, h3, h4⟩ := h.2 f hf
 refine ⟨Tys.Short.of_great h1, Tys.Short.of_great h2, by omega, fun b hb => ?_⟩
 obtain ⟨g1, g2, g3, ⟨⟨g4, g5⟩, ⟨g6, g7⟩, g8⟩⟩ := h4 b hb
 exact ⟨Tys.Short.of_great g1, by omega, fun x hx => ⟨by have := (g3 x hx).1; omega, by have := (g3 x hx).2; omega⟩, ⟨by omega, by omega⟩, ⟨by omega, by omega⟩, by omega⟩
end Go.Lir
namespace Go.Proofs.YteflkifmgnpbhaaGreat
open Go.Lir

end Go.Proofs.YteflkifmgnpbhaaGreat
namespace Go.Proofs.YteflkifmgnpbhaaGreat
open Go.Lir
set_option maxHeartbeats 1000000
attribute [local irreducible] LC.wp Q2 QD QF retQ Q1a LO.wp Qf Calls
set_option linter.unusedSimpArgs false
set_option linter.unusedVariables false
attribute [local irreducible] hasB Q1B Q1r Q1y
variable {cx : Cx} {w : World} {L : List Res}
def heldR (hp : Nat) (h : List Bool) : Res := Res.ex fun v => star (blk hp 296 [v]) (sl 4 1 v (h.map Q1Q))
theorem QdP {hp : Nat} {h : List Bool} {v : Value} (hS : St cx w (blk hp 296 [v] :: sl 4 1 v (h.map Q1Q) :: L)) : St cx w (heldR hp h :: L) := St.ex' v hS.star'
end Go.Proofs.YteflkifmgnpbhaaGreat
namespace Go.Proofs.YteflkifmgnpbhaaGreat
open Go.Lir
set_option maxHeartbeats 1000000
attribute [local irreducible] LC.wp Q2 QD QF retQ Q1a LO.wp Qf Calls
set_option linter.unusedSimpArgs false
set_option linter.unusedVariables false
theorem QaT {k r : Int} {l : List Ty} {to : List Int} (h : k ≠ 1 ∧ (r < 0 ∨ (to.length : Int) ≤ r)) : Ty.ren (.mk k r l) to = none := by
 rw [Ty.ren, if_pos (by omega)]
theorem Qa0 {k r x : Int} {l : List Ty} {to : List Int} (hk : k ≠ 1) (hx : to[r.toNat]? = some x) (h : x < 0) : Ty.ren (.mk k r l) to = none := by
 rw [Ty.ren, if_pos ⟨hk, .inr (.inr (by rw [List.getD_eq_getElem?_getD, hx]; exact h))⟩]
theorem ren_one {k r : Int} {l : List Ty} {to : List Int} (h : k = 1) : Ty.ren (.mk k r l) to = (Tys.ren l to).map (Ty.mk k r) := by
 subst h
 rw [Ty.ren, if_neg (by omega)]
 cases Tys.ren l to <;> rfl
theorem ren_to {k r x : Int} {l : List Ty} {to : List Int} (hk : k ≠ 1) (h0 : 0 ≤ r) (h1 : r < to.length) (hx : to[r.toNat]? = some x) (h : 0 ≤ x) : Ty.ren (.mk k r l) to = (Tys.ren l to).map (Ty.mk k x) := by
 have hd : to.getD r.toNat 0 = x := by rw [List.getD_eq_getElem?_getD, hx]; rfl
 rw [Ty.ren, if_neg (by omega), hd]
 cases Tys.ren l to with
 | none => rfl
 | some m => simp [hk]
theorem Q8Y {l us : List Ty} {to : List Int} {j : Nat} {x : Ty} (hd : Tys.ren l to = (Tys.ren (l.drop j) to).map (us ++ ·)) (hx : l[j]? = some x) (hn : x.ren to = none) : Tys.ren l to = none := by
 rw [hd, Q3 hx, Tys.ren, hn]; rfl
theorem Qd8 {l us : List Ty} {to : List Int} {j : Nat} {x y : Ty} (hd : Tys.ren l to = (Tys.ren (l.drop j) to).map (us ++ ·)) (hx : l[j]? = some x) (hn : x.ren to = some y) : Tys.ren l to = (Tys.ren (l.drop (j + 1)) to).map ((us ++ [y]) ++ ·) := by
 rw [hd, Q3 hx, Tys.ren, hn]
 cases Tys.ren (l.drop (j + 1)) to <;> simp
theorem rens_all {l us : List Ty} {to : List Int} {j : Nat} (hd : Tys.ren l to = (Tys.ren (l.drop j) to).map (us ++ ·)) (hj : l.length ≤ j) : Tys.ren l to = some us := by
 rw [hd, List.drop_of_length_le hj, Tys.ren]; simp
theorem QcW : ∀ (t : Ty), t.Short → ∀ {cx : Cx} {w : World} {L : List Res} {cs : List Value} {v2 : Value} {to : List Int}, tyR.at cx cs t → intR.sl cx v2 to → St cx w L →
 Rets Tryz.prog Qeb [.agg ⟨cs⟩, v2] w fun u w' => ∃ c' ds, u = .tuple #[.agg ⟨ds⟩, .bool (t.ren to).isSome] ∧ cx.Le c' ∧ tyR.at c' ds ((t.ren to).getD (.mk 0 0 [])) ∧ St c' w' L := by
 intro t
 induction t using Ty.ind with
 | h k r l ih =>
   intro hs cx w L cs v2 to ht hto hS
   obtain ⟨v, rfl, hl⟩ := Qr ht
   simp only [Ty.kind, Ty.r, Ty.l] at hl ht ⊢
   obtain ⟨hlen, hsub⟩ := hs.parts
   have hle := St.refl hS
   all_goals refine lgo tyD Tryz.func155 ?_
   all_goals (refine Q0 ?_; refine Q1 ?_; refine zb hS ?_; intro p2 w1 hS; refine Q5 hS ?_; intro p4 w1 hS; refine zm ?_; refine zn ?_; refine Q0 ?_; refine Q1 ?_; refine zf0 ?_; refine zl hS ?_; refine zf0 ?_; refine zl hS ?_; refine zb2 [_, _, _] ?_; refine Q5 hS ?_; intro p6 w1 hS; refine zsn hS ?_; intro w1 hS; have hS := hS.ns; refine zn ?_)
   refine zM [1, 2, 4, 6] (fun A ρ' w' => ∃ (r2 : Int), Has ρ' A ∧ Has ρ' [] ∧ (Ty.ren (.mk k r l) to = (Tys.ren l to).map (Ty.mk k r2)) ∧ St cx w' (blk p6 115 [.int .i64 k, .int .i64 r2, .slice none 0 0] :: blk p4 115 [.int .i64 0, .int .i64 0, .slice none 0 0] :: blk p2 115 [.int .i64 k, .int .i64 r, v] :: L)) ?_ ?_
   · skip
     all_goals (refine Q0 ?_; refine Q1 ?_; refine zf0 ?_; refine zl hS ?_)
     all_goals (first | (refine QJ ?_) | (refine QN ?_) | (refine Ql rfl rfl (fun hc => ?_) (fun hc => ?_)))
     all_goals (refine zn ?_)
     all_goals
      first
      | (refine zct ?_
         all_goals (refine Q0 ?_; refine Q0 ?_; refine Q1 ?_; refine zf0 ?_; refine zl hS ?_)
         all_goals (first | (refine Q18 ?_) | (refine Q1c ?_) | (refine Qy rfl rfl (fun hc => ?_) (fun hc => ?_)))
         all_goals (refine zm ?_; (first | refine zgn ?_ | (refine zgy ?_; refine zf0 ?_)); (first | refine zgn ?_ | (refine zgy ?_; refine zl hS ?_)); (first | refine zgn ?_ | (refine zgy ?_; refine zm ?_)); (first | refine zgn ?_ | (refine zgy ?_; refine zL ?_)))
         all_goals (first | refine zgn ?_ | (refine zgy ?_; (first | (refine Q2v ?_) | (refine Q2P ?_) | (refine Q1p rfl rfl (fun hc => ?_) (fun hc => ?_)))))
         all_goals ((first | (refine zpt ?_) | (refine zpf ?_)); refine zn ?_)
         all_goals
          first
          | (refine zct ?_
             all_goals (refine Q0 ?_; refine Q1 ?_; refine zb0 [_, _, _] ?_; refine zsn hS ?_; intro w1 hS; have hS := hS.ns; refine zm ?_; refine zn ?_; refine zr ?_; refine QV vw (Q6 (n := 3) (by kernel_rfl) (by kernel_rfl) (hS.blkAt fd) (by rfl) (by rfl)) vw ?_)
             all_goals (rw [QaT (by omega)]; exact ⟨_, rfl, _, _, rfl, hle, Q2C (Rep.SR.nil _ _ _), hS.sp⟩))
          | (refine zcf ?_
             all_goals refine zsk ?_)
         all_goals (refine Q0 ?_; refine Q0 ?_; refine Q1 ?_; refine zm ?_; refine zf0 ?_; refine zl hS ?_; (first | refine zi ?_ | refine zj ?_); intro b1 o1 cs1 x1 hat1 hx1 he1; obtain rfl := Q11 he1; (first | (refine zl hS ?_) | (refine zlk hS ?_)))
         all_goals (first | (refine Q18 ?_) | (refine Q1c ?_) | (refine Qy rfl rfl (fun hc => ?_) (fun hc => ?_)))
         all_goals (refine zn ?_)
         all_goals
          first
          | (refine zct ?_
             all_goals (refine Q0 ?_; refine Q1 ?_; refine zb0 [_, _, _] ?_; refine zsn hS ?_; intro w1 hS; have hS := hS.ns; refine zm ?_; refine zn ?_; refine zr ?_; refine QV vw (Q6 (n := 3) (by kernel_rfl) (by kernel_rfl) (hS.blkAt fd) (by rfl) (by rfl)) vw ?_)
             all_goals (first | (rw [QaT (by omega)]; exact ⟨_, rfl, _, _, rfl, hle, Q2C (Rep.SR.nil _ _ _), hS.sp⟩) | (rw [Qa0 (by omega) hx1 (by omega)]; exact ⟨_, rfl, _, _, rfl, hle, Q2C (Rep.SR.nil _ _ _), hS.sp⟩)))
          | (refine zcf ?_
             all_goals refine zsk ?_)
         all_goals (refine Q1 ?_; refine zm ?_; refine zf0 ?_; refine zl hS ?_; (first | refine zi ?_ | refine zj ?_); intro b2 o2 cs2 x2 hat2 hx2 he2; obtain rfl := Q11 he2; (first | (refine zl hS ?_) | (refine zlk hS ?_)); refine zf0 ?_; refine zst hS ?_; intro w1 hS; have hS := hS.ns)
         all_goals refine zn ?_)
      | (refine zcf ?_
         all_goals refine zsk ?_)
     all_goals ((first | (exact ⟨_, zh, zh, ren_to (by omega) (by omega) (by omega) hx2 (by have h9 := Option.some.inj (hx1.symm.trans hx2); omega), hS.sp⟩) | (exact ⟨_, zh, zh, ren_one (by omega), hS.sp⟩)))
   rintro ρ w1 ⟨r2, hA, hρ, hr, hS⟩; obtain ⟨ρ, rfl⟩ := env2 hA hρ
   all_goals (refine Q0 ?_; refine Q0 ?_; refine Q1 ?_; refine zm ?_; refine zn ?_; refine Q9 ?_)
   refine zo [1, 2, 4, 6] (fun A ρ' w' => ∃ (k0 : Cx) (j : Nat) (u : Value) (css : List (List Value)) (us : List Ty), Has ρ' A ∧ Has ρ' [(7, .int .i64 j)] ∧ (cx.Le k0) ∧ (j ≤ l.length) ∧ (us.length = j) ∧ (Tys.ren l to = (Tys.ren (l.drop j) to).map (us ++ ·)) ∧ (tyR.ls k0 css us) ∧ (oneC u = true) ∧ St k0 w' (sl 115 3 u css :: blk p6 115 [.int .i64 k, .int .i64 r2, u] :: blk p4 115 [.int .i64 0, .int .i64 0, .slice none 0 0] :: blk p2 115 [.int .i64 k, .int .i64 r, v] :: L)) (fun ρ' _ => (l.length - iv (ρ' 7)).toNat) ?_ ?_
   · exact ⟨cx, 0, .slice none 0 0, [], [], zh, zh, St.refl hS, (by omega), rfl, by simp, Rep.LR.nil _ _ _, rfl, by have hS := hS.nil (T := 115) (es := 3); exact hS.sp⟩
   rintro ρ w1 ⟨k0, j, u, css, us, hA, hρ, hle2, hj, hus, hd, hls, hu, hS⟩; obtain ⟨ρ, rfl⟩ := env2 hA hρ; have hL0 := hle2; (try have hle := hle.trans hle2); (try have hl := hl.up hle2); (try have hto := hto.up hle2)
   all_goals (refine Q0 ?_; refine Q0 ?_; refine Q1 ?_; refine zm ?_; refine zf0 ?_; refine zl hS ?_; refine zL ?_; refine QA rfl rfl ?_; refine zn ?_)
   refine Qq rfl (fun hc => ?_) (fun hc => ?_)
   · skip
     all_goals (refine zsk ?_; refine Q0 ?_; refine Q9 ?_; refine Q0 ?_; refine Q1 ?_; refine zf0 ?_; refine zl hS ?_; refine zm ?_; refine zi ?_; intro b3 o3 cs3 x3 hat3 hx3 he3; obtain ⟨vl3, rfl, hl3⟩ := Qr he3; (first | (refine zv hS ?_) | (refine zvk hS ?_)); refine zm ?_)
     all_goals (refine zR2 (c := ih _ (List.mem_of_getElem? hx3) (hsub _ (List.mem_of_getElem? hx3)) he3 hto hS) (h := ?_); rintro v1 w1 ⟨c1, ds, rfl, hle2, hd1, hS⟩; obtain ⟨y, hy⟩ : ∃ y, (x3.ren to).getD (.mk 0 0 []) = y := ⟨_, rfl⟩; rw [hy] at hd1; obtain ⟨v7, rfl, hv7⟩ := Qr hd1; (try have hle := hle.trans hle2); (try have hL0 := hL0.trans hle2); (try have hl := hl.up hle2); (try have hl3 := hl3.up hle2); (try have he3 := he3.up hle2); (try have hls := hls.up hle2); (try have hto := hto.up hle2); cases hg : x3.ren to)
     all_goals (refine zm ?_; refine zxt ?_; refine zxt ?_; refine Q5 hS ?_; intro p8 w1 hS; refine zsn hS ?_; intro w1 hS; have hS := hS.ns; refine zm ?_; refine zn ?_; refine Q0 ?_; refine Q0 ?_; refine Q1 ?_; refine zm ?_; refine znt ?_; refine zn ?_)
     all_goals
      first
      | (refine zct ?_
         all_goals (refine Q0 ?_; refine Q1 ?_; refine zb0 [_, _, _] ?_; refine zsn hS ?_; intro w1 hS; have hS := hS.ns; refine zm ?_; refine zn ?_; refine zr ?_; refine QV vw (Q6 (n := 3) (by kernel_rfl) (by kernel_rfl) (hS.blkAt fd) (by rfl) (by rfl)) vw ?_)
         all_goals (first | (rw [QaT (by omega)]; exact ⟨_, rfl, _, _, rfl, hle, Q2C (Rep.SR.nil _ _ _), hS.sp⟩) | (rw [Qa0 (by omega) hx1 (by omega)]; exact ⟨_, rfl, _, _, rfl, hle, Q2C (Rep.SR.nil _ _ _), hS.sp⟩) | (rw [hr, Q8Y hd hx3 hg]; exact ⟨_, rfl, _, _, rfl, hle, Q2C (Rep.SR.nil _ _ _), hS.sp⟩)))
      | (refine zcf ?_
         all_goals refine zsk ?_)
     all_goals (refine Q1 ?_; refine zf0 ?_; refine zl hS ?_; refine zv hS ?_; refine zB1 hS [_, _, _] ?_; intro b1 w1 hS; refine za Q5q Q7W hS ?_; intro vp1 w1 css1 hls1 hv1 hS; have hS := hS.ns; refine zf0 ?_; refine zst hS ?_; intro w1 hS; have hS := hS.ns; refine zn ?_; refine Q1 ?_; refine zm ?_; refine zad ?_; refine zm ?_; refine zn ?_; exact ⟨⟨_, j + 1, _, _, us ++ [y], zh, zh, hL0, (by omega), by simp [hus], Qd8 hd hx3 (by rw [hg, ← hy, hg]; rfl), by assumption, by assumption, hS.sp⟩, Qs (by omega)⟩)
   · skip
     all_goals (refine zex ?_; refine Q0 ?_; refine Q1 ?_; refine zv hS ?_; refine zsn hS ?_; intro w1 hS; have hS := hS.ns; refine zm ?_; refine zn ?_; refine zr ?_; refine QV vw (Q6 (n := 3) (by kernel_rfl) (by kernel_rfl) (hS.blkAt fd) (by rfl) (by rfl)) vw ?_; (first | (rw [QaT (by omega)]; exact ⟨_, rfl, _, _, rfl, hle, Q2C (Rep.SR.nil _ _ _), hS.sp⟩) | (rw [Qa0 (by omega) hx1 (by omega)]; exact ⟨_, rfl, _, _, rfl, hle, Q2C (Rep.SR.nil _ _ _), hS.sp⟩) | (rw [hr, Q8Y hd hx3 hg]; exact ⟨_, rfl, _, _, rfl, hle, Q2C (Rep.SR.nil _ _ _), hS.sp⟩) | (rw [hr, rens_all hd (by omega)]; obtain ⟨c3, hle3, hS, hl3⟩ := St.freezeL (r := tyR) (l := us) (T := 115) (es := 3) (v := u) (css := css) (L := L) hS.sp hls rfl (by omega); exact ⟨_, rfl, c3, _, rfl, hle.trans hle3, Q2C hl3, hS⟩)))
end Go.Proofs.YteflkifmgnpbhaaGreat
namespace Go.Proofs.YteflkifmgnpbhaaGreat
open Go.Lir
set_option maxHeartbeats 1000000
attribute [local irreducible] LC.wp Q2 QD QF retQ Q1a LO.wp Qf Calls
set_option linter.unusedSimpArgs false
set_option linter.unusedVariables false
attribute [local irreducible] hasB Q1B Q1r Q1y
section
variable {P : Program} {l : List GO} {Q : QT} {ρ : Env}
variable {cx : Cx} {w : World} {L : List Res}
/-- A judge: where it lies, and what of it stays. -/
structure JP where
 sp : Nat
 hp : Nat
 f : Fun
 vm : Value
 vp : Value
 vr : Value
 vb : Value
structure JP.Fits (j : JP) (cx : Cx) (m : Module) : Prop where
 m : funcR.sl cx j.vm m.funcs
 p : tyR.sl cx j.vp j.f.params
 r : tyR.sl cx j.vr j.f.results
 b : blockR.sl cx j.vb j.f.blocks
theorem JP.Fits.up {j : JP} {cx cx' : Cx} {m : Module} (h : j.Fits cx m) (hle : cx.Le cx') : j.Fits cx' m := ⟨h.m.up hle, h.p.up hle, h.r.up hle, h.b.up hle⟩
@[reducible] def JP.cells (j : JP) (vl : Value) : List Value := [.pointer (some ⟨j.hp, 0, none⟩), j.vm, .int .i64 j.f.regs, j.vp, j.vr, j.vb, vl]
def JP.res (j : JP) (h : List Bool) (vl : Value) (css : List (List Value)) : Res := star (blk j.sp 258 (j.cells vl)) (star (heldR j.hp h) (sl 115 3 vl css))
variable {j : JP} {h : List Bool} {vl : Value} {css : List (List Value)}
end
variable {cx : Cx} {w : World} {L : List Res} {j : JP} {h : List Bool} {vl : Value} {css : List (List Value)} {i : Nat} {m : Module}
/-! ### Giving up -/
end Go.Proofs.YteflkifmgnpbhaaGreat
namespace Go.Proofs.YteflkifmgnpbhaaGreat
open Go.Lir
set_option maxHeartbeats 1000000
attribute [local irreducible] LC.wp Q2 QD QF retQ Q1a LO.wp Qf Calls
set_option linter.unusedSimpArgs false
set_option linter.unusedVariables false
attribute [local irreducible] hasB Q1B Q1r Q1y
variable {cx : Cx} {w : World} {L : List Res} {j : JP} {h : List Bool} {vl : Value} {css : List (List Value)} {i : Nat} {m : Module}
theorem jregs_b {h : List Bool} {p l : List Int} {q : Nat} {x : Int} (hx : l[q]? = some x) (hd : Q2p h [] l = Q2p h (l.take q) (l.drop q)) (hb : hasB h x = false) : Q2p h [] l = .error 10 := by
 rw [hd, Q3 hx, Q2p, if_pos hb]
theorem jregs_t {h : List Bool} {l : List Int} {q : Nat} {x : Int} (hx : l[q]? = some x) (hd : Q2p h [] l = Q2p h (l.take q) (l.drop q)) (hb : hasB h x = true) (ht : x ∈ l.take q) : Q2p h [] l = .error 13 := by
 rw [hd, Q3 hx, Q2p, if_neg (by rw [hb]; decide), if_pos ht]
theorem jregs_s {h : List Bool} {l : List Int} {q : Nat} {x : Int} (hx : l[q]? = some x) (hd : Q2p h [] l = Q2p h (l.take q) (l.drop q)) (hb : hasB h x = true) (ht : x ∉ l.take q) : Q2p h [] l = Q2p h (l.take (q + 1)) (l.drop (q + 1)) := by
 rw [hd, Q3 hx, Q2p, if_neg (by rw [hb]; decide), if_neg ht, Q1U hx]
theorem jregs_z {h : List Bool} {l : List Int} {q : Nat} (hd : Q2p h [] l = Q2p h (l.take q) (l.drop q)) (hq : l.length ≤ q) : Q2p h [] l = .ok () := by
 rw [hd, List.drop_of_length_le hq, Q2p]
end Go.Proofs.YteflkifmgnpbhaaGreat
namespace Go.Proofs.YteflkifmgnpbhaaGreat
open Go.Lir
set_option maxHeartbeats 1000000
attribute [local irreducible] LC.wp Q2 QD QF retQ Q1a LO.wp Qf Calls
set_option linter.unusedSimpArgs false
set_option linter.unusedVariables false
attribute [local irreducible] hasB Q1B Q1r Q1y
variable {cx : Cx} {w : World} {L : List Res} {j : JP} {h : List Bool} {vl : Value} {css : List (List Value)} {i : Nat} {m : Module}
theorem Q69 {n : Nat} {x : Ins} (h : Qw n x = 0) : Q1b n x = 0 := by
 unfold Qw at h
 split at h
 · cases h
 · split at h
   · cases h
   · exact h
theorem QdI {n : Nat} {x : Ins} (h : Qw n x = 0) (ho : x.op = 6 ∨ x.op = 7) : 0 ≤ x.k := by
 have h := Q69 h
 unfold Q1b at h
 rcases ho with ho | ho <;> simp [ho] at h <;> omega
theorem QdH {n : Nat} {x : Ins} (h : Qw n x = 0) (ho : x.op = 14) : 0 ≤ x.k ∧ x.k < n := by
 have h := Q69 h
 unfold Q1b at h
 simp [ho] at h; omega
end Go.Proofs.YteflkifmgnpbhaaGreat
namespace Go.Proofs.YteflkifmgnpbhaaGreat
open Go.Lir
set_option maxHeartbeats 1000000
attribute [local irreducible] LC.wp Q2 QD QF retQ Q1a LO.wp Qf Calls
set_option linter.unusedSimpArgs false
set_option linter.unusedVariables false
attribute [local irreducible] hasB Q1B Q1r Q1y Q37 upTo
variable {cx : Cx} {w : World} {L : List Res} {j : JP} {h : List Bool} {vl : Value} {css : List (List Value)} {i : Nat} {m : Module}
end Go.Proofs.YteflkifmgnpbhaaGreat
namespace Go.Proofs.YteflkifmgnpbhaaGreat
open Go.Lir
set_option maxHeartbeats 1000000
attribute [local irreducible] LC.wp Q2 QD QF retQ Q1a LO.wp Qf Calls
set_option linter.unusedSimpArgs false
set_option linter.unusedVariables false
attribute [local irreducible] hasB Q1B Q1r Q1y Q37 upTo
variable {cx : Cx} {w : World} {L : List Res} {j : JP} {h : List Bool} {vl : Value} {css : List (List Value)} {i : Nat} {m : Module}
end Go.Proofs.YteflkifmgnpbhaaGreat
namespace Go.Proofs.YteflkifmgnpbhaaGreat
open Go.Lir
set_option maxHeartbeats 1000000
attribute [local irreducible] LC.wp Q2 QD QF retQ Q1a LO.wp Qf Calls
set_option linter.unusedSimpArgs false
set_option linter.unusedVariables false
attribute [local irreducible] hasB Q1B Q1r Q1y Q37 upTo Module.fault
variable {cx : Cx} {w : World} {L : List Res} {j : JP} {h : List Bool} {vl : Value} {css : List (List Value)} {i : Nat} {m : Module}
theorem JP.shut {v : Value} (hS : St cx w (blk j.sp 258 (j.cells vl) :: blk j.hp 296 [v] :: sl 4 1 v (h.map Q1Q) :: sl 115 3 vl css :: L)) : St cx w (j.res h vl css :: L) := by
 have h1 : St cx w (heldR j.hp h :: sl 115 3 vl css :: blk j.sp 258 (j.cells vl) :: L) := QdP (hS.perm (by
  refine List.Perm.trans (List.Perm.swap _ _ _) (List.Perm.cons _ ?_)
  refine List.Perm.trans (List.Perm.swap _ _ _) (List.Perm.cons _ ?_)
  exact List.Perm.swap _ _ _))
 exact St.star' (St.mv1 (St.star' h1))
end Go.Proofs.YteflkifmgnpbhaaGreat
namespace Go.Proofs.YteflkifmgnpbhaaGreat
open Go.Lir
set_option maxHeartbeats 1000000
attribute [local irreducible] LC.wp Q2 QD QF retQ Q1a LO.wp Qf Calls
set_option linter.unusedSimpArgs false
set_option linter.unusedVariables false
attribute [local irreducible] hasB Q1B Q1r Q3j Q1y
variable {cx : Cx} {w : World} {L : List Res}
def Q4A (hp : Nat) (h : List Bool) : Res := Res.ex fun v => star (blk hp 163 [v]) (sl 4 1 v (h.map Q1Q))
theorem Q35 {hp : Nat} {h : List Bool} (hS : St cx w (Q4A hp h :: L)) : ∃ v, St cx w (blk hp 163 [v] :: sl 4 1 v (h.map Q1Q) :: L) := by
 obtain ⟨v, hS⟩ := St.ex hS
 exact ⟨v, hS.star⟩
theorem Q2J {hp : Nat} {h : List Bool} {v : Value} (hS : St cx w (blk hp 163 [v] :: sl 4 1 v (h.map Q1Q) :: L)) : St cx w (Q4A hp h :: L) := St.ex' v hS.star'
theorem rhas_u {hp : Nat} {h : List Bool} {v : Value} {r : Int} (hS : St cx w (blk hp 163 [v] :: sl 4 1 v (h.map Q1Q) :: L)) :
 Rets Tryz.prog Q7i [.pointer (some ⟨hp, 0, none⟩), .int .i64 r] w fun u w' => u = .bool (hasB h r) ∧ St cx w' (blk hp 163 [v] :: sl 4 1 v (h.map Q1Q) :: L) := by
 have hlen : (h.map Q1Q).length = h.length := List.length_map _
 all_goals refine lgo tyD Tryz.func153 ?_
 all_goals (refine Q0 ?_; refine Q1 ?_; refine zm ?_; refine zn ?_; refine Q0 ?_; refine Q1 ?_; refine zm ?_)
 all_goals (first | (refine Q2v ?_) | (refine Q2P ?_) | (refine Q1p rfl rfl (fun hc => ?_) (fun hc => ?_)))
 all_goals (refine zm ?_; (first | refine zgn ?_ | (refine zgy ?_; refine zm ?_)); (first | refine zgn ?_ | (refine zgy ?_; refine zm ?_)); (first | refine zgn ?_ | (refine zgy ?_; refine znc ?_)); (first | refine zgn ?_ | (refine zgy ?_; refine zf0 ?_)); (first | refine zgn ?_ | (refine zgy ?_; (first | (refine Q1A hS hel1 rfl nth1 (Q3m Q1Q h false (by omega)) rfl ?_) | (refine zl hS ?_)))); (first | refine zgn ?_ | (refine zgy ?_; (first | (refine zL ?_) | (refine zLe hS ?_)))))
 all_goals (first | refine zgn ?_ | (refine zgy ?_; (first | (refine Q18 ?_) | (refine Q1c ?_) | (refine Qy rfl rfl (fun hc => ?_) (fun hc => ?_)))))
 all_goals ((first | (refine zpt ?_) | (refine zpf ?_)); refine zm ?_; (first | refine zgn ?_ | (refine zgy ?_; refine zm ?_)); (first | refine zgn ?_ | (refine zgy ?_; refine znc ?_)); (first | refine zgn ?_ | (refine zgy ?_; refine zf0 ?_)); (first | refine zgn ?_ | (refine zgy ?_; (first | (refine Q1A hS hel1 rfl nth1 (Q3m Q1Q h false (by omega)) rfl ?_) | (refine zl hS ?_)))); (first | refine zgn ?_ | (refine zgy ?_; refine zm ?_)); (first | refine zgn ?_ | (refine zgy ?_; (first | ((first | refine zi ?_ | refine zj ?_); intro b1 o1 cs1 x1 hat1 hx1 he1; obtain rfl := Q11 he1) | (refine zie hS ?_; intro b1 o1 hel1) | (refine zij hS ?_; intro b1 o1 hel1)))); (first | refine zgn ?_ | (refine zgy ?_; (first | (refine Q1A hS hel1 rfl nth1 (Q3m Q1Q h false (by omega)) rfl ?_) | (refine zl hS ?_) | (refine zlk hS ?_) | (refine zlj hS ?_) | (refine zli hS ?_) | (refine zlb hS ?_)))); (first | (refine zpt ?_) | (refine zpf ?_)); refine zm ?_; refine zn ?_; refine zr ?_; refine zf ?_; (first | (refine ⟨_, rfl, ?_, hS.sp⟩; unfold hasB; simp [*]; omega; done) | (refine ⟨_, rfl, ?_, hS.sp⟩; unfold hasB; simp [*]; done)))
theorem Qd4 {hp : Nat} {h : List Bool} {v : Value} (hl : h.length ≤ 16) (hS : St cx w (blk hp 163 [v] :: sl 4 1 v (h.map Q1Q) :: L)) :
 Rets Tryz.prog Q6g [.pointer (some ⟨hp, 0, none⟩)] w fun u w' => ∃ c', cx.Le c' ∧ intR.sl c' u (Q1B h) ∧ St c' w' (blk hp 163 [v] :: sl 4 1 v (h.map Q1Q) :: L) := by
 have hlen : (h.map Q1Q).length = h.length := List.length_map _
 all_goals refine lgo tyD Tryz.func100 ?_
 all_goals (refine Q0 ?_; refine Q1 ?_; refine zm ?_; refine zn ?_; refine Q0 ?_; refine Q1 ?_; refine zm ?_; refine zn ?_; refine Q0 ?_; refine Q0 ?_; refine Q1 ?_; refine zm ?_; refine zn ?_; refine Q9 ?_; have hS := St.nil (T := 3) (es := 1) hS)
 refine zo [0] (fun A ρ' w' => ∃ (j : Nat) (vo : Value) (co : List (List Value)), Has ρ' A ∧ Has ρ' [(4, .int .i64 j), (3, vo)] ∧ (j ≤ h.length) ∧ (intR.ls cx co (Q1y h j)) ∧ St cx w' (sl 3 1 vo co :: blk hp 163 [v] :: sl 4 1 v (h.map Q1Q) :: L)) (fun ρ' _ => (h.length - iv (ρ' 4)).toNat) ?_ ?_
 · exact ⟨0, _, [], zh, zh, (by omega), by unfold Q1y; exact Rep.LR.nil _ _ _, hS.sp⟩
 rintro ρ w1 ⟨j, vo, co, hA, hρ, hj, hls, hS⟩; obtain ⟨ρ, rfl⟩ := env2 hA hρ; have hll := Q7K h j; have hsu := Q4T h j
 all_goals (refine Q0 ?_; refine Q0 ?_; refine Q1 ?_; refine zm ?_; refine zm ?_; refine znc ?_; refine zf0 ?_; (first | (refine Q1A hS (by assumption) rfl nth2 (Q3m Q1Q h false (by omega)) rfl ?_) | (refine zl hS ?_)); (first | (refine zL ?_) | (refine zLe hS ?_)); refine QA rfl rfl ?_; refine zn ?_)
 refine Qq rfl (fun hc => ?_) (fun hc => ?_)
 · skip
   all_goals (refine zsk ?_; refine Q0 ?_; refine Q9 ?_; refine Q0 ?_; refine Q1 ?_; refine zm ?_; refine znc ?_; refine zf0 ?_; (first | (refine Q1A hS (by assumption) rfl nth2 (Q3m Q1Q h false (by omega)) rfl ?_) | (refine zl hS ?_)); refine zm ?_; (first | ((first | refine zi ?_ | refine zj ?_); intro b1 o1 cs1 x1 hat1 hx1 he1; obtain rfl := Q11 he1) | (refine zie hS ?_; intro b1 o1 hel1)); (first | (refine Q1A hS (by assumption) rfl nth2 (Q3m Q1Q h false (by omega)) rfl ?_) | (refine zl hS ?_) | (refine zlk hS ?_) | (refine zlj hS ?_) | (refine zli hS ?_) | (refine zlb hS ?_)); refine zn ?_)
   refine QaM rfl (fun hc => ?_) (fun hc => ?_)
   · skip
     all_goals (refine Q1 ?_; refine zm ?_; refine zm ?_; refine zB1 hS [_] ?_; intro b1 w1 hS; refine za Q4J Q7X hS ?_; intro vp1 w1 css1 hls1 hv1 hS; have hS := hS.ns; refine zm ?_; refine zn ?_; refine Q1 ?_; refine zm ?_; refine zad ?_; refine zm ?_; refine zn ?_; exact ⟨⟨j + 1, _, _, zh, zh, (by omega), by rw [hsu, if_pos (by assumption)]; exact hls1, hS.sp⟩, Qs (by omega)⟩)
   · skip
     all_goals (refine zsk ?_; refine Q1 ?_; refine zm ?_; refine zad ?_; refine zm ?_; refine zn ?_; (first | (exact ⟨⟨j + 1, _, _, zh, zh, (by omega), by rw [hsu, if_pos (by assumption)]; exact hls1, hS.sp⟩, Qs (by omega)⟩) | (exact ⟨⟨j + 1, _, _, zh, zh, (by omega), by rw [hsu, if_neg (by rw [hc]; decide), List.append_nil]; exact hls, hS.sp⟩, Qs (by omega)⟩)))
 · skip
   all_goals (refine zex ?_; refine Q0 ?_; refine Q1 ?_; refine zm ?_; refine zm ?_; refine zn ?_; refine zr ?_; refine zf ?_; refine ⟨_, rfl, ?_⟩; obtain ⟨c', hle, hS', hk⟩ := St.freezeL (r := intR) hS hls rfl (by omega); refine ⟨c', hle, ?_, hS'⟩; rw [show j = h.length by omega] at hk; unfold Q1B; exact hk)
theorem rin_c {s : List Int} {c : Int} {v : Value} (hK : intR.sl cx v s) (hS : St cx w L) : Rets Tryz.prog R_In [v, .int .i64 c] w fun u w' => u = .bool (decide (c ∈ s)) ∧ St cx w' L := by
 have hlen := hK.len
 all_goals refine lgo tyD Tryz.func154 ?_
 all_goals (refine Q0 ?_; refine Q1 ?_; refine zm ?_; refine zn ?_; refine Q0 ?_; refine Q0 ?_; refine Q1 ?_; refine zm ?_; refine zn ?_; refine Q9 ?_)
 refine zoL hS [0, 1] (fun A LL ρ' w' => ∃ (j : Nat), Has ρ' A ∧ Has ρ' [(5, .int .i64 j)] ∧ (j ≤ s.length) ∧ (c ∈ s ↔ c ∈ s.drop j) ∧ St cx w' (LL)) (fun ρ' _ => (s.length - iv (ρ' 5)).toNat) ?_ ?_
 · exact ⟨0, zh, zh, (by omega), by simp, hS.sp⟩
 rintro ρ w1 ⟨j, hA, hρ, hj, hd, hS⟩; obtain ⟨ρ, rfl⟩ := env2 hA hρ
 all_goals (refine Q0 ?_; refine Q0 ?_; refine Q1 ?_; refine zm ?_; refine zm ?_; refine zL ?_; refine QA rfl rfl ?_; refine zn ?_)
 refine Qq rfl (fun hc => ?_) (fun hc => ?_)
 · skip
   all_goals (refine zsk ?_; refine Q0 ?_; refine Q9 ?_; refine Q0 ?_; refine Q1 ?_; refine zm ?_; refine zm ?_; refine zi ?_; intro b1 o1 cs1 x1 hat1 hx1 he1; obtain rfl := Q11 he1; (first | (refine zl hS ?_) | (refine zlk hS ?_)); refine zm ?_)
   all_goals (first | (refine Qg ?_) | (refine Qm ?_) | (refine Qb rfl rfl (fun hc => ?_) (fun hc => ?_)))
   all_goals (refine zn ?_)
   all_goals
    first
    | (refine zct ?_
       all_goals (refine Q0 ?_; refine Q1 ?_; refine zm ?_; refine zn ?_; refine zr ?_; refine zf ?_)
       all_goals (refine ⟨_, rfl, ?_, hS.sp⟩; rw [decide_eq_true]; rw [hd, Q3 hx1, List.mem_cons]; exact .inl (by omega); done))
    | (refine zcf ?_
       all_goals refine zsk ?_)
   all_goals (refine Q1 ?_; refine zm ?_; refine zad ?_; refine zm ?_; refine zn ?_)
   all_goals (exact ⟨⟨j + 1, zh, zh, (by omega), by rw [hd, Q3 hx1, List.mem_cons]; exact ⟨fun h => h.resolve_left (by omega), .inr⟩, hS.sp⟩, Qs (by omega)⟩)
 · skip
   all_goals (refine zex ?_; refine Q0 ?_; refine Q1 ?_; refine zm ?_; refine zn ?_; refine zr ?_; refine zf ?_; (first | (refine ⟨_, rfl, ?_, hS.sp⟩; rw [decide_eq_true]; rw [hd, Q3 hx1, List.mem_cons]; exact .inl (by omega); done) | (refine ⟨_, rfl, ?_, hS.sp⟩; rw [decide_eq_false]; rw [hd, List.drop_of_length_le (by omega)]; exact List.not_mem_nil; done)))
theorem rpass_u {hp : Nat} {h : List Bool} {v v2 : Value} {xs : List Int} (hl : h.length ≤ 16) (hx : intR.sl cx v2 xs) (hS : St cx w (blk hp 163 [v] :: sl 4 1 v (h.map Q1Q) :: L)) :
 Rets Tryz.prog Q6f [.pointer (some ⟨hp, 0, none⟩), v2] w fun u w' => u = .int .i64 (Q1r h [] xs) ∧ St cx w' (blk hp 163 [v] :: sl 4 1 v (h.map Q1Q) :: L) := by
 have hxl := hx.len
 have hll : (Q1B h).length ≤ h.length := by unfold Q1B; exact Q7K _ _
 rw [Qdh]
 all_goals refine lgo tyD Tryz.func157 ?_
 all_goals (refine Q0 ?_; refine Q1 ?_; refine zm ?_; refine zn ?_; refine Q0 ?_; refine Q0 ?_; refine Q1 ?_; refine zm ?_; refine zn ?_; refine Q9 ?_)
 refine zoL hS [0, 1] (fun A LL ρ' w' => ∃ (j : Nat), Has ρ' A ∧ Has ρ' [(5, .int .i64 j)] ∧ (j ≤ xs.length) ∧ (Q3j h xs [] xs = Q3j h xs (xs.take j) (xs.drop j)) ∧ St cx w' (LL)) (fun ρ' _ => (xs.length - iv (ρ' 5)).toNat) ?_ ?_
 · exact ⟨0, zh, zh, (by omega), by rfl, hS.sp⟩
 rintro ρ w1 ⟨j, hA, hρ, hj, hgo, hS⟩; obtain ⟨ρ, rfl⟩ := env2 hA hρ
 all_goals (refine Q0 ?_; refine Q0 ?_; refine Q1 ?_; refine zm ?_; refine zm ?_; refine zL ?_; refine QA rfl rfl ?_; refine zn ?_)
 refine Qq rfl (fun hc => ?_) (fun hc => ?_)
 · skip
   all_goals (refine zsk ?_; refine Q0 ?_; refine Q9 ?_; refine Q0 ?_; refine Q0 ?_; refine Q1 ?_; refine zm ?_; refine zm ?_; refine zm ?_; refine zi ?_; intro b1 o1 cs1 x1 hat1 hx1 he1; obtain rfl := Q11 he1; (first | (refine zl hS ?_) | (refine zlk hS ?_)); rw [Q3 hx1, Q3j] at hgo; refine zR2 (c := rhas_u hS) (h := ?_); rintro v1 w1 ⟨rfl, hS⟩; refine znt ?_; refine zn ?_)
   refine QaM rfl (fun hc => ?_) (fun hc => ?_)
   · skip
     all_goals (refine Q0 ?_; refine Q1 ?_; refine zm ?_; refine zn ?_; refine zr ?_; refine zf ?_)
     all_goals (exact ⟨_, rfl, (by rw [hgo, if_neg (by simpa using hc)]), hS.sp⟩)
   · skip
     all_goals (have hc1 : hasB h x1 = true := (by simpa using hc); rw [if_pos hc1] at hgo; refine zsk ?_; refine Q0 ?_; refine zD [(0, none), (1, none), (2, none), (3, none), (4, none), (5, none), (6, none), (7, some none)] ?_; have hS := hS.drew; refine zm ?_; refine zm ?_; refine QcB vw hx rfl rfl ⟨_, rfl⟩ rfl (by omega) (by omega) ?_; intro v4 hs4; rw [List.drop_zero] at hs4; refine zm ?_; refine zm ?_; refine zi ?_; intro b2 o2 cs2 x2 hat2 hx2 he2; obtain rfl := Q11 he2; (first | (refine zl hS ?_) | (refine zlk hS ?_)); refine zR2 (c := rin_c hs4 hS) (h := ?_); rintro v1 w1 ⟨rfl, hS⟩; obtain rfl : x1 = x2 := Option.some.inj (hx1.symm.trans hx2); refine zn ?_)
     refine Qq rfl (fun hc => ?_) (fun hc => ?_)
     · skip
       all_goals (refine Q0 ?_; refine Q1 ?_; refine zm ?_; refine zn ?_; refine zr ?_; refine zf ?_)
       all_goals (first | (exact ⟨_, rfl, (by rw [hgo, if_neg (by simpa using hc)]), hS.sp⟩) | (exact ⟨_, rfl, (by rw [hgo, if_pos hc]), hS.sp⟩))
     · skip
       all_goals (refine zsk ?_; refine Q1 ?_; refine zm ?_; refine zad ?_; refine zm ?_; refine zn ?_; exact ⟨⟨j + 1, zh, zh, (by omega), by rw [hgo, if_neg hc, Q1U hx1], hS.sp⟩, Qs (by omega)⟩)
 · skip
   all_goals (refine zex ?_; refine Q0 ?_; refine Q1 ?_; refine zm ?_; refine zR1 (c := Qd4 (L := L) hl hS.sp) (h := ?_); rintro v5 w5 ⟨c5, hle5, hk5, hS⟩; have hx5 := hx.up hle5; have hie : j = xs.length := (by omega); subst hie; rw [List.take_length, List.drop_length, Q3j] at hgo; refine zm ?_; refine zn ?_; refine Q0 ?_; refine Q0 ?_; refine Q1 ?_; refine zm ?_; refine zn ?_; refine Q9 ?_)
   refine zoL hS [1, 6] (fun A LL ρ' w' => ∃ (q : Nat), Has ρ' A ∧ Has ρ' [(7, .int .i64 q)] ∧ (q ≤ (Q1B h).length) ∧ (∀ y ∈ (Q1B h).take q, y ∈ xs) ∧ St c5 w' (LL)) (fun ρ' _ => ((Q1B h).length - iv (ρ' 7)).toNat) ?_ ?_
   · exact ⟨0, zh, zh, (by omega), by simp, hS.sp⟩
   rintro ρ w1 ⟨q, hA, hρ, hq, hall, hS⟩; obtain ⟨ρ, rfl⟩ := env2 hA hρ
   all_goals (refine Q0 ?_; refine Q0 ?_; refine Q1 ?_; refine zm ?_; refine zm ?_; refine zL ?_; refine QA rfl rfl ?_; refine zn ?_)
   refine Qq rfl (fun hc => ?_) (fun hc => ?_)
   · skip
     all_goals (refine zsk ?_; refine Q0 ?_; refine Q9 ?_; refine Q0 ?_; refine Q1 ?_; refine zm ?_; refine zm ?_; refine zm ?_; refine zi ?_; intro b3 o3 cs3 x3 hat3 hx3 he3; obtain rfl := Q11 he3; (first | (refine zl hS ?_) | (refine zlk hS ?_)); refine zR2 (c := rin_c hx5 hS) (h := ?_); rintro v1 w1 ⟨rfl, hS⟩; refine znt ?_; refine zn ?_)
     refine QaM rfl (fun hc => ?_) (fun hc => ?_)
     · skip
       all_goals (have hn3 : x3 ∉ xs := (by simpa using hc); refine Q0 ?_; refine Q1 ?_; refine zm ?_; refine zn ?_; refine zr ?_; refine zf ?_)
       all_goals (first | (exact ⟨_, rfl, (by rw [hgo, if_neg (by simpa using hc)]), hS.sp⟩) | (exact ⟨_, rfl, (by rw [hgo, if_pos hc]), hS.sp⟩) | (exact ⟨_, rfl, (by rw [hgo, if_neg (fun ha => hn3 (ha x3 (List.mem_of_getElem? hx3)))]), St.weak hS.sp hle5⟩))
     · skip
       all_goals (have hn3 : x3 ∈ xs := (by simpa using hc); refine zsk ?_; refine Q1 ?_; refine zm ?_; refine zad ?_; refine zm ?_; refine zn ?_; exact ⟨⟨q + 1, zh, zh, (by omega), Q3F hall hx3 hn3, hS.sp⟩, Qs (by omega)⟩)
   · skip
     all_goals (refine zex ?_; refine Q0 ?_; refine Q1 ?_; refine zm ?_; refine zn ?_; refine zr ?_; refine zf ?_)
     all_goals (first | (exact ⟨_, rfl, (by rw [hgo, if_neg (by simpa using hc)]), hS.sp⟩) | (exact ⟨_, rfl, (by rw [hgo, if_pos hc]), hS.sp⟩) | (exact ⟨_, rfl, (by rw [hgo, if_neg (fun ha => hn3 (ha x3 (List.mem_of_getElem? hx3)))]), St.weak hS.sp hle5⟩) | (exact ⟨_, rfl, (by rw [hgo, if_pos (Q5z hall (by omega))]), St.weak hS.sp hle5⟩))
theorem rnew_u {n : Int} (hS : St cx w L) : Rets Tryz.prog Qce [.int .i64 n] w fun u w' => ∃ hp v, u = .pointer (some ⟨hp, 0, none⟩) ∧ St cx w' (blk hp 163 [v] :: sl 4 1 v ((List.replicate (min n 16).toNat true).map Q1Q) :: L) := by
 all_goals refine lgo tyD Tryz.func93 ?_
 all_goals (refine Q0 ?_; refine Q1 ?_; refine zm ?_; refine zn ?_; refine Q0 ?_; refine Q1 ?_; refine zb0 [_] ?_; refine zb hS ?_; intro p6 w1 hS; refine zm ?_; refine zn ?_; refine Q0 ?_; refine Q0 ?_; refine Q1 ?_; refine zm ?_; refine zn ?_; refine Q9 ?_; have hS := St.nil (T := 4) (es := 1) hS)
 refine zo [0, 3] (fun A ρ' w' => ∃ (j : Nat) (v : Value), Has ρ' A ∧ Has ρ' [(4, .int .i64 j)] ∧ (j ≤ (min n 16).toNat) ∧ St cx w' (sl 4 1 v ((List.replicate j true).map Q1Q) :: blk p6 163 [v] :: L)) (fun ρ' _ => (min n 16 - iv (ρ' 4)).toNat) ?_ ?_
 · exact ⟨0, _, zh, zh, (by omega), hS.sp⟩
 rintro ρ w1 ⟨j, v, hA, hρ, hj, hS⟩; obtain ⟨ρ, rfl⟩ := env2 hA hρ
 all_goals (refine Q0 ?_; refine Q0 ?_; refine Q1 ?_; refine zm ?_; refine zm ?_)
 all_goals (first | (refine Q18 ?_) | (refine Q1c ?_) | (refine Qy rfl rfl (fun hc => ?_) (fun hc => ?_)))
 all_goals (refine zm ?_; (first | refine zgn ?_ | (refine zgy ?_; refine zm ?_)))
 all_goals (first | refine zgn ?_ | (refine zgy ?_; (first | (refine Q18 ?_) | (refine Q1c ?_) | (refine Qy rfl rfl (fun hc => ?_) (fun hc => ?_)))))
 all_goals ((first | (refine zpt ?_) | (refine zpf ?_)); refine zn ?_)
 all_goals
  first
  | (refine zct ?_
     all_goals (refine zsk ?_; refine Q0 ?_; refine Q9 ?_; refine Q1 ?_; refine zm ?_; refine zm ?_; refine znc ?_; refine zf0 ?_; refine zl hS ?_; refine zB1 hS [_] ?_; intro b1 w1 hS; refine Q2G QdW (.inl u_T146) hS vw vw fd (hS.srcB1 fd rfl) (by simp; omega) ?_; intro vp w2 hS; have hS := hS.ns; rw [show (List.replicate j true).map Q1Q ++ [[Value.bool true]] = (List.replicate (j + 1) true).map Q1Q by rw [List.replicate_succ', List.map_append]; rfl] at hS; refine znc ?_; refine zf0 ?_; refine zst hS ?_; intro w1 hS; have hS := hS.ns; refine zn ?_; refine Q1 ?_; refine zm ?_; refine zad ?_; refine zm ?_; refine zn ?_)
     all_goals (exact ⟨⟨j + 1, _, zh, zh, (by omega), hS.sp⟩, Qs (by omega)⟩))
  | (refine zcf ?_
     all_goals (refine zex ?_; refine Q0 ?_; refine Q1 ?_; refine zm ?_; refine zm ?_; refine zn ?_; refine zr ?_; refine zf ?_)
     all_goals (exact ⟨_, rfl, _, v, rfl, (by rw [show (min n 16).toNat = j by omega]; exact hS.sp)⟩))
end Go.Proofs.YteflkifmgnpbhaaGreat
namespace Go.Proofs.YteflkifmgnpbhaaGreat
open Go.Lir
set_option maxHeartbeats 1000000
attribute [local irreducible] LC.wp Q2 QD QF retQ Q1a LO.wp Qf Calls
set_option linter.unusedSimpArgs false
set_option linter.unusedVariables false
attribute [local irreducible] hasB Q1B Q1r Q1y Q37 upTo Q14
variable {cx : Cx} {w : World} {L : List Res} {j : JP} {h : List Bool} {vl : Value} {css : List (List Value)} {i : Nat} {m : Module}
@[reducible] def JP.kcells (j : JP) (vl : Value) : List Value := [j.vm, .int .i64 j.f.regs, j.vp, j.vr, j.vb, .pointer (some ⟨j.hp, 0, none⟩), vl]
theorem rhas_c {hp : Nat} {r : Int} (hS : St cx w L) (hi : nth L i = some (Q4A hp h)) : Rets Tryz.prog Q7i [.pointer (some ⟨hp, 0, none⟩), .int .i64 r] w fun u w' => u = .bool (hasB h r) ∧ St cx w' L := by
 obtain ⟨v, h2⟩ := Q35 (hS.out hi)
 refine (rhas_u h2).mono ?_
 rintro u w' ⟨h3, h4⟩
 exact ⟨h3, St.back0 (Q2J h4) hi⟩
theorem rlist_h {hp : Nat} (hl : h.length ≤ 16) (hS : St cx w L) (hi : nth L i = some (Q4A hp h)) : Rets Tryz.prog Q6g [.pointer (some ⟨hp, 0, none⟩)] w fun u w' => ∃ c', cx.Le c' ∧ intR.sl c' u (Q1B h) ∧ St c' w' L := by
 obtain ⟨v, h2⟩ := Q35 (hS.out hi)
 refine (Qd4 hl h2).mono ?_
 rintro u w' ⟨c', h3, h5, h4⟩
 exact ⟨c', h3, h5, St.back0 (Q2J h4) hi⟩
theorem rpass_h {hp : Nat} {v2 : Value} {xs : List Int} (hl : h.length ≤ 16) (hx : intR.sl cx v2 xs) (hS : St cx w L) (hi : nth L i = some (Q4A hp h)) : Rets Tryz.prog Q6f [.pointer (some ⟨hp, 0, none⟩), v2] w fun u w' => u = .int .i64 (Q1r h [] xs) ∧ St cx w' L := by
 obtain ⟨v, h2⟩ := Q35 (hS.out hi)
 refine (rpass_u hl hx h2).mono ?_
 rintro u w' ⟨h3, h4⟩
 exact ⟨h3, St.back0 (Q2J h4) hi⟩
theorem Q2a {s : JS} {k kd : Int} {held : Bool} (hls : tyR.ls cx css s.l) (hS : St cx w (blk j.sp 158 (j.kcells vl) :: Q4A j.hp s.h :: sl 115 3 vl css :: L)) :
 Rets Tryz.prog Q9C [.pointer (some ⟨j.sp, 0, none⟩), .int .i64 k, .int .i64 kd, .bool held] w fun u w' => u = .int .i64 (Q14 s k kd held) ∧ St cx w' (blk j.sp 158 (j.kcells vl) :: Q4A j.hp s.h :: sl 115 3 vl css :: L) := by
 have hlc := hls.1
 all_goals refine lgo tyD Tryz.func98 ?_
 all_goals (refine Q0 ?_; refine Q1 ?_; refine zm ?_; refine zn ?_; refine Q0 ?_; refine Q0 ?_; refine Q1 ?_; refine zm ?_)
 all_goals (first | (refine Q18 ?_) | (refine Q1c ?_) | (refine Qy rfl rfl (fun hc => ?_) (fun hc => ?_)))
 all_goals (refine zm ?_; (first | refine zgn ?_ | (refine zgy ?_; refine zm ?_)); (first | refine zgn ?_ | (refine zgy ?_; refine zm ?_)); (first | refine zgn ?_ | (refine zgy ?_; refine znc ?_)); (first | refine zgn ?_ | (refine zgy ?_; refine zf0 ?_)); (first | refine zgn ?_ | (refine zgy ?_; refine zl hS ?_)); (first | refine zgn ?_ | (refine zgy ?_; refine Q15 hS vw fd hlc ?_)))
 all_goals (first | refine zgn ?_ | (refine zgy ?_; (first | (refine Q2v ?_) | (refine Q2P ?_) | (refine Q1p rfl rfl (fun hc => ?_) (fun hc => ?_)))))
 all_goals ((first | (refine zpt ?_) | (refine zpf ?_)); refine zn ?_)
 all_goals
  first
  | (refine zct ?_
     all_goals (refine Q0 ?_; refine Q1 ?_; refine zm ?_; refine zn ?_; refine zr ?_; refine zf ?_)
     all_goals (refine ⟨_, rfl, ?_, hS.sp⟩; rw [QaG (by omega)]; done))
  | (refine zcf ?_
     all_goals refine zsk ?_)
 all_goals (refine Q0 ?_; refine Q0 ?_; obtain ⟨t, ht⟩ : ∃ t, s.l[k.toNat]? = some t := ⟨_, List.getElem?_eq_getElem (by omega)⟩; obtain ⟨d, hd, hrd⟩ := hls.2 _ _ ht; obtain ⟨vd, rfl, hld⟩ := Qr hrd; refine Q1 ?_; refine zm ?_; refine znc ?_; refine zf0 ?_; refine zl hS ?_; refine zm ?_; (first | ((first | refine zi ?_ | refine zj ?_); intro b1 o1 cs1 x1 hat1 hx1 he1; obtain ⟨vl1, rfl, hl1⟩ := Qr he1) | (refine zie hS ?_; intro b1 o1 hel1) | (refine zij hS ?_; intro b1 o1 hel1)); (first | refine zf0 ?_ | refine zfd ?_); refine Q1A hS hel1 rfl fd rfl hd rfl ?_; refine zm ?_)
 all_goals (first | (refine QJ ?_) | (refine QN ?_) | (refine Ql rfl rfl (fun hc => ?_) (fun hc => ?_)))
 all_goals (refine zn ?_)
 all_goals
  first
  | (refine zct ?_
     all_goals (refine Q0 ?_; refine Q1 ?_; refine zm ?_; refine zn ?_; refine zr ?_; refine zf ?_)
     all_goals (first | (refine ⟨_, rfl, ?_, hS.sp⟩; rw [QaG (by omega)]; done) | (refine ⟨_, rfl, ?_, hS.sp⟩; rw [Qcj (by omega) ht (by omega)]; done)))
  | (refine zcf ?_
     all_goals refine zsk ?_)
 all_goals (refine Q0 ?_; refine Q0 ?_)
 all_goals (cases held)
 all_goals (refine zD [(0, none), (1, none), (2, none), (3, none), (4, none), (5, none), (6, none), (7, none), (8, none), (9, none), (10, none), (11, none), (12, none), (13, none), (14, some none), (15, none), (16, some none)] ?_; have hS := hS.drew; refine zm ?_; refine zm ?_; (first | refine zgn ?_ | (refine zgy ?_; refine zm ?_)); (first | refine zgn ?_ | (refine zgy ?_; refine znc ?_)); (first | refine zgn ?_ | (refine zgy ?_; refine zf0 ?_)); (first | refine zgn ?_ | (refine zgy ?_; refine zl hS ?_)); (first | refine zgn ?_ | (refine zgy ?_; refine zm ?_)); (first | refine zgn ?_ | (refine zgy ?_; refine znc ?_)); (first | refine zgn ?_ | (refine zgy ?_; refine zf0 ?_)); (first | refine zgn ?_ | (refine zgy ?_; refine zl hS ?_)); (first | refine zgn ?_ | (refine zgy ?_; refine zm ?_)); (first | refine zgn ?_ | (refine zgy ?_; (first | ((first | refine zi ?_ | refine zj ?_); intro b2 o2 cs2 x2 hat2 hx2 he2; obtain ⟨vl2, rfl, hl2⟩ := Qr he2) | (refine zie hS ?_; intro b2 o2 hel2) | (refine zij hS ?_; intro b2 o2 hel2)))); (first | refine zgn ?_ | (refine zgy ?_; (first | refine zf0 ?_ | refine zfd ?_))))
 all_goals ((first | refine zgn ?_ | (refine zgy ?_; refine Q8 (j := 1) hS hel2 rfl fd rfl hd rfl ?_)))
 all_goals (first | refine zgn ?_ | (refine zgy ?_; refine zR2 (c := rhas_c hS fd) (h := ?_); rintro v1 w1 ⟨rfl, hS⟩; cases hb : hasB s.h t.r))
 all_goals ((first | refine zgn ?_ | (refine zgy ?_; refine znt ?_)); (first | (refine zpt ?_) | (refine zpf ?_)); refine zn ?_)
 all_goals
  first
  | (refine zct ?_
     all_goals (refine Q0 ?_; refine Q1 ?_; refine zm ?_; refine zn ?_; refine zr ?_; refine zf ?_)
     all_goals (first | (refine ⟨_, rfl, ?_, hS.sp⟩; rw [QaG (by omega)]; done) | (refine ⟨_, rfl, ?_, hS.sp⟩; rw [Qcj (by omega) ht (by omega)]; done) | (refine ⟨_, rfl, ?_, hS.sp⟩; rw [Qck (by omega) ht (by omega) hb]; done)))
  | (refine zcf ?_
     all_goals refine zsk ?_)
 all_goals (refine Q0 ?_; refine Q1 ?_; refine zm ?_; refine zn ?_; refine zr ?_; refine zf ?_)
 all_goals (first | (refine ⟨_, rfl, ?_, hS.sp⟩; rw [QaG (by omega)]; done) | (refine ⟨_, rfl, ?_, hS.sp⟩; rw [Qcj (by omega) ht (by omega)]; done) | (refine ⟨_, rfl, ?_, hS.sp⟩; rw [Qck (by omega) ht (by omega) hb]; done) | (refine ⟨_, rfl, ?_, hS.sp⟩; rw [want_0 (by omega) ht (by omega) (fun h => Bool.noConfusion h)]; done) | (refine ⟨_, rfl, ?_, hS.sp⟩; rw [want_0 (by omega) ht (by omega) (fun _ => hb)]; done))
theorem Qa3 {s : JS} {l regs : List Int} {want : List Ty} {v1 v2 v3 : Value} (hsh : ∀ t ∈ want, t.Short) (hls : tyR.ls cx css s.l) (h1 : intR.sl cx v1 l) (h2 : tyR.sl cx v2 want) (h3 : intR.sl cx v3 regs) (hS : St cx w (blk j.sp 158 (j.kcells vl) :: Q4A j.hp s.h :: sl 115 3 vl css :: L)) :
 Rets Tryz.prog Q9D [.pointer (some ⟨j.sp, 0, none⟩), v1, v2, v3] w fun u w' => u = .int .i64 (QI (Q45 s l want regs)) ∧ St cx w' (blk j.sp 158 (j.kcells vl) :: Q4A j.hp s.h :: sl 115 3 vl css :: L) := by
 have hl1 := h1.len
 have hl2 := h2.len
 have hlc := hls.1
 have hle := St.refl hS
 have hlsX := hls.2
 unfold Q45
 all_goals refine lgo tyD Tryz.func99 ?_
 all_goals (refine Q0 ?_; refine Q1 ?_; refine zm ?_; refine zn ?_; refine Q0 ?_; refine Q0 ?_; refine Q1 ?_; refine zm ?_; (first | (refine Q15 hS vw fd hlc ?_) | (refine zL ?_)); refine zm ?_; (first | (refine Q15 hS vw fd hlc ?_) | (refine zL ?_)))
 all_goals (first | (refine QJ ?_) | (refine QN ?_) | (refine Ql rfl rfl (fun hc => ?_) (fun hc => ?_)))
 all_goals (refine zn ?_)
 all_goals
  first
  | (refine zct ?_
     all_goals (refine Q0 ?_; refine Q1 ?_; refine zm ?_; refine zn ?_; refine zr ?_; refine zf ?_)
     all_goals (exact ⟨_, rfl, by rw [if_pos (by omega)]; rfl, hS⟩))
  | (refine zcf ?_
     all_goals refine zsk ?_)
 all_goals (refine Q0 ?_; refine Q0 ?_; refine Q1 ?_; refine zm ?_; refine zn ?_; refine Q9 ?_)
 refine zoL hS [0, 1, 2, 3] (fun A LL ρ' w' => ∃ (k0 : Cx) (q : Nat), Has ρ' A ∧ Has ρ' [(9, .int .i64 q)] ∧ (cx.Le k0) ∧ (q ≤ l.length) ∧ (Q21 s regs l want = Q21 s regs (l.drop q) (want.drop q)) ∧ (want.length = l.length) ∧ St k0 w' (LL)) (fun ρ' _ => (l.length - iv (ρ' 9)).toNat) ?_ ?_
 · exact ⟨cx, 0, zh, zh, St.refl hS, (by omega), by rfl, by omega, hS.sp⟩
 rintro ρ w1 ⟨k0, q, hA, hρ, hle2, hq, hd, hw, hS⟩; obtain ⟨ρ, rfl⟩ := env2 hA hρ; have hL0 := hle2; (try have hle := hle.trans hle2); (try have hls := hls.up hle2); (try have h1 := h1.up hle2); (try have h2 := h2.up hle2); (try have h3 := h3.up hle2)
 all_goals (refine Q0 ?_; refine Q0 ?_; refine Q1 ?_; refine zm ?_; refine zm ?_; (first | (refine Q15 hS vw fd hlc ?_) | (refine zL ?_)); refine QA rfl rfl ?_; refine zn ?_)
 refine Qq rfl (fun hc => ?_) (fun hc => ?_)
 · skip
   all_goals (refine zsk ?_; refine Q0 ?_; refine Q9 ?_; refine Q0 ?_; refine Q0 ?_; refine zD [(0, none), (1, none), (2, none), (3, none), (4, none), (5, none), (6, none), (7, none), (8, none), (9, none), (10, none), (11, none), (12, none), (13, none), (14, none), (15, none), (16, some none)] ?_; have hS := hS.drew; refine zm ?_; refine zm ?_; refine zi ?_; intro b1 o1 cs1 x1 hat1 hx1 he1; obtain rfl := Q11 he1; (first | (refine zl hS ?_) | (refine zlk hS ?_)))
   all_goals (first | (refine Q18 ?_) | (refine Q1c ?_) | (refine Qy rfl rfl (fun hc => ?_) (fun hc => ?_)))
   all_goals (refine zm ?_; (first | refine zgn ?_ | (refine zgy ?_; refine zm ?_)); (first | refine zgn ?_ | (refine zgy ?_; refine zm ?_)); (first | refine zgn ?_ | (refine zgy ?_; refine Q3P vw rfl h1 rfl (by omega) ?_; intro b8 o8 cs8 x8 hat8 hx8 he8; obtain rfl := Q11 he8; obtain rfl : x1 = x8 := Option.some.inj (hx1.symm.trans hx8))); (first | refine zgn ?_ | (refine zgy ?_; (first | (refine zl hS ?_) | (refine zlk hS ?_)))); (first | refine zgn ?_ | (refine zgy ?_; refine zm ?_)); (first | refine zgn ?_ | (refine zgy ?_; refine znc ?_)); (first | refine zgn ?_ | (refine zgy ?_; refine zf0 ?_)); (first | refine zgn ?_ | (refine zgy ?_; refine zl hS ?_)); (first | refine zgn ?_ | (refine zgy ?_; refine Q15 hS vw fd hlc ?_)))
   all_goals (first | refine zgn ?_ | (refine zgy ?_; (first | (refine Q2v ?_) | (refine Q2P ?_) | (refine Q1p rfl rfl (fun hc => ?_) (fun hc => ?_)))))
   all_goals ((first | (refine zpt ?_) | (refine zpf ?_)); refine zn ?_)
   all_goals
    first
    | (refine zcf ?_
       all_goals refine zsk ?_)
    | (refine zct ?_
       all_goals (refine Q0 ?_; refine Q1 ?_; refine zm ?_; refine zn ?_; refine zr ?_; refine zf ?_)
       all_goals (first | (exact ⟨_, rfl, by rw [if_pos (by omega)]; rfl, hS⟩) | (exact ⟨_, rfl, by rw [if_neg (by omega), hd, Qai hx1 (List.getElem?_eq_getElem (by omega)) (Q4O (by omega))]; rfl, St.weak hS.sp hL0⟩)))
   all_goals (refine Q0 ?_; obtain ⟨t, ht⟩ : ∃ t, s.l[x1.toNat]? = some t := ⟨_, List.getElem?_eq_getElem (by omega)⟩; obtain ⟨d, hdt, hrd⟩ := hls.2 _ _ ht; have g1 := Q3f (by omega) ht; refine Q1 ?_; refine zm ?_; refine zm ?_; refine zi ?_; intro b2 o2 cs2 x2 hat2 hx2 he2; obtain ⟨vl2, rfl, hl2⟩ := Qr he2; (first | (refine zv hS ?_) | (refine zvk hS ?_)); refine zm ?_)
   all_goals (refine zR2 (c := QcW x2 (hsh x2 (List.mem_of_getElem? hx2)) he2 h3 hS) (h := ?_); rintro v1 w1 ⟨c3, ds, rfl, hle2, hu3, hS⟩; (try have hle := hle.trans hle2); (try have hL0 := hL0.trans hle2); (try have hl2 := hl2.up hle2); (try have he2 := he2.up hle2); (try have hls := hls.up hle2); (try have h1 := h1.up hle2); (try have h2 := h2.up hle2); (try have h3 := h3.up hle2); have hrd := Rep.R.up hrd hle2; have hrd' := hrd; obtain ⟨vd, rfl, hld⟩ := Qr hrd; rcases hn : x2.ren regs with _ | y <;> rw [hn] at hu3 <;> simp only [Option.getD_none, Option.getD_some] at hu3 <;> (have hu3' := hu3) <;> obtain ⟨vu, rfl, hlu⟩ := Qr hu3)
   all_goals (refine zm ?_; refine zxt ?_; refine zxt ?_; refine Q5 hS ?_; intro p10 w1 hS; refine zsn hS ?_; intro w1 hS; have hS := hS.ns; refine zm ?_; refine zn ?_; refine Q0 ?_; refine zD [(0, none), (1, none), (2, none), (3, none), (4, none), (5, none), (6, none), (7, none), (8, none), (9, none), (10, none), (11, none), (12, none), (13, none), (14, some none), (15, none), (16, some none)] ?_; have hS := hS.drew; refine zm ?_; refine znt ?_; refine zm ?_; (first | refine zgn ?_ | (refine zgy ?_; refine zv hS ?_)); (first | refine zgn ?_ | (refine zgy ?_; refine zm ?_)); (first | refine zgn ?_ | (refine zgy ?_; refine znc ?_)); (first | refine zgn ?_ | (refine zgy ?_; refine zf0 ?_)); (first | refine zgn ?_ | (refine zgy ?_; refine zl hS ?_)); (first | refine zgn ?_ | (refine zgy ?_; refine zm ?_)); (first | refine zgn ?_ | (refine zgy ?_; refine zm ?_)); (first | refine zgn ?_ | (refine zgy ?_; refine Q3P vw rfl h1 rfl (by omega) ?_; intro b4 o4 cs4 x4 hat4 hx4 he4; obtain rfl := Q11 he4; obtain rfl : x1 = x4 := Option.some.inj (hx1.symm.trans hx4))); (first | refine zgn ?_ | (refine zgy ?_; (first | (refine zl hS ?_) | (refine zlk hS ?_)))))
   all_goals ((first | refine zgn ?_ | (refine zgy ?_; refine Q2g hS vw rfl fd (by omega) (by omega) ?_; intro b5 o5 hel5)); (first | refine zgn ?_ | (refine zgy ?_; refine Q4n hS hel5 rfl fd rfl hdt ?_)))
   all_goals (first | refine zgn ?_ | (refine zgy ?_; refine zR2 (c := Q9W _ _ hu3' hrd' hS) (h := ?_); rintro v1 w1 ⟨rfl, hS⟩; cases hdc : decide (y = t)))
   all_goals ((first | refine zgn ?_ | (refine zgy ?_; refine znt ?_)); (first | (refine zpt ?_) | (refine zpf ?_)); refine zn ?_)
   all_goals
    first
    | (refine zct ?_
       all_goals (refine Q0 ?_; refine Q1 ?_; refine zm ?_; refine zn ?_; refine zr ?_; refine zf ?_)
       all_goals (first | (exact ⟨_, rfl, by rw [if_pos (by omega)]; rfl, hS⟩) | (exact ⟨_, rfl, by rw [if_neg (by omega), hd, Qai hx1 (List.getElem?_eq_getElem (by omega)) (Q4O (by omega))]; rfl, St.weak hS.sp hL0⟩) | (exact ⟨_, rfl, by rw [if_neg (by omega), hd, QdC hx1 hx2 g1 hn]; rfl, St.weak hS.sp hL0⟩) | (exact ⟨_, rfl, by rw [if_neg (by omega), hd, QdD hx1 hx2 g1 hn (fun h => of_decide_eq_false hdc h.symm)]; rfl, St.weak hS.sp hL0⟩)))
    | (refine zcf ?_
       all_goals refine zsk ?_)
   all_goals (refine Q1 ?_; refine zm ?_; refine zad ?_; refine zm ?_; refine zn ?_; exact ⟨⟨_, q + 1, zh, zh, hL0, (by omega), by rw [hd, jargs_s hx1 hx2 g1 hn (of_decide_eq_true hdc).symm], hw, hS.sp⟩, Qs (by omega)⟩)
 · skip
   all_goals (refine zex ?_; refine Q0 ?_; refine Q1 ?_; refine zm ?_; refine zn ?_; refine zr ?_; refine zf ?_)
   all_goals (first | (exact ⟨_, rfl, by rw [if_pos (by omega)]; rfl, hS⟩) | (exact ⟨_, rfl, by rw [if_neg (by omega), hd, Qai hx1 (List.getElem?_eq_getElem (by omega)) (Q4O (by omega))]; rfl, St.weak hS.sp hL0⟩) | (exact ⟨_, rfl, by rw [if_neg (by omega), hd, QdC hx1 hx2 g1 hn]; rfl, St.weak hS.sp hL0⟩) | (exact ⟨_, rfl, by rw [if_neg (by omega), hd, QdD hx1 hx2 g1 hn (fun h => of_decide_eq_false hdc h.symm)]; rfl, St.weak hS.sp hL0⟩) | (exact ⟨_, rfl, by rw [if_neg (by omega), hd, jargs_z (by omega)]; rfl, St.weak hS.sp hL0⟩))
theorem Q6p {xs : List Int} {v : Value} (hn : xs.length ≤ 1000) (hS : St cx w (sl 3 1 v (xs.map Q38) :: L)) : Rets Tryz.prog R_first [v] w fun u w' => u = .int .i64 (Q1E xs) ∧ St cx w' (sl 3 1 v (xs.map Q38) :: L) := by
 have hlc : (xs.map Q38).length = xs.length := List.length_map _
 all_goals refine lgo tyD Tryz.func151 ?_
 all_goals (refine Q0 ?_; refine Q1 ?_; refine zm ?_; refine zn ?_; refine Q0 ?_; refine Q0 ?_; refine Q1 ?_; refine zm ?_; refine zn ?_; refine Q9 ?_)
 refine zoL hS [0] (fun A LL ρ' w' => ∃ (q : Nat), Has ρ' A ∧ Has ρ' [(3, .int .i64 q)] ∧ (q ≤ xs.length) ∧ (Q1E xs = Q1E (xs.drop q)) ∧ St cx w' (LL)) (fun ρ' _ => (xs.length - iv (ρ' 3)).toNat) ?_ ?_
 · exact ⟨0, zh, zh, (by omega), by rfl, hS.sp⟩
 rintro ρ w1 ⟨q, hA, hρ, hq, hd, hS⟩; obtain ⟨ρ, rfl⟩ := env2 hA hρ
 all_goals (refine Q0 ?_; refine Q0 ?_; refine Q1 ?_; refine zm ?_; refine zm ?_; refine Q15 hS vw fd hlc ?_; refine QA rfl rfl ?_; refine zn ?_)
 refine Qq rfl (fun hc => ?_) (fun hc => ?_)
 · skip
   all_goals (refine zsk ?_; refine Q0 ?_; refine Q9 ?_; refine Q0 ?_; obtain ⟨x, hx⟩ : ∃ x, xs[q]? = some x := ⟨_, List.getElem?_eq_getElem (by omega)⟩; have hxc : (xs.map Q38)[q]? = some (Q38 x) := (by rw [List.getElem?_map, hx]; rfl); refine Q1 ?_; refine zm ?_; refine zm ?_; refine Q4F hS vw rfl fd (by omega) ?_; intro b1 o1 hel1; refine Q1A hS hel1 rfl fd rfl hxc rfl ?_)
   all_goals (first | (refine QJ ?_) | (refine QN ?_) | (refine Ql rfl rfl (fun hc => ?_) (fun hc => ?_)))
   all_goals (refine zn ?_)
   all_goals
    first
    | (refine zct ?_
       all_goals (refine Q0 ?_; refine Q1 ?_; refine zm ?_; refine zm ?_; refine Q4F hS vw rfl fd (by omega) ?_; intro b2 o2 hel2; refine Q1A hS hel2 rfl fd rfl hxc rfl ?_; refine zm ?_; refine zn ?_; refine zr ?_; refine zf ?_)
       all_goals (refine ⟨_, rfl, ?_, hS.sp⟩; rw [hd, Q3 hx, Q1E, if_pos (by omega)]; done))
    | (refine zcf ?_
       all_goals refine zsk ?_)
   all_goals (refine Q1 ?_; refine zm ?_; refine zad ?_; refine zm ?_; refine zn ?_; exact ⟨⟨q + 1, zh, zh, (by omega), by rw [hd, Q3 hx, Q1E, if_neg (by omega)], hS.sp⟩, Qs (by omega)⟩)
 · skip
   all_goals (refine zex ?_; refine Q0 ?_; refine Q1 ?_; refine zm ?_; refine zn ?_; refine zr ?_; refine zf ?_; (first | (refine ⟨_, rfl, ?_, hS.sp⟩; rw [hd, Q3 hx, Q1E, if_pos (by omega)]; done) | (refine ⟨_, rfl, ?_, hS.sp⟩; rw [hd, List.drop_of_length_le (by omega)]; rfl; done)))
end Go.Proofs.YteflkifmgnpbhaaGreat
namespace Go.Proofs.YteflkifmgnpbhaaGreat
open Go.Lir
set_option maxHeartbeats 1000000
attribute [local irreducible] LC.wp Q2 QD QF retQ Q1a LO.wp Qf Calls
set_option linter.unusedSimpArgs false
set_option linter.unusedVariables false
attribute [local irreducible] hasB Q1B Q1r Q1y Q37 upTo Q14 Q1E rmk
variable {cx : Cx} {w : World} {L : List Res} {j : JP} {h : List Bool} {vl : Value} {css : List (List Value)} {i : Nat} {m : Module}

@[reducible] def KLf (j : JP) (s : JS) (vl : Value) (css : List (List Value)) (L : List Res) : List Res := blk j.sp 158 (j.kcells vl) :: Q4A j.hp s.h :: sl 115 3 vl css :: L
theorem rmakes_c {s : JS} {x : Ins} {cs : List Value} (hm : m.Short) (hF : Qw m.funcs.length x = 0) (hg : JGood s) (hj : j.Fits cx m) (hx : insR.at cx cs x) (hls : tyR.ls cx css s.l) (hS : St cx w (blk j.sp 158 (j.kcells vl) :: Q4A j.hp s.h :: sl 115 3 vl css :: L)) :
 Rets Tryz.prog Q8I [.pointer (some ⟨j.sp, 0, none⟩), .agg ⟨cs⟩] w fun u w' => ∃ c' v, cx.Le c' ∧ u = .tuple #[v, .int .i64 (QI (rmk m j.f s x))] ∧ (∀ ts, rmk m j.f s x = .ok ts → tyR.sl c' v ts) ∧ St c' w' (blk j.sp 158 (j.kcells vl) :: Q4A j.hp s.h :: sl 115 3 vl css :: L) := by
 have hx' := hx
 have hop := Q2S hF
 have hlc := hls.1
 have hn := hg.n
 have hm1 := hj.m
 have hN : ∀ {c : Cx}, tyR.at c [.int .i64 1, .int .i64 0, .slice none 0 0] number := Q2C (Rep.SR.nil _ _ _)
 obtain ⟨vr, va, rfl, hr, ha⟩ := Q1G hx
 have hlr := hr.len
 have hla := ha.len
 all_goals refine lgo tyD Tryz.func95 ?_
 all_goals (refine Q0 ?_; refine Q1 ?_; refine zb hS ?_; intro p3 w1 hS; refine zm ?_; refine zm ?_; refine zn ?_; refine Q0 ?_; refine Q1 ?_; refine zb1 [_, _, _] ?_; refine Q1J (cs := [_, _, _]) vw (by rfl) ?_; intro nb w1 hb1 hf1 _ hk1; have hS := hS.laid hb1 hf1 hk1; refine zm ?_; refine zn ?_; refine Q0 ?_; refine Q0 ?_; refine Q1 ?_; refine zf0 ?_; refine zl hS ?_; refine zn ?_; refine Q9 ?_; refine Q0 ?_; refine Q0 ?_; refine Q1 ?_)
 all_goals (first | (refine Qg ?_) | (refine Qm ?_) | (refine Qb rfl rfl (fun hc => ?_) (fun hc => ?_)))
 all_goals (refine zm ?_; refine zn ?_)
 all_goals
  first
  | (refine zct ?_
     all_goals refine zsk ?_)
  | (refine zcf ?_
     all_goals (refine Q1 ?_)
     all_goals (first | (refine Qg ?_) | (refine Qm ?_) | (refine Qb rfl rfl (fun hc => ?_) (fun hc => ?_)))
     all_goals (refine zm ?_)
     all_goals refine zn ?_)
 all_goals
  first
  | (refine zct ?_
     all_goals (refine Q0 ?_; refine Q1 ?_; refine zm ?_; refine zm ?_; refine zm ?_; refine zn ?_; have hM : rmk m j.f s x = .ok [number] := rmk_1 (by omega); refine zr ?_; refine zf2 ?_)
     all_goals (first | (exact ⟨_, rfl, cx, _, St.refl hS, cd_e hM, Q26 hM, hS.sp⟩) | (exact ⟨_, rfl, cx, _, St.refl hS, cd_o hM, Q1e hM (Rep.SR.nil _ _ _), hS.sp⟩) | (exact ⟨_, rfl, cx, _, St.refl hS, cd_w hM hw, Q1e hM (Rep.SR.nil _ _ _), hS.sp⟩) | (obtain ⟨c9, hle9, hS, hk9⟩ := St.freeze1 (r := tyR) (L := KLf j s vl css L) hS.sp (hN : tyR.at _ _ number); exact ⟨_, rfl, c9, _, hle9, cd_c hC, Q4k hT hk9, hS⟩) | (obtain ⟨c9, hle9, hS, hk9⟩ := St.freeze1 (r := tyR) (L := KLf j s vl css L) hS.sp (hN : tyR.at _ _ number); exact ⟨_, rfl, c9, _, hle9, cd_o hM, Q1e hM hk9, hS⟩)))
  | (refine zcf ?_
     all_goals (refine Q0 ?_; refine Q1 ?_)
     all_goals (first | (refine Qg ?_) | (refine Qm ?_) | (refine Qb rfl rfl (fun hc => ?_) (fun hc => ?_)))
     all_goals (refine zm ?_; refine zn ?_)
     all_goals
      first
      | (refine zct ?_
         all_goals (refine Q0 ?_; refine zC [(0, none), (1, none), (2, none), (3, none), (5, none), (6, none), (7, none), (4, some (some [7])), (8, some (some [])), (9, some (some [])), (10, some (some [])), (11, none), (12, some none)] ?_; have hS := hS.drew; refine s_cq ?_; refine zm ?_; refine zt ?_; refine s_cq ?_; refine zm ?_; refine zt ?_; refine s_cq ?_; refine zf0 ?_; refine zt ?_; refine s_cq ?_; refine zl hS ?_; refine zt ?_; refine s_cq ?_; refine zm ?_; refine zt ?_; refine s_cq ?_; refine zf0 ?_; refine zt ?_; refine s_cq ?_; refine zl hS ?_; refine zt ?_; refine Qj ?_; refine zR4 (c := Q2a (s := s) (k := x.a) (kd := 1) (held := false) hls hS.p3) (h := ?_); rintro v1 w1 ⟨rfl, hS⟩; refine zt ?_; refine zy ?_; refine Qj ?_; refine zR4 (c := Q2a (s := s) (k := x.b) (kd := 1) (held := false) hls hS.p3) (h := ?_); rintro v1 w1 ⟨rfl, hS⟩; refine zt ?_; refine zy ?_; refine Qj ?_; refine Q6G (cs := [_, _]) vw vw (by rfl) ?_; intro fb w1 hb1 hf1 _ hk1; have hS := hS.laid hb1 hf1 hk1; have hS := St.slOf (es := 1) (css := [Q14 s x.a 1 false, Q14 s x.b 1 false].map Q38) hS rfl (by simp [Q38]) rfl; refine zt ?_; refine zy ?_; refine Qj ?_; refine zR1 (c := Q6p (xs := [Q14 s x.a 1 false, Q14 s x.b 1 false]) (by simp) hS) (h := ?_); rintro v1 w1 ⟨rfl, hS⟩)
         all_goals (refine zt ?_; refine zy ?_; refine s_cq ?_; refine zm ?_; refine zt ?_; refine s_cf ?_; refine zm ?_; refine zt ?_; refine zcn ?_)
         all_goals (have hC : QI (rmk m j.f s x) = Q1E [Q14 s x.a 1 false, Q14 s x.b 1 false] := (by rw [rmk_2 (by omega), Q3u, Q3u]; exact Q8w (Q2q _ _ _) (Q2q _ _ _) _); have hT : ∀ ts, rmk m j.f s x = .ok ts → ts = [number] := (fun ts h => by rw [rmk_2 (by omega)] at h; exact ok1 h fun _ h => ok1 h fun _ h => by cases h; rfl))
         all_goals (refine zr ?_; refine zf2 ?_)
         all_goals (first | (exact ⟨_, rfl, cx, _, St.refl hS, cd_e hM, Q26 hM, hS.sp⟩) | (exact ⟨_, rfl, cx, _, St.refl hS, cd_o hM, Q1e hM (Rep.SR.nil _ _ _), hS.sp⟩) | (exact ⟨_, rfl, cx, _, St.refl hS, cd_w hM hw, Q1e hM (Rep.SR.nil _ _ _), hS.sp⟩) | (obtain ⟨c9, hle9, hS, hk9⟩ := St.freeze1 (r := tyR) (L := KLf j s vl css L) hS.sp (hN : tyR.at _ _ number); exact ⟨_, rfl, c9, _, hle9, cd_c hC, Q4k hT hk9, hS⟩)))
      | (refine zcf ?_
         all_goals (refine Q0 ?_; refine Q1 ?_)
         all_goals (first | (refine Qg ?_) | (refine Qm ?_) | (refine Qb rfl rfl (fun hc => ?_) (fun hc => ?_)))
         all_goals (refine zm ?_; refine zn ?_)
         all_goals
          first
          | (refine zct ?_
             all_goals (refine Q0 ?_; refine Q0 ?_; refine Q1 ?_; refine zm ?_; refine znc ?_; refine zf0 ?_; refine zl hS ?_; refine znc ?_; refine zf0 ?_; obtain ⟨vh, hS⟩ := Q35 (hp := j.hp) (h := s.h) (L := blk j.sp 158 (j.kcells vl) :: sl 115 3 vl css :: blk nb 115 [.int .i64 1, .int .i64 0, .slice none 0 0] :: blk p3 84 [.int .i64 x.op, .int .i64 x.a, .int .i64 x.b, .int .i64 x.c, .int .i64 x.k, .int .i64 x.n, vr, va] :: L) hS.sp; refine Q9R hS vw fd rfl ?_; refine Q15 hS vw fd (List.length_map _) ?_; have hS := Q2J (L := blk j.sp 158 (j.kcells vl) :: sl 115 3 vl css :: blk nb 115 [.int .i64 1, .int .i64 0, .slice none 0 0] :: blk p3 84 [.int .i64 x.op, .int .i64 x.a, .int .i64 x.b, .int .i64 x.c, .int .i64 x.k, .int .i64 x.n, vr, va] :: L) (h := s.h) (hp := j.hp) (v := vh) hS.sp)
             all_goals (first | (refine Qg ?_) | (refine Qm ?_) | (refine Qb rfl rfl (fun hc => ?_) (fun hc => ?_)))
             all_goals (refine zn ?_)
             all_goals
              first
              | (refine zct ?_
                 all_goals (refine Q0 ?_; refine Q1 ?_; refine zm ?_; refine zm ?_; refine zn ?_; have hM : rmk m j.f s x = .error 2 := (by rw [rmk_3 (by omega)]; exact if_pos (by omega)); refine zr ?_; refine zf2 ?_)
                 all_goals (exact ⟨_, rfl, cx, _, St.refl hS, cd_e hM, Q26 hM, hS.sp⟩))
              | (refine zcf ?_
                 all_goals refine zsk ?_)
             all_goals (refine Q0 ?_; refine Q1 ?_; refine zm ?_; refine znc ?_; refine zf0 ?_; refine zl hS ?_; refine znc ?_; refine zf0 ?_; obtain ⟨vh, hS⟩ := Q35 (hp := j.hp) (h := s.h) (L := blk j.sp 158 (j.kcells vl) :: sl 115 3 vl css :: blk nb 115 [.int .i64 1, .int .i64 0, .slice none 0 0] :: blk p3 84 [.int .i64 x.op, .int .i64 x.a, .int .i64 x.b, .int .i64 x.c, .int .i64 x.k, .int .i64 x.n, vr, va] :: L) hS.sp; refine Q9R hS vw fd rfl ?_; refine Q15 hS vw fd (List.length_map _) ?_; have hS := Q2J (L := blk j.sp 158 (j.kcells vl) :: sl 115 3 vl css :: blk nb 115 [.int .i64 1, .int .i64 0, .slice none 0 0] :: blk p3 84 [.int .i64 x.op, .int .i64 x.a, .int .i64 x.b, .int .i64 x.c, .int .i64 x.k, .int .i64 x.n, vr, va] :: L) (h := s.h) (hp := j.hp) (v := vh) hS.sp; refine zb2 [_, _, _] ?_; refine Q1J (cs := [_, _, _]) vw (by rfl) ?_; intro ob w1 hb1 hf1 _ hk1; have hS := hS.laid hb1 hf1 hk1; refine zm ?_; refine zm ?_; refine zn ?_; have hM : rmk m j.f s x = .ok [.mk 2 s.h.length []] := (by rw [rmk_3 (by omega)]; exact if_neg (by omega)); have hrow : ∀ {c : Cx}, tyR.at c [.int .i64 2, .int .i64 s.h.length, .slice none 0 0] (.mk 2 s.h.length []) := Q2C (Rep.SR.nil _ _ _))
             all_goals (refine zr ?_; refine zf2 ?_)
             all_goals (first | (exact ⟨_, rfl, cx, _, St.refl hS, cd_e hM, Q26 hM, hS.sp⟩) | (exact ⟨_, rfl, cx, _, St.refl hS, cd_o hM, Q1e hM (Rep.SR.nil _ _ _), hS.sp⟩) | (exact ⟨_, rfl, cx, _, St.refl hS, cd_w hM hw, Q1e hM (Rep.SR.nil _ _ _), hS.sp⟩) | (obtain ⟨c9, hle9, hS, hk9⟩ := St.freeze1 (r := tyR) (L := KLf j s vl css L) hS.sp (hN : tyR.at _ _ number); exact ⟨_, rfl, c9, _, hle9, cd_c hC, Q4k hT hk9, hS⟩) | (obtain ⟨c9, hle9, hS, hk9⟩ := St.freeze1 (r := tyR) (L := KLf j s vl css L) hS.sp (hN : tyR.at _ _ number); exact ⟨_, rfl, c9, _, hle9, cd_o hM, Q1e hM hk9, hS⟩) | (obtain ⟨c9, hle9, hS, hk9⟩ := St.freeze1 (r := tyR) (L := KLf j s vl css L) hS.sp hrow; exact ⟨_, rfl, c9, _, hle9, cd_o hM, Q1e hM hk9, hS⟩)))
          | (refine zcf ?_
             all_goals (refine Q0 ?_; refine Q1 ?_)
             all_goals (first | (refine Qg ?_) | (refine Qm ?_) | (refine Qb rfl rfl (fun hc => ?_) (fun hc => ?_)))
             all_goals (refine zm ?_; refine zn ?_)
             all_goals
              first
              | (refine zct ?_
                 all_goals (refine Q0 ?_; refine Q1 ?_; refine zm ?_; refine zf0 ?_; refine zl hS ?_; refine zR4 (c := Q2a (s := s) (k := x.a) (kd := 2) (held := true) hls hS.p3) (h := ?_); rintro v1 w1 ⟨rfl, hS⟩; refine zm ?_; refine zn ?_)
                 all_goals (rcases Decidable.em (Q14 s x.a 2 true = 0) with hw | hw; rotate_left; have hM : rmk m j.f s x = .error (Q14 s x.a 2 true) := (by rw [Q9X (by omega), Q1n (Q6x hw)]); rotate_left; obtain ⟨t, g0, g1, ht, hk, hb, hjt⟩ := Q7U (s := s) (k := x.a) (kd := 2) (by omega); obtain ⟨d, hd, hrd⟩ := hls.2 _ _ ht; have hrt := hrd; obtain ⟨vd, rfl, hld⟩ := Qr hrd)
                 all_goals (refine Q0 ?_; refine Q0 ?_; refine zD [(0, none), (1, none), (2, none), (3, none), (4, none), (5, none), (6, none), (7, none), (8, none), (9, none), (10, none), (11, none), (12, none), (13, none), (14, none), (15, none), (16, none), (17, none), (18, some none)] ?_; have hS := hS.drew; refine zm ?_)
                 all_goals (first | (refine Qg ?_) | (refine Qm ?_))
                 all_goals (refine zm ?_; (first | refine zgn ?_ | (refine zgy ?_; refine zm ?_)); (first | refine zgn ?_ | (refine zgy ?_; refine znc ?_)); (first | refine zgn ?_ | (refine zgy ?_; refine zf0 ?_)); (first | refine zgn ?_ | (refine zgy ?_; refine zl hS ?_)); (first | refine zgn ?_ | (refine zgy ?_; refine zf0 ?_)); (first | refine zgn ?_ | (refine zgy ?_; refine zl hS ?_)); (first | refine zgn ?_ | (refine zgy ?_; refine Q2g hS vw rfl fd (by omega) (by omega) ?_; intro b1 o1 hel1)); (first | refine zgn ?_ | (refine zgy ?_; (first | refine zf0 ?_ | refine zfd ?_))); (first | refine zgn ?_ | (refine zgy ?_; refine Q8 (j := 1) hS hel1 rfl fd rfl hd rfl ?_)); (first | refine zgn ?_ | (refine zgy ?_; refine zm ?_)); (first | refine zgn ?_ | (refine zgy ?_; refine znc ?_)); (first | refine zgn ?_ | (refine zgy ?_; refine zf0 ?_)); (first | refine zgn ?_ | (refine zgy ?_; (first | refine zf0 ?_ | refine zfd ?_))); (first | refine zgn ?_ | (refine zgy ?_; refine zl hS ?_)))
                 all_goals (first | refine zgn ?_ | (refine zgy ?_; (first | (refine Q18 ?_) | (refine Q1c ?_) | (refine Qy rfl rfl (fun hc => ?_) (fun hc => ?_)))))
                 all_goals ((first | (refine zpt ?_) | (refine zpf ?_)); refine zn ?_)
                 all_goals
                  first
                  | (refine zct ?_
                     all_goals (refine Q1 ?_; refine zm ?_)
                     all_goals refine zn ?_)
                  | (refine zcf ?_
                     all_goals refine zsk ?_)
                 all_goals (refine Q0 ?_; refine Q1 ?_; refine zm ?_; refine zm ?_; refine zm ?_; refine zn ?_; refine zr ?_; refine zf2 ?_)
                 all_goals (first | (exact ⟨_, rfl, cx, _, St.refl hS, cd_e hM, Q26 hM, hS.sp⟩) | (exact ⟨_, rfl, cx, _, St.refl hS, cd_o hM, Q1e hM (Rep.SR.nil _ _ _), hS.sp⟩) | (exact ⟨_, rfl, cx, _, St.refl hS, cd_w hM hw, Q1e hM (Rep.SR.nil _ _ _), hS.sp⟩) | (obtain ⟨c9, hle9, hS, hk9⟩ := St.freeze1 (r := tyR) (L := KLf j s vl css L) hS.sp (hN : tyR.at _ _ number); exact ⟨_, rfl, c9, _, hle9, cd_c hC, Q4k hT hk9, hS⟩) | (obtain ⟨c9, hle9, hS, hk9⟩ := St.freeze1 (r := tyR) (L := KLf j s vl css L) hS.sp (hN : tyR.at _ _ number); exact ⟨_, rfl, c9, _, hle9, cd_o hM, Q1e hM hk9, hS⟩) | (obtain ⟨c9, hle9, hS, hk9⟩ := St.freeze1 (r := tyR) (L := KLf j s vl css L) hS.sp hrow; exact ⟨_, rfl, c9, _, hle9, cd_o hM, Q1e hM hk9, hS⟩) | (obtain ⟨c9, hle9, hS, hk9⟩ := St.freeze1 (r := tyR) (L := KLf j s vl css L) hS.sp hrow; exact ⟨_, rfl, c9, _, hle2.trans hle9, cd_o hM, Q1e hM hk9, hS⟩) | (exact ⟨_, rfl, c1, _, hle2, cd_e hM, Q26 hM, hS.sp⟩) | (exact ⟨_, rfl, cx, _, St.refl hS, cd_c hC, Q4k hT (Rep.SR.nil _ _ _), hS.sp⟩) | (have hM : rmk m j.f s x = .error 11 := (by rw [Q9X (by omega), Qo hjt, if_pos (by omega)]); exact ⟨_, rfl, cx, _, St.refl hS, cd_e hM, Q26 hM, hS.sp⟩) | (have hM : rmk m j.f s x = .ok [] := (by rw [Q9X (by omega), Qo hjt, if_neg (by omega)]); exact ⟨_, rfl, cx, _, St.refl hS, cd_w hM hw, Q1e hM (Rep.SR.nil _ _ _), hS.sp⟩)))
              | (refine zcf ?_
                 all_goals (refine Q0 ?_; refine Q1 ?_)
                 all_goals (first | (refine Qg ?_) | (refine Qm ?_) | (refine Qb rfl rfl (fun hc => ?_) (fun hc => ?_)))
                 all_goals (refine zm ?_; refine zn ?_)
                 all_goals
                  first
                  | (refine zct ?_
                     all_goals (refine Q0 ?_; refine Q0 ?_; refine Q1 ?_; refine zm ?_; refine zf0 ?_; refine zl hS ?_; refine zR4 (c := Q2a (s := s) (k := x.a) (kd := 2) (held := true) hls hS.p3) (h := ?_); rintro v1 w1 ⟨rfl, hS⟩; refine zm ?_; refine zn ?_; refine Q0 ?_; refine Q1 ?_; refine zm ?_)
                     all_goals (first | (refine QJ ?_) | (refine QN ?_) | (refine Ql rfl rfl (fun hc => ?_) (fun hc => ?_)))
                     all_goals (refine zn ?_)
                     all_goals
                      first
                      | (refine zct ?_
                         all_goals (refine Q0 ?_; refine Q1 ?_; refine zm ?_; refine zm ?_; refine zm ?_; refine zn ?_; have hM : rmk m j.f s x = .error (Q14 s x.a 2 true) := (by rw [Qd0 (by omega), Q1n (Q6x (by omega))]); refine zr ?_; refine zf2 ?_)
                         all_goals (exact ⟨_, rfl, cx, _, St.refl hS, cd_e hM, Q26 hM, hS.sp⟩))
                      | (refine zcf ?_
                         all_goals refine zsk ?_)
                     all_goals (refine Q0 ?_; have hal := Q6a hF (by omega); obtain ⟨t, g0, g1, ht, hk, hb, hjt⟩ := Q7U (s := s) (k := x.a) (kd := 2) (by omega); obtain ⟨d, hd, hrd⟩ := hls.2 _ _ ht; have hrt := hrd; obtain ⟨vd, rfl, hld⟩ := Qr hrd; refine zC [(0, none), (1, none), (2, none), (3, none), (4, none), (5, none), (6, none), (7, none), (8, none), (9, none), (10, some (some [3, 5, 8])), (11, some none)] ?_; have hS := hS.drew; refine s_cq ?_; refine zm ?_; refine zt ?_; refine s_cq ?_; refine znc ?_; refine zt ?_; refine s_cq ?_; refine zf0 ?_; refine zt ?_; refine s_cq ?_; refine zl hS ?_; refine zt ?_; refine s_cq ?_; refine zf0 ?_; refine zt ?_; refine s_cq ?_; refine zl hS ?_; refine zt ?_; refine s_cq ?_; refine Q2g hS vw rfl fd (by omega) (by omega) ?_; intro b1 o1 hel1; refine zt ?_; refine s_cq ?_; (first | refine zf0 ?_ | refine zfd ?_); refine zt ?_; refine s_cq ?_; refine Q8 (j := 1) hS hel1 rfl fd rfl hd rfl ?_; refine zt ?_; refine s_cq ?_; refine zb2 [_, _, _] ?_; refine zt ?_; refine Qj ?_; refine Q5 hS ?_; intro p9 w1 hS; refine zt ?_; refine ⟨List.forall_mem_cons.2 ⟨(by first | (exact QP (j := 1) hS hel1 rfl fd rfl hd rfl) | (exact Q20 hS rfl fd rfl)), List.forall_mem_cons.2 ⟨(by first | (exact QP (j := 1) hS hel1 rfl fd rfl hd rfl) | (exact Q20 hS rfl fd rfl)), List.forall_mem_cons.2 ⟨(by (exact QP (j := 1) hS hel1 rfl fd rfl hd rfl)), fun _ h => (List.not_mem_nil h).elim⟩⟩⟩, ?_⟩)
                     all_goals (refine s_cf ?_; refine zsn hS ?_; intro w1 hS; have hS := hS.ns; refine zt ?_; refine zcn ?_; refine Q0 ?_; refine Q0 ?_; refine Q1 ?_; refine zm ?_; refine zn ?_; refine Q9 ?_; have hS := St.nil (T := 115) (es := 3) hS)
                     refine zo [0, 3, 9] (fun A ρ' w' => ∃ (q : Nat) (vo : Value) (co : List (List Value)) (ts : List Ty), Has ρ' A ∧ Has ρ' [(10, .int .i64 q)] ∧ (q ≤ x.args.length) ∧ (tyR.ls cx co ts) ∧ (ts.length = q) ∧ (oneC vo = true) ∧ (jfields s x.args = ebind (jfields s (x.args.drop q)) fun l => .ok (ts ++ l)) ∧ St cx w' (sl 115 3 vo co :: blk p9 115 [.int .i64 3, .int .i64 t.r, vo] :: blk nb 115 [.int .i64 1, .int .i64 0, .slice none 0 0] :: blk p3 84 [.int .i64 x.op, .int .i64 x.a, .int .i64 x.b, .int .i64 x.c, .int .i64 x.k, .int .i64 x.n, vr, va] :: blk j.sp 158 (j.kcells vl) :: Q4A j.hp s.h :: sl 115 3 vl css :: L)) (fun ρ' _ => (x.args.length - iv (ρ' 10)).toNat) ?_ ?_
                     · exact ⟨0, _, [], [], zh, zh, (by omega), Rep.LR.nil _ _ _, rfl, rfl, by rw [List.drop_zero]; cases jfields s x.args <;> rfl, hS.sp⟩
                     rintro ρ w1 ⟨q, vo, co, ts, hA, hρ, hq, hlo, hlt, hvo, hdf, hS⟩; obtain ⟨ρ, rfl⟩ := env2 hA hρ
                     all_goals (refine Q0 ?_; refine Q0 ?_; refine Q1 ?_; refine zm ?_; refine zf0 ?_; refine zl hS ?_; (first | (refine Q15 hS vw fd hlc ?_) | (refine zL ?_)); refine QA rfl rfl ?_; refine zn ?_)
                     refine Qq rfl (fun hc => ?_) (fun hc => ?_)
                     · skip
                       all_goals (refine zsk ?_; refine Q0 ?_; refine Q9 ?_; refine Q0 ?_; refine Q0 ?_; refine zD [(0, none), (1, none), (2, none), (3, none), (4, none), (5, none), (6, none), (7, none), (8, none), (9, none), (10, none), (11, none), (12, none), (13, none), (14, none), (15, none), (16, none), (17, none), (18, some none)] ?_; have hS := hS.drew; refine zf0 ?_; refine zl hS ?_; refine zm ?_; refine zi ?_; intro b1 o1 cs1 x1 hat1 hx1 he1; obtain rfl := Q11 he1; (first | (refine zl hS ?_) | (refine zlk hS ?_)))
                       all_goals (first | (refine Q18 ?_) | (refine Q1c ?_) | (refine Qy rfl rfl (fun hc => ?_) (fun hc => ?_)))
                       all_goals (refine zm ?_; (first | refine zgn ?_ | (refine zgy ?_; refine zf0 ?_)); (first | refine zgn ?_ | (refine zgy ?_; refine zl hS ?_)); (first | refine zgn ?_ | (refine zgy ?_; refine zm ?_)); (first | refine zgn ?_ | (refine zgy ?_; refine Q3P vw rfl ha rfl (by omega) ?_; intro b8 o8 cs8 x8 hat8 hx8 he8; obtain rfl := Q11 he8; obtain rfl : x1 = x8 := Option.some.inj (hx1.symm.trans hx8))); (first | refine zgn ?_ | (refine zgy ?_; (first | (refine zl hS ?_) | (refine zlk hS ?_)))); (first | refine zgn ?_ | (refine zgy ?_; refine zm ?_)); (first | refine zgn ?_ | (refine zgy ?_; refine znc ?_)); (first | refine zgn ?_ | (refine zgy ?_; refine zf0 ?_)); (first | refine zgn ?_ | (refine zgy ?_; refine zl hS ?_)); (first | refine zgn ?_ | (refine zgy ?_; refine Q15 hS vw fd hlc ?_)))
                       all_goals (first | refine zgn ?_ | (refine zgy ?_; (first | (refine Q2v ?_) | (refine Q2P ?_) | (refine Q1p rfl rfl (fun hc => ?_) (fun hc => ?_)))))
                       all_goals ((first | (refine zpt ?_) | (refine zpf ?_)); refine zn ?_)
                       all_goals
                        first
                        | (refine zct ?_
                           all_goals (refine Q0 ?_; refine Q1 ?_; refine zm ?_; refine zm ?_; refine zn ?_; have hM : rmk m j.f s x = .error 1 := (by rw [Qd0 (by omega), Qo hjt, Q1n (QdA hx1 hdf (Q4O (by omega)))]); refine zr ?_; refine zf2 ?_)
                           all_goals (exact ⟨_, rfl, cx, _, St.refl hS, cd_e hM, Q26 hM, hS.sp⟩))
                        | (refine zcf ?_
                           all_goals refine zsk ?_)
                       all_goals (obtain ⟨t2, ht2⟩ : ∃ t, s.l[x1.toNat]? = some t := ⟨_, List.getElem?_eq_getElem (by omega)⟩; obtain ⟨d2, hd2, hrd2⟩ := hls.2 _ _ ht2; have hrd2' := hrd2; obtain ⟨vd2, rfl, hld2⟩ := Qr hrd2; have h2 := Q3f (s := s) (by omega) ht2; refine zC [(0, none), (1, none), (2, none), (3, none), (4, none), (5, none), (6, none), (7, none), (8, none), (9, none), (10, none), (11, none), (12, none), (13, some (some [1])), (14, some none), (15, none), (16, some none)] ?_; have hS := hS.drew; refine s_cq ?_; refine zf0 ?_; refine zt ?_; refine s_cq ?_; refine zl hS ?_; refine zt ?_; refine s_cq ?_; refine zm ?_; refine zt ?_; refine s_cq ?_; refine znc ?_; refine zt ?_; refine s_cq ?_; refine zf0 ?_; refine zt ?_; refine s_cq ?_; refine zl hS ?_; refine zt ?_; refine s_cq ?_; refine zf0 ?_; refine zt ?_; refine s_cq ?_; refine zl hS ?_; refine zt ?_; refine s_cq ?_; refine zm ?_; refine zt ?_; refine s_cq ?_; refine Q3P vw rfl ha rfl (by omega) ?_; intro b4 o4 cs4 x4 hat4 hx4 he4; obtain rfl := Q11 he4; obtain rfl : x1 = x4 := Option.some.inj (hx1.symm.trans hx4))
                       all_goals (refine zt ?_; refine s_cq ?_; (first | (refine zl hS ?_) | (refine zlk hS ?_)); refine zt ?_; refine s_cq ?_; refine Q2g hS vw rfl fd (by omega) (by omega) ?_; intro b5 o5 hel5; refine zt ?_; refine s_cq ?_; refine Q4n hS hel5 rfl fd rfl hd2 ?_; refine zt ?_; refine Qj ?_; refine zB1 hS [_, _, _] ?_; intro b1 w1 hS; refine zt ?_; refine zy ?_; refine s_cf ?_; refine za Q5q Q7W hS ?_; intro vp1 w1 css1 hls1 hv1 hS; have hS := hS.ns; refine zt ?_; refine s_cq ?_; refine zf0 ?_; refine zt ?_; refine s_cf ?_; refine zst hS ?_; intro w1 hS; have hS := hS.ns; refine zt ?_; refine zcn ?_; refine Q1 ?_; refine zm ?_; refine zad ?_; refine zm ?_; refine zn ?_; exact ⟨⟨q + 1, _, _, ts ++ [t2], zh, zh, (by omega), hls1, by simp [hlt], by assumption, Qdz hx1 hdf h2, hS.sp⟩, Qs (by omega)⟩)
                     · skip
                       all_goals (refine zex ?_; have hts := Qdy hdf (by omega); obtain ⟨c1, hle2, hS, hk1⟩ := St.freezeL (r := tyR) hS hlo rfl (by omega); have hrow := Q2C (k := 3) (r := t.r) hk1; have hls := hls.up hle2; obtain ⟨ao, no, rfl⟩ := Rep.SR.shape hk1; refine Q0 ?_; refine Q0 ?_; refine Q1 ?_; refine zv hS ?_; refine zR2 (c := QdY (.mk 3 t.r ts) hrow (by omega) (by omega) hS) (h := ?_); rintro v1 w1 ⟨rfl, hS⟩)
                       all_goals (first | (refine QL ?_) | (refine QQ ?_) | (refine Qe rfl rfl (fun hc => ?_) (fun hc => ?_)))
                       all_goals (refine zn ?_)
                       all_goals
                        first
                        | (refine zct ?_
                           all_goals (refine Q0 ?_; refine Q1 ?_; refine zm ?_; refine zm ?_; refine zn ?_; have hM : rmk m j.f s x = .error 19 := (by rw [Qd0 (by omega), Qo hjt, Qo hts]; exact if_pos (by omega)); refine zr ?_; refine zf2 ?_)
                           all_goals (first | (exact ⟨_, rfl, cx, _, St.refl hS, cd_e hM, Q26 hM, hS.sp⟩) | (exact ⟨_, rfl, cx, _, St.refl hS, cd_o hM, Q1e hM (Rep.SR.nil _ _ _), hS.sp⟩) | (exact ⟨_, rfl, cx, _, St.refl hS, cd_w hM hw, Q1e hM (Rep.SR.nil _ _ _), hS.sp⟩) | (obtain ⟨c9, hle9, hS, hk9⟩ := St.freeze1 (r := tyR) (L := KLf j s vl css L) hS.sp (hN : tyR.at _ _ number); exact ⟨_, rfl, c9, _, hle9, cd_c hC, Q4k hT hk9, hS⟩) | (obtain ⟨c9, hle9, hS, hk9⟩ := St.freeze1 (r := tyR) (L := KLf j s vl css L) hS.sp (hN : tyR.at _ _ number); exact ⟨_, rfl, c9, _, hle9, cd_o hM, Q1e hM hk9, hS⟩) | (obtain ⟨c9, hle9, hS, hk9⟩ := St.freeze1 (r := tyR) (L := KLf j s vl css L) hS.sp hrow; exact ⟨_, rfl, c9, _, hle9, cd_o hM, Q1e hM hk9, hS⟩) | (obtain ⟨c9, hle9, hS, hk9⟩ := St.freeze1 (r := tyR) (L := KLf j s vl css L) hS.sp hrow; exact ⟨_, rfl, c9, _, hle2.trans hle9, cd_o hM, Q1e hM hk9, hS⟩) | (exact ⟨_, rfl, c1, _, hle2, cd_e hM, Q26 hM, hS.sp⟩)))
                        | (refine zcf ?_
                           all_goals refine zsk ?_)
                       all_goals (refine Q0 ?_; refine Q1 ?_; refine zv hS ?_; refine Q1J (cs := [_, _, _]) vw (by rfl) ?_; intro ob w1 hb1 hf1 _ hk1; have hS := hS.laid hb1 hf1 hk1; refine zm ?_; refine zm ?_; refine zn ?_; have hM : rmk m j.f s x = .ok [.mk 3 t.r ts] := (by rw [Qd0 (by omega), Qo hjt, Qo hts]; exact if_neg (by omega)); refine zr ?_; refine zf2 ?_)
                       all_goals (first | (exact ⟨_, rfl, cx, _, St.refl hS, cd_e hM, Q26 hM, hS.sp⟩) | (exact ⟨_, rfl, cx, _, St.refl hS, cd_o hM, Q1e hM (Rep.SR.nil _ _ _), hS.sp⟩) | (exact ⟨_, rfl, cx, _, St.refl hS, cd_w hM hw, Q1e hM (Rep.SR.nil _ _ _), hS.sp⟩) | (obtain ⟨c9, hle9, hS, hk9⟩ := St.freeze1 (r := tyR) (L := KLf j s vl css L) hS.sp (hN : tyR.at _ _ number); exact ⟨_, rfl, c9, _, hle9, cd_c hC, Q4k hT hk9, hS⟩) | (obtain ⟨c9, hle9, hS, hk9⟩ := St.freeze1 (r := tyR) (L := KLf j s vl css L) hS.sp (hN : tyR.at _ _ number); exact ⟨_, rfl, c9, _, hle9, cd_o hM, Q1e hM hk9, hS⟩) | (obtain ⟨c9, hle9, hS, hk9⟩ := St.freeze1 (r := tyR) (L := KLf j s vl css L) hS.sp hrow; exact ⟨_, rfl, c9, _, hle9, cd_o hM, Q1e hM hk9, hS⟩) | (obtain ⟨c9, hle9, hS, hk9⟩ := St.freeze1 (r := tyR) (L := KLf j s vl css L) hS.sp hrow; exact ⟨_, rfl, c9, _, hle2.trans hle9, cd_o hM, Q1e hM hk9, hS⟩)))
                  | (refine zcf ?_
                     all_goals (refine Q0 ?_; refine Q0 ?_; refine Q1 ?_)
                     all_goals (first | (refine Qg ?_) | (refine Qm ?_) | (refine Qb rfl rfl (fun hc => ?_) (fun hc => ?_)))
                     all_goals (refine zm ?_; refine zn ?_)
                     all_goals
                      first
                      | (refine zct ?_
                         all_goals refine zsk ?_)
                      | (refine zcf ?_
                         all_goals (refine Q1 ?_)
                         all_goals (first | (refine Qg ?_) | (refine Qm ?_) | (refine Qb rfl rfl (fun hc => ?_) (fun hc => ?_)))
                         all_goals (refine zm ?_)
                         all_goals refine zn ?_)
                     all_goals
                      first
                      | (refine zcf ?_
                         all_goals (refine Q0 ?_; refine Q1 ?_)
                         all_goals (first | (refine Qg ?_) | (refine Qm ?_) | (refine Qb rfl rfl (fun hc => ?_) (fun hc => ?_)))
                         all_goals (refine zm ?_; refine zn ?_)
                         all_goals
                          first
                          | (refine zct ?_
                             all_goals (refine Q0 ?_; refine Q0 ?_; refine zC [(0, none), (1, none), (2, none), (4, none), (5, none), (6, none), (3, some (some [6])), (7, some none), (8, some none), (9, some none), (10, some none)] ?_; have hS := hS.drew; refine s_cq ?_; refine zm ?_; refine zt ?_; refine s_cq ?_; refine zf0 ?_; refine zt ?_; refine s_cq ?_; refine zl hS ?_; refine zt ?_; refine s_cq ?_; refine zm ?_; refine zt ?_; refine s_cq ?_; refine zf0 ?_; refine zt ?_; refine s_cq ?_; refine zl hS ?_; refine zt ?_; refine Qj ?_; refine zR4 (c := Q2a (s := s) (k := x.a) (kd := 2) (held := true) hls hS.p3) (h := ?_); rintro v1 w1 ⟨rfl, hS⟩; refine zt ?_; refine zy ?_; refine s_cf ?_; refine zR4 (c := Q2a (s := s) (k := x.b) (kd := 1) (held := false) hls hS.p3) (h := ?_); rintro v1 w1 ⟨rfl, hS⟩; refine zt ?_; refine s_cf ?_; refine Q6G (cs := [_, _]) vw vw (by rfl) ?_; intro fb w1 hb1 hf1 _ hk1; have hS := hS.laid hb1 hf1 hk1; have hS := St.slOf (es := 1) (css := [Q14 s x.a 2 true, Q14 s x.b 1 false].map Q38) hS rfl (by simp [Q38]) rfl; refine zt ?_; refine s_cf ?_; refine zR1 (c := Q6p (xs := [Q14 s x.a 2 true, Q14 s x.b 1 false]) (by simp) hS) (h := ?_); rintro v1 w1 ⟨rfl, hS⟩)
                             all_goals (refine zt ?_; refine s_cf ?_; refine zm ?_; refine zt ?_; refine zcn ?_; refine Q0 ?_; refine Q1 ?_; refine zm ?_)
                             all_goals (first | (refine QJ ?_) | (refine QN ?_) | (refine Ql rfl rfl (fun hc => ?_) (fun hc => ?_)))
                             all_goals (refine zn ?_)
                             all_goals
                              first
                              | (refine zct ?_
                                 all_goals (refine Q0 ?_; refine Q1 ?_; refine zm ?_; refine zm ?_; refine zm ?_; refine zn ?_; have hM : rmk m j.f s x = .error (Q1E [Q14 s x.a 2 true, Q14 s x.b 1 false]) := (by rw [rmk_8 (by omega), Q5B, Q3u]; exact Qbr (Q6S _ _ _) (by rw [← Q5B, ← Q3u]; omega) _); refine zr ?_; refine zf2 ?_)
                                 all_goals (exact ⟨_, rfl, cx, _, St.refl hS, cd_e hM, Q26 hM, hS.sp⟩))
                              | (refine zcf ?_
                                 all_goals refine zsk ?_)
                             all_goals (refine Q0 ?_; obtain ⟨t, tb, hjt, hjb⟩ := Qbq (x := jat s x.a 2) (y := jkind s x.b 1) (Q6S _ _ _) (Q2q _ _ _) (by rw [← Q5B, ← Q3u]; omega); obtain ⟨g0, ht, hk, hb⟩ := Q5c hjt; have g1 := (List.getElem?_eq_some_iff.1 ht).1; obtain ⟨d, hd, hrd⟩ := hls.2 _ _ ht; obtain ⟨vd, rfl, hld⟩ := Qr hrd; refine zD [(0, none), (1, none), (2, none), (3, none), (4, none), (5, none), (6, none), (7, none), (8, none), (9, none), (10, some none), (11, none), (12, some none)] ?_; have hS := hS.drew; refine zm ?_; refine znc ?_; refine zf0 ?_; refine zl hS ?_; refine zf0 ?_; refine zl hS ?_; refine Q2g hS vw rfl fd (by omega) (by omega) ?_; intro b1 o1 hel1; (first | refine zf0 ?_ | refine zfd ?_); refine Q8 (j := 1) hS hel1 rfl fd rfl hd rfl ?_; refine zb2 [_, _, _] ?_; refine Q1J (cs := [_, _, _]) vw (by rfl) ?_; intro ob w1 hb1 hf1 _ hk1; have hS := hS.laid hb1 hf1 hk1; refine zm ?_; refine zm ?_; refine zn ?_; have hM : rmk m j.f s x = .ok [.mk 4 t.r []] := (by rw [rmk_8 (by omega), Qo hjt, Qo hjb]); have hrow : ∀ {c : Cx}, tyR.at c [.int .i64 4, .int .i64 t.r, .slice none 0 0] (.mk 4 t.r []) := Q2C (Rep.SR.nil _ _ _))
                             all_goals (refine zr ?_; refine zf2 ?_)
                             all_goals (first | (exact ⟨_, rfl, cx, _, St.refl hS, cd_e hM, Q26 hM, hS.sp⟩) | (exact ⟨_, rfl, cx, _, St.refl hS, cd_o hM, Q1e hM (Rep.SR.nil _ _ _), hS.sp⟩) | (exact ⟨_, rfl, cx, _, St.refl hS, cd_w hM hw, Q1e hM (Rep.SR.nil _ _ _), hS.sp⟩) | (obtain ⟨c9, hle9, hS, hk9⟩ := St.freeze1 (r := tyR) (L := KLf j s vl css L) hS.sp (hN : tyR.at _ _ number); exact ⟨_, rfl, c9, _, hle9, cd_c hC, Q4k hT hk9, hS⟩) | (obtain ⟨c9, hle9, hS, hk9⟩ := St.freeze1 (r := tyR) (L := KLf j s vl css L) hS.sp (hN : tyR.at _ _ number); exact ⟨_, rfl, c9, _, hle9, cd_o hM, Q1e hM hk9, hS⟩) | (obtain ⟨c9, hle9, hS, hk9⟩ := St.freeze1 (r := tyR) (L := KLf j s vl css L) hS.sp hrow; exact ⟨_, rfl, c9, _, hle9, cd_o hM, Q1e hM hk9, hS⟩)))
                          | (refine zcf ?_
                             all_goals (refine Q0 ?_; refine Q1 ?_)
                             all_goals (first | (refine Qg ?_) | (refine Qm ?_) | (refine Qb rfl rfl (fun hc => ?_) (fun hc => ?_)))
                             all_goals (refine zm ?_; refine zn ?_)
                             all_goals
                              first
                              | (refine zct ?_
                                 all_goals (refine Q0 ?_; refine zC [(0, none), (1, none), (2, none), (3, none), (5, none), (6, none), (7, none), (4, some (some [7])), (8, some (some [])), (9, some (some [])), (10, some (some [])), (11, none), (12, some none)] ?_; have hS := hS.drew; refine s_cq ?_; refine zm ?_; refine zt ?_; refine s_cq ?_; refine zm ?_; refine zt ?_; refine s_cq ?_; refine zf0 ?_; refine zt ?_; refine s_cq ?_; refine zl hS ?_; refine zt ?_; refine s_cq ?_; refine zm ?_; refine zt ?_; refine s_cq ?_; refine zf0 ?_; refine zt ?_; refine s_cq ?_; refine zl hS ?_; refine zt ?_; refine Qj ?_; refine zR4 (c := Q2a (s := s) (k := x.a) (kd := 4) (held := true) hls hS.p3) (h := ?_); rintro v1 w1 ⟨rfl, hS⟩; refine zt ?_; refine zy ?_; refine Qj ?_; refine zR4 (c := Q2a (s := s) (k := x.b) (kd := 1) (held := false) hls hS.p3) (h := ?_); rintro v1 w1 ⟨rfl, hS⟩; refine zt ?_; refine zy ?_; refine Qj ?_; refine Q6G (cs := [_, _]) vw vw (by rfl) ?_; intro fb w1 hb1 hf1 _ hk1; have hS := hS.laid hb1 hf1 hk1; have hS := St.slOf (es := 1) (css := [Q14 s x.a 4 true, Q14 s x.b 1 false].map Q38) hS rfl (by simp [Q38]) rfl; refine zt ?_; refine zy ?_; refine Qj ?_; refine zR1 (c := Q6p (xs := [Q14 s x.a 4 true, Q14 s x.b 1 false]) (by simp) hS) (h := ?_); rintro v1 w1 ⟨rfl, hS⟩)
                                 all_goals (refine zt ?_; refine zy ?_; refine s_cq ?_; refine zm ?_; refine zt ?_; refine s_cf ?_; refine zm ?_; refine zt ?_; refine zcn ?_)
                                 all_goals (have hC : QI (rmk m j.f s x) = Q1E [Q14 s x.a 4 true, Q14 s x.b 1 false] := (by rw [rmk_9 (by omega), Q5B, Q3u]; exact Q8w (Q6S _ _ _) (Q2q _ _ _) _); have hT : ∀ ts, rmk m j.f s x = .ok ts → ts = [number] := (fun ts h => by rw [rmk_9 (by omega)] at h; exact ok1 h fun _ h => ok1 h fun _ h => by cases h; rfl))
                                 all_goals (refine zr ?_; refine zf2 ?_)
                                 all_goals (first | (exact ⟨_, rfl, cx, _, St.refl hS, cd_e hM, Q26 hM, hS.sp⟩) | (exact ⟨_, rfl, cx, _, St.refl hS, cd_o hM, Q1e hM (Rep.SR.nil _ _ _), hS.sp⟩) | (exact ⟨_, rfl, cx, _, St.refl hS, cd_w hM hw, Q1e hM (Rep.SR.nil _ _ _), hS.sp⟩) | (obtain ⟨c9, hle9, hS, hk9⟩ := St.freeze1 (r := tyR) (L := KLf j s vl css L) hS.sp (hN : tyR.at _ _ number); exact ⟨_, rfl, c9, _, hle9, cd_c hC, Q4k hT hk9, hS⟩)))
                              | (refine zcf ?_
                                 all_goals (refine Q0 ?_; refine Q1 ?_)
                                 all_goals (first | (refine Qg ?_) | (refine Qm ?_) | (refine Qb rfl rfl (fun hc => ?_) (fun hc => ?_)))
                                 all_goals (refine zm ?_; refine zn ?_)
                                 all_goals
                                  first
                                  | (refine zct ?_
                                     all_goals (refine Q0 ?_; refine zC [(0, none), (1, none), (2, none), (4, none), (5, none), (6, none), (8, none), (9, none), (10, none), (3, some (some [6, 10])), (7, some (some [10])), (11, some none), (12, some none), (13, some none), (14, none), (15, some none)] ?_; have hS := hS.drew; refine s_cq ?_; refine zm ?_; refine zt ?_; refine s_cq ?_; refine zf0 ?_; refine zt ?_; refine s_cq ?_; refine zl hS ?_; refine zt ?_; refine s_cq ?_; refine zm ?_; refine zt ?_; refine s_cq ?_; refine zf0 ?_; refine zt ?_; refine s_cq ?_; refine zl hS ?_; refine zt ?_; refine s_cq ?_; refine zm ?_; refine zt ?_; refine s_cq ?_; refine zf0 ?_; refine zt ?_; refine s_cq ?_; refine zl hS ?_; refine zt ?_; refine Qj ?_; refine zR4 (c := Q2a (s := s) (k := x.a) (kd := 4) (held := true) hls hS.p3) (h := ?_); rintro v1 w1 ⟨rfl, hS⟩; refine zt ?_; refine zy ?_; refine Qj ?_; refine zR4 (c := Q2a (s := s) (k := x.b) (kd := 1) (held := false) hls hS.p3) (h := ?_); rintro v1 w1 ⟨rfl, hS⟩; refine zt ?_; refine zy ?_; refine s_cf ?_; refine zR4 (c := Q2a (s := s) (k := x.c) (kd := 1) (held := false) hls hS.p3) (h := ?_); rintro v1 w1 ⟨rfl, hS⟩)
                                     all_goals (refine zt ?_; refine s_cf ?_; refine QcQ (cs := [_, _, _]) vw vw vw (by rfl) ?_; intro fb w1 hb1 hf1 _ hk1; have hS := hS.laid hb1 hf1 hk1; have hS := St.slOf (es := 1) (css := [Q14 s x.a 4 true, Q14 s x.b 1 false, Q14 s x.c 1 false].map Q38) hS rfl (by simp [Q38]) rfl; refine zt ?_; refine s_cf ?_; refine zR1 (c := Q6p (xs := [Q14 s x.a 4 true, Q14 s x.b 1 false, Q14 s x.c 1 false]) (by simp) hS) (h := ?_); rintro v1 w1 ⟨rfl, hS⟩; refine zt ?_; refine s_cq ?_; refine zm ?_; refine zt ?_; refine s_cf ?_; refine zm ?_; refine zt ?_; refine zcn ?_)
                                     all_goals (have hC : QI (rmk m j.f s x) = Q1E [Q14 s x.a 4 true, Q14 s x.b 1 false, Q14 s x.c 1 false] := (by rw [Qd3 (by omega), Q5B, Q3u, Q3u]; exact first3_c (Q6S _ _ _) (Q2q _ _ _) (Q2q _ _ _) _); have hT : ∀ ts, rmk m j.f s x = .ok ts → ts = [] := (fun ts h => by rw [Qd3 (by omega)] at h; exact ok1 h fun _ h => ok1 h fun _ h => ok1 h fun _ h => by cases h; rfl))
                                     all_goals (refine zr ?_; refine zf2 ?_)
                                     all_goals (first | (exact ⟨_, rfl, cx, _, St.refl hS, cd_e hM, Q26 hM, hS.sp⟩) | (exact ⟨_, rfl, cx, _, St.refl hS, cd_o hM, Q1e hM (Rep.SR.nil _ _ _), hS.sp⟩) | (exact ⟨_, rfl, cx, _, St.refl hS, cd_w hM hw, Q1e hM (Rep.SR.nil _ _ _), hS.sp⟩) | (obtain ⟨c9, hle9, hS, hk9⟩ := St.freeze1 (r := tyR) (L := KLf j s vl css L) hS.sp (hN : tyR.at _ _ number); exact ⟨_, rfl, c9, _, hle9, cd_c hC, Q4k hT hk9, hS⟩) | (obtain ⟨c9, hle9, hS, hk9⟩ := St.freeze1 (r := tyR) (L := KLf j s vl css L) hS.sp (hN : tyR.at _ _ number); exact ⟨_, rfl, c9, _, hle9, cd_o hM, Q1e hM hk9, hS⟩) | (obtain ⟨c9, hle9, hS, hk9⟩ := St.freeze1 (r := tyR) (L := KLf j s vl css L) hS.sp hrow; exact ⟨_, rfl, c9, _, hle9, cd_o hM, Q1e hM hk9, hS⟩) | (obtain ⟨c9, hle9, hS, hk9⟩ := St.freeze1 (r := tyR) (L := KLf j s vl css L) hS.sp hrow; exact ⟨_, rfl, c9, _, hle2.trans hle9, cd_o hM, Q1e hM hk9, hS⟩) | (exact ⟨_, rfl, c1, _, hle2, cd_e hM, Q26 hM, hS.sp⟩) | (exact ⟨_, rfl, cx, _, St.refl hS, cd_c hC, Q4k hT (Rep.SR.nil _ _ _), hS.sp⟩)))
                                  | (refine zcf ?_
                                     all_goals (refine Q0 ?_; refine Q1 ?_)
                                     all_goals (first | (refine Qg ?_) | (refine Qm ?_) | (refine Qb rfl rfl (fun hc => ?_) (fun hc => ?_)))
                                     all_goals (refine zm ?_; refine zn ?_)
                                     all_goals
                                      first
                                      | (refine zct ?_
                                         all_goals (refine Q0 ?_; refine Q1 ?_; refine zm ?_; refine zm ?_; refine zf0 ?_; refine zl hS ?_; refine zR4 (c := Q2a (s := s) (k := x.a) (kd := 4) (held := true) hls hS.p3) (h := ?_); rintro v1 w1 ⟨rfl, hS⟩; refine zm ?_; refine zm ?_; refine zn ?_)
                                         all_goals (have hC : QI (rmk m j.f s x) = Q14 s x.a 4 true := (by rw [Qd2 (by omega), Q5B]; cases jat s x.a 4 <;> rfl); have hT : ∀ ts, rmk m j.f s x = .ok ts → ts = [number] := (fun ts h => by rw [Qd2 (by omega)] at h; exact ok1 h fun _ h => by cases h; rfl))
                                         all_goals (refine zr ?_; refine zf2 ?_)
                                         all_goals (first | (exact ⟨_, rfl, cx, _, St.refl hS, cd_e hM, Q26 hM, hS.sp⟩) | (exact ⟨_, rfl, cx, _, St.refl hS, cd_o hM, Q1e hM (Rep.SR.nil _ _ _), hS.sp⟩) | (exact ⟨_, rfl, cx, _, St.refl hS, cd_w hM hw, Q1e hM (Rep.SR.nil _ _ _), hS.sp⟩) | (obtain ⟨c9, hle9, hS, hk9⟩ := St.freeze1 (r := tyR) (L := KLf j s vl css L) hS.sp (hN : tyR.at _ _ number); exact ⟨_, rfl, c9, _, hle9, cd_c hC, Q4k hT hk9, hS⟩)))
                                      | (refine zcf ?_
                                         all_goals (refine Q0 ?_; refine Q1 ?_)
                                         all_goals (first | (refine Qg ?_) | (refine Qm ?_) | (refine Qb rfl rfl (fun hc => ?_) (fun hc => ?_)))
                                         all_goals (refine zm ?_; refine zn ?_)
                                         all_goals
                                          first
                                          | (refine zct ?_
                                             all_goals (refine Q0 ?_; refine Q1 ?_; refine zm ?_; refine zf0 ?_; refine zl hS ?_; refine zR4 (c := Q2a (s := s) (k := x.a) (kd := 1) (held := false) hls hS.p3) (h := ?_); rintro v1 w1 ⟨rfl, hS⟩; refine zm ?_; refine zm ?_; refine zn ?_)
                                             all_goals (have hC : QI (rmk m j.f s x) = Q14 s x.a 1 false := (by rw [Qd1 (by omega), Q3u]; cases jkind s x.a 1 <;> rfl); have hT : ∀ ts, rmk m j.f s x = .ok ts → ts = [] := (fun ts h => by rw [Qd1 (by omega)] at h; exact ok1 h fun _ h => by cases h; rfl))
                                             all_goals (refine zr ?_; refine zf2 ?_)
                                             all_goals (first | (exact ⟨_, rfl, cx, _, St.refl hS, cd_e hM, Q26 hM, hS.sp⟩) | (exact ⟨_, rfl, cx, _, St.refl hS, cd_o hM, Q1e hM (Rep.SR.nil _ _ _), hS.sp⟩) | (exact ⟨_, rfl, cx, _, St.refl hS, cd_w hM hw, Q1e hM (Rep.SR.nil _ _ _), hS.sp⟩) | (obtain ⟨c9, hle9, hS, hk9⟩ := St.freeze1 (r := tyR) (L := KLf j s vl css L) hS.sp (hN : tyR.at _ _ number); exact ⟨_, rfl, c9, _, hle9, cd_c hC, Q4k hT hk9, hS⟩) | (obtain ⟨c9, hle9, hS, hk9⟩ := St.freeze1 (r := tyR) (L := KLf j s vl css L) hS.sp (hN : tyR.at _ _ number); exact ⟨_, rfl, c9, _, hle9, cd_o hM, Q1e hM hk9, hS⟩) | (obtain ⟨c9, hle9, hS, hk9⟩ := St.freeze1 (r := tyR) (L := KLf j s vl css L) hS.sp hrow; exact ⟨_, rfl, c9, _, hle9, cd_o hM, Q1e hM hk9, hS⟩) | (obtain ⟨c9, hle9, hS, hk9⟩ := St.freeze1 (r := tyR) (L := KLf j s vl css L) hS.sp hrow; exact ⟨_, rfl, c9, _, hle2.trans hle9, cd_o hM, Q1e hM hk9, hS⟩) | (exact ⟨_, rfl, c1, _, hle2, cd_e hM, Q26 hM, hS.sp⟩) | (exact ⟨_, rfl, cx, _, St.refl hS, cd_c hC, Q4k hT (Rep.SR.nil _ _ _), hS.sp⟩)))
                                          | (refine zcf ?_
                                             all_goals refine zsk ?_))))))
                      | (refine zct ?_
                         all_goals (refine Q0 ?_; refine Q0 ?_; refine Q1 ?_; refine zm ?_; refine zf0 ?_; refine zl hS ?_; refine zR4 (c := Q2a (s := s) (k := x.a) (kd := 3) (held := true) hls hS.p3) (h := ?_); rintro v1 w1 ⟨rfl, hS⟩; refine zm ?_; refine zn ?_; refine Q0 ?_; refine Q1 ?_; refine zm ?_)
                         all_goals (first | (refine QJ ?_) | (refine QN ?_) | (refine Ql rfl rfl (fun hc => ?_) (fun hc => ?_)))
                         all_goals (refine zn ?_)
                         all_goals
                          first
                          | (refine zct ?_
                             all_goals (refine Q0 ?_; refine Q1 ?_; refine zm ?_; refine zm ?_; refine zm ?_; refine zn ?_; have hM : rmk m j.f s x = .error (Q14 s x.a 3 true) := rmk_67e (by omega) (Q6x (by omega)); refine zr ?_; refine zf2 ?_)
                             all_goals (exact ⟨_, rfl, cx, _, St.refl hS, cd_e hM, Q26 hM, hS.sp⟩))
                          | (refine zcf ?_
                             all_goals refine zsk ?_)
                         all_goals (refine Q0 ?_; refine Q0 ?_; have hxk := QdI hF (by omega); obtain ⟨t, g0, g1, ht, hk, hb, hjt⟩ := Q7U (s := s) (k := x.a) (kd := 3) (by omega); obtain ⟨d, hd, hrd⟩ := hls.2 _ _ ht; have hrt := hrd; obtain ⟨vd, rfl, hld⟩ := Qr hrd; refine zD [(0, none), (1, none), (2, none), (3, none), (4, none), (5, none), (6, none), (7, none), (8, none), (9, none), (10, none), (11, none), (12, some none)] ?_; have hS := hS.drew; refine zf0 ?_; refine zl hS ?_; refine zm ?_; refine znc ?_; refine zf0 ?_; refine zl hS ?_; refine zf0 ?_; refine zl hS ?_; refine Q2g hS vw rfl fd (by omega) (by omega) ?_; intro b1 o1 hel1; (first | refine zf0 ?_ | refine zfd ?_); refine Q8 (j := 2) hS hel1 rfl fd rfl hd rfl ?_; refine QaL vw hld ?_)
                         all_goals (first | (refine Q2v ?_) | (refine Q2P ?_) | (refine Q1p rfl rfl (fun hc => ?_) (fun hc => ?_)))
                         all_goals (refine zn ?_)
                         all_goals
                          first
                          | (refine zct ?_
                             all_goals (refine Q0 ?_; refine Q1 ?_; refine zm ?_; refine zm ?_; refine zn ?_; have hM : rmk m j.f s x = .error 9 := rmk_67f (by omega) hjt (List.getElem?_eq_none (by omega)); refine zr ?_; refine zf2 ?_)
                             all_goals (exact ⟨_, rfl, cx, _, St.refl hS, cd_e hM, Q26 hM, hS.sp⟩))
                          | (refine zcf ?_
                             all_goals refine zsk ?_)
                         all_goals (refine Q0 ?_; refine zC [(0, none), (1, none), (2, none), (3, none), (4, none), (5, none), (6, none), (7, none), (8, none), (9, none), (10, none), (11, none), (12, none), (13, some (some [3, 5, 8, 10, 12])), (14, some none)] ?_; have hS := hS.drew; refine s_cq ?_; refine zm ?_; refine zt ?_; refine s_cq ?_; refine znc ?_; refine zt ?_; refine s_cq ?_; refine zf0 ?_; refine zt ?_; refine s_cq ?_; refine zl hS ?_; refine zt ?_; refine s_cq ?_; refine zf0 ?_; refine zt ?_; refine s_cq ?_; refine zl hS ?_; refine zt ?_; refine s_cq ?_; refine Q2g hS vw rfl fd (by omega) (by omega) ?_; intro b2 o2 hel2; refine zt ?_; refine s_cq ?_; (first | refine zf0 ?_ | refine zfd ?_); refine zt ?_; refine s_cq ?_; refine Q8 (j := 2) hS hel2 rfl fd rfl hd rfl ?_; refine zt ?_; refine s_cq ?_; refine zf0 ?_; refine zt ?_; refine s_cq ?_; refine zl hS ?_; refine zt ?_; refine s_cq ?_; refine Q8T vw rfl hld rfl (by omega) (by omega) ?_; intro b3 o3 cs3 u3 hat3 hu3 hru3; have hrow := hru3; obtain ⟨vu3, rfl, hlu3⟩ := Qr hru3; have hjf := QbR hu3)
                         all_goals (refine zt ?_; refine s_cq ?_; (first | (refine zv hS ?_) | (refine zvk hS ?_)); refine zt ?_; refine Qj ?_; refine Q5 hS ?_; intro p12 w1 hS; refine zt ?_; refine ⟨List.forall_mem_cons.2 ⟨(by first | (exact QP (j := 2) hS hel2 rfl fd rfl hd rfl) | (exact Q20 hS rfl fd rfl)), List.forall_mem_cons.2 ⟨(by first | (exact QP (j := 2) hS hel2 rfl fd rfl hd rfl) | (exact Q20 hS rfl fd rfl)), List.forall_mem_cons.2 ⟨(by (exact QP (j := 2) hS hel2 rfl fd rfl hd rfl)), List.forall_mem_cons.2 ⟨(by first | (exact QP (j := 2) hS hel2 rfl fd rfl hd rfl) | (exact Q20 hS rfl fd rfl)), List.forall_mem_cons.2 ⟨(by first | (exact QP (j := 2) hS hel2 rfl fd rfl hd rfl) | (exact Q4c hS rfl fd rfl rfl) | (exact Q3r hS (by assumption) rfl rfl rfl)), fun _ h => (List.not_mem_nil h).elim⟩⟩⟩⟩⟩, ?_⟩)
                         all_goals (refine s_cf ?_; refine zsn hS ?_; intro w1 hS; have hS := hS.ns; refine zt ?_; refine zcn ?_; refine Q0 ?_; refine Q0 ?_; refine Q1 ?_; refine zf0 ?_; refine zl hS ?_)
                         all_goals (first | (refine Qg ?_) | (refine Qm ?_))
                         all_goals (refine zn ?_)
                         all_goals
                          first
                          | (refine zct ?_
                             all_goals (refine Q0 ?_; refine Q1 ?_; refine zv hS ?_; refine Q1J (cs := [_, _, _]) vw (by rfl) ?_; intro ob w1 hb1 hf1 _ hk1; have hS := hS.laid hb1 hf1 hk1; refine zm ?_; refine zm ?_; refine zn ?_; have hM : rmk m j.f s x = .ok [u3] := (by rw [rmk_6 (by omega), Qo hjt, Qo hjf]); refine zr ?_; refine zf2 ?_)
                             all_goals (first | (exact ⟨_, rfl, cx, _, St.refl hS, cd_e hM, Q26 hM, hS.sp⟩) | (exact ⟨_, rfl, cx, _, St.refl hS, cd_o hM, Q1e hM (Rep.SR.nil _ _ _), hS.sp⟩) | (exact ⟨_, rfl, cx, _, St.refl hS, cd_w hM hw, Q1e hM (Rep.SR.nil _ _ _), hS.sp⟩) | (obtain ⟨c9, hle9, hS, hk9⟩ := St.freeze1 (r := tyR) (L := KLf j s vl css L) hS.sp (hN : tyR.at _ _ number); exact ⟨_, rfl, c9, _, hle9, cd_c hC, Q4k hT hk9, hS⟩) | (obtain ⟨c9, hle9, hS, hk9⟩ := St.freeze1 (r := tyR) (L := KLf j s vl css L) hS.sp (hN : tyR.at _ _ number); exact ⟨_, rfl, c9, _, hle9, cd_o hM, Q1e hM hk9, hS⟩) | (obtain ⟨c9, hle9, hS, hk9⟩ := St.freeze1 (r := tyR) (L := KLf j s vl css L) hS.sp hrow; exact ⟨_, rfl, c9, _, hle9, cd_o hM, Q1e hM hk9, hS⟩)))
                          | (refine zcf ?_
                             all_goals refine zsk ?_)
                         all_goals (refine Q0 ?_; refine Q0 ?_; refine zD [(0, none), (1, none), (2, none), (3, none), (4, none), (5, none), (6, none), (7, none), (8, none), (9, none), (10, none), (11, none), (12, some none)] ?_; have hS := hS.drew; refine zf0 ?_; refine zl hS ?_)
                         all_goals (first | (refine Q18 ?_) | (refine Q1c ?_) | (refine Qy rfl rfl (fun hc => ?_) (fun hc => ?_)))
                         all_goals (refine zm ?_; (first | refine zgn ?_ | (refine zgy ?_; refine zf0 ?_)); (first | refine zgn ?_ | (refine zgy ?_; refine zl hS ?_)); (first | refine zgn ?_ | (refine zgy ?_; refine zm ?_)); (first | refine zgn ?_ | (refine zgy ?_; refine znc ?_)); (first | refine zgn ?_ | (refine zgy ?_; refine zf0 ?_)); (first | refine zgn ?_ | (refine zgy ?_; refine zl hS ?_)); (first | refine zgn ?_ | (refine zgy ?_; refine Q15 hS vw fd hlc ?_)))
                         all_goals (first | refine zgn ?_ | (refine zgy ?_; (first | (refine Q2v ?_) | (refine Q2P ?_) | (refine Q1p rfl rfl (fun hc => ?_) (fun hc => ?_)))))
                         all_goals ((first | (refine zpt ?_) | (refine zpf ?_)); refine zn ?_)
                         all_goals
                          first
                          | (refine zct ?_
                             all_goals (refine Q0 ?_; refine Q1 ?_; refine zm ?_; refine zm ?_; refine zn ?_; have hM : rmk m j.f s x = .error 1 := (by rw [QbH (by omega), Qo hjt, Qo hjf, Q1n (Q4O (by omega))]); refine zr ?_; refine zf2 ?_)
                             all_goals (exact ⟨_, rfl, cx, _, St.refl hS, cd_e hM, Q26 hM, hS.sp⟩))
                          | (refine zcf ?_
                             all_goals refine zsk ?_)
                         all_goals (refine Q0 ?_; refine Q0 ?_; obtain ⟨t4, ht4⟩ : ∃ t, s.l[x.b.toNat]? = some t := ⟨_, List.getElem?_eq_getElem (by omega)⟩; obtain ⟨d4, hd4, hrd4⟩ := hls.2 _ _ ht4; have hrt4 := hrd4; obtain ⟨vd4, rfl, hld4⟩ := Qr hrd4; have hj4 := Q3f (s := s) (k := x.b) (by omega) ht4; refine zD [(0, none), (1, none), (2, none), (3, none), (4, none), (5, none), (6, none), (7, none), (8, none), (9, some none), (10, some none)] ?_; have hS := hS.drew; refine zv hS ?_; refine zm ?_; refine znc ?_; refine zf0 ?_; refine zl hS ?_; refine zf0 ?_; refine zl hS ?_; refine Q2g hS vw rfl fd (by omega) (by omega) ?_; intro b4 o4 hel4; refine Q4n hS hel4 rfl fd rfl hd4 ?_)
                         all_goals (refine zR2 (c := Q9W _ _ hrow hrt4 hS) (h := ?_); rintro v1 w1 ⟨rfl, hS⟩; cases hdc : decide (u3 = t4))
                         all_goals (refine znt ?_; refine zn ?_)
                         all_goals
                          first
                          | (refine zct ?_
                             all_goals (refine Q0 ?_; refine Q1 ?_; refine zm ?_; refine zm ?_; refine zn ?_; have hM : rmk m j.f s x = .error 9 := (by rw [QbH (by omega), Qo hjt, Qo hjf, Qo hj4]; exact if_pos (of_decide_eq_false hdc)); refine zr ?_; refine zf2 ?_)
                             all_goals (exact ⟨_, rfl, cx, _, St.refl hS, cd_e hM, Q26 hM, hS.sp⟩))
                          | (refine zcf ?_
                             all_goals refine zsk ?_)
                         all_goals (refine Q0 ?_; refine Q1 ?_; refine zm ?_; refine zm ?_; refine zn ?_)
                         all_goals (have hM : rmk m j.f s x = .ok [] := (by rw [QbH (by omega), Qo hjt, Qo hjf, Qo hj4]; exact if_neg (fun h => h (of_decide_eq_true hdc))))
                         all_goals (refine zr ?_; refine zf2 ?_)
                         all_goals (first | (exact ⟨_, rfl, cx, _, St.refl hS, cd_e hM, Q26 hM, hS.sp⟩) | (exact ⟨_, rfl, cx, _, St.refl hS, cd_o hM, Q1e hM (Rep.SR.nil _ _ _), hS.sp⟩)))
                     all_goals (refine Q0 ?_; have hk := QdH hF (by omega); have hop14 : x.op = 14 := (by omega); refine zC [(0, none), (1, none), (2, none), (3, none), (4, none), (5, none), (6, none), (7, none), (8, none), (9, some (some [4, 6, 8])), (10, some none)] ?_; have hS := hS.drew; refine s_cq ?_; refine zm ?_; refine zt ?_; refine s_cq ?_; refine znc ?_; refine zt ?_; refine s_cq ?_; refine zf0 ?_; refine zt ?_; refine s_cq ?_; refine zf0 ?_; refine zt ?_; refine s_cq ?_; refine zl hS ?_; refine zt ?_; refine s_cq ?_; refine zf0 ?_; refine zt ?_; refine s_cq ?_; refine zl hS ?_; refine zt ?_; refine s_cq ?_; ((first | refine zi ?_ | refine zj ?_); intro b2 o2 cs2 x2 hat2 hx2 he2; obtain ⟨vp2, vr2, vb2, rfl, hp2, hr2, hb2⟩ := QM he2); refine zt ?_; refine s_cq ?_; (first | (refine zv hS ?_) | (refine zvk hS ?_)); refine zt ?_; refine Qj ?_; refine Q5 hS ?_; intro p14 w1 hS; refine zt ?_; refine zy ?_; refine s_cf ?_; refine zsn hS ?_; intro w1 hS; have hS := hS.ns)
                     all_goals (refine zt ?_; refine zcn ?_; have ej := rcall_k (m := m) (f := j.f) (s := s) hop14 hx2; have hsf := hm.2 x2 (List.mem_of_getElem? hx2); have hrl := hr2.len; have hrs := hsf.2.1.1; refine Q0 ?_; refine Q0 ?_; refine Q1 ?_; refine zf0 ?_; refine zl hS ?_; (first | (refine Q15 hS vw fd hlc ?_) | (refine zL ?_)); refine zf0 ?_; refine zl hS ?_)
                     all_goals (first | (refine QJ ?_) | (refine QN ?_) | (refine Ql rfl rfl (fun hc => ?_) (fun hc => ?_)))
                     all_goals (refine zn ?_)
                     all_goals
                      first
                      | (refine zct ?_
                         all_goals (refine Q0 ?_; refine Q1 ?_; refine zm ?_; refine zm ?_; refine zn ?_; have hM : rmk m j.f s x = .error 2 := ej.trans (if_pos (by omega)); refine zr ?_; refine zf2 ?_)
                         all_goals (exact ⟨_, rfl, cx, _, St.refl hS, cd_e hM, Q26 hM, hS.sp⟩))
                      | (refine zcf ?_
                         all_goals refine zsk ?_)
                     all_goals (refine Q0 ?_; refine Q0 ?_; refine Q1 ?_; refine zm ?_; refine zn ?_; refine Q9 ?_)
                     refine zoL hS [0, 3, 14] (fun A LL ρ' w' => ∃ (q : Nat), Has ρ' A ∧ Has ρ' [(15, .int .i64 q)] ∧ (q ≤ x.regs.length) ∧ (Q2p s.h [] x.regs = Q2p s.h (x.regs.take q) (x.regs.drop q)) ∧ (¬ (x.regs.length : Int) ≠ x2.regs) ∧ St cx w' (LL)) (fun ρ' _ => (x.regs.length - iv (ρ' 15)).toNat) ?_ ?_
                     · exact ⟨0, zh, zh, (by omega), by rfl, by omega, hS.sp⟩
                     rintro ρ w1 ⟨q, hA, hρ, hq, hdr, hne, hS⟩; obtain ⟨ρ, rfl⟩ := env2 hA hρ
                     all_goals (refine Q0 ?_; refine Q0 ?_; refine Q1 ?_; refine zm ?_; refine zf0 ?_; refine zl hS ?_; (first | (refine Q15 hS vw fd hlc ?_) | (refine zL ?_)); refine QA rfl rfl ?_; refine zn ?_)
                     refine Qq rfl (fun hc => ?_) (fun hc => ?_)
                     · skip
                       all_goals (refine zsk ?_; refine Q0 ?_; refine Q9 ?_; refine Q0 ?_; refine Q0 ?_; refine zD [(0, none), (1, none), (2, none), (3, none), (4, none), (5, none), (6, none), (7, none), (8, none), (9, some none), (10, some none)] ?_; have hS := hS.drew; refine zm ?_; refine znc ?_; refine zf0 ?_; refine zl hS ?_; refine zf0 ?_; refine zl hS ?_; refine zm ?_; refine zi ?_; intro b3 o3 cs3 x3 hat3 hx3 he3; obtain rfl := Q11 he3; (first | (refine zl hS ?_) | (refine zlk hS ?_)))
                       all_goals (refine zR2 (c := rhas_c hS fd) (h := ?_); rintro v1 w1 ⟨rfl, hS⟩; cases hb1 : hasB s.h x3)
                       all_goals (refine znt ?_; refine zn ?_)
                       all_goals
                        first
                        | (refine zct ?_
                           all_goals (refine Q0 ?_; refine Q1 ?_; refine zm ?_; refine zm ?_; refine zn ?_; have hM : rmk m j.f s x = .error 10 := (by rw [ej, if_neg hne, Q1n (jregs_b (p := []) hx3 hdr hb1)]); refine zr ?_; refine zf2 ?_)
                           all_goals (exact ⟨_, rfl, cx, _, St.refl hS, cd_e hM, Q26 hM, hS.sp⟩))
                        | (refine zcf ?_
                           all_goals refine zsk ?_)
                       all_goals (refine Q0 ?_; refine zD [(0, none), (1, none), (2, none), (3, none), (4, none), (5, none), (6, none), (7, none), (8, none), (9, some none)] ?_; have hS := hS.drew; refine zf0 ?_; refine zl hS ?_; refine zm ?_; refine QcB vw hr rfl rfl ⟨_, rfl⟩ rfl (by omega) (by omega) ?_; intro v4 hs4; rw [List.drop_zero] at hs4; refine zf0 ?_; refine zl hS ?_; refine zm ?_; refine Q3P vw rfl hr rfl (by omega) ?_; intro b7 o7 cs7 x7 hat7 hx7 he7; obtain rfl := Q11 he7; obtain rfl : x3 = x7 := Option.some.inj (hx3.symm.trans hx7); (first | (refine zl hS ?_) | (refine zlk hS ?_)))
                       all_goals (refine zR2 (c := rin_c hs4 hS) (h := ?_); rintro v1 w1 ⟨rfl, hS⟩; cases hb2 : decide (x3 ∈ x.regs.take q))
                       all_goals (refine zn ?_)
                       all_goals
                        first
                        | (refine zct ?_
                           all_goals (refine Q0 ?_; refine Q1 ?_; refine zm ?_; refine zm ?_; refine zn ?_; have hM : rmk m j.f s x = .error 13 := (by rw [ej, if_neg hne, Q1n (jregs_t hx3 hdr hb1 (of_decide_eq_true hb2))]); refine zr ?_; refine zf2 ?_)
                           all_goals (exact ⟨_, rfl, cx, _, St.refl hS, cd_e hM, Q26 hM, hS.sp⟩))
                        | (refine zcf ?_
                           all_goals refine zsk ?_)
                       all_goals (refine Q1 ?_; refine zm ?_; refine zad ?_; refine zm ?_; refine zn ?_; exact ⟨⟨q + 1, zh, zh, (by omega), by exact jregs_s hx3 hdr hb1 (of_decide_eq_false hb2), hne, hS.sp⟩, Qs (by omega)⟩)
                     · skip
                       all_goals (refine zex ?_; have hrg := jregs_z hdr (by omega); refine Q0 ?_; refine Q0 ?_; refine Q1 ?_; refine zm ?_; refine zf0 ?_; refine zl hS ?_; refine zf0 ?_; refine zl hS ?_; refine zf0 ?_; refine zl hS ?_; refine zR4 (c := Qa3 (s := s) hsf.1.2 hls ha hp2 hr hS.p3) (h := ?_); rintro v1 w1 ⟨rfl, hS⟩; refine zm ?_; refine zn ?_; refine Q0 ?_; refine Q1 ?_; refine zm ?_)
                       all_goals (first | (refine QJ ?_) | (refine QN ?_) | (refine Ql rfl rfl (fun hc => ?_) (fun hc => ?_)))
                       all_goals (refine zn ?_)
                       all_goals
                        first
                        | (refine zct ?_
                           all_goals (refine Q0 ?_; refine Q1 ?_; refine zm ?_; refine zm ?_; refine zm ?_; refine zn ?_; have hM : rmk m j.f s x = .error (QI (Q45 s x.args x2.params x.regs)) := (by rw [ej, if_neg hne, Qo hrg, Q1n (Q6u (by omega))]); refine zr ?_; refine zf2 ?_)
                           all_goals (exact ⟨_, rfl, cx, _, St.refl hS, cd_e hM, Q26 hM, hS.sp⟩))
                        | (refine zcf ?_
                           all_goals refine zsk ?_)
                       all_goals (refine Q0 ?_; refine Q1 ?_; refine zm ?_; refine zn ?_; have har := Q8B (Q3C s x.args x2.params x.regs) (by omega); have hM : rmk m j.f s x = .ok (x2.results.map (renT x.regs)) := (by rw [ej, if_neg hne, Qo hrg, Qo har]); refine Q0 ?_; refine Q0 ?_; refine Q1 ?_; refine zm ?_; refine zn ?_; refine Q9 ?_; have hS := St.nil (T := 115) (es := 3) hS)
                       refine zo [3, 14] (fun A ρ' w' => ∃ (k2 : Cx) (q : Nat) (vl2 : Value) (cs2 : List (List Value)), Has ρ' A ∧ Has ρ' [(18, .int .i64 q), (17, vl2)] ∧ (cx.Le k2) ∧ (q ≤ x2.results.length) ∧ (tyR.ls k2 cs2 ((x2.results.take q).map (renT x.regs))) ∧ St k2 w' (sl 115 3 vl2 cs2 :: blk p14 95 [.int .i64 x2.regs, vp2, vr2, vb2] :: blk nb 115 [.int .i64 1, .int .i64 0, .slice none 0 0] :: blk p3 84 [.int .i64 x.op, .int .i64 x.a, .int .i64 x.b, .int .i64 x.c, .int .i64 x.k, .int .i64 x.n, vr, va] :: blk j.sp 158 (j.kcells vl) :: Q4A j.hp s.h :: sl 115 3 vl css :: L)) (fun ρ' _ => (x2.results.length - iv (ρ' 18)).toNat) ?_ ?_
                       · exact ⟨cx, 0, _, _, zh, zh, St.refl hS, (by omega), Rep.LR.nil _ _ _, hS.sp⟩
                       rintro ρ w1 ⟨k2, q, vl2, cs2, hA, hρ, hle2, hq, hlo, hS⟩; obtain ⟨ρ, rfl⟩ := env2 hA hρ; have hL2 := hle2; (try have hp2 := hp2.up hle2); (try have hr2 := hr2.up hle2); (try have hb2 := hb2.up hle2); (try have he2 := he2.up hle2); (try have hls := hls.up hle2); (try have hr := hr.up hle2); (try have ha := ha.up hle2); (try have hm1 := hm1.up hle2)
                       all_goals (refine Q0 ?_; refine Q0 ?_; refine Q1 ?_; refine zm ?_; refine zf0 ?_; refine zl hS ?_; (first | (refine Q15 hS vw fd hlc ?_) | (refine zL ?_)); refine QA rfl rfl ?_; refine zn ?_)
                       refine Qq rfl (fun hc => ?_) (fun hc => ?_)
                       · skip
                         all_goals (refine zsk ?_; refine Q0 ?_; refine Q9 ?_; refine Q0 ?_)
                         refine Q24 7 11 (by kernel_rfl) ?_ ?_
                         · skip
                           all_goals (refine zC [(0, none), (1, none), (2, none), (3, none), (4, none), (5, none), (6, none), (7, some none), (8, none), (9, none), (10, none), (11, some (some [])), (12, some (some [])), (13, some none)] ?_; have hS := hS.drew; refine s_cq ?_; refine zf0 ?_; refine zt ?_; refine s_cq ?_; refine zl hS ?_; refine zt ?_; refine s_cq ?_; refine zm ?_; refine zt ?_; refine s_cq ?_; refine zi ?_; intro b4 o4 cs4 x4 hat4 hx4 he4; obtain ⟨vl4, rfl, hl4⟩ := Qr he4; refine zt ?_; refine s_cq ?_; (first | (refine zv hS ?_) | (refine zvk hS ?_)); refine zt ?_; refine s_cq ?_; refine zf0 ?_; refine zt ?_; refine s_cq ?_; refine zl hS ?_; refine zt ?_; refine s_cf ?_)
                           all_goals (refine zR2 (c := QcW x4 (hsf.2.1.2 x4 (List.mem_of_getElem? hx4)) he4 hr hS) (h := ?_); rintro v1 w1 ⟨c3, ds, rfl, hle2, hu3, hS⟩; (try have hL2 := hL2.trans hle2); (try have hp2 := hp2.up hle2); (try have hr2 := hr2.up hle2); (try have hb2 := hb2.up hle2); (try have hl4 := hl4.up hle2); (try have he2 := he2.up hle2); (try have he4 := he4.up hle2); (try have hls := hls.up hle2); (try have hr := hr.up hle2); (try have ha := ha.up hle2); (try have hm1 := hm1.up hle2); (try have hlo := hlo.up hle2); have hu3' := hu3; obtain ⟨vu, rfl, hlu⟩ := Qr hu3)
                           all_goals (refine zt ?_; refine s_cq ?_; refine zm ?_; refine zt ?_; refine s_cq ?_; refine zxt ?_; refine zt ?_; refine s_cq ?_; refine zxt ?_; refine zt ?_; refine Qj ?_; refine Q5 hS ?_; intro p19 w1 hS; refine zt ?_; refine zy ?_; refine Qj ?_; refine zsn hS ?_; intro w1 hS; have hS := hS.ns; refine zt ?_; refine zy ?_; refine s_cf ?_; refine zm ?_; refine zt ?_; refine zcn ?_; refine Q1 ?_; refine zm ?_; refine zv hS ?_; refine zB1 hS [_, _, _] ?_; intro b1 w1 hS; refine za Q5q Q7W hS ?_; intro vp2 w2 css2 hls2 hv2 hS; have hS := hS.ns; refine zm ?_; refine zn ?_; refine Q1 ?_; refine zm ?_; refine zad ?_; refine zm ?_; refine zn ?_; exact ⟨⟨_, q + 1, _, _, zh, zh, hL2, (by omega), by rw [Q1U hx4, List.map_append]; exact hls2, hS.sp⟩, Qs (by omega)⟩)
                         · skip
                           all_goals (refine zC [(0, none), (1, none), (2, none), (3, none), (4, none), (5, none), (6, none), (11, some (some [1, 4, 6])), (7, some none), (8, none), (9, none), (10, none), (12, some (some [])), (13, some none)] ?_; have hS := hS.drew; refine s_cq ?_; refine zf0 ?_; refine zt ?_; refine s_cq ?_; refine zl hS ?_; refine zt ?_; refine s_cq ?_; refine zm ?_; refine zt ?_; refine s_cq ?_; refine zi ?_; intro b4 o4 cs4 x4 hat4 hx4 he4; obtain ⟨vl4, rfl, hl4⟩ := Qr he4; refine zt ?_; refine s_cq ?_; (first | (refine zv hS ?_) | (refine zvk hS ?_)); refine zt ?_; refine s_cq ?_; refine zf0 ?_; refine zt ?_; refine s_cq ?_; refine zl hS ?_; refine zt ?_; refine Qj ?_; refine Q5 hS ?_; intro p19 w1 hS; refine zt ?_; refine zy ?_; refine s_cf ?_)
                           all_goals (refine zR2 (c := QcW x4 (hsf.2.1.2 x4 (List.mem_of_getElem? hx4)) he4 hr hS) (h := ?_); rintro v1 w1 ⟨c3, ds, rfl, hle2, hu3, hS⟩; (try have hL2 := hL2.trans hle2); (try have hp2 := hp2.up hle2); (try have hr2 := hr2.up hle2); (try have hb2 := hb2.up hle2); (try have hl4 := hl4.up hle2); (try have he2 := he2.up hle2); (try have he4 := he4.up hle2); (try have hls := hls.up hle2); (try have hr := hr.up hle2); (try have ha := ha.up hle2); (try have hm1 := hm1.up hle2); (try have hlo := hlo.up hle2); have hu3' := hu3; obtain ⟨vu, rfl, hlu⟩ := Qr hu3)
                           all_goals (refine zt ?_; refine s_cq ?_; refine zm ?_; refine zt ?_; refine s_cq ?_; refine zxt ?_; refine zt ?_; refine s_cq ?_; refine zxt ?_; refine zt ?_; refine Qj ?_; refine zsn hS ?_; intro w1 hS; have hS := hS.ns; refine zt ?_; refine zy ?_; refine s_cf ?_; refine zm ?_; refine zt ?_; refine zcn ?_; refine Q1 ?_; refine zm ?_; refine zv hS ?_; refine zB1 hS [_, _, _] ?_; intro b1 w1 hS; refine za Q5q Q7W hS ?_; intro vp2 w2 css2 hls2 hv2 hS; have hS := hS.ns; refine zm ?_; refine zn ?_; refine Q1 ?_; refine zm ?_; refine zad ?_; refine zm ?_; refine zn ?_; exact ⟨⟨_, q + 1, _, _, zh, zh, hL2, (by omega), by rw [Q1U hx4, List.map_append]; exact hls2, hS.sp⟩, Qs (by omega)⟩)
                       · skip
                         all_goals (refine zex ?_; refine Q0 ?_; refine Q1 ?_; refine zm ?_; refine zm ?_; refine zm ?_; refine zn ?_; refine zr ?_; refine zf2 ?_)
                         all_goals (first | (exact ⟨_, rfl, cx, _, St.refl hS, cd_e hM, Q26 hM, hS.sp⟩) | (exact ⟨_, rfl, cx, _, St.refl hS, cd_o hM, Q1e hM (Rep.SR.nil _ _ _), hS.sp⟩) | (exact ⟨_, rfl, cx, _, St.refl hS, cd_w hM hw, Q1e hM (Rep.SR.nil _ _ _), hS.sp⟩) | (obtain ⟨c9, hle9, hS, hk9⟩ := St.freeze1 (r := tyR) (L := KLf j s vl css L) hS.sp (hN : tyR.at _ _ number); exact ⟨_, rfl, c9, _, hle9, cd_c hC, Q4k hT hk9, hS⟩) | (obtain ⟨c9, hle9, hS, hk9⟩ := St.freeze1 (r := tyR) (L := KLf j s vl css L) hS.sp (hN : tyR.at _ _ number); exact ⟨_, rfl, c9, _, hle9, cd_o hM, Q1e hM hk9, hS⟩) | (obtain ⟨c9, hle9, hS, hk9⟩ := St.freeze1 (r := tyR) (L := KLf j s vl css L) hS.sp hrow; exact ⟨_, rfl, c9, _, hle9, cd_o hM, Q1e hM hk9, hS⟩) | (obtain ⟨c9, hle9, hS, hk9⟩ := St.freeze1 (r := tyR) (L := KLf j s vl css L) hS.sp hrow; exact ⟨_, rfl, c9, _, hle2.trans hle9, cd_o hM, Q1e hM hk9, hS⟩) | (exact ⟨_, rfl, c1, _, hle2, cd_e hM, Q26 hM, hS.sp⟩) | (exact ⟨_, rfl, cx, _, St.refl hS, cd_c hC, Q4k hT (Rep.SR.nil _ _ _), hS.sp⟩) | (have hM : rmk m j.f s x = .error 11 := (by rw [Q9X (by omega), Qo hjt, if_pos (by omega)]); exact ⟨_, rfl, cx, _, St.refl hS, cd_e hM, Q26 hM, hS.sp⟩) | (have hM : rmk m j.f s x = .ok [] := (by rw [Q9X (by omega), Qo hjt, if_neg (by omega)]); exact ⟨_, rfl, cx, _, St.refl hS, cd_w hM hw, Q1e hM (Rep.SR.nil _ _ _), hS.sp⟩) | (obtain ⟨c9, hle9, hS, hk9⟩ := St.freezeL (r := tyR) hS hlo rfl (by simp only [List.length_map, List.length_take]; omega); exact ⟨_, rfl, c9, _, hL2.trans hle9, cd_o hM, Q1e hM (by rw [List.take_of_length_le (by omega)] at hk9; exact hk9), hS.sp⟩)))))))
end Go.Proofs.YteflkifmgnpbhaaGreat
namespace Go.Proofs.YteflkifmgnpbhaaGreat
open Go.Lir
set_option maxHeartbeats 1000000
attribute [local irreducible] LC.wp Q2 QD QF retQ Q1a LO.wp Qf Calls
set_option linter.unusedSimpArgs false
set_option linter.unusedVariables false
attribute [local irreducible] hasB Q1B Q1r Q1y Q37 upTo Q14 Q1E rmk jIns
variable {cx : Cx} {w : World} {L : List Res} {j : JP} {h : List Bool} {vl : Value} {css : List (List Value)} {i : Nat} {m : Module}
theorem Q3A {s s' : JS} {x : Ins} {c : Int} {c' : Cx} {vl' : Value} {css' : List (List Value)} (hJ : jIns m j.f s x = (c, s')) (hle : cx.Le c') (hls : tyR.ls c' css' s'.l) (hS : St c' w (KLf j s' vl' css' L)) :
 ∃ c' vl' css', cx.Le c' ∧ (Value.int .i64 c) = .int .i64 (jIns m j.f s x).1 ∧ tyR.ls c' css' (jIns m j.f s x).2.l ∧ St c' w (KLf j (jIns m j.f s x).2 vl' css' L) := by
 rw [hJ]; exact ⟨_, _, _, hle, rfl, hls, hS⟩
theorem rIns_c {s : JS} {x : Ins} {cs : List Value} (hm : m.Short) (hg : JInv m j.f s) (hj : j.Fits cx m) (hx : insR.at cx cs x) (hls : tyR.ls cx css s.l) (hS : St cx w (KLf j s vl css L)) :
 Rets Tryz.prog QaA [.pointer (some ⟨j.sp, 0, none⟩), .agg ⟨cs⟩] w fun u w' => ∃ c' vl' css', cx.Le c' ∧ u = .int .i64 (jIns m j.f s x).1 ∧ tyR.ls c' css' (jIns m j.f s x).2.l ∧ St c' w' (KLf j (jIns m j.f s x).2 vl' css' L) := by
 have hx' := hx
 have hlc := hls.1
 have hn := hg.n
 have hh := hg.h
 have hlen : (s.h.map Q1Q).length = s.h.length := List.length_map _
 obtain ⟨vr, va, rfl, hr, ha⟩ := Q1G hx
 all_goals refine lgo tyD Tryz.func54 ?_
 all_goals (refine Q0 ?_; refine Q1 ?_; refine zb hS ?_; intro p3 w1 hS; refine zm ?_; refine zn ?_; refine Q0 ?_; refine Q0 ?_; refine zD [(0, none), (1, none), (2, none), (3, none), (4, none), (5, some none), (6, some none)] ?_; have hS := hS.drew; refine zm ?_; refine znc ?_; refine zf0 ?_; refine zv hS ?_; refine zv hS ?_; refine zR2 (c := rins_c (m := m) ⟨_, rfl, hj.m⟩ hx' hS) (h := ?_); rintro v1 w1 ⟨rfl, hS⟩; refine zm ?_; refine zn ?_; refine Q0 ?_; refine Q1 ?_; refine zm ?_)
 all_goals (first | (refine QJ ?_) | (refine QN ?_) | (refine Ql rfl rfl (fun hc => ?_) (fun hc => ?_)))
 all_goals (refine zn ?_)
 all_goals
  first
  | (refine zct ?_
     all_goals (refine Q0 ?_; refine Q1 ?_; refine zm ?_; refine zm ?_; refine zn ?_; have hJ := jIns_f (f := j.f) (s := s) (x := x) (m := m) (by omega); refine zr ?_; refine zf ?_)
     all_goals (exact ⟨_, rfl, Q3A hJ (St.refl hS) hls hS.sp⟩))
  | (refine zcf ?_
     all_goals refine zsk ?_)
 all_goals (refine Q0 ?_; have hF : Qw m.funcs.length x = 0 := (by omega); refine Q1 ?_; refine zm ?_; refine zv hS ?_; refine zR2 (c := rmakes_c (s := s) hm hF hg.toJGood hj hx' hls hS.p3) (h := ?_); rintro v1 w1 ⟨c1, vm1, hle2, rfl, hv0, hS⟩; have hls := hls.up hle2; refine zm ?_; refine zxt ?_; refine zxt ?_; refine zm ?_; refine zm ?_; refine zn ?_; refine Q0 ?_; refine Q0 ?_; refine Q1 ?_; refine zm ?_)
 all_goals (first | (refine QJ ?_) | (refine QN ?_) | (refine Ql rfl rfl (fun hc => ?_) (fun hc => ?_)))
 all_goals (refine zn ?_)
 all_goals
  first
  | (refine zct ?_
     all_goals (refine Q0 ?_; refine Q1 ?_; refine zm ?_; refine zm ?_; refine zn ?_; have hJ := jIns_e (f := j.f) (s := s) hF hg (by omega); refine zr ?_; refine zf ?_)
     all_goals (first | (exact ⟨_, rfl, Q3A hJ (St.refl hS) hls hS.sp⟩) | (exact ⟨_, rfl, Q3A hJ hle2 hls hS.sp⟩)))
  | (refine zcf ?_
     all_goals refine zsk ?_)
 all_goals (refine Q0 ?_; refine Q0 ?_; obtain ⟨ts, hts⟩ := Q6t (rmk_nz m j.f s x) (by omega); have hv := hv0 ts hts; have hvl := hv.len; refine Q1 ?_; refine zm ?_; refine znc ?_; refine zf0 ?_; refine zl hS ?_; refine Q15 hS vw fd hlc ?_; refine zm ?_; refine QaL vw hv ?_; refine zad ?_)
 all_goals (first | (refine QL ?_) | (refine QQ ?_) | (refine Qe rfl rfl (fun hc => ?_) (fun hc => ?_)))
 all_goals (refine zn ?_)
 all_goals
  first
  | (refine zct ?_
     all_goals (refine Q0 ?_; refine Q1 ?_; refine zm ?_; refine zn ?_; have hJ := jIns_m hF hg hts (by omega); refine zr ?_; refine zf ?_)
     all_goals (first | (exact ⟨_, rfl, Q3A hJ (St.refl hS) hls hS.sp⟩) | (exact ⟨_, rfl, Q3A hJ hle2 hls hS.sp⟩)))
  | (refine zcf ?_
     all_goals refine zsk ?_)
 all_goals (refine Q0 ?_; refine Q0 ?_; refine Q1 ?_; refine zf0 ?_; refine zl hS ?_)
 all_goals (first | (refine Qg ?_) | (refine Qm ?_) | (refine Qb rfl rfl (fun hc => ?_) (fun hc => ?_)))
 all_goals (refine zn ?_)
 all_goals
  first
  | (refine zct ?_
     all_goals (obtain ⟨vh, hS⟩ := Q35 (hp := j.hp) (h := s.h) (L := blk j.sp 158 (j.kcells vl) :: sl 115 3 vl css :: blk p3 84 [.int .i64 x.op, .int .i64 x.a, .int .i64 x.b, .int .i64 x.c, .int .i64 x.k, .int .i64 x.n, vr, va] :: L) hS.sp; have h16 := rmk_3ok hts (by omega); have hJ := jIns_o3 hF hg hts (by omega) (by omega); refine zC [(0, none), (1, none), (2, none), (3, none), (4, none), (5, none), (6, none), (7, none), (8, none), (9, none), (10, none), (11, some (some [3, 7, 10])), (12, some (some [3])), (13, none), (14, none), (15, some none)] ?_; have hS := hS.drew; refine s_cq ?_; refine zm ?_; refine zt ?_; refine s_cq ?_; refine znc ?_; refine zt ?_; refine s_cq ?_; refine zf0 ?_; refine zt ?_; refine s_cq ?_; refine zl hS ?_; refine zt ?_; refine s_cq ?_; refine zm ?_; refine zt ?_; refine s_cq ?_; refine znc ?_; refine zt ?_; refine s_cq ?_; refine zf0 ?_; refine zt ?_; refine s_cq ?_; refine zl hS ?_; refine zt ?_; refine s_cq ?_; refine znc ?_; refine zt ?_; refine s_cq ?_; refine zf0 ?_; refine zt ?_; refine s_cq ?_; refine zl hS ?_)
     all_goals (refine zt ?_; refine Qj ?_; refine zB1 hS [_] ?_; intro b1 w1 hS; refine zt ?_; refine zy ?_; refine Qj ?_; refine Q2G QdW (.inl u_T146) hS vw vw fd (hS.srcB1 fd rfl) (by simp; omega) ?_; intro vp w2 hS; have hS := hS.ns; rw [show s.h.map Q1Q ++ [[Value.bool true]] = (s.h ++ [true]).map Q1Q by simp [Q1Q]] at hS; refine zt ?_; refine zy ?_; refine s_cq ?_; refine znc ?_; refine zt ?_; refine s_cq ?_; refine zf0 ?_; refine zt ?_; refine s_cf ?_; refine zst hS ?_; intro w1 hS; have hS := hS.ns; refine zt ?_; refine zcn ?_)
     all_goals (have hS := Q2J (hp := j.hp) (h := s.h ++ [true]) (v := vp) (L := blk j.sp 158 (j.kcells vl) :: sl 115 3 vl css :: blk p3 84 [.int .i64 x.op, .int .i64 x.a, .int .i64 x.b, .int .i64 x.c, .int .i64 x.k, .int .i64 x.n, vr, va] :: L) hS.sp))
  | (refine zcf ?_
     all_goals refine zsk ?_)
 all_goals (refine Q0 ?_; refine Q0 ?_; refine Q1 ?_; refine zf0 ?_; refine zl hS ?_)
 all_goals (first | (refine Qg ?_) | (refine Qm ?_) | (refine Qb rfl rfl (fun hc => ?_) (fun hc => ?_)))
 all_goals (refine zn ?_)
 all_goals
  first
  | (refine zcf ?_
     all_goals refine zsk ?_)
  | (refine zct ?_
     all_goals (obtain ⟨vh, hS⟩ := Q35 (hp := j.hp) (h := s.h) (L := blk j.sp 158 (j.kcells vl) :: sl 115 3 vl css :: blk p3 84 [.int .i64 x.op, .int .i64 x.a, .int .i64 x.b, .int .i64 x.c, .int .i64 x.k, .int .i64 x.n, vr, va] :: L) hS.sp; obtain ⟨t, g0, g1, ht, r0, r1⟩ := rmk_4ok hts (by omega); have hJ := jIns_o4 hF hg hts (by omega) (by omega) ht; obtain ⟨d, hd, hrd⟩ := hls.2 _ _ ht; obtain ⟨vd, rfl, hld⟩ := Qr hrd; refine zD [(0, none), (1, none), (2, none), (3, none), (4, none), (5, none), (6, none), (7, none), (8, none), (9, none), (10, none), (11, none), (12, none), (13, none), (14, none), (15, none), (16, none), (17, some none)] ?_; have hS := hS.drew; refine zm ?_; refine znc ?_; refine zf0 ?_; refine zl hS ?_; refine znc ?_; refine zf0 ?_; refine zl hS ?_; refine zm ?_; refine znc ?_; refine zf0 ?_; refine zl hS ?_; refine zf0 ?_; refine zl hS ?_)
     all_goals (refine Q2g hS vw rfl fd (by omega) (by omega) ?_; intro b1 o1 hel1; (first | refine zf0 ?_ | refine zfd ?_); refine Q8 (j := 1) hS hel1 rfl fd rfl hd rfl ?_; refine Q2g hS vw rfl fd (by omega) (by omega) ?_; intro b2 o2 hel2; refine s_storeE hS hel2 rfl vw fd rfl (Q3m Q1Q s.h false (by omega)) (by decide) rfl ?_; intro w2 hS; have hS := hS.ns; rw [show (Q1Q (s.h.getD t.r.toNat false)).set 0 (Value.bool false) = Q1Q false from rfl, map_set] at hS; refine zn ?_)
     all_goals (have hS := Q2J (hp := j.hp) (h := s.h.set t.r.toNat false) (v := vh) (L := blk j.sp 158 (j.kcells vl) :: sl 115 3 vl css :: blk p3 84 [.int .i64 x.op, .int .i64 x.a, .int .i64 x.b, .int .i64 x.c, .int .i64 x.k, .int .i64 x.n, vr, va] :: L) hS.sp))
 all_goals (refine Q0 ?_; refine Q1 ?_; refine zm ?_; refine zm ?_; refine znc ?_; refine zf0 ?_; refine zl hS ?_; refine zm ?_; (first | (refine za Q5q Q7W hS ?_; intro vp1 w1 css1 hls1 hv1 hS; have hS := hS.ns) | (refine zak Q5q Q7W hS ?_; intro vp1 w1 css1 hls1 hv1 hS; have hS := hS.ns)); refine znc ?_; refine zf0 ?_; refine zst hS ?_; intro w1 hS; have hS := hS.ns; refine zn ?_; refine Q0 ?_; refine Q1 ?_; refine zm ?_; refine zn ?_; refine zr ?_; refine zf ?_; (first | (exact ⟨_, rfl, Q3A hJ (St.refl hS) hls hS.sp⟩) | (exact ⟨_, rfl, Q3A hJ hle2 hls hS.sp⟩) | (exact ⟨_, rfl, Q3A hJ hle2 hls1 hS.sp⟩) | (exact ⟨_, rfl, Q3A (jIns_o hF hg hts (by omega) (by omega) (by omega)) hle2 hls1 hS.sp⟩)))
theorem rTo_c {s : JS} {t : To} {cs : List Value} (hsf : j.f.Short) (hb : 0 ≤ t.block ∧ t.block < j.f.blocks.length) (hfb : ∀ b ∈ j.f.blocks, j.f.regs ≤ b.regs) (hh : s.h.length ≤ 16) (hj : j.Fits cx m) (hx : toR.at cx cs t) (hls : tyR.ls cx css s.l) (hS : St cx w (KLf j s vl css L)) :
 Rets Tryz.prog Qcf [.pointer (some ⟨j.sp, 0, none⟩), .agg ⟨cs⟩] w fun u w' => u = .int .i64 (QI (jto j.f s t)) ∧ St cx w' (KLf j s vl css L) := by
 have hx' := hx
 obtain ⟨vr, va, rfl, hr, ha⟩ := Q4K hx
 have hlr := hr.len
 have hbl := hj.b
 all_goals refine lgo tyD Tryz.func97 ?_
 all_goals (refine Q0 ?_; refine Q1 ?_; refine zb hS ?_; intro p3 w1 hS; refine zm ?_; refine zn ?_; refine Q0 ?_; refine zC [(0, none), (1, none), (2, none), (3, none), (4, none), (5, none), (6, none), (7, none), (8, none), (9, some (some [4, 6, 8])), (10, some none)] ?_; have hS := hS.drew; refine s_cq ?_; refine zm ?_; refine zt ?_; refine s_cq ?_; refine znc ?_; refine zt ?_; refine s_cq ?_; refine zf0 ?_; refine zt ?_; refine s_cq ?_; (first | refine zf0 ?_ | refine zfd ?_); refine zt ?_; refine s_cq ?_; refine zl hS ?_; refine zt ?_; refine s_cq ?_; refine zf0 ?_; refine zt ?_; refine s_cq ?_; refine zl hS ?_; refine zt ?_; refine s_cq ?_; ((first | refine zi ?_ | refine zj ?_); intro b1 o1 cs1 x1 hat1 hx1 he1; obtain ⟨vp1, vc1, ve11, ve12, ve13, ve14, ve15, rfl, hp1, hc1, he11, he12, he13, he14, he15⟩ := Q1N he1); refine zt ?_; refine s_cq ?_; (first | (refine zv hS ?_) | (refine zvk hS ?_)); refine zt ?_; refine Qj ?_; refine Q5 hS ?_; intro p5 w1 hS; refine zt ?_; refine zy ?_; refine s_cf ?_; refine zsn hS ?_; intro w1 hS; have hS := hS.ns)
 all_goals (refine zt ?_; refine zcn ?_; have hbm := List.mem_of_getElem? hx1; have hf1 := hfb x1 hbm; have hsb := hsf.2.2.2 x1 hbm; refine Q0 ?_; refine Q0 ?_; refine Q1 ?_; refine zf0 ?_; refine zl hS ?_; refine zL ?_; refine zf0 ?_; refine zl hS ?_)
 all_goals (first | (refine QJ ?_) | (refine QN ?_) | (refine Ql rfl rfl (fun hc => ?_) (fun hc => ?_)))
 all_goals (refine zn ?_)
 all_goals
  first
  | (refine zct ?_
     all_goals (refine Q0 ?_; refine Q1 ?_; refine zm ?_; refine zn ?_; refine zr ?_; refine zf ?_)
     all_goals (refine ⟨_, rfl, ?_, hS.sp⟩; rw [jto_2 hx1 (by omega)]; rfl; done))
  | (refine zcf ?_
     all_goals refine zsk ?_)
 all_goals (refine Q0 ?_; refine Q0 ?_; refine Q1 ?_; refine zm ?_; refine zn ?_; refine Q9 ?_)
 refine zoL hS [0, 3, 5] (fun A LL ρ' w' => ∃ (q : Nat), Has ρ' A ∧ Has ρ' [(6, .int .i64 q)] ∧ (q ≤ j.f.regs.toNat) ∧ (Q37 t.regs q = true) ∧ (¬ (t.regs.length : Int) ≠ x1.regs) ∧ St cx w' (LL)) (fun ρ' _ => (j.f.regs - iv (ρ' 6)).toNat) ?_ ?_
 · exact ⟨0, zh, zh, (by omega), by unfold Q37; rfl, by omega, hS.sp⟩
 rintro ρ w1 ⟨q, hA, hρ, hq, hk, hne, hS⟩; obtain ⟨ρ, rfl⟩ := env2 hA hρ
 all_goals (refine Q0 ?_; refine Q0 ?_; refine Q1 ?_; refine zm ?_; refine zm ?_; refine znc ?_; refine zf0 ?_; (first | refine zf0 ?_ | refine zfd ?_); refine zl hS ?_; refine QA rfl rfl ?_; refine zn ?_)
 refine Qq rfl (fun hc => ?_) (fun hc => ?_)
 · skip
   all_goals (refine zsk ?_; refine Q0 ?_; refine Q9 ?_; refine Q0 ?_; refine Q1 ?_; refine zf0 ?_; refine zl hS ?_; refine zm ?_; refine zi ?_; intro b2 o2 cs2 x2 hat2 hx2 he2; obtain rfl := Q11 he2; (first | (refine zl hS ?_) | (refine zlk hS ?_)); refine zm ?_)
   all_goals (first | (refine QJ ?_) | (refine QN ?_) | (refine Ql rfl rfl (fun hc => ?_) (fun hc => ?_)))
   all_goals (refine zn ?_)
   all_goals
    first
    | (refine zct ?_
       all_goals (refine Q0 ?_; refine Q1 ?_; refine zm ?_; refine zn ?_; refine zr ?_; refine zf ?_)
       all_goals (first | (refine ⟨_, rfl, ?_, hS.sp⟩; rw [jto_2 hx1 (by omega)]; rfl; done) | (refine ⟨_, rfl, ?_, hS.sp⟩; rw [Qdu hx1 hne (Qah (q := q) (by omega) (by rw [hx2]; intro h; cases h; omega))]; rfl; done)))
    | (refine zcf ?_
       all_goals refine zsk ?_)
   all_goals (refine Q1 ?_; refine zm ?_; refine zad ?_; refine zm ?_; refine zn ?_; exact ⟨⟨q + 1, zh, zh, (by omega), by rw [kept_s, hk, hx2]; simp; omega, hne, hS.sp⟩, Qs (by omega)⟩)
 · skip
   all_goals (refine zex ?_; have hq' : q = j.f.regs.toNat := (by omega); rw [hq'] at hk; refine Q0 ?_; refine Q0 ?_; refine zD [(0, none), (1, none), (2, none), (3, none), (4, none), (5, none), (6, some none), (7, some none)] ?_; have hS := hS.drew; refine zm ?_; refine znc ?_; refine zf0 ?_; refine zl hS ?_; refine zf0 ?_; refine zl hS ?_; refine zR2 (c := rpass_h (h := s.h) hh hr hS fd) (h := ?_); rintro v1 w1 ⟨rfl, hS⟩; refine zm ?_; refine zn ?_; refine Q0 ?_; refine Q1 ?_; refine zm ?_)
   all_goals (first | (refine QJ ?_) | (refine QN ?_) | (refine Ql rfl rfl (fun hc => ?_) (fun hc => ?_)))
   all_goals (refine zn ?_)
   all_goals
    first
    | (refine zct ?_
       all_goals (refine Q0 ?_; refine Q1 ?_; refine zm ?_; refine zm ?_; refine zn ?_; refine zr ?_; refine zf ?_)
       all_goals (first | (refine ⟨_, rfl, ?_, hS.sp⟩; rw [jto_2 hx1 (by omega)]; rfl; done) | (refine ⟨_, rfl, ?_, hS.sp⟩; rw [Qdu hx1 hne (Qah (q := q) (by omega) (by rw [hx2]; intro h; cases h; omega))]; rfl; done) | (refine ⟨_, rfl, ?_, hS.sp⟩; rw [jto_p hx1 hne hk (by omega)]; rfl; done)))
    | (refine zcf ?_
       all_goals refine zsk ?_)
   all_goals (refine Q0 ?_; refine Q1 ?_; refine zm ?_; refine zf0 ?_; refine zl hS ?_; refine zf0 ?_; refine zl hS ?_; refine zf0 ?_; refine zl hS ?_; refine zR4 (c := Qa3 (s := s) hsb.1.2 hls ha hp1 hr hS.p3) (h := ?_); rintro v1 w1 ⟨rfl, hS⟩; refine zm ?_; refine zn ?_; refine zr ?_; refine zf ?_)
   all_goals (first | (refine ⟨_, rfl, ?_, hS.sp⟩; rw [jto_2 hx1 (by omega)]; rfl; done) | (refine ⟨_, rfl, ?_, hS.sp⟩; rw [Qdu hx1 hne (Qah (q := q) (by omega) (by rw [hx2]; intro h; cases h; omega))]; rfl; done) | (refine ⟨_, rfl, ?_, hS.sp⟩; rw [jto_p hx1 hne hk (by omega)]; rfl; done) | (refine ⟨_, rfl, ?_, hS.sp⟩; rw [jto_a hx1 hne hk (by omega)]; done))
end Go.Proofs.YteflkifmgnpbhaaGreat
namespace Go.Proofs.YteflkifmgnpbhaaGreat
open Go.Lir
set_option maxHeartbeats 1000000
attribute [local irreducible] LC.wp Q2 QD QF retQ Q1a LO.wp Qf Calls
set_option linter.unusedSimpArgs false
set_option linter.unusedVariables false
attribute [local irreducible] hasB Q1B Q1r Q1y Q37 upTo Q14 Q1E rmk jIns jEnd Module.fault
variable {cx : Cx} {w : World} {L : List Res} {j : JP} {h : List Bool} {vl : Value} {css : List (List Value)} {i : Nat} {m : Module}
theorem Q9b (f : Fun) (s : JS) (t : To) : NZ (jto f s t) := by
 unfold jto
 split
 · exact .e (by decide)
 · split
   · exact .e (by decide)
   · split
     · exact .e (by decide)
     · split
       · rename_i h; exact .e h
       · exact Q3C _ _ _ _
theorem rEnd_c {s : JS} {e : Tail} {cs : List Value} (hsf : j.f.Short) (hfb : ∀ b ∈ j.f.blocks, j.f.regs ≤ b.regs) (hf0 : 0 ≤ j.f.regs) (hfr : j.f.regs ≤ 100000) (hg : JInv m j.f s) (hj : j.Fits cx m) (hx : endR.at cx cs e) (hls : tyR.ls cx css s.l) (hS : St cx w (KLf j s vl css L)) :
 Rets Tryz.prog QaB [.pointer (some ⟨j.sp, 0, none⟩), .agg ⟨cs⟩] w fun u w' => u = .int .i64 (jEnd j.f s e) ∧ St cx w' (KLf j s vl css L) := by
 have hx' := hx
 have hh := hg.h
 obtain ⟨v1, v2, v3, v4, v5, rfl, h1, h2, h3, h4, h5⟩ := Q4u hx
 have hT1 : toR.at cx [.int .i64 e.yes.block, v1, v2] e.yes := ⟨_, _, rfl, h1, h2⟩
 have hT2 : toR.at cx [.int .i64 e.no.block, v3, v4] e.no := ⟨_, _, rfl, h3, h4⟩
 have hjr := hj.r
 all_goals refine lgo tyD Tryz.func56 ?_
 all_goals (refine Q0 ?_; refine Q1 ?_; refine zb hS ?_; intro p3 w1 hS; refine zm ?_; refine zn ?_; refine Q0 ?_; refine Q0 ?_; refine zD [(0, none), (1, none), (2, none), (3, none), (4, none), (5, some none), (6, some none)] ?_; have hS := hS.drew; refine zm ?_; refine znc ?_; refine zf0 ?_; refine zv hS ?_; refine zv hS ?_; refine zR2 (c := rend_c (x := j.f) ⟨_, _, _, rfl, hj.p, hj.r, hj.b⟩ hx' hS) (h := ?_); rintro v1 w1 ⟨rfl, hS⟩; refine zm ?_; refine zn ?_; refine Q0 ?_; refine Q1 ?_; refine zm ?_)
 all_goals (first | (refine QJ ?_) | (refine QN ?_) | (refine Ql rfl rfl (fun hc => ?_) (fun hc => ?_)))
 all_goals (refine zn ?_)
 all_goals
  first
  | (refine zct ?_
     all_goals (refine Q0 ?_; refine Q1 ?_; refine zm ?_; refine zm ?_; refine zn ?_; have hJ := jEnd_f (f := j.f) (s := s) (e := e) (by omega); refine zr ?_; refine zf ?_)
     all_goals (exact ⟨_, rfl, (by rw [hJ]), hS.sp⟩))
  | (refine zcf ?_
     all_goals refine zsk ?_)
 all_goals (refine Q0 ?_; refine Q0 ?_)
 all_goals (have hF : Q1l j.f.blocks.length e = 0 := (by omega); have hE := jEnd_g (s := s) hF; have hop := Q4v hF; have hy : e.op ≠ 3 → 0 ≤ e.yes.block ∧ e.yes.block < j.f.blocks.length := (fun h => Q4l (by have := hop.2.2.1; rwa [decide_eq_true h] at this)); have hz : e.op = 2 → 0 ≤ e.no.block ∧ e.no.block < j.f.blocks.length := (fun h => Q4l (by have := hop.2.2.2; rwa [decide_eq_true h] at this)))
 all_goals (refine Q1 ?_; refine zf0 ?_; refine zl hS ?_; refine zn ?_; refine Q9 ?_; refine Q0 ?_; refine Q1 ?_)
 all_goals (first | (refine Qg ?_) | (refine Qm ?_) | (refine Qb rfl rfl (fun hc => ?_) (fun hc => ?_)))
 all_goals (refine zm ?_; refine zn ?_)
 all_goals
  first
  | (refine zct ?_
     all_goals (refine Q0 ?_; refine Q1 ?_; refine zm ?_; refine zf0 ?_; refine zv hS ?_; refine zR2 (c := rTo_c (s := s) hsf (hy (by omega)) hfb hh hj hT1 hls hS.p3) (h := ?_); rintro v6 w1 ⟨rfl, hS⟩; refine zm ?_; refine zn ?_; have hJ : jEnd j.f s e = QI (jto j.f s e.yes) := (by rw [hE, jend_1 (by omega)]); refine zr ?_; refine zf ?_)
     all_goals (exact ⟨_, rfl, (by rw [hJ]), hS.sp⟩))
  | (refine zcf ?_
     all_goals (refine Q0 ?_; refine Q1 ?_)
     all_goals (first | (refine Qg ?_) | (refine Qm ?_) | (refine Qb rfl rfl (fun hc => ?_) (fun hc => ?_)))
     all_goals (refine zm ?_; refine zn ?_)
     all_goals
      first
      | (refine zct ?_
         all_goals (refine Q0 ?_; refine Q0 ?_; refine Q1 ?_; refine zm ?_; refine zf0 ?_; refine zl hS ?_; refine zR4 (c := Q2a (s := s) (k := e.a) (kd := 1) (held := false) hls hS.p3) (h := ?_); rintro v6 w1 ⟨rfl, hS⟩; refine zm ?_; refine zn ?_; refine Q0 ?_; refine Q1 ?_; refine zm ?_)
         all_goals (first | (refine QJ ?_) | (refine QN ?_) | (refine Ql rfl rfl (fun hc => ?_) (fun hc => ?_)))
         all_goals (refine zn ?_)
         all_goals
          first
          | (refine zct ?_
             all_goals (refine Q0 ?_; refine Q1 ?_; refine zm ?_; refine zm ?_; refine zn ?_; have hJ : jEnd j.f s e = Q14 s e.a 1 false := (by rw [hE, Qbg (by omega), Q1n (Q9G (by omega))]; rfl); refine zr ?_; refine zf ?_)
             all_goals (exact ⟨_, rfl, (by rw [hJ]), hS.sp⟩))
          | (refine zcf ?_
             all_goals refine zsk ?_)
         all_goals (refine Q0 ?_; refine Q0 ?_; obtain ⟨t1, g1⟩ := Qci (s := s) (k := e.a) (kd := 1) (by omega); refine Q1 ?_; refine zm ?_; refine zf0 ?_; refine zv hS ?_; refine zR2 (c := rTo_c (s := s) hsf (hy (by omega)) hfb hh hj hT1 hls hS.p3) (h := ?_); rintro v6 w1 ⟨rfl, hS⟩; refine zm ?_; refine zn ?_; refine Q0 ?_; refine Q1 ?_; refine zm ?_)
         all_goals (first | (refine QJ ?_) | (refine QN ?_) | (refine Ql rfl rfl (fun hc => ?_) (fun hc => ?_)))
         all_goals (refine zn ?_)
         all_goals
          first
          | (refine zct ?_
             all_goals (refine Q0 ?_; refine Q1 ?_; refine zm ?_; refine zm ?_; refine zn ?_; have hJ : jEnd j.f s e = QI (jto j.f s e.yes) := (by rw [hE, Qbg (by omega), Qo g1, Q1n (Q6u (by omega))]; rfl); refine zr ?_; refine zf ?_)
             all_goals (exact ⟨_, rfl, (by rw [hJ]), hS.sp⟩))
          | (refine zcf ?_
             all_goals refine zsk ?_)
         all_goals (refine Q0 ?_; refine Q1 ?_; refine zm ?_; refine zf0 ?_; refine zv hS ?_; refine zR2 (c := rTo_c (s := s) hsf (hz (by omega)) hfb hh hj hT2 hls hS.p3) (h := ?_); rintro v6 w1 ⟨rfl, hS⟩; refine zm ?_; refine zn ?_; have hJ : jEnd j.f s e = QI (jto j.f s e.no) := (by rw [hE, Qbg (by omega), Qo g1, Qo (Q8B (Q9b _ _ _) (by omega))]); refine zr ?_; refine zf ?_)
         all_goals (exact ⟨_, rfl, (by rw [hJ]), hS.sp⟩))
      | (refine zcf ?_
         all_goals refine zsk ?_))
 all_goals (refine Q0 ?_; refine Q1 ?_; refine zm ?_; refine zn ?_; refine Q0 ?_; refine Q0 ?_; refine Q1 ?_; refine zm ?_; refine zn ?_; refine Q9 ?_; have hS := St.nil (T := 3) (es := 1) hS)
 refine zo [0, 3] (fun A ρ' w' => ∃ (q : Nat) (vo : Value) (co : List (List Value)), Has ρ' A ∧ Has ρ' [(9, .int .i64 q), (8, vo)] ∧ (q ≤ j.f.regs.toNat) ∧ (intR.ls cx co (upTo q)) ∧ ((upTo q).length = q) ∧ (e.op = 3) ∧ St cx w' (sl 3 1 vo co :: blk p3 90 [.int .i64 e.op, .int .i64 e.a, .int .i64 e.yes.block, v1, v2, .int .i64 e.no.block, v3, v4, v5] :: blk j.sp 158 (j.kcells vl) :: Q4A j.hp s.h :: sl 115 3 vl css :: L)) (fun ρ' _ => (j.f.regs - iv (ρ' 9)).toNat) ?_ ?_
 · exact ⟨0, _, [], zh, zh, (by omega), by unfold upTo; exact Rep.LR.nil _ _ _, by unfold upTo; rfl, by omega, hS.sp⟩
 rintro ρ w1 ⟨q, vo, co, hA, hρ, hq, hlo, hlq, ho3, hS⟩; obtain ⟨ρ, rfl⟩ := env2 hA hρ
 all_goals (refine Q0 ?_; refine Q0 ?_; refine Q1 ?_; refine zm ?_; refine zm ?_; refine znc ?_; refine zf0 ?_; (first | refine zf0 ?_ | refine zfd ?_); refine zl hS ?_; refine QA rfl rfl ?_; refine zn ?_)
 refine Qq rfl (fun hc => ?_) (fun hc => ?_)
 · skip
   all_goals (refine zsk ?_; refine Q0 ?_; refine Q9 ?_; refine Q1 ?_; refine zm ?_; refine zm ?_; refine zB1 hS [_] ?_; intro b1 w1 hS; refine za Q4J Q7X hS ?_; intro vp1 w1 css1 hls1 hv1 hS; have hS := hS.ns; refine zm ?_; refine zn ?_; refine Q1 ?_; refine zm ?_; refine zad ?_; refine zm ?_; refine zn ?_; exact ⟨⟨q + 1, _, _, zh, zh, (by omega), by rw [upTo_s]; exact hls1, by rw [upTo_s, List.length_append, hlq]; rfl, ho3, hS.sp⟩, Qs (by omega)⟩)
 · skip
   all_goals (refine zex ?_; have hq' : q = j.f.regs.toNat := (by omega); rw [hq'] at hlo; obtain ⟨c1, hle2, hS, hk1⟩ := St.freezeL (r := intR) hS hlo rfl (by rw [← hq']; omega); have hls' := hls.up hle2; have h5' := h5.up hle2; have hjr' := hjr.up hle2; refine Q0 ?_; refine Q0 ?_; refine zD [(0, none), (1, none), (2, none), (3, none), (4, none), (5, none), (6, none), (7, none), (8, none), (9, some none), (10, some none)] ?_; have hS := hS.drew; refine zm ?_; refine zf0 ?_; refine zl hS ?_; refine zm ?_; refine znc ?_; refine zf0 ?_; (first | refine zf0 ?_ | refine zfd ?_); refine zl hS ?_; refine zm ?_; refine zR4 (c := Qa3 (s := s) hsf.2.1.2 hls' h5' hjr' hk1 hS.p3) (h := ?_); rintro v6 w1 ⟨rfl, hS⟩; refine zm ?_; refine zn ?_; refine Q0 ?_; refine Q1 ?_; refine zm ?_)
   all_goals (first | (refine QJ ?_) | (refine QN ?_) | (refine Ql rfl rfl (fun hc => ?_) (fun hc => ?_)))
   all_goals (refine zn ?_)
   all_goals
    first
    | (refine zct ?_
       all_goals (refine Q0 ?_; refine Q1 ?_; refine zm ?_; refine zm ?_; refine zn ?_; have hJ : jEnd j.f s e = QI (Q45 s e.args j.f.results (upTo j.f.regs.toNat)) := (by rw [hE, Qbf ho3, Q1n (Q6u (by omega))]; rfl); refine zr ?_; refine zf ?_)
       all_goals (first | (exact ⟨_, rfl, (by rw [hJ]), hS.sp⟩) | (exact ⟨_, rfl, (by rw [hJ]), St.weak hS.sp hle2⟩)))
    | (refine zcf ?_
       all_goals refine zsk ?_)
   all_goals (refine Q0 ?_; have har := Q8B (Q3C s e.args j.f.results (upTo j.f.regs.toNat)) (by omega); refine Q1 ?_; refine zm ?_; refine znc ?_; refine zf0 ?_; refine zl hS ?_; refine zR1 (c := rlist_h (h := s.h) hh hS fd) (h := ?_); rintro v1 w1 ⟨c2, hle3, hk2, hS⟩; have hl2 := hk2.len; refine zm ?_; refine zn ?_; refine Q0 ?_; refine Q0 ?_; refine Q1 ?_; refine zm ?_; refine zn ?_; refine Q9 ?_)
   refine zoL hS [0, 11] (fun A LL ρ' w' => ∃ (q : Nat), Has ρ' A ∧ Has ρ' [(12, .int .i64 q)] ∧ (q ≤ (Q1B s.h).length) ∧ (∀ r ∈ (Q1B s.h).take q, r < j.f.regs) ∧ St c2 w' (LL)) (fun ρ' _ => ((Q1B s.h).length - iv (ρ' 12)).toNat) ?_ ?_
   · exact ⟨0, zh, zh, (by omega), by simp, hS.sp⟩
   rintro ρ w1 ⟨q, hA, hρ, hq, hall, hS⟩; obtain ⟨ρ, rfl⟩ := env2 hA hρ
   all_goals (refine Q0 ?_; refine Q0 ?_; refine Q1 ?_; refine zm ?_; refine zm ?_; refine zL ?_; refine QA rfl rfl ?_; refine zn ?_)
   refine Qq rfl (fun hc => ?_) (fun hc => ?_)
   · skip
     all_goals (refine zsk ?_; refine Q0 ?_; refine Q9 ?_; refine Q0 ?_; refine zD [(0, none), (1, none), (2, none), (3, none), (4, none), (5, none), (6, none), (7, none), (8, none), (9, some none)] ?_; have hS := hS.drew; refine zm ?_; refine zm ?_; refine zi ?_; intro b1 o1 cs1 x1 hat1 hx1 he1; obtain rfl := Q11 he1; (first | (refine zl hS ?_) | (refine zlk hS ?_)); refine zm ?_; refine znc ?_; refine zf0 ?_; (first | refine zf0 ?_ | refine zfd ?_); refine zl hS ?_)
     all_goals (first | (refine Q2v ?_) | (refine Q2P ?_) | (refine Q1p rfl rfl (fun hc => ?_) (fun hc => ?_)))
     all_goals (refine zn ?_)
     all_goals
      first
      | (refine zct ?_
         all_goals (refine Q0 ?_; refine Q1 ?_; refine zm ?_; refine zn ?_; have hJ : jEnd j.f s e = 12 := (by rw [hE, Qbf ho3, Qo har, if_pos ((Q8e hg hf0).2 ⟨x1, List.mem_of_getElem? hx1, by omega⟩)]; rfl); refine zr ?_; refine zf ?_)
         all_goals (first | (exact ⟨_, rfl, (by rw [hJ]), hS.sp⟩) | (exact ⟨_, rfl, (by rw [hJ]), St.weak hS.sp hle2⟩) | (exact ⟨_, rfl, (by rw [hJ]), St.weak hS.sp (hle2.trans hle3)⟩)))
      | (refine zcf ?_
         all_goals refine zsk ?_)
     all_goals (refine Q1 ?_; refine zm ?_; refine zad ?_; refine zm ?_; refine zn ?_; exact ⟨⟨q + 1, zh, zh, (by omega), Q3F hall hx1 (by omega), hS.sp⟩, Qs (by omega)⟩)
   · skip
     all_goals (refine zex ?_; refine Q0 ?_; refine Q1 ?_; refine zm ?_; refine zn ?_)
     all_goals (have hJ : jEnd j.f s e = 0 := (by rw [hE, Qbf ho3, Qo har, if_neg (fun h => by obtain ⟨r, hr, h2⟩ := (Q8e hg hf0).1 h; have := hall r (by rw [List.take_of_length_le (by omega)]; exact hr); omega)]; rfl))
     all_goals (refine zr ?_; refine zf ?_; (first | (exact ⟨_, rfl, (by rw [hJ]), hS.sp⟩) | (exact ⟨_, rfl, (by rw [hJ]), St.weak hS.sp hle2⟩) | (exact ⟨_, rfl, (by rw [hJ]), St.weak hS.sp (hle2.trans hle3)⟩)))
theorem QcZ {l : List Ty} (hlen : l.length ≤ 100000) (hs : ∀ x ∈ l, x.Short) {cx : Cx} {w : World} {L : List Res} {v : Value} (hl : tyR.sl cx v l) (hS : St cx w L) : Rets Tryz.prog Q7R [v] w fun u w' => ∃ c' css, cx.Le c' ∧ oneC u = true ∧ tyR.ls c' css l ∧ St c' w' (sl 115 3 u css :: L) := by
 all_goals refine lgo tyD Tryz.func59 ?_
 all_goals (refine Q0 ?_; refine Q1 ?_; refine zm ?_; refine zn ?_; refine Q0 ?_; refine Q1 ?_; refine zm ?_; refine zn ?_; refine Q0 ?_; refine Q0 ?_; refine Q1 ?_; refine zm ?_; refine zn ?_; refine Q9 ?_)
 refine zoL hS [0] (fun A LL ρ' w' => ∃ (c1 : Cx) (j : Nat) (u : Value) (css : List (List Value)), Has ρ' A ∧ Has ρ' [(3, u), (4, .int .i64 j)] ∧ (cx.Le c1) ∧ (j ≤ l.length) ∧ (tyR.ls c1 css (l.take j)) ∧ (oneC u = true) ∧ St c1 w' (sl 115 3 u css :: LL)) (fun ρ' _ => (l.length - iv (ρ' 4)).toNat) ?_ ?_
 · exact ⟨cx, 0, .slice none 0 0, [], zh, zh, St.refl hS, (by omega), Rep.LR.nil _ _ _, rfl, by have hS := hS.nil (T := 115) (es := 3); exact hS⟩
 rintro ρ w1 ⟨c1, j, u, css, hA, hρ, hle, hj, hls, hu, hS⟩; obtain ⟨ρ, rfl⟩ := env2 hA hρ; have hl := Rep.SR.up hl hle
 all_goals (refine Q0 ?_; refine Q0 ?_; refine Q1 ?_; refine zm ?_; refine zm ?_; refine zL ?_; refine QA rfl rfl ?_; refine zn ?_)
 refine Qq rfl (fun hc => ?_) (fun hc => ?_)
 · skip
   all_goals (refine zsk ?_; refine Q0 ?_; refine Q9 ?_; refine Q1 ?_; refine zm ?_; refine zm ?_; refine zm ?_; refine zi ?_; intro b1 o1 cs1 x1 hat1 hx1 he1; obtain ⟨vl1, rfl, hl1⟩ := Qr he1; (first | (refine zv hS ?_) | (refine zvk hS ?_)); refine zR1 (c := rown_c x1 (hs x1 (List.mem_of_getElem? hx1)) he1 hS) (h := ?_); rintro v1 w1 ⟨c2, ds, rfl, hle2, hd, hS⟩; obtain ⟨v2, rfl, hv2⟩ := Qr hd; have hls := Rep.LR.up hls hle2; refine zB1 hS [_, _, _] ?_; intro b1 w1 hS; refine za Q5q Q7W hS ?_; intro vp1 w1 css1 hls1 hv1 hS; have hS := hS.ns; refine zm ?_; refine zn ?_; refine Q1 ?_; refine zm ?_; refine zad ?_; refine zm ?_; refine zn ?_; exact ⟨⟨c2, j + 1, _, _, zh, zh, hle.trans hle2, (by omega), by rw [Q1U hx1]; assumption, by assumption, hS.sp⟩, Qs (by omega)⟩)
 · skip
   all_goals (refine zex ?_; refine Q0 ?_; refine Q1 ?_; refine zm ?_; refine zm ?_; refine zn ?_; refine zr ?_; refine zf ?_; rw [List.take_of_length_le (by omega)] at hls; exact ⟨_, rfl, c1, css, hle, hu, hls, hS.sp⟩)
theorem rKAt_c {f b : Int} {fn : Fun} {y : Block} {cs : List Value} (hm : m.Short) (hf : 0 ≤ f) (hb : 0 ≤ b) (hfn : m.funcs[f.toNat]? = some fn) (hy : fn.blocks[b.toNat]? = some y) (hx : modR.at cx cs m) (hS : St cx w L) :
 Rets Tryz.prog Qec [.agg ⟨cs⟩, .int .i64 f, .int .i64 b] w fun u w' => ∃ (j : JP) (c' : Cx) (vl : Value) (css : List (List Value)), u = .pointer (some ⟨j.sp, 0, none⟩) ∧ cx.Le c' ∧ j.Fits c' m ∧ j.f = fn ∧ tyR.ls c' css y.params ∧ St c' w' (KLf j (Q1s y) vl css L) := by
 obtain ⟨vf, rfl, hf1⟩ := Q1w hx
 have hff := (List.getElem?_eq_some_iff.1 hfn).1
 have hbb := (List.getElem?_eq_some_iff.1 hy).1
 have hsf := hm.2 fn (List.mem_of_getElem? hfn)
 have hle := St.refl hS
 all_goals refine lgo tyD Tryz.func53 ?_
 all_goals (refine Q0 ?_; refine Q1 ?_; refine zb hS ?_; intro p3 w1 hS; refine zm ?_; refine zn ?_; refine Q0 ?_; refine Q1 ?_; refine zf0 ?_; refine zl hS ?_; refine zm ?_; refine Q8T vw rfl hf1 rfl (by omega) (by omega) ?_; intro b1 o1 cs1 x1 hat1 hx1 he1; obtain ⟨vp1, vr1, vb1, rfl, hp1, hr1, hb1⟩ := QM he1; obtain rfl : fn = x1 := Option.some.inj (hfn.symm.trans hx1); (first | refine zf0 ?_ | refine zfd ?_); (first | (refine zl hS ?_) | (refine zlk hS ?_) | (refine zlj hS ?_)); refine zm ?_; refine Q8T vw rfl hb1 rfl (by omega) (by omega) ?_; intro b2 o2 cs2 x2 hat2 hx2 he2; obtain ⟨vp2, vc2, ve21, ve22, ve23, ve24, ve25, rfl, hp2, hc2, he21, he22, he23, he24, he25⟩ := Q1N he2; obtain rfl : y = x2 := Option.some.inj (hy.symm.trans hx2); (first | (refine zv hS ?_) | (refine zvk hS ?_)); refine Q5 hS ?_; intro p7 w1 hS; refine zsn hS ?_; intro w1 hS; have hS := hS.ns; refine zn ?_; refine Q0 ?_; refine zC [(0, none), (1, none), (2, none), (3, none), (4, none), (5, none), (6, none), (7, none), (9, none), (10, none), (8, some (some [0, 2, 5, 10])), (11, some (some [0, 2, 5])), (12, none), (13, some none), (14, some none)] ?_; have hS := hS.drew; refine s_cq ?_; refine zv hS ?_; refine zt ?_)
 all_goals (refine s_cq ?_; refine zf0 ?_; refine zt ?_; refine s_cq ?_; refine zl hS ?_; refine zt ?_; refine s_cq ?_; refine zm ?_; refine zt ?_; refine s_cq ?_; refine Q8T vw rfl hf1 rfl (by omega) (by omega) ?_; intro b3 o3 cs3 x3 hat3 hx3 he3; obtain ⟨vp3, vr3, vb3, rfl, hp3, hr3, hb3⟩ := QM he3; obtain rfl : fn = x3 := Option.some.inj (hfn.symm.trans hx3); refine zt ?_; refine s_cq ?_; (first | (refine zv hS ?_) | (refine zvk hS ?_)); refine zt ?_; refine s_cq ?_; refine zf0 ?_; refine zt ?_; refine s_cq ?_; refine zl hS ?_; refine zt ?_; refine s_cq ?_; refine zf0 ?_; refine zt ?_; refine s_cq ?_; refine zl hS ?_; refine zt ?_; refine Qj ?_; refine zR1 (c := rnew_u hS) (h := ?_); rintro v1 w1 ⟨hp, vh, rfl, hS⟩; refine zt ?_; refine zy ?_; refine Qj ?_; refine zR1 (c := QcZ (hsf.2.2.2 y (List.mem_of_getElem? hy)).1.1 (hsf.2.2.2 y (List.mem_of_getElem? hy)).1.2 hp2 hS) (h := ?_); rintro v1 w1 ⟨c2, css2, hle2, hv1, hls2, hS⟩; have hat3 := hat3.up hle2; obtain ⟨av, nv, rfl⟩ := hS.shape nth0; refine zt ?_; refine zy ?_; refine s_cq ?_; refine zb4 [_, _, _, _, _, _, _] ?_; refine zt ?_; refine s_cf ?_; refine zb hS ?_; intro p30 w1 hS; refine zt ?_; refine s_cf ?_)
 all_goals (refine zm ?_; refine zt ?_; refine zcn ?_; have hS := Q2J (hp := hp) (h := (Q1s y).h) (v := vh) (L := blk p30 158 (JP.kcells ⟨p30, hp, fn, vf, vp3, vr3, vb3⟩ (.slice av css2.length nv)) :: sl 115 3 (.slice av css2.length nv) css2 :: L) hS.sp; refine zr ?_; refine zf ?_; exact ⟨_, rfl, ⟨p30, hp, fn, vf, vp3, vr3, vb3⟩, c2, _, css2, rfl, hle2, ⟨hf1.up hle2, hp3.up hle2, hr3.up hle2, hb3.up hle2⟩, rfl, hls2, hS.sp⟩)
end Go.Proofs.YteflkifmgnpbhaaGreat
namespace Go.Proofs.YteflkifmgnpbhaaGreat
open Go.Lir
set_option maxHeartbeats 1000000
attribute [local irreducible] LC.wp Q2 QD QF retQ Q1a LO.wp Qf Calls
set_option linter.unusedSimpArgs false
set_option linter.unusedVariables false
attribute [local irreducible] hasB Q1B Q1r Q1y Q37 upTo Q14 Q1E rmk jIns jEnd Module.fault Q4j Q4B
variable {cx : Cx} {w : World} {L : List Res} {j : JP} {h : List Bool} {vl : Value} {css : List (List Value)} {i : Nat} {m : Module}
theorem rRun_c {cs : List Value} (hm : m.Short) (hx : modR.at cx cs m) (hS : St cx w L) :
 Rets Tryz.prog Qcd [.agg ⟨cs⟩] w fun u w' => u = fltV m.runs ∧ St cx w' L := by
 have hx' := hx
 obtain ⟨vf, rfl, hf1⟩ := Q1w hx
 have hle := St.refl hS
 have hlf := hf1.len
 all_goals refine lgo tyD Tryz.func16 ?_
 all_goals (refine Q0 ?_; refine Q1 ?_; refine zb hS ?_; intro p1 w1 hS; refine Q5 hS ?_; intro p2 w1 hS; refine zn ?_; refine Q0 ?_; refine Q0 ?_; refine Q1 ?_; refine zv hS ?_; refine zR1 (c := rcheck_c hm hx' hS) (h := ?_); rintro v1 w1 ⟨rfl, hS⟩; unfold fltV; refine Q5 hS ?_; intro p3 w1 hS; refine zsn hS ?_; intro w1 hS; have hS := hS.ns; refine zn ?_; refine Q0 ?_; refine Q1 ?_; refine zf0 ?_; refine zl hS ?_)
 all_goals (first | (refine QJ ?_) | (refine QN ?_) | (refine Ql rfl rfl (fun hc => ?_) (fun hc => ?_)))
 all_goals (refine zn ?_)
 all_goals
  first
  | (refine zcf ?_
     all_goals refine zsk ?_)
  | (refine zct ?_
     all_goals (refine Q0 ?_; refine Q1 ?_; refine zv hS ?_; refine zsn hS ?_; intro w1 hS; have hS := hS.ns; refine zn ?_; have hJ := runs_no (m := m) (by omega); refine zr ?_; refine Q1d vw (Q6 (n := 2) (by kernel_rfl) (by kernel_rfl) (hS.blkAt fd) (by rfl) (by rfl)) ?_)
     all_goals (exact ⟨_, rfl, by rw [hJ]; rfl, St.weak hS.sp hle⟩))
 all_goals (refine Q0 ?_; refine Q0 ?_; have hF : m.fault.1 = 0 := (by omega); have hr0 := runs_go hF; have hlf8 := hm.1; refine Q1 ?_; refine zm ?_; refine zn ?_; refine Q9 ?_)
 refine zo [1, 2] (fun A ρ' w' => ∃ (k0 : Cx) (q : Nat), Has ρ' A ∧ Has ρ' [(4, .int .i64 q)] ∧ (cx.Le k0) ∧ (q ≤ m.funcs.length) ∧ (m.runs = Q1C m q (m.funcs.drop q)) ∧ St k0 w' (blk p3 29 [.int .i64 m.fault.1, .int .i64 m.fault.2] :: blk p2 29 [.int .i64 0, .int .i64 0] :: blk p1 24 [vf] :: L)) (fun ρ' _ => (m.funcs.length - iv (ρ' 4)).toNat) ?_ ?_
 · exact ⟨cx, 0, zh, zh, St.refl hS, (by omega), by rw [hr0]; rfl, hS.sp⟩
 rintro ρ w1 ⟨k0, q, hA, hρ, hle2, hq, hd, hS⟩; obtain ⟨ρ, rfl⟩ := env2 hA hρ; have hL0 := hle2; (try have hle := hle.trans hle2); (try have hf1 := hf1.up hle2)
 all_goals (refine Q0 ?_; refine Q0 ?_; refine Q1 ?_; refine zm ?_; refine zf0 ?_; refine zl hS ?_; refine zL ?_; refine QA rfl rfl ?_; refine zn ?_)
 refine Qq rfl (fun hc => ?_) (fun hc => ?_)
 · skip
   all_goals (refine zsk ?_; refine Q0 ?_; refine Q9 ?_; refine Q0 ?_)
   all_goals (obtain ⟨fn, hfn⟩ : ∃ fn, m.funcs[q]? = some fn := ⟨_, List.getElem?_eq_getElem (by omega)⟩; have hsf := hm.2 fn (List.mem_of_getElem? hfn); have hfb := mod_fb hF hfn; have hfh := Q1x (Q1K hF hfn))
   all_goals (refine Q1 ?_; refine zm ?_; refine zn ?_; refine Q9 ?_)
   refine zo [1, 2, 4] (fun A ρ' w' => ∃ (k1 : Cx) (b : Nat), Has ρ' A ∧ Has ρ' [(5, .int .i64 b)] ∧ (k0.Le k1) ∧ (b ≤ fn.blocks.length) ∧ (QE m fn q 0 fn.blocks = QE m fn q b (fn.blocks.drop b)) ∧ St k1 w' (blk p3 29 [.int .i64 m.fault.1, .int .i64 m.fault.2] :: blk p2 29 [.int .i64 0, .int .i64 0] :: blk p1 24 [vf] :: L)) (fun ρ' _ => (fn.blocks.length - iv (ρ' 5)).toNat) ?_ ?_
   · exact ⟨k0, 0, zh, zh, St.refl hS, (by omega), by rfl, hS.sp⟩
   rintro ρ w1 ⟨k1, b, hA, hρ, hle2, hb, hdb, hS⟩; obtain ⟨ρ, rfl⟩ := env2 hA hρ; have hL1 := hle2; (try have hle := hle.trans hle2); (try have hL0 := hL0.trans hle2); (try have hf1 := hf1.up hle2)
   all_goals (refine Q0 ?_; refine Q0 ?_; refine Q1 ?_; refine zm ?_; refine zf0 ?_; refine zl hS ?_; refine zm ?_; refine zi ?_; intro b1 o1 cs1 x1 hat1 hx1 he1; obtain ⟨vp1, vr1, vb1, rfl, hp1, hr1, hb1⟩ := QM he1; (first | refine zf0 ?_ | refine zfd ?_); (first | (refine zl hS ?_) | (refine zlk hS ?_) | (refine zlj hS ?_)); refine zL ?_; refine QA rfl rfl ?_; refine zn ?_; obtain rfl : fn = x1 := Option.some.inj (hfn.symm.trans hx1))
   refine Qq rfl (fun hc => ?_) (fun hc => ?_)
   · skip
     all_goals (refine zsk ?_; refine Q0 ?_; refine Q9 ?_; refine Q0 ?_; obtain ⟨y, hy⟩ : ∃ y, fn.blocks[b]? = some y := ⟨_, List.getElem?_eq_getElem (by omega)⟩; have hsy := hsf.2.2.2 y (List.mem_of_getElem? hy); refine Q1 ?_; refine zv hS ?_; refine zm ?_; refine zm ?_)
     all_goals (refine zR3 (c := rKAt_c (f := q) (b := b) hm (by omega) (by omega) (by simpa using hfn) (by simpa using hy) ⟨_, rfl, hf1⟩ hS) (h := ?_); rintro v1 w1 ⟨j, c2, vl, css, rfl, hle2, hj, hjf, hls, hS⟩; (try have hle := hle.trans hle2); (try have hL0 := hL0.trans hle2); (try have hL1 := hL1.trans hle2); (try have hp1 := hp1.up hle2); (try have hr1 := hr1.up hle2); (try have hb1 := hb1.up hle2); (try have he1 := he1.up hle2); (try have hf1 := hf1.up hle2); subst hjf)
     all_goals (refine zm ?_; refine zn ?_; refine Q0 ?_; refine Q1 ?_; refine zf0 ?_; refine zl hS ?_; refine zm ?_; refine zi ?_; intro b2 o2 cs2 x2 hat2 hx2 he2; obtain ⟨vp2, vr2, vb2, rfl, hp2, hr2, hb2⟩ := QM he2; (first | refine zf0 ?_ | refine zfd ?_); (first | (refine zl hS ?_) | (refine zlk hS ?_) | (refine zlj hS ?_)); obtain rfl : j.f = x2 := Option.some.inj (hfn.symm.trans hx2); refine zm ?_; refine zi ?_; intro b3 o3 cs3 x3 hat3 hx3 he3; obtain ⟨vp3, vc3, ve31, ve32, ve33, ve34, ve35, rfl, hp3, hc3, he31, he32, he33, he34, he35⟩ := Q1N he3; (first | (refine zv hS ?_) | (refine zvk hS ?_)); refine Q5 hS ?_; intro p7 w1 hS; refine zsn hS ?_; intro w1 hS; have hS := hS.ns; refine zn ?_; obtain rfl : y = x3 := Option.some.inj (hy.symm.trans hx3); refine Q0 ?_; refine Q0 ?_; have hg0 := Q4r hm hF hfn hy; have hlc := hsy.2.1; refine Q1 ?_; refine zm ?_; refine zn ?_; refine Q9 ?_)
     refine zo [1, 2, 4, 5, 6, 7] (fun A ρ' w' => ∃ (k2 : Cx) (i : Nat) (s : JS) (vl : Value) (css : List (List Value)), Has ρ' A ∧ Has ρ' [(8, .int .i64 i)] ∧ (c2.Le k2) ∧ (i ≤ y.code.length) ∧ (QX m j.f q b y.fin 0 (Q1s y) y.code = QX m j.f q b y.fin i s (y.code.drop i)) ∧ (j.Fits k2 m) ∧ (tyR.ls k2 css s.l) ∧ (JInv m j.f s) ∧ St k2 w' (blk p7 92 [.int .i64 y.regs, vp3, vc3, .int .i64 y.fin.op, .int .i64 y.fin.a, .int .i64 y.fin.yes.block, ve31, ve32, .int .i64 y.fin.no.block, ve33, ve34, ve35] :: blk j.sp 158 (j.kcells vl) :: Q4A j.hp s.h :: sl 115 3 vl css :: blk p3 29 [.int .i64 m.fault.1, .int .i64 m.fault.2] :: blk p2 29 [.int .i64 0, .int .i64 0] :: blk p1 24 [vf] :: L)) (fun ρ' _ => (y.code.length - iv (ρ' 8)).toNat) ?_ ?_
     · exact ⟨c2, 0, Q1s y, vl, css, zh, zh, St.refl hS, (by omega), by rfl, hj, hls, hg0, hS.sp⟩
     rintro ρ w1 ⟨k2, i, s, vl, css, hA, hρ, hle2, hi, hdi, hj, hls, hg, hS⟩; obtain ⟨ρ, rfl⟩ := env2 hA hρ; have hL2 := hle2; (try have hle := hle.trans hle2); (try have hL0 := hL0.trans hle2); (try have hL1 := hL1.trans hle2); (try have hp1 := hp1.up hle2); (try have hr1 := hr1.up hle2); (try have hb1 := hb1.up hle2); (try have hp2 := hp2.up hle2); (try have hr2 := hr2.up hle2); (try have hb2 := hb2.up hle2); (try have hp3 := hp3.up hle2); (try have hc3 := hc3.up hle2); (try have he31 := he31.up hle2); (try have he32 := he32.up hle2); (try have he33 := he33.up hle2); (try have he34 := he34.up hle2); (try have he35 := he35.up hle2); (try have he1 := he1.up hle2); (try have he2 := he2.up hle2); (try have he3 := he3.up hle2); (try have hf1 := hf1.up hle2)
     all_goals (refine Q0 ?_; refine Q0 ?_; refine Q1 ?_; refine zm ?_; refine zf0 ?_; refine zl hS ?_; refine zL ?_; refine QA rfl rfl ?_; refine zn ?_)
     refine Qq rfl (fun hc => ?_) (fun hc => ?_)
     · skip
       all_goals (refine zsk ?_; refine Q0 ?_; refine Q9 ?_; refine Q0 ?_; refine Q1 ?_; refine zm ?_; refine zf0 ?_; refine zl hS ?_; refine zm ?_; refine zi ?_; intro b4 o4 cs4 x4 hat4 hx4 he4; obtain ⟨vr4, va4, rfl, hr4, ha4⟩ := Q1G he4; (first | (refine zv hS ?_) | (refine zvk hS ?_)))
       all_goals (refine zR2 (c := rIns_c (s := s) (x := x4) hm hg hj he4 hls hS.p3) (h := ?_); rintro v1 w1 ⟨c4, vl4, css4, hle2, rfl, hls4, hS⟩; (try have hle := hle.trans hle2); (try have hL0 := hL0.trans hle2); (try have hL1 := hL1.trans hle2); (try have hL2 := hL2.trans hle2); (try have hp1 := hp1.up hle2); (try have hr1 := hr1.up hle2); (try have hb1 := hb1.up hle2); (try have hp2 := hp2.up hle2); (try have hr2 := hr2.up hle2); (try have hb2 := hb2.up hle2); (try have hp3 := hp3.up hle2); (try have hc3 := hc3.up hle2); (try have he31 := he31.up hle2); (try have he32 := he32.up hle2); (try have he33 := he33.up hle2); (try have he34 := he34.up hle2); (try have he35 := he35.up hle2); (try have hr4 := hr4.up hle2); (try have ha4 := ha4.up hle2); (try have he1 := he1.up hle2); (try have he2 := he2.up hle2); (try have he3 := he3.up hle2); (try have he4 := he4.up hle2); (try have hls := hls.up hle2); (try have hf1 := hf1.up hle2); have hj := hj.up hle2; have hg1 := jIns_inv (x := x4) hF hm hg; obtain ⟨s1, hs1⟩ : ∃ s1, (jIns m j.f s x4).2 = s1 := ⟨_, rfl⟩; rw [hs1] at hls4 hS hg1)
       all_goals (refine zm ?_; refine zn ?_; refine Q0 ?_; refine Q1 ?_; refine zm ?_)
       all_goals (first | (refine QJ ?_) | (refine QN ?_) | (refine Ql rfl rfl (fun hc => ?_) (fun hc => ?_)))
       all_goals (refine zn ?_)
       all_goals
        first
        | (refine zct ?_
           all_goals (refine Q0 ?_; refine Q1 ?_; refine zm ?_; refine zm ?_; refine zm ?_; refine zm ?_; refine zR3 (c := QaW q b i (by omega) (by omega) (by omega) hS) (h := ?_); rintro v1 w1 ⟨rfl, hS⟩; refine zR2 (c := rF_c hS) (h := ?_); rintro v1 w1 ⟨rfl, hS⟩; refine zsn hS ?_; intro w1 hS; have hS := hS.ns; refine zn ?_; have hJ := QcS hd hfn hdb hy (by rw [hdi, Q3 hx4, Q5v (by omega)]) (by omega); refine zr ?_; refine Q1d vw (Q6 (n := 2) (by kernel_rfl) (by kernel_rfl) (hS.blkAt fd) (by rfl) (by rfl)) ?_)
           all_goals (exact ⟨_, rfl, by rw [hJ]; rfl, St.weak hS.sp hle⟩))
        | (refine zcf ?_
           all_goals refine zsk ?_)
       all_goals (refine Q1 ?_; refine zm ?_; refine zad ?_; refine zm ?_; refine zn ?_; exact ⟨⟨_, i + 1, s1, vl4, css4, zh, zh, hL2, (by omega), by rw [hdi, Q3 hx4, Q5w (by omega), hs1], hj, hls4, hg1, hS.sp⟩, Qs (by omega)⟩)
     · skip
       all_goals (refine zex ?_; refine Q0 ?_; refine Q1 ?_; refine zm ?_; refine zf0 ?_; refine zv hS ?_; refine zR2 (c := rEnd_c (s := s) (e := y.fin) hsf hfb hfh.1 (by omega) hg hj ⟨_, _, _, _, _, rfl, he31, he32, he33, he34, he35⟩ hls hS.p3) (h := ?_); rintro v1 w1 ⟨rfl, hS⟩; have hde := Q6d (m := m) (f := j.f) (fi := q) (bi := b) (e := y.fin) (s := s) (i := i) (l := y.code) (by omega); refine zm ?_; refine zn ?_; refine Q0 ?_; refine Q1 ?_; refine zm ?_)
       all_goals (first | (refine QJ ?_) | (refine QN ?_) | (refine Ql rfl rfl (fun hc => ?_) (fun hc => ?_)))
       all_goals (refine zn ?_)
       all_goals
        first
        | (refine zct ?_
           all_goals (refine Q0 ?_; refine Q1 ?_; refine zm ?_; refine zm ?_; refine zm ?_; refine zR2 (c := QaX q b (by omega) (by omega) hS) (h := ?_); rintro v1 w1 ⟨rfl, hS⟩; refine zR2 (c := rF_c hS) (h := ?_); rintro v1 w1 ⟨rfl, hS⟩; refine zsn hS ?_; intro w1 hS; have hS := hS.ns; refine zn ?_; have hJ := QcS hd hfn hdb hy (hdi.trans (hde.trans (Q4N (by omega)))) (by omega); refine zr ?_; refine Q1d vw (Q6 (n := 2) (by kernel_rfl) (by kernel_rfl) (hS.blkAt fd) (by rfl) (by rfl)) ?_)
           all_goals (exact ⟨_, rfl, by rw [hJ]; rfl, St.weak hS.sp hle⟩))
        | (refine zcf ?_
           all_goals refine zsk ?_)
       all_goals (refine Q1 ?_; refine zm ?_; refine zad ?_; refine zm ?_; refine zn ?_; exact ⟨⟨_, b + 1, zh, zh, hL1, (by omega), runs_b hdb hy (by rw [hdi, hde, Q1O]; omega), hS.sp⟩, Qs (by omega)⟩)
   · skip
     all_goals (refine zex ?_; refine Q1 ?_; refine zm ?_; refine zad ?_; refine zm ?_; refine zn ?_; exact ⟨⟨_, q + 1, zh, zh, hL0, (by omega), runs_f hd hfn hdb (by omega), hS.sp⟩, Qs (by omega)⟩)
 · skip
   all_goals (refine zex ?_; refine Q0 ?_; refine Q1 ?_; refine zb0 [_, _] ?_; refine zsn hS ?_; intro w1 hS; have hS := hS.ns; refine zn ?_; have hJ := runs_z hd (by omega); refine zr ?_; refine Q1d vw (Q6 (n := 2) (by kernel_rfl) (by kernel_rfl) (hS.blkAt fd) (by rfl) (by rfl)) ?_; exact ⟨_, rfl, by rw [hJ]; rfl, St.weak hS.sp hle⟩)
end Go.Proofs.YteflkifmgnpbhaaGreat
namespace Go.Proofs.YteflkifmgnpbhaaGreat
open Go.Lir
set_option maxHeartbeats 1000000
attribute [local irreducible] LC.wp Q2 QD QF retQ Q1a LO.wp Qf Calls
set_option linter.unusedSimpArgs false
set_option linter.unusedVariables false
variable {cx : Cx} {w : World} {L : List Res} {m : Module} {inp : List Int}
theorem RunS.form {fuel pages : Int} {u : Value} (hs : RunS m inp fuel pages cx L u w) : ∃ c' a1 a2 y1 y2 o F, cx.Le c' ∧ u = .tuple #[.agg ⟨[.int .i64 o.e, .slice a1 o.back.length y1, .slice a2 o.out.length y2, .int .i64 o.fuel]⟩, fltV F] ∧ intR.sl c' (.slice a1 o.back.length y1) o.back ∧ intR.sl c' (.slice a2 o.out.length y2) o.out ∧ St c' w L ∧ (F.1 = 0 → m.fault.1 = 0 ∧ (Run.all m inp fuel.toNat pages).oc = o ∧ (Run.all m inp fuel.toNat pages).flt = F) ∧ (Q2d m inp fuel pages = (0, 0) → (Run.all m inp fuel.toNat pages).oc = o ∧ (Run.all m inp fuel.toNat pages).flt = F) := by
 rcases hs with ⟨h1, rfl, hS⟩ | ⟨h1, c', v1, v2, hle, rfl, k1, k2, hS⟩
 · refine ⟨cx, none, none, 0, 0, ⟨0, [], [], 0⟩, _, St.refl hS, rfl, Rep.SR.nil _ _ _, Rep.SR.nil _ _ _, hS, fun h => absurd h h1, fun h => absurd (by rw [h]) h1⟩
 · obtain ⟨a1, y1, rfl⟩ := Rep.SR.shape k1
   obtain ⟨a2, y2, rfl⟩ := Rep.SR.shape k2
   have hM : m.fault.1 = 0 := Classical.byContradiction fun h => by rw [Q1X h] at h1; exact h (by rw [h1])
   exact ⟨c', a1, a2, y1, y2, _, _, hle, rfl, k1, k2, hS, fun _ => ⟨hM, rfl, rfl⟩, fun _ => ⟨rfl, rfl⟩⟩
theorem Qan {cs : List Value} {v : Value} {fuel pages : Int} (hx : modR.at cx cs m) (hi : intR.sl cx v inp) (hS : St cx w L) : Rets Tryz.prog Q5A [.agg ⟨cs⟩, v, .int .i64 fuel, .int .i64 pages] w fun u w' => u = .bool true ∧ St cx w' L := by
 have hx' := hx
 obtain ⟨vf, rfl, hf⟩ := Q1w hx
 obtain ⟨af, nf, rfl⟩ := Rep.SR.shape hf
 all_goals refine lgo tyD Tryz.func3 ?_
 all_goals (refine Q0 ?_; refine Q1 ?_; refine zb hS ?_; intro p4 w1 hS; refine zm ?_; refine zn ?_; refine Q0 ?_; refine Q0 ?_; refine Q1 ?_; refine zR0 (c := Q9k hS) (h := ?_); rintro v1 w1 ⟨rfl, hS⟩; refine znt ?_; refine zn ?_)
 all_goals
  first
  | (refine zct ?_
     all_goals (refine Q0 ?_; refine Q1 ?_; refine zm ?_; refine zn ?_; refine zr ?_; refine zf ?_)
     all_goals (exact ⟨_, rfl, rfl, hS.sp⟩))
  | (refine zcf ?_
     all_goals refine zsk ?_)
 all_goals (refine Q0 ?_; refine Q0 ?_; refine Q1 ?_; refine zv hS ?_; refine zm ?_)
 all_goals (refine zR2 (c := long_c hx' hS) (h := ?_); rintro v1 w1 ⟨b, rfl, hb, hS⟩; cases b)
 all_goals (refine zm ?_; (first | refine zgn ?_ | (refine zgy ?_; refine zm ?_)); (first | refine zgn ?_ | (refine zgy ?_; refine zm ?_)); (first | refine zgn ?_ | (refine zgy ?_; refine zm ?_)); (first | (refine zgn ?_) | (refine zgy ?_; obtain ⟨hfew, hfu⟩ := hb rfl; refine zR3 (c := rstart_c hi hS) (h := ?_); rintro v1 w1 ⟨F0, rfl, hF0, hS⟩; unfold fltV)); (first | refine zgn ?_ | (refine zgy ?_; refine Q8U rfl rfl ?_)))
 all_goals (first | refine zgn ?_ | (refine zgy ?_; (first | (refine QJ ?_) | (refine QN ?_) | (refine Ql rfl rfl (fun hc => ?_) (fun hc => ?_)))))
 all_goals ((first | (refine zpt ?_) | (refine zpf ?_)); refine zm ?_; (first | refine zgn ?_ | (refine zgy ?_; refine zv hS ?_)); (first | (refine zgn ?_) | (refine zgy ?_; refine zR1 (c := rRun_c (Q6C hfew) hx' hS) (h := ?_); rintro v1 w1 ⟨rfl, hS⟩; unfold fltV)); (first | refine zgn ?_ | (refine zgy ?_; refine Q8U rfl rfl ?_)))
 all_goals (first | refine zgn ?_ | (refine zgy ?_; (first | (refine QJ ?_) | (refine QN ?_) | (refine Ql rfl rfl (fun hc => ?_) (fun hc => ?_)))))
 all_goals ((first | (refine zpt ?_) | (refine zpf ?_)); refine zn ?_)
 all_goals
  first
  | (refine zct ?_
     all_goals (refine Q0 ?_; refine Q1 ?_; refine zm ?_; refine zn ?_; refine zr ?_; refine zf ?_)
     all_goals (exact ⟨_, rfl, rfl, hS.sp⟩))
  | (refine zcf ?_
     all_goals refine zsk ?_)
 all_goals (refine Q0 ?_; refine Q1 ?_; refine zv hS ?_; refine zm ?_; refine zm ?_; refine zm ?_; have hst := hF0 (by omega); have hru : m.runs.1 = 0 := (by omega); have hM := Q2R hru; refine zR4 (c := run_c (Q6C hfew) hx' hi hS) (h := ?_); rintro v1 w1 hr; obtain ⟨c1, a1, a2, y1, y2, o, F, hle1, rfl, k1, k2, hS, -, hF2⟩ := hr.form; obtain ⟨e1, e2⟩ := hF2 (Q4Z (by omega) (by omega)); obtain rfl : F = (0, 0) := e2.symm.trans (Qad hru (Q6C hfew) inp fuel.toNat pages); unfold fltV; refine zm ?_; refine zxt ?_; refine zxt ?_; refine Q5 hS ?_; intro p9 w1 hS; refine Q5 hS ?_; intro p10 w1 hS; refine zsn hS ?_; intro w1 hS; have hS := hS.ns; refine zsn hS ?_; intro w1 hS; have hS := hS.ns; refine zn ?_; refine Q0 ?_; refine Q1 ?_; refine zf0 ?_; refine zl hS ?_)
 all_goals (refine Qg ?_)
 all_goals (refine zm ?_; refine zn ?_; refine zr ?_; refine zf ?_; (first | exact ⟨_, rfl, rfl, hS.sp⟩ | exact ⟨_, rfl, rfl, St.weak hS.sp hle1⟩))
end Go.Proofs.YteflkifmgnpbhaaGreat
namespace Go.Proofs.YteflkifmgnpbhaaGreat
open Go.Lir
def cLongs : Cod.Of Tryz.prog 25 intR.list := Cod.Of.list cLong (by kernel_rfl) (by kernel_rfl) (by kernel_rfl)
theorem idealSafe_rd {c : Array Value} {x : Module} {v : Value} {inp : List Int} {w : World} (h1 : cMod.cod.rd w.heap c.toList x) (h2 : cLongs.cod.rd w.heap [v] inp) (a b : Int) : Rets Tryz.prog Q5A [.agg c, v, .int .i64 a, .int .i64 b] w fun v w' => v = .bool true ∧ Fr NF w w' := by
 obtain ⟨v', hv, hin⟩ := cLongs.top h2
 cases hv
 exact (Qan (cMod.top h1) hin (St.top w)).mono fun _ _ ⟨h, h2⟩ => ⟨h, h2.fr⟩
end Go.Proofs.YteflkifmgnpbhaaGreat
