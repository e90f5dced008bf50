/- Evaluation is sound: the deferred function; every call of the table. -/
import Derived.Test.YthdkbdnbflkagaaGreatDoorEvZ
namespace Go.Lir
set_option linter.unusedVariables false
set_option linter.unusedSimpArgs false
section
variable {P : Program} {E : FuncId → Option ExK} {X : FuncId → List V → AW → CR} {c : Cn} {φ : Ph} {σ : Tr2 V} {A : AW} {ρ : Env} {w : World} {R : Ending → World → Prop} {N : Nat} {Tb : FuncId → Option FC}
/-- Pairs that stay besides. -/
def Cn.and (c : Cn) (T : V → Value → Prop) : Cn := ⟨c.w0, fun v u => c.S v u ∨ T v u, c.R⟩
theorem Bs.and {T : V → Value → Prop} (hb : Bs c φ A w) (h : ∀ v u, T v u → VR φ v u) : Bs (c.and T) φ A w := ⟨hb.wr, hb.free, fun v u h' => h'.elim (hb.keep v u) (h v u), hb.res⟩
theorem Bs.unand {T : V → Value → Prop} (hb : Bs (c.and T) φ A w) : Bs c φ A w ∧ ∀ v u, T v u → VR φ v u := ⟨⟨hb.wr, hb.free, fun v u h => hb.keep v u (.inl h), hb.res⟩, fun v u h => hb.keep v u (.inr h)⟩
/-- In which mode a frame is. -/
inductive MoR (φ : Ph) : Mo → FrameMode → Prop where
  | ret : MoR φ .ret .returning
  | pan {v : V} {u : Value} {b : Bool} (h : VR φ v u) : MoR φ (.pan v b) (.panicking [{ v := u, recovered := b }])
def moT (m : Mo) (m' : FrameMode) (v : V) (u : Value) : Prop := match m, m' with
  | .pan v1 _, .panicking [e] => v = v1 ∧ u = e.v
  | _, _ => False
def ShM : Mo → FrameMode → Prop
  | .ret, .returning => True
  | .pan _ b, .panicking [e] => e = { v := e.v, recovered := b }
  | _, _ => False
theorem MoR.sh {m : Mo} {m' : FrameMode} (h : MoR φ m m') : ShM m m' ∧ ∀ v u, moT m m' v u → VR φ v u := by
  cases h with
  | ret => exact ⟨trivial, fun v u h => False.elim h⟩
  | pan h => exact ⟨rfl, fun v u h' => by obtain ⟨rfl, rfl⟩ := h'; exact h⟩
theorem ShM.mo : ∀ {m : Mo} {m' : FrameMode}, ShM m m' → (∀ v u, moT m m' v u → VR φ v u) → MoR φ m m'
  | .ret, .returning, _, _ => .ret
  | .pan v b, .panicking [e], h, hv => by
    have h : e = { v := e.v, recovered := b } := h
    rw [h]
    exact .pan (hv _ _ ⟨rfl, rfl⟩)
  | .ret, .run, h, _ => False.elim h
  | .ret, .panicking _, h, _ => False.elim h
  | .pan _ _, .run, h, _ => False.elim h
  | .pan _ _, .returning, h, _ => False.elim h
  | .pan _ _, .panicking [], h, _ => False.elim h
  | .pan _ _, .panicking (_ :: _ :: _), h, _ => False.elim h
def PostR (c : Cn) (Q : FrameMode → QT) : RR → Prop
  | .nm m σ A => ∀ φ ρ w m', Bs c φ A w → EnvR φ σ ρ → MoR φ m m' → Q m' .normal ρ w
  | .rt m σ A => ∀ φ ρ w m', Bs c φ A w → EnvR φ σ ρ → MoR φ m m' → Q m' .ret ρ w
  | .no => False
theorem rOf_ok {Q : FrameMode → QT} {m : Mo} {m' : FrameMode} (hs : ShM m m') {r : ER} (h : PostR c Q (rOf m r)) : Post (c.and (moT m m')) (Q m') r := by
  cases r with
  | nm σ A => exact fun φ ρ w hb he => h φ ρ w m' hb.unand.1 he (hs.mo hb.unand.2)
  | rt σ A => exact fun φ ρ w hb he => h φ ρ w m' hb.unand.1 he (hs.mo hb.unand.2)
  | pn v s A => exact False.elim h
  | ex id σ A => exact False.elim h
  | no => exact False.elim h
theorem evR_ok (hE : EOk P E) (hX : XOk P X) : ∀ (a : LD) (Q : FrameMode → QT) {φ : Ph} {m : Mo} {m' : FrameMode} {σ : Tr2 V} {A : AW} {ρ : Env} {w : World}, Bs c φ A w → EnvR φ σ ρ → MoR φ m m' → PostR c Q (evR P E X N a m σ A) → a.wpR P Q m' ρ w
  | .pl a, Q, φ, m, m', σ, A, ρ, w, hb, he, hm, h => evC_ok hE hX N a (Q m') (hb.and hm.sh.2) he (rOf_ok hm.sh.1 (r := evC P E X N a σ A) h)
  | .seq a b, Q, φ, m, m', σ, A, ρ, w, hb, he, hm, h => by
    refine evR_ok hE hX a (fun m' => thenQ (b.wpR P Q m') (Q m')) hb he hm ?_
    unfold evR at h
    generalize evR P E X N a m σ A = r at h
    cases r with
    | nm m σ A => exact fun φ ρ w m' hb he hm => evR_ok hE hX b Q hb he hm h
    | rt m σ A => exact h
    | no => exact False.elim h
  | .sp l1 (.dfr d x) l2, Q, φ, m, m', σ, A, ρ, w, hb, he, hm, h => False.elim h
  | .sp l1 (.rcv d) l2, Q, φ, m, m', σ, A, ρ, w, hb, he, hm, h => by
    unfold evR at h
    refine evL_ok (c := c.and (moT m m')) hE hX l1 (hb.and hm.sh.2) he ?_
    generalize evL P E X l1 σ A = r at h
    have hs := hm.sh.1
    cases r with
    | nm σ A =>
      intro φ ρ w hb2 he2
      obtain ⟨hb2, hm2⟩ := hb2.unand
      have hm2 := hs.mo hm2
      have fin : ∀ (v : V) (u : Value) (m2 : Mo) (m2' : FrameMode), VR φ v u → MoR φ m2 m2' → PostR c Q (recS P E X l2 d σ A v m2) → opsWp P l2 (Q m2') (updo ρ d u) w := by
        intro v u m2 m2' hv hm3 h
        cases d with
        | none => exact evL_ok hE hX l2 (hb2.and hm3.sh.2) he2 (rOf_ok hm3.sh.1 h)
        | some d =>
          replace h : PostR c Q (rOf m2 (σ.setk v d fun σ => evL P E X l2 σ A)) := h
          rw [Tr2.setk_eq] at h
          exact evL_ok hE hX l2 (hb2.and hm3.sh.2) (he2.set d hv) (rOf_ok hm3.sh.1 h)
      show opsWp P l2 (Q (recM m').2) (updo ρ d (recM m').1) w
      clear hm hs
      cases hm2 with
      | ret => exact fin .n0 .nilIface .ret .returning .n0 .ret h
      | pan hv =>
        rename_i v u b
        cases b with
        | true => exact fin .n0 .nilIface (.pan v true) _ .n0 (.pan hv) h
        | false => exact fin v u (.pan v true) (.panicking [{ v := u, recovered := true }]) hv (.pan hv) h
    | rt σ A => exact False.elim h
    | ex id σ A => exact False.elim h
    | no => exact False.elim h
    | pn v s A => exact False.elim h
theorem setE_ok {k : Mo → AW → CR} {m : Mo} {m' : FrameMode} (h : PostC c R (setE m k A)) (hm : MoR φ m m') : ∃ m2, MoR φ m2 (settle m') ∧ PostC c R (k m2 A) := by
  cases hm with
  | ret => exact ⟨_, .ret, h⟩
  | pan hv =>
    rename_i v u b
    cases b with
    | true => exact ⟨.ret, .ret, h⟩
    | false => exact ⟨_, .pan hv, h⟩
theorem callD_ok {c' : Cn} (hE : EOk P E) (hX : XOk P X) (hT : TbOk P Tb) {f : FuncId} {l : List V} {l' : List Value} {m : Mo} {m' : FrameMode} {k : Mo → AW → CR} (hb : Bs c φ A w) (hl : VRs φ l l') (hm : MoR φ m m') (h : PostC c' R (callD P E X N Tb f l m A k)) :
    goFunc P f = true ∧ CallsD P f ⟨l'⟩ m' w fun e u' w' => (∃ v, e = .returned v) ∧ ∃ φ2 m2 A2, Bs c φ2 A2 w' ∧ MoR φ2 m2 (settle u') ∧ PostC c' R (k m2 A2) := by
  unfold callD at h
  cases hf : Tb f with
  | none => rw [hf] at h; exact False.elim h
  | some fc =>
    rw [hf] at h
    cases fc with
    | pl n rs code => exact False.elim h
    | df n rs code =>
      obtain ⟨fn, h1, h2, h3, h4⟩ := hT f _ hf
      obtain ⟨hg, h⟩ := orC_ok h
      obtain ⟨hn, h⟩ := orC_ok h
      have hn := Nat.le_of_ble_eq_true hn
      refine ⟨hg, ?_⟩
      obtain ⟨t', he, h⟩ := argT_ok l 0 _ (dep_ok (φ := φ) (ρ := argEnv l') n) (args_ok hl) h
      refine callsD_of_lowR h1 h2 h3 (Nat.ble_eq_true_of_le (by rw [h4, ← hl.len]; exact hn)) (evR_ok (N := N) hE hX code _ hb he hm ?_)
      generalize evR P E X N code m t' A = r at h
      have fin : ∀ (m : Mo) (σ : Tr2 V) (A : AW), PostC c' R (resE P A σ rs fun _ => setE m k A) → ∀ φ ρ w m', Bs c φ A w → EnvR φ σ ρ → MoR φ m m' → resWp P w ρ rs [] fun v => (fun e u' w' => (∃ v, e = Ending.returned v) ∧ ∃ φ2 m2 A2, Bs c φ2 A2 w' ∧ MoR φ2 m2 (settle u') ∧ PostC c' R (k m2 A2)) (Ending.returned v) m' w := by
        intro m σ A h φ ρ w m' hb he hm
        obtain ⟨v, u, g1, g2, g3⟩ := resE_ok hb he h
        obtain ⟨m2, g4, g5⟩ := setE_ok g2 hm
        exact g3 _ ⟨⟨_, rfl⟩, φ, m2, A, hb, g4, g5⟩
      cases r with
      | nm m σ A => exact fin m σ A h
      | rt m σ A => exact fin m σ A h
      | no => exact False.elim h
theorem leave_ok (hE : EOk P E) (hX : XOk P X) (hT : TbOk P Tb) {rs : List ResultVar} {s : Option (Tr2 V)} : ∀ (ds : List (FuncId × List V)) {φ : Ph} {ds' : List Deferred} {m : Mo} {m' : FrameMode} {A : AW} {w : World}, Bs c φ A w → DsR φ ds ds' → MoR φ m m' → (∀ σ, s = some σ → EnvR φ σ ρ) → PostC c R (leave P E X N Tb rs s ds m A) → leavesE P rs ρ R ds' m' w
  | [], φ, ds', m, m', A, w, hb, hd, hm, he, h => by
    cases hd
    cases hm with
    | ret =>
      cases s with
      | some σ =>
        obtain ⟨v, u, g1, g2, g3⟩ := resE_ok hb (he σ rfl) (show PostC c R (resE P A σ rs fun v => .rt v A) from h)
        exact g3 _ (g2 φ w u hb g1)
      | none =>
        cases rs with
        | nil => exact h φ w _ hb (.tu .nil)
        | cons _ _ => exact False.elim h
    | pan hv =>
      rename_i v u b
      cases b with
      | false => exact h φ w u hb hv
      | true => exact False.elim h
  | (f, l) :: ds, φ, ds', m, m', A, w, hb, hd, hm, he, h => by
    cases hd with
    | cons hl ht =>
      rename_i l' ds'
      refine ⟨by cases hm <;> simp, f, ⟨l'⟩, rfl, ?_⟩
      let T : V → Value → Prop := fun v u => (v = dsV ds ∧ u = dsU ds') ∨ ∃ σ, s = some σ ∧ ∃ t, v = σ.get .u t ∧ u = ρ t
      have hT2 : ∀ v u, T v u → VR φ v u := by
        rintro v u (⟨rfl, rfl⟩ | ⟨σ, hs, t, rfl, rfl⟩)
        · exact ht.shp.2
        · exact he σ hs t
      obtain ⟨hg, hc⟩ := callD_ok (N := N) hE hX hT (hb.and hT2) hl hm (show PostC c R (callD P E X N Tb f l m A fun m A => leave P E X N Tb rs s ds m A) from h)
      refine ⟨hg, hc.mono ?_⟩
      rintro e u' w' ⟨⟨v, rfl⟩, φ2, m2, A2, hb2, hm2, h2⟩
      obtain ⟨hb3, hT3⟩ := hb2.unand
      refine leave_ok hE hX hT ds hb3 (ht.shp.1.ds (hT3 _ _ (.inl ⟨rfl, rfl⟩))) hm2 (fun σ hs t => hT3 _ _ (.inr ⟨σ, hs, t, rfl, rfl⟩)) ?_
      exact h2
theorem call1_ok (hE : EOk P E) (hX : XOk P X) (hT : TbOk P Tb) {f : FuncId} {l : List V} {l' : List Value} (hb : Bs c φ A w) (hl : VRs φ l l') (h : PostC c R (call1 P E X N Tb f l A)) : Calls P f ⟨l'⟩ w R := by
  unfold call1 at h
  cases hf : Tb f with
  | none => rw [hf] at h; exact False.elim h
  | some fc =>
    rw [hf] at h
    cases fc with
    | pl n rs code =>
      obtain ⟨fn, h1, h2, h3, h4⟩ := hT f _ hf
      obtain ⟨hn, h⟩ := orC_ok h
      have hn := Nat.le_of_ble_eq_true hn
      obtain ⟨t', he, h⟩ := argT_ok l 0 _ (dep_ok (φ := φ) (ρ := argEnv l') n) (args_ok hl) h
      exact calls_of_low h1 h2 h3 (Nat.ble_eq_true_of_le (by rw [h4, ← hl.len]; exact hn)) (evC_ok hE hX N code _ hb he (ret_ok h))
    | df n rs code =>
      obtain ⟨fn, h1, h2, h3, h4⟩ := hT f _ hf
      obtain ⟨hn, h⟩ := orC_ok h
      have hn := Nat.le_of_ble_eq_true hn
      obtain ⟨t', he, h⟩ := argT_ok l 0 _ (dep_ok (φ := φ) (ρ := argEnv l') n) (args_ok hl) h
      refine calls_of_lowD h1 h2 h3 (Nat.ble_eq_true_of_le (by rw [h4, ← hl.len]; exact hn)) (evLD_ok (N := N) hE hX code _ hb he .nil ?_)
      generalize evLD P E X N code [] t' A = r at h
      cases r with
      | nm ds σ A => exact fun φ ρ w ds' hb he hd => leave_ok hE hX hT ds hb hd .ret (fun σ' e => by cases e; exact he) h
      | rt ds σ A => exact fun φ ρ w ds' hb he hd => leave_ok hE hX hT ds hb hd .ret (fun σ' e => by cases e; exact he) h
      | pn ds v s A =>
        cases s with
        | none => exact fun φ ρ w ds' u hb hv hd => leave_ok hE hX hT ds hb hd (.pan hv) (fun σ' e => by cases e) h
        | some s => exact fun φ ρ w ds' u hb hv he hd => leave_ok hE hX hT ds hb hd (.pan hv) (fun σ' e => by cases e; exact he) h
      | no => exact False.elim h
/-- Every call that is evaluated is so in the model. -/
theorem callE_ok (hE : EOk P E) (hT : TbOk P Tb) : ∀ n, XOk P (callE P E N Tb n)
  | 0 => fun c f l A φ w l' R hb hl h => False.elim h
  | n + 1 => fun c f l A φ w l' R hb hl h => call1_ok hE (callE_ok hE hT n) hT hb hl h
end
end Go.Lir
