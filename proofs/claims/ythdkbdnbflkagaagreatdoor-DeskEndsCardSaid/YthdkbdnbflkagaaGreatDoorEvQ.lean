/- Evaluation is sound: append. -/
import Derived.Test.YthdkbdnbflkagaaGreatDoorEvP
namespace Go.Lir
set_option linter.unusedVariables false
set_option linter.unusedSimpArgs false
section
variable {P : Program} {c : Cn} {φ : Ph} {σ : Tr2 V} {A : AW} {ρ : Env} {w : World} {K : KT} {Q Q' : QT} {v : V} {u : Value}
theorem app_raw {d : Option Nat} {x y : Operand} {Ts Ts2 Ty : TypeId} {pos : String} {af : Array Edge} {g : Option (Nat × Bool)} {r : Value} {w' : World} (h : (Builtin.append_ #[Ts, Ts2] Ty #[ρ.ev x, ρ.ev y]).run P w = .ok r w') (hk : K (updo ρ d r) w') : rawWp P ⟨d, .call ⟨.builtin .append, #[x, y], #[Ts, Ts2]⟩, Ty, pos, af, g⟩ ρ w K Q := by
  refine raw_val (v := r) (w' := w') ?_ hk
  simp only [execOp, resolve, Sem.run_bind, Sem.run_pure, Result.andThen_ok, invoke, builtin]
  have e1 : (#[x, y].map ρ.ev) = #[ρ.ev x, ρ.ev y] := by simp
  rw [e1, h]; rfl
theorem first_cells {w' : World} {b n es : Nat} {cp T : Nat} {m : List Value} (hb : Blk w'.heap b T m) (hl : n * es ≤ m.length) : (Builtin.firstCells es n (.slice (some ⟨b, 0, none⟩) n cp)).run P w' = .ok ⟨m.take (n * es)⟩ w' := by
  simp only [Builtin.firstCells]
  exact run_loadCells_cells _ _ _ (hb.cells (o := 0) (by simp) (by simp; omega))
theorem appTo_ok (hb : Bs c φ A w) (he : EnvR φ σ ρ) {d : Option Nat} {x y : Operand} {Ts Ts2 Ty : TypeId} {pos : String} {af : Array Edge} {g : Option (Nat × Bool)} {cs2 : List V} {n2 : Nat} {m2 : List Value}
    (hts : (∃ e2, P.underlying Ts2 = some (.slice e2)) ∨ P.underlying Ts2 = some .string) (hv : VR φ v (ρ.ev x)) (hl2 : (Builtin.lenOf (ρ.ev y)).run P w = .ok n2 w)
    (hf2 : ∀ e es nb z, elInfo P Ts = some (e, es, nb, z) → (∀ w' : World, (∀ b, b < w.heap.size → w'.heap[b]? = w.heap[b]?) → (Builtin.firstCells es n2 (ρ.ev y)).run P w' = .ok ⟨m2⟩ w') ∧ m2.length = n2 * es) (hv2 : VRs φ cs2 m2)
    (h : Post c (thenQ K Q) (appTo P A σ d Ts v cs2 n2)) : rawWp P ⟨d, .call ⟨.builtin .append, #[x, y], #[Ts, Ts2]⟩, Ty, pos, af, g⟩ ρ w K Q := by
  unfold appTo at h
  cases hel : elInfo P Ts with
  | none => rw [hel] at h; exact False.elim h
  | some q =>
    obtain ⟨e, es, nb, z⟩ := q
    rw [hel] at h
    obtain ⟨hf2, hm2⟩ := hf2 e es nb z hel
    obtain ⟨i, zv, _, _, _, rfl, rfl, _, hes, _, _⟩ := elInfo_spec hel
    have hlen2 := hv2.len
    generalize hu : ρ.ev x = u at hv
    -- a new block, laid in a world in which another number was perhaps given up
    have grow : ∀ (φ1 : Ph) (A1 : AW), φ.Le φ1 → Bs c φ1 A1 w → ∀ (base : Option Addr) (n cap : Nat) (m : List Value) (cs : List V), u = .slice base n cap → cap < n + n2 → (n + n2) * i.bytes ≤ 140737488355328 →
        (∀ w' : World, (∀ b, b < w.heap.size → w'.heap[b]? = w.heap[b]?) → (Builtin.firstCells i.size n (.slice base n cap)).run P w' = .ok ⟨m⟩ w') → m.length = n * i.size → VRs φ1 cs m →
        Post c (thenQ K Q) (newB A1 (.op e i.size (cs ++ cs2)) fun b A => putO A σ d (.l b 0 (n + n2) (n + n2))) → rawWp P ⟨d, .call ⟨.builtin .append, #[x, y], #[Ts, Ts2]⟩, Ty, pos, af, g⟩ ρ w K Q := by
      intro φ1 A1 hle1 hb1 base n cap m cs hbase hcap hbig hf1 hml hvm h
      obtain ⟨_, _, h3⟩ := run_appF (Ty := Ty) hel hts (base := base) (cap := cap) hl2 hf2 hf1 hbig
      obtain ⟨nc, zs, hnc, hzs, hrun⟩ := h3 hcap
      rw [← hbase, ← hu] at hrun
      refine app_raw hrun ?_
      have hl1 := hvm.len
      have hsz : (nc - (n + n2)) * i.size + (n + n2) * i.size = nc * i.size := by rw [← Nat.add_mul]; congr 1; omega
      have hlen : (m ++ m2 ++ zs).length = nc * i.size := by
        simp only [List.length_append]
        rw [hml, hm2, hzs, ← hsz, Nat.add_mul n n2]; omega
      have hcl : (cs ++ cs2).length = (m ++ m2).length := by simp only [List.length_append]; omega
      obtain ⟨ψ, g1, g2, g3, g4, h⟩ := new_ok (es := i.size) (room := nc * i.size) (w' := w.drew.alloc (.cells ⟨m ++ m2 ++ zs⟩ e)) hb1 h ((fr_alloc w.drew _).drew) (fun ψ hle => ⟨_, rfl, rfl, by omega, hb1.wr.fr.size, _, blk_alloc w.drew _ e, by rw [hcl]; simp, hlen.symm, by
        rw [hcl, List.take_left' rfl]
        exact (hvm.up hle).app (hv2.up (hle1.trans hle))⟩)
      exact putO_ok g2 (he.up (hle1.trans g1)) (.l g3 fun y hy => by
        rw [g4 y hy]
        refine ⟨rfl, ?_⟩
        unfold RoomOk
        rw [if_neg (by simp only; omega)]
        exact ⟨hnc, by simp⟩) h
    cases hv
    case l0 =>
      cases n2 with
      | zero =>
        obtain ⟨_, h2, _⟩ := run_appF (Ty := Ty) (m := []) hel hts (base := none) (n := 0) (cap := 0) hl2 hf2 (fun _ _ => rfl) (by simp)
        have hrun := h2 rfl (by simp)
        exact app_raw (by rw [hu]; exact hrun) (putO_ok hb he .l0 h)
      | succ n2 =>
        obtain ⟨hbig, h⟩ := orN_ok (show Post c (thenQ K Q) (orN (Nat.ble ((.succ n2) * i.bytes) 140737488355328) (fN i.size fun es => fN e fun e => newB A (.op e es cs2) fun b A => putO A σ d (.l b 0 (.succ n2) (.succ n2)))) from h)
        rw [fN_eq, fN_eq] at h
        have hbig := Nat.le_of_ble_eq_true hbig
        exact grow φ A (.refl φ) hb none 0 0 [] [] rfl (by omega) (by simpa using hbig) (fun _ _ => rfl) (by simp) .nil (by simpa using h)
    case l b o n cp cp' a h1 h2 =>
      dsimp only at h
      obtain ⟨hbig, hA⟩ := orN_ok h
      have hbig := Nat.le_of_ble_eq_true hbig
      obtain ⟨h0, hB⟩ := orN_ok hA
      have h0 := Nat.eq_of_beq_eq_true h0
      clear h hA
      subst h0
      have h := hB
      clear hB
      have hk := hb.wr.bk b
      unfold atB at h
      generalize A.t.get .dd b = bk at h hk
      cases bk with
      | dd => exact False.elim h
      | ro T cs => exact False.elim h
      | it s i => exact False.elim h
      | cl T cs =>
        obtain ⟨y', hy, hz, hc, m, hm, hvm⟩ := hk
        obtain ⟨ha, hr⟩ := h2 y' hy
        unfold RoomOk at hr
        rw [if_pos hz] at hr
        subst hr
        subst ha
        have hl := hvm.len
        dsimp only at h
        rcases orE_ok h with ⟨hroom, h⟩ | ⟨hroom, h⟩
        · have hroom := Nat.le_of_ble_eq_true hroom
          obtain ⟨ho, h⟩ := orN_ok h
          obtain ⟨hfit, h⟩ := orN_ok h
          have hfit := Nat.le_of_ble_eq_true hfit
          rw [putk_eq, Tr2.setk_eq, fN_eq] at h
          obtain ⟨w', g1, g2, g3, g4⟩ := storeCells_blk P y'.c T m2 w m (n * i.size) 0 hm (by omega) (hv2.ones ho)
          obtain ⟨h3, _, _⟩ := run_appF (Ty := Ty) hel hts (base := some ⟨y'.c, 0, none⟩) (n := n) (cap := cp') hl2 hf2 (fun w' hw' => first_cells (hm.of_same (hw' _ hm.lt)) (by omega)) hbig
          have hrun := h3 hroom _ w' rfl (by rw [add_addr, Nat.zero_add]; exact g1)
          rw [← hu] at hrun
          refine app_raw hrun ?_
          obtain ⟨ψ, k1, k2, k3⟩ := hb.wr.store (k := .cl T (cs.take (n * i.size) ++ (cs2 ++ cs.drop (n * i.size + cs2.length)))) hy hc g2 (fun ψ hle => ⟨y', rfl, hz, hc, _, g4, by
            rw [Nat.add_zero, ← hlen2]; exact (hvm.up hle).put (hv2.up hle) _ _⟩)
          refine putO_ok (hb.same k1 k2 rfl k3) (he.up k1) (.l ((k3 b).2 h1) fun x hx => ?_) h
          have hx' := k1.f b h1 x hx
          rw [hy] at hx'; cases hx'
          exact ⟨rfl, by unfold RoomOk; rw [if_pos hz]⟩
        · have hroom' : cp' < n + n2 := by
            rcases Nat.lt_or_ge cp' (n + n2) with h' | h'
            · exact h'
            · rw [Nat.ble_eq_true_of_le h'] at hroom; cases hroom
          rw [takek_eq] at h
          obtain ⟨hlt, h⟩ := orN_ok h
          have hlt := lenB_eq _ _ hlt
          rw [List.length_take] at hlt
          rw [appk_eq, fN_eq, fN_eq] at h
          refine grow φ A (.refl φ) hb (some ⟨y'.c, 0, none⟩) n cp' (m.take (n * i.size)) (cs.take (n * i.size)) rfl hroom' hbig (fun w' hw' => first_cells (hm.of_same (hw' _ hm.lt)) (by omega)) (by rw [List.length_take]; omega) (hvm.take _) ?_
          rw [newB_eq] at h ⊢
          rw [fN_eq] at h
          exact h
      | op T es' cs =>
        obtain ⟨y', hy, hyes, hz, hc, m, hm, hlm, hroom, hvm⟩ := hk
        obtain ⟨ha, hr⟩ := h2 y' hy
        unfold RoomOk at hr
        rw [if_neg (by rw [hyes]; exact hz), hyes] at hr
        subst ha
        dsimp only at h
        obtain ⟨e0, hA⟩ := orN_ok h
        obtain ⟨e1, hB⟩ := orN_ok hA
        have e0 := Nat.eq_of_beq_eq_true e0
        have e1 := Nat.eq_of_beq_eq_true e1
        obtain ⟨ho, hC⟩ := orN_ok hB
        clear h hA hB
        have h := hC
        clear hC
        rw [takek_eq] at h
        obtain ⟨hlt, h⟩ := orN_ok h
        have hlt := lenB_eq _ _ hlt
        rw [List.length_take] at hlt
        rw [appk_eq, Tr2.setk_eq, fN_eq, fN_eq] at h
        have hmt : VRs φ (cs.take (n * i.size)) (m.take (n * i.size)) := by
          have := hvm.take (n * i.size)
          rw [List.take_take, Nat.min_eq_left (by omega)] at this
          exact this
        obtain ⟨φ1, q1, q2, q3, q4, q5⟩ := hb.wr.kill b
        have hb1 : Bs c φ1 ⟨A.t.set .dd b, A.n⟩ w := hb.same q1 q3 rfl q2
        rcases Nat.lt_or_ge cp' (n + n2) with hcap | hcap
        · refine grow φ1 _ q1 hb1 (some ⟨y'.c, 0, none⟩) n cp' (m.take (n * i.size)) (cs.take (n * i.size)) rfl hcap hbig (fun w' hw' => first_cells (hm.of_same (hw' _ hm.lt)) (by omega)) (by rw [List.length_take]; omega) (hmt.up q1) ?_
          rw [e0] at h
          exact h
        · have hfit : (n + n2) * i.size ≤ m.length := by
            rw [← hroom, ← hr.2, Nat.zero_add, ← e1]
            exact Nat.mul_le_mul_right _ hcap
          rw [Nat.add_mul] at hfit
          obtain ⟨w', g1, g2, g3, g4⟩ := storeCells_blk P y'.c T m2 w m (n * i.size) 0 hm (by omega) (hv2.ones ho)
          obtain ⟨h3, _, _⟩ := run_appF (Ty := Ty) hel hts (base := some ⟨y'.c, 0, none⟩) (n := n) (cap := cp') hl2 hf2 (fun w' hw' => first_cells (hm.of_same (hw' _ hm.lt)) (by omega)) hbig
          have hrun := h3 hcap _ w' rfl (by rw [add_addr, Nat.zero_add]; exact g1)
          rw [← hu] at hrun
          refine app_raw hrun ?_
          have hne : ∀ j y2, φ1.f j = some y2 → y2.c ≠ y'.c := by
            intro j y2 hj hcc
            by_cases ejb : j = b
            · subst ejb; rw [q4] at hj; cases hj
            · rw [q5 j ejb] at hj; exact ejb (hb.wr.inj j b y2 y' hj hy hcc)
          have hcl : (cs.take (n * i.size) ++ cs2).length = (m.take (n * i.size) ++ m2).length := by
            have := hmt.len
            simp only [List.length_append]; omega
          rw [newB_eq] at h
          obtain ⟨ψ, k1, k2, k3, k4⟩ := hb1.wr.upd (b := A.n) (k := .op T i.size (cs.take (n * i.size) ++ cs2)) (x := ⟨y'.c, i.size, y'.room⟩) (A.n + 1) (w' := w') (.inl (hb1.free A.n (Nat.le_refl _)))
            (hb1.wr.fr.trans g2 (fun q hq hF => by have h6 := hb1.wr.fr.size; have : q = y'.c := hF; omega))
            (fun j y2 _ hj => g2.same _ (hb1.wr.lt hj) (hne j y2 hj)) (fun j y2 _ hj => hne j y2 hj)
            (fun ψ hle _ => ⟨_, rfl, rfl, by omega, hc, _, g4, by
              simp only [List.length_append, List.length_take, List.length_drop, Nat.add_zero]
              have := hmt.len
              simp only [List.length_take] at this
              omega, by
              simp only [List.length_append, List.length_take, List.length_drop, Nat.add_zero]; omega, by
              rw [hcl, Nat.add_zero, ← List.append_assoc, List.take_left' rfl]
              exact (hmt.up (q1.trans hle)).app (hv2.up (q1.trans hle))⟩)
          refine putO_ok (hb1.one k1 k2 rfl k3) (he.up (q1.trans k1)) (.l ((k3 A.n).2 (.inr rfl)) fun x hx => ?_) h
          rw [k4 x hx]
          refine ⟨rfl, ?_⟩
          unfold RoomOk
          rw [if_neg (by simp only; omega)]
          refine ⟨hcap, ?_⟩
          simp only
          rw [← hr.2, e1]
    all_goals exact False.elim h
end
end Go.Lir
