/- What is held: the program's Held and the reference's Holds. -/
import Derived.Test.YtocllfbfogcbgaaLc10
import Derived.Test.YtocllfbfogcbgaaLirMore
namespace Go.Proofs.Ytocllfbfogcbgaa
open Go.Lir
attribute [local irreducible] LC.wp opsWp thenQ blockQ retQ resWp LO.wp callPost Calls

/-- Behind a change of F, what was made lies in F' (of F, or new). -/
structure Step (F F' : Nat → Prop) (w w' : World) : Prop where
  fr : Fr F w w'
  sub : ∀ b, F' b → F b ∨ w.heap.size ≤ b

/-- A block of the type T that holds one slice. -/
structure Obj1 (H : Heap) (T Ts : TypeId) (es : Nat) (p : Value) (F : Nat → Prop) (css : List (List Value)) (b : Nat) (v : Value) (Fs : Nat → Prop) : Prop where
  hp : p = .pointer (some ⟨b, 0, none⟩)
  blk : Blk H b T [v]
  sl : Sl H Ts es v Fs css
  ne : ¬ Fs b
  hF : ∀ x, F x ↔ x = b ∨ Fs x

def HeldR (H : Heap) (T : TypeId) (p : Value) (F : Nat → Prop) (l : List Bool) : Prop := ∃ b v Fs, Obj1 H T 4 1 p F (l.map bcell) b v Fs

theorem HeldR.fr {T : TypeId} {p : Value} {F G : Nat → Prop} {l : List Bool} {w w' : World} (h : HeldR w.heap T p F l) (hf : Fr G w w') (hn : ∀ b, F b → ¬ G b) : HeldR w'.heap T p F l := by
  obtain ⟨b, v, Fs, h⟩ := h
  exact ⟨b, v, Fs, h.hp, h.blk.fr hf (hn _ ((h.hF b).2 (.inl rfl))), h.sl.fr hf (fun x hx => hn _ ((h.hF x).2 (.inr hx))), h.ne, h.hF⟩
theorem HeldR.lt {T : TypeId} {p : Value} {F : Nat → Prop} {l : List Bool} {H : Heap} (h : HeldR H T p F l) : ∀ b, F b → b < H.size := by
  obtain ⟨b, v, Fs, h⟩ := h
  intro x hx
  rcases (h.hF x).1 hx with rfl | hx
  · exact h.blk.lt
  · exact h.sl.lt x hx

def hasB (l : List Bool) (r : Int) : Bool := decide (0 ≤ r) && decide (r < l.length) && l.getD r.toNat false

theorem has_c {p : Value} {F : Nat → Prop} {l : List Bool} (r : Int) {w : World} (h : HeldR w.heap 132 p F l) : Rets Try.prog held_Held_Has [p, .int .i64 r] w fun v w' => v = .bool (hasB l r) ∧ w' = w := by
  obtain ⟨b, v, Fs, rfl, hb, hs, hne, hF⟩ := h
  have hlen : (l.map bcell).length = l.length := List.length_map _
  refine held_Held_Has_in ?_
  unfold held_Held_Has_lc
  all_goals (refine s_seq ?_; refine s_ops ?_; refine s_mov (by (conv => lhs; whnf); first | done | fail) ?_; refine s_nil ?_; (repeat (first | refine s_then ?_ | refine s_blockN ?_)); refine s_seq ?_; refine s_ops ?_; refine s_mov (by (conv => lhs; whnf); first | done | fail) ?_)
  all_goals (first | (refine s_geq_t rfl rfl (by omega) ?_) | (refine s_geq_f rfl rfl (by omega) ?_) | (refine s_geq_s rfl rfl (fun hc => ?_) (fun hc => ?_)))
  all_goals (refine s_mov (by (conv => lhs; whnf); first | done | fail) ?_; (first | (refine s_gy rfl ?_; refine s_mov (by (conv => lhs; whnf); first | done | fail) ?_) | refine s_gn rfl rfl ?_); (first | (refine s_gy rfl ?_; refine s_mov (by (conv => lhs; whnf); first | done | fail) ?_) | refine s_gn rfl rfl ?_); (first | (refine s_gy rfl ?_; refine s_nilc rfl ?_) | refine s_gn rfl rfl ?_); (first | (refine s_gy rfl ?_; (first | refine s_fld0 rfl ?_ | refine s_fld rfl ?_)) | refine s_gn rfl rfl ?_); (first | (refine s_gy rfl ?_; (first | (refine s_loadS rfl (by assumption) (map_get bcell l false (by omega)) rfl ?_) | (refine s_loadb rfl (by assumption) (by rfl) ?_))) | refine s_gn rfl rfl ?_); (first | (refine s_gy rfl ?_; (first | (refine s_lenS (by (conv => lhs; whnf); first | done | fail) (by assumption) ?_) | (refine s_len rfl ?_))) | refine s_gn rfl rfl ?_))
  all_goals (first | (refine s_gy rfl ?_; (first | (refine s_lss_t rfl rfl (by omega) ?_) | (refine s_lss_f rfl rfl (by omega) ?_) | (refine s_lss_s rfl rfl (fun hc => ?_) (fun hc => ?_)))) | refine s_gn rfl rfl ?_)
  all_goals ((first | refine s_pick_t rfl (by (conv => lhs; whnf); first | done | fail) ?_ | refine s_pick_f rfl (by (conv => lhs; whnf); first | done | fail) ?_); refine s_mov (by (conv => lhs; whnf); first | done | fail) ?_; (first | (refine s_gy rfl ?_; refine s_mov (by (conv => lhs; whnf); first | done | fail) ?_) | refine s_gn rfl rfl ?_); (first | (refine s_gy rfl ?_; refine s_nilc rfl ?_) | refine s_gn rfl rfl ?_); (first | (refine s_gy rfl ?_; (first | refine s_fld0 rfl ?_ | refine s_fld rfl ?_)) | refine s_gn rfl rfl ?_); (first | (refine s_gy rfl ?_; (first | (refine s_loadS rfl (by assumption) (map_get bcell l false (by omega)) rfl ?_) | (refine s_loadb rfl (by assumption) (by rfl) ?_))) | refine s_gn rfl rfl ?_); (first | (refine s_gy rfl ?_; refine s_mov (by (conv => lhs; whnf); first | done | fail) ?_) | refine s_gn rfl rfl ?_); (first | (refine s_gy rfl ?_; (refine s_idxS (by (conv => lhs; whnf); first | done | fail) rfl (by assumption) (by omega) (by omega) ?_; intro b1 o1 hel1)) | refine s_gn rfl rfl ?_); (first | (refine s_gy rfl ?_; (first | (refine s_loadS rfl (by assumption) (map_get bcell l false (by omega)) rfl ?_) | (refine s_loadb rfl (by assumption) (by rfl) ?_))) | refine s_gn rfl rfl ?_); (first | refine s_pick_t rfl (by (conv => lhs; whnf); first | done | fail) ?_ | refine s_pick_f rfl (by (conv => lhs; whnf); first | done | fail) ?_); refine s_mov (by (conv => lhs; whnf); first | done | fail) ?_; refine s_nil ?_; (repeat (first | refine s_then ?_ | refine s_blockN ?_)))
  all_goals (refine s_ret ?_; (repeat (first | refine s_retT ?_ | refine s_retB ?_)); refine q_ret1 (by (conv => lhs; whnf); first | done | fail) ?_; (first | (refine ⟨_, rfl, ?_, rfl⟩; simp [hasB, *]; omega) | (refine ⟨_, rfl, ?_, rfl⟩; simp [hasB, *])))
theorem rhas_c {p : Value} {F : Nat → Prop} {l : List Bool} (r : Int) {w : World} (h : HeldR w.heap 37 p F l) : Rets Try.prog R_Holds_Has [p, .int .i64 r] w fun v w' => v = .bool (hasB l r) ∧ w' = w := by
  obtain ⟨b, v, Fs, rfl, hb, hs, hne, hF⟩ := h
  have hlen : (l.map bcell).length = l.length := List.length_map _
  refine R_Holds_Has_in ?_
  unfold R_Holds_Has_lc
  all_goals (refine s_seq ?_; refine s_ops ?_; refine s_mov (by (conv => lhs; whnf); first | done | fail) ?_; refine s_nil ?_; (repeat (first | refine s_then ?_ | refine s_blockN ?_)); refine s_seq ?_; refine s_ops ?_; refine s_mov (by (conv => lhs; whnf); first | done | fail) ?_)
  all_goals (first | (refine s_geq_t rfl rfl (by omega) ?_) | (refine s_geq_f rfl rfl (by omega) ?_) | (refine s_geq_s rfl rfl (fun hc => ?_) (fun hc => ?_)))
  all_goals (refine s_mov (by (conv => lhs; whnf); first | done | fail) ?_; (first | (refine s_gy rfl ?_; refine s_mov (by (conv => lhs; whnf); first | done | fail) ?_) | refine s_gn rfl rfl ?_); (first | (refine s_gy rfl ?_; refine s_mov (by (conv => lhs; whnf); first | done | fail) ?_) | refine s_gn rfl rfl ?_); (first | (refine s_gy rfl ?_; refine s_nilc rfl ?_) | refine s_gn rfl rfl ?_); (first | (refine s_gy rfl ?_; (first | refine s_fld0 rfl ?_ | refine s_fld rfl ?_)) | refine s_gn rfl rfl ?_); (first | (refine s_gy rfl ?_; (first | (refine s_loadS rfl (by assumption) (map_get bcell l false (by omega)) rfl ?_) | (refine s_loadb rfl (by assumption) (by rfl) ?_))) | refine s_gn rfl rfl ?_); (first | (refine s_gy rfl ?_; (first | (refine s_lenS (by (conv => lhs; whnf); first | done | fail) (by assumption) ?_) | (refine s_len rfl ?_))) | refine s_gn rfl rfl ?_))
  all_goals (first | (refine s_gy rfl ?_; (first | (refine s_lss_t rfl rfl (by omega) ?_) | (refine s_lss_f rfl rfl (by omega) ?_) | (refine s_lss_s rfl rfl (fun hc => ?_) (fun hc => ?_)))) | refine s_gn rfl rfl ?_)
  all_goals ((first | refine s_pick_t rfl (by (conv => lhs; whnf); first | done | fail) ?_ | refine s_pick_f rfl (by (conv => lhs; whnf); first | done | fail) ?_); refine s_mov (by (conv => lhs; whnf); first | done | fail) ?_; (first | (refine s_gy rfl ?_; refine s_mov (by (conv => lhs; whnf); first | done | fail) ?_) | refine s_gn rfl rfl ?_); (first | (refine s_gy rfl ?_; refine s_nilc rfl ?_) | refine s_gn rfl rfl ?_); (first | (refine s_gy rfl ?_; (first | refine s_fld0 rfl ?_ | refine s_fld rfl ?_)) | refine s_gn rfl rfl ?_); (first | (refine s_gy rfl ?_; (first | (refine s_loadS rfl (by assumption) (map_get bcell l false (by omega)) rfl ?_) | (refine s_loadb rfl (by assumption) (by rfl) ?_))) | refine s_gn rfl rfl ?_); (first | (refine s_gy rfl ?_; refine s_mov (by (conv => lhs; whnf); first | done | fail) ?_) | refine s_gn rfl rfl ?_); (first | (refine s_gy rfl ?_; (refine s_idxS (by (conv => lhs; whnf); first | done | fail) rfl (by assumption) (by omega) (by omega) ?_; intro b1 o1 hel1)) | refine s_gn rfl rfl ?_); (first | (refine s_gy rfl ?_; (first | (refine s_loadS rfl (by assumption) (map_get bcell l false (by omega)) rfl ?_) | (refine s_loadb rfl (by assumption) (by rfl) ?_))) | refine s_gn rfl rfl ?_); (first | refine s_pick_t rfl (by (conv => lhs; whnf); first | done | fail) ?_ | refine s_pick_f rfl (by (conv => lhs; whnf); first | done | fail) ?_); refine s_mov (by (conv => lhs; whnf); first | done | fail) ?_; refine s_nil ?_; (repeat (first | refine s_then ?_ | refine s_blockN ?_)))
  all_goals (refine s_ret ?_; (repeat (first | refine s_retT ?_ | refine s_retB ?_)); refine q_ret1 (by (conv => lhs; whnf); first | done | fail) ?_; (first | (refine ⟨_, rfl, ?_, rfl⟩; simp [hasB, *]; omega) | (refine ⟨_, rfl, ?_, rfl⟩; simp [hasB, *])))

theorem len_c {p : Value} {F : Nat → Prop} {l : List Bool} {w : World} (h : HeldR w.heap 132 p F l) : Rets Try.prog held_Held_Len [p] w fun v w' => v = .int .i64 l.length ∧ w' = w := by
  obtain ⟨b, v, Fs, rfl, hb, hs, hne, hF⟩ := h
  have hlen : (l.map bcell).length = l.length := List.length_map _
  refine held_Held_Len_in ?_
  unfold held_Held_Len_lc
  all_goals (refine s_seq ?_; refine s_ops ?_; refine s_mov (by (conv => lhs; whnf); first | done | fail) ?_; refine s_nil ?_; (repeat (first | refine s_then ?_ | refine s_blockN ?_)); refine s_seq ?_; refine s_ops ?_; refine s_mov (by (conv => lhs; whnf); first | done | fail) ?_; refine s_nilc rfl ?_; (first | refine s_fld0 rfl ?_ | refine s_fld rfl ?_); refine s_loadb rfl (by assumption) (by rfl) ?_; (first | (refine s_lenS (by (conv => lhs; whnf); first | done | fail) (by assumption) ?_) | (refine s_len rfl ?_)); refine s_mov (by (conv => lhs; whnf); first | done | fail) ?_; refine s_nil ?_; (repeat (first | refine s_then ?_ | refine s_blockN ?_)); refine s_ret ?_; (repeat (first | refine s_retT ?_ | refine s_retB ?_)); refine q_ret1 (by (conv => lhs; whnf); first | done | fail) ?_; exact ⟨_, rfl, by rw [hlen], rfl⟩)

theorem el_bool : elInfo Try.prog 35 = some (4, 1, 1, [.bool false]) := by kernel_rfl
theorem el_int : elInfo Try.prog 32 = some (3, 1, 8, [.int .i64 0]) := by kernel_rfl
theorem u_bools : ∃ e2, Try.prog.underlying 35 = some (.slice e2) := ⟨4, by kernel_rfl⟩
theorem u_ints : ∃ e2, Try.prog.underlying 32 = some (.slice e2) := ⟨3, by kernel_rfl⟩

/-- h.L = append(h.L, x): the object behind it. -/
theorem obj1_app {T Ts : TypeId} {b : Nat} {v v' : Value} {F Fs : Nat → Prop} {css : List (List Value)} {c : List Value} {w w1 w2 w3 : World} (hblk : Blk w.heap b T [v]) (hsl : Sl w.heap Ts 1 v Fs css) (hne : ¬ Fs b) (hF : ∀ x, F x ↔ x = b ∨ Fs x)
    (hf1 : Fr NF w w1) (ha : AppPost w1 Ts 1 Fs css [c] v' w2) (hf3 : Fr (· = b) w2 w3) (hb3 : Blk w3.heap b T [v']) : ∃ F' Fs', Obj1 w3.heap T Ts 1 (.pointer (some ⟨b, 0, none⟩)) F' (css ++ [c]) b v' Fs' ∧ Step F F' w w3 := by
  obtain ⟨Fs', hs', hf2, hsub⟩ := ha
  have hlt := hblk.lt
  have hbs : ¬ Fs' b := fun h => by
    rcases hsub b h with h | h
    · exact hne h
    · have := hf1.size; omega
  refine ⟨fun x => x = b ∨ Fs' x, Fs', ⟨rfl, hb3, hs'.fr hf3 (fun x hx e => hbs (e ▸ hx)), hbs, fun x => Iff.rfl⟩, ?_, ?_⟩
  · refine (hf1.any.trans (hf2.mono fun x _ hx => (hF x).2 (.inr hx)) (fun _ _ h => h)).trans (hf3.mono fun x _ hx => (hF x).2 (.inl hx)) (fun _ _ h => h)
  · intro x hx
    rcases hx with rfl | hx
    · exact .inl ((hF _).2 (.inl rfl))
    · rcases hsub x hx with h | h
      · exact .inl ((hF _).2 (.inr h))
      · exact .inr (Nat.le_trans hf1.size h)

theorem open_full_c {p : Value} {F : Nat → Prop} {l : List Bool} {w : World} (h : HeldR w.heap 132 p F l) (hl : l.length = 16) : Rets Try.prog held_Held_Open [p] w fun v w' => v = .int .i64 (-1) ∧ w' = w := by
  obtain ⟨b, v, Fs, rfl, hb, hs, hne, hF⟩ := h
  have hlen : (l.map bcell).length = l.length := List.length_map _
  refine held_Held_Open_in ?_
  unfold held_Held_Open_lc
  all_goals (refine s_seq ?_; refine s_ops ?_; refine s_mov (by (conv => lhs; whnf); first | done | fail) ?_; refine s_nil ?_; (repeat (first | refine s_then ?_ | refine s_blockN ?_)); refine s_seq ?_; refine s_seq ?_; refine s_ops ?_; refine s_mov (by (conv => lhs; whnf); first | done | fail) ?_; refine s_nilc rfl ?_; (first | refine s_fld0 rfl ?_ | refine s_fld rfl ?_); refine s_loadb rfl (by assumption) (by rfl) ?_; (first | (refine s_lenS (by (conv => lhs; whnf); first | done | fail) (by assumption) ?_) | (refine s_len rfl ?_)))
  all_goals (first | (refine s_eql_t rfl rfl (by omega) ?_) | (refine s_eql_f rfl rfl (by omega) ?_) | (refine s_eql_s rfl rfl (fun hc => ?_) (fun hc => ?_)))
  all_goals (refine s_nil ?_; (repeat (first | refine s_then ?_ | refine s_blockN ?_)))
  all_goals refine s_cond_t rfl ?_
  all_goals (refine s_seq ?_; refine s_ops ?_; refine s_mov (by (conv => lhs; whnf); first | done | fail) ?_; refine s_nil ?_; (repeat (first | refine s_then ?_ | refine s_blockN ?_)); refine s_ret ?_; (repeat (first | refine s_retT ?_ | refine s_retB ?_)); refine q_ret1 (by (conv => lhs; whnf); first | done | fail) ?_; exact ⟨_, rfl, rfl, rfl⟩)
theorem open_c {p : Value} {F : Nat → Prop} {l : List Bool} {w : World} (h : HeldR w.heap 132 p F l) (hl : l.length < 16) : Rets Try.prog held_Held_Open [p] w fun v w' =>
    v = .int .i64 l.length ∧ ∃ F', HeldR w'.heap 132 p F' (l ++ [true]) ∧ Step F F' w w' := by
  obtain ⟨b, v, Fs, rfl, hb, hs, hne, hF⟩ := h
  have hlen : (l.map bcell).length = l.length := List.length_map _
  refine held_Held_Open_in ?_
  unfold held_Held_Open_lc
  all_goals (refine s_seq ?_; refine s_ops ?_; refine s_mov (by (conv => lhs; whnf); first | done | fail) ?_; refine s_nil ?_; (repeat (first | refine s_then ?_ | refine s_blockN ?_)); refine s_seq ?_; refine s_seq ?_; refine s_ops ?_; refine s_mov (by (conv => lhs; whnf); first | done | fail) ?_; refine s_nilc rfl ?_; (first | refine s_fld0 rfl ?_ | refine s_fld rfl ?_); refine s_loadb rfl (by assumption) (by rfl) ?_; (first | (refine s_lenS (by (conv => lhs; whnf); first | done | fail) (by assumption) ?_) | (refine s_len rfl ?_)))
  all_goals (first | (refine s_eql_t rfl rfl (by omega) ?_) | (refine s_eql_f rfl rfl (by omega) ?_) | (refine s_eql_s rfl rfl (fun hc => ?_) (fun hc => ?_)))
  all_goals (refine s_nil ?_; (repeat (first | refine s_then ?_ | refine s_blockN ?_)))
  all_goals refine s_cond_f rfl ?_
  all_goals (refine s_skip ?_; (repeat (first | refine s_then ?_ | refine s_blockN ?_)); refine s_seq ?_; refine s_ops ?_; refine s_mov (by (conv => lhs; whnf); first | done | fail) ?_; refine s_mov (by (conv => lhs; whnf); first | done | fail) ?_; refine s_nilc rfl ?_; (first | refine s_fld0 rfl ?_ | refine s_fld rfl ?_); refine s_loadb rfl (by assumption) (by rfl) ?_; refine s_buildS1 (cs := [_]) (by (conv => lhs; whnf); first | done | fail) (by rfl) ?_; (first | (intro b1 w1 hb1 hf1 hz1 hk1; have hb' := hb.fr0 hf1; have hs1 := hs.fr0 hf1) | (intro b1 w1 hb1 hfr1 hsz1 hblk1)); refine s_app el_bool (.inl u_bools) (by (conv => lhs; whnf); first | done | fail) (by (conv => lhs; whnf); first | done | fail) hs1 (src_one hk1 rfl) (by simp; omega) ?_; intro v2 w2 ha; have ha' := ha; obtain ⟨Fs2, hs2, hf2, hsub2⟩ := ha'; have hb2 := hb'.fr hf2 hne; have ho2 := hs2.oneC; refine s_nilc rfl ?_; (first | refine s_fld0 rfl ?_ | refine s_fld rfl ?_); (first | (refine s_storeV rfl (by (conv => lhs; whnf); first | done | fail) hb2 (by simp) ho2 (by rfl) ?_; intro w3 hf3 hz3 hb3; obtain ⟨F', Fs', ho, hst⟩ := obj1_app hb hs hne hF hf1 ha hf3 hb3; have hs3 := ho.sl) | (refine s_storeV rfl (by (conv => lhs; whnf); first | done | fail) (by assumption) (by simp) (by first | rfl | assumption) (by rfl) ?_; intro w1 hfr1 hsz1 hblk1)); refine s_nil ?_; (repeat (first | refine s_then ?_ | refine s_blockN ?_)); refine s_seq ?_; have hlen3 : (l.map bcell ++ [[Value.bool true]]).length = l.length + 1 := (by simp); refine s_ops ?_; refine s_mov (by (conv => lhs; whnf); first | done | fail) ?_; refine s_nilc rfl ?_; (first | refine s_fld0 rfl ?_ | refine s_fld rfl ?_))
  all_goals (refine s_loadb rfl (by assumption) (by rfl) ?_; (first | (refine s_lenS (by (conv => lhs; whnf); first | done | fail) (by assumption) ?_) | (refine s_len rfl ?_)); (first | (refine s_subi rfl rfl (by omega) (by omega) ?_) | (refine s_subiw rfl rfl ?_)); refine s_mov (by (conv => lhs; whnf); first | done | fail) ?_; refine s_nil ?_; (repeat (first | refine s_then ?_ | refine s_blockN ?_)); refine s_ret ?_; (repeat (first | refine s_retT ?_ | refine s_retB ?_)); refine q_ret1 (by (conv => lhs; whnf); first | done | fail) ?_; refine ⟨_, rfl, (by congr 1; omega), F', ⟨b, v2, Fs', by have := ho; simpa [bcell] using this⟩, hst⟩)
theorem shut_c {p : Value} {F : Nat → Prop} {l : List Bool} {r : Int} {w : World} (h : HeldR w.heap 132 p F l) (hr : hasB l r = true) : Rets Try.prog held_Held_Shut [p, .int .i64 r] w fun v w' =>
    v = .bool true ∧ HeldR w'.heap 132 p F (l.set r.toNat false) ∧ Fr F w w' := by
  have h0 := h
  obtain ⟨b, v, Fs, rfl, hb, hs, hne, hF⟩ := h
  have hlen : (l.map bcell).length = l.length := List.length_map _
  have hr' : 0 ≤ r ∧ r < l.length := by simp only [hasB, Bool.and_eq_true, decide_eq_true_eq] at hr; exact hr.1
  refine held_Held_Shut_in ?_
  unfold held_Held_Shut_lc
  all_goals (refine s_seq ?_; refine s_ops ?_; refine s_mov (by (conv => lhs; whnf); first | done | fail) ?_; refine s_nil ?_; (repeat (first | refine s_then ?_ | refine s_blockN ?_)); refine s_seq ?_; refine s_ops ?_; refine s_mov (by (conv => lhs; whnf); first | done | fail) ?_; refine s_mov (by (conv => lhs; whnf); first | done | fail) ?_; refine s_rets rfl (has_c r h0) ?_; rintro v1 w1 ⟨rfl, rfl⟩; rw [hr]; refine s_mov (by (conv => lhs; whnf); first | done | fail) ?_; refine s_nil ?_; (repeat (first | refine s_then ?_ | refine s_blockN ?_)); refine s_seq ?_; refine s_seq ?_; refine s_ops ?_; refine s_mov (by (conv => lhs; whnf); first | done | fail) ?_; refine s_nil ?_; (repeat (first | refine s_then ?_ | refine s_blockN ?_)))
  all_goals refine s_cond_t rfl ?_
  all_goals (refine s_ops ?_; refine s_mov (by (conv => lhs; whnf); first | done | fail) ?_; refine s_nilc rfl ?_; (first | refine s_fld0 rfl ?_ | refine s_fld rfl ?_); refine s_loadb rfl (by assumption) (by rfl) ?_; refine s_mov (by (conv => lhs; whnf); first | done | fail) ?_; refine s_idxS (by (conv => lhs; whnf); first | done | fail) rfl (by assumption) (by omega) (by omega) ?_; intro b1 o1 hel1; (first | (refine s_storeS rfl (by (conv => lhs; whnf); first | done | fail) (by assumption) (map_get bcell l false (by omega)) (by omega) rfl ?_; intro w1 hf1 hz1 hel2) | (refine s_storeV rfl (by (conv => lhs; whnf); first | done | fail) (by assumption) (by simp) (by first | rfl | assumption) (by rfl) ?_; intro w1 hfr1 hsz1 hblk1)); refine s_nil ?_; (repeat (first | refine s_then ?_ | refine s_blockN ?_)); refine s_seq ?_; refine s_ops ?_; refine s_mov (by (conv => lhs; whnf); first | done | fail) ?_; refine s_mov (by (conv => lhs; whnf); first | done | fail) ?_; refine s_nil ?_; (repeat (first | refine s_then ?_ | refine s_blockN ?_)); refine s_ret ?_; (repeat (first | refine s_retT ?_ | refine s_retB ?_)); refine q_ret1 (by (conv => lhs; whnf); first | done | fail) ?_; refine ⟨_, rfl, rfl, ⟨b, v, Fs, rfl, hb.fr hf1 hne, ?_, hne, hF⟩, hf1.mono fun x _ hx => (hF x).2 (.inr hx)⟩; have := hel2.sl; rw [show (bcell (l.getD r.toNat false)).set 0 (Value.bool false) = bcell false from rfl, map_set] at this; exact this)
theorem shut_no_c {p : Value} {F : Nat → Prop} {l : List Bool} {r : Int} {w : World} (h : HeldR w.heap 132 p F l) (hr : hasB l r = false) : Rets Try.prog held_Held_Shut [p, .int .i64 r] w fun v w' =>
    v = .bool false ∧ w' = w := by
  refine held_Held_Shut_in ?_
  unfold held_Held_Shut_lc
  all_goals (refine s_seq ?_; refine s_ops ?_; refine s_mov (by (conv => lhs; whnf); first | done | fail) ?_; refine s_nil ?_; (repeat (first | refine s_then ?_ | refine s_blockN ?_)); refine s_seq ?_; refine s_ops ?_; refine s_mov (by (conv => lhs; whnf); first | done | fail) ?_; refine s_mov (by (conv => lhs; whnf); first | done | fail) ?_; refine s_rets rfl (has_c r h) ?_; rintro v1 w1 ⟨rfl, rfl⟩; rw [hr]; refine s_mov (by (conv => lhs; whnf); first | done | fail) ?_; refine s_nil ?_; (repeat (first | refine s_then ?_ | refine s_blockN ?_)); refine s_seq ?_; refine s_seq ?_; refine s_ops ?_; refine s_mov (by (conv => lhs; whnf); first | done | fail) ?_; refine s_nil ?_; (repeat (first | refine s_then ?_ | refine s_blockN ?_)))
  all_goals refine s_cond_f rfl ?_
  all_goals (refine s_skip ?_; (repeat (first | refine s_then ?_ | refine s_blockN ?_)); refine s_seq ?_; refine s_ops ?_; refine s_mov (by (conv => lhs; whnf); first | done | fail) ?_; refine s_mov (by (conv => lhs; whnf); first | done | fail) ?_; refine s_nil ?_; (repeat (first | refine s_then ?_ | refine s_blockN ?_)); refine s_ret ?_; (repeat (first | refine s_retT ?_ | refine s_retB ?_)); refine q_ret1 (by (conv => lhs; whnf); first | done | fail) ?_; exact ⟨_, rfl, rfl, rfl⟩)

/-- The numbers ahead of n that are held. -/
def listTo (l : List Bool) (n : Nat) : List Int := ((List.range n).filter fun j => l.getD j false).map Int.ofNat
def listB (l : List Bool) : List Int := listTo l l.length
theorem listTo_succ (l : List Bool) (n : Nat) : listTo l (n + 1) = listTo l n ++ if l.getD n false then [(n : Int)] else [] := by
  unfold listTo
  rw [List.range_succ, List.filter_append, List.map_append]
  congr 1
  by_cases h : l.getD n false = true
  · rw [if_pos h, List.filter_cons_of_pos (by simpa using h)]; rfl
  · rw [if_neg h, List.filter_cons_of_neg (by simpa using h)]; rfl
theorem listTo_len (l : List Bool) (n : Nat) : (listTo l n).length ≤ n := by
  unfold listTo
  rw [List.length_map]
  exact Nat.le_trans (List.length_filter_le _ _) (by simp)

theorem list_c {p : Value} {F : Nat → Prop} {l : List Bool} {w : World} (h : HeldR w.heap 132 p F l) (hl : l.length ≤ 16) : Rets Try.prog held_Held_List [p] w fun v w' =>
    ∃ F', Sl w'.heap 3 1 v F' ((listB l).map icell) ∧ Fr NF w w' ∧ ∀ b, F' b → w.heap.size ≤ b := by
  obtain ⟨b, v, Fs, rfl, hb, hs, hne, hF⟩ := h
  have hlen : (l.map bcell).length = l.length := List.length_map _
  refine held_Held_List_in ?_
  unfold held_Held_List_lc
  all_goals (refine s_seq ?_; refine s_ops ?_; refine s_mov (by (conv => lhs; whnf); first | done | fail) ?_; refine s_nil ?_; (repeat (first | refine s_then ?_ | refine s_blockN ?_)); refine s_seq ?_; refine s_ops ?_; refine s_mov (by (conv => lhs; whnf); first | done | fail) ?_; refine s_nil ?_; (repeat (first | refine s_then ?_ | refine s_blockN ?_)); refine s_seq ?_; refine s_seq ?_; refine s_ops ?_; refine s_mov (by (conv => lhs; whnf); first | done | fail) ?_; refine s_nilc rfl ?_; (first | refine s_fld0 rfl ?_ | refine s_fld rfl ?_); (first | (refine s_loadS rfl (by assumption) (map_get bcell l false (by omega)) rfl ?_) | (refine s_loadb rfl (by assumption) (by rfl) ?_)); (first | (refine s_lenS (by (conv => lhs; whnf); first | done | fail) (by assumption) ?_) | (refine s_len rfl ?_)); refine s_mov (by (conv => lhs; whnf); first | done | fail) ?_; refine s_nil ?_; (repeat (first | refine s_then ?_ | refine s_blockN ?_)); refine s_block ?_)
  refine s_loop (fun ρ' w' => ∃ (i : Nat) (vo : Value) (Fo : Nat → Prop), Has ρ' [(9, v), (10, .int .i64 l.length), (11, .int .i64 i), (3, vo)] ∧ i ≤ l.length ∧ Sl w'.heap 3 1 vo Fo ((listTo l i).map icell) ∧ Fr NF w w' ∧ ∀ b, Fo b → w.heap.size ≤ b) (fun ρ' _ => (l.length - iv (ρ' 11)).toNat) ?_ ?_
  · refine ⟨0, _, NF, ⟨rfl, by rw [← hlen]; rfl, rfl, rfl, trivial⟩, Nat.zero_le _, Sl.nil _ _ _, Fr.refl _ _, fun _ h => h.elim⟩
  rintro ρ w1 ⟨i, vo, Fo, hρ, hi, ho, hf, hlow⟩; obtain ⟨ρ, rfl⟩ := env_intro _ hρ; have hs1 := hs.fr0 hf; have hll := listTo_len l i; have hsu := listTo_succ l i
  unfold held_Held_List_b3
  all_goals (refine s_seq ?_; refine s_ops ?_; refine s_lss_d rfl rfl ?_; refine s_nil ?_; (repeat (first | refine s_then ?_ | refine s_blockN ?_)); refine s_seq ?_)
  refine s_cond_d rfl (fun hc => ?_) (fun hc => ?_)
  · skip
    all_goals (refine s_skip ?_; (repeat (first | refine s_then ?_ | refine s_blockN ?_)); refine s_seq ?_; refine s_block ?_; refine s_seq ?_; refine s_ops ?_; refine s_mov (by (conv => lhs; whnf); first | done | fail) ?_; refine s_idxS (by (conv => lhs; whnf); first | done | fail) rfl (by assumption) (by omega) (by omega) ?_; intro b1 o1 hel1; (first | (refine s_loadS rfl (by assumption) (map_get bcell l false (by omega)) rfl ?_) | (refine s_loadb rfl (by assumption) (by rfl) ?_)); refine s_mov (by (conv => lhs; whnf); first | done | fail) ?_; refine s_mov (by (conv => lhs; whnf); first | done | fail) ?_; refine s_nil ?_; (repeat (first | refine s_then ?_ | refine s_blockN ?_)); refine s_seq ?_; refine s_ops ?_; refine s_mov (by (conv => lhs; whnf); first | done | fail) ?_; refine s_nil ?_; (repeat (first | refine s_then ?_ | refine s_blockN ?_)))
    refine s_cond rfl (fun hc => ?_) (fun hc => ?_)
    · skip
      all_goals (refine s_ops ?_; refine s_mov (by (conv => lhs; whnf); first | done | fail) ?_; refine s_mov (by (conv => lhs; whnf); first | done | fail) ?_; refine s_buildS1 (cs := [_]) (by (conv => lhs; whnf); first | done | fail) (by rfl) ?_; (first | (intro b2 w2 hb2 hf2 hz2 hk2; have ho2 := ho.fr0 hf2) | (intro b1 w1 hb1 hfr1 hsz1 hblk1)); refine s_app el_int (.inl u_ints) (by (conv => lhs; whnf); first | done | fail) (by (conv => lhs; whnf); first | done | fail) ho2 (src_one hk2 rfl) (by simp; omega) ?_; intro v3 w3 ha; obtain ⟨Fo3, ho3, hf3, hlow3⟩ := app_fresh (hf.then0 hf2) hlow ha; refine s_mov (by (conv => lhs; whnf); first | done | fail) ?_; refine s_nil ?_; (repeat (first | refine s_then ?_ | refine s_blockN ?_)); refine s_ops ?_; (first | (refine s_add rfl rfl (by omega) (by omega) ?_) | (refine s_addw rfl rfl ?_)); refine s_mov (by (conv => lhs; whnf); first | done | fail) ?_; refine s_nil ?_; (repeat (first | refine s_then ?_ | refine s_blockN ?_)); (first | (refine ⟨⟨i + 1, _, Fo3, ⟨rfl, rfl, rfl, rfl, trivial⟩, by omega, by rw [hsu, if_pos (by exact hc), List.map_append]; exact ho3, hf3, hlow3⟩, meas_lt (by omega)⟩) | (refine ⟨⟨i + 1, _, Fo, ⟨rfl, rfl, rfl, rfl, trivial⟩, by omega, by rw [hsu, if_neg (by rw [Bool.not_eq_true]; exact hc), List.append_nil]; exact ho, hf, hlow⟩, meas_lt (by omega)⟩)))
    · skip
      all_goals (refine s_skip ?_; (repeat (first | refine s_then ?_ | refine s_blockN ?_)); refine s_ops ?_; (first | (refine s_add rfl rfl (by omega) (by omega) ?_) | (refine s_addw rfl rfl ?_)); refine s_mov (by (conv => lhs; whnf); first | done | fail) ?_; refine s_nil ?_; (repeat (first | refine s_then ?_ | refine s_blockN ?_)); (first | (refine ⟨⟨i + 1, _, Fo3, ⟨rfl, rfl, rfl, rfl, trivial⟩, by omega, by rw [hsu, if_pos (by exact hc), List.map_append]; exact ho3, hf3, hlow3⟩, meas_lt (by omega)⟩) | (refine ⟨⟨i + 1, _, Fo, ⟨rfl, rfl, rfl, rfl, trivial⟩, by omega, by rw [hsu, if_neg (by rw [Bool.not_eq_true]; exact hc), List.append_nil]; exact ho, hf, hlow⟩, meas_lt (by omega)⟩)))
  · skip
    all_goals (refine s_exit ?_; (repeat (first | refine s_exitQ ?_ | refine s_exitT ?_ | refine s_exitB rfl ?_ | refine s_then ?_ | refine s_blockN ?_)); refine s_seq ?_; refine s_ops ?_; refine s_mov (by (conv => lhs; whnf); first | done | fail) ?_; refine s_mov (by (conv => lhs; whnf); first | done | fail) ?_; refine s_nil ?_; (repeat (first | refine s_then ?_ | refine s_blockN ?_)); refine s_ret ?_; (repeat (first | refine s_retT ?_ | refine s_retB ?_)); refine q_ret1 (by (conv => lhs; whnf); first | done | fail) ?_; refine ⟨_, rfl, Fo, ?_, hf, hlow⟩; rw [show i = l.length by omega] at ho; exact ho)
theorem rlist_c {p : Value} {F : Nat → Prop} {l : List Bool} {w : World} (h : HeldR w.heap 37 p F l) (hl : l.length ≤ 16) : Rets Try.prog R_Holds_List [p] w fun v w' =>
    ∃ F', Sl w'.heap 3 1 v F' ((listB l).map icell) ∧ Fr NF w w' ∧ ∀ b, F' b → w.heap.size ≤ b := by
  obtain ⟨b, v, Fs, rfl, hb, hs, hne, hF⟩ := h
  have hlen : (l.map bcell).length = l.length := List.length_map _
  refine R_Holds_List_in ?_
  unfold R_Holds_List_lc
  all_goals (refine s_seq ?_; refine s_ops ?_; refine s_mov (by (conv => lhs; whnf); first | done | fail) ?_; refine s_nil ?_; (repeat (first | refine s_then ?_ | refine s_blockN ?_)); refine s_seq ?_; refine s_ops ?_; refine s_mov (by (conv => lhs; whnf); first | done | fail) ?_; refine s_nil ?_; (repeat (first | refine s_then ?_ | refine s_blockN ?_)); refine s_seq ?_; refine s_seq ?_; refine s_ops ?_; refine s_mov (by (conv => lhs; whnf); first | done | fail) ?_; refine s_nil ?_; (repeat (first | refine s_then ?_ | refine s_blockN ?_)); refine s_block ?_)
  refine s_loop (fun ρ' w' => ∃ (i : Nat) (vo : Value) (Fo : Nat → Prop), Has ρ' [(0, .pointer (some ⟨b, 0, none⟩)), (4, .int .i64 i), (3, vo)] ∧ i ≤ l.length ∧ Sl w'.heap 3 1 vo Fo ((listTo l i).map icell) ∧ Fr NF w w' ∧ ∀ b, Fo b → w.heap.size ≤ b) (fun ρ' _ => (l.length - iv (ρ' 4)).toNat) ?_ ?_
  · refine ⟨0, _, NF, ⟨rfl, rfl, rfl, trivial⟩, Nat.zero_le _, Sl.nil _ _ _, Fr.refl _ _, fun _ h => h.elim⟩
  rintro ρ w1 ⟨i, vo, Fo, hρ, hi, ho, hf, hlow⟩; obtain ⟨ρ, rfl⟩ := env_intro _ hρ; have hb1 := hb.fr0 hf; have hs1 := hs.fr0 hf; have hll := listTo_len l i; have hsu := listTo_succ l i
  unfold R_Holds_List_b3
  all_goals (refine s_seq ?_; refine s_seq ?_; refine s_ops ?_; refine s_mov (by (conv => lhs; whnf); first | done | fail) ?_; refine s_mov (by (conv => lhs; whnf); first | done | fail) ?_; refine s_nilc rfl ?_; (first | refine s_fld0 rfl ?_ | refine s_fld rfl ?_); (first | (refine s_loadS rfl (by assumption) (map_get bcell l false (by omega)) rfl ?_) | (refine s_loadb rfl (by assumption) (by rfl) ?_)); (first | (refine s_lenS (by (conv => lhs; whnf); first | done | fail) (by assumption) ?_) | (refine s_len rfl ?_)); refine s_lss_d rfl rfl ?_; refine s_nil ?_; (repeat (first | refine s_then ?_ | refine s_blockN ?_)))
  refine s_cond_d rfl (fun hc => ?_) (fun hc => ?_)
  · skip
    all_goals (refine s_skip ?_; (repeat (first | refine s_then ?_ | refine s_blockN ?_)); refine s_seq ?_; refine s_block ?_; refine s_seq ?_; refine s_ops ?_; refine s_mov (by (conv => lhs; whnf); first | done | fail) ?_; refine s_nilc rfl ?_; (first | refine s_fld0 rfl ?_ | refine s_fld rfl ?_); (first | (refine s_loadS rfl (by assumption) (map_get bcell l false (by omega)) rfl ?_) | (refine s_loadb rfl (by assumption) (by rfl) ?_)); refine s_mov (by (conv => lhs; whnf); first | done | fail) ?_; refine s_idxS (by (conv => lhs; whnf); first | done | fail) rfl (by assumption) (by omega) (by omega) ?_; intro b1 o1 hel1; (first | (refine s_loadS rfl (by assumption) (map_get bcell l false (by omega)) rfl ?_) | (refine s_loadb rfl (by assumption) (by rfl) ?_)); refine s_nil ?_; (repeat (first | refine s_then ?_ | refine s_blockN ?_)))
    refine s_cond rfl (fun hc => ?_) (fun hc => ?_)
    · skip
      all_goals (refine s_ops ?_; refine s_mov (by (conv => lhs; whnf); first | done | fail) ?_; refine s_mov (by (conv => lhs; whnf); first | done | fail) ?_; refine s_buildS1 (cs := [_]) (by (conv => lhs; whnf); first | done | fail) (by rfl) ?_; (first | (intro b2 w2 hb2 hf2 hz2 hk2; have ho2 := ho.fr0 hf2) | (intro b1 w1 hb1 hfr1 hsz1 hblk1)); refine s_app el_int (.inl u_ints) (by (conv => lhs; whnf); first | done | fail) (by (conv => lhs; whnf); first | done | fail) ho2 (src_one hk2 rfl) (by simp; omega) ?_; intro v3 w3 ha; obtain ⟨Fo3, ho3, hf3, hlow3⟩ := app_fresh (hf.then0 hf2) hlow ha; refine s_mov (by (conv => lhs; whnf); first | done | fail) ?_; refine s_nil ?_; (repeat (first | refine s_then ?_ | refine s_blockN ?_)); refine s_ops ?_; refine s_mov (by (conv => lhs; whnf); first | done | fail) ?_; (first | (refine s_add rfl rfl (by omega) (by omega) ?_) | (refine s_addw rfl rfl ?_)); refine s_mov (by (conv => lhs; whnf); first | done | fail) ?_; refine s_nil ?_; (repeat (first | refine s_then ?_ | refine s_blockN ?_)); (first | (refine ⟨⟨i + 1, _, Fo3, ⟨rfl, rfl, rfl, trivial⟩, by omega, by rw [hsu, if_pos (by exact hc), List.map_append]; exact ho3, hf3, hlow3⟩, meas_lt (by omega)⟩) | (refine ⟨⟨i + 1, _, Fo, ⟨rfl, rfl, rfl, trivial⟩, by omega, by rw [hsu, if_neg (by rw [Bool.not_eq_true]; exact hc), List.append_nil]; exact ho, hf, hlow⟩, meas_lt (by omega)⟩)))
    · skip
      all_goals (refine s_skip ?_; (repeat (first | refine s_then ?_ | refine s_blockN ?_)); refine s_ops ?_; refine s_mov (by (conv => lhs; whnf); first | done | fail) ?_; (first | (refine s_add rfl rfl (by omega) (by omega) ?_) | (refine s_addw rfl rfl ?_)); refine s_mov (by (conv => lhs; whnf); first | done | fail) ?_; refine s_nil ?_; (repeat (first | refine s_then ?_ | refine s_blockN ?_)); (first | (refine ⟨⟨i + 1, _, Fo3, ⟨rfl, rfl, rfl, trivial⟩, by omega, by rw [hsu, if_pos (by exact hc), List.map_append]; exact ho3, hf3, hlow3⟩, meas_lt (by omega)⟩) | (refine ⟨⟨i + 1, _, Fo, ⟨rfl, rfl, rfl, trivial⟩, by omega, by rw [hsu, if_neg (by rw [Bool.not_eq_true]; exact hc), List.append_nil]; exact ho, hf, hlow⟩, meas_lt (by omega)⟩)))
  · skip
    all_goals (refine s_exit ?_; (repeat (first | refine s_exitQ ?_ | refine s_exitT ?_ | refine s_exitB rfl ?_ | refine s_then ?_ | refine s_blockN ?_)); refine s_seq ?_; refine s_ops ?_; refine s_mov (by (conv => lhs; whnf); first | done | fail) ?_; refine s_mov (by (conv => lhs; whnf); first | done | fail) ?_; refine s_nil ?_; (repeat (first | refine s_then ?_ | refine s_blockN ?_)); refine s_ret ?_; (repeat (first | refine s_retT ?_ | refine s_retB ?_)); refine q_ret1 (by (conv => lhs; whnf); first | done | fail) ?_; refine ⟨_, rfl, Fo, ?_, hf, hlow⟩; rw [show i = l.length by omega] at ho; exact ho)

theorem in_c {vx : Value} {G : Nat → Prop} {xs : List Int} {w : World} (x : Int) (hx : SlR w.heap 1 vx G (xs.map icell)) (hl : xs.length ≤ 9223372036854775807) : Rets Try.prog R_In [vx, .int .i64 x] w fun v w' => v = .bool (decide (x ∈ xs)) ∧ w' = w := by
  have hlen : (xs.map icell).length = xs.length := List.length_map _
  refine R_In_in ?_
  unfold R_In_lc
  all_goals (refine s_seq ?_; refine s_ops ?_; refine s_mov (by (conv => lhs; whnf); first | done | fail) ?_; refine s_nil ?_; (repeat (first | refine s_then ?_ | refine s_blockN ?_)); refine s_seq ?_; refine s_seq ?_; refine s_ops ?_; refine s_mov (by (conv => lhs; whnf); first | done | fail) ?_; refine s_nil ?_; (repeat (first | refine s_then ?_ | refine s_blockN ?_)); refine s_block ?_)
  refine s_loop (fun ρ' w' => ∃ (i : Nat), Has ρ' [(0, vx), (1, .int .i64 x), (5, .int .i64 i)] ∧ i ≤ xs.length ∧ x ∉ xs.take i ∧ w' = w) (fun ρ' _ => (xs.length - iv (ρ' 5)).toNat) ?_ ?_
  · exact ⟨0, ⟨rfl, rfl, rfl, trivial⟩, Nat.zero_le _, by simp, rfl⟩
  rintro ρ w1 ⟨i, hρ, hi, hn, rfl⟩; obtain ⟨ρ, rfl⟩ := env_intro _ hρ
  unfold R_In_b2
  all_goals (refine s_seq ?_; refine s_seq ?_; refine s_ops ?_; refine s_mov (by (conv => lhs; whnf); first | done | fail) ?_; refine s_mov (by (conv => lhs; whnf); first | done | fail) ?_; (first | (refine s_lenR (by (conv => lhs; whnf); first | done | fail) hx ?_) | (refine s_lenS (by (conv => lhs; whnf); first | done | fail) (by assumption) ?_) | (refine s_len rfl ?_)); refine s_lss_d rfl rfl ?_; refine s_nil ?_; (repeat (first | refine s_then ?_ | refine s_blockN ?_)))
  refine s_cond_d rfl (fun hc => ?_) (fun hc => ?_)
  · skip
    all_goals (refine s_skip ?_; (repeat (first | refine s_then ?_ | refine s_blockN ?_)); refine s_seq ?_; refine s_block ?_; refine s_seq ?_; refine s_ops ?_; refine s_mov (by (conv => lhs; whnf); first | done | fail) ?_; refine s_mov (by (conv => lhs; whnf); first | done | fail) ?_; (first | (refine s_idxRn (by (conv => lhs; whnf); first | done | fail) rfl hx (map_get icell xs 0 (by omega)) ?_; intro b1 o1 hat1 hG1) | (refine s_idxS (by (conv => lhs; whnf); first | done | fail) rfl (by assumption) (by omega) (by omega) ?_; intro b1 o1 hel1)); (first | (refine s_loadA rfl (by assumption) rfl ?_) | (refine s_loadb rfl (by assumption) (by rfl) ?_)); refine s_mov (by (conv => lhs; whnf); first | done | fail) ?_; refine s_eql_d rfl rfl ?_; refine s_nil ?_; (repeat (first | refine s_then ?_ | refine s_blockN ?_)))
    refine s_cond_d rfl (fun hc => ?_) (fun hc => ?_)
    · skip
      all_goals (refine s_seq ?_; refine s_ops ?_; refine s_mov (by (conv => lhs; whnf); first | done | fail) ?_; refine s_nil ?_; (repeat (first | refine s_then ?_ | refine s_blockN ?_)); refine s_ret ?_; (repeat (first | refine s_retT ?_ | refine s_retB ?_)); refine q_ret1 (by (conv => lhs; whnf); first | done | fail) ?_; (first | (refine ⟨_, rfl, ?_, rfl⟩; rw [decide_eq_true]; rw [← hc]; exact getD_mem (by omega)) | (refine ⟨_, rfl, ?_, rfl⟩; rw [decide_eq_false]; rw [show i = xs.length by omega, List.take_length] at hn; exact hn)))
    · skip
      all_goals (refine s_skip ?_; (repeat (first | refine s_then ?_ | refine s_blockN ?_)); refine s_ops ?_; refine s_mov (by (conv => lhs; whnf); first | done | fail) ?_; (first | (refine s_add rfl rfl (by omega) (by omega) ?_) | (refine s_addw rfl rfl ?_)); refine s_mov (by (conv => lhs; whnf); first | done | fail) ?_; refine s_nil ?_; (repeat (first | refine s_then ?_ | refine s_blockN ?_)); refine ⟨⟨i + 1, ⟨rfl, rfl, rfl, trivial⟩, by omega, ?_, rfl⟩, meas_lt (by omega)⟩; rw [take_succ_getD 0 (by omega), List.mem_append, List.mem_singleton]; rintro (h | h); (exact hn h); exact hc h.symm)
  · skip
    all_goals (refine s_exit ?_; (repeat (first | refine s_exitQ ?_ | refine s_exitT ?_ | refine s_exitB rfl ?_ | refine s_then ?_ | refine s_blockN ?_)); refine s_seq ?_; refine s_ops ?_; refine s_mov (by (conv => lhs; whnf); first | done | fail) ?_; refine s_nil ?_; (repeat (first | refine s_then ?_ | refine s_blockN ?_)); refine s_ret ?_; (repeat (first | refine s_retT ?_ | refine s_retB ?_)); refine q_ret1 (by (conv => lhs; whnf); first | done | fail) ?_; (first | (refine ⟨_, rfl, ?_, rfl⟩; rw [decide_eq_true]; rw [← hc]; exact getD_mem (by omega)) | (refine ⟨_, rfl, ?_, rfl⟩; rw [decide_eq_false]; rw [show i = xs.length by omega, List.take_length] at hn; exact hn)))

theorem same_c {vx vy : Value} {G G' : Nat → Prop} {xs ys : List Int} {w : World} (hx : SlR w.heap 1 vx G (xs.map icell)) (hy : SlR w.heap 1 vy G' (ys.map icell)) (hl : xs.length ≤ 9223372036854775807) : Rets Try.prog R_SameInts [vx, vy] w fun v w' => v = .bool (decide (xs = ys)) ∧ Fr NF w w' := by
  have hlen : (xs.map icell).length = xs.length := List.length_map _
  have hlen' : (ys.map icell).length = ys.length := List.length_map _
  refine R_SameInts_in ?_
  unfold R_SameInts_lc
  all_goals (refine s_seq ?_; refine s_ops ?_; refine s_mov (by (conv => lhs; whnf); first | done | fail) ?_; refine s_nil ?_; (repeat (first | refine s_then ?_ | refine s_blockN ?_)); refine s_seq ?_; refine s_seq ?_; refine s_ops ?_; refine s_mov (by (conv => lhs; whnf); first | done | fail) ?_; (first | (refine s_lenR (by (conv => lhs; whnf); first | done | fail) hx ?_) | (refine s_lenR (by (conv => lhs; whnf); first | done | fail) hy ?_) | (refine s_lenR (by (conv => lhs; whnf); first | done | fail) hx1 ?_) | (refine s_lenS (by (conv => lhs; whnf); first | done | fail) (by assumption) ?_) | (refine s_len rfl ?_)); refine s_mov (by (conv => lhs; whnf); first | done | fail) ?_; (first | (refine s_lenR (by (conv => lhs; whnf); first | done | fail) hx ?_) | (refine s_lenR (by (conv => lhs; whnf); first | done | fail) hy ?_) | (refine s_lenR (by (conv => lhs; whnf); first | done | fail) hx1 ?_) | (refine s_lenS (by (conv => lhs; whnf); first | done | fail) (by assumption) ?_) | (refine s_len rfl ?_)))
  all_goals (first | (refine s_neq_t rfl rfl (by omega) ?_) | (refine s_neq_f rfl rfl (by omega) ?_) | (refine s_neq_s rfl rfl (fun hc => ?_) (fun hc => ?_)))
  all_goals (refine s_nil ?_; (repeat (first | refine s_then ?_ | refine s_blockN ?_)))
  all_goals
    first
    | (refine s_cond_t rfl ?_
       all_goals (refine s_seq ?_; refine s_ops ?_; refine s_mov (by (conv => lhs; whnf); first | done | fail) ?_; refine s_nil ?_; (repeat (first | refine s_then ?_ | refine s_blockN ?_)); refine s_ret ?_; (repeat (first | refine s_retT ?_ | refine s_retB ?_)); refine q_ret1 (by (conv => lhs; whnf); first | done | fail) ?_)
       all_goals (first | (exact ⟨_, rfl, congrArg Value.bool (decide_eq_false (fun h => hc (by rw [hlen, hlen', h]))).symm, Fr.refl _ _⟩) | (exact ⟨_, rfl, congrArg Value.bool (decide_eq_false (fun h => hc (by rw [h]))).symm, hf.drew'⟩) | (exact ⟨_, rfl, congrArg Value.bool (decide_eq_true (ext_getD 0 (by omega) fun j hj => hn j (by omega))).symm, hf⟩)))
    | (refine s_cond_f rfl ?_
       all_goals (refine s_skip ?_; (repeat (first | refine s_then ?_ | refine s_blockN ?_))))
  all_goals (refine s_seq ?_; refine s_seq ?_; refine s_ops ?_; refine s_mov (by (conv => lhs; whnf); first | done | fail) ?_; refine s_nil ?_; (repeat (first | refine s_then ?_ | refine s_blockN ?_)); refine s_block ?_)
  refine s_loop (fun ρ' w' => ∃ (i : Nat), Has ρ' [(0, vx), (1, vy), (5, .int .i64 i)] ∧ i ≤ xs.length ∧ (∀ j < i, xs.getD j 0 = ys.getD j 0) ∧ Fr NF w w') (fun ρ' _ => (xs.length - iv (ρ' 5)).toNat) ?_ ?_
  · exact ⟨0, ⟨rfl, rfl, rfl, trivial⟩, Nat.zero_le _, fun j hj => absurd hj (by omega), Fr.refl _ _⟩
  rintro ρ w1 ⟨i, hρ, hi, hn, hf⟩; obtain ⟨ρ, rfl⟩ := env_intro _ hρ; have hx1 := hx.fr0 hf; have hy1 := hy.fr0 hf
  unfold R_SameInts_b4
  all_goals (refine s_seq ?_; refine s_seq ?_; refine s_ops ?_; refine s_mov (by (conv => lhs; whnf); first | done | fail) ?_; refine s_mov (by (conv => lhs; whnf); first | done | fail) ?_; (first | (refine s_lenR (by (conv => lhs; whnf); first | done | fail) hx ?_) | (refine s_lenR (by (conv => lhs; whnf); first | done | fail) hy ?_) | (refine s_lenR (by (conv => lhs; whnf); first | done | fail) hx1 ?_) | (refine s_lenS (by (conv => lhs; whnf); first | done | fail) (by assumption) ?_) | (refine s_len rfl ?_)); refine s_lss_d rfl rfl ?_; refine s_nil ?_; (repeat (first | refine s_then ?_ | refine s_blockN ?_)))
  refine s_cond_d rfl (fun hc => ?_) (fun hc => ?_)
  · skip
    all_goals (refine s_skip ?_; (repeat (first | refine s_then ?_ | refine s_blockN ?_)); refine s_seq ?_; refine s_block ?_; refine s_seq ?_; refine s_draw [(0, none), (1, none), (2, none), (3, none), (4, none), (5, none), (6, none), (7, none), (8, some none)] (by kernel_rfl) (by kernel_rfl) ?_; refine s_mov (by (conv => lhs; whnf); first | done | fail) ?_; refine s_mov (by (conv => lhs; whnf); first | done | fail) ?_; (first | (refine s_idxRn (by (conv => lhs; whnf); first | done | fail) rfl hx1 (map_get icell xs 0 (by omega)) ?_; intro b1 o1 hat1 hG1) | (refine s_idxRn (by (conv => lhs; whnf); first | done | fail) rfl hy1 (map_get icell ys 0 (by omega)) ?_; intro b2 o2 hat2 hG2) | (refine s_idxS (by (conv => lhs; whnf); first | done | fail) rfl (by assumption) (by omega) (by omega) ?_; intro b1 o1 hel1)); (first | (refine s_loadA rfl (by assumption) rfl ?_) | (refine s_loadb rfl (by assumption) (by rfl) ?_)); refine s_mov (by (conv => lhs; whnf); first | done | fail) ?_; refine s_mov (by (conv => lhs; whnf); first | done | fail) ?_; (first | (refine s_idxRn (by (conv => lhs; whnf); first | done | fail) rfl hx1 (map_get icell xs 0 (by omega)) ?_; intro b1 o1 hat1 hG1) | (refine s_idxRn (by (conv => lhs; whnf); first | done | fail) rfl hy1 (map_get icell ys 0 (by omega)) ?_; intro b2 o2 hat2 hG2) | (refine s_idxS (by (conv => lhs; whnf); first | done | fail) rfl (by assumption) (by omega) (by omega) ?_; intro b1 o1 hel1)); (first | (refine s_loadA rfl (by assumption) rfl ?_) | (refine s_loadb rfl (by assumption) (by rfl) ?_)))
    all_goals (first | (refine s_neq_t rfl rfl (by omega) ?_) | (refine s_neq_f rfl rfl (by omega) ?_) | (refine s_neq_s rfl rfl (fun hc => ?_) (fun hc => ?_)))
    all_goals (refine s_nil ?_; (repeat (first | refine s_then ?_ | refine s_blockN ?_)))
    all_goals
      first
      | (refine s_cond_t rfl ?_
         all_goals (refine s_seq ?_; refine s_ops ?_; refine s_mov (by (conv => lhs; whnf); first | done | fail) ?_; refine s_nil ?_; (repeat (first | refine s_then ?_ | refine s_blockN ?_)); refine s_ret ?_; (repeat (first | refine s_retT ?_ | refine s_retB ?_)); refine q_ret1 (by (conv => lhs; whnf); first | done | fail) ?_)
         all_goals (first | (exact ⟨_, rfl, congrArg Value.bool (decide_eq_false (fun h => hc (by rw [hlen, hlen', h]))).symm, Fr.refl _ _⟩) | (exact ⟨_, rfl, congrArg Value.bool (decide_eq_false (fun h => hc (by rw [h]))).symm, hf.drew'⟩) | (exact ⟨_, rfl, congrArg Value.bool (decide_eq_true (ext_getD 0 (by omega) fun j hj => hn j (by omega))).symm, hf⟩)))
      | (refine s_cond_f rfl ?_
         all_goals (refine s_skip ?_; (repeat (first | refine s_then ?_ | refine s_blockN ?_))))
    all_goals (refine s_ops ?_; refine s_mov (by (conv => lhs; whnf); first | done | fail) ?_; (first | (refine s_add rfl rfl (by omega) (by omega) ?_) | (refine s_addw rfl rfl ?_)); refine s_mov (by (conv => lhs; whnf); first | done | fail) ?_; refine s_nil ?_; (repeat (first | refine s_then ?_ | refine s_blockN ?_)))
    all_goals (refine ⟨⟨i + 1, ⟨rfl, rfl, rfl, trivial⟩, by omega, fun j hj => ?_, hf.drew'⟩, meas_lt (by omega)⟩; rcases Nat.lt_or_ge j i with h | h; (exact hn j h); have : j = i := (by omega); subst this; simpa using hc)
  · skip
    all_goals (refine s_exit ?_; (repeat (first | refine s_exitQ ?_ | refine s_exitT ?_ | refine s_exitB rfl ?_ | refine s_then ?_ | refine s_blockN ?_)); refine s_seq ?_; refine s_ops ?_; refine s_mov (by (conv => lhs; whnf); first | done | fail) ?_; refine s_nil ?_; (repeat (first | refine s_then ?_ | refine s_blockN ?_)); refine s_ret ?_; (repeat (first | refine s_retT ?_ | refine s_retB ?_)); refine q_ret1 (by (conv => lhs; whnf); first | done | fail) ?_)
    all_goals (first | (exact ⟨_, rfl, congrArg Value.bool (decide_eq_false (fun h => hc (by rw [hlen, hlen', h]))).symm, Fr.refl _ _⟩) | (exact ⟨_, rfl, congrArg Value.bool (decide_eq_false (fun h => hc (by rw [h]))).symm, hf.drew'⟩) | (exact ⟨_, rfl, congrArg Value.bool (decide_eq_true (ext_getD 0 (by omega) fun j hj => hn j (by omega))).symm, hf⟩))

/-- What Pass answers: of the numbers yet to come, behind those that were seen. -/
def passGo (l : List Bool) (seen : List Int) : List Int → Int
  | [] => if seen.length < (listB l).length then 12 else 0
  | x :: xs => if hasB l x then if x ∈ seen then 13 else passGo l (seen ++ [x]) xs else 10
def seenB (l : List Bool) (ys : List Int) : List Bool := (List.range l.length).map fun (j : Nat) => decide ((j : Int) ∈ ys)
theorem seenB_len (l : List Bool) (ys : List Int) : (seenB l ys).length = l.length := by simp [seenB]
theorem seenB_nil (l : List Bool) : seenB l [] = List.replicate l.length false := by
  apply List.ext_getElem <;> simp [seenB]
theorem seenB_get {l : List Bool} {ys : List Int} {r : Int} (h0 : 0 ≤ r) (h1 : r < l.length) : (seenB l ys).getD r.toNat false = decide (r ∈ ys) := by
  have : r.toNat < l.length := by omega
  simp [seenB, List.getD_eq_getElem?_getD, List.getElem?_map, List.getElem?_range this, Int.toNat_of_nonneg h0]
theorem seenB_set {l : List Bool} {ys : List Int} {r : Int} (h0 : 0 ≤ r) : (seenB l ys).set r.toNat true = seenB l (ys ++ [r]) := by
  apply List.ext_getElem?
  intro j
  simp only [seenB, List.getElem?_set, List.getElem?_map, List.length_map, List.length_range]
  by_cases hj : j < l.length
  · simp only [List.getElem?_range hj, Option.map_some]
    by_cases he : r.toNat = j
    · subst he; simp [hj, Int.toNat_of_nonneg h0]
    · have : (j : Int) ≠ r := by omega
      simp [he, this]
  · have h2 : (List.range l.length)[j]? = none := by simp; omega
    simp only [h2, Option.map_none]
    by_cases he : r.toNat = j
    · subst he; simp [hj]
    · simp [he]
theorem hasB_iff {l : List Bool} {r : Int} (h : hasB l r = true) : 0 ≤ r ∧ r < l.length ∧ l.getD r.toNat false = true := by
  simp only [hasB, Bool.and_eq_true, decide_eq_true_eq] at h; exact ⟨h.1.1, h.1.2, h.2⟩

theorem pass_c {p vx : Value} {F G : Nat → Prop} {l : List Bool} {xs : List Int} {w : World} (h : HeldR w.heap 132 p F l) (hl : l.length ≤ 16) (hx : SlR w.heap 1 vx G (xs.map icell)) (hxl : xs.length ≤ 9223372036854775807) :
    Rets Try.prog held_Held_Pass [p, vx] w fun v w' => v = .int .i64 (passGo l [] xs) ∧ Fr NF w w' := by
  have hh := h
  obtain ⟨b, v, Fs, rfl, hb, hs, hne, hF⟩ := h
  have hlen : (l.map bcell).length = l.length := List.length_map _
  have hlex : (xs.map icell).length = xs.length := List.length_map _
  refine held_Held_Pass_in ?_
  unfold held_Held_Pass_lc
  all_goals (refine s_seq ?_; refine s_ops ?_; refine s_mov (by (conv => lhs; whnf); first | done | fail) ?_; refine s_nil ?_; (repeat (first | refine s_then ?_ | refine s_blockN ?_)); refine s_seq ?_; refine s_ops ?_; refine s_mov (by (conv => lhs; whnf); first | done | fail) ?_; refine s_nilc rfl ?_; (first | refine s_fld0 rfl ?_ | refine s_fld rfl ?_); (first | (refine s_loadA rfl (by assumption) rfl ?_) | (refine s_loadS rfl (by assumption) (map_get bcell _ false (by omega)) rfl ?_) | (refine s_loadb rfl (by assumption) (by rfl) ?_)); (first | (refine s_lenR (by (conv => lhs; whnf); first | done | fail) (by assumption) ?_) | (refine s_lenS (by (conv => lhs; whnf); first | done | fail) (by assumption) ?_) | (refine s_len rfl ?_)); refine s_make el_bool rfl rfl (by omega) (by omega) ?_; intro v1 w1 hf1 hs1 hz1; have hx1 := hx.fr0 hf1; refine s_mov (by (conv => lhs; whnf); first | done | fail) ?_; refine s_nil ?_; (repeat (first | refine s_then ?_ | refine s_blockN ?_)); refine s_seq ?_; refine s_seq ?_; refine s_ops ?_; refine s_mov (by (conv => lhs; whnf); first | done | fail) ?_; (first | (refine s_lenR (by (conv => lhs; whnf); first | done | fail) (by assumption) ?_) | (refine s_lenS (by (conv => lhs; whnf); first | done | fail) (by assumption) ?_) | (refine s_len rfl ?_)); refine s_mov (by (conv => lhs; whnf); first | done | fail) ?_; refine s_nil ?_; (repeat (first | refine s_then ?_ | refine s_blockN ?_)); refine s_block ?_)
  refine s_loop (fun ρ' w' => ∃ (i : Nat), Has ρ' [(0, .pointer (some ⟨b, 0, none⟩)), (1, vx), (5, v1), (14, vx), (15, .int .i64 xs.length), (16, .int .i64 i)] ∧ i ≤ xs.length ∧ Sl w'.heap 4 1 v1 (· = w.heap.size) ((seenB l (xs.take i)).map bcell) ∧ Fr NF w w' ∧ passGo l [] xs = passGo l (xs.take i) (xs.drop i)) (fun ρ' _ => (xs.length - iv (ρ' 16)).toNat) ?_ ?_
  · refine ⟨0, ⟨rfl, rfl, rfl, rfl, by rw [← hlex]; rfl, rfl, trivial⟩, Nat.zero_le _, ?_, hf1, rfl⟩; rw [List.take_zero, seenB_nil, List.map_replicate]; rw [hlen] at hs1; exact hs1
  rintro ρ w2 ⟨i, hρ, hi, hs2, hf, hgo⟩; obtain ⟨ρ, rfl⟩ := env_intro _ hρ; have h2 := hh.fr hf (fun _ _ h => h); have hx2 := hx.fr0 hf; have hln := seenB_len l (xs.take i); have hlm : ((seenB l (xs.take i)).map bcell).length = l.length := (by rw [List.length_map, hln])
  unfold held_Held_Pass_b3
  all_goals (refine s_seq ?_; refine s_ops ?_; refine s_lss_d rfl rfl ?_; refine s_nil ?_; (repeat (first | refine s_then ?_ | refine s_blockN ?_)); refine s_seq ?_)
  refine s_cond_d rfl (fun hc => ?_) (fun hc => ?_)
  · skip
    all_goals (refine s_skip ?_; (repeat (first | refine s_then ?_ | refine s_blockN ?_)); refine s_seq ?_; refine s_block ?_; refine s_seq ?_; refine s_ops ?_; (first | (refine s_idxRn (by (conv => lhs; whnf); first | done | fail) rfl hx2 (map_get icell xs 0 (by omega)) ?_; intro b1 o1 hat1 hG1) | (refine s_idxS (by (conv => lhs; whnf); first | done | fail) rfl hs2 (by omega) (by omega) ?_; intro b2 o2 hel2) | (refine s_idxS (by (conv => lhs; whnf); first | done | fail) rfl (by assumption) (by omega) (by omega) ?_; intro b1 o1 hel1)); (first | (refine s_loadA rfl (by assumption) rfl ?_) | (refine s_loadS rfl (by assumption) (map_get bcell _ false (by omega)) rfl ?_) | (refine s_loadb rfl (by assumption) (by rfl) ?_)); refine s_mov (by (conv => lhs; whnf); first | done | fail) ?_; refine s_nil ?_; (repeat (first | refine s_then ?_ | refine s_blockN ?_)); refine s_seq ?_; refine s_seq ?_; refine s_ops ?_; refine s_mov (by (conv => lhs; whnf); first | done | fail) ?_; refine s_mov (by (conv => lhs; whnf); first | done | fail) ?_; refine s_rets rfl (has_c _ h2) ?_; rintro v3 w3 ⟨rfl, rfl⟩; rw [drop_getD 0 (by omega), passGo] at hgo; refine s_not rfl ?_; refine s_nil ?_; (repeat (first | refine s_then ?_ | refine s_blockN ?_)))
    refine s_cond rfl (fun hc => ?_) (fun hc => ?_)
    · skip
      all_goals (refine s_seq ?_; refine s_ops ?_; refine s_mov (by (conv => lhs; whnf); first | done | fail) ?_; refine s_nil ?_; (repeat (first | refine s_then ?_ | refine s_blockN ?_)); refine s_ret ?_; (repeat (first | refine s_retT ?_ | refine s_retB ?_)); refine q_ret1 (by (conv => lhs; whnf); first | done | fail) ?_; (first | (refine ⟨_, rfl, ?_, hf⟩; rw [hgo, if_neg (by simpa using hc)]) | (refine ⟨_, rfl, ?_, hf⟩; rw [hgo, if_pos]; rw [hsg] at hc; simpa using hc) | (refine ⟨_, rfl, ?_, hf.then0 hf5⟩; rw [hgo, if_pos (by omega)]) | (refine ⟨_, rfl, ?_, hf.then0 hf5⟩; rw [hgo, if_neg (by omega)])))
    · skip
      all_goals (have hc1 : hasB l (xs.getD i 0) = true := (by simpa using hc); have hr := hasB_iff hc1; rw [if_pos hc1] at hgo; have hsg : (seenB l (xs.take i)).getD (xs.getD i 0).toNat false = decide (xs.getD i 0 ∈ xs.take i) := seenB_get (by omega) (by omega); refine s_skip ?_; (repeat (first | refine s_then ?_ | refine s_blockN ?_)); refine s_seq ?_; refine s_seq ?_; refine s_ops ?_; refine s_mov (by (conv => lhs; whnf); first | done | fail) ?_; refine s_mov (by (conv => lhs; whnf); first | done | fail) ?_; (first | (refine s_idxRn (by (conv => lhs; whnf); first | done | fail) rfl hx2 (map_get icell xs 0 (by omega)) ?_; intro b1 o1 hat1 hG1) | (refine s_idxS (by (conv => lhs; whnf); first | done | fail) rfl hs2 (by omega) (by omega) ?_; intro b2 o2 hel2) | (refine s_idxS (by (conv => lhs; whnf); first | done | fail) rfl (by assumption) (by omega) (by omega) ?_; intro b1 o1 hel1)); (first | (refine s_loadA rfl (by assumption) rfl ?_) | (refine s_loadS rfl (by assumption) (map_get bcell _ false (by omega)) rfl ?_) | (refine s_loadb rfl (by assumption) (by rfl) ?_)); refine s_nil ?_; (repeat (first | refine s_then ?_ | refine s_blockN ?_)))
      refine s_cond rfl (fun hc => ?_) (fun hc => ?_)
      · skip
        all_goals (refine s_seq ?_; refine s_ops ?_; refine s_mov (by (conv => lhs; whnf); first | done | fail) ?_; refine s_nil ?_; (repeat (first | refine s_then ?_ | refine s_blockN ?_)); refine s_ret ?_; (repeat (first | refine s_retT ?_ | refine s_retB ?_)); refine q_ret1 (by (conv => lhs; whnf); first | done | fail) ?_; (first | (refine ⟨_, rfl, ?_, hf⟩; rw [hgo, if_neg (by simpa using hc)]) | (refine ⟨_, rfl, ?_, hf⟩; rw [hgo, if_pos]; rw [hsg] at hc; simpa using hc) | (refine ⟨_, rfl, ?_, hf.then0 hf5⟩; rw [hgo, if_pos (by omega)]) | (refine ⟨_, rfl, ?_, hf.then0 hf5⟩; rw [hgo, if_neg (by omega)])))
      · skip
        all_goals (refine s_skip ?_; (repeat (first | refine s_then ?_ | refine s_blockN ?_)); refine s_ops ?_; refine s_mov (by (conv => lhs; whnf); first | done | fail) ?_; refine s_mov (by (conv => lhs; whnf); first | done | fail) ?_; (first | (refine s_idxRn (by (conv => lhs; whnf); first | done | fail) rfl hx2 (map_get icell xs 0 (by omega)) ?_; intro b1 o1 hat1 hG1) | (refine s_idxS (by (conv => lhs; whnf); first | done | fail) rfl hs2 (by omega) (by omega) ?_; intro b2 o2 hel2) | (refine s_idxS (by (conv => lhs; whnf); first | done | fail) rfl (by assumption) (by omega) (by omega) ?_; intro b1 o1 hel1)); (first | (refine s_storeS rfl (by (conv => lhs; whnf); first | done | fail) (by assumption) (map_get bcell _ false (by omega)) (by omega) rfl ?_; intro w4 hf4 hz4 hel4) | (refine s_storeV rfl (by (conv => lhs; whnf); first | done | fail) (by assumption) (by simp) (by first | rfl | assumption) (by rfl) ?_; intro w1 hfr1 hsz1 hblk1)); refine s_nil ?_; (repeat (first | refine s_then ?_ | refine s_blockN ?_)); refine s_ops ?_; (first | (refine s_add rfl rfl (by omega) (by omega) ?_) | (refine s_addw rfl rfl ?_)); refine s_mov (by (conv => lhs; whnf); first | done | fail) ?_; refine s_nil ?_; (repeat (first | refine s_then ?_ | refine s_blockN ?_)); refine ⟨⟨i + 1, ⟨rfl, rfl, rfl, rfl, rfl, rfl, trivial⟩, by omega, ?_, fr_fresh hf (fun b hb => Nat.le_of_eq hb.symm) hf4, ?_⟩, meas_lt (by omega)⟩; (rw [take_succ_getD 0 (by omega), ← seenB_set (by omega), ← map_set]; exact hel4.sl); rw [hgo, take_succ_getD 0 (by omega), if_neg]; rw [hsg] at hc; simpa using hc)
  · skip
    all_goals (refine s_exit ?_; (repeat (first | refine s_exitQ ?_ | refine s_exitT ?_ | refine s_exitB rfl ?_ | refine s_then ?_ | refine s_blockN ?_)); refine s_seq ?_; refine s_seq ?_; refine s_ops ?_; refine s_mov (by (conv => lhs; whnf); first | done | fail) ?_; (first | (refine s_lenR (by (conv => lhs; whnf); first | done | fail) (by assumption) ?_) | (refine s_lenS (by (conv => lhs; whnf); first | done | fail) (by assumption) ?_) | (refine s_len rfl ?_)); refine s_mov (by (conv => lhs; whnf); first | done | fail) ?_; refine s_rets rfl (list_c h2 hl) ?_; rintro v5 w5 ⟨F5, hs5, hf5, hl5⟩; (first | (refine s_lenR (by (conv => lhs; whnf); first | done | fail) (by assumption) ?_) | (refine s_lenS (by (conv => lhs; whnf); first | done | fail) (by assumption) ?_) | (refine s_len rfl ?_)))
    all_goals (first | (refine s_lss_t rfl rfl (by omega) ?_) | (refine s_lss_f rfl rfl (by omega) ?_) | (refine s_lss_s rfl rfl (fun hc => ?_) (fun hc => ?_)))
    all_goals (refine s_nil ?_; (repeat (first | refine s_then ?_ | refine s_blockN ?_)); have hl6 : ((listB l).map icell).length = (listB l).length := List.length_map _; have hie : i = xs.length := (by omega); subst hie; rw [List.take_length, List.drop_length, passGo] at hgo)
    all_goals
      first
      | (refine s_cond_t rfl ?_
         all_goals (refine s_seq ?_; refine s_ops ?_; refine s_mov (by (conv => lhs; whnf); first | done | fail) ?_; refine s_nil ?_; (repeat (first | refine s_then ?_ | refine s_blockN ?_)); refine s_ret ?_; (repeat (first | refine s_retT ?_ | refine s_retB ?_)); refine q_ret1 (by (conv => lhs; whnf); first | done | fail) ?_)
         all_goals (first | (refine ⟨_, rfl, ?_, hf⟩; rw [hgo, if_neg (by simpa using hc)]) | (refine ⟨_, rfl, ?_, hf⟩; rw [hgo, if_pos]; rw [hsg] at hc; simpa using hc) | (refine ⟨_, rfl, ?_, hf.then0 hf5⟩; rw [hgo, if_pos (by omega)]) | (refine ⟨_, rfl, ?_, hf.then0 hf5⟩; rw [hgo, if_neg (by omega)])))
      | (refine s_cond_f rfl ?_
         all_goals (refine s_skip ?_; (repeat (first | refine s_then ?_ | refine s_blockN ?_))))
    all_goals (refine s_seq ?_; refine s_ops ?_; refine s_mov (by (conv => lhs; whnf); first | done | fail) ?_; refine s_nil ?_; (repeat (first | refine s_then ?_ | refine s_blockN ?_)); refine s_ret ?_; (repeat (first | refine s_retT ?_ | refine s_retB ?_)); refine q_ret1 (by (conv => lhs; whnf); first | done | fail) ?_; (first | (refine ⟨_, rfl, ?_, hf⟩; rw [hgo, if_neg (by simpa using hc)]) | (refine ⟨_, rfl, ?_, hf⟩; rw [hgo, if_pos]; rw [hsg] at hc; simpa using hc) | (refine ⟨_, rfl, ?_, hf.then0 hf5⟩; rw [hgo, if_pos (by omega)]) | (refine ⟨_, rfl, ?_, hf.then0 hf5⟩; rw [hgo, if_neg (by omega)])))

def rpassGo (l : List Bool) (xs0 seen : List Int) : List Int → Int
  | [] => if ∀ y ∈ listB l, y ∈ xs0 then 0 else 12
  | x :: xs => if hasB l x then if x ∈ seen then 13 else rpassGo l xs0 (seen ++ [x]) xs else 10

theorem rpass_c {p vx : Value} {F G : Nat → Prop} {l : List Bool} {xs : List Int} {w : World} (h : HeldR w.heap 37 p F l) (hl : l.length ≤ 16) (hx : SlR w.heap 1 vx G (xs.map icell)) (hxl : xs.length ≤ 9223372036854775807) :
    Rets Try.prog R_Holds_Pass [p, vx] w fun v w' => v = .int .i64 (rpassGo l xs [] xs) ∧ Fr NF w w' := by
  have hlex : (xs.map icell).length = xs.length := List.length_map _
  have hll : (listB l).length ≤ l.length := listTo_len l l.length
  refine R_Holds_Pass_in ?_
  unfold R_Holds_Pass_lc
  all_goals (refine s_seq ?_; refine s_ops ?_; refine s_mov (by (conv => lhs; whnf); first | done | fail) ?_; refine s_nil ?_; (repeat (first | refine s_then ?_ | refine s_blockN ?_)); refine s_seq ?_; refine s_seq ?_; refine s_ops ?_; refine s_mov (by (conv => lhs; whnf); first | done | fail) ?_; refine s_nil ?_; (repeat (first | refine s_then ?_ | refine s_blockN ?_)); refine s_block ?_)
  refine s_loop (fun ρ' w' => ∃ (i : Nat), Has ρ' [(0, p), (1, vx), (5, .int .i64 i)] ∧ i ≤ xs.length ∧ Fr NF w w' ∧ rpassGo l xs [] xs = rpassGo l xs (xs.take i) (xs.drop i)) (fun ρ' _ => (xs.length - iv (ρ' 5)).toNat) ?_ ?_
  · exact ⟨0, ⟨rfl, rfl, rfl, trivial⟩, Nat.zero_le _, Fr.refl _ _, rfl⟩
  rintro ρ w2 ⟨i, hρ, hi, hf, hgo⟩; obtain ⟨ρ, rfl⟩ := env_intro _ hρ; have h2 := h.fr hf (fun _ _ h => h); have hx2 := hx.fr0 hf
  unfold R_Holds_Pass_b2
  all_goals (refine s_seq ?_; refine s_seq ?_; refine s_ops ?_; refine s_mov (by (conv => lhs; whnf); first | done | fail) ?_; refine s_mov (by (conv => lhs; whnf); first | done | fail) ?_; (first | (refine s_lenR (by (conv => lhs; whnf); first | done | fail) (by assumption) ?_) | (refine s_lenS (by (conv => lhs; whnf); first | done | fail) hs5 ?_) | (refine s_lenS (by (conv => lhs; whnf); first | done | fail) (by assumption) ?_) | (refine s_len rfl ?_)); refine s_lss_d rfl rfl ?_; refine s_nil ?_; (repeat (first | refine s_then ?_ | refine s_blockN ?_)))
  refine s_cond_d rfl (fun hc => ?_) (fun hc => ?_)
  · skip
    all_goals (refine s_skip ?_; (repeat (first | refine s_then ?_ | refine s_blockN ?_)); refine s_seq ?_; refine s_block ?_; refine s_seq ?_; refine s_seq ?_; refine s_ops ?_; refine s_mov (by (conv => lhs; whnf); first | done | fail) ?_; refine s_mov (by (conv => lhs; whnf); first | done | fail) ?_; refine s_mov (by (conv => lhs; whnf); first | done | fail) ?_; (first | (refine s_idxRn (by (conv => lhs; whnf); first | done | fail) rfl hx2 (map_get icell xs 0 (by omega)) ?_; intro b1 o1 hat1 hG1) | (refine s_idxSn (by (conv => lhs; whnf); first | done | fail) rfl hs5 (by omega) ?_; intro b2 o2 hel2) | (refine s_idxS (by (conv => lhs; whnf); first | done | fail) rfl (by assumption) (by omega) (by omega) ?_; intro b1 o1 hel1)); (first | (refine s_loadA rfl (by assumption) rfl ?_) | (refine s_loadS rfl (by assumption) (map_get icell _ 0 (by omega)) rfl ?_) | (refine s_loadb rfl (by assumption) (by rfl) ?_)); refine s_rets rfl (rhas_c _ h2) ?_; rintro v3 w3 ⟨rfl, rfl⟩; rw [drop_getD 0 (by omega), rpassGo] at hgo; refine s_not rfl ?_; refine s_nil ?_; (repeat (first | refine s_then ?_ | refine s_blockN ?_)))
    refine s_cond rfl (fun hc => ?_) (fun hc => ?_)
    · skip
      all_goals (refine s_seq ?_; refine s_ops ?_; refine s_mov (by (conv => lhs; whnf); first | done | fail) ?_; refine s_nil ?_; (repeat (first | refine s_then ?_ | refine s_blockN ?_)); refine s_ret ?_; (repeat (first | refine s_retT ?_ | refine s_retB ?_)); refine q_ret1 (by (conv => lhs; whnf); first | done | fail) ?_; (first | (refine ⟨_, rfl, ?_, hf⟩; rw [hgo, if_neg (by simpa using hc)]) | (refine ⟨_, rfl, ?_, hf.drew'⟩; rw [hgo, if_pos hc]) | (refine ⟨_, rfl, ?_, hf6⟩; rw [hgo, if_neg]; intro ha; simp only [Bool.not_eq_true', decide_eq_false_iff_not] at hc; exact hc (ha _ (getD_mem (by omega)))) | (refine ⟨_, rfl, ?_, hf6⟩; rw [hgo, if_pos]; rw [show j = (listB l).length by omega, List.take_length] at hall; exact hall)))
    · skip
      all_goals (have hc1 : hasB l (xs.getD i 0) = true := (by simpa using hc); rw [if_pos hc1] at hgo; refine s_skip ?_; (repeat (first | refine s_then ?_ | refine s_blockN ?_)); refine s_seq ?_; refine s_draw [(0, none), (1, none), (2, none), (3, none), (4, none), (5, none), (6, none), (7, some none)] (by kernel_rfl) (by kernel_rfl) ?_; have hx2 := hx2.fr0 (Fr.drew' (Fr.refl NF _)); refine s_mov (by (conv => lhs; whnf); first | done | fail) ?_; refine s_mov (by (conv => lhs; whnf); first | done | fail) ?_; (first | (refine s_subR (by (conv => lhs; whnf); first | done | fail) hx2 rfl ⟨_, rfl⟩ rfl (by omega) (by omega) ?_; intro v4 hs4; rw [List.drop_zero, ← List.map_take] at hs4) | (refine s_subS (by (conv => lhs; whnf); first | done | fail) (by assumption) rfl ⟨_, rfl⟩ ⟨_, rfl⟩ (by omega) (by omega) ?_; intro v1 hsl1)); refine s_mov (by (conv => lhs; whnf); first | done | fail) ?_; refine s_mov (by (conv => lhs; whnf); first | done | fail) ?_; (first | (refine s_idxRn (by (conv => lhs; whnf); first | done | fail) rfl hx2 (map_get icell xs 0 (by omega)) ?_; intro b1 o1 hat1 hG1) | (refine s_idxSn (by (conv => lhs; whnf); first | done | fail) rfl hs5 (by omega) ?_; intro b2 o2 hel2) | (refine s_idxS (by (conv => lhs; whnf); first | done | fail) rfl (by assumption) (by omega) (by omega) ?_; intro b1 o1 hel1)); (first | (refine s_loadA rfl (by assumption) rfl ?_) | (refine s_loadS rfl (by assumption) (map_get icell _ 0 (by omega)) rfl ?_) | (refine s_loadb rfl (by assumption) (by rfl) ?_)); (first | (refine s_rets rfl (in_c _ hs4 (by rw [List.length_take]; omega)) ?_; rintro v3 w3 ⟨rfl, rfl⟩) | (refine s_rets rfl (in_c _ hx5 hxl) ?_; rintro v3 w3 ⟨rfl, rfl⟩)))
      all_goals (refine s_nil ?_; (repeat (first | refine s_then ?_ | refine s_blockN ?_)))
      refine s_cond_d rfl (fun hc => ?_) (fun hc => ?_)
      · skip
        all_goals (refine s_seq ?_; refine s_ops ?_; refine s_mov (by (conv => lhs; whnf); first | done | fail) ?_; refine s_nil ?_; (repeat (first | refine s_then ?_ | refine s_blockN ?_)); refine s_ret ?_; (repeat (first | refine s_retT ?_ | refine s_retB ?_)); refine q_ret1 (by (conv => lhs; whnf); first | done | fail) ?_; (first | (refine ⟨_, rfl, ?_, hf⟩; rw [hgo, if_neg (by simpa using hc)]) | (refine ⟨_, rfl, ?_, hf.drew'⟩; rw [hgo, if_pos hc]) | (refine ⟨_, rfl, ?_, hf6⟩; rw [hgo, if_neg]; intro ha; simp only [Bool.not_eq_true', decide_eq_false_iff_not] at hc; exact hc (ha _ (getD_mem (by omega)))) | (refine ⟨_, rfl, ?_, hf6⟩; rw [hgo, if_pos]; rw [show j = (listB l).length by omega, List.take_length] at hall; exact hall)))
      · skip
        all_goals (refine s_skip ?_; (repeat (first | refine s_then ?_ | refine s_blockN ?_)); refine s_ops ?_; refine s_mov (by (conv => lhs; whnf); first | done | fail) ?_; (first | (refine s_add rfl rfl (by omega) (by omega) ?_) | (refine s_addw rfl rfl ?_)); refine s_mov (by (conv => lhs; whnf); first | done | fail) ?_; refine s_nil ?_; (repeat (first | refine s_then ?_ | refine s_blockN ?_)); refine ⟨⟨i + 1, ⟨rfl, rfl, rfl, trivial⟩, by omega, hf.drew', ?_⟩, meas_lt (by omega)⟩; rw [hgo, take_succ_getD 0 (by omega), if_neg hc])
  · skip
    all_goals (refine s_exit ?_; (repeat (first | refine s_exitQ ?_ | refine s_exitT ?_ | refine s_exitB rfl ?_ | refine s_then ?_ | refine s_blockN ?_)); refine s_seq ?_; refine s_ops ?_; refine s_mov (by (conv => lhs; whnf); first | done | fail) ?_; refine s_rets rfl (rlist_c h2 hl) ?_; rintro v5 w5 ⟨F5, hs5, hf5, hl5⟩; have hx5 := hx2.fr0 hf5; have hf6 := hf.then0 hf5; have hie : i = xs.length := (by omega); subst hie; rw [List.take_length, List.drop_length, rpassGo] at hgo; refine s_mov (by (conv => lhs; whnf); first | done | fail) ?_; refine s_nil ?_; (repeat (first | refine s_then ?_ | refine s_blockN ?_)); refine s_seq ?_; refine s_seq ?_; refine s_ops ?_; refine s_mov (by (conv => lhs; whnf); first | done | fail) ?_; refine s_nil ?_; (repeat (first | refine s_then ?_ | refine s_blockN ?_)); refine s_block ?_)
    refine s_loop (fun ρ' w' => ∃ (j : Nat), Has ρ' [(1, vx), (6, v5), (7, .int .i64 j)] ∧ j ≤ (listB l).length ∧ w' = w5 ∧ ∀ y ∈ (listB l).take j, y ∈ xs) (fun ρ' _ => ((listB l).length - iv (ρ' 7)).toNat) ?_ ?_
    · exact ⟨0, ⟨rfl, rfl, rfl, trivial⟩, Nat.zero_le _, rfl, by simp⟩
    rintro ρ w2 ⟨j, hρ, hj, rfl, hall⟩; obtain ⟨ρ, rfl⟩ := env_intro _ hρ; have hl6 : ((listB l).map icell).length = (listB l).length := List.length_map _
    unfold R_Holds_Pass_b10
    all_goals (refine s_seq ?_; refine s_seq ?_; refine s_ops ?_; refine s_mov (by (conv => lhs; whnf); first | done | fail) ?_; refine s_mov (by (conv => lhs; whnf); first | done | fail) ?_; (first | (refine s_lenR (by (conv => lhs; whnf); first | done | fail) (by assumption) ?_) | (refine s_lenS (by (conv => lhs; whnf); first | done | fail) hs5 ?_) | (refine s_lenS (by (conv => lhs; whnf); first | done | fail) (by assumption) ?_) | (refine s_len rfl ?_)); refine s_lss_d rfl rfl ?_; refine s_nil ?_; (repeat (first | refine s_then ?_ | refine s_blockN ?_)))
    refine s_cond_d rfl (fun hc => ?_) (fun hc => ?_)
    · skip
      all_goals (refine s_skip ?_; (repeat (first | refine s_then ?_ | refine s_blockN ?_)); refine s_seq ?_; refine s_block ?_; refine s_seq ?_; refine s_ops ?_; refine s_mov (by (conv => lhs; whnf); first | done | fail) ?_; refine s_mov (by (conv => lhs; whnf); first | done | fail) ?_; refine s_mov (by (conv => lhs; whnf); first | done | fail) ?_; (first | (refine s_idxRn (by (conv => lhs; whnf); first | done | fail) rfl hx2 (map_get icell xs 0 (by omega)) ?_; intro b1 o1 hat1 hG1) | (refine s_idxSn (by (conv => lhs; whnf); first | done | fail) rfl hs5 (by omega) ?_; intro b2 o2 hel2) | (refine s_idxS (by (conv => lhs; whnf); first | done | fail) rfl (by assumption) (by omega) (by omega) ?_; intro b1 o1 hel1)); (first | (refine s_loadA rfl (by assumption) rfl ?_) | (refine s_loadS rfl (by assumption) (map_get icell _ 0 (by omega)) rfl ?_) | (refine s_loadb rfl (by assumption) (by rfl) ?_)); (first | (refine s_rets rfl (in_c _ hs4 (by rw [List.length_take]; omega)) ?_; rintro v3 w3 ⟨rfl, rfl⟩) | (refine s_rets rfl (in_c _ hx5 hxl) ?_; rintro v3 w3 ⟨rfl, rfl⟩)); refine s_not rfl ?_; refine s_nil ?_; (repeat (first | refine s_then ?_ | refine s_blockN ?_)))
      refine s_cond rfl (fun hc => ?_) (fun hc => ?_)
      · skip
        all_goals (refine s_seq ?_; refine s_ops ?_; refine s_mov (by (conv => lhs; whnf); first | done | fail) ?_; refine s_nil ?_; (repeat (first | refine s_then ?_ | refine s_blockN ?_)); refine s_ret ?_; (repeat (first | refine s_retT ?_ | refine s_retB ?_)); refine q_ret1 (by (conv => lhs; whnf); first | done | fail) ?_; (first | (refine ⟨_, rfl, ?_, hf⟩; rw [hgo, if_neg (by simpa using hc)]) | (refine ⟨_, rfl, ?_, hf.drew'⟩; rw [hgo, if_pos hc]) | (refine ⟨_, rfl, ?_, hf6⟩; rw [hgo, if_neg]; intro ha; simp only [Bool.not_eq_true', decide_eq_false_iff_not] at hc; exact hc (ha _ (getD_mem (by omega)))) | (refine ⟨_, rfl, ?_, hf6⟩; rw [hgo, if_pos]; rw [show j = (listB l).length by omega, List.take_length] at hall; exact hall)))
      · skip
        all_goals (refine s_skip ?_; (repeat (first | refine s_then ?_ | refine s_blockN ?_)); refine s_ops ?_; refine s_mov (by (conv => lhs; whnf); first | done | fail) ?_; (first | (refine s_add rfl rfl (by omega) (by omega) ?_) | (refine s_addw rfl rfl ?_)); refine s_mov (by (conv => lhs; whnf); first | done | fail) ?_; refine s_nil ?_; (repeat (first | refine s_then ?_ | refine s_blockN ?_)))
        all_goals (refine ⟨⟨j + 1, ⟨rfl, rfl, rfl, trivial⟩, by omega, rfl, ?_⟩, meas_lt (by omega)⟩; intro y hy; rw [take_succ_getD 0 (by omega), List.mem_append, List.mem_singleton] at hy; rcases hy with hy | rfl; (exact hall y hy); simp only [Bool.not_eq_false', decide_eq_true_eq] at hc; exact hc)
    · skip
      all_goals (refine s_exit ?_; (repeat (first | refine s_exitQ ?_ | refine s_exitT ?_ | refine s_exitB rfl ?_ | refine s_then ?_ | refine s_blockN ?_)); refine s_seq ?_; refine s_ops ?_; refine s_mov (by (conv => lhs; whnf); first | done | fail) ?_; refine s_nil ?_; (repeat (first | refine s_then ?_ | refine s_blockN ?_)); refine s_ret ?_; (repeat (first | refine s_retT ?_ | refine s_retB ?_)); refine q_ret1 (by (conv => lhs; whnf); first | done | fail) ?_; (first | (refine ⟨_, rfl, ?_, hf⟩; rw [hgo, if_neg (by simpa using hc)]) | (refine ⟨_, rfl, ?_, hf.drew'⟩; rw [hgo, if_pos hc]) | (refine ⟨_, rfl, ?_, hf6⟩; rw [hgo, if_neg]; intro ha; simp only [Bool.not_eq_true', decide_eq_false_iff_not] at hc; exact hc (ha _ (getD_mem (by omega)))) | (refine ⟨_, rfl, ?_, hf6⟩; rw [hgo, if_pos]; rw [show j = (listB l).length by omega, List.take_length] at hall; exact hall)))

/-! ### What both answer is the same -/

theorem mem_listB {l : List Bool} {x : Int} : x ∈ listB l ↔ hasB l x = true := by
  simp only [listB, listTo, List.mem_map, List.mem_filter, List.mem_range, hasB, Bool.and_eq_true, decide_eq_true_eq]
  constructor
  · rintro ⟨j, ⟨h1, h2⟩, rfl⟩
    exact ⟨⟨by simp, by simpa using h1⟩, by simpa using h2⟩
  · rintro ⟨⟨h0, h1⟩, h2⟩
    exact ⟨x.toNat, ⟨by omega, h2⟩, by simp; omega⟩
theorem nodup_listB (l : List Bool) : (listB l).Nodup := by
  unfold listB listTo
  unfold List.Nodup
  rw [List.pairwise_map]
  refine List.Pairwise.imp ?_ (List.Pairwise.filter _ (List.nodup_range (n := l.length)))
  intro a b h e; exact h (Int.ofNat.inj e)
theorem pass_same_go (l : List Bool) (xs : List Int) : ∀ (rest seen : List Int), seen ++ rest = xs → seen.Nodup → (∀ y ∈ seen, hasB l y = true) → passGo l seen rest = rpassGo l xs seen rest := by
  intro rest
  induction rest with
  | nil =>
    intro seen he hn hs
    rw [List.append_nil] at he; subst he
    simp only [passGo, rpassGo]
    have h1 : seen.length ≤ (listB l).length := nodup_len_le hn fun y hy => mem_listB.2 (hs y hy)
    by_cases h : ∀ y ∈ listB l, y ∈ seen
    · have := nodup_len_le (nodup_listB l) h
      rw [if_pos h, if_neg (by omega)]
    · rw [if_neg h, if_pos]
      simp only [Classical.not_forall] at h
      obtain ⟨y, hy, hn'⟩ := h
      have := nodup_len_le (a := y :: seen) (b := listB l) (List.nodup_cons.2 ⟨hn', hn⟩) (by
        intro z hz
        rcases List.mem_cons.1 hz with rfl | hz
        · exact hy
        · exact mem_listB.2 (hs z hz))
      simp only [List.length_cons] at this; omega
  | cons x rest ih =>
    intro seen he hn hs
    simp only [passGo, rpassGo]
    by_cases h1 : hasB l x = true
    · rw [if_pos h1, if_pos h1]
      by_cases h2 : x ∈ seen
      · rw [if_pos h2, if_pos h2]
      · rw [if_neg h2, if_neg h2]
        refine ih (seen ++ [x]) (by rw [List.append_assoc]; exact he) ?_ ?_
        · rw [List.nodup_append]
          exact ⟨hn, by simp, fun a ha b hb e => by simp at hb; subst hb; subst e; exact h2 ha⟩
        · intro y hy
          rcases List.mem_append.1 hy with hy | hy
          · exact hs y hy
          · simp at hy; subst hy; exact h1
    · rw [if_neg h1, if_neg h1]
theorem pass_same (l : List Bool) (xs : List Int) : passGo l [] xs = rpassGo l xs [] xs := pass_same_go l xs xs [] rfl List.nodup_nil (by simp)
theorem pass_list_go (l : List Bool) : ∀ (rest seen : List Int), seen ++ rest = listB l → passGo l seen rest = 0 := by
  intro rest
  induction rest with
  | nil => intro seen he; rw [List.append_nil] at he; subst he; simp [passGo]
  | cons x rest ih =>
    intro seen he
    have hx : x ∈ listB l := by rw [← he]; simp
    have hn := nodup_listB l
    rw [← he, List.nodup_append] at hn
    have h2 : x ∉ seen := fun h => hn.2.2 x h x (by simp) rfl
    rw [passGo, if_pos (mem_listB.1 hx), if_neg h2]
    exact ih _ (by rw [List.append_assoc]; exact he)
theorem pass_list (l : List Bool) : passGo l [] (listB l) = 0 := pass_list_go l _ _ rfl

/-! ### What is new -/

theorem new_c (n : Int) (w : World) : Rets Try.prog held_New [.int .i64 n] w fun v w' =>
    ∃ F, HeldR w'.heap 132 v F (List.replicate (min n 16).toNat true) ∧ Fr NF w w' ∧ ∀ b, F b → w.heap.size ≤ b := by
  refine held_New_in ?_
  unfold held_New_lc
  all_goals (refine s_seq ?_; refine s_ops ?_; refine s_mov (by (conv => lhs; whnf); first | done | fail) ?_; refine s_nil ?_; (repeat (first | refine s_then ?_ | refine s_blockN ?_)); refine s_seq ?_; refine s_ops ?_; refine s_build0 (cs := [_]) (by rfl) ?_; refine s_boxV (by (conv => lhs; whnf); first | done | fail) (by rfl) ?_; (first | (intro b1 w1 hb1 hf1 hz1 hk1) | (intro b1 w1 hb1 hfr1 hsz1 hblk1)); refine s_mov (by (conv => lhs; whnf); first | done | fail) ?_; refine s_nil ?_; (repeat (first | refine s_then ?_ | refine s_blockN ?_)); refine s_seq ?_; refine s_seq ?_; refine s_ops ?_; refine s_mov (by (conv => lhs; whnf); first | done | fail) ?_; refine s_min rfl rfl ?_; refine s_mov (by (conv => lhs; whnf); first | done | fail) ?_; refine s_nil ?_; (repeat (first | refine s_then ?_ | refine s_blockN ?_)); refine s_block ?_)
  refine s_loop (fun ρ' w' => ∃ (i : Nat) (v : Value) (F Fs : Nat → Prop), Has ρ' [(3, .pointer (some ⟨b1, 0, none⟩)), (7, .int .i64 (min n 16)), (8, .int .i64 i)] ∧ i ≤ (min n 16).toNat ∧ Obj1 w'.heap 132 4 1 (.pointer (some ⟨b1, 0, none⟩)) F ((List.replicate i true).map bcell) b1 v Fs ∧ Fr NF w w' ∧ ∀ b, F b → w.heap.size ≤ b) (fun ρ' _ => (min n 16 - iv (ρ' 8)).toNat) ?_ ?_
  · exact ⟨0, _, (· = b1), NF, ⟨rfl, rfl, rfl, trivial⟩, Nat.zero_le _, ⟨rfl, hk1, Sl.nil _ _ _, fun h => h, fun x => by simp⟩, hf1, fun b hb => by omega⟩
  rintro ρ w1 ⟨i, v, F, Fs, hρ, hi, ⟨_, hb, hs, hne, hF⟩, hf, hlow⟩; obtain ⟨ρ, rfl⟩ := env_intro _ hρ
  unfold held_New_b3
  all_goals (refine s_seq ?_; refine s_ops ?_; refine s_lss_d rfl rfl ?_; refine s_nil ?_; (repeat (first | refine s_then ?_ | refine s_blockN ?_)); refine s_seq ?_)
  refine s_cond_d rfl (fun hc => ?_) (fun hc => ?_)
  · skip
    all_goals (refine s_skip ?_; (repeat (first | refine s_then ?_ | refine s_blockN ?_)); refine s_seq ?_; refine s_block ?_; refine s_ops ?_; refine s_mov (by (conv => lhs; whnf); first | done | fail) ?_; refine s_mov (by (conv => lhs; whnf); first | done | fail) ?_; refine s_nilc rfl ?_; (first | refine s_fld0 rfl ?_ | refine s_fld rfl ?_); refine s_loadb rfl (by assumption) (by rfl) ?_; refine s_buildS1 (cs := [_]) (by (conv => lhs; whnf); first | done | fail) (by rfl) ?_; (first | (intro b2 w2 hb2 hf2 hz2 hk2; have hb2' := hb.fr0 hf2; have hs2 := hs.fr0 hf2) | (intro b1 w1 hb1 hfr1 hsz1 hblk1)); refine s_app el_bool (.inl u_bools) (by (conv => lhs; whnf); first | done | fail) (by (conv => lhs; whnf); first | done | fail) hs2 (src_one hk2 rfl) (by simp; omega) ?_; intro v3 w3 ha; have ha' := ha; obtain ⟨Fs3, hs3, hf3, hsub3⟩ := ha'; have hb3 := hb2'.fr hf3 hne; have ho3 := hs3.oneC; refine s_nilc rfl ?_; (first | refine s_fld0 rfl ?_ | refine s_fld rfl ?_); (first | (refine s_storeV rfl (by (conv => lhs; whnf); first | done | fail) hb3 (by simp) ho3 (by rfl) ?_; intro w4 hf4 hz4 hb4; obtain ⟨F', Fs', ho, hst⟩ := obj1_app hb hs hne hF hf2 ha hf4 hb4) | (refine s_storeV rfl (by (conv => lhs; whnf); first | done | fail) (by assumption) (by simp) (by first | rfl | assumption) (by rfl) ?_; intro w1 hfr1 hsz1 hblk1)); refine s_nil ?_; (repeat (first | refine s_then ?_ | refine s_blockN ?_)); refine s_ops ?_; (first | (refine s_add rfl rfl (by omega) (by omega) ?_) | (refine s_addw rfl rfl ?_)); refine s_mov (by (conv => lhs; whnf); first | done | fail) ?_; refine s_nil ?_; (repeat (first | refine s_then ?_ | refine s_blockN ?_)))
    all_goals (refine ⟨⟨i + 1, v3, F', Fs', ⟨rfl, rfl, rfl, trivial⟩, by omega, by rw [List.replicate_succ', List.map_append]; exact ho, fr_fresh hf hlow hst.fr, fun b hb => ?_⟩, meas_lt (by omega)⟩; rcases hst.sub b hb with h | h; (exact hlow b h); exact Nat.le_trans hf.size h)
  · skip
    all_goals (refine s_exit ?_; (repeat (first | refine s_exitQ ?_ | refine s_exitT ?_ | refine s_exitB rfl ?_ | refine s_then ?_ | refine s_blockN ?_)); refine s_seq ?_; refine s_ops ?_; refine s_mov (by (conv => lhs; whnf); first | done | fail) ?_; refine s_mov (by (conv => lhs; whnf); first | done | fail) ?_; refine s_nil ?_; (repeat (first | refine s_then ?_ | refine s_blockN ?_)); refine s_ret ?_; (repeat (first | refine s_retT ?_ | refine s_retB ?_)); refine q_ret1 (by (conv => lhs; whnf); first | done | fail) ?_; refine ⟨_, rfl, F, ⟨b1, v, Fs, ?_⟩, hf, hlow⟩; rw [show (min n 16).toNat = i by omega]; exact ⟨rfl, hb, hs, hne, hF⟩)
theorem rnew_c (n : Int) (w : World) : Rets Try.prog R_NewHolds [.int .i64 n] w fun v w' =>
    ∃ F, HeldR w'.heap 37 v F (List.replicate (min n 16).toNat true) ∧ Fr NF w w' ∧ ∀ b, F b → w.heap.size ≤ b := by
  refine R_NewHolds_in ?_
  unfold R_NewHolds_lc
  all_goals (refine s_seq ?_; refine s_ops ?_; refine s_mov (by (conv => lhs; whnf); first | done | fail) ?_; refine s_nil ?_; (repeat (first | refine s_then ?_ | refine s_blockN ?_)); refine s_seq ?_; refine s_ops ?_; refine s_build0 (cs := [_]) (by rfl) ?_; refine s_boxV (by (conv => lhs; whnf); first | done | fail) (by rfl) ?_; (first | (intro b1 w1 hb1 hf1 hz1 hk1) | (intro b1 w1 hb1 hfr1 hsz1 hblk1)); refine s_mov (by (conv => lhs; whnf); first | done | fail) ?_; refine s_nil ?_; (repeat (first | refine s_then ?_ | refine s_blockN ?_)); refine s_seq ?_; refine s_seq ?_; refine s_ops ?_; refine s_mov (by (conv => lhs; whnf); first | done | fail) ?_; refine s_nil ?_; (repeat (first | refine s_then ?_ | refine s_blockN ?_)); refine s_block ?_)
  refine s_loop (fun ρ' w' => ∃ (i : Nat) (v : Value) (F Fs : Nat → Prop), Has ρ' [(0, .int .i64 n), (3, .pointer (some ⟨b1, 0, none⟩)), (4, .int .i64 i)] ∧ i ≤ (min n 16).toNat ∧ Obj1 w'.heap 37 4 1 (.pointer (some ⟨b1, 0, none⟩)) F ((List.replicate i true).map bcell) b1 v Fs ∧ Fr NF w w' ∧ ∀ b, F b → w.heap.size ≤ b) (fun ρ' _ => (min n 16 - iv (ρ' 4)).toNat) ?_ ?_
  · exact ⟨0, _, (· = b1), NF, ⟨rfl, rfl, rfl, trivial⟩, Nat.zero_le _, ⟨rfl, hk1, Sl.nil _ _ _, fun h => h, fun x => by simp⟩, hf1, fun b hb => by omega⟩
  rintro ρ w1 ⟨i, v, F, Fs, hρ, hi, ⟨_, hb, hs, hne, hF⟩, hf, hlow⟩; obtain ⟨ρ, rfl⟩ := env_intro _ hρ
  unfold R_NewHolds_b3
  all_goals (refine s_seq ?_; refine s_seq ?_; refine s_ops ?_; refine s_mov (by (conv => lhs; whnf); first | done | fail) ?_; refine s_mov (by (conv => lhs; whnf); first | done | fail) ?_)
  all_goals (first | (refine s_lss_t rfl rfl (by omega) ?_) | (refine s_lss_f rfl rfl (by omega) ?_) | (refine s_lss_s rfl rfl (fun hc => ?_) (fun hc => ?_)))
  all_goals (refine s_mov (by (conv => lhs; whnf); first | done | fail) ?_; (first | (refine s_gy rfl ?_; refine s_mov (by (conv => lhs; whnf); first | done | fail) ?_) | refine s_gn rfl rfl ?_))
  all_goals (first | (refine s_gy rfl ?_; (first | (refine s_lss_t rfl rfl (by omega) ?_) | (refine s_lss_f rfl rfl (by omega) ?_) | (refine s_lss_s rfl rfl (fun hc => ?_) (fun hc => ?_)))) | refine s_gn rfl rfl ?_)
  all_goals ((first | refine s_pick_t rfl (by (conv => lhs; whnf); first | done | fail) ?_ | refine s_pick_f rfl (by (conv => lhs; whnf); first | done | fail) ?_); refine s_nil ?_; (repeat (first | refine s_then ?_ | refine s_blockN ?_)))
  all_goals
    first
    | (refine s_cond_t rfl ?_
       all_goals (refine s_skip ?_; (repeat (first | refine s_then ?_ | refine s_blockN ?_)); refine s_seq ?_; refine s_block ?_; refine s_ops ?_; refine s_mov (by (conv => lhs; whnf); first | done | fail) ?_; refine s_mov (by (conv => lhs; whnf); first | done | fail) ?_; refine s_nilc rfl ?_; (first | refine s_fld0 rfl ?_ | refine s_fld rfl ?_); refine s_loadb rfl (by assumption) (by rfl) ?_; refine s_buildS1 (cs := [_]) (by (conv => lhs; whnf); first | done | fail) (by rfl) ?_; (first | (intro b2 w2 hb2 hf2 hz2 hk2; have hb2' := hb.fr0 hf2; have hs2 := hs.fr0 hf2) | (intro b1 w1 hb1 hfr1 hsz1 hblk1)); refine s_app el_bool (.inl u_bools) (by (conv => lhs; whnf); first | done | fail) (by (conv => lhs; whnf); first | done | fail) hs2 (src_one hk2 rfl) (by simp; omega) ?_; intro v3 w3 ha; have ha' := ha; obtain ⟨Fs3, hs3, hf3, hsub3⟩ := ha'; have hb3 := hb2'.fr hf3 hne; have ho3 := hs3.oneC; refine s_nilc rfl ?_; (first | refine s_fld0 rfl ?_ | refine s_fld rfl ?_); (first | (refine s_storeV rfl (by (conv => lhs; whnf); first | done | fail) hb3 (by simp) ho3 (by rfl) ?_; intro w4 hf4 hz4 hb4; obtain ⟨F', Fs', ho, hst⟩ := obj1_app hb hs hne hF hf2 ha hf4 hb4) | (refine s_storeV rfl (by (conv => lhs; whnf); first | done | fail) (by assumption) (by simp) (by first | rfl | assumption) (by rfl) ?_; intro w1 hfr1 hsz1 hblk1)); refine s_nil ?_; (repeat (first | refine s_then ?_ | refine s_blockN ?_)); refine s_ops ?_; refine s_mov (by (conv => lhs; whnf); first | done | fail) ?_; (first | (refine s_add rfl rfl (by omega) (by omega) ?_) | (refine s_addw rfl rfl ?_)); refine s_mov (by (conv => lhs; whnf); first | done | fail) ?_)
       all_goals (refine s_nil ?_; (repeat (first | refine s_then ?_ | refine s_blockN ?_)))
       all_goals (refine ⟨⟨i + 1, v3, F', Fs', ⟨rfl, rfl, rfl, trivial⟩, by omega, by rw [List.replicate_succ', List.map_append]; exact ho, fr_fresh hf hlow hst.fr, fun b hb => ?_⟩, meas_lt (by omega)⟩; rcases hst.sub b hb with h | h; (exact hlow b h); exact Nat.le_trans hf.size h))
    | (refine s_cond_f rfl ?_
       all_goals (refine s_exit ?_; (repeat (first | refine s_exitQ ?_ | refine s_exitT ?_ | refine s_exitB rfl ?_ | refine s_then ?_ | refine s_blockN ?_)); refine s_seq ?_; refine s_ops ?_; refine s_mov (by (conv => lhs; whnf); first | done | fail) ?_; refine s_mov (by (conv => lhs; whnf); first | done | fail) ?_; refine s_nil ?_; (repeat (first | refine s_then ?_ | refine s_blockN ?_)); refine s_ret ?_; (repeat (first | refine s_retT ?_ | refine s_retB ?_)); refine q_ret1 (by (conv => lhs; whnf); first | done | fail) ?_)
       all_goals (refine ⟨_, rfl, F, ⟨b1, v, Fs, ?_⟩, hf, hlow⟩; rw [show (min n 16).toNat = i by omega]; exact ⟨rfl, hb, hs, hne, hF⟩))
end Go.Proofs.Ytocllfbfogcbgaa
