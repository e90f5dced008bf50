/- Steps of a walk over lowered code. -/
import Derived.Test.YthdkbdnbflkagaaGreatDoorLirMem
namespace Go.Lir

def updl (ρ : Env) : List (Nat × Value) → Env
  | [] => ρ
  | (i, v) :: l => upd (updl ρ l) i v
def Has (ρ : Env) : List (Nat × Value) → Prop
  | [] => True
  | (i, v) :: l => ρ i = v ∧ Has ρ l

theorem upd_self {ρ : Env} {i : Nat} {v : Value} (h : ρ i = v) : upd ρ i v = ρ := by
  funext j
  unfold upd
  cases hb : Nat.beq j i
  · rfl
  · have := Nat.eq_of_beq_eq_true hb; subst this; exact h.symm
theorem updl_self {ρ : Env} : ∀ {l : List (Nat × Value)}, Has ρ l → updl ρ l = ρ := by
  intro l
  induction l with
  | nil => intro _; rfl
  | cons p l ih => obtain ⟨i, v⟩ := p; rintro ⟨h1, h2⟩; simp only [updl, ih h2, upd_self h1]
theorem env_intro {ρ : Env} (l : List (Nat × Value)) (h : Has ρ l) : ∃ ρ', ρ = updl ρ' l := ⟨ρ, (updl_self h).symm⟩

theorem wrap_i64 {n : Int} (h1 : -9223372036854775808 ≤ n) (h2 : n ≤ 9223372036854775807) : IntKind.i64.wrap n = n := by
  have e : IntKind.i64.wrap n = if n % 18446744073709551616 ≥ 9223372036854775808 then n % 18446744073709551616 - 18446744073709551616 else n % 18446744073709551616 := by
    unfold IntKind.wrap
    simp [IntKind.bits, IntKind.signed]
  rw [e]
  split <;> omega

section
variable {P : Program} {l : List GO} {Q : QT} {K : KT} {ρ : Env} {w : World}

theorem s_nil (h : Q .normal ρ w) : opsWp P [] Q ρ w := h
theorem s_ops {l : List GO} (h : opsWp P l Q ρ w) : (LC.ops l).wp P Q ρ w := h
theorem s_seq {a b : LC} (h : a.wp P (thenQ (b.wp P Q) Q) ρ w) : (LC.seq a b).wp P Q ρ w := h
theorem s_skip (h : Q .normal ρ w) : LC.skip.wp P Q ρ w := h
theorem s_ret (h : Q .ret ρ w) : LC.ret.wp P Q ρ w := h
theorem s_exit {id : Nat} (h : Q (.exit id) ρ w) : (LC.exit id).wp P Q ρ w := h
theorem s_block {id : Nat} {a : LC} (h : a.wp P (blockQ id Q) ρ w) : (LC.block id a).wp P Q ρ w := h
theorem s_cond {c : Operand} {a b : LC} {t : Bool} (hc : ρ.ev c = .bool t) (h1 : t = true → a.wp P Q ρ w) (h2 : t = false → b.wp P Q ρ w) : (LC.cond c a b).wp P Q ρ w := by
  refine ⟨t, hc, ?_⟩
  cases t
  · exact h2 rfl
  · exact h1 rfl
theorem s_cond_t {c : Operand} {a b : LC} (hc : ρ.ev c = .bool true) (h : a.wp P Q ρ w) : (LC.cond c a b).wp P Q ρ w := ⟨true, hc, h⟩
theorem s_cond_f {c : Operand} {a b : LC} (hc : ρ.ev c = .bool false) (h : b.wp P Q ρ w) : (LC.cond c a b).wp P Q ρ w := ⟨false, hc, h⟩
theorem s_cond_d {c : Operand} {a b : LC} {p : Prop} [Decidable p] (hc : ρ.ev c = .bool (decide p)) (h1 : p → a.wp P Q ρ w) (h2 : ¬ p → b.wp P Q ρ w) : (LC.cond c a b).wp P Q ρ w :=
  s_cond hc (fun h => h1 (of_decide_eq_true h)) (fun h => h2 (of_decide_eq_false h))
theorem s_loop {a : LC} (I : Env → World → Prop) (μ : Env → World → Nat) (h0 : I ρ w) (h : ∀ ρ w, I ρ w → a.wp P (thenQ (fun ρ' w' => I ρ' w' ∧ μ ρ' w' < μ ρ w) Q) ρ w) : (LC.loop a).wp P Q ρ w :=
  ⟨I, μ, h0, h⟩

theorem q_ret0 {R : Ending → World → Prop} (h : R (.returned (.tuple #[])) w) : retQ P [] R .ret ρ w := h
theorem q_ret1 {t : Nat} {R : Ending → World → Prop} {v : Value} (hv : ρ t = v) (h : R (.returned v) w) : retQ P [.tmp t] R .ret ρ w := by subst hv; exact h
theorem q_ret2 {t u : Nat} {R : Ending → World → Prop} {v v' : Value} (hv : ρ t = v) (hv' : ρ u = v') (h : R (.returned (.tuple #[v, v'])) w) : retQ P [.tmp t, .tmp u] R .ret ρ w := by subst hv hv'; exact h
theorem q_end0 {R : Ending → World → Prop} (h : R (.returned (.tuple #[])) w) : retQ P [] R .normal ρ w := h
/-- A result in memory. -/
theorem q_retc {a T : Nat} {R : Ending → World → Prop} {b o : Nat} {v : Value} (ha : ρ a = .pointer (some ⟨b, o, none⟩)) (hv : Holds P w ⟨b, o, none⟩ T v) (h : R (.returned v) w) : retQ P [.cell a T] R .ret ρ w := ⟨_, v, ha, hv, h⟩
theorem q_ret1c {t a T : Nat} {R : Ending → World → Prop} {b o : Nat} {u v : Value} (hu : ρ t = u) (ha : ρ a = .pointer (some ⟨b, o, none⟩)) (hv : Holds P w ⟨b, o, none⟩ T v) (h : R (.returned (.tuple #[u, v])) w) : retQ P [.tmp t, .cell a T] R .ret ρ w := by
  subst hu; exact ⟨_, v, ha, hv, h⟩
theorem q_retc1 {t a T : Nat} {R : Ending → World → Prop} {b o : Nat} {u v : Value} (ha : ρ a = .pointer (some ⟨b, o, none⟩)) (hv : Holds P w ⟨b, o, none⟩ T v) (hu : ρ t = u) (h : R (.returned (.tuple #[v, u])) w) : retQ P [.cell a T, .tmp t] R .ret ρ w := by
  subst hu; exact ⟨_, v, ha, hv, h⟩
theorem holds_blk {b o T n : Nat} {T' : TypeId} {cs vs : List Value} (ha : aggT P T = true) (hn : sizeT P T = some n) (hb : Blk w.heap b T' cs) (hv : (cs.drop o).take n = vs) (hl : vs.length = n) : Holds P w ⟨b, o, none⟩ T (.agg ⟨vs⟩) :=
  .inr ⟨ha, n, vs, hn, hb.cells hv hl, rfl⟩

theorem s_then {K : KT} (h : K ρ w) : thenQ K Q .normal ρ w := h
/-- Out of a block: at its end, by its own exit, by another exit, back. -/
theorem s_blockN {id : Nat} (h : Q .normal ρ w) : blockQ id Q .normal ρ w := h
theorem s_exitQ {id : Nat} (h : Q .normal ρ w) : blockQ id Q (.exit id) ρ w := by simp only [blockQ, if_true]; exact h
theorem s_exitT {id : Nat} {K : KT} (h : Q (.exit id) ρ w) : thenQ K Q (.exit id) ρ w := h
theorem s_retT {K : KT} (h : Q .ret ρ w) : thenQ K Q .ret ρ w := h
theorem s_retB {id : Nat} (h : Q .ret ρ w) : blockQ id Q .ret ρ w := h
theorem s_exitB {id id' : Nat} (hne : Nat.beq id' id = false) (h : Q (.exit id') ρ w) : blockQ id Q (.exit id') ρ w := by
  have : id' ≠ id := by rintro rfl; simp at hne
  simp only [blockQ, if_neg this]; exact h

/-- A guarded operation: wanted; not wanted. -/
theorem s_gy {s : Nat} {b : Bool} {o : LO} (hg : ρ s = .bool b) (h : opsWp P (⟨none, o⟩ :: l) Q ρ w) : opsWp P (⟨some (s, b), o⟩ :: l) Q ρ w := by
  simp only [opsWp, hg, wants, beq_self_eq_true, if_true]; exact h
theorem s_gn {s : Nat} {b : Bool} {o : LO} {v : Value} (hg : ρ s = v) (hw : wants v b = false) (h : opsWp P l Q (updo ρ o.dst undef) w) : opsWp P (⟨some (s, b), o⟩ :: l) Q ρ w := by
  simp only [opsWp, hg, hw]; exact h

theorem s_mov {d : Nat} {x : Operand} {v : Value} (hx : ρ.ev x = v) (h : opsWp P l Q (upd ρ d v) w) : opsWp P (⟨none, .mov d x⟩ :: l) Q ρ w := by
  subst hx; exact h
theorem s_pick_t {d : Nat} {c x y : Operand} {v : Value} (hc : ρ.ev c = .bool true) (hx : ρ.ev x = v) (h : opsWp P l Q (upd ρ d v) w) : opsWp P (⟨none, .pick d c x y⟩ :: l) Q ρ w := by
  subst hx; exact ⟨true, hc, h⟩
theorem s_pick_f {d : Nat} {c x y : Operand} {v : Value} (hc : ρ.ev c = .bool false) (hx : ρ.ev y = v) (h : opsWp P l Q (upd ρ d v) w) : opsWp P (⟨none, .pick d c x y⟩ :: l) Q ρ w := by
  subst hx; exact ⟨false, hc, h⟩
theorem s_not {d : Nat} {x : Operand} {b : Bool} (hx : ρ.ev x = .bool b) (h : opsWp P l Q (upd ρ d (.bool (!b))) w) : opsWp P (⟨none, .un d .not x⟩ :: l) Q ρ w :=
  ⟨_, fun w0 => by rw [hx]; rfl, h⟩
theorem s_neg {d : Nat} {x : Operand} {k : IntKind} {n : Int} (hx : ρ.ev x = .int k n) (h : opsWp P l Q (upd ρ d (.int k (k.wrap (0 - n)))) w) : opsWp P (⟨none, .un d .neg x⟩ :: l) Q ρ w :=
  ⟨_, fun w0 => by rw [hx]; rfl, h⟩
theorem s_nilc {d : Nat} {x : Operand} {a : Addr} (hx : ρ.ev x = .pointer (some a)) (h : opsWp P l Q (upd ρ d (.pointer (some a))) w) : opsWp P (⟨none, .nilc d x⟩ :: l) Q ρ w := ⟨a, hx, h⟩
theorem s_fld {d : Nat} {x : Operand} {off b o : Nat} (hx : ρ.ev x = .pointer (some ⟨b, o, none⟩)) (h : opsWp P l Q (upd ρ d (.pointer (some ⟨b, o + off, none⟩))) w) : opsWp P (⟨none, .fld d x off⟩ :: l) Q ρ w :=
  ⟨_, hx, by rw [add_addr]; exact h⟩
theorem s_load {d : Nat} {x : Operand} {b o : Nat} {v : Value} (hx : ρ.ev x = .pointer (some ⟨b, o, none⟩)) (hv : w.cell? ⟨b, o, none⟩ = some v) (h : opsWp P l Q (upd ρ d v) w) : opsWp P (⟨none, .load1 d x⟩ :: l) Q ρ w := ⟨_, v, hx, hv, h⟩
theorem s_loadb {d : Nat} {x : Operand} {b o : Nat} {v : Value} {T : TypeId} {cs : List Value} (hx : ρ.ev x = .pointer (some ⟨b, o, none⟩)) (hb : Blk w.heap b T cs) (hv : cs[o]? = some v) (h : opsWp P l Q (upd ρ d v) w) :
    opsWp P (⟨none, .load1 d x⟩ :: l) Q ρ w := ⟨_, v, hx, hb.cell hv, h⟩
theorem s_loadn {d n : Nat} {x : Operand} {b o : Nat} {T : TypeId} {cs vs : List Value} (hx : ρ.ev x = .pointer (some ⟨b, o, none⟩)) (hb : Blk w.heap b T cs) (hv : (cs.drop o).take n = vs) (hl : vs.length = n)
    (h : opsWp P l Q (upd ρ d (.agg ⟨vs⟩)) w) : opsWp P (⟨none, .loadn d n x⟩ :: l) Q ρ w := ⟨_, vs, hx, hb.cells hv hl, h⟩
theorem s_loadc {d n : Nat} {x : Operand} {a : Addr} {vs : List Value} (hx : ρ.ev x = .pointer (some a)) (hc : cellsAt w a n vs)
    (h : opsWp P l Q (upd ρ d (.agg ⟨vs⟩)) w) : opsWp P (⟨none, .loadn d n x⟩ :: l) Q ρ w := ⟨_, vs, hx, hc, h⟩
theorem s_store {x y : Operand} {b o : Nat} {T : TypeId} {cs : List Value} {v : Value} (hx : ρ.ev x = .pointer (some ⟨b, o, none⟩)) (hy : ρ.ev y = v) (hb : Blk w.heap b T cs) (hi : o < cs.length) (ho : oneC v = true)
    (h : ∀ w', Fr (· = b) w w' → w'.heap.size = w.heap.size → Blk w'.heap b T (cs.set o v) → opsWp P l Q ρ w') : opsWp P (⟨none, .store1 x y⟩ :: l) Q ρ w := by
  subst hy
  exact ⟨_, _, hx, hb.cell (List.getElem?_eq_getElem hi), hb.free hi, ho, h _ (fr_setCell w b o _) (by simp) hb.set⟩
theorem s_storen {n : Nat} {x y : Operand} {b o : Nat} {T : TypeId} {cs vs : List Value} (hx : ρ.ev x = .pointer (some ⟨b, o, none⟩)) (hy : ρ.ev y = .agg ⟨vs⟩) (hn : vs.length = n) (hb : Blk w.heap b T cs) (hi : o + n ≤ cs.length)
    (ho : ∀ v ∈ vs, oneC v = true) (h : ∀ w', Fr (· = b) w w' → w'.heap.size = w.heap.size → Blk w'.heap b T (cs.take o ++ (vs ++ cs.drop (o + n))) → opsWp P l Q ρ w') : opsWp P (⟨none, .storen n x y⟩ :: l) Q ρ w := by
  subst hn
  obtain ⟨w', h1, h2, h3, h4⟩ := storeCells_blk P b T vs w cs o 0 hb (by omega) ho
  exact ⟨_, _, w', hx, hy, rfl, h1, h _ h2 h3 h4⟩
theorem s_idx {d es : Nat} {x i : Operand} {b o len cap : Nat} {k : IntKind} {n : Int} (hx : ρ.ev x = .slice (some ⟨b, o, none⟩) len cap) (hi : ρ.ev i = .int k n) (h0 : 0 ≤ n) (h1 : n < len)
    (h : opsWp P l Q (upd ρ d (.pointer (some ⟨b, o + n.toNat * es, none⟩))) w) : opsWp P (⟨none, .idx d es x i⟩ :: l) Q ρ w :=
  ⟨_, len, cap, k, n, hx, hi, h0, h1, by rw [add_addr]; exact h⟩
theorem s_idxa {d m es : Nat} {x i : Operand} {b o : Nat} {k : IntKind} {n : Int} (hx : ρ.ev x = .pointer (some ⟨b, o, none⟩)) (hi : ρ.ev i = .int k n) (h0 : 0 ≤ n) (h1 : n < (m : Int))
    (h : opsWp P l Q (upd ρ d (.pointer (some ⟨b, o + n.toNat * es, none⟩))) w) : opsWp P (⟨none, .idxa d m es x i⟩ :: l) Q ρ w :=
  ⟨_, k, n, hx, hi, h0, h1, by rw [add_addr]; exact h⟩
theorem s_len {d : Nat} {x : Operand} {a : Option Addr} {n c : Nat} (hx : ρ.ev x = .slice a n c) (h : opsWp P l Q (upd ρ d (.int .i64 n)) w) : opsWp P (⟨none, .len d x⟩ :: l) Q ρ w := ⟨a, n, c, hx, h⟩
theorem s_slen {d : Nat} {x : Operand} {s : ByteArray} (hx : ρ.ev x = .string s) (h : opsWp P l Q (upd ρ d (.int .i64 s.size)) w) : opsWp P (⟨none, .slen d x⟩ :: l) Q ρ w := ⟨s, hx, h⟩
theorem s_sidx {d : Nat} {x i : Operand} {s : ByteArray} {k : IntKind} {n : Int} {b : UInt8} (hx : ρ.ev x = .string s) (hi : ρ.ev i = .int k n) (h0 : 0 ≤ n) (hb : s[n.toNat]? = some b)
    (h : opsWp P l Q (upd ρ d (.int .u8 b.toNat)) w) : opsWp P (⟨none, .sidx d x i⟩ :: l) Q ρ w := ⟨s, k, n, b, hx, hi, h0, hb, h⟩
theorem s_ext {d : Nat} {x : Operand} {i : Nat} {vs : List Value} {v : Value} (hx : ρ.ev x = .tuple ⟨vs⟩) (hv : vs[i]? = some v) (h : opsWp P l Q (upd ρ d v) w) : opsWp P (⟨none, .ext d x i⟩ :: l) Q ρ w := ⟨_, v, hx, by simpa using hv, h⟩
theorem s_fldv {d : Nat} {x : Operand} {o : Nat} {vs : List Value} {v : Value} (hx : ρ.ev x = .agg ⟨vs⟩) (hv : vs[o]? = some v) (h : opsWp P l Q (upd ρ d v) w) : opsWp P (⟨none, .fldv d x o⟩ :: l) Q ρ w := ⟨_, v, hx, by simpa using hv, h⟩
theorem s_fldn {d : Nat} {x : Operand} {o n : Nat} {vs us : List Value} (hx : ρ.ev x = .agg ⟨vs⟩) (hv : (vs.drop o).take n = us) (h : opsWp P l Q (upd ρ d (.agg ⟨us⟩)) w) : opsWp P (⟨none, .fldn d x o n⟩ :: l) Q ρ w :=
  ⟨_, hx, by
    have : (Array.mk vs).extract o (o + n) = ⟨us⟩ := by apply Array.ext'; simp [List.extract_eq_take_drop, ← hv]
    rw [this]; exact h⟩
theorem s_build {d : Nat} {z : List Value} {ps : List (Nat × Nat × Operand)} {cs : List Value} (hf : fillL z (ps.map fun p => (p.1, p.2.1, ρ.ev p.2.2)) = some cs) (h : opsWp P l Q (upd ρ d (.agg ⟨cs⟩)) w) :
    opsWp P (⟨none, .build d z ps⟩ :: l) Q ρ w := ⟨cs, hf, h⟩
theorem s_alloc {d : Nat} {T : TypeId} {z : List Value} (h : ∀ b w', b = w.heap.size → Fr NF w w' → w'.heap.size = w.heap.size + 1 → Blk w'.heap b T z → opsWp P l Q (upd ρ d (.pointer (some ⟨b, 0, none⟩))) w') :
    opsWp P (⟨none, .alloc d T z⟩ :: l) Q ρ w := h _ _ rfl (fr_alloc w _) (by simp) (blk_alloc w z T)
theorem s_box {d : Nat} {T : TypeId} {x : Operand} {cs : List Value} (hx : (ρ.ev x).cells = ⟨cs⟩) (h : ∀ b w', b = w.heap.size → Fr NF w w' → w'.heap.size = w.heap.size + 1 → Blk w'.heap b T cs → opsWp P l Q (upd ρ d (.pointer (some ⟨b, 0, none⟩))) w') :
    opsWp P (⟨none, .box d T x⟩ :: l) Q ρ w := by
  refine (?_ : LO.wp P ρ w (opsWp P l Q) Q (.box d T x))
  simp only [LO.wp, hx]
  exact h _ _ rfl (fr_alloc w _) (by simp) (blk_alloc w cs T)
theorem s_buildS {d : Nat} {T : TypeId} {n : Nat} {z : List Value} {ps : List (Nat × Nat × Operand)} {cs : List Value} (hf : fillL z (ps.map fun p => (p.1, p.2.1, ρ.ev p.2.2)) = some cs)
    (h : ∀ b w', b = w.heap.size → Fr NF w w' → w'.heap.size = w.heap.size + 1 → Blk w'.heap b T cs → opsWp P l Q (upd ρ d (.slice (some ⟨b, 0, none⟩) n n)) w') :
    opsWp P (⟨none, .buildS d T n z ps⟩ :: l) Q ρ w := ⟨cs, hf, h _ _ rfl (fr_alloc w _) (by simp) (blk_alloc w cs T)⟩
theorem s_mkfn {d f : Nat} {caps : List Operand} (h : opsWp P l Q (upd ρ d (.func (.func f) #[] ⟨caps.map ρ.ev⟩)) w) : opsWp P (⟨none, .mkfn d f caps⟩ :: l) Q ρ w := h
theorem s_min {d : Nat} {x y : Operand} {k k' : IntKind} {a b : Int} (hx : ρ.ev x = .int k a) (hy : ρ.ev y = .int k' b) (h : opsWp P l Q (upd ρ d (.int k (min a b))) w) : opsWp P (⟨none, .mnx d false x y⟩ :: l) Q ρ w :=
  ⟨k, k', a, b, hx, hy, by
    have : (if b < a then b else a) = min a b := by omega
    simp only [Bool.false_eq_true, if_false, this]; exact h⟩
theorem s_max {d : Nat} {x y : Operand} {k k' : IntKind} {a b : Int} (hx : ρ.ev x = .int k a) (hy : ρ.ev y = .int k' b) (h : opsWp P l Q (upd ρ d (.int k (max a b))) w) : opsWp P (⟨none, .mnx d true x y⟩ :: l) Q ρ w :=
  ⟨k, k', a, b, hx, hy, by
    have : (if a < b then b else a) = max a b := by omega
    simp only [if_true, this]; exact h⟩
theorem s_conv {d : Nat} {k k' : IntKind} {x : Operand} {n : Int} (hx : ρ.ev x = .int k' n) (h : opsWp P l Q (upd ρ d (.int k (k.wrap n))) w) : opsWp P (⟨none, .conv d k x⟩ :: l) Q ρ w := ⟨k', n, hx, h⟩
theorem s_conv64 {d : Nat} {k' : IntKind} {x : Operand} {n : Int} (hx : ρ.ev x = .int k' n) (h1 : -9223372036854775808 ≤ n) (h2 : n ≤ 9223372036854775807) (h : opsWp P l Q (upd ρ d (.int .i64 n)) w) : opsWp P (⟨none, .conv d .i64 x⟩ :: l) Q ρ w :=
  ⟨k', n, hx, by rw [wrap_i64 h1 h2]; exact h⟩
theorem s_mki {d : Nat} {T : TypeId} {x : Operand} {v : Value} (hx : ρ.ev x = v) (h : opsWp P l Q (upd ρ d (.iface T v)) w) : opsWp P (⟨none, .mki d T x⟩ :: l) Q ρ w := by subst hx; exact h
theorem s_sub {d es : Nat} {x : Operand} {lo hi mx : Option Operand} {a : Option Addr} {len cap l' h' m : Nat} (hx : ρ.ev x = .slice a len cap) (hm : bnd ρ cap mx m) (hh : bnd ρ len hi h') (hl : bnd ρ 0 lo l') (h1 : m ≤ cap) (h2 : h' ≤ m) (h3 : l' ≤ h')
    (h : opsWp P l Q (upd ρ d (.slice (if m = l' then a else a.map (·.add (l' * es))) (h' - l') (m - l'))) w) : opsWp P (⟨none, .sub d es x lo hi mx⟩ :: l) Q ρ w := ⟨a, len, cap, l', h', m, hx, hm, hh, hl, h1, h2, h3, h⟩
theorem s_ssub {d : Nat} {x : Operand} {lo hi : Option Operand} {s : ByteArray} {l' h' : Nat} (hx : ρ.ev x = .string s) (hh : bnd ρ s.size hi h') (hl : bnd ρ 0 lo l') (h2 : h' ≤ s.size) (h3 : l' ≤ h')
    (h : opsWp P l Q (upd ρ d (.string (s.extract l' h'))) w) : opsWp P (⟨none, .ssub d x lo hi⟩ :: l) Q ρ w := ⟨s, l', h', hx, hh, hl, h2, h3, h⟩

/-- A call that returns. -/
theorem s_call {d : Option Nat} {f : FuncId} {xs : List Operand} {args : List Value} {R : Ending → World → Prop} (hxs : xs.map ρ.ev = args) (hc : Calls P f ⟨args⟩ w R)
    (h : ∀ e w', R e w' → callPost (opsWp P l Q) Q d ρ w e w') : opsWp P (⟨none, .call d f xs⟩ :: l) Q ρ w := by
  subst hxs; exact hc.mono h
/-- A contract: the call returns v, and S. -/
def Rets (P : Program) (f : FuncId) (args : List Value) (w : World) (S : Value → World → Prop) : Prop := Calls P f ⟨args⟩ w fun e w' => ∃ v, e = .returned v ∧ S v w'
theorem s_rets {d : Nat} {f : FuncId} {xs : List Operand} {args : List Value} {S : Value → World → Prop} (hxs : xs.map ρ.ev = args) (hc : Rets P f args w S)
    (h : ∀ v w', S v w' → opsWp P l Q (upd ρ d v) w') : opsWp P (⟨none, .call (some d) f xs⟩ :: l) Q ρ w := by
  subst hxs; exact hc.mono fun e w' ⟨v, he, hs⟩ => by subst he; exact h v w' hs
theorem s_rets0 {f : FuncId} {xs : List Operand} {args : List Value} {S : Value → World → Prop} (hxs : xs.map ρ.ev = args) (hc : Rets P f args w S)
    (h : ∀ v w', S v w' → opsWp P l Q ρ w') : opsWp P (⟨none, .call none f xs⟩ :: l) Q ρ w := by
  subst hxs; exact hc.mono fun e w' ⟨v, he, hs⟩ => by subst he; exact h v w' hs
theorem Rets.mono {f : FuncId} {args : List Value} {S S' : Value → World → Prop} (h : Rets P f args w S) (hs : ∀ v w', S v w' → S' v w') : Rets P f args w S' :=
  Calls.mono h fun _ _ ⟨v, he, hv⟩ => ⟨v, he, hs _ _ hv⟩
theorem s_callv {d : Option Nat} {x : Operand} {xs : List Operand} {f : FuncId} {cap args : List Value} {R : Ending → World → Prop} {fn : Func} (hx : ρ.ev x = .func (.func f) #[] ⟨cap⟩) (hf : P.funcs[f]? = some fn)
    (hb : fn.body.isSome = true) (hn : (fn.name == "runtime.NumGoroutine") = false) (hxs : xs.map ρ.ev ++ cap = args) (hc : Calls P f ⟨args⟩ w R)
    (h : ∀ e w', R e w' → callPost (opsWp P l Q) Q d ρ w e w') : opsWp P (⟨none, .callv d x xs⟩ :: l) Q ρ w := by
  subst hxs
  refine ⟨f, #[], ⟨cap⟩, fn, hx, hf, hb, hn, ?_⟩
  have : (#[] ++ Array.mk (xs.map ρ.ev) ++ Array.mk cap : Array Value) = ⟨xs.map ρ.ev ++ cap⟩ := by simp
  rw [this]; exact hc.mono h
/-- A method that is bound: what it is bound to comes first. -/
theorem s_callb {d : Option Nat} {x : Operand} {xs : List Operand} {f : FuncId} {fst args : List Value} {R : Ending → World → Prop} {fn : Func} (hx : ρ.ev x = .func (.func f) ⟨fst⟩ #[]) (hf : P.funcs[f]? = some fn)
    (hb : fn.body.isSome = true) (hn : (fn.name == "runtime.NumGoroutine") = false) (hxs : fst ++ xs.map ρ.ev = args) (hc : Calls P f ⟨args⟩ w R)
    (h : ∀ e w', R e w' → callPost (opsWp P l Q) Q d ρ w e w') : opsWp P (⟨none, .callv d x xs⟩ :: l) Q ρ w := by
  subst hxs
  refine ⟨f, ⟨fst⟩, #[], fn, hx, hf, hb, hn, ?_⟩
  have : (Array.mk fst ++ Array.mk (xs.map ρ.ev) ++ #[] : Array Value) = ⟨fst ++ xs.map ρ.ev⟩ := by simp
  rw [this]; exact hc.mono h

theorem s_add {d : Nat} {T : TypeId} {x y : Operand} {a b : Int} (hx : ρ.ev x = .int .i64 a) (hy : ρ.ev y = .int .i64 b) (h1 : -9223372036854775808 ≤ a + b) (h2 : a + b ≤ 9223372036854775807)
    (h : opsWp P l Q (upd ρ d (.int .i64 (a + b))) w) : opsWp P (⟨none, .bin d .add T x y⟩ :: l) Q ρ w :=
  ⟨.int .i64 (a + b), fun w0 => by rw [hx, hy]; simp [eqGuard, binOp, Op.intArith, wrap_i64 h1 h2], h⟩
theorem s_addw {d : Nat} {T : TypeId} {x y : Operand} {k : IntKind} {a b : Int} (hx : ρ.ev x = .int k a) (hy : ρ.ev y = .int k b)
    (h : opsWp P l Q (upd ρ d (.int k (k.wrap (a + b)))) w) : opsWp P (⟨none, .bin d .add T x y⟩ :: l) Q ρ w :=
  ⟨_, fun w0 => by rw [hx, hy]; simp [eqGuard, binOp, Op.intArith], h⟩

theorem s_subi {d : Nat} {T : TypeId} {x y : Operand} {a b : Int} (hx : ρ.ev x = .int .i64 a) (hy : ρ.ev y = .int .i64 b) (h1 : -9223372036854775808 ≤ a - b) (h2 : a - b ≤ 9223372036854775807)
    (h : opsWp P l Q (upd ρ d (.int .i64 (a - b))) w) : opsWp P (⟨none, .bin d .sub T x y⟩ :: l) Q ρ w :=
  ⟨.int .i64 (a - b), fun w0 => by rw [hx, hy]; simp [eqGuard, binOp, Op.intArith, wrap_i64 h1 h2], h⟩
theorem s_subiw {d : Nat} {T : TypeId} {x y : Operand} {k : IntKind} {a b : Int} (hx : ρ.ev x = .int k a) (hy : ρ.ev y = .int k b)
    (h : opsWp P l Q (upd ρ d (.int k (k.wrap (a - b)))) w) : opsWp P (⟨none, .bin d .sub T x y⟩ :: l) Q ρ w :=
  ⟨_, fun w0 => by rw [hx, hy]; simp [eqGuard, binOp, Op.intArith], h⟩

theorem s_mul {d : Nat} {T : TypeId} {x y : Operand} {a b : Int} (hx : ρ.ev x = .int .i64 a) (hy : ρ.ev y = .int .i64 b) (h1 : -9223372036854775808 ≤ a * b) (h2 : a * b ≤ 9223372036854775807)
    (h : opsWp P l Q (upd ρ d (.int .i64 (a * b))) w) : opsWp P (⟨none, .bin d .mul T x y⟩ :: l) Q ρ w :=
  ⟨.int .i64 (a * b), fun w0 => by rw [hx, hy]; simp [eqGuard, binOp, Op.intArith, wrap_i64 h1 h2], h⟩
theorem s_mulw {d : Nat} {T : TypeId} {x y : Operand} {k : IntKind} {a b : Int} (hx : ρ.ev x = .int k a) (hy : ρ.ev y = .int k b)
    (h : opsWp P l Q (upd ρ d (.int k (k.wrap (a * b)))) w) : opsWp P (⟨none, .bin d .mul T x y⟩ :: l) Q ρ w :=
  ⟨_, fun w0 => by rw [hx, hy]; simp [eqGuard, binOp, Op.intArith], h⟩

theorem s_quo {d : Nat} {T : TypeId} {x y : Operand} {k : IntKind} {a b : Int} (hx : ρ.ev x = .int k a) (hy : ρ.ev y = .int k b) (hb : b ≠ 0)
    (h : opsWp P l Q (upd ρ d (.int k (k.wrap (a.tdiv b)))) w) : opsWp P (⟨none, .bin d .quo T x y⟩ :: l) Q ρ w :=
  ⟨_, fun w0 => by rw [hx, hy]; simp [eqGuard, binOp, Op.intDiv, hb], h⟩
theorem s_rem {d : Nat} {T : TypeId} {x y : Operand} {k : IntKind} {a b : Int} (hx : ρ.ev x = .int k a) (hy : ρ.ev y = .int k b) (hb : b ≠ 0)
    (h : opsWp P l Q (upd ρ d (.int k (a.tmod b))) w) : opsWp P (⟨none, .bin d .rem T x y⟩ :: l) Q ρ w :=
  ⟨_, fun w0 => by rw [hx, hy]; simp [eqGuard, binOp, Op.intDiv, hb], h⟩
def bitI (op : BinOp) (k : IntKind) (a b : Int) : Int :=
  let x := BitVec.ofInt k.bits a
  let y := BitVec.ofInt k.bits b
  k.wrap (match op with | .and => x &&& y | .or => x ||| y | .xor => x ^^^ y | _ => x &&& ~~~y).toNat

theorem s_and {d : Nat} {T : TypeId} {x y : Operand} {k : IntKind} {a b : Int} (hx : ρ.ev x = .int k a) (hy : ρ.ev y = .int k b)
    (h : opsWp P l Q (upd ρ d (.int k (bitI .and k a b))) w) : opsWp P (⟨none, .bin d .and T x y⟩ :: l) Q ρ w :=
  ⟨_, fun w0 => by rw [hx, hy]; simp [eqGuard, binOp, Op.intBits, bitI], h⟩

theorem s_or {d : Nat} {T : TypeId} {x y : Operand} {k : IntKind} {a b : Int} (hx : ρ.ev x = .int k a) (hy : ρ.ev y = .int k b)
    (h : opsWp P l Q (upd ρ d (.int k (bitI .or k a b))) w) : opsWp P (⟨none, .bin d .or T x y⟩ :: l) Q ρ w :=
  ⟨_, fun w0 => by rw [hx, hy]; simp [eqGuard, binOp, Op.intBits, bitI], h⟩

theorem s_xor {d : Nat} {T : TypeId} {x y : Operand} {k : IntKind} {a b : Int} (hx : ρ.ev x = .int k a) (hy : ρ.ev y = .int k b)
    (h : opsWp P l Q (upd ρ d (.int k (bitI .xor k a b))) w) : opsWp P (⟨none, .bin d .xor T x y⟩ :: l) Q ρ w :=
  ⟨_, fun w0 => by rw [hx, hy]; simp [eqGuard, binOp, Op.intBits, bitI], h⟩

theorem s_andNot {d : Nat} {T : TypeId} {x y : Operand} {k : IntKind} {a b : Int} (hx : ρ.ev x = .int k a) (hy : ρ.ev y = .int k b)
    (h : opsWp P l Q (upd ρ d (.int k (bitI .andNot k a b))) w) : opsWp P (⟨none, .bin d .andNot T x y⟩ :: l) Q ρ w :=
  ⟨_, fun w0 => by rw [hx, hy]; simp [eqGuard, binOp, Op.intBits, bitI], h⟩

theorem s_shl {d : Nat} {T : TypeId} {x y : Operand} {k k' : IntKind} {a b : Int} (hx : ρ.ev x = .int k a) (hy : ρ.ev y = .int k' b) (hb : 0 ≤ b)
    (h : opsWp P l Q (upd ρ d (.int k (k.wrap (a * 2 ^ (min b.toNat k.bits))))) w) : opsWp P (⟨none, .bin d .shl T x y⟩ :: l) Q ρ w :=
  ⟨_, fun w0 => by rw [hx, hy]; simp [eqGuard, binOp, Op.shift, Int.not_lt.2 hb], h⟩
theorem s_shr {d : Nat} {T : TypeId} {x y : Operand} {k k' : IntKind} {a b : Int} (hx : ρ.ev x = .int k a) (hy : ρ.ev y = .int k' b) (hb : 0 ≤ b)
    (h : opsWp P l Q (upd ρ d (.int k (a.fdiv (2 ^ (min b.toNat k.bits))))) w) : opsWp P (⟨none, .bin d .shr T x y⟩ :: l) Q ρ w :=
  ⟨_, fun w0 => by rw [hx, hy]; simp [eqGuard, binOp, Op.shift, Int.not_lt.2 hb], h⟩

theorem s_eql_d {d : Nat} {T : TypeId} {x y : Operand} {k : IntKind} {a b : Int} (hx : ρ.ev x = .int k a) (hy : ρ.ev y = .int k b)
    (h : opsWp P l Q (upd ρ d (.bool (decide (a = b)))) w) : opsWp P (⟨none, .bin d .eql T x y⟩ :: l) Q ρ w :=
  ⟨_, fun w0 => by
    rw [hx, hy]
    first
      | (simp [eqGuard, binOp, Op.intCmp]; done)
      | (by_cases hp : a = b <;> simp [eqGuard, binOp, Op.intCmp, hp]), h⟩
theorem s_eql_t {d : Nat} {T : TypeId} {x y : Operand} {k : IntKind} {a b : Int} (hx : ρ.ev x = .int k a) (hy : ρ.ev y = .int k b) (hp : a = b)
    (h : opsWp P l Q (upd ρ d (.bool true)) w) : opsWp P (⟨none, .bin d .eql T x y⟩ :: l) Q ρ w :=
  s_eql_d hx hy (by rw [decide_eq_true hp]; exact h)
theorem s_eql_f {d : Nat} {T : TypeId} {x y : Operand} {k : IntKind} {a b : Int} (hx : ρ.ev x = .int k a) (hy : ρ.ev y = .int k b) (hp : ¬ (a = b))
    (h : opsWp P l Q (upd ρ d (.bool false)) w) : opsWp P (⟨none, .bin d .eql T x y⟩ :: l) Q ρ w :=
  s_eql_d hx hy (by rw [decide_eq_false hp]; exact h)
theorem s_eql_s {d : Nat} {T : TypeId} {x y : Operand} {k : IntKind} {a b : Int} (hx : ρ.ev x = .int k a) (hy : ρ.ev y = .int k b)
    (h1 : a = b → opsWp P l Q (upd ρ d (.bool true)) w) (h2 : ¬ (a = b) → opsWp P l Q (upd ρ d (.bool false)) w) : opsWp P (⟨none, .bin d .eql T x y⟩ :: l) Q ρ w :=
  s_eql_d hx hy (by
    by_cases hp : a = b
    · rw [decide_eq_true hp]; exact h1 hp
    · rw [decide_eq_false hp]; exact h2 hp)

theorem s_neq_d {d : Nat} {T : TypeId} {x y : Operand} {k : IntKind} {a b : Int} (hx : ρ.ev x = .int k a) (hy : ρ.ev y = .int k b)
    (h : opsWp P l Q (upd ρ d (.bool (decide (a ≠ b)))) w) : opsWp P (⟨none, .bin d .neq T x y⟩ :: l) Q ρ w :=
  ⟨_, fun w0 => by
    rw [hx, hy]
    first
      | (simp [eqGuard, binOp, Op.intCmp]; done)
      | (by_cases hp : a = b <;> simp [eqGuard, binOp, Op.intCmp, hp]), h⟩
theorem s_neq_t {d : Nat} {T : TypeId} {x y : Operand} {k : IntKind} {a b : Int} (hx : ρ.ev x = .int k a) (hy : ρ.ev y = .int k b) (hp : a ≠ b)
    (h : opsWp P l Q (upd ρ d (.bool true)) w) : opsWp P (⟨none, .bin d .neq T x y⟩ :: l) Q ρ w :=
  s_neq_d hx hy (by rw [decide_eq_true hp]; exact h)
theorem s_neq_f {d : Nat} {T : TypeId} {x y : Operand} {k : IntKind} {a b : Int} (hx : ρ.ev x = .int k a) (hy : ρ.ev y = .int k b) (hp : ¬ (a ≠ b))
    (h : opsWp P l Q (upd ρ d (.bool false)) w) : opsWp P (⟨none, .bin d .neq T x y⟩ :: l) Q ρ w :=
  s_neq_d hx hy (by rw [decide_eq_false hp]; exact h)
theorem s_neq_s {d : Nat} {T : TypeId} {x y : Operand} {k : IntKind} {a b : Int} (hx : ρ.ev x = .int k a) (hy : ρ.ev y = .int k b)
    (h1 : a ≠ b → opsWp P l Q (upd ρ d (.bool true)) w) (h2 : ¬ (a ≠ b) → opsWp P l Q (upd ρ d (.bool false)) w) : opsWp P (⟨none, .bin d .neq T x y⟩ :: l) Q ρ w :=
  s_neq_d hx hy (by
    by_cases hp : a ≠ b
    · rw [decide_eq_true hp]; exact h1 hp
    · rw [decide_eq_false hp]; exact h2 hp)

theorem s_lss_d {d : Nat} {T : TypeId} {x y : Operand} {k : IntKind} {a b : Int} (hx : ρ.ev x = .int k a) (hy : ρ.ev y = .int k b)
    (h : opsWp P l Q (upd ρ d (.bool (decide (a < b)))) w) : opsWp P (⟨none, .bin d .lss T x y⟩ :: l) Q ρ w :=
  ⟨_, fun w0 => by
    rw [hx, hy]
    first
      | (simp [eqGuard, binOp, Op.intCmp]; done)
      | (by_cases hp : a = b <;> simp [eqGuard, binOp, Op.intCmp, hp]), h⟩
theorem s_lss_t {d : Nat} {T : TypeId} {x y : Operand} {k : IntKind} {a b : Int} (hx : ρ.ev x = .int k a) (hy : ρ.ev y = .int k b) (hp : a < b)
    (h : opsWp P l Q (upd ρ d (.bool true)) w) : opsWp P (⟨none, .bin d .lss T x y⟩ :: l) Q ρ w :=
  s_lss_d hx hy (by rw [decide_eq_true hp]; exact h)
theorem s_lss_f {d : Nat} {T : TypeId} {x y : Operand} {k : IntKind} {a b : Int} (hx : ρ.ev x = .int k a) (hy : ρ.ev y = .int k b) (hp : ¬ (a < b))
    (h : opsWp P l Q (upd ρ d (.bool false)) w) : opsWp P (⟨none, .bin d .lss T x y⟩ :: l) Q ρ w :=
  s_lss_d hx hy (by rw [decide_eq_false hp]; exact h)
theorem s_lss_s {d : Nat} {T : TypeId} {x y : Operand} {k : IntKind} {a b : Int} (hx : ρ.ev x = .int k a) (hy : ρ.ev y = .int k b)
    (h1 : a < b → opsWp P l Q (upd ρ d (.bool true)) w) (h2 : ¬ (a < b) → opsWp P l Q (upd ρ d (.bool false)) w) : opsWp P (⟨none, .bin d .lss T x y⟩ :: l) Q ρ w :=
  s_lss_d hx hy (by
    by_cases hp : a < b
    · rw [decide_eq_true hp]; exact h1 hp
    · rw [decide_eq_false hp]; exact h2 hp)

theorem s_leq_d {d : Nat} {T : TypeId} {x y : Operand} {k : IntKind} {a b : Int} (hx : ρ.ev x = .int k a) (hy : ρ.ev y = .int k b)
    (h : opsWp P l Q (upd ρ d (.bool (decide (a ≤ b)))) w) : opsWp P (⟨none, .bin d .leq T x y⟩ :: l) Q ρ w :=
  ⟨_, fun w0 => by
    rw [hx, hy]
    first
      | (simp [eqGuard, binOp, Op.intCmp]; done)
      | (by_cases hp : a = b <;> simp [eqGuard, binOp, Op.intCmp, hp]), h⟩
theorem s_leq_t {d : Nat} {T : TypeId} {x y : Operand} {k : IntKind} {a b : Int} (hx : ρ.ev x = .int k a) (hy : ρ.ev y = .int k b) (hp : a ≤ b)
    (h : opsWp P l Q (upd ρ d (.bool true)) w) : opsWp P (⟨none, .bin d .leq T x y⟩ :: l) Q ρ w :=
  s_leq_d hx hy (by rw [decide_eq_true hp]; exact h)
theorem s_leq_f {d : Nat} {T : TypeId} {x y : Operand} {k : IntKind} {a b : Int} (hx : ρ.ev x = .int k a) (hy : ρ.ev y = .int k b) (hp : ¬ (a ≤ b))
    (h : opsWp P l Q (upd ρ d (.bool false)) w) : opsWp P (⟨none, .bin d .leq T x y⟩ :: l) Q ρ w :=
  s_leq_d hx hy (by rw [decide_eq_false hp]; exact h)
theorem s_leq_s {d : Nat} {T : TypeId} {x y : Operand} {k : IntKind} {a b : Int} (hx : ρ.ev x = .int k a) (hy : ρ.ev y = .int k b)
    (h1 : a ≤ b → opsWp P l Q (upd ρ d (.bool true)) w) (h2 : ¬ (a ≤ b) → opsWp P l Q (upd ρ d (.bool false)) w) : opsWp P (⟨none, .bin d .leq T x y⟩ :: l) Q ρ w :=
  s_leq_d hx hy (by
    by_cases hp : a ≤ b
    · rw [decide_eq_true hp]; exact h1 hp
    · rw [decide_eq_false hp]; exact h2 hp)

theorem s_gtr_d {d : Nat} {T : TypeId} {x y : Operand} {k : IntKind} {a b : Int} (hx : ρ.ev x = .int k a) (hy : ρ.ev y = .int k b)
    (h : opsWp P l Q (upd ρ d (.bool (decide (b < a)))) w) : opsWp P (⟨none, .bin d .gtr T x y⟩ :: l) Q ρ w :=
  ⟨_, fun w0 => by
    rw [hx, hy]
    first
      | (simp [eqGuard, binOp, Op.intCmp]; done)
      | (by_cases hp : a = b <;> simp [eqGuard, binOp, Op.intCmp, hp]), h⟩
theorem s_gtr_t {d : Nat} {T : TypeId} {x y : Operand} {k : IntKind} {a b : Int} (hx : ρ.ev x = .int k a) (hy : ρ.ev y = .int k b) (hp : b < a)
    (h : opsWp P l Q (upd ρ d (.bool true)) w) : opsWp P (⟨none, .bin d .gtr T x y⟩ :: l) Q ρ w :=
  s_gtr_d hx hy (by rw [decide_eq_true hp]; exact h)
theorem s_gtr_f {d : Nat} {T : TypeId} {x y : Operand} {k : IntKind} {a b : Int} (hx : ρ.ev x = .int k a) (hy : ρ.ev y = .int k b) (hp : ¬ (b < a))
    (h : opsWp P l Q (upd ρ d (.bool false)) w) : opsWp P (⟨none, .bin d .gtr T x y⟩ :: l) Q ρ w :=
  s_gtr_d hx hy (by rw [decide_eq_false hp]; exact h)
theorem s_gtr_s {d : Nat} {T : TypeId} {x y : Operand} {k : IntKind} {a b : Int} (hx : ρ.ev x = .int k a) (hy : ρ.ev y = .int k b)
    (h1 : b < a → opsWp P l Q (upd ρ d (.bool true)) w) (h2 : ¬ (b < a) → opsWp P l Q (upd ρ d (.bool false)) w) : opsWp P (⟨none, .bin d .gtr T x y⟩ :: l) Q ρ w :=
  s_gtr_d hx hy (by
    by_cases hp : b < a
    · rw [decide_eq_true hp]; exact h1 hp
    · rw [decide_eq_false hp]; exact h2 hp)

theorem s_geq_d {d : Nat} {T : TypeId} {x y : Operand} {k : IntKind} {a b : Int} (hx : ρ.ev x = .int k a) (hy : ρ.ev y = .int k b)
    (h : opsWp P l Q (upd ρ d (.bool (decide (b ≤ a)))) w) : opsWp P (⟨none, .bin d .geq T x y⟩ :: l) Q ρ w :=
  ⟨_, fun w0 => by
    rw [hx, hy]
    first
      | (simp [eqGuard, binOp, Op.intCmp]; done)
      | (by_cases hp : a = b <;> simp [eqGuard, binOp, Op.intCmp, hp]), h⟩
theorem s_geq_t {d : Nat} {T : TypeId} {x y : Operand} {k : IntKind} {a b : Int} (hx : ρ.ev x = .int k a) (hy : ρ.ev y = .int k b) (hp : b ≤ a)
    (h : opsWp P l Q (upd ρ d (.bool true)) w) : opsWp P (⟨none, .bin d .geq T x y⟩ :: l) Q ρ w :=
  s_geq_d hx hy (by rw [decide_eq_true hp]; exact h)
theorem s_geq_f {d : Nat} {T : TypeId} {x y : Operand} {k : IntKind} {a b : Int} (hx : ρ.ev x = .int k a) (hy : ρ.ev y = .int k b) (hp : ¬ (b ≤ a))
    (h : opsWp P l Q (upd ρ d (.bool false)) w) : opsWp P (⟨none, .bin d .geq T x y⟩ :: l) Q ρ w :=
  s_geq_d hx hy (by rw [decide_eq_false hp]; exact h)
theorem s_geq_s {d : Nat} {T : TypeId} {x y : Operand} {k : IntKind} {a b : Int} (hx : ρ.ev x = .int k a) (hy : ρ.ev y = .int k b)
    (h1 : b ≤ a → opsWp P l Q (upd ρ d (.bool true)) w) (h2 : ¬ (b ≤ a) → opsWp P l Q (upd ρ d (.bool false)) w) : opsWp P (⟨none, .bin d .geq T x y⟩ :: l) Q ρ w :=
  s_geq_d hx hy (by
    by_cases hp : b ≤ a
    · rw [decide_eq_true hp]; exact h1 hp
    · rw [decide_eq_false hp]; exact h2 hp)

theorem run_equalIn_bool (n : Nat) {T : TypeId} {a b : Bool} {w0 : World} (ht : P.underlying T = some .bool) : (Op.equalIn (n + 1) T (.bool a) (.bool b)).run P w0 = .ok (a == b) w0 := by
  simp only [Op.equalIn, Sem.run_bind, run_underlying' P T _ w0 ht, Result.andThen_ok, Sem.run_pure]
theorem run_equal_bool {T : TypeId} {a b : Bool} {w0 : World} (ht : P.underlying T = some .bool) : (Op.equal T (.bool a) (.bool b)).run P w0 = .ok (a == b) w0 :=
  run_equalIn_bool 9999 ht
theorem s_beq {d : Nat} {T : TypeId} {x y : Operand} {a b : Bool} (ht : P.underlying T = some .bool) (hx : ρ.ev x = .bool a) (hy : ρ.ev y = .bool b)
    (h : opsWp P l Q (upd ρ d (.bool (a == b))) w) : opsWp P (⟨none, .bin d .eql T x y⟩ :: l) Q ρ w :=
  ⟨_, fun w0 => by rw [hx, hy]; simp [eqGuard, binOp, run_equal_bool ht], h⟩
theorem s_bne {d : Nat} {T : TypeId} {x y : Operand} {a b : Bool} (ht : P.underlying T = some .bool) (hx : ρ.ev x = .bool a) (hy : ρ.ev y = .bool b)
    (h : opsWp P l Q (upd ρ d (.bool (a != b))) w) : opsWp P (⟨none, .bin d .neq T x y⟩ :: l) Q ρ w :=
  ⟨_, fun w0 => by rw [hx, hy]; simp [eqGuard, binOp, run_equal_bool ht]; cases a <;> cases b <;> rfl, h⟩

/-- A region that draws: the canonical order, behind one more answer. -/
theorem s_draw {gs : List GO} {es : List (List Nat)} (C : List CI) (hok : drawOk gs es C = true)
    (hpl : (C.all fun c => match c.2 with | some (some _) => false | _ => true) = true) (h : opsWp P (C.map fun c => gat gs c.1) Q ρ w.drew) : (LC.draw gs es).wp P Q ρ w :=
  draw_plain C hok hpl h
/-- The same, where something floats: operation by operation. -/
theorem s_canon {gs : List GO} {es : List (List Nat)} (C : List CI) (hok : drawOk gs es C = true) (h : canonWp P gs C Q ρ w.drew) : (LC.draw gs es).wp P Q ρ w := draw_canon C hok h
theorem s_cnil {gs : List GO} (h : Q .normal ρ w) : canonWp P gs [] Q ρ w := h
theorem s_cq {gs : List GO} {i : Nat} {rest : List CI} (h : opsWp P [gat gs i] (thenQ (canonWp P gs rest Q) Q) ρ w) : canonWp P gs ((i, none) :: rest) Q ρ w := h
theorem s_cf {gs : List GO} {i : Nat} {rest : List CI} (h : opsWp P [gat gs i] (thenQ (canonWp P gs rest Q) Q) ρ w) : canonWp P gs ((i, some none) :: rest) Q ρ w := h
theorem s_cfl {gs : List GO} {i : Nat} {fl : List Nat} {rest : List CI} (h : opsWp P [gat gs i] (thenQ (fun ρ' w' => (∀ q ∈ fl, gqv P ρ w' (gat gs q) (ρ ((gat gs q).dst.getD 0))) ∧ canonWp P gs rest Q ρ' w') (panicQ Q)) ρ w) :
    canonWp P gs ((i, some (some fl)) :: rest) Q ρ w := h
end
end Go.Lir
