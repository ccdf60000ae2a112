/- The calculus of values: operations that compute a value out of values and leave the memory as it is. -/
import Derived.Test.YtblmompdcammeaaVLa
import Derived.Lib.SliceRun
import Derived.Laws.StructEq
set_option linter.all false
namespace Go.VL
open Go

def uOf : Value → U
  | .int k n => .int k n
  | .bool b => .bool b
  | .string s => .str s.data.toList
  | .slice none 0 0 => .nil
  | v => .oth v
theorem uOf_rep (m : Mem) (v : Value) : RepU m (uOf v) v := by
  unfold uOf
  split
  · exact .int _ _
  · exact .bool _
  · rename_i s
    have h := RepU.str (m := m) s.data.toList
    simpa using h
  · exact .nil
  · exact .oth _

def opd (s : St) : Operand → D
  | .tmp t => s.at t
  | .const v => .u (uOf v)
  | .global g => .u (.oth (.pointer (some ⟨g, 0, none⟩)))
  | .func f => .fnc (.func f) []

theorem opd_rep {k own s a w} (h : Sim k own s a w) (x : Operand) : Rep k (opd s x) (a.eval x) := by
  cases x with
  | tmp t => exact h.at t
  | const v => exact .u _ _ (uOf_rep _ v)
  | global g => exact .u _ _ (.oth _)
  | func f => exact .fnc (.func f) [] [] rfl (by simp)

-- what a value is, by what it stands for
section
variable {k : Kr} {v : Value}
theorem rep_int {kd n} (h : Rep k (.u (.int kd n)) v) : v = .int kd n := by cases h with | u _ _ h => cases h; rfl
theorem rep_bool {b} (h : Rep k (.u (.bool b)) v) : v = .bool b := by cases h with | u _ _ h => cases h; rfl
theorem rep_str {l} (h : Rep k (.u (.str l)) v) : v = .string ⟨l.toArray⟩ := by cases h with | u _ _ h => cases h; rfl
theorem rep_oth {x} (h : Rep k (.u (.oth x)) v) : v = x := by cases h with | u _ _ h => cases h; rfl
theorem rep_nil (h : Rep k (.u .nil) v) : v = .slice none 0 0 := by cases h with | u _ _ h => cases h; rfl
theorem rep_sl {rows} (h : Rep k (.u (.sl rows)) v) : ∃ a c, v = .slice a rows.length c := by
  cases h with
  | u _ _ h => cases h with
    | slE a c _ => exact ⟨a, c, rfl⟩
    | sl => exact ⟨_, _, rfl⟩
theorem rep_vec {i len} (h : Rep k (.vec i len) v) : ∃ h, k.hdr i = some h ∧ v = headVal h len := by
  cases h with | vec _ _ h hh => exact ⟨h, hh, rfl⟩
theorem rep_ptr {i off} (h : Rep k (.ptr i off) v) : ∃ b c, k.hdr i = some (some b, c) ∧ v = .pointer (some ⟨b, off, none⟩) := by
  cases h with | ptr _ _ b c hh => exact ⟨b, c, hh, rfl⟩
theorem rep_elt {i sz idx off} (h : Rep k (.elt i sz idx off) v) : ∃ b c, k.hdr i = some (some b, c) ∧ v = .pointer (some ⟨b, idx * sz + off, none⟩) := by
  cases h with | elt _ _ _ _ b c hh => exact ⟨b, c, hh, rfl⟩
theorem rep_row {cells off} (h : Rep k (.u (.row cells off)) v) : ∃ b o, v = .pointer (some ⟨b, o + off, none⟩) ∧
    ∀ j u, cells[j]? = some u → ∃ x, k.mem b (o + j) = some x ∧ RepU k.mem u x := by
  cases h with
  | u _ _ h => cases h with
    | row _ _ b o f hm hr => exact ⟨b, o, rfl, fun j u hj => ⟨f j, hm j (List.getElem?_eq_some_iff.1 hj).1, hr j u hj⟩⟩
theorem rep_uagg {cells} (h : Rep k (.u (.agg cells)) v) : ∃ vs : List Value, cells.length = vs.length ∧ v = .agg vs.toArray ∧
    ∀ j u, cells[j]? = some u → RepU k.mem u (vs.getD j undef) := by
  cases h with | u _ _ h => cases h with | agg _ vs hl hr => exact ⟨vs, hl, rfl, hr⟩
theorem rep_agg {cells} (h : Rep k (.agg cells) v) : ∃ vs : List Value, cells.length = vs.length ∧ v = .agg vs.toArray ∧
    ∀ j u, cells[j]? = some u → Rep k u (vs.getD j undef) := by
  cases h with | agg _ vs hl hr => exact ⟨vs, hl, rfl, hr⟩
theorem rep_tup {cells} (h : Rep k (.tup cells) v) : ∃ vs : List Value, cells.length = vs.length ∧ v = .tuple vs.toArray ∧
    ∀ j u, cells[j]? = some u → Rep k u (vs.getD j undef) := by
  cases h with | tup _ vs hl hr => exact ⟨vs, hl, rfl, hr⟩
theorem rep_fnc {f caps} (h : Rep k (.fnc f caps) v) : ∃ vs : List Value, caps.length = vs.length ∧ v = .func f #[] vs.toArray ∧
    ∀ j u, caps[j]? = some u → Rep k u (vs.getD j undef) := by
  cases h with | fnc _ _ vs hl hr => exact ⟨vs, hl, rfl, hr⟩
end


-- numbers
def arith (k : IntKind) (n : Int) (ret : U → Prop) : Prop :=
  match k with
  | .i64 => (-9223372036854775808 ≤ n ∧ n ≤ 9223372036854775807) ∧ ret (.int .i64 n)
  | .u64 => ret (.int .u64 (n % 18446744073709551616))
  | .u32 => ret (.int .u32 (n % 4294967296))
  | .u8 => ret (.int .u8 (n % 256))
  | k => ret (.int k (k.wrap n))
theorem arith_ok {k n ret} (h : arith k n ret) : ret (.int k (k.wrap n)) := by
  unfold arith at h
  split at h
  · rw [IntWalk.i64_in n h.1]; exact h.2
  · rw [IntKind.wrap_u64]; exact h
  · rw [IntKind.wrap_u32]; exact h
  · rw [IntKind.wrap_u8]; exact h
  · exact h

def bitAnd (k : IntKind) (a b : Int) : Int := k.wrap ((BitVec.ofInt k.bits a) &&& (BitVec.ofInt k.bits b)).toNat
def bitOr (k : IntKind) (a b : Int) : Int := k.wrap ((BitVec.ofInt k.bits a) ||| (BitVec.ofInt k.bits b)).toNat
def bitXor (k : IntKind) (a b : Int) : Int := k.wrap ((BitVec.ofInt k.bits a) ^^^ (BitVec.ofInt k.bits b)).toNat
def binI (op : BinOp) (k : IntKind) (a b : Int) (ret : U → Prop) : Prop :=
  match op with
  | .add => arith k (a + b) ret
  | .sub => arith k (a - b) ret
  | .mul => arith k (a * b) ret
  | .quo => b ≠ 0 ∧ arith k (a.tdiv b) ret
  | .rem => b ≠ 0 ∧ ret (.int k (a.tmod b))
  | .eql => ret (.bool (decide (a = b)))
  | .neq => ret (.bool (!decide (a = b)))
  | .lss => ret (.bool (decide (a < b)))
  | .leq => ret (.bool (decide (a ≤ b)))
  | .gtr => ret (.bool (decide (b < a)))
  | .geq => ret (.bool (decide (b ≤ a)))
  | .and => ret (.int k (bitAnd k a b))
  | .or => ret (.int k (bitOr k a b))
  | .xor => ret (.int k (bitXor k a b))
  | _ => False
def binS (op : BinOp) (a b : List UInt8) (ret : U → Prop) : Prop :=
  match op with
  | .add => a.length + b.length ≤ 9223372036854775807 ∧ ret (.str (a ++ b))
  | .eql => ret (.bool (decide (a = b)))
  | .neq => ret (.bool (!decide (a = b)))
  | .lss => ret (.bool (Op.bytesLess a b))
  | .leq => ret (.bool (Op.bytesLess a b || decide (a = b)))
  | .gtr => ret (.bool (!(Op.bytesLess a b || decide (a = b))))
  | .geq => ret (.bool (!Op.bytesLess a b))
  | _ => False
def binB (P : Program) (op : BinOp) (t : TypeId) (a b : Bool) (ret : U → Prop) : Prop :=
  P.underlying t = some .bool ∧ match op with
  | .eql => ret (.bool (a == b))
  | .neq => ret (.bool (!(a == b)))
  | _ => False
/-- shifts by a number that is not below 0 -/
def shiftI (op : BinOp) (k : IntKind) (a : Int) (b : Int) (ret : U → Prop) : Prop :=
  0 ≤ b ∧ match op with
  | .shl => arith k (a * 2 ^ (min b.toNat k.bits)) ret
  | .shr => ret (.int k (a / (2 ^ (min b.toNat k.bits))))
  | _ => False

theorem binI_run {P : Program} {op k a b ret} (t : TypeId) (w : World) (h : binI op k a b ret) :
    ∃ u, ret u ∧ ∃ v, (binOp op t (.int k a) (.int k b)).run P w = .ok v w ∧ ∀ m, RepU m u v := by
  unfold binI at h
  split at h
  · exact ⟨_, arith_ok h, _, by simp [binOp, Op.intArith], fun m => .int _ _⟩
  · exact ⟨_, arith_ok h, _, by simp [binOp, Op.intArith], fun m => .int _ _⟩
  · exact ⟨_, arith_ok h, _, by simp [binOp, Op.intArith], fun m => .int _ _⟩
  · exact ⟨_, arith_ok h.2, _, by simp [binOp, Op.intDiv, h.1], fun m => .int _ _⟩
  · exact ⟨_, h.2, _, by simp [binOp, Op.intDiv, h.1], fun m => .int _ _⟩
  · exact ⟨_, h, .bool (decide (a = b)), by simp [binOp, Op.intCmp]; rfl, fun m => .bool _⟩
  · exact ⟨_, h, .bool (!decide (a = b)), by simp [binOp, Op.intCmp]; rfl, fun m => .bool _⟩
  · exact ⟨_, h, _, by simp [binOp, Op.intCmp], fun m => .bool _⟩
  · exact ⟨_, h, _, by simp [binOp, Op.intCmp], fun m => .bool _⟩
  · exact ⟨_, h, _, by simp [binOp, Op.intCmp], fun m => .bool _⟩
  · exact ⟨_, h, _, by simp [binOp, Op.intCmp], fun m => .bool _⟩
  · exact ⟨_, h, _, by simp [binOp, Op.intBits]; rfl, fun m => .int _ _⟩
  · exact ⟨_, h, _, by simp [binOp, Op.intBits]; rfl, fun m => .int _ _⟩
  · exact ⟨_, h, _, by simp [binOp, Op.intBits]; rfl, fun m => .int _ _⟩
  · exact h.elim

theorem toList_mk (l : List UInt8) : (⟨l.toArray⟩ : ByteArray).toList = l := by rw [ByteArray.toList_eq]
theorem binS_run {P : Program} {op a b ret} (t : TypeId) (w : World) (h : binS op a b ret) :
    ∃ u, ret u ∧ ∃ v, (binOp op t (.string ⟨a.toArray⟩) (.string ⟨b.toArray⟩)).run P w = .ok v w ∧ ∀ m, RepU m u v := by
  unfold binS at h
  have e : (a == b) = decide (a = b) := by by_cases hh : a = b <;> simp [hh]
  split at h
  · refine ⟨_, h.2, .string (⟨a.toArray⟩ ++ ⟨b.toArray⟩), ?_, fun m => ?_⟩
    · have : ¬ ((((⟨a.toArray⟩ : ByteArray).size + (⟨b.toArray⟩ : ByteArray).size : Nat) : Int) > IntKind.i64.max) := by
        show ¬ (((a.toArray.size + b.toArray.size : Nat) : Int) > IntKind.i64.max)
        have : IntKind.i64.max = 9223372036854775807 := by decide
        rw [this]
        simp only [List.size_toArray]
        have := h.1
        omega
      simp only [binOp, Op.stringOp, if_neg this]
      rfl
    · have : (⟨a.toArray⟩ ++ ⟨b.toArray⟩ : ByteArray) = ⟨(a ++ b).toArray⟩ := by
        apply ByteArray.ext
        simp [ByteArray.data_append]
      rw [this]
      exact .str _
  · exact ⟨_, h, _, by simp only [binOp, Op.stringOp, toList_mk, e]; rfl, fun m => .bool _⟩
  · exact ⟨_, h, _, by simp only [binOp, Op.stringOp, toList_mk, e]; rfl, fun m => .bool _⟩
  · exact ⟨_, h, _, by simp only [binOp, Op.stringOp, toList_mk, e]; rfl, fun m => .bool _⟩
  · exact ⟨_, h, _, by simp only [binOp, Op.stringOp, toList_mk, e]; rfl, fun m => .bool _⟩
  · exact ⟨_, h, _, by simp only [binOp, Op.stringOp, toList_mk, e]; rfl, fun m => .bool _⟩
  · exact ⟨_, h, _, by simp only [binOp, Op.stringOp, toList_mk, e]; rfl, fun m => .bool _⟩
  · exact h.elim
theorem binB_run {P : Program} {op t a b ret} (w : World) (h : binB P op t a b ret) :
    ∃ u, ret u ∧ ∃ v, (binOp op t (.bool a) (.bool b)).run P w = .ok v w ∧ ∀ m, RepU m u v := by
  obtain ⟨ht, h⟩ := h
  split at h
  · exact ⟨_, h, _, run_eql_bool w t a b ht, fun m => .bool _⟩
  · exact ⟨_, h, _, run_neq_bool w t a b ht, fun m => .bool _⟩
  · exact h.elim
theorem shiftI_run {P : Program} {op k a kb b ret} (t : TypeId) (w : World) (h : shiftI op k a b ret) (hop : op = .shl ∨ op = .shr) :
    ∃ u, ret u ∧ ∃ v, (binOp op t (.int k a) (.int kb b)).run P w = .ok v w ∧ ∀ m, RepU m u v := by
  obtain ⟨h0, h⟩ := h
  have hn : ¬ b < 0 := by omega
  rcases hop with rfl | rfl
  · exact ⟨_, arith_ok h, _, by simp [binOp, Op.shift, hn], fun m => .int _ _⟩
  · rw [← Int.fdiv_eq_ediv_of_nonneg _ (Int.le_of_lt (Int.pow_pos (by omega)))] at h
    exact ⟨_, h, _, by simp [binOp, Op.shift, hn], fun m => .int _ _⟩

-- slices against nil, structs of plain cells
def isSl (P : Program) (t : TypeId) : Bool := match P.underlying t with | some (.slice _) => true | _ => false
theorem isSl_some {P : Program} {t} (h : isSl P t = true) : ∃ e, P.underlying t = some (.slice e) := by
  unfold isSl at h
  split at h
  · rename_i e hu; exact ⟨e, hu⟩
  · cases h
def nilD (op : BinOp) (b : Bool) (ret : U → Prop) : Prop :=
  match op with
  | .eql => ret (.bool b)
  | .neq => ret (.bool (!b))
  | _ => False
theorem nilD_run {P : Program} {op t b ret a c n} (w : World) (h : nilD op b ret) (ht : isSl P t = true) (hb : Option.isNone a = b) :
    ∃ u, ret u ∧ ∃ v, (binOp op t (.slice a n c) (.slice none 0 0)).run P w = .ok v w ∧ ∀ m, RepU m u v := by
  obtain ⟨e, hu⟩ := isSl_some ht
  subst hb
  unfold nilD at h
  split at h
  · exact ⟨_, h, _, Lib.run_eql_slice_nil w t e a n c 0 0 hu, fun m => .bool _⟩
  · exact ⟨_, h, _, run_neq_slice_nil_any w t e a n c 0 0 hu, fun m => .bool _⟩
  · exact h.elim
inductive Kd where
  | int | str | bool
  deriving DecidableEq
def kdOf (P : Program) (t : TypeId) : Option Kd := match P.underlying t with
  | some (.int _) => some .int
  | some .string => some .str
  | some .bool => some .bool
  | _ => none
def kdsOf (P : Program) : Nat → List Field → Option (List Kd)
  | _, [] => some []
  | i, f :: l => if f.name ≠ "_" ∧ f.offset = i then match kdOf P f.type, kdsOf P (i + 1) l with
    | some k, some ks => some (k :: ks)
    | _, _ => none else none
/-- A struct of plain cells that '==' compares. -/
def stEq (P : Program) (t : TypeId) : Option (List Kd) := match P.underlying t with
  | some (.struct fs) => if P.stoodInHeld t = false ∧ P.eqGuardType P.depth t = false then kdsOf P 0 fs.toList else none
  | _ => none
def cmpK : Kd → U → U → Option Bool
  | .int, .int k a, .int k' b => if k = k' then some (decide (a = b)) else none
  | .str, .str a, .str b => some (decide (a = b))
  | .bool, .bool a, .bool b => some (a == b)
  | _, _, _ => none
def eqUs : List Kd → List U → List U → Option Bool
  | [], [], [] => some true
  | k :: ks, x :: xs, y :: ys => match cmpK k x y, eqUs ks xs ys with
    | some a, some b => some (a && b)
    | _, _ => none
  | _, _, _ => none
theorem cmpK_run {P : Program} {t k x y r m v v'} (w : World) (hk : kdOf P t = some k) (h : cmpK k x y = some r) (hx : RepU m x v) (hy : RepU m y v') (d : Nat) :
    (Op.equalIn (d + 1) t v v').run P w = .ok r w := by
  unfold kdOf at hk
  unfold cmpK at h
  split at h
  · split at h
    · rename_i hkk
      subst hkk
      cases h
      cases hx; cases hy
      split at hk <;> first | (cases hk; done) | skip
      rename_i hu
      rw [run_equalIn_int w d t _ _ _ _ hu]
      congr 1
    · cases h
  · cases h
    cases hx; cases hy
    split at hk <;> first | (cases hk; done) | skip
    rename_i hu
    rw [run_equalIn_string w d t _ _ hu, toList_mk, toList_mk]
    congr 1
    rw [Bool.eq_iff_iff]; simp
  · cases h
    cases hx; cases hy
    split at hk <;> first | (cases hk; done) | skip
    rename_i hu
    rw [run_equalIn_bool' w d t _ _ hu]
  · cases h
theorem kdOf_part {P : Program} {t k} (h : kdOf P t = some k) (w : World) (cs : Array Value) (o : Nat) (v : Value) (hv : cs[o]? = some v) : (part t cs o).run P w = .ok v w := by
  unfold kdOf at h
  split at h <;> first | (cases h; done) | skip
  all_goals
    rename_i hu
    simp [part, isAgg, run_underlying hu, hv]
theorem eqUs_run {P : Program} (w : World) (d : Nat) (m : Mem) (as bs : List Value) : ∀ (fs : List Field) (i : Nat) (ks : List Kd) (xs ys : List U) (r : Bool), kdsOf P i fs = some ks → eqUs ks xs ys = some r →
    (∀ j u, xs[j]? = some u → ∃ v, as[i + j]? = some v ∧ RepU m u v) → (∀ j u, ys[j]? = some u → ∃ v, bs[i + j]? = some v ∧ RepU m u v) → (Op.eqFields (d + 1) as.toArray bs.toArray fs).run P w = .ok r w
  | [], i, ks, xs, ys, r, hk, h, _, _ => by
    simp [kdsOf] at hk
    subst hk
    match xs, ys, h with
    | [], [], h => simp [eqUs] at h; subst h; simp [Op.eqFields]
  | f :: fs, i, ks, xs, ys, r, hk, h, hx, hy => by
    simp only [kdsOf] at hk
    split at hk
    · rename_i hn
      split at hk
      · rename_i k ks' hk1 hk2
        cases hk
        match xs, ys, h with
        | x :: xs, y :: ys, h =>
          simp only [eqUs] at h
          split at h
          · rename_i a b ha hb
            cases h
            obtain ⟨v, hv, hrv⟩ := hx 0 x rfl
            obtain ⟨v', hv', hrv'⟩ := hy 0 y rfl
            simp only [Op.eqFields]
            rw [if_pos hn.1, hn.2]
            have e1 := kdOf_part hk1 w as.toArray i v (by simpa using hv)
            have e2 := kdOf_part hk1 w bs.toArray i v' (by simpa using hv')
            have e3 := cmpK_run w hk1 ha hrv hrv' d
            have e4 := eqUs_run w d m as bs fs (i + 1) ks' xs ys b hk2 hb (fun j u hj => by have := hx (j + 1) u (by simpa using hj); rwa [show i + (j + 1) = i + 1 + j by omega] at this)
              (fun j u hj => by have := hy (j + 1) u (by simpa using hj); rwa [show i + (j + 1) = i + 1 + j by omega] at this)
            simp only [Sem.run_bind, e1, Result.andThen_ok, e2, e3]
            cases a
            · simp
            · simpa using e4
          · cases h
      · cases hk
    · cases hk
/-- Two structs of plain cells. -/
def aggD (P : Program) (op : BinOp) (t : TypeId) (xs ys : List U) (ret : U → Prop) : Prop :=
  match stEq P t with
  | some ks => match eqUs ks xs ys with
    | some b => nilD op b ret
    | none => False
  | none => False

/-- One binary operation. -/
def binD (P : Program) (op : BinOp) (t : TypeId) (x y : D) (ret : D → Prop) : Prop :=
  match op, x, y with
  | .shl, .u (.int k a), .u (.int _ b) => shiftI .shl k a b (ret <| .u ·)
  | .shr, .u (.int k a), .u (.int _ b) => shiftI .shr k a b (ret <| .u ·)
  | op, .u (.int k a), .u (.int k' b) => k = k' ∧ binI op k a b (ret <| .u ·)
  | op, .u (.str a), .u (.str b) => binS op a b (ret <| .u ·)
  | op, .u (.bool a), .u (.bool b) => binB P op t a b (ret <| .u ·)
  | op, .u (.sl (_ :: _)), .u .nil => isSl P t = true ∧ nilD op false (ret <| .u ·)
  | op, .u .nil, .u .nil => isSl P t = true ∧ nilD op true (ret <| .u ·)
  | op, .u (.oth (.slice (some _) _ _)), .u .nil => isSl P t = true ∧ nilD op false (ret <| .u ·)
  | op, .u (.agg xs), .u (.agg ys) => aggD P op t xs ys (ret <| .u ·)
  | _, _, _ => False

theorem getD_lt (vs : List Value) {j : Nat} (h : j < vs.length) : vs.getD j undef = vs[j] := by simp [h]
theorem eqGuard_plain {P : Program} (op : BinOp) (t : TypeId) (x y : Operand) (a b : Value) (w : World) (h : ∀ c, a ≠ .agg c) (h2 : a ≠ .nilIface) :
    (eqGuard op t x y a b).run P w = .ok () w := by
  unfold eqGuard
  cases op <;> first | (simp; done) | (cases a <;> simp_all)

theorem binD_run {P : Program} {k : Kr} {op t x y ret a b} (X Y : Operand) (w : World) (h : binD P op t x y ret) (hx : Rep k x a) (hy : Rep k y b) :
    ∃ d, ret d ∧ ∃ v, (do eqGuard op t X Y a b; binOp op t a b : Sem Value).run P w = .ok v w ∧ Rep k d v := by
  have fin : ∀ {ret' : U → Prop} , (∃ u, ret' u ∧ ∃ v, (binOp op t a b).run P w = .ok v w ∧ ∀ m, RepU m u v) → (∀ u, ret' u → ret (.u u)) →
      (eqGuard op t X Y a b).run P w = .ok () w → ∃ d, ret d ∧ ∃ v, (do eqGuard op t X Y a b; binOp op t a b : Sem Value).run P w = .ok v w ∧ Rep k d v := by
    rintro ret' ⟨u, hu, v, hv, hm⟩ hr hg
    exact ⟨_, hr u hu, v, by simp [hg, hv], .u _ _ (hm _)⟩
  unfold binD at h
  split at h
  · obtain rfl := rep_int hx; obtain rfl := rep_int hy
    exact fin (shiftI_run t w h (.inl rfl)) (fun _ h => h) (eqGuard_plain _ _ _ _ _ _ _ (by simp) (by simp))
  · obtain rfl := rep_int hx; obtain rfl := rep_int hy
    exact fin (shiftI_run t w h (.inr rfl)) (fun _ h => h) (eqGuard_plain _ _ _ _ _ _ _ (by simp) (by simp))
  · obtain rfl := rep_int hx; obtain rfl := rep_int hy
    obtain ⟨rfl, h⟩ := h
    exact fin (binI_run t w h) (fun _ h => h) (eqGuard_plain _ _ _ _ _ _ _ (by simp) (by simp))
  · obtain rfl := rep_str hx; obtain rfl := rep_str hy
    exact fin (binS_run t w h) (fun _ h => h) (eqGuard_plain _ _ _ _ _ _ _ (by simp) (by simp))
  · obtain rfl := rep_bool hx; obtain rfl := rep_bool hy
    exact fin (binB_run w h) (fun _ h => h) (eqGuard_plain _ _ _ _ _ _ _ (by simp) (by simp))
  · obtain ⟨ht, h⟩ := h
    obtain rfl := rep_nil hy
    cases hx with | u _ _ hx => cases hx with
      | sl _ b o sz c f hc hxm hsz hm hr => exact fin (nilD_run w h ht rfl) (fun _ h => h) (eqGuard_plain _ _ _ _ _ _ _ (by simp) (by simp))
  · obtain ⟨ht, h⟩ := h
    obtain rfl := rep_nil hx; obtain rfl := rep_nil hy
    exact fin (nilD_run w h ht rfl) (fun _ h => h) (eqGuard_plain _ _ _ _ _ _ _ (by simp) (by simp))
  · obtain ⟨ht, h⟩ := h
    obtain rfl := rep_oth hx; obtain rfl := rep_nil hy
    exact fin (nilD_run w h ht rfl) (fun _ h => h) (eqGuard_plain _ _ _ _ _ _ _ (by simp) (by simp))
  · obtain ⟨va, hla, rfl, ha⟩ := rep_uagg hx
    obtain ⟨vb, hlb, rfl, hb⟩ := rep_uagg hy
    unfold aggD at h
    split at h
    · rename_i ks hks
      split at h
      · rename_i b heq
        unfold stEq at hks
        split at hks
        · rename_i fs hu
          split at hks
          · rename_i hc
            have hfs : P.fieldsOf t = fs := by simp [Program.fieldsOf, hu]
            have hrun : (Op.equalIn 10000 t (.agg va.toArray) (.agg vb.toArray)).run P w = .ok b w := by
              rw [run_equalIn_struct w 9999 t _ _ (by rw [hfs]; exact hu) hc.1, hfs]
              refine eqUs_run w 9998 k.mem va vb fs.toList 0 ks _ _ b hks heq (fun j u hj => ?_) (fun j u hj => ?_)
              · have hl := (List.getElem?_eq_some_iff.1 hj).1
                exact ⟨va[j]'(by omega), by rw [Nat.zero_add]; exact List.getElem?_eq_getElem _, by have := ha j u hj; rwa [getD_lt va (by omega)] at this⟩
              · have hl := (List.getElem?_eq_some_iff.1 hj).1
                exact ⟨vb[j]'(by omega), by rw [Nat.zero_add]; exact List.getElem?_eq_getElem _, by have := hb j u hj; rwa [getD_lt vb (by omega)] at this⟩
            have hg := run_eqGuard_agg (P := P) w op t X Y va.toArray vb.toArray hc.2
            unfold nilD at h
            split at h
            · exact fin (ret' := fun u => ret (.u u)) ⟨_, h, .bool b, by rw [run_eql_struct, hrun]; rfl, fun m => .bool _⟩ (fun _ h => h) hg
            · exact fin (ret' := fun u => ret (.u u)) ⟨_, h, .bool (!b), by rw [run_neq_struct, hrun]; rfl, fun m => .bool _⟩ (fun _ h => h) hg
            · exact h.elim
          · cases hks
        · cases hks
      · exact h.elim
    · exact h.elim
  · exact h.elim

def unD (op : UnOp) (x : D) (ret : D → Prop) : Prop :=
  match op, x with
  | .neg, .u (.int k n) => arith k (0 - n) (ret <| .u ·)
  | .not, .u (.bool b) => ret (.u (.bool (!b)))
  | _, _ => False
theorem unD_run {P : Program} {k : Kr} {op x ret a} (w : World) (h : unD op x ret) (hx : Rep k x a) :
    ∃ d, ret d ∧ ∃ v, (Op.unary op a).run P w = .ok v w ∧ Rep k d v := by
  unfold unD at h
  split at h
  · obtain rfl := rep_int hx
    exact ⟨_, arith_ok h, _, by simp [Op.unary, Op.intArith], .u _ _ (.int _ _)⟩
  · obtain rfl := rep_bool hx
    exact ⟨_, h, _, by simp [Op.unary], .u _ _ (.bool _)⟩
  · exact h.elim

end Go.VL
