import Derived.Test.YtkdhmbhbbciedaaGreatDoorL3
import Derived.Laws.Bits64
import Derived.IntWalk
import Derived.SizedLaws
import Derived.Shelf.Strings.Builder1
import Derived.Shelf.Strings.BuilderF
import Derived.Shelf.Strings.BuilderK
import Derived.Shelf.Strconv.Atoi
import Derived.Shelf.Strconv.Itoa0
import Derived.Shelf.Strconv.Itoa1
import Derived.Shelf.LaysM
import Derived.Shelf.Strconv.Itoa2
import Derived.Shelf.Strconv.Itoa3
import Derived.Shelf.Strconv.AtoiErrFast
import Derived.Shelf.Strconv.ParseIntEmpty
import Derived.Shelf.Strconv.AtoiFail
import Derived.Shelf.Strconv.Clone
import Derived.Shelf.Strconv.SyntaxError
import Derived.Shelf.LaysC
import Derived.Shelf.Strconv.ToError
import Derived.Shelf.Strconv.AtoiErr
import Derived.Shelf.Strconv.ErrVar
import Derived.Shelf.Strconv.Lower
import Derived.Shelf.Strconv.ParseUint10
import Derived.Shelf.Strconv.ParseUint10Empty
import Derived.Shelf.Strconv.ParseUint10Any
import Derived.Shelf.Strconv.ParseInt10
import Derived.Shelf.Strconv.AtoiLong
import Derived.Shelf.Strconv.AtoiInnerAll
import Derived.Shelf.Strconv.RangeError
import Derived.Shelf.Strconv.ToErrorRange
import Derived.Shelf.Strconv.AtoiAll
import Derived.Shelf.Strconv.ErrVarAll
import Derived.Shelf.Strings.Search1
import Derived.Shelf.Strings.Search2
import Derived.Shelf.Strings.Search3
import Derived.Shelf.Strings.Cut
import Derived.Shelf.Strings.Shaped
import Derived.Shelf.Strings.Prefix
import Derived.Shelf.Bits.Mul64
import Derived.Shelf.Unicode.DecodeSlow
import Derived.Shelf.Slices.Turned
import Derived.Test.YtkdhmbhbbciedaaGreatDoorProg
import Derived.Lib.AppendStr
import Derived.RangeFuncCalls
import Derived.Test.YtkdhmbhbbciedaaGreatDoorTie
import Derived.Test.YtkdhmbhbbciedaaGreatDoorCards
import Derived.Lib.LaidTab
import Derived.LaidSub
import Derived.Lay
set_option linter.all false
set_option maxRecDepth 100000
set_option maxHeartbeats 8000000
namespace Go.VL
open Go
section
theorem zrc {k n n' ret q} (_ : (True /\ True) = q) (h0 : n = n') : arith k n ret = arith k n' ret := by rw [h0]
theorem zsQ {op k a b a' b' ret q} (_ : (True /\ True) = q) (h0 : a = a') (h1 : b = b') : binI op k a b ret = binI op k a' b' ret := by rw [h0, h1]
theorem zsP {op a b a' b' ret q} (_ : (True /\ True) = q) (h0 : a = a') (h1 : b = b') : binS op a b ret = binS op a' b' ret := by rw [h0, h1]
theorem zsS {P op t a b a' b' ret q} (_ : (True /\ True) = q) (h0 : a = a') (h1 : b = b') : binB P op t a b ret = binB P op t a' b' ret := by rw [h0, h1]
theorem zpu {op k a b a' b' ret q} (_ : (True /\ True) = q) (h0 : a = a') (h1 : b = b') : shiftI op k a b ret = shiftI op k a' b' ret := by rw [h0, h1]
theorem zsK {op b b' ret q} (_ : (True /\ True) = q) (h0 : b = b') : nilD op b ret = nilD op b' ret := by rw [h0]
theorem zsT {P op t x y x' y' ret q} (_ : (True /\ True) = q) (h0 : x = x') (h1 : y = y') : aggD P op t x y ret = aggD P op t x' y' ret := by rw [h0, h1]
theorem zsR {P op t x y x' y' ret q} (_ : (True /\ True) = q) (h0 : x = x') (h1 : y = y') : binD P op t x y ret = binD P op t x' y' ret := by rw [h0, h1]
theorem ztN {op x x' ret q} (_ : (True /\ True) = q) (h0 : x = x') : unD op x ret = unD op x' ret := by rw [h0]
theorem zq7 {P s t x x' ret q} (_ : (True /\ True) = q) (h0 : x = x') : loadD P s t x ret = loadD P s t x' ret := by rw [h0]
theorem zjQ {P t x f x' ret q} (_ : (True /\ True) = q) (h0 : x = x') : fieldAddrD P t x f ret = fieldAddrD P t x' f ret := by rw [h0]
theorem zpA {P t x f x' ret q} (_ : (True /\ True) = q) (h0 : x = x') : fieldD P t x f ret = fieldD P t x' f ret := by rw [h0]
theorem zlX {P s t x i x' i' ret q} (_ : (True /\ True) = q) (h0 : x = x') (h1 : i = i') : indexSlD P s t x i ret = indexSlD P s t x' i' ret := by rw [h0, h1]
theorem znW {P t i i' ret q} (_ : (True /\ True) = q) (h0 : i = i') : arrAddr P t i ret = arrAddr P t i' ret := by rw [h0]
theorem zjP {P s t x i x' i' ret q} (_ : (True /\ True) = q) (h0 : x = x') (h1 : i = i') : indexAddrD P s t x i ret = indexAddrD P s t x' i' ret := by rw [h0, h1]
theorem zpz {P t x i x' i' ret q} (_ : (True /\ True) = q) (h0 : x = x') (h1 : i = i') : indexD P t x i ret = indexD P t x' i' ret := by rw [h0, h1]
theorem zsN {n lo hi n' lo' hi' ret q} (_ : (True /\ True) = q) (h0 : n = n') (h1 : lo = lo') (h2 : hi = hi') : cutD n lo hi ret = cutD n' lo' hi' ret := by rw [h0, h1, h2]
theorem zpt {P s t x lo hi x' lo' hi' ret q} (_ : (True /\ True) = q) (h0 : x = x') (h1 : lo = lo') (h2 : hi = hi') : sliceD P s t x lo hi ret = sliceD P s t x' lo' hi' ret := by rw [h0, h1, h2]
theorem zra {p a c a' c' ret q} (_ : (True /\ True) = q) (h0 : a = a') (h1 : c = c') : fillD p a c ret = fillD p a' c' ret := by rw [h0, h1]
theorem zpD {P t a a' ret q} (_ : (True /\ True) = q) (h0 : a = a') : buildD P t a ret = buildD P t a' ret := by rw [h0]
theorem zsL {P s t x x' ret q} (_ : (True /\ True) = q) (h0 : x = x') : lenD P s t x ret = lenD P s t x' ret := by rw [h0]
theorem znS {b l l' ret q} (_ : (True /\ True) = q) (h0 : l = l') : minmaxD b l ret = minmaxD b l' ret := by rw [h0]
theorem zq6 {P s t x i ok x' i' ret q} (_ : (True /\ True) = q) (h0 : x = x') (h1 : i = i') : lookD P s t x i ok ret = lookD P s t x' i' ok ret := by rw [h0, h1]
theorem zq5 {ag z r ok r' ret q} (_ : (True /\ True) = q) (h0 : r = r') : lookR ag z r ok ret = lookR ag z r' ok ret := by rw [h0]
theorem zrb {P a b x x' ret q} (_ : (True /\ True) = q) (h0 : x = x') : convD P a b x ret = convD P a b x' ret := by rw [h0]
theorem zk6 {x x' ret q} (_ : (True /\ True) = q) (h0 : x = x') : nilCheckD x ret = nilCheckD x' ret := by rw [h0]
theorem zk7 {f a b a' b' ret q} (_ : (True /\ True) = q) (h0 : a = a') (h1 : b = b') : makeFuncD f a b ret = makeFuncD f a' b' ret := by rw [h0, h1]
theorem znU {P t x x' ret q} (_ : (True /\ True) = q) (h0 : x = x') : makeIfD P t x ret = makeIfD P t x' ret := by rw [h0]
theorem zig {P x t ok x' ret q} (_ : (True /\ True) = q) (h0 : x = x') : typeAssertD P x t ok ret = typeAssertD P x' t ok ret := by rw [h0]
theorem zpB {P s op s' ret q} (_ : (True /\ True) = q) (h0 : s = s') : evPure P s op ret = evPure P s' op ret := by rw [h0]
theorem zpE {P t s d ret q} (_ : (True /\ True) = q)  : zbD P t s d ret = zbD P t s d ret := by rfl
theorem zsO {x s d x' ret q} (_ : (True /\ True) = q) (h0 : x = x') : zeO x s d ret = zeO x' s d ret := by rw [h0]
theorem zps {P t a x s a' x' ret q} (_ : (True /\ True) = q) (h0 : a = a') (h1 : x = x') : zbC P t a x s ret = zbC P t a' x' s ret := by rw [h0, h1]
theorem zih {P t n a s d a' ret q} (_ : (True /\ True) = q) (h0 : a = a') : zaj P t n a s d ret = zaj P t n a' s d ret := by rw [h0]
theorem znX {P t x y s d x' y' ret q} (_ : (True /\ True) = q) (h0 : x = x') (h1 : y = y') : za6 P t x y s d ret = za6 P t x' y' s d ret := by rw [h0, h1]
theorem zq4 {P t x y s d x' y' ret q} (_ : (True /\ True) = q) (h0 : x = x') (h1 : y = y') : zcI P t x y s d ret = zcI P t x' y' s d ret := by rw [h0, h1]
theorem zlW {P t s d ret q} (_ : (True /\ True) = q)  : zaL P t s d ret = zaL P t s d ret := by rfl
theorem znT {P t x y z s x' y' z' ret q} (_ : (True /\ True) = q) (h0 : x = x') (h1 : y = y') (h2 : z = z') : za1 P t x y z s ret = za1 P t x' y' z' s ret := by rw [h0, h1, h2]
theorem zpw {P t x s d x' ret q} (_ : (True /\ True) = q) (h0 : x = x') : zbE P t x s d ret = zbE P t x' s d ret := by rw [h0]
theorem zq3 {x s d x' ret q} (_ : (True /\ True) = q) (h0 : x = x') : nextD x s d ret = nextD x' s d ret := by rw [h0]
theorem zpv {P t z s d z' ret q} (_ : (True /\ True) = q) (h0 : z = z') : rangeS P t z s d ret = rangeS P t z' s d ret := by rw [h0]
theorem zq2 {x s d x' ret q} (_ : (True /\ True) = q) (h0 : x = x') : nextS x s d ret = nextS x' s d ret := by rw [h0]
theorem zpC {x s x' ret q} (_ : (True /\ True) = q) (h0 : x = x') : zbJ x s ret = zbJ x' s ret := by rw [h0]
theorem zpx {d d' ret q} (_ : (True /\ True) = q) (h0 : d = d') : zbG d ret = zbG d' ret := by rw [h0]
theorem zpy {P s t x y z x' y' z' ret q} (_ : (True /\ True) = q) (h0 : x = x') (h1 : y = y') (h2 : z = z') : mapEff P s t x y z ret = mapEff P s t x' y' z' ret := by rw [h0, h1, h2]
theorem zsM {P s op s' ret q} (_ : (True /\ True) = q) (h0 : s = s') : effD P s op ret = effD P s' op ret := by rw [h0]
theorem zsI {P s op s' ret q} (_ : (True /\ True) = q) (h0 : s = s') : valD P s op ret = valD P s' op ret := by rw [h0]
theorem zq8 {P Γ d op s s' ret q} (_ : (True /\ True) = q) (h0 : s = s') : zbz P Γ d op s ret = zbz P Γ d op s' ret := by rw [h0]
theorem zrf {P s f a s' ret q} (_ : (True /\ True) = q) (h0 : s = s') : CallV P s f a ret = CallV P s' f a ret := by rw [h0]
theorem zsJ {P s rs s' rs' ret q} (_ : (True /\ True) = q) (h0 : s = s') (h1 : rs = rs') : zdG P s rs ret = zdG P s' rs' ret := by rw [h0, h1]
theorem znV {α : Type} {c c' : List α} {o o' l l' f g z} (_ : (True /\ True) = z) (h : c = c') (h1 : o = o') (h2 : l = l') : cellsAt c o l f g = cellsAt c' o' l' f g := by rw [h, h1, h2]
attribute [congr] zrc zsQ zsP zsS zpu zsK zsT zsR ztN zq7 zjQ zpA zlX znW zjP zpz zsN zpt zra zpD zsL znS zq6 zq5 zrb zk6 zk7 znU zig zpB zpE zsO zps zih znX zq4 zlW znT zpw zq3 zpv zq2 zpC zpx zpy zsM zsI zq8 zrf zsJ znV
theorem zrg {P Γ f a d s s' k z} (_ : (True /\ True) = z) (h : s = s') : CallP P Γ f a d s k = CallP P Γ f a d s' k := by rw [h]
attribute [congr] zrg
end
def Cnd (p q A B : Prop) : Prop := (p -> A) /\ (q -> B)
theorem Cnd.of {p q A B : Prop} (h : p -> A) (h' : q -> B) : Cnd p q A B := ⟨h, h'⟩
theorem zcm {A B : Prop} : Cnd True False A B = A := by simp [Cnd]
theorem zcn {A B : Prop} : Cnd False True A B = B := by simp [Cnd]
theorem ztU {p q p' q' A B z : Prop} (_ : (True /\ True) = z) (h : p = p') (h' : q = q') : Cnd p q A B = Cnd p' q' A B := by rw [h, h']
def HR (P : Program) (Γ : Ctx) : List O1 -> St -> (St -> Prop) -> Prop
 | [], s, k => k s
 | o :: r, s, k => match o.guard with
  | none => zbz P Γ o.dst o.op s fun s' => HR P Γ r s' k
  | some (t, want) => match getK s.env t with
   | some (.u (.bool b)) => zal o.dst s ∧ Cnd (b = want) (b = !want)
         (zbz P Γ o.dst o.op (s.put (some t) (.u (.bool want))) fun s' => HR P Γ r s' k)
         (HR P Γ r ((s.put (some t) (.u (.bool (!want)))).put o.dst .un) k)
   | some (.u (.oth v)) => v = undef /\ zal o.dst s /\ HR P Γ r (s.put o.dst .un) k
   | _ => False
theorem zr4 {P Γ} {all : Array Oper} {k : St -> Prop} : ∀ {l : List O1} {ops : List Oper} {s}, zaQ all ops = some l -> HR P Γ l s k -> G P Γ all ops s k
 | [], ops, s, e, h => by
  cases ops with
  | nil => exact zt9 h
  | cons x l => simp only [zaQ] at e; split at e <;> simp at e
 | o :: r, ops, s, e, h => by
  obtain ⟨x, ops', rfl, hx, hr⟩ := zdy e;obtain ⟨dst, op, type, pos, after, guard⟩ := x;unfold zcs at hx;unfold HR at h;simp only at hx;cases guard with
  | none =>
   simp at hx;subst hx;exact zmY ((zdW (o := { dst, op, type, pos, after, guard := none }) h).mono fun s' h => zr4 hr h)
  | some g =>
   obtain ⟨j, b⟩ := g;simp only at hx;split at hx
   ·rename_i t ht;simp at hx;subst hx;simp only at h;split at h
    ·rename_i b' hb;obtain ⟨hp, hy, hn⟩ := h;exact zpW ht hb hp (fun e => zmY ((zdW (o := { dst, op, type, pos, after, guard := none }) (hy e)).mono fun s' h => zr4 hr h)) (fun e => zr4 hr (hn e))
    ·rename_i v hb;obtain ⟨rfl, hp, hn⟩ := h;exact zmX ht hb hp (zr4 hr hn)
    ·exact h.elim
   ·cases hx
theorem zr5 {P Γ all ops s} {k k' : St -> Prop} (h : G P Γ all ops s k) (hk : ∀ s, k s -> k' s) : G P Γ all ops s k' :=
 fun K a w h1 h2 Q hQ => h K a w h1 h2 Q fun K' a' w' s' h3 h4 h5 => hQ K' a' w' s' h3 h4 (hk _ h5)
def vs2 (P : Program) (Γ : Ctx) (Q : Exit -> St -> Prop) (R : Kt -> Exit -> St -> Prop) : Code -> Kt -> St -> Prop
 | .seq a b, k, s => vs2 P Γ Q R a (.seq b k) s
 | .block id c, k, s => vs2 P Γ Q R c (.blk id k) s
 | .skip, k, s => R k .normal s
 | .label _, k, s => R k .normal s
 | .exit id, k, s => R k (.exit id) s
 | .ret, k, s => R k .ret s
 | .cond c x y, k, s => match opd s c with
  | .u (.bool t) => Cnd (t = true) (t = false) (vs2 P Γ Q R x k s) (vs2 P Γ Q R y k s)
  | _ => False
 | .region _ l false, k, s => match zaQ l l.toList with | some l' => HR P Γ l' s (R k .normal) | none => False
 | c, k, s => V P Γ c s (zaT P Γ Q k)
theorem zj1 {P Γ Q} {R : Kt -> Exit -> St -> Prop} (hR : ∀ k e s, R k e s -> zaT P Γ Q k e s) : ∀ {c : Code} {k : Kt} {s : St}, vs2 P Γ Q R c k s -> V P Γ c s (zaT P Γ Q k)
 | .seq a b, k, s, h => zpL (zj1 hR (c := a) (by rw [vs2] at h; exact h))
 | .block id c, k, s, h => zl4 (zj1 hR (c := c) (by rw [vs2] at h; exact h))
 | .skip, k, s, h => zlf (hR _ _ _ (by rw [vs2] at h; exact h))
 | .label _, k, s, h => zpO (hR _ _ _ (by rw [vs2] at h; exact h))
 | .exit id, k, s, h => zpQ (hR _ _ _ (by rw [vs2] at h; exact h))
 | .ret, k, s, h => zn5 (hR _ _ _ (by rw [vs2] at h; exact h))
 | .cond c x y, k, s, h => by
  rw [vs2] at h;split at h
  ·rename_i t ht;exact zr1 ht (fun e => zj1 hR (h.1 e)) (fun e => zj1 hR (h.2 e))
  ·exact h.elim
 | .region id l false, k, s, h => by
  rw [vs2] at h;have := zlg (P := P) (Γ := Γ) (s := s) (Q := Q) (kt := k) (id := id) (l := l.toList) fun K hK => by
   split at h
   ·rename_i l' hl;simp only [Array.toArray_toList]
    try rw [hl]
    exact fun all ops e => zr5 (zr4 e h) fun s hs => hK _ (hR _ _ _ hs)
   ·exact h.elim
  simpa using this
 | .region _ _ true, k, s, h => by rw [vs2] at h; exact h; all_goals simp
 | .loop c, k, s, h => by rw [vs2] at h; exact h; all_goals simp
 | .rangeFunc .., k, s, h => by rw [vs2] at h; exact h; all_goals simp
 | .scope .., k, s, h => by rw [vs2] at h; exact h; all_goals simp
 | .goto .., k, s, h => by rw [vs2] at h; exact h; all_goals simp
 | .refuse .., k, s, h => by rw [vs2] at h; exact h; all_goals simp
def RN (P : Program) (Γ : Ctx) (Q : Exit -> St -> Prop) : Nat -> Kt -> Exit -> St -> Prop
 | 0, k, e, s => zaT P Γ Q k e s
 | _ + 1, .done, e, s => Q e s
 | n + 1, .seq b k, .normal, s => vs2 P Γ Q (RN P Γ Q n) b k s
 | n + 1, .seq _ k, e, s => RN P Γ Q n k e s
 | n + 1, .blk id k, .exit id', s => if id' = id then RN P Γ Q n k .normal s else RN P Γ Q n k (.exit id') s
 | n + 1, .blk _ k, e, s => RN P Γ Q n k e s
 | _ + 1, .loop I _, .normal, s => I s
 | n + 1, .loop _ k, e, s => RN P Γ Q n k e s
theorem zel {P Γ Q} : ∀ n k e s, RN P Γ Q n k e s -> zaT P Γ Q k e s
 | 0, _, _, _, h => h
 | n + 1, k, e, s, h => by
  have ih := zel (P := P) (Γ := Γ) (Q := Q) n;cases k <;> cases e <;> simp only [RN, zaT] at h ⊢ <;> first | exact h | exact ih _ _ _ h | exact zj1 ih h | (split at h <;> rename_i hc <;> first | (rw [if_pos hc]; exact ih _ _ _ h) | (rw [if_neg hc]; exact ih _ _ _ h))
def zum : Code -> Bool
 | .loop _ | .rangeFunc .. | .scope .. | .region _ _ true => false
 | _ => true
theorem zaf {P Γ Q c k s} (_ : zum c = true) (h : vs2 P Γ Q (RN P Γ Q 8) c k s) : V P Γ c s (zaT P Γ Q k) := zj1 (zel 8) h
theorem zf8 {P Γ Q c k s} (_ : zum c = true) (h : vs2 P Γ Q (RN P Γ Q 0) c k s) : V P Γ c s (zaT P Γ Q k) := zj1 (zel 0) h
theorem ztZ {P Γ c s} {Q Q' : Exit -> St -> Prop} (h : V P Γ c s Q) (hq : ∀ e s, Q e s -> Q' e s) : V P Γ c s Q' := fun K a w hin hs => by
 refine Code.wp_mono ?_ (h K a w hin hs);rintro e a' w' (⟨K', s', h2, h3, h4⟩ | h2)
 ·cases e <;> first | exact .inl ⟨K', s', h2, h3, hq _ _ h4⟩ | exact .inl ⟨K', s', h2, h3, h4⟩
 ·exact .inr h2
section
variable {P : Program} {Γ : Ctx} {Q : Exit -> St -> Prop} {R : Kt -> Exit -> St -> Prop} {k : Kt} {s s' : St} {n : Nat}
theorem zuI {l K z} (_ : (True /\ True) = z) (h : s = s') : HR P Γ l s K = HR P Γ l s' K := by rw [h]
theorem ztM {c z} (_ : (True /\ True) = z) (h : s = s') : vs2 P Γ Q R c k s = vs2 P Γ Q R c k s' := by rw [h]
theorem zuH {e z} (_ : (True /\ True) = z) (h : s = s') : RN P Γ Q n k e s = RN P Γ Q n k e s' := by rw [h]
attribute [congr] ztU zuI ztM zuH
theorem zci {K} : HR P Γ [] s K = K s := rfl
theorem zbx {d op r K} : HR P Γ (⟨d, op, none⟩ :: r) s K = zbz P Γ d op s fun s' => HR P Γ r s' K := rfl
theorem zcj {d op t want r K} : HR P Γ (⟨d, op, some (t, want)⟩ :: r) s K = match getK s.env t with
   | some (.u (.bool b)) => zal d s /\ Cnd (b = want) (b = !want)
     (zbz P Γ d op (s.put (some t) (.u (.bool want))) fun s' => HR P Γ r s' K)
     (HR P Γ r ((s.put (some t) (.u (.bool (!want)))).put d .un) K)
   | some (.u (.oth v)) => v = undef /\ zal d s /\ HR P Γ r (s.put d .un) K
   | _ => False := rfl
theorem zcd {a b : Code} : vs2 P Γ Q R (.seq a b) k s = vs2 P Γ Q R a (.seq b k) s := by rw [vs2]
theorem za7 {i} {a : Code} : vs2 P Γ Q R (.block i a) k s = vs2 P Γ Q R a (.blk i k) s := by rw [vs2]
theorem zbq : vs2 P Γ Q R .skip k s = R k .normal s := by rw [vs2]
theorem zbs {l} : vs2 P Γ Q R (.exit l) k s = R k (.exit l) s := by rw [vs2]
theorem zce : vs2 P Γ Q R .ret k s = R k .ret s := by rw [vs2]
theorem zbu {c x y} : vs2 P Γ Q R (.cond c x y) k s = match opd s c with
  | .u (.bool t) => Cnd (t = true) (t = false) (vs2 P Γ Q R x k s) (vs2 P Γ Q R y k s)
  | _ => False := by rw [vs2]
theorem zaP {i} {l : List Oper} : vs2 P Γ Q R (.region i l.toArray false) k s = match zaQ l.toArray l with | some l' => HR P Γ l' s (R k .normal) | none => False := by rw [vs2]
theorem zbt {i l} : vs2 P Γ Q R (.region i l true) k s = V P Γ (.region i l true) s (zaT P Γ Q k) := by rw [vs2] <;> simp
theorem zbr {c} : vs2 P Γ Q R (.loop c) k s = V P Γ (.loop c) s (zaT P Γ Q k) := by rw [vs2] <;> simp
theorem zfJ {e} : RN P Γ Q 0 k e s = zaT P Γ Q k e s := rfl
theorem zbw {e} : RN P Γ Q (n + 1) .done e s = Q e s := rfl
theorem zcg {b} : RN P Γ Q (n + 1) (.seq b k) .normal s = vs2 P Γ Q (RN P Γ Q n) b k s := rfl
theorem zaH {b} : RN P Γ Q (n + 1) (.seq b k) .ret s = RN P Γ Q n k .ret s := rfl
theorem zav {b i} : RN P Γ Q (n + 1) (.seq b k) (.exit i) s = RN P Γ Q n k (.exit i) s := rfl
theorem zch {i} : RN P Γ Q (n + 1) (.blk i k) .normal s = RN P Γ Q n k .normal s := rfl
theorem zaI {i} : RN P Γ Q (n + 1) (.blk i k) .ret s = RN P Γ Q n k .ret s := rfl
theorem zax {i j} : RN P Γ Q (n + 1) (.blk i k) (.exit j) s = if j = i then RN P Γ Q n k .normal s else RN P Γ Q n k (.exit j) s := rfl
theorem zbv {I} : RN P Γ Q (n + 1) (.loop I k) .normal s = I s := rfl
theorem zaw {I} : RN P Γ Q (n + 1) (.loop I k) .ret s = RN P Γ Q n k .ret s := rfl
theorem zaq {I i} : RN P Γ Q (n + 1) (.loop I k) (.exit i) s = RN P Γ Q n k (.exit i) s := rfl
end
def Pst (p : Prop) : Prop := p
theorem Pst.of {p : Prop} (h : p) : Pst p := h
theorem ztQ {p z : Prop} (_ : (True /\ True) = z) : Pst p = Pst p := rfl
attribute [congr] ztQ
def zfH (P : Program) (rs : Array ResultVar) (post : D -> Prop) (e : Exit) (s : St) : Prop := (e = .normal \/ e = .ret) /\ Pst (zdG P s rs.toList fun ds => zaV (zar ds) = true /\ post (zar ds))
theorem Fun.run {P f fn c ds post nt rs} (hf : P.funcs[f]? = some fn) (hnt : fn.ntmps = nt) (hr : fn.results = rs) (hb : fn.body = some c) (hn : ds.length <= nt)
  (h : ∀ Γ : Ctx, Γ.n0 = 0 -> V P Γ c (entry ds nt [] 0) (zaT P Γ (zfH P rs post) .done)) : Fun P f ds post := by
 subst hnt hr;exact Fun.of_body hf hb hn fun Γ hn => ztZ (h Γ hn) fun e s h => EndOK.val h.1 h.2
theorem CallP.f2 {P : Program} {Γ : Ctx} {s : St} {k : St -> Prop} {dst : Option Tmp} {fop : Operand} {args : List Operand} {f caps} {ds : List D} {L : List Nat} {v : D} (hf : zag (opd s fop) = some (f, caps)) (hret : Fun P f ds (· = v))
  (hds : zbK s (args.map (opd s) ++ caps) = some (ds, L)) (hk : zae P f = true /\ zal dst s /\ k (({ s with obs := if zaB v then s.obs else delAll s.obs L } : St).put dst v)) : CallP P Γ fop args dst s k :=
 CallP.fun_ hret hf hk.1 hds hk.2.1 fun d h => by subst h; exact hk.2.2
theorem CallV.f2 {P : Program} {s : St} {ret : D -> Prop} {fop : Operand} {args : List Operand} {f caps} {ds : List D} {L : List Nat} {v : D} (hf : zag (opd s fop) = some (f, caps)) (hret : Fun P f ds (· = v))
  (hds : zbK s (args.map (opd s) ++ caps) = some (ds, L)) (hk : zae P f = true /\ (zaB v = true \/ L = []) /\ ret v) : CallV P s fop args ret := CallV.fun_ hret hf hk.1 hds hk.2.1 hk.2.2
theorem zmd {s : St} {nx : Nat} : ∀ {l : List (Nat × Ob)} {p : Nat × Ob}, wkO s nx l -> p ∈ l -> p.1 < nx /\ getK s.obs p.1 = some p.2 /\ p.2.under nx = true
 | q :: l, p, h, hp => by
  rcases List.mem_cons.1 hp with rfl | hp
  ·exact h.1
  ·exact zmd h.2 hp
theorem zkk {P : Program} {s : St} {K K' : List D -> Prop} (hk : ∀ ds, K ds -> K' ds) {rs : List ResultVar} (h : zdG P s rs K) : zdG P s rs K' := by
 induction rs generalizing K K' with
 | nil => exact hk _ h
 | cons r rs ih =>
  cases r with
  | tmp t => exact ih (fun ds => hk _) h
  | cell a t => exact Lin.loadD.1 _ _ (fun d hd => ih (fun ds => hk _) hd) h
theorem Wk.zeX {Γ : Ctx} {s s' : St} (h : s'.n = s.n /\ Γ.n0 <= s'.next /\ wkO s s'.next s'.obs /\ wkU s'.next s'.env /\ wkE s s'.env) : Wk Γ s s' := .cut h.1 h.2.1 h.2.2.1 h.2.2.2.1 h.2.2.2.2
theorem Fun.runW {P f fn c ds post nt} (hf : P.funcs[f]? = some fn) (hnt : fn.ntmps = nt) (hb : fn.body = some c) (hn : ds.length <= nt)
  (h : ∀ Γ : Ctx, Γ.n0 = 0 -> V P Γ c (entry ds nt [] 0) (zaT P Γ (EndW P Γ fn 0 fun d _ _ => zaV d = true /\ post d) .done)) : Fun P f ds post := by subst hnt; exact Fun.of_bodyW hf hb hn h
theorem Ret.runW {P f fn c ds obs nx post nt} (hf : P.funcs[f]? = some fn) (hnt : fn.ntmps = nt) (hb : fn.body = some c) (hn : ds.length <= nt)
  (h : ∀ Γ : Ctx, Γ.n0 = nx -> V P Γ c (entry ds nt obs nx) (zaT P Γ (EndW P Γ fn nx post) .done)) : Ret P f ds obs nx post := by subst hnt; exact Ret.of_bodyW hf hb hn h
end Go.VL
namespace Go.VL
open Go
def h4s (P : Program) (R : St -> Fp4 -> Prop) (G : Prop) (dst : Option Tmp) (op : Op) (s : St) (fp : Fp4) : Prop :=
 match zbb op with
 | some _ => G
 | none => if za5 op = true then effD P s op fun e => zal dst s /\ (e.nw = none -> dst = none) /\ R (s.effS e dst) (fp ++ [(zbd s op, match e.nw with | none => (e.U.map (·.1), 0) | some _ => (s.next :: e.U.map (·.1), 0))])
  else evPure P s op fun d => zal dst s /\ R (s.put dst d) (fp ++ [(zbd s op, [], 0)])
def H4 (P : Program) (Γ : Ctx) (N : Nat) (C : Fp4 -> Prop) (k : St -> Prop) : List O1 -> St -> Fp4 -> Prop
 | [], s, fp => C fp /\ k s
 | o :: r, s, fp => match o.guard with
  | none => h4s P (H4 P Γ N C k r) (HD4 P Γ N (⟨o.dst, o.op, none⟩ :: r) s fp C k) o.dst o.op s fp
  | some (t, want) => match getK s.env t with
   | some (.u (.bool b)) => zal o.dst s ∧ Cnd (b = want) (b = !want)
         (h4s P (H4 P Γ N C k r) (zgA P Γ N ⟨o.dst, o.op, none⟩ r (s.put (some t) (.u (.bool want))) fp C k) o.dst o.op (s.put (some t) (.u (.bool want))) fp)
         (H4 P Γ N C k r ((s.put (some t) (.u (.bool (!want)))).put o.dst .un) (fp ++ [([], [], 0)]))
   | some (.u (.oth v)) => v = undef /\ zal o.dst s /\ H4 P Γ N C k r (s.put o.dst .un) (fp ++ [([], [], 0)])
   | _ => False
theorem zoh {P s op} {ret : D -> Prop} (h : zbb op = none) : valD P s op ret = evPure P s op ret := by
 cases op
 case call c =>
  obtain ⟨callee, args, ts⟩ := c;cases callee <;> first | rfl | (simp [zbb] at h)
 all_goals rfl
theorem ztI {P Γ N C k} {R : St -> Fp4 -> Prop} {dst op s fp} {r : List O1} (hR : ∀ s fp, R s fp -> HD4 P Γ N r s fp C k) (h : h4s P R (zgA P Γ N ⟨dst, op, none⟩ r s fp C k) dst op s fp) : zgA P Γ N ⟨dst, op, none⟩ r s fp C k := by
 unfold h4s at h;split at h
 ·exact h
 ·rename_i hc;split at h
  ·rename_i he;exact zrD he (Lin.effD.1 _ _ (fun e h => ⟨h.1, h.2.1, hR _ _ h.2.2⟩) h)
  ·rename_i he;refine zdb (by simpa using he) ?_;rw [zoh hc];exact Lin.evPure.1 _ _ (fun d h => ⟨h.1, hR _ _ h.2⟩) h
def zuo : List O1 -> Bool
 | ⟨_, op, none⟩ :: _ => (zbb op).isNone
 | _ => true
theorem zts {P Γ N C k} : ∀ {l s fp}, H4 P Γ N C k l s fp -> HD4 P Γ N l s fp C k
 | [], s, fp, h => ztd h.1 h.2
 | ⟨dst, op, g⟩ :: r, s, fp, h => by
  unfold H4 at h;cases g with
  | none =>
   simp only at h;by_cases hc : (zbb op).isSome = true
   ·unfold h4s at h;split at h
    ·exact h
    ·simp_all
   ·exact .of_h (ztI (fun _ _ => zts) (by
     unfold h4s at h ⊢;split at h
     ·simp_all
     ·exact h))
  | some g =>
   obtain ⟨t, want⟩ := g;simp only at h;split at h
   ·rename_i b hb;obtain ⟨hp, hy, hn⟩ := h;exact zpT hb hp (fun e => ztI (fun _ _ => zts) (hy e)) (fun e => zts (hn e))
   ·rename_i v hb;obtain ⟨rfl, hp, hn⟩ := h;exact zn6 hb hp (zts hn)
   ·exact h.elim
theorem zc7 {P Γ N C k l s fp} (_ : zuo l = true) (h : H4 P Γ N C k l s fp) : HD4 P Γ N l s fp C k := zts h
theorem zeW {P Γ s} {Q : Exit -> St -> Prop} {kt : Kt} {id : Nat} {l : List Oper} (hm : P.follows .mixedOrders = true) (hord : zh8 l = true) (hn0 : Γ.n0 <= s.next)
  (h : ∀ (C : Fp4 -> Prop) (k : St -> Prop), (∀ fp, zrQ l fp = true -> C fp) -> (∀ s', zaT P Γ Q kt .normal s' -> k s') -> match zaQ l.toArray l with | some l' => H4 P Γ s.next C k l' s [] | none => False) :
  V P Γ (.region id l.toArray true) s (zaT P Γ Q kt) := zs2 hm hord hn0 fun C k hC hk => by
 have := h C k hC hk;split at this
 ·rename_i l' hl
  (try rw [hl])
  exact zts this
 ·exact this.elim
section
variable {P : Program} {Γ : Ctx} {N : Nat} {C : Fp4 -> Prop} {k : St -> Prop} {s s' : St} {fp fp' : Fp4}
theorem zuK {l z} (_ : (True /\ True) = z) (h : s = s') (h' : fp = fp') : H4 P Γ N C k l s fp = H4 P Γ N C k l s' fp' := by rw [h, h']
theorem ztO {R G d op z} (_ : (True /\ True) = z) (h : s = s') (h' : fp = fp') : h4s P R G d op s fp = h4s P R G d op s' fp' := by rw [h, h']
theorem ztR {l z} (_ : (True /\ True) = z) (h : s = s') (h' : fp = fp') : HD4 P Γ N l s fp C k = HD4 P Γ N l s' fp' C k := by rw [h, h']
theorem zsV {o l z} (_ : (True /\ True) = z) (h : s = s') (h' : fp = fp') : zgA P Γ N o l s fp C k = zgA P Γ N o l s' fp' C k := by rw [h, h']
attribute [congr] zuK ztO ztR zsV
theorem zck : H4 P Γ N C k [] s fp = (C fp /\ k s) := rfl
theorem zby {d op r} : H4 P Γ N C k (⟨d, op, none⟩ :: r) s fp = h4s P (H4 P Γ N C k r) (HD4 P Γ N (⟨d, op, none⟩ :: r) s fp C k) d op s fp := rfl
theorem zcl {d op r t want} : H4 P Γ N C k (⟨d, op, some (t, want)⟩ :: r) s fp = match getK s.env t with
   | some (.u (.bool b)) => zal d s /\ Cnd (b = want) (b = !want)
     (h4s P (H4 P Γ N C k r) (zgA P Γ N ⟨d, op, none⟩ r (s.put (some t) (.u (.bool want))) fp C k) d op (s.put (some t) (.u (.bool want))) fp)
     (H4 P Γ N C k r ((s.put (some t) (.u (.bool (!want)))).put d .un) (fp ++ [([], [], 0)]))
   | some (.u (.oth v)) => v = undef /\ zal d s /\ H4 P Γ N C k r (s.put d .un) (fp ++ [([], [], 0)])
   | _ => False := rfl
end
theorem EndW.z {P : Program} {Γ : Ctx} {fn : Func} {n0 N : Nat} {post : D -> List (Nat × Ob) -> Nat -> Prop} {e : Exit} {s : St} {rs : Array ResultVar} (O : List (Nat × Ob)) (hr : fn.results = rs)
  (h : (e = .normal \/ e = .ret) /\ n0 <= N /\ wkO s N O) (h3 : zdG P s rs.toList fun ds => (zar ds).under N = true /\ post (zar ds) O N) : EndW P Γ fn n0 post e s := by
 subst hr;refine .here (.fin h.1 ?_);obtain ⟨_, h1, h2⟩ := h;exact zkk (fun ds h => FinOK.cut O N (fun p hp => ⟨(zmd h2 hp).2.1, (zmd h2 hp).1, (zmd h2 hp).2.2⟩) h.1 h1 h.2) h3
theorem EndW.h {P : Program} {Γ : Ctx} {fn : Func} {n0 : Nat} {post : D -> List (Nat × Ob) -> Nat -> Prop} {e : Exit} {s : St} {rs : Array ResultVar} (hr : fn.results = rs)
  (h : (e = .normal \/ e = .ret) /\ n0 <= s.next /\ zdG P s rs.toList fun ds => post (zar ds) s.obs s.next) : EndW P Γ fn n0 post e s := by
 subst hr;exact .here (.fin h.1 (zkk (fun ds h' => FinOK.here h.2.1 h') h.2.2))
theorem PanG.k {Γ : Ctx} {post : Out -> List (Nat × Ob) -> Nat -> Prop} {ch : List PanicEntry} {s : St} (O : List (Nat × Ob)) (N : Nat) (h : Γ.n0 <= N /\ wkO s N O) (hp : post (.pan ch) O N) : PanG Γ post ch s :=
 ⟨⟨s.n, [], O, N⟩, Wk.cut rfl h.1 h.2 trivial trivial, h.1, hp⟩
theorem RetX.runW {P f fn c ds obs nx post nt} (hf : P.funcs[f]? = some fn) (hnt : fn.ntmps = nt) (hb : fn.body = some c) (hn : ds.length <= nt)
  (h : ∀ Γ : Ctx, Γ.n0 = nx -> (∀ ch s, PanG Γ post ch s -> Γ.pan ch s) -> V P Γ c (entry ds nt obs nx) (zaT P Γ (EndW P Γ fn nx fun d o n => post (.val d) o n) .done)) : RetX P f ds obs nx post := by
 subst hnt; exact RetX.of_bodyW hf hb hn h
end Go.VL
namespace Go.Pm
end Go.Pm
namespace Go.Pm
open Go Go.VL
end Go.Pm
namespace Go.VL
open Go
open Go.ChangeShapes Go.WideShapes Go.ChangeAt Go.WideMaps Go.WideElems Go.RowKit
theorem zo1 {H : Type} {enc : TypeId × Value -> H} {C : Checked} {os : Os} {f : FuncId} {fn : Func} {s : ChangeSpec} {conds : List PathCond} {apart fresh handsOn again : Bool} {tb : TypeId} {laid : List (String × DataW Unit)}
  (own : ownKnob C.prog.godebug = none) (started : os.Started) (noInit : C.prog.inits.idxOf? f = none) (hfn : C.prog.funcs[f]? = some fn)
  (witness : ∃ (w : World) (tape : Tape) (i : Input), w.os = os /\ (w.forCall tape i).Shaped C.prog /\ i.vars = [] /\ Input.okWide C.prog (w.forCall tape i) .any w.heap.size f i /\
    ((s.pre enc C.prog fn conds apart (w.forCall tape i).memory i.args /\ laidMetH C.prog laid (w.forCall tape i).memory) /\ sizedMet enc C.prog fn (OpenSpec.ofChange s) apart (w.forCall tape i).memory i.args) /\ (({} : Assume)).holds C.prog (lone (Frame.enter C.prog f i.args .normal) [] (w.forCall tape i)))
  (hl : laidOutB C.prog = true) (hseq : ziu C.prog = true) (hpar : (fn.params.toList.all fun t => C.prog.readableRec t && decide (t < C.prog.types.size)) = true)
  (hvars : s.vars = []) (hspec : ∀ ds : List (DataW H), ds.length = fn.params.size -> s.fn H ds = { results := [.lit (.bool true)], args := ds })
  (hres : fn.resultTypes = #[tb]) (htb : C.prog.underlying tb = some .bool)
  {t0 e0 : TypeId} {ts0 : List TypeId} (hp0 : fn.params.toList = t0 :: ts0) (hu0 : C.prog.underlying t0 = some (.slice e0))
  (hfun : ∀ us : List U, zrJ C.prog fn.params.toList us -> (∀ rows rest, us = .sl rows :: rest -> rows.length * C.prog.bytesOf e0 <= reachBytes) -> Fun C.prog f (us.map .u) (· = .u (.bool true))) (hglob : ∀ W : World, laidMetH C.prog laid W -> GlobIn (zj0 W)) :
  ReturnsInHanded {} C os f .any (fun w args => (s.pre enc C.prog fn conds apart w args /\ laidMetH C.prog laid w) /\ sizedMet enc C.prog fn (OpenSpec.ofChange s) apart w args) (s.post enc C.prog fn apart fresh handsOn again) := by
 refine returnsInHanded_of_change_and (X := fun w _ => laidMetH C.prog laid w) (fun _ _ _ hh h => h.of_heap hh) own started noInit hfn witness ?_;intro W base args ds gs before hval hW _ hwt hL _;have hpar' : ∀ t ∈ fn.params.toList, C.prog.readableRec t = true /\ t < C.prog.types.size := by
  intro t ht;have := List.all_eq_true.1 hpar t ht;simpa using this
 have hW' := hW;obtain ⟨p, q, hA, hV, rfl, hfz, hnd⟩ := hW;rw [hvars] at hV;obtain ⟨rfl, rfl⟩ := trodVars_none hV;have hlt : ∀ x ∈ p, x.block < W.heap.size := fun x hx => hW'.lt x (by simp [hx]);obtain ⟨us, h1, h2, _⟩ := zmU hseq hA (fun t ht => (hpar' t ht).2) (fun j t v ht hv => hval j t v (by simpa using ht) (by simpa using hv));have hbig : ∀ rows rest, us = .sl rows :: rest -> rows.length * C.prog.bytesOf e0 <= reachBytes := by
  intro rows rest hus;have hA0 := hA;rw [hp0] at hA0;generalize args.toList = vs at hA0 h2
  match vs, ds, hA0, hwt with
  | v :: vs, d :: ds, hA0, hwt =>
   obtain ⟨p1, q1, ⟨fuel, htr⟩, _, _⟩ := hA0;have hrep := h2.2 0 (.sl rows) (by rw [hus]; rfl);have hrep2 : RepU (zj0 W) (.sl rows) v := by simpa using hrep
   cases hrep2 with
   | slE a c h => simp
   | sl _ b o sz c f hc hx hsz hm hr =>
    rcases DataW.trod_slice hu0 htr with ⟨h3, h4⟩ | ⟨a, len, cap, elems, rest', n, _, h3, h4, _, _, _, h5, _⟩
    ·simp [Value.cells] at h3
    ·simp [Value.cells] at h3;obtain ⟨_, h6, _⟩ := h3;simp only [Prod.mk.injEq] at h4;obtain ⟨rfl, _⟩ := h4;have := sized_slice (j := 0) (elems := elems.map (·.1)) (spare := rest'.map (·.1)) hwt (by rw [hp0]; rfl) rfl hu0;simp only [List.length_map] at this;have h7 : elems.length * C.prog.bytesOf e0 <= (elems.length + rest'.length) * C.prog.bytesOf e0 := Nat.mul_le_mul_right _ (by omega);rw [h5, <- h6] at h7;rw [h5, <- h6] at this;omega
 refine (zk8 (hfun us h1 hbig) (hglob W hL) h2).mono ?_;rintro e W' ⟨rfl, hb⟩;have hdl : ds.length = fn.params.size := by
  have : ∀ {ts : List TypeId} {vs : List Value} {ds : List (DataW H)} {p : List MemPlace}, DataW.TrodAll enc C.prog W 0 (fun _ => true) true ts vs ds p -> ds.length = ts.length := by
   intro ts
   induction ts with
   | nil => intro vs ds p h; cases vs <;> cases ds <;> simp_all [DataW.TrodAll]
   | cons t ts ih =>
    intro vs ds p h;cases vs <;> cases ds <;> simp only [DataW.TrodAll] at h;obtain ⟨p, q, _, h2, _⟩ := h;simp [ih h2]
  simpa using this hA
 have hs := hspec ds hdl;refine ⟨_, rfl, znf (pa := p) (pv := []) hW' (fun b sp hd => ?_) (fun sp hsp => ?_) (fun sp _ => ?_) rfl hb (fun j t r ht hr => ?_)⟩
 ·rw [List.append_nil, hs, hres];exact trodAll_mk1 ⟨1, by simp [DataW.trod, Value.cells, htb]⟩
 ·rw [List.append_nil, hs];exact zfL hl hb hpar' hA hlt fun x hx => hsp x (by simp [hx])
 ·rw [List.append_nil, hs, hvars]
  try rfl
 ·rw [hres] at ht hr;cases j with
  | zero =>
   simp at ht;subst ht;simp [Value.resultList] at hr;subst hr;simp [Value.okWide, htb, Cell.okWide, Cell.ok]
  | succ j => simp at ht
end Go.VL
namespace Go.Proofs
open Go.Shelf
def Tryz.zfG : Go.Shelf.Ren := ⟨fun | 169 => 51 | n => n, fun | 70 => 85 | 9 => 9 | 0 => 0 | 72 => 88 | 37 => 86 | 127 => 119 | 3 => 3 | 5 => 5 | n => n, fun | n => n⟩
theorem Tryz.zs5 : Go.Proofs.Lays.n169 Tryz.prog Tryz.zfG := {
 mixed := by kernel_rfl
 f169 := Tryz.func51.trans (congrArg some (by kernel_rfl))
 t0 := Tryz.underlying0
 a0 := Tryz.isAgg0
 z0 := Tryz.sizeOf0
 v0 := Tryz.zeroValue0
 t3 := Tryz.underlying3
 a3 := Tryz.isAgg3
 z3 := Tryz.sizeOf3
 v3 := Tryz.zeroValue3
 t9 := Tryz.underlying9
 a9 := Tryz.isAgg9
 z9 := Tryz.sizeOf9
 v9 := Tryz.zeroValue9
 t37 := Tryz.underlying86
 a37 := Tryz.isAgg86
 z37 := Tryz.sizeOf86
 v37 := Tryz.zeroValue86
 t70 := Tryz.underlying85
 a70 := Tryz.isAgg85
 z70 := Tryz.sizeOf85
 v70 := Tryz.zeroValue85
 t72 := Tryz.underlying88
 a72 := Tryz.isAgg88
 z72 := Tryz.sizeOf88
 v72 := Tryz.zeroValue88
 t127 := Tryz.underlying119
 a127 := Tryz.isAgg119
 z127 := Tryz.sizeOf119
 v127 := Tryz.zeroValue119 }
theorem Tryz.zgz : Builder.Extra Tryz.prog Tryz.zfG := {
 sizeBuilder := by kernel_rfl
 liesBuilder := by kernel_rfl
 t5 := Tryz.underlying5
 a5 := Tryz.isAgg5
 z5 := Tryz.sizeOf5
 v5 := Tryz.zeroValue5
 infoByte := by kernel_rfl
 cellsByte := by kernel_rfl
 sizeByte := by kernel_rfl
 neB5 := by decide }
def Tryz.zlh : Go.Shelf.Ren := ⟨fun | 171 => 84 | 243 => 130 | 246 => 158 | 283 => 175 | 284 => 176 | 285 => 177 | 286 => 178 | 129 => 185 | 317 => 184 | 318 => 186 | 319 => 187 | 320 => 188 | 337 => 190 | 338 => 191 | n => n, fun | 3 => 3 | 9 => 9 | 2 => 2 | 4 => 4 | 171 => 221 | 0 => 0 | 53 => 191 | 37 => 86 | 5 => 5 | 173 => 224 | 212 => 227 | 51 => 214 | 20 => 20 | 213 => 228 | 46 => 190 | 232 => 231 | 233 => 232 | n => n, fun | 17 => 9 | 18 => 10 | 19 => 11 | n => n⟩
theorem Tryz.zrx : Go.Proofs.LaysM.n171 Tryz.prog Tryz.zlh := {
 mixed := by kernel_rfl
 f129 := Tryz.func185.trans (congrArg some (by kernel_rfl))
 f171 := Tryz.func84.trans (congrArg some (by kernel_rfl))
 f243 := Tryz.func130.trans (congrArg some (by kernel_rfl))
 f246 := Tryz.func158.trans (congrArg some (by kernel_rfl))
 f283 := Tryz.func175.trans (congrArg some (by kernel_rfl))
 f284 := Tryz.func176.trans (congrArg some (by kernel_rfl))
 f285 := Tryz.func177.trans (congrArg some (by kernel_rfl))
 f286 := Tryz.func178.trans (congrArg some (by kernel_rfl))
 f317 := Tryz.func184.trans (congrArg some (by kernel_rfl))
 f318 := Tryz.func186.trans (congrArg some (by kernel_rfl))
 f319 := Tryz.func187.trans (congrArg some (by kernel_rfl))
 f320 := Tryz.func188.trans (congrArg some (by kernel_rfl))
 f337 := Tryz.func190.trans (congrArg some (by kernel_rfl))
 f338 := Tryz.func191.trans (congrArg some (by kernel_rfl))
 t0 := Tryz.underlying0
 a0 := Tryz.isAgg0
 z0 := Tryz.sizeOf0
 v0 := Tryz.zeroValue0
 t2 := Tryz.underlying2
 a2 := Tryz.isAgg2
 z2 := Tryz.sizeOf2
 v2 := Tryz.zeroValue2
 t3 := Tryz.underlying3
 a3 := Tryz.isAgg3
 z3 := Tryz.sizeOf3
 v3 := Tryz.zeroValue3
 t4 := Tryz.underlying4
 a4 := Tryz.isAgg4
 z4 := Tryz.sizeOf4
 v4 := Tryz.zeroValue4
 t5 := Tryz.underlying5
 a5 := Tryz.isAgg5
 z5 := Tryz.sizeOf5
 v5 := Tryz.zeroValue5
 t9 := Tryz.underlying9
 a9 := Tryz.isAgg9
 z9 := Tryz.sizeOf9
 v9 := Tryz.zeroValue9
 t20 := Tryz.underlying20
 a20 := Tryz.isAgg20
 z20 := Tryz.sizeOf20
 v20 := Tryz.zeroValue20
 t37 := Tryz.underlying86
 a37 := Tryz.isAgg86
 z37 := Tryz.sizeOf86
 v37 := Tryz.zeroValue86
 t46 := Tryz.underlying190
 a46 := Tryz.isAgg190
 z46 := Tryz.sizeOf190
 v46 := Tryz.zeroValue190
 t51 := Tryz.underlying214
 a51 := Tryz.isAgg214
 z51 := Tryz.sizeOf214
 v51 := Tryz.zeroValue214
 t53 := Tryz.underlying191
 a53 := Tryz.isAgg191
 z53 := Tryz.sizeOf191
 v53 := Tryz.zeroValue191
 t171 := Tryz.underlying221
 a171 := Tryz.isAgg221
 z171 := Tryz.sizeOf221
 v171 := Tryz.zeroValue221
 t173 := Tryz.underlying224
 a173 := Tryz.isAgg224
 z173 := Tryz.sizeOf224
 v173 := Tryz.zeroValue224
 t212 := Tryz.underlying227
 a212 := Tryz.isAgg227
 z212 := Tryz.sizeOf227
 v212 := Tryz.zeroValue227
 t213 := Tryz.underlying228
 a213 := Tryz.isAgg228
 z213 := Tryz.sizeOf228
 t232 := Tryz.underlying231
 a232 := Tryz.isAgg231
 z232 := Tryz.sizeOf231
 v232 := Tryz.zeroValue231
 t233 := Tryz.underlying232
 a233 := Tryz.isAgg232
 z233 := Tryz.sizeOf232
 v233 := Tryz.zeroValue232
 g17 := by kernel_rfl
 g18 := by kernel_rfl
 g19 := by kernel_rfl
 i0 := by kernel_rfl
 i2 := by kernel_rfl
 i3 := by kernel_rfl
 i4 := by kernel_rfl
 i5 := by kernel_rfl
 i9 := by kernel_rfl
 i20 := by kernel_rfl
 i37 := by kernel_rfl
 i46 := by kernel_rfl
 i51 := by kernel_rfl
 i53 := by kernel_rfl
 i171 := by kernel_rfl
 i173 := by kernel_rfl
 i212 := by kernel_rfl
 i232 := by kernel_rfl
 i233 := by kernel_rfl
 m17 := by kernel_rfl
 m18 := by kernel_rfl
 m19 := by kernel_rfl }
open Go.RowKit Go.Sort Go.Lib in
theorem Tryz.strconv_Itoa (n : Int) (h0 : -9223372036854775808 <= n) (h1 : n <= 9223372036854775807) (w : World) (htab : Lib.TabIs Tryz.prog w "internal/strconv.uint64pow10" .u64 Lib.pow10Tab) :
  Calls Tryz.prog 84 #[.int .i64 n] w fun e w' => e = .returned (.string ⟨(Lib.itoa n).toArray⟩) /\ ∃ k os, w' = grow (w.drewN k) os := Any.strconv_Itoa Tryz.zrx n h0 h1 w htab
def Tryz.zli : Go.Shelf.Ren := ⟨fun | 172 => 45 | 244 => 78 | 245 => 79 | 247 => 120 | 279 => 121 | 280 => 122 | 281 => 123 | 282 => 124 | 287 => 149 | 316 => 150 | 171 => 84 | 205 => 151 | 321 => 173 | 322 => 174 | 243 => 130 | 246 => 158 | 283 => 175 | 284 => 176 | 285 => 177 | 286 => 178 | 129 => 185 | 317 => 184 | 318 => 186 | 319 => 187 | 320 => 188 | 337 => 190 | 338 => 191 | n => n, fun | 9 => 9 | 3 => 3 | 75 => 78 | 76 => 79 | 4 => 4 | 5 => 5 | 167 => 156 | 37 => 86 | 0 => 0 | 85 => 157 | 2 => 2 | 168 => 159 | 53 => 191 | 175 => 192 | 46 => 190 | 210 => 196 | 127 => 119 | 145 => 220 | 143 => 218 | 21 => 21 | 171 => 221 | 173 => 224 | 212 => 227 | 51 => 214 | 20 => 20 | 213 => 228 | 232 => 231 | 233 => 232 | 80 => 90 | n => n, fun | 15 => 2 | 16 => 3 | 17 => 9 | 18 => 10 | 19 => 11 | n => n⟩
theorem Tryz.zjY : Go.Proofs.LaysC.n172 Tryz.prog Tryz.zli := {
 mixed := by kernel_rfl
 f129 := Tryz.func185.trans (congrArg some (by kernel_rfl))
 f171 := Tryz.func84.trans (congrArg some (by kernel_rfl))
 f172 := Tryz.func45.trans (congrArg some (by kernel_rfl))
 f205 := Tryz.func151.trans (congrArg some (by kernel_rfl))
 f243 := Tryz.func130.trans (congrArg some (by kernel_rfl))
 f244 := Tryz.func78.trans (congrArg some (by kernel_rfl))
 f245 := Tryz.func79.trans (congrArg some (by kernel_rfl))
 f246 := Tryz.func158.trans (congrArg some (by kernel_rfl))
 f247 := Tryz.func120.trans (congrArg some (by kernel_rfl))
 f279 := Tryz.func121.trans (congrArg some (by kernel_rfl))
 f280 := Tryz.func122.trans (congrArg some (by kernel_rfl))
 f281 := Tryz.func123.trans (congrArg some (by kernel_rfl))
 f282 := Tryz.func124.trans (congrArg some (by kernel_rfl))
 f283 := Tryz.func175.trans (congrArg some (by kernel_rfl))
 f284 := Tryz.func176.trans (congrArg some (by kernel_rfl))
 f285 := Tryz.func177.trans (congrArg some (by kernel_rfl))
 f286 := Tryz.func178.trans (congrArg some (by kernel_rfl))
 f287 := Tryz.func149.trans (congrArg some (by kernel_rfl))
 f316 := Tryz.func150.trans (congrArg some (by kernel_rfl))
 f317 := Tryz.func184.trans (congrArg some (by kernel_rfl))
 f318 := Tryz.func186.trans (congrArg some (by kernel_rfl))
 f319 := Tryz.func187.trans (congrArg some (by kernel_rfl))
 f320 := Tryz.func188.trans (congrArg some (by kernel_rfl))
 f321 := Tryz.func173.trans (congrArg some (by kernel_rfl))
 f322 := Tryz.func174.trans (congrArg some (by kernel_rfl))
 f337 := Tryz.func190.trans (congrArg some (by kernel_rfl))
 f338 := Tryz.func191.trans (congrArg some (by kernel_rfl))
 t0 := Tryz.underlying0
 a0 := Tryz.isAgg0
 z0 := Tryz.sizeOf0
 v0 := Tryz.zeroValue0
 t2 := Tryz.underlying2
 a2 := Tryz.isAgg2
 z2 := Tryz.sizeOf2
 v2 := Tryz.zeroValue2
 t3 := Tryz.underlying3
 a3 := Tryz.isAgg3
 z3 := Tryz.sizeOf3
 v3 := Tryz.zeroValue3
 t4 := Tryz.underlying4
 a4 := Tryz.isAgg4
 z4 := Tryz.sizeOf4
 v4 := Tryz.zeroValue4
 t5 := Tryz.underlying5
 a5 := Tryz.isAgg5
 z5 := Tryz.sizeOf5
 v5 := Tryz.zeroValue5
 t9 := Tryz.underlying9
 a9 := Tryz.isAgg9
 z9 := Tryz.sizeOf9
 v9 := Tryz.zeroValue9
 t20 := Tryz.underlying20
 a20 := Tryz.isAgg20
 z20 := Tryz.sizeOf20
 v20 := Tryz.zeroValue20
 t21 := Tryz.underlying21
 a21 := Tryz.isAgg21
 z21 := Tryz.sizeOf21
 v21 := Tryz.zeroValue21
 t37 := Tryz.underlying86
 a37 := Tryz.isAgg86
 z37 := Tryz.sizeOf86
 v37 := Tryz.zeroValue86
 t46 := Tryz.underlying190
 a46 := Tryz.isAgg190
 z46 := Tryz.sizeOf190
 v46 := Tryz.zeroValue190
 t51 := Tryz.underlying214
 a51 := Tryz.isAgg214
 z51 := Tryz.sizeOf214
 v51 := Tryz.zeroValue214
 t53 := Tryz.underlying191
 a53 := Tryz.isAgg191
 z53 := Tryz.sizeOf191
 v53 := Tryz.zeroValue191
 t75 := Tryz.underlying78
 a75 := Tryz.isAgg78
 z75 := Tryz.sizeOf78
 v75 := Tryz.zeroValue78
 t76 := Tryz.underlying79
 a76 := Tryz.isAgg79
 z76 := Tryz.sizeOf79
 v76 := Tryz.zeroValue79
 t85 := Tryz.underlying157
 a85 := Tryz.isAgg157
 z85 := Tryz.sizeOf157
 v85 := Tryz.zeroValue157
 t127 := Tryz.underlying119
 a127 := Tryz.isAgg119
 z127 := Tryz.sizeOf119
 v127 := Tryz.zeroValue119
 t143 := Tryz.underlying218
 a143 := Tryz.isAgg218
 z143 := Tryz.sizeOf218
 v143 := Tryz.zeroValue218
 t145 := Tryz.underlying220
 a145 := Tryz.isAgg220
 z145 := Tryz.sizeOf220
 v145 := Tryz.zeroValue220
 t167 := Tryz.underlying156
 a167 := Tryz.isAgg156
 z167 := Tryz.sizeOf156
 v167 := Tryz.zeroValue156
 t168 := Tryz.underlying159
 a168 := Tryz.isAgg159
 z168 := Tryz.sizeOf159
 v168 := Tryz.zeroValue159
 t171 := Tryz.underlying221
 a171 := Tryz.isAgg221
 z171 := Tryz.sizeOf221
 v171 := Tryz.zeroValue221
 t173 := Tryz.underlying224
 a173 := Tryz.isAgg224
 z173 := Tryz.sizeOf224
 v173 := Tryz.zeroValue224
 t175 := Tryz.underlying192
 a175 := Tryz.isAgg192
 z175 := Tryz.sizeOf192
 v175 := Tryz.zeroValue192
 t210 := Tryz.underlying196
 a210 := Tryz.isAgg196
 z210 := Tryz.sizeOf196
 v210 := Tryz.zeroValue196
 t212 := Tryz.underlying227
 a212 := Tryz.isAgg227
 z212 := Tryz.sizeOf227
 v212 := Tryz.zeroValue227
 t213 := Tryz.underlying228
 a213 := Tryz.isAgg228
 z213 := Tryz.sizeOf228
 t232 := Tryz.underlying231
 a232 := Tryz.isAgg231
 z232 := Tryz.sizeOf231
 v232 := Tryz.zeroValue231
 t233 := Tryz.underlying232
 a233 := Tryz.isAgg232
 z233 := Tryz.sizeOf232
 v233 := Tryz.zeroValue232
 g15 := by kernel_rfl
 g16 := by kernel_rfl
 g17 := by kernel_rfl
 g18 := by kernel_rfl
 g19 := by kernel_rfl
 t80 := Tryz.underlying90
 a80 := Tryz.isAgg90
 z80 := Tryz.sizeOf90
 v80 := Tryz.zeroValue90
 i0 := by kernel_rfl
 i2 := by kernel_rfl
 i3 := by kernel_rfl
 i4 := by kernel_rfl
 i5 := by kernel_rfl
 i9 := by kernel_rfl
 i20 := by kernel_rfl
 i21 := by kernel_rfl
 i37 := by kernel_rfl
 i46 := by kernel_rfl
 i51 := by kernel_rfl
 i53 := by kernel_rfl
 i75 := by kernel_rfl
 i76 := by kernel_rfl
 i80 := by kernel_rfl
 i85 := by kernel_rfl
 i127 := by kernel_rfl
 i143 := by kernel_rfl
 i145 := by kernel_rfl
 i167 := by kernel_rfl
 i168 := by kernel_rfl
 i171 := by kernel_rfl
 i173 := by kernel_rfl
 i175 := by kernel_rfl
 i210 := by kernel_rfl
 i212 := by kernel_rfl
 i232 := by kernel_rfl
 i233 := by kernel_rfl
 m15 := by kernel_rfl
 m16 := by kernel_rfl
 m17 := by kernel_rfl
 m18 := by kernel_rfl
 m19 := by kernel_rfl
 c0 := by kernel_rfl
 c2 := by kernel_rfl
 c3 := by kernel_rfl
 c4 := by kernel_rfl
 c5 := by kernel_rfl
 c9 := by kernel_rfl
 c20 := by kernel_rfl
 c21 := by kernel_rfl
 c37 := by kernel_rfl
 c46 := by kernel_rfl
 c51 := by kernel_rfl
 c53 := by kernel_rfl
 c75 := by kernel_rfl
 c76 := by kernel_rfl
 c80 := by kernel_rfl
 c85 := by kernel_rfl
 c127 := by kernel_rfl
 c143 := by kernel_rfl
 c145 := by kernel_rfl
 c167 := by kernel_rfl
 c168 := by kernel_rfl
 c171 := by kernel_rfl
 c173 := by kernel_rfl
 c175 := by kernel_rfl
 c210 := by kernel_rfl
 c212 := by kernel_rfl
 c213 := by kernel_rfl
 c232 := by kernel_rfl
 c233 := by kernel_rfl }
open Go.RowKit in
theorem Tryz.strconv_Atoi_ok (s : ByteArray) (hmax : s.size <= 9223372036854775806) (v : Int) (h : Lib.atoiAll s.data.toList = .ok v) (w : World) :
  Calls Tryz.prog 45 #[.string s] w fun e w' => e = .returned (.tuple #[.int .i64 v, .nilIface]) /\ (w' = w \/ ∃ t, w' = Lib.bytesWorld w 5 t) := Any.strconv_Atoi_ok Tryz.zjY s hmax v h w
open Go.RowKit in
theorem Tryz.strconv_Atoi_syntax (s : ByteArray) (hlim : s.size <= 281474976710656) (h0 : match Lib.atoiAll s.data.toList with | .ok _ => False | .range => False | _ => True) (ev : Value) (w : World) (hv : w.cell? ⟨2, 0, none⟩ = some ev) (hev : ev = .nilIface \/ ∃ te pe, ev = .iface te pe) :
  Calls Tryz.prog 45 #[.string s] w fun e w' => ∃ N, e = .returned (.tuple #[.int .i64 (0), .iface 159 (.pointer (some ⟨N, 0, none⟩))]) /\ w.heap.size <= N /\ w'.heap[N]? = some (.cells #[.string ⟨#[65, 116, 111, 105]⟩, .string s, ev] 196 (0, 0)) /\ Below w.heap.size w w' := Any.strconv_Atoi_syntax Tryz.zjY s hlim (by revert h0; cases Lib.atoiAll s.data.toList <;> simp) ev w hv hev
open Go.RowKit in
theorem Tryz.strconv_Atoi_range (s : ByteArray) (hlim : s.size <= 281474976710656) (h : Lib.atoiAll s.data.toList = .range) (ev : Value) (w : World) (hv : w.cell? ⟨3, 0, none⟩ = some ev) (hev : ev = .nilIface \/ ∃ te pe, ev = .iface te pe) :
  Calls Tryz.prog 45 #[.string s] w fun e w' => ∃ N, e = .returned (.tuple #[.int .i64 (Lib.atoiSat s.data.toList), .iface 159 (.pointer (some ⟨N, 0, none⟩))]) /\ w.heap.size <= N /\ w'.heap[N]? = some (.cells #[.string ⟨#[65, 116, 111, 105]⟩, .string s, ev] 196 (0, 0)) /\ Below w.heap.size w w' := Any.strconv_Atoi_range Tryz.zjY s hlim h ev w hv hev
def Tryz.zl5 : Go.Shelf.Ren := ⟨fun | 217 => 145 | 266 => 171 | n => n, fun | 9 => 9 | 5 => 5 | 3 => 3 | n => n, fun | n => n⟩
theorem Tryz.zs4 : Go.Proofs.Lays.n217 Tryz.prog Tryz.zl5 := {
 mixed := by kernel_rfl
 f217 := Tryz.func145.trans (congrArg some (by kernel_rfl))
 f266 := Tryz.func171.trans (congrArg some (by kernel_rfl))
 t3 := Tryz.underlying3
 a3 := Tryz.isAgg3
 z3 := Tryz.sizeOf3
 v3 := Tryz.zeroValue3
 t5 := Tryz.underlying5
 a5 := Tryz.isAgg5
 z5 := Tryz.sizeOf5
 v5 := Tryz.zeroValue5
 t9 := Tryz.underlying9
 a9 := Tryz.isAgg9
 z9 := Tryz.sizeOf9
 v9 := Tryz.zeroValue9 }
open Go.RowKit Go.Lib in
theorem Tryz.stringslite_IndexByte (s : ByteArray) (c : Int) (w : World) :
  Calls Tryz.prog 145 #[.string s, .int .u8 c] w fun e w' => e = .returned (.int .i64 (Lib.indexByte s.data.toList c.toNat.toUInt8)) /\ w' = w := Any.stringslite_IndexByte Tryz.zs4 s c w
end Go.Proofs
namespace Go.VL
open Go
end Go.VL
namespace Go.VL
open Go
section
variable {P : Program} {l : List Oper} {o : Oper} {Q Q1 : Exit -> Act -> World -> Prop}
end
end Go.VL
namespace Go.VL
open Go Go.Lib
def zex (l : List UInt8) : List (List U) := l.map fun c => [.int .u8 c.toNat]
abbrev zdP (l : List UInt8) : List (List D) := rowsD (zex l)
theorem zn1 (l : List UInt8) : (zex l).length = l.length := by simp [zex]
theorem zn2 (a b : List UInt8) : zex (a ++ b) = zex a ++ zex b := by simp [zex]
theorem zi0 (l : List UInt8) : (zdP l).length = l.length := by simp [zex]
theorem zgv (l : List UInt8) : zdP l = l.map fun c => [.u (.int .u8 c.toNat)] := by simp [zdP, zex, rowsD, Function.comp_def]
theorem zn4 {P : Program} (w : World) {t u ty e : TypeId} {i : TypeInfo} (ht : P.underlying t = some (.slice e)) (hu : P.underlying u = some .string) (hi : P.info? e = some i) (hz : i.zero = some (.int .u8 0)) (hsize : i.size = 1) (hby : i.bytes = 1)
  {v : Value} {n : Nat} {xs : List Value} (hown : w.ownsRow 0 e 1 v n xs) (s : ByteArray) (hb : n + s.size <= 140737488355328) :
  ∃ v' w', (Builtin.append_ #[t, u] ty #[v, .string s]).run P w = .ok v' w' /\ w'.ownsRow 0 e 1 v' (n + s.size) (xs ++ strCells s) /\ w.grownBy w' v.ownBlock /\
   (v'.ownBlock = v.ownBlock \/ ∃ b, w.heap.size <= b /\ v'.ownBlock = some b) := by
 have h63 : n + s.size <= maxLen := by unfold maxLen; omega
 obtain ⟨v', w', hr, h2, h3, _⟩ := run_append_own_string w 0 t u ty e i ht hu hi hz hsize hby v n xs hown s h63 hb (Nat.zero_le _);refine ⟨v', w', hr, h2, h3, ?_⟩;rcases hown.2 with ⟨rfl, rfl⟩ | ⟨g, cap, cur, rfl, hbg, hg, hnc, hcm, hcs, htake⟩
 ·have hx : xs = [] := List.eq_nil_of_length_eq_zero (by simpa using hown.1);subst hx;obtain ⟨v2, w2, hr2, h4, _⟩ := run_append_own_string w w.heap.size t u ty e i ht hu hi hz hsize hby (.slice none 0 0) 0 [] (World.ownsRow_nil w w.heap.size e 1) s h63 hb (Nat.le_refl _);rw [hr] at hr2;cases hr2;rcases h4.2 with ⟨rfl, _⟩ | ⟨g, cap, cur, rfl, hbg, _⟩
  ·exact .inl rfl
  ·exact .inr ⟨g, hbg, rfl⟩
 ·by_cases hroom : n + s.size <= cap
  ·have hcs' : cur.size = cap := by simpa using hcs
   have hr2 := run_append_room_string (P := P) w t u ty e i ht hu hi hsize g n cap cur hg s hroom (by omega);rw [hr] at hr2;cases hr2;exact .inl rfl
  ·have holds : ∀ j u, xs[j]? = some u -> w.cell? ((⟨g, 0, none⟩ : Addr).add j) = some u := hown.cells (g := g) rfl;have hxl : xs.length = n := by simpa using hown.1
   have hr2 := run_append_grow_string (P := P) w t u ty e i (.int .u8 0) ht hu hi hz ⟨g, 0, none⟩ n cap xs (by rw [hsize]; simpa using hxl) holds s (by omega) (by omega) (by rw [hby]; exact growslice_fits (by omega) (by omega));rw [hr] at hr2;cases hr2;exact .inr ⟨_, Nat.le_refl _, rfl⟩
def zl0 (P : Program) (t u : TypeId) : Option TypeId := match P.underlying t, P.underlying u with
 | some (.slice e), some .string => match P.info? e with
  | some i => match i.zero with
   | some (.int .u8 z) => if z = 0 /\ i.size = 1 /\ i.bytes = 1 then some e else none
   | _ => none
  | none => none
 | _, _ => none
def zf5 (P : Program) (t u : TypeId) (x y : D) (s : St) (dst : Option Tmp) (k : St -> Prop) : Prop := match x, y with
 | .vec i len, .u (.str l) => match getK s.obs i with
  | some (.vec e sz rows) => zl0 P t u = some e /\ sz = 1 /\ len = rows.length /\ zal dst s /\ len + l.length <= 140737488355328 /\
    k ((({ s with obs := del s.obs i } : St).add (.vec e 1 (rows ++ zdP l))).put dst (.vec s.next (len + l.length)))
  | _ => False
 | _, _ => False
theorem Eff.ztk {P Γ o s k x y t u} (ho : o.op = .call { callee := .builtin .append, args := #[x, y], argTypes := #[t, u] }) (h : zf5 P t u (opd s x) (opd s y) s o.dst k) : Eff P Γ o s k := by
 intro K a w hin hs Kont Q hK;obtain ⟨dst, op, type, pos, after, guard⟩ := o;simp only at ho h;subst ho;unfold zf5 at h;split at h
 case h_2 => exact h.elim
 rename_i i len l hx hy;split at h
 case h_2 => exact h.elim
 rename_i e sz rows hg;obtain ⟨he, rfl, rfl, hp, hlen0, hk⟩ := h;unfold zl0 at he;split at he
 case h_2 => cases he
 rename_i e0 ht hu;split at he
 case h_2 => cases he
 rename_i inf hi;split at he
 case h_2 => cases he
 rename_i z hz;split at he
 case isFalse => cases he
 rename_i hinf;cases he;obtain ⟨rfl, hsize, hby⟩ := hinf;have hnext := hs.hdr s.next (Nat.le_refl _)
 have hxr := zaC hs x;rw [hx] at hxr;obtain ⟨gi, hgi, hxv⟩ := zeh hxr;have hyr := zaC hs y;rw [hy] at hyr;have hyv := zei hyr;obtain ⟨g2, xs, hg2, hrow, hpos, hlen, hcs, hno⟩ := (hs.sat.ob _ _ hg).vec;rw [hgi] at hg2;simp only [Option.some.injEq] at hg2;subst hg2;have hls : (ByteArray.mk l.toArray).size = l.length := by simp [ByteArray.size]
 obtain ⟨v', w', hrun, hown, hgrow, hob⟩ := zn4 w (ty := type) ht hu hi hz hsize hby hrow ⟨l.toArray⟩ (by rw [hls]; exact hlen0);rw [hls] at hown;obtain ⟨g, hv', hgv⟩ := zjm hown;subst hv';have hrun' : (execOp a.eval { dst, op := .call { callee := .builtin .append, args := #[x, y], argTypes := #[t, u] }, type, pos, after, guard }).run P w = .ok (.value (zaU g (rows.length + l.length))) w' := by
  simp only [execOp];simp [resolve, invoke, builtin, hxv, hyv, hrun]
 unfold Oper.wp;rw [hrun'];have hle := Kr.zfs (k := K) (h := g) hnext;have hvb : (zaU gi rows.length).ownBlock = gi.1 := by
  obtain ⟨gb, gc⟩ := gi;cases gb <;> rfl
 rw [hvb] at hgrow hob;have hin' : In Γ (K.add s.next g) w' := (hin.grown hgrow (fun b e => (hno b e).1)).step hle (fun _ _ _ e => .inl e) rfl rfl rfl (Nat.le_refl _) fun _ _ => rfl;have hd := hs.sat.del i;have hnb : ∀ b, gi.1 = some b -> ¬ Blk K (del s.obs i) b := fun b e ⟨j, oj, gj, h1, h2, h3⟩ => by
  rw [zac] at h1;split at h1
  ·cases h1
  ·rename_i hji;exact hs.sat.apart i j _ oj gi gj b hg h1 (Ne.symm hji) hgi h2 e h3
 have hold : ∀ b, b < w.heap.size -> gi.1 ≠ some b -> w'.heap[b]? = w.heap[b]? := fun b hb hne => hgrow.block b hb (fun e => hne e.symm);have hcell : ∀ j : Nat, (strCells ⟨l.toArray⟩)[j]? = (l[j]?).map fun c : UInt8 => Value.int .u8 c.toNat := fun j => by simp [strCells]
 suffices hsim : Sim (K.add s.next g) Γ.own (({ s with obs := del s.obs i } : St).add (.vec e 1 (rows ++ zdP l))) a w' from
  hK _ _ _ _ hin' (hsim.put (St.zdI (s := { s with obs := del s.obs i }) (by cases dst <;> simp_all [zal])) (.vec _ _ _ (by simp [Kr.add]))) hk
 refine ⟨?_, hs.defers, hs.size, fun x d hx => ⟨(hs.env x d hx).1, (hs.env x d hx).2.mono hle⟩, fun i hi => ?_⟩
 ·refine hd.add hnext (fun b e => ?_) (fun b hb => ?_) ⟨xs ++ strCells ⟨l.toArray⟩, ?_, Nat.one_pos, ?_, ?_⟩
  ·rw [hgv] at e;rcases hob with ho | ⟨b', hb', ho⟩
   ·rw [ho] at e;exact ⟨(hno b e).1, (hno b e).2, hnb b e⟩
   ·rw [ho] at e;simp only [Option.some.injEq] at e;subst e;refine ⟨hin.own_of_ge hb', fun o => ?_, fun hb => absurd (hd.lt hb) (by omega)⟩;cases hm : K.mem b' o with
    | none => rfl
    | some v => exact absurd (hs.sat.memLt hm) (by omega)
  ·refine hold b (hb.elim hd.lt fun ⟨_, _, e⟩ => hs.sat.memLt e) fun e => ?_;rcases hb with hb | ⟨o, v, hm⟩
   ·exact hnb b e hb
   ·have := (hno b e).2 o;rw [hm] at this;cases this
  ·have e1 : (rows ++ zdP l).length = rows.length + l.length := by rw [List.length_append, zi0]
   rw [e1];exact hown
  ·intro r hr;rcases List.mem_append.1 hr with hr | hr
   ·exact hlen r hr
   ·rw [zgv] at hr;obtain ⟨c, _, rfl⟩ := List.mem_map.1 hr
    try rfl
  ·have hnews : ∀ i r, (zdP l)[i]? = some r -> ∀ j d, r[j]? = some d -> zds (K.add s.next g) d ((strCells ⟨l.toArray⟩).getD (i * 1 + j) undef) := fun i r hi j d hj => by
    rw [zgv, List.getElem?_map] at hi;cases hc : l[i]? with
    | none => rw [hc] at hi; cases hi
    | some c =>
     rw [hc] at hi;cases hi
     match j, hj with
     | 0, hj =>
      cases hj;have : (strCells ⟨l.toArray⟩).getD (i * 1 + 0) undef = .int .u8 c.toNat := by
       rw [List.getD_eq_getElem?_getD, Nat.mul_one, Nat.add_zero, hcell, hc]; rfl
      rw [this];exact ⟨rfl, .u _ _ (.int _ _)⟩
   exact rows_append (by simpa using hrow.1) hlen (fun i r hi j d hj => ⟨(hcs i r hi j d hj).1, (hcs i r hi j d hj).2.mono hle⟩) hnews
 ·have hi' : s.next + 1 <= i := hi
  simp only [Kr.add];rw [if_neg (by omega)];exact hs.hdr i (by omega)
theorem zlk {P : Program} {Γ : Ctx} {s : St} {k : St -> Prop} {dst : Option Tmp} {x y : Operand} {t u : TypeId} {rest : List O1}
  (h : zf5 P t u (opd s x) (opd s y) s dst fun s' => H P Γ rest s' k) : H P Γ (⟨dst, .call { callee := .builtin .append, args := #[x, y], argTypes := #[t, u] }, none⟩ :: rest) s k := by
 intro all ops e;obtain ⟨o, ops', rfl, hx, hr⟩ := zdy e;obtain ⟨dst', op, type, pos, after, guard⟩ := o;unfold zcs at hx;simp only at hx;cases guard with
 | none =>
  simp at hx;obtain ⟨rfl, rfl⟩ := hx;exact zua ((Eff.ztk (o := { dst := dst', op := _, type, pos, after, guard := none }) rfl h).mono fun s' h => h all ops' hr)
 | some g =>
  obtain ⟨j, b⟩ := g;simp only at hx;split at hx <;> simp at hx
theorem Eff.zub {P Γ o s k t} (ho : o.op = .alloc t) (hz : zbR P t = some [.pointer none, .slice none 0 0]) (hp : zal o.dst s) (hk : k ((s.add (.nw t)).put o.dst (.ptr s.next 0))) : Eff P Γ o s k := by
 intro K a w hin hs Kont Q hK;obtain ⟨v, hv, hc, hone⟩ := zgb hz;obtain ⟨h1, h2⟩ := Sim.alloc hin hs (.cells v.cells t) 0 (.nw t) ⟨w.heap.size, rfl, by rw [heap_alloc_new, hc]⟩;have hrun : (execOp a.eval o).run P w = .ok (.value (.pointer (some ⟨w.heap.size, 0, none⟩))) (w.alloc (.cells v.cells t)) := by
  obtain ⟨dst, op, type, pos, after, guard⟩ := o;simp only at ho;subst ho;simp [execOp, Instr.alloc, hv, newVar, newRow]
 unfold Oper.wp;rw [hrun];refine hK _ _ _ _ h1 (h2.put (by cases hd : o.dst <;> simp_all [zal, St.add]) (.ptr _ _ w.heap.size 0 (by simp [Kr.add]))) hk
theorem zrC {P : Program} {Γ : Ctx} {s : St} {k : St -> Prop} {dst : Option Tmp} {t : TypeId} {rest : List O1}
  (hz : zbR P t = some [.pointer none, .slice none 0 0]) (hp : zal dst s) (h : H P Γ rest ((s.add (.nw t)).put dst (.ptr s.next 0)) k) : H P Γ (⟨dst, .alloc t, none⟩ :: rest) s k := by
 intro all ops e;obtain ⟨o, ops', rfl, hx, hr⟩ := zdy e;obtain ⟨dst', op, type, pos, after, guard⟩ := o;unfold zcs at hx;simp only at hx;cases guard with
 | none =>
  simp at hx;obtain ⟨rfl, rfl⟩ := hx;exact zua ((Eff.zub (k := fun s' => H P Γ rest s' k) (o := { dst := dst', op := _, type, pos, after, guard := none }) rfl hz hp h).mono fun s' h => h all ops' hr)
 | some g =>
  obtain ⟨j, b⟩ := g;simp only at hx;split at hx <;> simp at hx
end Go.VL
namespace Go.VL
open Go
abbrev FO (ro : Option Nat) : Fence := { Fence.wide with round := ro }
theorem zn0 {ro n P f args w R} (h : Calls P f args w R) : CallsIn (FO ro) n P f args w R := (callsIn_wide (n := n)).2 h
theorem rowsIn_FO {ro n P row args w R} (h : Rows P row args w R) : RowsIn (FO ro) n P row args w R := fun c cs _ => let ⟨v, w', r, s⟩ := h c cs; ⟨v, w', r, stepsIn_wide.2 s⟩
def zii (o : Oper) : Bool := match o.op with | .defer _ => false | _ => true
theorem zna {ro ρ} {o : Oper} (h : zii o = true) : Oper.semAt ro ρ o = execOp ρ o := Oper.semAt_eq ro ρ o fun c e => by simp [zii, e] at h
theorem zr8 {ro n P} {o : Oper} {a} {next next' : Act -> World -> Prop} {Q Q' : Exit -> Act -> World -> Prop} {res : Result Next} (hn : ∀ a w, next a w -> next' a w) (hp : ∀ ch a w, Q (.panic ch) a w -> Q' (.panic ch) a w) (hQ : ∀ a w, ¬ Q .outgrown a w)
  (h : o.upon P a next Q res) : o.uponIn (FO ro) n P a next' Q' res := by
 cases res with
 | halt x w' => cases x with
  | panic v => exact hp _ _ _ h
  | _ => exact h.elim
 | ok x w' =>
  cases x with
  | value v => exact hn _ _ h
  | skip => exact hn _ _ h
  | defer d => exact hn _ _ h
  | enter f args =>
   refine ⟨fun e => by simp [Fence.wide] at e, zn0 (Calls.mono h fun e w'' h => ?_)⟩;cases e with
   | returned v => exact hn _ _ h
   | panicked ch => exact hp _ _ _ h
   | outgrown => obtain ⟨a, w, h⟩ := h; exact absurd h (hQ _ _)
  | row row args => exact ⟨fun e => by simp [Fence.wide] at e, (rowsIn_FO h).mono fun v w h => hn _ _ h⟩
  | _ => exact h.elim
theorem zg9 {ro n P all} {Q Q' : Exit -> Act -> World -> Prop} {rest : List Oper} (hQ : ∀ a w, ¬ Q .outgrown a w) (hp : ∀ ch a w, Q (.panic ch) a w -> Q' (.panic ch) a w)
  (hr : ∀ a w, Q .normal a w -> wpListIn (FO ro) n P all Q' rest a w) : ∀ (l : List Oper) (a w), l.all zii = true -> wpList P all Q l a w -> wpListIn (FO ro) n P all Q' (l ++ rest) a w
 | [], a, w, _, h => hr _ _ h
 | o :: l, a, w, hc, h => by
  simp only [List.all_cons, Bool.and_eq_true] at hc;rw [List.cons_append];unfold wpList at h;unfold wpListIn;split at h
  ·rename_i hw;rw [if_pos hw];rcases h with h | ⟨_, a', w', h⟩
   ·refine ⟨fun _ _ => trivial, ?_⟩;rw [zna hc.1];exact zr8 (fun a w h => zg9 hQ hp hr l a w hc.2 h) hp hQ h
   ·exact absurd h (hQ _ _)
  ·rename_i hw;rw [if_neg hw];exact ⟨fun _ _ => trivial, zg9 hQ hp hr l _ _ hc.2 h⟩
theorem zuQ {ro n P Γ all l s} {k : St -> Prop} {Q' : Exit -> Act -> World -> Prop} {rest : List Oper} (hpan : ∀ ch s, ¬ Γ.pan ch s) (hc : l.all zii = true) (h : G P Γ all l s k) {K a w} (hin : In Γ K w) (hs : Sim K Γ.own s a w)
  (hr : ∀ K' a' w' s', In Γ K' w' -> Sim K' Γ.own s' a' w' -> k s' -> wpListIn (FO ro) n P all Q' rest a' w') : wpListIn (FO ro) n P all Q' (l ++ rest) a w :=
 zg9 (Q := fun e a w => e = .normal /\ ∃ K s, In Γ K w /\ Sim K Γ.own s a w /\ k s) (fun a w h => by cases h.1) (fun ch a w h => by cases h.1) (fun a w ⟨_, K, s, h1, h2, h3⟩ => hr K a w s h1 h2 h3) l a w hc
  (h K a w hin hs _ (fun K' a' w' s' h1 h2 h3 => ⟨rfl, K', s', h1, h2, h3⟩) fun ch K' a' w' s' _ _ h3 => absurd h3 (hpan ch s'))
def zul : Code -> Bool
 | .seq a _ => zul a
 | .block _ a => zul a
 | _ => true
theorem zf7 {P Γ Q c k s} (_ : (zum c && zul c) = true) (h : vs2 P Γ Q (RN P Γ Q 0) c k s) : V P Γ c s (zaT P Γ Q k) := zj1 (zel 0) h
def VR (P : Program) (Γ : Ctx) (r : Nat) (c : Code) (s : St) (Q : Exit -> St -> Prop) : Prop :=
 ∀ K a w, In Γ K w -> Sim K Γ.own s a w -> c.wpIn (FO (some r)) 0 P (VPost Γ Q) a w
def zij (P : Program) (Γ : Ctx) (r : Nat) (Q : Exit -> St -> Prop) : Kt -> Exit -> St -> Prop
 | .done, e, s => Q e s
 | .seq b k, .normal, s => VR P Γ r b s (zij P Γ r Q k)
 | .seq _ k, e, s => zij P Γ r Q k e s
 | .blk id k, .exit id', s => if id' = id then zij P Γ r Q k .normal s else zij P Γ r Q k (.exit id') s
 | .blk _ k, e, s => zij P Γ r Q k e s
 | .loop _ _, _, _ => False
section
variable {P : Program} {Γ : Ctx} {r : Nat} {Q : Exit -> St -> Prop} {k : Kt} {s : St}
theorem zt1 {a b : Code} (h : VR P Γ r a s (zij P Γ r Q (.seq b k))) : VR P Γ r (.seq a b) s (zij P Γ r Q k) :=
 fun K ac w hin hs => wpIn_seq (wpIn_mono (h K ac w hin hs) fun e a' w' h => by
  rcases h with ⟨K', s', h1, h2, h3⟩ | h
  ·cases e with
   | normal => exact h3 K' a' w' h1 h2
   | _ => exact .inl ⟨K', s', h1, h2, h3⟩
  ·cases e with
   | normal => exact h.1.elim
   | _ => exact .inr h)
theorem zru {id : Nat} {c : Code} (h : VR P Γ r c s (zij P Γ r Q (.blk id k))) : VR P Γ r (.block id c) s (zij P Γ r Q k) :=
 fun K ac w hin hs => wpIn_block (wpIn_mono (h K ac w hin hs) fun e a' w' h => by
  rcases h with ⟨K', s', h1, h2, h3⟩ | h
  ·cases e with
   | exit id' =>
    simp only [Qx, zij] at h3;simp only [Exit.inBlock];split
    ·rename_i he; rw [if_pos he] at h3; exact .inl ⟨K', s', h1, h2, h3⟩
    ·rename_i he; rw [if_neg he] at h3; exact .inl ⟨K', s', h1, h2, h3⟩
   | _ => exact .inl ⟨K', s', h1, h2, h3⟩
  ·cases e with
   | exit => exact h.1.elim
   | _ => exact .inr h)
theorem zs3 {c : Operand} {x y : Code} {t : Bool} (hc : opd s c = .u (.bool t)) (ht : t = true -> VR P Γ r x s (zij P Γ r Q k)) (hf : t = false -> VR P Γ r y s (zij P Γ r Q k)) :
  VR P Γ r (.cond c x y) s (zij P Γ r Q k) := fun K a w hin hs => by
 have hr := zaC hs c;rw [hc] at hr;exact wpIn_cond_split (zda hr) (fun e => ht e K a w hin hs) (fun e => hf e K a w hin hs)
theorem zpS {id : Nat} {l : List Oper} (hpan : ∀ ch s, ¬ Γ.pan ch s) (hc : l.all zii = true) (h : G P Γ l.toArray l s (zij P Γ r Q k .normal)) : VR P Γ r (.region id l.toArray false) s (zij P Γ r Q k) :=
 fun K a w hin hs => wpIn_region_lit (by
  have := zuQ (ro := some r) (n := 0) (Q' := VPost Γ (zij P Γ r Q k)) (rest := []) hpan hc h hin hs fun K' a' w' s' h1 h2 h3 => .inl ⟨K', s', h1, h2, h3⟩
  rwa [List.append_nil] at this)
end
def zjn : Code -> Bool
 | .seq a b => zjn a && zjn b
 | .block _ c => zjn c
 | .skip => true
 | .label _ => true
 | .exit _ => true
 | .cond _ x y => zjn x && zjn y
 | .region _ l false => l.toList.all zii
 | _ => false
def okK : Kt -> Bool
 | .done => true
 | .seq b k => zjn b && okK k
 | .blk _ k => okK k
 | .loop _ _ => false
theorem zil {P Γ r} {Q0 Q : Exit -> St -> Prop} {R : Kt -> Exit -> St -> Prop} (hpan : ∀ ch s, ¬ Γ.pan ch s) (hR : ∀ k e s, okK k = true -> R k e s -> zij P Γ r Q k e s) :
  ∀ {c : Code} {k : Kt} {s : St}, zjn c = true -> okK k = true -> vs2 P Γ Q0 R c k s -> VR P Γ r c s (zij P Γ r Q k)
 | .seq a b, k, s, hc, hk, h => by
  simp only [zjn, Bool.and_eq_true] at hc;exact zt1 (zil hpan hR (c := a) (k := .seq b k) hc.1 (by simp [okK, hc.2, hk]) (by rw [vs2] at h; exact h))
 | .block id c, k, s, hc, hk, h => zru (zil hpan hR (c := c) (k := .blk id k) (by simpa only [zjn] using hc) (by simpa only [okK] using hk) (by rw [vs2] at h; exact h))
 | .skip, k, s, hc, hk, h => fun K _ _ hin hs => wpIn_skip (.inl ⟨K, s, hin, hs, hR _ _ _ hk (by rw [vs2] at h; exact h)⟩)
 | .label _, k, s, hc, hk, h => fun K _ _ hin hs => wpIn_label (.inl ⟨K, s, hin, hs, hR _ _ _ hk (by rw [vs2] at h; exact h)⟩)
 | .exit id, k, s, hc, hk, h => fun K _ _ hin hs => wpIn_exit (.inl ⟨K, s, hin, hs, hR _ _ _ hk (by rw [vs2] at h; exact h)⟩)
 | .cond c x y, k, s, hc, hk, h => by
  simp only [zjn, Bool.and_eq_true] at hc;rw [vs2] at h;split at h
  ·rename_i t ht;exact zs3 ht (fun e => zil hpan hR hc.1 hk (h.1 e)) (fun e => zil hpan hR hc.2 hk (h.2 e))
  ·exact h.elim
 | .region id l false, k, s, hc, hk, h => by
  simp only [zjn] at hc;rw [vs2] at h;split at h
  ·rename_i l' hl;have := zpS (P := P) (Γ := Γ) (r := r) (Q := Q) (k := k) (id := id) (l := l.toList) (s := s) hpan hc (by simp only [Array.toArray_toList]; exact zr5 (zr4 hl h) fun s hs => hR _ _ _ hk hs);simpa using this
  ·exact h.elim
 | .ret, _, _, hc, _, _ => by simp [zjn] at hc
 | .region _ _ true, _, _, hc, _, _ => by simp [zjn] at hc
 | .loop _, _, _, hc, _, _ => by simp [zjn] at hc
 | .rangeFunc .., _, _, hc, _, _ => by simp [zjn] at hc
 | .scope .., _, _, hc, _, _ => by simp [zjn] at hc
 | .goto .., _, _, hc, _, _ => by simp [zjn] at hc
 | .refuse .., _, _, hc, _, _ => by simp [zjn] at hc
def RR (P : Program) (Γ : Ctx) (r : Nat) (Q : Exit -> St -> Prop) : Nat -> Kt -> Exit -> St -> Prop
 | 0, k, e, s => zij P Γ r Q k e s
 | _ + 1, .done, e, s => Q e s
 | n + 1, .seq b k, .normal, s => vs2 P Γ Q (RR P Γ r Q n) b k s
 | n + 1, .seq _ k, e, s => RR P Γ r Q n k e s
 | n + 1, .blk id k, .exit id', s => if id' = id then RR P Γ r Q n k .normal s else RR P Γ r Q n k (.exit id') s
 | n + 1, .blk _ k, e, s => RR P Γ r Q n k e s
 | _ + 1, .loop _ _, _, _ => False
theorem zvf {P Γ r Q} (hpan : ∀ ch s, ¬ Γ.pan ch s) : ∀ n k e s, okK k = true -> RR P Γ r Q n k e s -> zij P Γ r Q k e s
 | 0, _, _, _, _, h => h
 | n + 1, k, e, s, hk, h => by
  have ih := fun k e s => zvf (P := P) (Γ := Γ) (r := r) (Q := Q) hpan n k e s;cases k with
  | done => cases e <;> exact h
  | seq b k =>
   simp only [okK, Bool.and_eq_true] at hk;cases e with
   | normal => exact zil hpan ih hk.1 hk.2 h
   | _ => first | exact ih k _ s hk.2 h
  | blk id k =>
   simp only [okK] at hk;cases e with
   | exit id' =>
    simp only [RR, zij] at h ⊢;split at h
    ·rename_i hc; rw [if_pos hc]; exact ih _ _ _ hk h
    ·rename_i hc; rw [if_neg hc]; exact ih _ _ _ hk h
   | _ => exact ih k _ s hk h
  | loop I k => cases e <;> exact h.elim
theorem zr2 {P Γ r Q c s} (hpan : ∀ ch s, ¬ Γ.pan ch s) (hc : zjn c = true) (h : vs2 P Γ Q (RR P Γ r Q 60) c .done s) : VR P Γ r c s Q := zil (Q := Q) (k := .done) hpan (zvf hpan 60) hc rfl h
section
variable {P : Program} {Γ : Ctx} {r : Nat} {Q : Exit -> St -> Prop} {k : Kt} {s s' : St} {n : Nat}
theorem zuG {e z} (_ : (True /\ True) = z) (h : s = s') : RR P Γ r Q n k e s = RR P Γ r Q n k e s' := by rw [h]
attribute [congr] zuG
theorem zs8 {e} : RR P Γ r Q (n + 1) .done e s = Q e s := rfl
theorem zt3 {b} : RR P Γ r Q (n + 1) (.seq b k) .normal s = vs2 P Γ Q (RR P Γ r Q n) b k s := rfl
theorem zl6 {b i} : RR P Γ r Q (n + 1) (.seq b k) (.exit i) s = RR P Γ r Q n k (.exit i) s := rfl
theorem zt4 {i} : RR P Γ r Q (n + 1) (.blk i k) .normal s = RR P Γ r Q n k .normal s := rfl
theorem zl7 {i j} : RR P Γ r Q (n + 1) (.blk i k) (.exit j) s = if j = i then RR P Γ r Q n k .normal s else RR P Γ r Q n k (.exit j) s := rfl
end
theorem Sat.zug {k own obs w w'} (h : Sat k own obs w) (r : Nat) (hb : ∀ b, b ≠ r -> b < w.heap.size -> w'.heap[b]? = w.heap[b]?) (hr : ¬ Blk k obs r) (hl : ∀ o, look w r o = none) : Sat k own obs w' := by
 refine h.keep (.refl k) (fun b hB => hb b (fun e => hr (e ▸ hB)) (h.lt hB)) (fun b o v e => ?_) (fun b hB o => ?_)
 ·have hm := h.mem b o v e;by_cases hbr : b = r
  ·subst hbr;rw [hl o] at hm;cases hm
  ·rw [cell_of_heap (hb b hbr (zoK hm))];exact hm
 ·obtain ⟨i, ob, g, h1, h2, h3⟩ := hB;obtain ⟨g', h4, h5, _⟩ := h.ob i ob h1;rw [h2] at h4;cases h4;exact (h5 b h3).2 o
theorem Sat.notBlk {k own obs w r} (h : Sat k own obs w) (hr : ¬ own r) : ¬ Blk k obs r := fun hB => by
 obtain ⟨i, ob, g, h1, h2, h3⟩ := hB;obtain ⟨g', h4, h5, _⟩ := h.ob i ob h1;rw [h2] at h4;cases h4;exact hr (h5 r h3).1
theorem Sat.owns {k own own' obs w} (h : Sat k own obs w) (ho : ∀ b, Blk k obs b -> own b -> own' b) : Sat k own' obs w := by
 refine ⟨h.mem, fun i ob hi => ?_, h.apart⟩;obtain ⟨g, h1, h2, h3⟩ := h.ob i ob hi;exact ⟨g, h1, fun b hb => ⟨ho b ⟨i, ob, g, hi, h1, hb⟩ (h2 b hb).1, (h2 b hb).2⟩, h3⟩
theorem zhy {w : World} {l : Nat} {L : Loop} (h : w.heap[l]? = some (.loop L)) (o : Nat) : look w l o = none := by simp [look, h, World.cell?]
theorem zqy {w : World} {l : Nat} {d} (h : w.heap[l]? = some (.deferred d)) (o : Nat) : look w l o = none := by simp [look, h, World.cell?]
abbrev yD (l : Nat) : D := .u (.oth (.func (.yield l) #[] #[]))
def RetY (P : Program) (k0 : Kr) (l : Nat) (L : Loop) (ds : List D) (obs : List (Nat × Ob)) (nx : Nat) (post : D -> List (Nat × Ob) -> Nat -> Prop) : Prop :=
 ∀ (k : Kr) (own : Nat -> Prop) (w : World) (vs : Array Value), k0.le k -> ¬ own l -> w.heap[l]? = some (.loop L) -> Sat k own obs w -> (∀ i, nx <= i -> k.hdr i = none) -> (∀ b, w.heap.size <= b -> own b) -> RepL k ds vs ->
  ∃ fn tmps assign body, (Instr.yield l vs).run P w = .ok (.round l fn tmps assign body) w /\ RoundIn (FO none) 0 P l fn tmps assign body w fun e w' =>
     ∃ v d obs' nx' k', e = .returned v /\ In (.of own k nx w) k' w' /\ Sat k' own obs' w' /\ (∀ i, nx' <= i -> k'.hdr i = none) /\ nx <= nx' /\ Rep k' d v /\ post d obs' nx'
theorem RetY.congr {P k0 l L ds obs obs' nx post} (h : RetY P k0 l L ds obs nx post) (e : ∀ i, getK obs' i = getK obs i) : RetY P k0 l L ds obs' nx post :=
 fun k own w vs hk hl hL hsat hhdr hfresh hrep => h k own w vs hk hl hL (Sat.congr hsat fun i => (e i).symm) hhdr hfresh hrep
theorem RetY.frame {P k0 l L ds obs nx post} (F : List (Nat × Ob)) (hF : ∀ i ob, getK F i = some ob -> getK obs i = none) (h : RetY P k0 l L ds obs nx post) :
  RetY P k0 l L ds (F ++ obs) nx (fun d o n => ∃ o1, o = F ++ o1 /\ post d o1 n) := by
 intro k own w vs hk hl hL hsat hhdr hfresh hrep;obtain ⟨fn, tmps, assign, body, h1, h2⟩ := h k _ w vs hk (fun h => hl h.1) hL (zgp hF hsat) hhdr (zfC hsat hfresh) hrep;refine ⟨fn, tmps, assign, body, h1, h2.mono ?_⟩;rintro e w' ⟨v, d, o1, n', k', he, hin, hs1, hh1, hle, hr, hp⟩;exact ⟨v, d, F ++ o1, n', k', he, zjD hfresh hin, zhL hsat hin hs1, hh1, hle, hr, o1, rfl, hp⟩
def RetI (P : Program) (k0 : Kr) (l : Nat) (L : Loop) (f : FuncId) (ds : List D) (obs : List (Nat × Ob)) (nx : Nat) (post : D -> List (Nat × Ob) -> Nat -> Prop) : Prop :=
 ∀ (k : Kr) (own : Nat -> Prop) (w : World) (vs : Array Value), k0.le k -> ¬ own l -> w.heap[l]? = some (.loop L) -> Sat k own obs w -> (∀ i, nx <= i -> k.hdr i = none) -> (∀ b, w.heap.size <= b -> own b) -> RepL k ds vs ->
  Calls P f vs w fun e w' => ∃ v d obs' nx' k', e = .returned v /\ In (.of own k nx w) k' w' /\ Sat k' own obs' w' /\ (∀ i, nx' <= i -> k'.hdr i = none) /\ nx <= nx' /\ Rep k' d v /\ post d obs' nx'
structure YCtx (Γ : Ctx) (k0 : Kr) (l : Nat) (L : Loop) : Prop where
 own : ¬ Γ.own.own l
 heap : Γ.w0.heap[l]? = some (.loop L)
 le : k0.le Γ.k0
theorem RetI.of_body {P k0 l L f fn c ds obs nx post nt} (hf : P.funcs[f]? = some fn) (hnt : fn.ntmps = nt) (hb : fn.body = some c) (hn : ds.length <= nt)
  (h : ∀ Γ : Ctx, Γ.n0 = nx -> YCtx Γ k0 l L -> (∀ ch s, ¬ Γ.pan ch s) -> V P Γ c (entry ds nt obs nx) (zaT P Γ (EndW P Γ fn nx post) .done)) : RetI P k0 l L f ds obs nx post := by
 subst hnt;intro k own w vs hk hl hL hsat hhdr hfresh hrep;have hsz : vs.size = ds.length := hrep.1
 let Γ : Ctx := .of own k nx w
 refine calls_of_wp hf hb (wp_mono (h Γ rfl ⟨hl, hL, hk⟩ (fun _ _ h => h) k _ w ⟨.refl _, hhdr, fun b o v e => .inl e, hfresh, rfl, rfl, rfl, Nat.le_refl _, fun _ _ => rfl⟩
  ⟨hsat, rfl, ?_, fun x d hx => ?_, hhdr⟩) ?_)
 ·simp [entry, hsz]; omega
 ·simp only [entry, zd4, Nat.zero_le, if_true, Nat.sub_zero] at hx;have hlt := (List.getElem?_eq_some_iff.1 hx).1;refine ⟨by simp [entry]; omega, ?_⟩;have := hrep.2 x d hx;have e : (vs ++ Array.replicate (fn.ntmps - vs.size) undef).getD x undef = vs.getD x undef := by
   simp [Array.getElem?_append, show x < vs.size by omega]
  rw [e];exact this
 ·rintro e a' w' (⟨K', s', hin, hs, hend⟩ | hx)
  ·have hd : a'.defers = [] := hs.defers;have fin : EndW P Γ fn nx post .ret s' -> bodyPost P fn (fun e w' => ∃ v d obs' nx' k', e = .returned v /\ In (.of own k nx w) k' w' /\ Sat k' own obs' w' /\ (∀ i, nx' <= i -> k'.hdr i = none) /\ nx <= nx' /\ Rep k' d v /\ post d obs' nx') .ret a' w' := fun hend => by
    obtain ⟨v, h1, r, o, n, k', h2, h3, h4, h5, h6, h7⟩ := zcS (Γ := Γ) (post := fun r o n => match r with | .val d => post d o n | .pan _ => False) hend hin hs;cases r with
    | val d =>
     obtain ⟨v', e, hr⟩ := h2;cases e;exact ⟨hd, v, h1, v, d, o, n, k', rfl, h3, h4, h5, h6, hr, h7⟩
    | pan ch => exact h7.elim
   cases e with
   | panic ch => exact False.elim hend
   | normal => exact fin (by obtain ⟨s2, h1, _, h2⟩ := hend; exact ⟨s2, h1, .inr rfl, h2⟩)
   | ret => exact fin hend
   | exit i => obtain ⟨_, _, h1, _⟩ := hend; rcases h1 with h1 | h1 <;> cases h1
   | goto i => obtain ⟨_, _, h1, _⟩ := hend; rcases h1 with h1 | h1 <;> cases h1
   | outgrown => obtain ⟨_, _, h1, _⟩ := hend; rcases h1 with h1 | h1 <;> cases h1
  ·exact hx.2.elim
@[irreducible] def YS (P : Program) (k0 : Kr) (l : Nat) (L : Loop) (fop : Operand) (args : List Operand) (dst : Option Tmp) (s : St) (k : St -> Prop) : Prop :=
 opd s fop = yD l /\ zal dst s /\ ∃ p, RetY P k0 l L (args.map (opd s)) s.obs s.next p /\ ∀ d o n, s.next <= n -> p d o n -> k (({ s with obs := o, next := n } : St).put dst d)
theorem YS.of {P k0 l L fop args dst s} {k : St -> Prop} {ds : List D} {obs : List (Nat × Ob)} {p : D -> List (Nat × Ob) -> Nat -> Prop} (F : List (Nat × Ob)) (h : RetY P k0 l L ds obs s.next p) (hds : args.map (opd s) = ds) (heq : ∀ i, getK s.obs i = getK (F ++ obs) i) (hF : ∀ i ob, getK F i = some ob -> getK obs i = none)
  (hf : opd s fop = yD l) (hp : zal dst s) (hk : ∀ d o n, s.next <= n -> p d o n -> k (({ s with obs := F ++ o, next := n } : St).put dst d)) : YS P k0 l L fop args dst s k := by
 subst hds;unfold YS;exact ⟨hf, hp, _, (h.frame F hF).congr heq, fun d o n hn ⟨o1, ho, hpo⟩ => by subst ho; exact hk d o1 n hn hpo⟩
theorem zuF {P k0 l L fop args dst s s' k z} (_ : (True /\ True) = z) (h : s = s') : YS P k0 l L fop args dst s k = YS P k0 l L fop args dst s' k := by rw [h]
attribute [congr] zuF
theorem zmW {P Γ s k0 l0 L} {Q : Exit -> St -> Prop} {kt : Kt} {id : Nat} {l : List Oper} (n : Nat) {dst : Option Tmp} {fop : Operand} {args : List Operand} {ts : Array TypeId} {ty : TypeId} {pos : String} {after : Array Edge}
  (hpan : ∀ ch s, ¬ Γ.pan ch s) (hY : YCtx Γ k0 l0 L)
  (h2 : l[n]? = some { dst := dst, op := .call { callee := .value fop, args := args.toArray, argTypes := ts }, type := ty, pos := pos, after := after, guard := none })
  (hc : l.all zii = true)
  (h : match zaQ l.toArray (l.take n), zaQ l.toArray (l.drop (n + 1)) with
    | some pre, some post => HR P Γ pre s fun s1 => YS P k0 l0 L fop args dst s1 fun s2 => HR P Γ post s2 (zaT P Γ Q kt .normal)
    | _, _ => False) : V P Γ (zp1 (.region id l.toArray false)) s (zaT P Γ Q kt) := by
 rw [zeH];intro K a w hin hs;split at h
 case h_2 => exact h.elim
 rename_i pre post h1 h3;refine (wpIn_wide (n := 0)).1 (wpIn_region_lit ?_);have hlt := (List.getElem?_eq_some_iff.1 h2).1;have hsplit : l = l.take n ++ l[n] :: l.drop (n + 1) := by rw [<- List.drop_eq_getElem_cons hlt, List.take_append_drop]
 have hget := (List.getElem?_eq_some_iff.1 h2).2;have hc1 : (l.take n).all zii = true := List.all_eq_true.2 fun x hx => List.all_eq_true.1 hc x (List.mem_of_mem_take hx);have hc3 : (l.drop (n + 1)).all zii = true := List.all_eq_true.2 fun x hx => List.all_eq_true.1 hc x (List.mem_of_mem_drop hx);have main : wpListIn (FO none) 0 P l.toArray (VPost Γ (zaT P Γ Q kt)) (l.take n ++ l[n] :: l.drop (n + 1)) a w := by
  refine zuQ hpan hc1 (zr4 h1 h) hin hs fun K1 a1 w1 s1 hin1 hs1 hy => ?_;rw [hget];unfold YS at hy;obtain ⟨hfop, hput, p, hret, hk⟩ := hy;refine wpListIn_plain rfl fun Kont hK => ⟨fun _ _ => trivial, ?_⟩;have hv := zdz (by have := zaC hs1 fop; rw [hfop] at this; exact this);have hrep : RepL K1 (args.map (opd s1)) (args.toArray.map a1.eval) := ⟨by simp, fun j d hj => by
   have := ze3 hs1 args j d hj;simpa using this⟩
  have hl1 : w1.heap[l0]? = some (.loop L) := (hin1.block l0 hY.own).trans hY.heap;obtain ⟨fn, tmps, assign, body, hy1, hy2⟩ := hret K1 Γ.own.own w1 _ (hY.le.trans hin1.le) hY.own hl1 hs1.sat hs1.hdr (fun b hb => hin1.own_of_ge hb) hrep;have hrun : (Oper.semAt none a1.eval { dst := dst, op := .call { callee := .value fop, args := args.toArray, argTypes := ts }, type := ty, pos := pos, after := after, guard := none }).run P w1 = .ok (.round l0 fn tmps assign body) w1 := by
   rw [Oper.semAt_none];have hy3 := hy1;simp only [List.map_toArray] at hy3;simp [execOp, resolve, hv, Deferred.ofValue, invoke, hy3]
  rw [hrun];refine ⟨fun e => by simp [Fence.wide] at e, hy2.mono ?_⟩;rintro e w' ⟨v, d, obs', nx', k', rfl, hin', hsat', hhdr', hnx, hr, hpost⟩;have hle : K1.le k' := hin'.le;have hin2 : In Γ k' w' := hin1.step hle (fun b o v e => hin'.memNew b o v e) hin'.os hin'.tape hin'.output hin'.size hin'.block;have hsim : Sim k' Γ.own ({ s1 with obs := obs', next := nx' } : St) a1 w' := ⟨hsat', hs1.defers, hs1.size, fun x d hx => ⟨(hs1.env x d hx).1, (hs1.env x d hx).2.mono hle⟩, hhdr'⟩;have hg := hk d obs' nx' hnx hpost;refine hK _ _ ?_;have := zuQ (ro := none) (n := 0) (Q' := VPost Γ (zaT P Γ Q kt)) (rest := []) hpan hc3 (zr4 h3 hg) hin2 (hsim.put (by cases dst with | none => trivial | some x => exact hput) hr) fun K' a' w' s' q1 q2 q3 => .inl ⟨K', s', q1, q2, q3⟩
  rwa [List.append_nil] at this
 rw [<- hsplit] at main;exact main
theorem zsZ {P Γ s k0 l0 L} {Q : Exit -> St -> Prop} {kt : Kt} {id : Nat} {l : List Oper} {rest : Code} (n : Nat) {dst : Option Tmp} {fop : Operand} {args : List Operand} {ts : Array TypeId} {ty : TypeId} {pos : String} {after : Array Edge}
  (hpan : ∀ ch s, ¬ Γ.pan ch s) (hY : YCtx Γ k0 l0 L)
  (h2 : l[n]? = some { dst := dst, op := .call { callee := .value fop, args := args.toArray, argTypes := ts }, type := ty, pos := pos, after := after, guard := none })
  (hc : l.all zii = true)
  (h : match zaQ l.toArray (l.take n), zaQ l.toArray (l.drop (n + 1)) with
    | some pre, some post => HR P Γ pre s fun s1 => YS P k0 l0 L fop args dst s1 fun s2 => HR P Γ post s2 (V P Γ rest · (zaT P Γ Q kt))
    | _, _ => False) : V P Γ (zp1 (.seq (.region id l.toArray false) rest)) s (zaT P Γ Q kt) := by
 rw [zeH];refine zpL ?_;have := zmW (kt := .seq rest kt) (id := id) n hpan hY h2 hc h
 rwa [zeH] at this
theorem zqO (i : Nat) {a : Code} {ops : Array Oper} {b : Bool} : Code.seq a (.region i ops b) = Code.seq a (zp1 (.region i ops b)) := by rw [zeH]
def zvh (P : Program) (gf : FuncId) (caps : List D) (O O' : List (Nat × Ob)) (xs : List D) : Prop :=
 ∀ (k0 : Kr) (l : Nat) (L : Loop) (A : Nat -> List (Nat × Ob)) (N : Nat -> Nat), (∀ i j ob, getK O j = some ob -> getK (A i) j = none) -> (∀ i, N i <= N (i + 1)) ->
  (∀ i x, xs[i]? = some x -> RetY P k0 l L [x] (A i) (N i) fun d o n => d = .u (.bool true) /\ o = A (i + 1) /\ n = N (i + 1)) ->
  RetI P k0 l L gf (yD l :: caps) (O ++ A 0) (N 0) fun _ o n => o = O' ++ A xs.length /\ n = N xs.length
theorem RetX.zrz {P f fn c ds obs nx post nt} (hf : P.funcs[f]? = some fn) (hnt : fn.ntmps = nt) (hb : fn.body = some c) (hn : ds.length <= nt)
  (h : ∀ Γ : Ctx, Γ.n0 = nx -> Γ.own.dfr = [] -> (∀ ch s, PanG Γ post ch s -> Γ.pan ch s) -> (∀ e a w', bodyPostM Fence.wide 0 P fn (RX Γ.base post) e a w' -> Γ.esc e a w') -> V P Γ c (entry ds nt obs nx) (zaT P Γ (EndW P Γ fn nx fun d o n => post (.val d) o n) .done)) : RetX P f ds obs nx post := by
 subst hnt;intro k own w vs hsat hhdr hfresh hrep;have hsz : vs.size = ds.length := hrep.1
 let Γ0 : Ctx := .of own k nx w
 let Γ : Ctx := ⟨⟨own, []⟩, k, nx, w, PanG Γ0 post, bodyPostM Fence.wide 0 P fn (RX Γ0 post)⟩
 have hpan : ∀ ch s, PanG Γ post ch s -> Γ.pan ch s := fun ch s ⟨s', h1, h2, h3⟩ => ⟨s', h1.conv rfl rfl rfl rfl, h2, h3⟩;have hR : ∀ e w', RX Γ post e w' -> RX Γ0 post e w' := fun e w' h => h.conv rfl rfl rfl rfl;have hesc : ∀ e a w', bodyPostM Fence.wide 0 P fn (RX Γ.base post) e a w' -> Γ.esc e a w' := fun e a w' h => h;refine (callsIn_wide (n := 0)).1 (callsIn_of_wp_marks (R := RX Γ0 post) hf hb trivial ((wpIn_wide (n := 0)).2 (wp_mono (h Γ rfl rfl hpan hesc k _ w ⟨.refl _, hhdr, fun b o v e => .inl e, hfresh, rfl, rfl, rfl, Nat.le_refl _, fun _ _ => rfl⟩
  ⟨hsat, rfl, ?_, fun x d hx => ?_, hhdr⟩) ?_)))
 ·simp [entry, hsz]; omega
 ·simp only [entry, zd4, Nat.zero_le, if_true, Nat.sub_zero] at hx;have hlt := (List.getElem?_eq_some_iff.1 hx).1;refine ⟨by simp [entry]; omega, ?_⟩;have := hrep.2 x d hx;have e : (vs ++ Array.replicate (fn.ntmps - vs.size) undef).getD x undef = vs.getD x undef := by
   simp [Array.getElem?_append, show x < vs.size by omega]
  rw [e];exact this
 ·rintro e a' w' (⟨K', s', hin, hs, hend⟩ | hx)
  ·have hd : a'.defers = [] := hs.defers;cases e with
   | panic ch =>
    obtain ⟨s2, hw, hn2, hp⟩ := (hend : PanG Γ0 post ch s');obtain ⟨K2, h1, h2⟩ := hw K' a' w' (hin.conv rfl rfl rfl rfl) hs;show LeavesInM Fence.wide 0 P fn a'.tmps (RX Γ0 post) a'.defers (.panicking ch) w';rw [hd];exact ⟨.pan ch, s2.obs, s2.next, K2, rfl, h1, h2.sat, h2.hdr, hn2, hp⟩
   | normal =>
    obtain ⟨v, h1, h2⟩ := zcS (Γ := Γ) (post := post) hend hin hs;show LeavesInM Fence.wide 0 P fn a'.tmps (RX Γ0 post) a'.defers .returning w';rw [hd];exact ⟨v, h1, hR _ _ h2⟩
   | ret =>
    obtain ⟨v, h1, h2⟩ := zcS (Γ := Γ) (post := post) hend hin hs;show LeavesInM Fence.wide 0 P fn a'.tmps (RX Γ0 post) a'.defers .returning w';rw [hd];exact ⟨v, h1, hR _ _ h2⟩
   | exit i => obtain ⟨_, _, h1, _⟩ := hend; rcases h1 with h1 | h1 <;> cases h1
   | goto i => obtain ⟨_, _, h1, _⟩ := hend; rcases h1 with h1 | h1 <;> cases h1
   | outgrown => obtain ⟨_, _, h1, _⟩ := hend; rcases h1 with h1 | h1 <;> cases h1
  ·exact hx.2
def zyn (P : Program) (Γb : Ctx) (fn : Func) (post : Out -> List (Nat × Ob) -> Nat -> Prop) (e : Exit) (s : St) : Prop := e = .ret /\ EndW P Γb fn Γb.n0 (fun d o n => post (.val d) o n) .ret s
theorem RetY.zry {P : Program} {K : Kr} {l : Nat} {L : Loop} {s : St} {p : Tmp} {x : D} {A A' : List (Nat × Ob)} {N N' : Nat} {W : World} {a : Act} {own0 : Own} {fn0 D0 assign body} (hL : L = { state := .ready, pending := none, fn := fn0, tmps := a.tmps, params := #[p], assign := assign, body := body, defers := D0 })
  (hs : Sim K own0 s a W) (hp : p < s.n) (hN : N <= N')
  (h : ∀ (Γ1 : Ctx), Γ1.n0 = N -> (∀ ch s, ¬ Γ1.pan ch s) -> VR P Γ1 l assign (({ s with obs := A, next := N } : St).put (some p) x) fun e s1 => e = .normal /\ N <= s1.next /\
    ∀ Γ2 : Ctx, Γ2.n0 = s1.next -> (∀ ch s, ¬ Γ2.pan ch s) -> VR P Γ2 l body s1 fun e s2 => e = .normal /\ ∃ s3, Wk Γ2 s2 s3 /\ s3.obs = A' /\ s3.next = N') :
  RetY P K l L [x] A N fun d o n => d = .u (.bool true) /\ o = A' /\ n = N' := by
 intro k own w vs hk hl hLw hsat hhdr hfresh hrep;obtain ⟨hvs, hvr⟩ := hrep;have hsz : vs.size = L.params.size := by rw [hvs, hL]; rfl
 refine ⟨_, _, _, _, run_yield hLw hsz, roundIn_of_wpIn trivial ?_⟩
 let Γ1 : Ctx := .of own k N w
 have hin1 : In Γ1 k w := ⟨.refl _, hhdr, fun b o v e => .inl e, hfresh, rfl, rfl, rfl, Nat.le_refl _, fun _ _ => rfl⟩;have hfold : (L.params.zip vs).foldl (fun tmps (t, a) => tmps.setIfInBounds t a) L.tmps = a.tmps.setIfInBounds p (vs.getD 0 undef) := by
  obtain ⟨v, rfl⟩ : ∃ v, vs = #[v] := by
   obtain ⟨l⟩ := vs
   match l, hvs with
   | [v], _ => exact ⟨v, rfl⟩
  rw [hL];simp
 have hsim0 : Sim k Γ1.own ({ s with obs := A, next := N } : St) { tmps := a.tmps, defers := [] } w := ⟨hsat, rfl, hs.size, fun y d hy => ⟨(hs.env y d hy).1, (hs.env y d hy).2.mono hk⟩, hhdr⟩;have hsim1 : Sim k Γ1.own (({ s with obs := A, next := N } : St).put (some p) x) { tmps := (L.params.zip vs).foldl (fun tmps (t, a) => tmps.setIfInBounds t a) L.tmps, defers := [] } w := by
  rw [hfold];exact hsim0.put (dst := some p) (by simpa [zal] using hp) (hvr 0 x rfl)
 have hLa : L.assign = assign /\ L.body = body := by rw [hL]; exact ⟨rfl, rfl⟩
 rw [hLa.1, hLa.2];refine wpIn_mono (h Γ1 rfl (fun _ _ h => h) k _ w hin1 hsim1) ?_;rintro e a1 w1 (⟨K1, s1, hi1, hs1, hq1⟩ | hx)
 case inr => exact hx.2.elim
 have hq1' : e = .normal /\ N <= s1.next /\ ∀ Γ2 : Ctx, Γ2.n0 = s1.next -> (∀ ch s, ¬ Γ2.pan ch s) -> VR P Γ2 l body s1 fun e s2 => e = .normal /\ ∃ s3, Wk Γ2 s2 s3 /\ s3.obs = A' /\ s3.next = N' := by
  cases e with
  | panic ch => exact hq1.elim
  | _ => exact hq1
 obtain ⟨rfl, hN1, hbody⟩ := hq1';have hl1 : w1.heap[l]? = some (.loop L) := (hi1.block l hl).trans hLw;have hst : L.state = .ready := by rw [hL]
 refine ⟨_, run_beginRound hl1 hst, ?_⟩;have hlt1 := (Array.getElem?_eq_some_iff.1 hl1).1;generalize hw2 : w1.putObj l (.loop { L with state := .busy }) = w2;have hh2 : ∀ b, b ≠ l -> w2.heap[b]? = w1.heap[b]? := fun b hb => by rw [<- hw2]; exact World.putObj_heap_other hb
 have hsz2 : w2.heap.size = w1.heap.size := by rw [<- hw2]; simp
 have hl2 : w2.heap[l]? = some (.loop { L with state := .busy }) := by rw [<- hw2]; exact World.putObj_heap_same hlt1
 let Γ2 : Ctx := .of own K1 s1.next w2
 have hin2 : In Γ2 K1 w2 := ⟨.refl _, hs1.hdr, fun b o v e => .inl e, fun b hb => hi1.own_of_ge (by rw [<- hsz2]; exact hb), rfl, rfl, rfl, Nat.le_refl _, fun _ _ => rfl⟩;have hsim2 : Sim K1 Γ2.own s1 a1 w2 := ⟨Sat.zug hs1.sat l (fun b hb _ => hh2 b hb) (hs1.sat.notBlk hl) (zhy hl1), hs1.defers, hs1.size, hs1.env, hs1.hdr⟩;refine wpIn_mono (hbody Γ2 rfl (fun _ _ h => h) K1 a1 w2 hin2 hsim2) ?_;rintro e a2 w3 (⟨K2, s2, hi2, hs2, hq2⟩ | hx)
 case inr => exact hx.2.elim
 have hq2' : e = .normal /\ ∃ s3, Wk Γ2 s2 s3 /\ s3.obs = A' /\ s3.next = N' := by
  cases e with
  | panic ch => exact hq2.elim
  | _ => exact hq2
 obtain ⟨rfl, s3, hw, hA, hNx⟩ := hq2';obtain ⟨K3, hi3, hs3⟩ := hw K2 a2 w3 hi2 hs2;have hl3 : w3.heap[l]? = some (.loop { L with state := .busy }) := (hi3.block l hl).trans hl2;have hlt3 := (Array.getElem?_eq_some_iff.1 hl3).1;refine ⟨_, _, run_endRound none hl3, ?_⟩;have hLe : ({ ({ L with state := .busy } : Loop) with state := if (none : Option Code).isNone then .ready else .done, pending := none } : Loop) = L := by rw [hL]; rfl
 rw [hLe];generalize hw4 : w3.putObj l (.loop L) = w4;have hh4 : ∀ b, b ≠ l -> w4.heap[b]? = w3.heap[b]? := fun b hb => by rw [<- hw4]; exact World.putObj_heap_other hb
 have hsz4 : w4.heap.size = w3.heap.size := by rw [<- hw4]; simp
 have hl4 : w4.heap[l]? = some (.loop L) := by rw [<- hw4]; exact World.putObj_heap_same hlt3
 have ho2 : w2.os = w1.os /\ w2.tape = w1.tape /\ w2.output = w1.output := by rw [<- hw2]; exact ⟨rfl, rfl, rfl⟩
 have ho4 : w4.os = w3.os /\ w4.tape = w3.tape /\ w4.output = w3.output := by rw [<- hw4]; exact ⟨rfl, rfl, rfl⟩
 refine ⟨_, .u (.bool true), A', N', K3, rfl, ⟨hi1.le.trans hi3.le, hhdr, fun b o v e => ?_, hfresh, ?_, ?_, ?_, ?_, fun b hb => ?_⟩, ?_, ?_, hN, .u _ _ (.bool _), rfl, rfl, rfl⟩
 ·rcases hi3.memNew b o v e with h | h
  ·exact hi1.memNew b o v h
  ·exact .inr h
 ·exact ho4.1.trans (hi3.os.trans (ho2.1.trans hi1.os))
 ·exact ho4.2.1.trans (hi3.tape.trans (ho2.2.1.trans hi1.tape))
 ·exact ho4.2.2.trans (hi3.output.trans (ho2.2.2.trans hi1.output))
 ·have h1 := hi1.size;have h3 := hi3.size;have h1' : w.heap.size <= w1.heap.size := h1;have h3' : w2.heap.size <= w3.heap.size := h3;show w.heap.size <= w4.heap.size;omega
 ·show w4.heap[b]? = w.heap[b]?;by_cases hbl : b = l
  ·subst hbl;rw [hl4, hLw]
  ·rw [hh4 b hbl];exact (hi3.block b hb).trans ((hh2 b hbl).trans (hi1.block b hb))
 ·rw [<- hA];exact Sat.zug hs3.sat l (fun b hb _ => hh4 b hb) (hs3.sat.notBlk hl) (zhy hl3)
 ·rw [<- hNx];exact hs3.hdr
theorem zsr (i : Nat) {ops : Array Oper} {b : Bool} {rest : Code} : Code.seq (.region i ops b) rest = zp1 (.seq (.region i ops b) rest) := (zeH _).symm
theorem znG {c1 assign body rest : Code} {id : Nat} {g : Operand} {ps : Array Tmp} : Code.seq (.seq c1 (.block id (.rangeFunc g ps assign body))) rest = zp1 (.seq (.seq c1 (.block id (.rangeFunc g ps assign body))) rest) := (zeH _).symm
@[irreducible] def RangeOK (P : Program) (Γ : Ctx) (W : Exit -> Act -> World -> Prop) (g : Operand) (p : Tmp) (assign body rest : Code) (s : St) : Prop :=
 ∀ K a w, In Γ K w -> Sim K Γ.own s a w -> (Code.rangeFunc g #[p] assign body).wp P (fun e a w => e = .normal /\ rest.wp P W a w) a w
theorem znY {P Γ W g p assign body rest s s' z} (_ : (True /\ True) = z) (h : s = s') : RangeOK P Γ W g p assign body rest s = RangeOK P Γ W g p assign body rest s' := by rw [h]
attribute [congr] znY
theorem RangeOK.wk {P Γ W g p assign body rest s} (s' : St) (hw : Wk Γ s s') (h : RangeOK P Γ W g p assign body rest s') : RangeOK P Γ W g p assign body rest s := by
 unfold RangeOK at h ⊢;intro K a w h1 h2;obtain ⟨K', h3, h4⟩ := hw K a w h1 h2;exact h K' a w h3 h4
theorem zs0 {P Γ s} {Q : Exit -> St -> Prop} {kt : Kt} {id : Nat} {g : Operand} {p : Tmp} {c1 assign body rest : Code} (h : V P Γ c1 s (zaT P Γ (fun e s1 => e = .normal /\ RangeOK P Γ (VPost Γ (zaT P Γ Q kt)) g p assign body rest s1) .done)) :
  V P Γ (zp1 (.seq (.seq c1 (.block id (.rangeFunc g #[p] assign body))) rest)) s (zaT P Γ Q kt) := by
 rw [zeH];intro K a w hin hs;refine wp_seq (wp_seq (wp_mono (h K a w hin hs) ?_));rintro e a1 w1 (⟨K1, s1, h1, h2, h3⟩ | hx)
 ·cases e with
  | normal =>
   have h4 := h3.2;unfold RangeOK at h4;refine wp_block (wp_mono (h4 K1 a1 w1 h1 h2) ?_);rintro e a2 w2 ⟨rfl, h5⟩;exact h5
  | panic ch => exact .inl ⟨K1, s1, h1, h2, h3⟩
  | ret => exact absurd h3.1 (by simp)
  | exit i => exact absurd h3.1 (by simp)
  | goto i => exact absurd h3.1 (by simp)
  | outgrown => exact absurd h3.1 (by simp)
 ·cases e with
  | normal => exact hx.1.elim
  | _ => exact .inr hx
theorem RangeOK.of {P Γ fn post s} {Q : Exit -> St -> Prop} {kt : Kt} {g : Operand} {p : Tmp} {assign body rest : Code} {gf : FuncId} {caps : List D} {O O' : List (Nat × Ob)} {xs : List D} (A : Nat -> List (Nat × Ob)) (N : Nat -> Nat)
  (hesc : ∀ e a w', bodyPostM Fence.wide 0 P fn (RX Γ.base post) e a w' -> Γ.esc e a w') (hd : Γ.own.dfr = []) (hg : opd s g = .fnc (.func gf) caps) (hc : zae P gf = true) (hit : zvh P gf caps O O' xs)
  (hdis : ∀ i j ob, getK O j = some ob -> getK (A i) j = none) (hobs : ∀ i, getK s.obs i = getK (O ++ A 0) i) (hnx : s.next = N 0) (hN : ∀ i, N i <= N (i + 1)) (hp : p < s.n)
  (hround : ∀ i x, xs[i]? = some x -> ∀ (Γ1 : Ctx) (r : Nat), Γ1.n0 = N i -> (∀ ch s, ¬ Γ1.pan ch s) -> VR P Γ1 r assign (({ s with obs := A i, next := N i } : St).put (some p) x) fun e s1 => e = .normal /\ N i <= s1.next /\
    ∀ Γ2 : Ctx, Γ2.n0 = s1.next -> (∀ ch s, ¬ Γ2.pan ch s) -> VR P Γ2 r body s1 fun e s2 => e = .normal /\ ∃ s3, Wk Γ2 s2 s3 /\ s3.obs = A (i + 1) /\ s3.next = N (i + 1))
  (hrest : ∀ Γ' : Ctx, Γ'.n0 = N xs.length -> (∀ ch s, ¬ Γ'.pan ch s) -> V P Γ' rest { s with obs := O' ++ A xs.length, next := N xs.length } (zaT P Γ' (zyn P Γ.base fn post) .done)) :
  RangeOK P Γ (VPost Γ (zaT P Γ Q kt)) g p assign body rest s := by
 unfold RangeOK;intro K a w hin hs;refine (wpIn_wide (n := 0)).1 (wpIn_rangeFunc (F := Fence.wide) fun fn' _ => ?_);obtain ⟨cv, hcl, hv, hcap⟩ := zhi (by have := zaC hs g; rw [hg] at this; exact this);obtain ⟨L, hL⟩ : ∃ L : Loop, L = { state := .ready, pending := none, fn := fn', tmps := a.tmps, params := #[p], assign := assign, body := body, defers := w.heap.size } := ⟨_, rfl⟩;obtain ⟨W1, hW1⟩ : ∃ W1, (w.alloc (.deferred (some []))).alloc (.loop L) = W1 := ⟨_, rfl⟩;have hsW : W1.heap.size = w.heap.size + 2 := by rw [<- hW1]; simp
 have hL1 : W1.heap[w.heap.size + 1]? = some (.loop L) := by
  rw [<- hW1]; have := World.alloc_heap_new (w.alloc (.deferred (some []))) (.loop L); rwa [World.size_alloc] at this
 have hD1 : W1.heap[w.heap.size]? = some (.deferred (some [])) := by
  rw [<- hW1]; exact (zdr _ _ (by simp)).trans (World.alloc_heap_new w _)
 have hold : ∀ b, b < w.heap.size -> W1.heap[b]? = w.heap[b]? := fun b hb => by
  rw [<- hW1]; exact (zdr _ _ (by simp; omega)).trans (zdr _ _ hb)
 have hoW : W1.os = w.os /\ W1.tape = w.tape /\ W1.output = w.output := by rw [<- hW1]; exact ⟨rfl, rfl, rfl⟩
 refine ⟨w.heap.size + 1, [{ target := .collected w.heap.size, args := #[] }], W1, { target := .fn (.func gf) cv.toArray, args := #[.func (.yield (w.heap.size + 1)) #[] #[]] }, W1, gf,
  #[.func (.yield (w.heap.size + 1)) #[] #[]] ++ cv.toArray, W1, ?_, ?_, fun _ _ => trivial, ?_, fun e => by simp [Fence.wide] at e, (callsIn_wide (n := 0 - 1)).2 ?_⟩
 ·rw [<- hW1, hL]; exact run_enterLoop_outer _ _ _ _ _
 ·simp [resolve, hv, Deferred.ofValue]
  try rfl
 ·unfold zae at hc;split at hc
  ·rename_i f0 hfn;simp at hc;obtain ⟨hb, hname⟩ := hc;have hb' : f0.body.isNone = false := by cases hbb : f0.body <;> simp_all
   simp [invoke, callFunc, hfn, hb', hname];intro h0;rw [h0] at hb;simp at hb
  ·cases hc
 have hsatW : Sat K Γ.own.own s.obs W1 := hs.sat.keep (.refl K) (fun b hB => hold b (hs.sat.lt hB)) (fun b o v e => by rw [cell_of_heap (hold b (hs.sat.memLt e))]; exact hs.sat.mem b o v e)
  (fun b hB o => by
    obtain ⟨i, ob, g, h1, h2, h3⟩ := hB;obtain ⟨g', h4, h5, _⟩ := hs.sat.ob i ob h1;rw [h2] at h4;cases h4;exact (h5 b h3).2 o)
 have hsat1 : Sat K (fun b => Γ.own.own b /\ b ≠ w.heap.size + 1 /\ b ≠ w.heap.size) (O ++ A 0) W1 := by
  refine Sat.congr (Sat.owns hsatW fun b hB h => ⟨h, ?_⟩) fun i => (hobs i).symm;have := hs.sat.lt hB;omega
 have hcall := hit K (w.heap.size + 1) L A N hdis hN (fun i x hx => RetY.zry hL hs hp (hN i) fun Γ1 h1 h2 => hround i x hx Γ1 _ h1 h2) K _ W1
  (#[.func (.yield (w.heap.size + 1)) #[] #[]] ++ cv.toArray) (.refl K) (fun h => h.2.1 rfl) hL1 hsat1 (fun i hi => hs.hdr i (by rw [hnx]; exact hi)) (fun b hb => ⟨hin.own_of_ge (by omega), by omega, by omega⟩)
  ⟨by simp [hcl], fun j d hj => by
   cases j with
   | zero =>
      cases hj;simpa using Rep.u _ _ (RepU.oth _)
   | succ j =>
      have := hcap j d (by simpa using hj);simpa [Array.getElem?_append] using this⟩
 refine hcall.mono ?_;rintro e w3 ⟨v, d, obs3, nx3, k3, rfl, hin3, hsat3, hhdr3, hnx3, _, rfl, rfl⟩;have hl3 : w3.heap[w.heap.size + 1]? = some (.loop L) := (hin3.block _ fun h => h.2.1 rfl).trans hL1;have hD3 : w3.heap[w.heap.size]? = some (.deferred (some [])) := (hin3.block _ fun h => h.2.2 rfl).trans hD1;have hlt3 := (Array.getElem?_eq_some_iff.1 hl3).1;have hpend : L.pending = none := by rw [hL]
 refine ⟨none, w3.putObj (w.heap.size + 1) (.loop { L with state := .exhausted }), (run_endLoop (P := P) hl3 (by rw [hL]; simp)).trans (by rw [hpend]), ?_⟩;generalize hw4 : w3.putObj (w.heap.size + 1) (.loop { L with state := .exhausted }) = w4;have hh4 : ∀ b, b ≠ w.heap.size + 1 -> w4.heap[b]? = w3.heap[b]? := fun b hb => by rw [<- hw4]; exact World.putObj_heap_other hb
 have hsz4 : w4.heap.size = w3.heap.size := by rw [<- hw4]; simp
 have ho4 : w4.os = w3.os /\ w4.tape = w3.tape /\ w4.output = w3.output := by rw [<- hw4]; exact ⟨rfl, rfl, rfl⟩
 have hD4 : w4.heap[w.heap.size]? = some (.deferred (some [])) := (hh4 _ (by omega)).trans hD3;have hKk : K.le k3 := hin3.le;have hin4 : In Γ k3 w4 := by
  refine hin.step hKk (fun b o v e => (hin3.memNew b o v e).imp id (·.1)) ?_ ?_ ?_ ?_ fun b hb => ?_
  ·exact ho4.1.trans (hin3.os.trans hoW.1)
  ·exact ho4.2.1.trans (hin3.tape.trans hoW.2.1)
  ·exact ho4.2.2.trans (hin3.output.trans hoW.2.2)
  ·have h3 : W1.heap.size <= w3.heap.size := hin3.size;omega
  ·have hbl : b < w.heap.size := by
    rcases Nat.lt_or_ge b w.heap.size with h | h
    ·exact h
    ·exact absurd (hin.own_of_ge h) hb
   rw [hh4 b (by omega)];exact (hin3.block b fun h => hb h.1).trans (hold b hbl)
 let Γ' : Ctx := ⟨⟨fun b => Γ.own.own b /\ b ≠ w.heap.size, [{ target := .collected w.heap.size, args := #[] }]⟩, k3, N xs.length, w4, fun _ _ => False, fun _ _ _ => False⟩
 have hDlt := (Array.getElem?_eq_some_iff.1 hD4).1;have hin5 : In Γ' k3 w4 := ⟨.refl _, hhdr3, fun b o v e => .inl e, fun b hb => ⟨hin4.own_of_ge hb, by have : w4.heap.size <= b := hb; omega⟩, rfl, rfl, rfl, Nat.le_refl _, fun _ _ => rfl⟩;have hsat4 : Sat k3 Γ'.own.own (O' ++ A xs.length) w4 := by
  refine Sat.zug (Sat.owns hsat3 fun b hB h => ⟨h.1, h.2.2⟩) (w.heap.size + 1) (fun b hb _ => hh4 b hb) (fun hB => ?_) (zhy hl3);exact hsat3.notBlk (fun h => h.2.1 rfl) hB
 have hs5 : Sim k3 Γ'.own ({ s with obs := O' ++ A xs.length, next := N xs.length } : St) { a with defers := [{ target := .collected w.heap.size, args := #[] }] ++ a.defers } w4 :=
  ⟨hsat4, by have h0 : a.defers = _ := hs.defers; rw [hd] at h0; show [_] ++ a.defers = _; rw [h0]; rfl, hs.size, fun x d hx => ⟨(hs.env x d hx).1, (hs.env x d hx).2.mono hKk⟩, hhdr3⟩
 refine ⟨rfl, ?_⟩;refine wp_mono (hrest Γ' rfl (fun _ _ h => h) k3 _ w4 hin5 hs5) ?_;rintro e a6 w6 (⟨K6, s6, hi6, hs6, hq6⟩ | hx)
 case inr => exact hx.2.elim
 have hD6 : w6.heap[w.heap.size]? = some (.deferred (some [])) := (hi6.block _ fun h => h.2 rfl).trans hD4;have hdf : a6.defers = [{ target := .collected w.heap.size, args := #[] }] := hs6.defers;generalize hw7 : w6.putObj w.heap.size (.deferred none) = w7;have hh7 : ∀ b, b ≠ w.heap.size -> w7.heap[b]? = w6.heap[b]? := fun b hb => by rw [<- hw7]; exact World.putObj_heap_other hb
 have hsz7 : w7.heap.size = w6.heap.size := by rw [<- hw7]; simp
 have ho7 : w7.os = w6.os /\ w7.tape = w6.tape /\ w7.output = w6.output := by rw [<- hw7]; exact ⟨rfl, rfl, rfl⟩
 have hin6 : In Γ K6 w6 := hin4.step hi6.le (fun b o v e => (hi6.memNew b o v e).imp id (·.1)) hi6.os hi6.tape hi6.output hi6.size fun b hb => hi6.block b fun h => hb h.1;have hin7 : In Γ K6 w7 := hin6.step (.refl _) (fun b o v e => .inl e) ho7.1 ho7.2.1 ho7.2.2 (by omega) fun b hb => hh7 b fun e => hb (by subst e; exact hin.own_of_ge (Nat.le_refl _))
 have hsim7 : Sim K6 Γ.base.own s6 { a6 with defers := [] } w7 :=
  ⟨Sat.zug (Sat.owns hs6.sat fun b hB h => h.1) w.heap.size (fun b hb _ => hh7 b hb) (hs6.sat.notBlk fun h => h.2 rfl) (zqy hD6), rfl, hs6.size, hs6.env, hs6.hdr⟩
 have fin : EndW P Γ.base fn Γ.base.n0 (fun d o n => post (.val d) o n) .ret s6 -> bodyPostM Fence.wide 0 P fn (RX Γ.base post) .ret a6 w6 := fun hend => by
  obtain ⟨v', h1, h2⟩ := zcS (Γ := Γ.base) (post := post) hend (hin7.conv rfl rfl rfl rfl) hsim7;show LeavesInM Fence.wide 0 P fn a6.tmps (RX Γ.base post) a6.defers .returning w6;rw [hdf];refine ⟨by simp, .inl ⟨w.heap.size, w7, rfl, ?_, v', h1, h2⟩⟩;rw [<- hw7];exact run_takeDeferred hD6
 cases e with
 | panic ch => exact hq6.elim
 | ret => exact .inr ⟨trivial, hesc _ _ _ (fin hq6.2)⟩
 | normal => exact absurd hq6.1 (by simp)
 | exit i => exact absurd hq6.1 (by simp)
 | goto i => exact absurd hq6.1 (by simp)
 | outgrown => exact absurd hq6.1 (by simp)
end Go.VL
namespace Go.VL
open Go
theorem zoW {P : Program} {Γ : Ctx} {s : St} {f : FuncId} {ds ds0 : List D} {L : List Nat} {post : D -> Prop} {K : Kr} {a : Act} {w : World} {vs : Array Value}
  (hds : zbK s ds0 = some (ds, L)) (hret : Fun P f ds post) (hin : In Γ K w) (hs : Sim K Γ.own s a w) (hrep : RepL K ds0 vs) :
  Calls P f vs w fun e w' => ∃ v d K', e = .returned v /\ In Γ K' w' /\ K.le K' /\ K'.hdr = K.hdr /\ Sat K' Γ.own (if zaB d then s.obs else delAll s.obs L) w' /\ Rep K' d v /\ post d := by
 obtain ⟨h1, h2, hLo⟩ := zhR hs L (fun _ => none) (vs := vs.toList) hds (by simpa using hrep.1.symm) (fun j d hj => by simpa using hrep.2 j d hj) (fun _ h => h);have hmem1 : K.mem.le (lentMem K L w) := fun b o x hx => by
  unfold lentMem;split
  ·exact hs.sat.mem b o x hx
  ·exact hx
 have hsat1 : Sat ⟨lentMem K L w, fun _ => none, zet hs L⟩ (fun b => w.heap.size <= b) [] w := ⟨fun b o v hv => by
   simp only [lentMem] at hv;split at hv
   ·exact hv
   ·exact hs.sat.mem b o v hv, fun i ob hi => by simp [VL.getK] at hi, fun i j x y h g b hx => by simp [VL.getK] at hx⟩
 refine Calls.mono (hret ⟨lentMem K L w, fun _ => none, zet hs L⟩ (fun b => w.heap.size <= b) w vs hsat1 (fun _ _ => rfl) (fun b hb => hb) ⟨by simpa using h1.symm, fun j d hj => by simpa using h2 j d hj⟩) ?_;rintro e w' ⟨v, d, obs', nx', k', rfl, hin', hsat', hhdr', hnx, hr, hpure, hpost⟩;have hheap : ∀ b, b < w.heap.size -> w'.heap[b]? = w.heap[b]? := fun b hb => hin'.block b (by simpa [Ctx.of] using hb);have hlentOwn : ∀ b, zrA K L b -> Γ.own b /\ b < w.heap.size := fun b ⟨i, hi, c, hh⟩ => by
  obtain ⟨ob, hob⟩ := hLo i hi;obtain ⟨g, h3, h4, _⟩ := hs.sat.ob i ob hob;rw [hh] at h3;cases h3;exact ⟨(h4 b rfl).1, hs.sat.lt ⟨i, ob, _, hob, hh, rfl⟩⟩
 by_cases hsc : zaB d = true
 ·have hin2 : In Γ K w' := hin.step (.refl _) (fun b o v e => .inl e) hin'.os hin'.tape hin'.output hin'.size fun b hb => by
   rcases Nat.lt_or_ge b w.heap.size with h | h
   ·exact hheap b h
   ·exact absurd (hin.own_of_ge h) hb
  have hsat2 : Sat K Γ.own s.obs w' := hs.sat.keep (.refl _) (fun b hb => hheap b (hs.sat.lt hb)) (fun b o v hv => by
   rw [cell_of_heap (hheap b (hs.sat.memLt hv))];exact hs.sat.mem b o v hv) (fun b ⟨i, ob, g, h3, h4, h5⟩ o => by
   obtain ⟨g', h6, h7, _⟩ := hs.sat.ob i ob h3;rw [h4] at h6;cases h6;exact (h7 b h5).2 o)
  exact ⟨v, d, K, rfl, hin2, .refl _, rfl, (by rw [if_pos hsc]; exact hsat2), (hr.scalar hsc), hpost⟩
 ·have hmemk : K.mem.le k'.mem := hmem1.trans hin'.le.mem;have hleK : K.le ⟨k'.mem, K.hdr, k'.glob⟩ := ⟨hmemk, fun _ _ h => h⟩;have hnew : ∀ b o v, k'.mem b o = some v -> K.mem b o = some v \/ zrA K L b \/ w.heap.size <= b := fun b o v hv => by
   rcases hin'.memNew b o v hv with h | h
   ·simp only [Ctx.of, lentMem] at h;split at h
    ·rename_i hl; exact .inr (.inl hl)
    ·exact .inl h
   ·exact .inr (.inr h)
  have hin2 : In Γ ⟨k'.mem, K.hdr, k'.glob⟩ w' := hin.step hleK (fun b o v e => (hnew b o v e).imp id fun h => h.elim (fun h => (hlentOwn b h).1) fun h => hin.own_of_ge h) hin'.os hin'.tape hin'.output hin'.size fun b hb => by
   rcases Nat.lt_or_ge b w.heap.size with h | h
   ·exact hheap b h
   ·exact absurd (hin.own_of_ge h) hb
  have hd := Sat.delAll L hs.sat;have hsat2 : Sat ⟨k'.mem, K.hdr, k'.glob⟩ Γ.own (delAll s.obs L) w' := hd.keep hleK (fun b hb => hheap b (hd.lt hb)) (fun b o v hv => hsat'.mem b o v hv) (fun b ⟨i, ob, g, h3, h4, h5⟩ o => by
   cases hm : k'.mem b o with
   | none => rfl
   | some v =>
    exfalso;rw [zfB] at h3;split at h3
    ·cases h3
    ·rename_i hiL;obtain ⟨g', h6, h7, _⟩ := hs.sat.ob i ob h3;rw [show K.hdr i = some g from h4] at h6;cases h6;rcases hnew b o v hm with h | ⟨j, hj, c, hh⟩ | h
     ·rw [(h7 b h5).2 o] at h; cases h
     ·obtain ⟨oj, hoj⟩ := hLo j hj;exact hs.sat.apart j i oj ob _ g b hoj h3 (fun e => hiL (e ▸ hj)) hh h4 rfl h5
     ·exact absurd (hs.sat.lt ⟨i, ob, g, h3, h4, h5⟩) (by omega))
  have hfin : Rep ⟨k'.mem, K.hdr, k'.glob⟩ d v := Rep.pure (k := k') (k' := ⟨k'.mem, K.hdr, k'.glob⟩) (fun _ _ _ e => e) hr hpure;exact ⟨v, d, _, rfl, hin2, hleK, rfl, (by rw [if_neg hsc]; exact hsat2), hfin, hpost⟩
theorem RetX.zuN {P : Program} {f : FuncId} {ds ds0 : List D} {L : List Nat} {d : D} {obs : List (Nat × Ob)} {nx : Nat} (h : Fun P f ds (· = d)) (ha : zbK ⟨0, [], obs, nx⟩ ds0 = some (ds, L)) :
  RetX P f ds0 obs nx fun r o n => r = .val d /\ o = (if zaB d then obs else delAll obs L) /\ n = nx := by
 intro k own w vs hsat hhdr hown hrep;have hin : In (.of own k nx w) k w := ⟨.refl _, hhdr, fun _ _ _ e => .inl e, hown, rfl, rfl, rfl, Nat.le_refl _, fun _ _ => rfl⟩;have hs : Sim k (Ctx.of own k nx w).own ⟨0, [], obs, nx⟩ ⟨#[], []⟩ w := ⟨hsat, rfl, rfl, fun x d hx => by simp [getK] at hx, hhdr⟩;refine (zoW ha h hin hs hrep).mono ?_;rintro e w' ⟨v, d', K', rfl, h1, _, h3, h4, h5, rfl⟩;exact ⟨.val d', _, nx, K', ⟨v, rfl, h5⟩, h1, h4, fun i hi => by rw [h3]; exact hhdr i hi, Nat.le_refl _, rfl, rfl, rfl⟩
theorem RetX.norm {P : Program} {f : FuncId} {ds : List D} {obs : List (Nat × Ob)} {nx : Nat} {p : Out -> List (Nat × Ob) -> Nat -> Prop} (h : RetX P f (ds.map zbH) obs nx p) : RetX P f ds obs nx p :=
 fun k own w vs h1 h2 h3 h4 => h k own w vs h1 h2 h3 ⟨by simpa using h4.1, fun j d hj => by
  rw [List.getElem?_map] at hj;obtain ⟨d0, e, rfl⟩ := Option.map_eq_some_iff.1 hj;exact zhs (h4.2 j d0 e)⟩
end Go.VL
namespace Go.Proofs.YtkdhmbhbbciedaaGreatDoor
open Go Go.VL
abbrev zlJ : List (String × DataW Unit) := [("math/bits.deBruijn32tab", Rows.laid_math_bits_deBruijn32tab), ("math/bits.deBruijn64tab", Rows.laid_math_bits_deBruijn64tab), ("internal/strconv.uint64pow10", Rows.laid_internal_strconv_uint64pow10), ("unicode/utf8.acceptRanges", Rows.laid_unicode_utf8_acceptRanges), ("strconv.ErrRange", Rows.laid_strconv_ErrRange), ("strconv.ErrSyntax", Rows.laid_strconv_ErrSyntax), ("stokvel/lex.signs", Rows.laid_stokvel_lex_signs), ("stokvel/code.words", Rows.laid_stokvel_code_words), ("unicode/utf8.first", Rows.laid_unicode_utf8_first)]
theorem zqG (os : Os) (args : Array Value) : laidMetH Tryz.prog zlJ ((World.laidAll Tryz.prog os zlJ).forCall (fun _ _ => 0) ⟨#[], args, []⟩).memory := by
 rw [MakeChecks.laidMetH_plain _ _ _ (by kernel_rfl)];exact laidMet_laidAll _ (by kernel_rfl) (by kernel_rfl)
theorem zhJ {P : Program} {w : World} {n : String} {g : Nat} {cs : Array Value} (hg : P.globalNamed n = some g) (hv : w.var? P n = some cs) :
  (∀ j, j < cs.toList.length -> VL.look w g j = some (.val (cs.toList.getD j undef))) /\ VL.look w g cs.toList.length = some .fin := by
 unfold World.var? at hv;rw [hg, Option.bind_some] at hv;split at hv
 ·rename_i cs0 t fr hh;cases hv;refine ⟨fun j hj => zer ?_, ?_⟩
  ·have hj' : j < cs.size := by simpa using hj
   simp [World.cell?, hh, hj', List.getD]
  ·have := zqx hh;simpa using this
 ·cases hv
theorem zon {P : Program} {w : World} {n : String} {g : Nat} {t e : TypeId} {cs : Array Value} {L : List (List UInt8)} {fuel : Nat} {H : Type} {enc : TypeId × Value -> H} {base : Nat} {spare : Nat -> Bool} {held : Bool} {q : List MemPlace}
  (hg : P.globalNamed n = some g) (hv : w.var? P n = some cs) (ht : P.underlying t = some (.array L.length e)) (he : P.underlying e = some .string) (hc : P.cellsOf e = 1) (hct : P.cellsOf t = L.length)
  (hd : DataW.trod enc P w base spare held fuel t cs.toList = some (.agg (L.map fun b => .lit (.string b)), q)) : cs.toList = L.map fun b => .string ⟨b.toArray⟩ := by
 obtain ⟨xs, m1, rfl, hx1, hlen, hn3, hel⟩ := DataW.trod_array ht hd;have hcell := zjR hg hv ht he hc hd;apply List.ext_getElem?;intro j;cases hb : L[j]? with
 | none =>
  have := List.getElem?_eq_none_iff.1 hb;rw [List.getElem?_eq_none (by omega), List.getElem?_map, hb]; rfl
 | some b =>
  have h := hcell j b hb;rw [World.var?_cell hg hv j] at h;rw [List.getElem?_map, hb, Array.getElem?_toList, h]; rfl
def ztw : List (List UInt8) := [[61, 61], [59], [44], [61], [60], [43], [45], [42], [47], [40], [41]]
def ztt : List (List UInt8) := [[110, 117, 109], [110, 97, 109, 101], [97, 100, 100], [115, 117, 98], [109, 117, 108], [100, 105, 118], [115, 99, 97, 108, 101], [109, 105, 110], [109, 97, 120], [108, 101, 115, 115], [101, 113], [110, 111, 116], [106, 117, 109, 112], [102, 97, 108, 115, 101], [101, 110, 100]]
def ztB : List Int := (List.range 20).map fun i => (10 : Int) ^ i
theorem zmz {P : Program} {w : World} {t : TypeId} {ms} {cs : List Value} {fuel : Nat} {H : Type} {enc : TypeId × Value -> H} {base : Nat} {spare : Nat -> Bool} {held : Bool} {nm : String} {y : DataW H} {q : List MemPlace}
  (ht : P.underlying t = some (.interface ms)) (h : DataW.trod enc P w base spare held fuel t cs = some (.iface nm y, q)) : ∃ tp v, cs = [.iface tp v] := by
 cases fuel with
 | zero => simp [DataW.trod] at h
 | succ n =>
  rw [DataW.trod_step] at h;unfold DataW.trodStep at h;rw [ht] at h;split at h <;> simp_all
theorem zpa (W : World) (h : laidMetH Tryz.prog zlJ W) : GlobIn (zj0 W) := by
 rw [MakeChecks.laidMetH_plain _ _ _ (by kernel_rfl)] at h;obtain ⟨ps, ⟨g0, t0, c0, f0, p0, q0, hg0, ht0, hv0, hd0, ⟨g1, t1, c1, f1, p1, q1, hg1, ht1, hv1, hd1, ⟨g2, t2, c2, f2, p2, q2, hg2, ht2, hv2, hd2, ⟨g3, t3, c3, f3, p3, q3, hg3, ht3, hv3, hd3, ⟨g4, t4, c4, f4, p4, q4, hg4, ht4, hv4, hd4, ⟨g5, t5, c5, f5, p5, q5, hg5, ht5, hv5, hd5, ⟨g6, t6, c6, f6, p6, q6, hg6, ht6, hv6, hd6, ⟨g7, t7, c7, f7, p7, q7, hg7, ht7, hv7, hd7, ⟨g8, t8, c8, f8, p8, q8, hg8, ht8, hv8, hd8, _⟩, _⟩, _⟩, _⟩, _⟩, _⟩, _⟩, _⟩, _⟩, _⟩ := h;obtain rfl : g2 = 9 := Option.some.inj (hg2.symm.trans (by kernel_rfl));obtain rfl : g4 = 3 := Option.some.inj (hg4.symm.trans (by kernel_rfl));obtain rfl : g5 = 2 := Option.some.inj (hg5.symm.trans (by kernel_rfl));obtain rfl : g6 = 8 := Option.some.inj (hg6.symm.trans (by kernel_rfl));obtain rfl : g7 = 0 := Option.some.inj (hg7.symm.trans (by kernel_rfl));obtain rfl : t2 = 227 := Option.some.inj (ht2.symm.trans (by kernel_rfl));obtain rfl : t6 = 226 := Option.some.inj (ht6.symm.trans (by kernel_rfl));obtain rfl : t7 = 76 := Option.some.inj (ht7.symm.trans (by kernel_rfl));obtain rfl : t4 = 78 := Option.some.inj (ht4.symm.trans (by kernel_rfl));obtain rfl : t5 = 78 := Option.some.inj (ht5.symm.trans (by kernel_rfl));have e2 := Lib.cells_of_tab (p := p2) (n := 20) (e := 191) (k := .u64) (zs := ztB) (by kernel_rfl) (by kernel_rfl) (by kernel_rfl) (by kernel_rfl) (hd2.trans (by kernel_rfl));have e6 := zon (q := p6) (L := ztw) hg6 hv6 (by kernel_rfl) (e := 9) (by kernel_rfl) (by kernel_rfl) (by kernel_rfl) (hd6.trans (by kernel_rfl));have e7 := zon (q := p7) (L := ztt) hg7 hv7 (by kernel_rfl) (e := 9) (by kernel_rfl) (by kernel_rfl) (by kernel_rfl) (hd7.trans (by kernel_rfl));obtain ⟨ms4, hm4⟩ : ∃ ms, Tryz.prog.underlying 78 = some (.interface ms) := ⟨_, rfl⟩;obtain ⟨u4, v4, e4⟩ := zmz hm4 hd4;obtain ⟨u5, v5, e5⟩ := zmz hm4 hd5;have x2 := zhJ hg2 hv2;have x4 := zhJ hg4 hv4;have x5 := zhJ hg5 hv5;have x6 := zhJ hg6 hv6;have x7 := zhJ hg7 hv7;rw [e2] at x2;rw [e4] at x4;rw [e5] at x5;rw [e6] at x6;rw [e7] at x7;refine ⟨fun p hp => ?_, fun g hg => ?_⟩
 ·unfold globs at hp;simp only [List.mem_cons, List.not_mem_nil, or_false] at hp;rcases hp with rfl | rfl | rfl
  all_goals first | exact x2 | exact x6 | exact x7
 ·unfold ztH at hg;simp only [List.mem_cons, List.not_mem_nil, or_false] at hg;rcases hg with rfl | rfl
  all_goals first | exact ⟨_, _, x4.1 0 (by simp)⟩ | exact ⟨_, _, x5.1 0 (by simp)⟩
end Go.Proofs.YtkdhmbhbbciedaaGreatDoor
namespace Go.Proofs.YtkdhmbhbbciedaaGreatDoor
open Go Go.VL Go.Shelf Go.RowKit
theorem bsz : (Tryz.prog.info? 88).map (·.size) = some 2 := by kernel_rfl
theorem zuL : liesAt Tryz.prog Tryz.prog.depth 88 (2 / Tryz.prog.cellsOf 88) 0 88 1 = true := by kernel_rfl
set_option maxHeartbeats 1000000 in
set_option maxRecDepth 100000 in
theorem ztV (b : Nat) (w : World) (h0 : w.cell? ⟨b, 0, none⟩ = some (.pointer (some ⟨b, 0, none⟩))) :
  Calls Tryz.prog 83 #[.pointer (some ⟨b, 0, none⟩)] w fun e w' => e = .returned (.tuple #[]) /\ w' = w := by
 obtain ⟨j, hj, _⟩ := Option.map_eq_some_iff.1 bsz
 go_enter Tryz.func83, Tryz.ntmps83
 go_wp2
 rw [Lib.run_neq_ptr_same w _ Tryz.underlying85 hj]
 go_wp2
 go_end0
 exact ⟨rfl, rfl⟩
set_option maxHeartbeats 1000000 in
set_option maxRecDepth 100000 in
theorem zsW (b : Nat) (w : World) (h0 : w.cell? ⟨b, 0, none⟩ = some (.pointer none)) (hsh : w.shape? b = some (88, 2)) (hfz : w.frozen? ⟨b, 0, none⟩ = false) :
  Calls Tryz.prog 83 #[.pointer (some ⟨b, 0, none⟩)] w fun e w' => e = .returned (.tuple #[]) /\ w' = w.setCell ⟨b, 0, none⟩ (.pointer (some ⟨b, 0, none⟩)) := by
 obtain ⟨j, hj, hjs⟩ := Option.map_eq_some_iff.1 bsz
 go_enter Tryz.func83, Tryz.ntmps83
 go_wp2
 rw [Lib.run_to_unsafe w ⟨b, 0, none⟩ Tryz.underlying85 Tryz.underlying166 hj (by rw [hjs]; decide) hsh (Nat.zero_lt_succ 1)];simp only [Result.andThen];rw [Oper.upon_value]
 go_wp2
 rw [run_callFunc_extern Tryz.func129 (by kernel_rfl) (by kernel_rfl) (by kernel_rfl) (e := Extern.AbiNoEscape.same) (by kernel_rfl)];rw [Lib.run_noEscape];simp only [Result.andThen];rw [Oper.upon_value]
 go_wp2
 rw [Lib.run_from_unsafe w ⟨b, 0, none⟩ Tryz.underlying166 Tryz.underlying85 hj hsh zuL];simp only [Result.andThen];rw [Oper.upon_value]
 go_wp2
 go_end0
 exact ⟨rfl, rfl⟩
end Go.Proofs.YtkdhmbhbbciedaaGreatDoor
namespace Go.Proofs.YtkdhmbhbbciedaaGreatDoor
open Go Go.VL Go.Shelf Go.RowKit
abbrev bT : Nat := 88
abbrev u8T : Nat := 5
theorem zhr {k : Kr} {d : D} {vs : Array Value} (h : RepL k [d] vs) : ∃ v, vs = #[v] /\ Rep k d v := by
 obtain ⟨h1, h2⟩ := h;have hs : vs.size = 1 := by simpa using h1
 refine ⟨vs.getD 0 undef, ?_, h2 0 d rfl⟩;apply Array.ext_getElem?;intro i
 match i with
 | 0 => have h4 : 0 < vs.size := by omega
        simp [h4]
 | i + 1 => rw [Array.getElem?_eq_none (by omega), Array.getElem?_eq_none (by simp)]
theorem zqV (i nx : Nat) (hi : i < nx) : RetX Tryz.prog 83 [.ptr i 0] [(i, .nw bT)] nx
  (fun r o n => r = .val (.tup []) /\ o = [(nx, .vec u8T 1 []), (i, .box [.ptr i 0, .vec nx 0])] /\ n = nx + 1) := by
 intro k own w vs hsat hhdr hown hrep;obtain ⟨v, rfl, hv⟩ := zhr hrep;obtain ⟨⟨hb, c⟩, h1, h2, b, e, h3⟩ := hsat.ob i (.nw bT) (by simp [getK]);simp only at e;subst e;obtain ⟨b', c', h4, rfl⟩ := zdc hv;rw [h1] at h4;cases h4;obtain ⟨hob, hnone⟩ := h2 b rfl;have hlt : b < w.heap.size := (Array.getElem?_eq_some_iff.1 h3).1;refine (zsW b w (by simp [World.cell?, h3]) (by simp [World.shape?, h3]) (by simp [World.frozen?, h3])).mono ?_;rintro e w' ⟨rfl, rfl⟩;have hheap : ∀ x, x ≠ b -> (w.setCell ⟨b, 0, none⟩ (.pointer (some ⟨b, 0, none⟩))).heap[x]? = w.heap[x]? := fun x hx => Below.heap_setCell _ _ _ _ hx;have hbb : (w.setCell ⟨b, 0, none⟩ (.pointer (some ⟨b, 0, none⟩))).heap[b]? = some (.cells #[.pointer (some ⟨b, 0, none⟩), .slice none 0 0] bT (0, 0)) := by
  simp [World.setCell, Array.getElem?_modify, h3]
 have hnx := hhdr nx (Nat.le_refl _);have hle := Kr.zfs (k := k) (h := (none, 0)) hnx;have hki : (k.add nx (none, 0)).hdr i = some (some b, c) := by simp only [Kr.add]; rw [if_neg (by omega)]; exact h1
 refine ⟨.val (.tup []), [(nx, .vec u8T 1 []), (i, .box [.ptr i 0, .vec nx 0])], nx + 1, k.add nx (none, 0), ⟨_, rfl, .tup [] [] rfl (by simp)⟩, ⟨hle, hhdr, fun _ _ _ e => .inl e, hown, rfl, rfl, rfl, by simp [World.setCell], fun x hx => hheap x fun e => hx (e ▸ hob)⟩,
  ⟨fun x o v hm => ?_, fun j ob hj => ?_, fun x y ox oy g g' z hx hy hxy hg hg' hz => ?_⟩, fun q hq => ?_, by omega, rfl, rfl, rfl⟩
 ·have hm : k.mem x o = some v := hm;have hne : x ≠ b := fun e => by rw [e, hnone o] at hm; cases hm
  rw [ze1 (hheap x hne)];exact hsat.mem x o v hm
 ·simp only [getK] at hj;split at hj
  ·rename_i hji;subst hji;cases hj;exact ⟨(none, 0), by simp [Kr.add], fun b e => (by cases e), [], ⟨rfl, .inl ⟨rfl, rfl⟩⟩, Nat.one_pos, by simp, by simp⟩
  ·split at hj
   ·rename_i hji;subst hji;cases hj;refine ⟨(some b, c), hki, h2, b, _, bT, rfl, hbb, rfl, fun q d hq => ?_⟩
    match q, hq with
    | 0, hq => cases hq; exact ⟨rfl, .ptr j 0 b c hki⟩
    | 1, hq => cases hq; exact ⟨rfl, .vec nx 0 (none, 0) (by simp [Kr.add])⟩
   ·cases hj
 ·by_cases hxn : x = nx
  ·subst hxn;have : g = (none, 0) := by simpa [Kr.add] using hg.symm
   rw [this] at hz;cases hz
  ·by_cases hyn : y = nx
   ·subst hyn;have : g' = (none, 0) := by simpa [Kr.add] using hg'.symm
    rw [this];simp
   ·simp only [getK, if_neg hxn] at hx;simp only [getK, if_neg hyn] at hy;split at hx
    ·split at hy
     ·omega
     ·cases hy
    ·cases hx
 ·simp only [Kr.add];rw [if_neg (by omega)];exact hhdr q (by omega)
theorem zpn (i nx : Nat) (hi : i < nx) (d : D) : RetX Tryz.prog 83 [.ptr i 0] [(i, .box [.ptr i 0, d])] nx
  (fun r o n => r = .val (.tup []) /\ o = [(i, .box [.ptr i 0, d])] /\ n = nx) := by
 intro k own w vs hsat hhdr hown hrep;obtain ⟨v, rfl, hv⟩ := zhr hrep;obtain ⟨b, c, cs, t, h1, hob, h3, hsz, hcs, hnone⟩ := (hsat.ob i (.box [.ptr i 0, d]) (by simp [getK])).box;obtain ⟨b', c', h4, rfl⟩ := zdc hv;rw [h1] at h4;cases h4;have h0 := (hcs 0 _ rfl).2;obtain ⟨b', c', h4, h5⟩ := zdc h0;rw [h1] at h4;cases h4;have hc0 : cs[0]? = some (.pointer (some ⟨b, 0, none⟩)) := by
  have hlt : 0 < cs.size := by rw [hsz]; simp
  rw [Array.getElem?_eq_getElem hlt];rw [<- h5];simp [hlt]
 refine (ztV b w (by simp [World.cell?, h3, hc0])).mono ?_;rintro e w' ⟨rfl, rfl⟩;exact ⟨.val (.tup []), [(i, .box [.ptr i 0, d])], nx, k, ⟨_, rfl, .tup [] [] rfl (by simp)⟩, ⟨.refl _, hhdr, fun _ _ _ e => .inl e, hown, rfl, rfl, rfl, Nat.le_refl _, fun x hx => rfl⟩, hsat, hhdr, Nat.le_refl _, rfl, rfl, rfl⟩
section
open Go.RowKit
variable {P : Program} {ρ : Ren}
set_option maxHeartbeats 1000000 in
set_option maxRecDepth 100000 in
theorem zj9 (L : Go.Proofs.Lays.n169 P ρ) (X : Builder.Extra P ρ) (b g cap : Nat) (c0 : Value) (T : TypeId) (l : List UInt8) (cur : Array Value) (w : World) (h0 : l ≠ [])
  (hbk : w.heap[b]? = some (.cells #[c0, .slice (some ⟨g, 0, none⟩) l.length cap] T (0, 0))) (hg : w.heap[g]? = some (.cells cur (ρ.t 5) (0, 0))) (hnc : l.length <= cap) (hcm : cap <= maxLen) (hcs : cur.size = cap * 1)
  (hcells : ∀ (j : Nat) (x : UInt8), l[j]? = some x -> w.cell? ⟨g, j, none⟩ = some (.int .u8 x.toNat)) :
  Calls P (ρ.f 169) #[.pointer (some ⟨b, 0, none⟩)] w fun e w' => e = .returned (.string ⟨l.toArray⟩) /\ w' = w.drew.freeze ⟨g, 0, none⟩ l.length := by
 have hl0 : l.length ≠ 0 := by simpa using h0
 have c1 : w.drew.cell? ⟨b, 1, none⟩ = some (.slice (some ⟨g, 0, none⟩) l.length cap) := by
  have : w.drew.heap[b]? = some (.cells #[c0, .slice (some ⟨g, 0, none⟩) l.length cap] T (0, 0)) := hbk;rw [Lib.cell_of_heap this]; rfl
 have hSD : (Builtin.unsafeSliceData_ #[(ρ.t 37)] (ρ.t 127) #[.slice (some ⟨g, 0, none⟩) l.length cap]).run P w.drew = .ok (.pointer (some ⟨g, 0, none⟩)) w.drew :=
  Lib.run_unsafeSliceData_row _ _ _ _ _ _ (by omega)
 have hUS : (Builtin.unsafeString_ #[(ρ.t 127), (ρ.t 3)] (ρ.t 9) #[.pointer (some ⟨g, 0, none⟩), .int .i64 l.length]).run P w.drew = .ok (.string ⟨l.toArray⟩) (w.drew.freeze ⟨g, 0, none⟩ l.length) := by
  refine Lib.run_unsafeString_row w.drew (ρ.t 127) (ρ.t 3) (ρ.t 9) (ρ.t 5) L.t127 X.cellsByte g cur.size (by have hg' : w.drew.heap[g]? = some (.cells cur (ρ.t 5) (0, 0)) := hg; simp [World.shape?, hg']) l h0 (by omega) (by unfold maxLen at hcm; omega) ?_;intro j x hx;rw [zcz, Nat.zero_add];exact hcells j x hx
 have mixed := L.mixed;have t72 := L.t72; have a72 := L.a72; have z72 := L.z72; have v72 := L.v72; have u72 := run_underlying L.t72;have t70 := L.t70; have a70 := L.a70; have z70 := L.z70; have v70 := L.v70; have u70 := run_underlying L.t70;have t37 := L.t37; have a37 := L.a37; have z37 := L.z37; have v37 := L.v37; have u37 := run_underlying L.t37;have t127 := L.t127; have a127 := L.a127; have z127 := L.z127; have v127 := L.v127; have u127 := run_underlying L.t127;have t3 := L.t3; have a3 := L.a3; have z3 := L.z3; have v3 := L.v3; have u3 := run_underlying L.t3;have t9 := L.t9; have a9 := L.a9; have z9 := L.z9; have v9 := L.v9; have u9 := run_underlying L.t9;have t5 := X.t5; have a5 := X.a5; have z5 := X.z5; have v5 := X.v5; have u5 := run_underlying X.t5
 go_enter L.f169, Body.n169_ntmps ρ
 go_wp2
 go_region_o
 all_goals (go_wp2; go_ret; exact ⟨rfl, rfl⟩)
end
theorem zm4 (i j nx : Nat) (hi : i < nx) (hj : j < nx) (hij : i ≠ j) (l : List UInt8) (h0 : l ≠ []) : RetX Tryz.prog 51 [.ptr i 0] [(i, .box [.ptr i 0, .vec j l.length]), (j, .vec u8T 1 (zdP l))] nx
  (fun r o n => r = .val (.u (.str l)) /\ o = [] /\ n = nx) := by
 intro k own w vs hsat hhdr hown hrep;obtain ⟨v, rfl, hv⟩ := zhr hrep;obtain ⟨b, c, cs, t, h1, hob, h3, hsz, hcs, hnone⟩ := (hsat.ob i (.box [.ptr i 0, .vec j l.length]) (by simp [getK])).box;obtain ⟨b', c', h4, rfl⟩ := zdc hv;rw [h1] at h4;cases h4;obtain ⟨hd, xs, g1, hrow, _, _, hxs, hno⟩ := (hsat.ob j (.vec u8T 1 (zdP l)) (by simp [getK, Ne.symm hij])).vec;obtain ⟨hd', g2, hv1⟩ := zeh (hcs 1 _ rfl).2;rw [g1] at g2;cases g2;rw [zi0] at hrow;have hl0 : l.length ≠ 0 := by simpa using h0
 rcases hrow.2 with ⟨_, hz⟩ | ⟨g, cap, cur, hhv, _, hg, hnc, hcm, hcsz, htk⟩
 ·exact absurd hz hl0
 have hd1 : hd.1 = some g /\ hd.2 = cap := by
  simp only [zaU, Value.slice.injEq, Option.map_eq_some_iff] at hhv;obtain ⟨⟨b, hb, e⟩, _, e2⟩ := hhv;simp only [Addr.mk.injEq] at e;exact ⟨by rw [hb, e.1], e2⟩
 have hcell : ∀ (q : Nat) (x : UInt8), l[q]? = some x -> w.cell? ⟨g, q, none⟩ = some (.int .u8 x.toNat) := fun q x hq => by
  have h5 := (hxs q [.u (.int .u8 x.toNat)] (by rw [zgv]; simp [hq]) 0 _ rfl).2;have h6 := zbO h5;have hlt : q < xs.length := by rw [hrow.1]; have := (List.getElem?_eq_some_iff.1 hq).1; omega
  have h7 := hrow.cells (g := g) (by rw [hhv]; rfl) q (xs.getD (q * 1 + 0) undef) (by simp [hlt]);rw [h6] at h7
  rwa [zcz, Nat.zero_add] at h7
 have hc2 : cs = #[cs.getD 0 undef, .slice (some ⟨g, 0, none⟩) l.length cap] := by
  have e1 : cs.getD 1 undef = .slice (some ⟨g, 0, none⟩) l.length cap := by rw [hv1, hhv]
  apply Array.ext_getElem?;intro q;have hs2 : cs.size = 2 := by simpa using hsz
  match q with
  | 0 => simp [show 0 < cs.size by omega]
  | 1 => rw [<- e1]; simp [show 1 < cs.size by omega]
  | q + 2 => rw [Array.getElem?_eq_none (by omega), Array.getElem?_eq_none (by simp)]
 rw [hc2] at h3;refine (zj9 (P := Tryz.prog) (ρ := Tryz.zfG) Tryz.zs5 Tryz.zgz b g cap _ t l cur w h0 h3 hg hnc hcm hcsz hcell).mono ?_;rintro e w' ⟨rfl, rfl⟩;have hog := hno g hd1.1;have hfz : w.drew.freeze ⟨g, 0, none⟩ l.length = { w.drew with heap := (w.drew.freeze ⟨g, 0, none⟩ l.length).heap } := by
  unfold World.freeze;rw [if_neg hl0]
 have hheap : ∀ x, x ≠ g -> (w.drew.freeze ⟨g, 0, none⟩ l.length).heap[x]? = w.heap[x]? := fun x hx => by
  unfold World.freeze;rw [if_neg hl0];simp only [Array.getElem?_modify];rw [if_neg (Ne.symm hx)];rfl
 have hsz : (w.drew.freeze ⟨g, 0, none⟩ l.length).heap.size = w.heap.size := by
  unfold World.freeze;rw [if_neg hl0];simp only [Array.size_modify];rfl
 refine ⟨.val (.u (.str l)), [], nx, k, ⟨_, rfl, .u _ _ (.str l)⟩, ⟨.refl _, hhdr, fun _ _ _ e => .inl e, hown, by rw [hfz]; rfl, by rw [hfz]; rfl, by rw [hfz]; rfl, by rw [hsz]; exact Nat.le_refl _, fun x hx => hheap x fun e => hx (e ▸ hog.1)⟩,
  ⟨fun x o v hm => ?_, fun j ob hj => by simp [getK] at hj, fun x y ox oy g g' z hx => by simp [getK] at hx⟩, hhdr, Nat.le_refl _, rfl, rfl, rfl⟩
 have hne : x ≠ g := fun e => by rw [e, hog.2 o] at hm; cases hm
 rw [ze1 (hheap x hne)];exact hsat.mem x o v hm
theorem Fun.zpX {P : Program} {f : FuncId} {ds : List D} {u : U} (h : ∀ (k : Kr) (own : Nat -> Prop) (w : World) (vs : Array Value), Sat k own [] w -> RepL k ds vs -> ∃ v, RepU k.mem u v /\ Calls P f vs w fun e w' => e = .returned v /\ Below w.heap.size w w') :
  Fun P f ds (· = .u u) := by
 intro k own w vs hsat hhdr hown hrep;obtain ⟨v, hv, hc⟩ := h k own w vs hsat hrep;refine hc.mono ?_;rintro e w' ⟨rfl, hb⟩;refine ⟨v, .u u, [], 0, k, rfl, ⟨.refl _, fun i hi => hhdr i hi, fun _ _ _ e => .inl e, hown, hb.os, hb.tape, hb.output, hb.size, fun x hx => hb.block x ?_⟩, ⟨fun x o v hm => ?_, fun j ob hj => by simp [getK] at hj, fun x y ox oy g g' z hx => by simp [getK] at hx⟩, hhdr, Nat.le_refl _, .u _ _ hv, by simp [zaV], rfl⟩
 ·rcases Nat.lt_or_ge x w.heap.size with h | h
  ·exact h
  ·exact absurd (hown x h) hx
 ·rw [ze1 (hb.block x (hsat.memLt hm))];exact hsat.mem x o v hm
end Go.Proofs.YtkdhmbhbbciedaaGreatDoor
namespace Go.Proofs.YtkdhmbhbbciedaaGreatDoor
open Go Go.VL
attribute [local simp] zaY zcB zbz evPure opd uOf zal St.put St.at getK binD binI binS binB nilD aggD zeS zfd lookD lookR zbE rangeS Go.VL.nextD Go.VL.nextS zbJ zfk zfe zeu zb7 mkV zaZ zcH zaL za1 mapEff zdw zek Key.kk shiftI arith unD convD zcP loadD cellsAt fieldAddrD fieldD indexAddrD indexSlD arrAddr indexD sliceD cutD lenD minmaxD nilCheckD buildD fillD zbn zcC zd1 setAll zcx zdZ zbD zeO zbC St.add zaj za6 rowsOf zcI zca zad zac zaa zaQ zcs zaG entry za2 za3 valD zbK zcq zeL zcD zcE zbp zbo zag zaB za0 delAll effD St.effS zb4 zaD zas zb5 zaE zau zbl zat zan zbm zb2 zaW zbj zaJ zbi zah mkD zbd za4 zbb zag zbN D.ids Op.operands Call.operands za5 makeIfD makeFuncD typeAssertD zfc zcL zcM zeY zbG IntKind.bits zbQ zam List.take_of_length_le List.range_succ zci zbx zcj zcd za7 zbq zbs zce zbu zaP zbt zbr zfJ zbw zcg zaH zav zch zaI zax zbv zaw zaq zcm zcn zfH zab frzN frz1 zaO zaN St.frz St.frzS frzS fv zbI zbV zcb zaM zay zao frz zcc zbH zbS zbT zaX St.norm St.lp St.only zaS wkE wkO wkU Ob.under D.under zai zap zck zby zcl h4s zdG zar zaV List.zipIdx_cons List.zipIdx_nil List.map_cons List.map_nil Nat.zero_add
attribute [local irreducible] V G H HD HD2 zaT Eff CallP CallV EndOK Fun Ret FinOK LoopI LoopW EndW HR vs2 RN Cnd H4
inductive Exp where
 | mk (op n unit : Int) (s : List UInt8) (args : List Exp)
 deriving Inhabited
def Exp.row : Exp -> List U
 | .mk op n u s args => [.int .i64 op, .int .i64 n, .int .i64 u, .str s, .sl (args.map fun e => e.row)]
def Exp.op : Exp -> Int | .mk op _ _ _ _ => op
def Exp.n : Exp -> Int | .mk _ n _ _ _ => n
def Exp.unit : Exp -> Int | .mk _ _ u _ _ => u
def Exp.s : Exp -> List UInt8 | .mk _ _ _ s _ => s
def Exp.args : Exp -> List Exp | .mk _ _ _ _ args => args
theorem Exp.row_eq (e : Exp) : e.row = [.int .i64 e.op, .int .i64 e.n, .int .i64 e.unit, .str e.s, .sl (e.args.map Exp.row)] := by
 cases e with
 | mk op n u s args => rw [Exp.row]; rfl
structure Var where
 name : List UInt8
 unit : Int
 n : Int
 deriving DecidableEq, Inhabited
structure Let where
 name : List UInt8
 body : Exp
 deriving Inhabited
def Var.row (v : Var) : List U := [.str v.name, .int .i64 v.unit, .int .i64 v.n]
def Let.row (l : Let) : List U := .str l.name :: l.body.row
def vars (l : List Var) : U := .sl (l.map Var.row)
def lets (l : List Let) : U := .sl (l.map Let.row)
def zdq (c : UInt8) : Bool := decide (97 <= c.toNat) && decide (c.toNat <= 122)
def za9 (c : UInt8) : Bool := decide (48 <= c.toNat) && decide (c.toNat <= 57)
theorem zes (c : UInt8) : Fun Tryz.prog 154 [.u (.int .u8 c.toNat)] (· = .u (.bool (zdq c))) := by
 unfold zdq;refine Fun.run Tryz.func154 Tryz.ntmps154 Tryz.results154 rfl (by simp) fun Γ hn => ?_
 repeat' (first
  | (refine Cnd.of (fun hc => ?_) (fun hc => ?_) <;> (try (exfalso; omega)) <;> (try simp))
  | (refine zaf rfl ?_; simp)
  | fail)
 all_goals
  (refine Pst.of ?_; simp)
 all_goals first | omega | (simp; omega) | (rw [Bool.eq_iff_iff]; simp; omega)
theorem zfb (c : UInt8) : Fun Tryz.prog 157 [.u (.int .u8 c.toNat)] (· = .u (.bool (za9 c))) := by
 unfold za9;refine Fun.run Tryz.func157 Tryz.ntmps157 Tryz.results157 rfl (by simp) fun Γ hn => ?_
 repeat' (first
  | (refine Cnd.of (fun hc => ?_) (fun hc => ?_) <;> (try (exfalso; omega)) <;> (try simp))
  | (refine zaf rfl ?_; simp)
  | fail)
 all_goals
  (refine Pst.of ?_; simp)
 all_goals first | omega | (simp; omega) | (rw [Bool.eq_iff_iff]; simp; omega)
theorem zob (c : UInt8) : Fun Tryz.prog 156 [.u (.int .u8 c.toNat)] (· = .u (.bool (zdq c || za9 c))) := by
 refine Fun.run Tryz.func156 Tryz.ntmps156 Tryz.results156 rfl (by simp) fun Γ hn => ?_
 repeat' (first
  | (refine Cnd.of (fun hc => ?_) (fun hc => ?_) <;> (try (exfalso; omega)) <;> (try simp))
  | (refine zaf rfl ?_; simp)
  | ((first | refine CallP.f2 rfl (zes c) (by first | simp <;> rfl | fail) ?_ | refine CallP.f2 rfl (zfb c) (by first | simp <;> rfl | fail) ?_ | fail); simp)
  | fail)
 all_goals
  (refine Pst.of ?_; simp)
 all_goals simp_all
def zcY (p : UInt8 -> Bool) (l : List UInt8) : Nat := (l.takeWhile p).length
theorem zmk {p : UInt8 -> Bool} {l : List UInt8} {i : Nat} (h : ∀ c ∈ l.take i, p c = true) (hi : i <= l.length) (he : i = l.length \/ ∃ c, l[i]? = some c /\ p c = false) : zcY p l = i := by
 unfold zcY
 induction l generalizing i with
 | nil => simp at hi; simp [hi]
 | cons a l ih =>
  cases i with
  | zero =>
   rcases he with he | ⟨c, h1, h2⟩
   ·simp at he
   ·simp at h1; subst h1; simp [h2]
  | succ i =>
   have ha : p a = true := h a (by simp);rw [List.takeWhile_cons, if_pos ha, List.length_cons];rw [ih (i := i) (fun c hc => h c (by simp [hc])) (by simpa using hi) (by simpa using he)]
def zjy {α : Type} (p : α -> Bool) : List α -> Int -> Int
 | [], _ => -1
 | x :: l, i => if p x = true then i else zjy p l (i + 1)
theorem zlL {α : Type} {p : α -> Bool} {l : List α} {i : Nat} {x : α} {k : Int} (h : ∀ c ∈ l.take i, p c = false) (hx : l[i]? = some x) (hp : p x = true) : zjy p l k = k + i := by
 induction l generalizing i k with
 | nil => simp at hx
 | cons s l ih =>
  cases i with
  | zero => simp at hx; simp [zjy, hx, hp]
  | succ i =>
   rw [zjy, if_neg (by rw [h s (by simp)]; simp), ih (i := i) (fun c hc => h c (by simp [hc])) (by simpa using hx)];omega
theorem zhH {α : Type} {p : α -> Bool} {l : List α} {k : Int} (h : ∀ c ∈ l, p c = false) : zjy p l k = -1 := by
 induction l generalizing k with
 | nil => rfl
 | cons s l ih => rw [zjy, if_neg (by rw [h s (by simp)]; simp), ih fun c hc => h c (by simp [hc])]
theorem zmA {α : Type} (p : α -> Bool) (l : List α) : ∀ k : Int, 0 <= k -> (0 <= zjy p l k ↔ l.any p = true) := by
 induction l with
 | nil => intro k hk; simp [zjy]
 | cons s l ih =>
  intro k hk;by_cases h : p s = true
  ·simp [zjy, h, hk]
  ·rw [zjy, if_neg h, ih (k + 1) (by omega)];simp [h]
theorem zcT {α : Type} {p : α -> Prop} {l : List α} {i : Nat} {x : α} (hx : l[i]? = some x) (h : ∀ c ∈ l.take i, p c) (hp : p x) : ∀ c ∈ l.take (i + 1), p c := by
 obtain ⟨hi, rfl⟩ := List.getElem?_eq_some_iff.1 hx;rw [List.take_succ_eq_append_getElem hi];intro c hc;rcases List.mem_append.1 hc with hc | hc
 ·exact h c hc
 ·simp at hc; subst hc; exact hp
theorem zfN (l : List UInt8) (hl : l.length <= 1000000) (f : FuncId) (p : UInt8 -> Bool) (hf : ∀ c ∈ l, Fun Tryz.prog f [.u (.int .u8 c.toNat)] (· = .u (.bool (p c)))) (hcl : zae Tryz.prog f = true) :
  Fun Tryz.prog 155 [.u (.str l), .fnc (.func f) []] (· = .u (.int .i64 (zcY p l))) := by
 refine Fun.run Tryz.func155 Tryz.ntmps155 Tryz.results155 rfl (by simp) fun Γ hn => ?_
 repeat' (first
  | (refine zaf rfl ?_; simp)
  | fail)
 refine zdD (α := { i : Nat // i <= l.length /\ ∀ c ∈ l.take i, p c = true }) [0, 1] (fun i => [(5, .u (.int .i64 i.1))]) (fun i => l.length - i.1) ⟨0, by omega, by simp⟩ ?_ ?_
 ·exact (Wk.env rfl rfl rfl (by simp [wkE, St.lp, zaS, zaa, getK] <;> (try (intros; simp_all; done)) <;> (try (intros; omega)) <;> (try grind)))
 rintro ⟨i, hi, hb⟩;simp;rcases hx : l[i]? with _ | c
 ·have hge : l.length <= i := by simpa using hx
  repeat' (first
  | (refine Cnd.of (fun hc => ?_) (fun hc => ?_) <;> (try (exfalso; omega)) <;> (try simp [hx]))
  | (refine zaf rfl ?_; simp [hx])
  | fail)
  (refine Pst.of ?_; simp)
  rw [zmk hb hi (.inl (by omega))]
 ·have hlt := (List.getElem?_eq_some_iff.1 hx).1;have h1 := hf c (List.mem_of_getElem? hx)
  repeat' (first
  | (refine Cnd.of (fun hc => ?_) (fun hc => ?_) <;> (try (exfalso; omega)) <;> (try simp [hx]))
  | (refine zaf rfl ?_; simp [hx])
  | (refine And.intro (by omega) ?_)
  | (refine CallP.f2 rfl (h1) (by first | simp [hx] <;> rfl | fail) ?_; simp [hx])
  | fail)
  ·refine LoopW.next ⟨i + 1, by omega, zcT hx hb (by assumption)⟩ (by simp; omega) ?_
   exact (Wk.env rfl rfl rfl (by simp [wkE, St.lp, zaS, zaa, getK] <;> (try (intros; simp_all; done)) <;> (try (intros; omega)) <;> (try grind)))
  ·(refine Pst.of ?_; simp)
   rw [zmk hb hi (.inr ⟨c, hx, by assumption⟩)]
def zh4 (s : List UInt8) : Bool := match s with
 | [] => false
 | c :: _ => zdq c && decide (s.length <= 20) && decide (zcY (fun c => zdq c || za9 c) s = s.length)
theorem zmc (s : List UInt8) : Fun Tryz.prog 126 [.u (.str s)] (· = .u (.bool (zh4 s))) := by
 cases s with
 | nil =>
  refine Fun.run Tryz.func126 Tryz.ntmps126 Tryz.results126 rfl (by simp) fun Γ hn => ?_
  repeat' (first
  | (refine zaf rfl ?_; simp)
  | fail)
  all_goals
   (refine Pst.of ?_; simp)
  all_goals simp [zh4]
 | cons c s =>
  by_cases hl : s.length + 1 <= 20
  ·have hs := zfN (c :: s) (by simp; omega) 156 _ (fun c _ => zob c) (by simp);refine Fun.run Tryz.func126 Tryz.ntmps126 Tryz.results126 rfl (by simp) fun Γ hn => ?_
   repeat' (first
  | (refine Cnd.of (fun hc => ?_) (fun hc => ?_) <;> (try (exfalso; omega)) <;> (try simp))
  | (refine zaf rfl ?_; simp)
  | ((first | refine CallP.f2 rfl (zes c) (by first | simp <;> rfl | fail) ?_ | refine CallP.f2 rfl (hs) (by first | simp <;> rfl | fail) ?_ | fail); simp)
  | fail)
   all_goals
    (refine Pst.of ?_; simp)
   all_goals
    simp [zh4, *]
    try omega
  ·refine Fun.run Tryz.func126 Tryz.ntmps126 Tryz.results126 rfl (by simp) fun Γ hn => ?_
   repeat' (first
  | (refine Cnd.of (fun hc => ?_) (fun hc => ?_) <;> (try (exfalso; omega)) <;> (try simp))
  | (refine zaf rfl ?_; simp)
  | (refine CallP.f2 rfl (zes c) (by first | simp <;> rfl | fail) ?_; simp)
  | fail)
   all_goals
    (refine Pst.of ?_; simp)
   all_goals
    simp [zh4, *]
    try omega
def zn7 (l : List (List UInt8)) : U := .sl (l.map fun s => [.str s])
def zjx : List (List UInt8) -> List UInt8 -> Int -> Int
 | [], _, _ => -1
 | s :: l, x, i => if x = s then i else zjx l x (i + 1)
theorem zsq {l : List (List UInt8)} {x : List UInt8} {i : Nat} {k : Int} (h : ∀ c ∈ l.take i, ¬ x = c) (hx : l[i]? = some x) : zjx l x k = k + i := by
 induction l generalizing i k with
 | nil => simp at hx
 | cons s l ih =>
  cases i with
  | zero => simp at hx; simp [zjx, hx]
  | succ i =>
   rw [zjx, if_neg (h s (by simp)), ih (i := i) (fun c hc => h c (by simp [hc])) (by simpa using hx)];omega
theorem zo9 {l : List (List UInt8)} {x : List UInt8} {k : Int} (h : ∀ c ∈ l, ¬ x = c) : zjx l x k = -1 := by
 induction l generalizing k with
 | nil => rfl
 | cons s l ih => rw [zjx, if_neg (h s (by simp)), ih fun c hc => h c (by simp [hc])]
theorem ziP (l : List (List UInt8)) (x : List UInt8) : Fun Tryz.prog 44 [.u (zn7 l), .u (.str x)] (· = .u (.int .i64 (zjx l x 0))) := by
 refine Fun.run Tryz.func44 Tryz.ntmps44 Tryz.results44 rfl (by simp) fun Γ hn => ?_; simp only [entry, List.zipIdx_cons, List.zipIdx_nil, List.map_cons, List.map_nil, Nat.zero_add];simp only [zn7];refine zjW (x := 0) rfl fun hl => ?_;simp at hl
 repeat' (first
  | (refine zaf rfl ?_; simp)
  | fail)
 refine zdD (α := { i : Nat // i <= l.length /\ ∀ c ∈ l.take i, ¬ x = c }) [0, 1, 7] (fun i => [(8, .u (.int .i64 i.1))]) (fun i => l.length - i.1) ⟨0, by omega, by simp⟩ ?_ ?_
 ·exact (Wk.env rfl rfl rfl (by simp [wkE, St.lp, zaS, zaa, getK] <;> (try (intros; simp_all; done)) <;> (try (intros; omega)) <;> (try grind)))
 rintro ⟨i, hi, hb⟩;simp;rcases hx : l[i]? with _ | c
 ·have hge : l.length <= i := by simpa using hx
  repeat' (first
  | (refine Cnd.of (fun hc => ?_) (fun hc => ?_) <;> (try (exfalso; omega)) <;> (try simp [hx]))
  | (refine zaf rfl ?_; simp [hx])
  | fail)
  (refine Pst.of ?_; simp)
  rw [List.take_of_length_le hge] at hb;exact (zo9 hb).symm
 ·have hlt := (List.getElem?_eq_some_iff.1 hx).1;by_cases hxc : x = c
  ·subst hxc
   repeat' (first
  | (refine Cnd.of (fun hc => ?_) (fun hc => ?_) <;> (try (exfalso; omega)) <;> (try simp [hx]))
  | (refine zaf rfl ?_; simp [hx])
  | fail)
   (refine Pst.of ?_; simp)
   rw [zsq hb hx];omega
  ·repeat' (first
  | (refine Cnd.of (fun hc => ?_) (fun hc => ?_) <;> (try (exfalso; omega)) <;> (try simp [hx, hxc]))
  | (refine zaf rfl ?_; simp [hx, hxc])
  | (refine And.intro (by omega) ?_)
  | fail)
   refine LoopW.next ⟨i + 1, by omega, zcT hx hb hxc⟩ (by simp; omega) ?_
   exact (Wk.env rfl rfl rfl (by simp [wkE, St.lp, zaS, zaa, getK] <;> (try (intros; simp_all; done)) <;> (try (intros; omega)) <;> (try grind)))
theorem zqN (l : List (List UInt8)) (x : List UInt8) : ∀ k : Int, 0 <= k -> decide (0 <= zjx l x k) = l.contains x := by
 induction l with
 | nil => intro k hk; simp [zjx]
 | cons s l ih =>
  intro k hk;by_cases h : x = s
  ·subst h; simp [zjx, hk]
  ·rw [zjx, if_neg h, ih (k + 1) (by omega)];simp [h]
theorem zjM (l : List (List UInt8)) (x : List UInt8) : Fun Tryz.prog 127 [.u (zn7 l), .u (.str x)] (· = .u (.bool (l.contains x))) := by
 have h1 := ziP l x;refine Fun.run Tryz.func127 Tryz.ntmps127 Tryz.results127 rfl (by simp) fun Γ hn => ?_; simp only [entry, List.zipIdx_cons, List.zipIdx_nil, List.map_cons, List.map_nil, Nat.zero_add];simp only [zn7] at h1 ⊢
 repeat' (first
  | (refine zaf rfl ?_; simp)
  | (refine CallP.f2 rfl (h1) (by first | simp <;> rfl | fail) ?_; simp)
  | fail)
 (refine Pst.of ?_; simp)
 have h2 := zqN l x 0 (by omega);simpa using h2
def words : List (List UInt8) := [[97, 110, 100], [98, 97, 99, 107, 115], [98, 105, 100, 100, 105, 110, 103], [99, 105, 114, 99, 108, 101], [99, 111, 105, 110, 115], [99, 111, 118, 101, 114], [100, 97, 121, 115], [100, 114, 97, 119], [100, 117, 101], [101, 108, 115, 101], [102, 97, 108, 115, 101], [102, 105, 110, 101], [102, 117, 110, 100], [103, 114, 97, 99, 101], [104, 111, 108, 100], [105, 102], [106, 111, 105, 110], [106, 117, 114, 121], [108, 101, 116], [109, 97, 120], [109, 105, 108, 108, 101], [109, 105, 110], [110, 101, 101, 100], [110, 111, 116], [111, 114], [111, 114, 100, 101, 114], [112, 97, 121], [112, 101, 114], [114, 111, 116, 97, 116, 105, 110, 103], [115, 97, 118, 105, 110, 103], [115, 101, 97, 108, 101, 100], [116, 104, 101, 110], [116, 114, 117, 101], [118, 111, 105, 99, 101, 115], [119, 97, 105, 116]]
set_option maxHeartbeats 4000000 in
set_option maxRecDepth 100000 in
theorem zkj : Fun Tryz.prog 128 [] (· = .u (zn7 words)) := by
 refine Fun.runW Tryz.func128 Tryz.ntmps128 rfl (by simp) fun Γ hn => ?_; simp only [entry, List.zipIdx_cons, List.zipIdx_nil, List.map_cons, List.map_nil, Nat.zero_add];simp only [zn7, words, List.map_cons, List.map_nil]
 repeat' (first
  | (refine zaf rfl ?_; simp [za3, za2])
  | fail)
 (refine EndW.frzN 1 ?_; simp [del])
 refine EndW.here ?_
 (refine EndOK.val (.inr rfl) ?_; simp [Tryz.results128])
def zpZ (l : Let) : D := .u (.agg [.str l.name, .int .i64 l.body.op, .int .i64 l.body.n, .int .i64 l.body.unit, .str l.body.s, .sl (l.body.args.map Exp.row)])
def zaz (l : List Let) : U := .sl (l.map fun l => [.str l.name, .int .i64 l.body.op, .int .i64 l.body.n, .int .i64 l.body.unit, .str l.body.s, .sl (l.body.args.map Exp.row)])
theorem znD (l : List (Let)) (f : FuncId) (caps : List U) (p : Let -> Bool) (hf : ∀ n ∈ l, Fun Tryz.prog f (zpZ n :: caps.map .u) (· = .u (.bool (p n)))) (hcl : zae Tryz.prog f = true)
  (hca : ∀ o, zcq o (caps.map .u) = some (caps.map .u, [])) : Fun Tryz.prog 65 [.u (zaz l), .fnc (.func f) (caps.map .u)] (· = .u (.int .i64 (zjy p l 0))) := by
 refine Fun.run Tryz.func65 Tryz.ntmps65 Tryz.results65 rfl (by simp) fun Γ hn => ?_; simp only [entry, List.zipIdx_cons, List.zipIdx_nil, List.map_cons, List.map_nil, Nat.zero_add];simp only [zaz];refine zjW (x := 0) rfl fun hl => ?_;simp at hl
 repeat' (first
  | (refine Cnd.of (fun hc => ?_) (fun hc => ?_) <;> (try (exfalso; omega)) <;> (try simp))
  | (refine zaf rfl ?_; simp)
  | (refine And.intro (by omega) ?_)
  | (refine ⟨hC _ (by kernel_rfl), hk _ (zel 8 _ _ _ ?_)⟩; clear hC hk C k; simp)
  | (refine zhW rfl (by kernel_rfl) (by kernel_rfl) (by simp [hn]) fun C k hC hk => ?_; simp)
  | (refine zhY rfl ?_; simp)
  | (refine zhZ ?_; simp)
  | (refine zh1 rfl rfl ?_; simp)
  | (refine zh0 (hC _ _ (by kernel_rfl) (by kernel_rfl)) (hk _ (zel 8 _ _ _ ?_)); clear hC hk C k; simp [St.ins, znA, zsf, zad, zaa])
  | (refine zeW rfl (by kernel_rfl) (by first | (simp [hn]; done) | (simp [hn]; omega) | fail) fun C k hC hk => ?_; simp)
  | (refine zc7 rfl ?_; simp)
  | (refine zdN rfl ?_; simp)
  | (refine zdb rfl ?_; simp)
  | (refine And.intro ?_ (by omega))
  | (refine And.intro (fun hc => ?_) (fun hc => ?_) <;> (try (exfalso; omega)))
  | (intro hc <;> (try (exfalso; omega))))
 refine zdD (α := { i : Nat // i <= l.length /\ ∀ c ∈ l.take i, p c = false }) [0, 1, 7] (fun i => [(8, .u (.int .i64 i.1))]) (fun i => l.length - i.1) ⟨0, by omega, by simp⟩ ?_ ?_
 ·exact (Wk.env rfl rfl rfl (by simp [wkE, St.lp, zaS, zaa, getK] <;> (try (intros; simp_all; done)) <;> (try (intros; omega)) <;> (try grind)))
 rintro ⟨i, hi, hb⟩;simp;rcases hx : l[i]? with _ | n
 ·have hge : l.length <= i := by simpa using hx
  repeat' (first
  | (refine Cnd.of (fun hc => ?_) (fun hc => ?_) <;> (try (exfalso; omega)) <;> (try simp [hx]))
  | (refine zaf rfl ?_; simp [hx])
  | (refine And.intro (by omega) ?_)
  | (refine ⟨hC _ (by kernel_rfl), hk _ (zel 8 _ _ _ ?_)⟩; clear hC hk C k; simp [hx])
  | (refine zhW rfl (by kernel_rfl) (by kernel_rfl) (by simp [hn]) fun C k hC hk => ?_; simp [hx])
  | (refine zhY rfl ?_; simp [hx])
  | (refine zhZ ?_; simp [hx])
  | (refine zh1 rfl rfl ?_; simp [hx])
  | (refine zh0 (hC _ _ (by kernel_rfl) (by kernel_rfl)) (hk _ (zel 8 _ _ _ ?_)); clear hC hk C k; simp [St.ins, znA, zsf, zad, zaa])
  | (refine zeW rfl (by kernel_rfl) (by first | (simp [hn]; done) | (simp [hn]; omega) | fail) fun C k hC hk => ?_; simp [hx])
  | (refine zc7 rfl ?_; simp [hx])
  | (refine zdN rfl ?_; simp [hx])
  | (refine zdb rfl ?_; simp [hx])
  | (refine And.intro ?_ (by omega))
  | (refine And.intro (fun hc => ?_) (fun hc => ?_) <;> (try (exfalso; omega)))
  | (intro hc <;> (try (exfalso; omega))))
  (refine Pst.of ?_; simp)
  rw [List.take_of_length_le hge] at hb;exact (zhH hb).symm
 ·have hlt : i < l.length := (List.getElem?_eq_some_iff.1 hx).1;have h1 := hf n (List.mem_of_getElem? hx);simp only [zpZ] at h1;cases hp : p n
  ·rw [hp] at h1
   repeat' (first
  | (refine Cnd.of (fun hc => ?_) (fun hc => ?_) <;> (try (exfalso; omega)) <;> (try simp [hx, hca]))
  | (refine zaf rfl ?_; simp [hx, hca])
  | (refine And.intro (by omega) ?_)
  | (refine ⟨hC _ (by kernel_rfl), hk _ (zel 8 _ _ _ ?_)⟩; clear hC hk C k; simp [hx, hca])
  | (refine zhW rfl (by kernel_rfl) (by kernel_rfl) (by simp [hn]) fun C k hC hk => ?_; simp [hx, hca])
  | (refine zhY rfl ?_; simp [hx, hca])
  | (refine zhZ ?_; simp [hx, hca])
  | (refine zh1 rfl rfl ?_; simp [hx, hca])
  | (refine zh0 (hC _ _ (by kernel_rfl) (by kernel_rfl)) (hk _ (zel 8 _ _ _ ?_)); clear hC hk C k; simp [St.ins, znA, zsf, zad, zaa])
  | (refine zeW rfl (by kernel_rfl) (by first | (simp [hn]; done) | (simp [hn]; omega) | fail) fun C k hC hk => ?_; simp [hx, hca])
  | (refine zc7 rfl ?_; simp [hx, hca])
  | (refine zdN rfl ?_; simp [hx, hca])
  | (refine zdb rfl ?_; simp [hx, hca])
  | (refine And.intro ?_ (by omega))
  | (refine And.intro (fun hc => ?_) (fun hc => ?_) <;> (try (exfalso; omega)))
  | (intro hc <;> (try (exfalso; omega)))
  | (refine CallP.f2 rfl (h1) (by first | simp [hx, hca] <;> rfl | fail) ?_; simp [hx, hca])
  | (refine CallV.f2 rfl (h1) (by first | simp [hx, hca] <;> rfl | fail) ?_; simp [hx, hca]))
   refine LoopW.next ⟨i + 1, by omega, zcT hx hb hp⟩ (by simp; omega) ?_
   exact (Wk.env rfl rfl rfl (by simp [wkE, St.lp, zaS, zaa, getK] <;> (try (intros; simp_all; done)) <;> (try (intros; omega)) <;> (try grind)))
  ·rw [hp] at h1
   repeat' (first
  | (refine Cnd.of (fun hc => ?_) (fun hc => ?_) <;> (try (exfalso; omega)) <;> (try simp [hx, hca]))
  | (refine zaf rfl ?_; simp [hx, hca])
  | (refine And.intro (by omega) ?_)
  | (refine ⟨hC _ (by kernel_rfl), hk _ (zel 8 _ _ _ ?_)⟩; clear hC hk C k; simp [hx, hca])
  | (refine zhW rfl (by kernel_rfl) (by kernel_rfl) (by simp [hn]) fun C k hC hk => ?_; simp [hx, hca])
  | (refine zhY rfl ?_; simp [hx, hca])
  | (refine zhZ ?_; simp [hx, hca])
  | (refine zh1 rfl rfl ?_; simp [hx, hca])
  | (refine zh0 (hC _ _ (by kernel_rfl) (by kernel_rfl)) (hk _ (zel 8 _ _ _ ?_)); clear hC hk C k; simp [St.ins, znA, zsf, zad, zaa])
  | (refine zeW rfl (by kernel_rfl) (by first | (simp [hn]; done) | (simp [hn]; omega) | fail) fun C k hC hk => ?_; simp [hx, hca])
  | (refine zc7 rfl ?_; simp [hx, hca])
  | (refine zdN rfl ?_; simp [hx, hca])
  | (refine zdb rfl ?_; simp [hx, hca])
  | (refine And.intro ?_ (by omega))
  | (refine And.intro (fun hc => ?_) (fun hc => ?_) <;> (try (exfalso; omega)))
  | (intro hc <;> (try (exfalso; omega)))
  | (refine CallP.f2 rfl (h1) (by first | simp [hx, hca] <;> rfl | fail) ?_; simp [hx, hca])
  | (refine CallV.f2 rfl (h1) (by first | simp [hx, hca] <;> rfl | fail) ?_; simp [hx, hca]))
   (refine Pst.of ?_; simp)
   rw [zlL hb hx hp];omega
theorem zjN (l : List (Let)) (f : FuncId) (caps : List U) (p : Let -> Bool) (hf : ∀ n ∈ l, Fun Tryz.prog f (zpZ n :: caps.map .u) (· = .u (.bool (p n)))) (hcl : zae Tryz.prog f = true)
  (hca : ∀ o, zcq o (caps.map .u) = some (caps.map .u, [])) (hcb : ∀ o, zbo o (caps.map .u) = some (caps, [])) : Fun Tryz.prog 34 [.u (zaz l), .fnc (.func f) (caps.map .u)] (· = .u (.bool (l.any p))) := by
 have h1 := znD l f caps p hf hcl hca;refine Fun.run Tryz.func34 Tryz.ntmps34 Tryz.results34 rfl (by simp) fun Γ hn => ?_; simp only [entry, List.zipIdx_cons, List.zipIdx_nil, List.map_cons, List.map_nil, Nat.zero_add];simp only [zaz] at h1 ⊢
 repeat' (first
  | (refine Cnd.of (fun hc => ?_) (fun hc => ?_) <;> (try (exfalso; omega)) <;> (try simp [hcb]))
  | (refine zaf rfl ?_; simp [hcb])
  | (refine And.intro (by omega) ?_)
  | (refine ⟨hC _ (by kernel_rfl), hk _ (zel 8 _ _ _ ?_)⟩; clear hC hk C k; simp [hcb])
  | (refine zhW rfl (by kernel_rfl) (by kernel_rfl) (by simp [hn]) fun C k hC hk => ?_; simp [hcb])
  | (refine zhY rfl ?_; simp [hcb])
  | (refine zhZ ?_; simp [hcb])
  | (refine zh1 rfl rfl ?_; simp [hcb])
  | (refine zh0 (hC _ _ (by kernel_rfl) (by kernel_rfl)) (hk _ (zel 8 _ _ _ ?_)); clear hC hk C k; simp [St.ins, znA, zsf, zad, zaa])
  | (refine zeW rfl (by kernel_rfl) (by first | (simp [hn]; done) | (simp [hn]; omega) | fail) fun C k hC hk => ?_; simp [hcb])
  | (refine zc7 rfl ?_; simp [hcb])
  | (refine zdN rfl ?_; simp [hcb])
  | (refine zdb rfl ?_; simp [hcb])
  | (refine And.intro ?_ (by omega))
  | (refine And.intro (fun hc => ?_) (fun hc => ?_) <;> (try (exfalso; omega)))
  | (intro hc <;> (try (exfalso; omega)))
  | (refine CallP.f2 rfl (h1) (by first | simp [hcb] <;> rfl | fail) ?_; simp [hcb])
  | (refine CallV.f2 rfl (h1) (by first | simp [hcb] <;> rfl | fail) ?_; simp [hcb]))
 (refine Pst.of ?_; simp)
 have h2 := zmA p l 0 (by omega);rw [Bool.eq_iff_iff];simpa using h2
end Go.Proofs.YtkdhmbhbbciedaaGreatDoor
namespace Go.Proofs.YtkdhmbhbbciedaaGreatDoor.Vm
open Go Go.VL
attribute [local simp] zaY zcB zbz evPure opd uOf zal St.put St.at getK binD binI binS binB nilD aggD zeS zfd lookD lookR zbE rangeS Go.VL.nextD Go.VL.nextS zbJ zfk zfe zeu zb7 mkV zaZ zcH zaL za1 mapEff zdw zek Key.kk shiftI arith unD convD zcP loadD cellsAt fieldAddrD fieldD indexAddrD indexSlD arrAddr indexD sliceD cutD lenD minmaxD nilCheckD buildD fillD zbn zcC zd1 setAll zcx zdZ zbD zeO zbC St.add zaj za6 rowsOf zcI zca zad zac zaa zaQ zcs zaG entry za2 za3 valD zbK zcq zeL zcD zcE zbp zbo zag zaB za0 delAll effD St.effS zb4 zaD zas zb5 zaE zau zbl zat zan zbm zb2 zaW zbj zaJ zbi zah mkD zbd za4 zbb zag zbN D.ids Op.operands Call.operands za5 makeIfD makeFuncD typeAssertD zfc zcL zcM zeY zbG IntKind.bits zbQ zam List.take_of_length_le List.range_succ zci zbx zcj zcd za7 zbq zbs zce zbu zaP zbt zbr zfJ zbw zcg zaH zav zch zaI zax zbv zaw zaq zcm zcn zfH zab frzN frz1 zaO zaN St.frz St.frzS frzS fv zbI zbV zcb zaM zay zao frz zcc zbH zbS zbT zaX St.norm St.lp St.only zaS wkE wkO wkU Ob.under D.under zai zap zck zby zcl h4s zdG zar zaV List.zipIdx_cons List.zipIdx_nil List.map_cons List.map_nil Nat.zero_add
attribute [local irreducible] V G H HD HD2 zaT Eff CallP CallV EndOK Fun Ret FinOK LoopI LoopW EndW HR vs2 RN Cnd H4
def zkC (n : Int) : Int := if n = 0 \/ n = 1 \/ n = 12 then 0 else if n = 11 \/ n = 13 \/ n = 14 then 1 else 2
end Go.Proofs.YtkdhmbhbbciedaaGreatDoor.Vm
namespace Go.Pm
def zoz (x y c : Int) : Int := if 1099511627776 < (x.natAbs * y.natAbs : Int) / c then 1099511627777 else x * y / c
end Go.Pm
namespace Go.Proofs.YtkdhmbhbbciedaaGreatDoor.Vm
open Go Go.VL
attribute [local simp] zaY zcB zbz evPure opd uOf zal St.put St.at getK binD binI binS binB nilD aggD zeS zfd lookD lookR zbE rangeS Go.VL.nextD Go.VL.nextS zbJ zfk zfe zeu zb7 mkV zaZ zcH zaL za1 mapEff zdw zek Key.kk shiftI arith unD convD zcP loadD cellsAt fieldAddrD fieldD indexAddrD indexSlD arrAddr indexD sliceD cutD lenD minmaxD nilCheckD buildD fillD zbn zcC zd1 setAll zcx zdZ zbD zeO zbC St.add zaj za6 rowsOf zcI zca zad zac zaa zaQ zcs zaG entry za2 za3 valD zbK zcq zeL zcD zcE zbp zbo zag zaB za0 delAll effD St.effS zb4 zaD zas zb5 zaE zau zbl zat zan zbm zb2 zaW zbj zaJ zbi zah mkD zbd za4 zbb zag zbN D.ids Op.operands Call.operands za5 makeIfD makeFuncD typeAssertD zfc zcL zcM zeY zbG IntKind.bits zbQ zam List.take_of_length_le List.range_succ zci zbx zcj zcd za7 zbq zbs zce zbu zaP zbt zbr zfJ zbw zcg zaH zav zch zaI zax zbv zaw zaq zcm zcn zfH zab frzN frz1 zaO zaN St.frz St.frzS frzS fv zbI zbV zcb zaM zay zao frz zcc zbH zbS zbT zaX St.norm St.lp St.only zaS wkE wkO wkU Ob.under D.under zai zap zck zby zcl h4s zdG zar zaV List.zipIdx_cons List.zipIdx_nil List.map_cons List.map_nil Nat.zero_add
attribute [local irreducible] V G H HD HD2 zaT Eff CallP CallV EndOK Fun Ret FinOK LoopI LoopW EndW HR vs2 RN Cnd H4
end Go.Proofs.YtkdhmbhbbciedaaGreatDoor.Vm
namespace Go.Pm
def truth (b : Bool) : Int := if b then 1 else 0
def two (op a b : Int) : Int :=
 if op = 2 then a + b else if op = 3 then a - b else if op = 4 then zoz a b 1 else if op = 6 then zoz a b 1000 else if op = 5 then a.fdiv b
 else if op = 7 then min a b else if op = 8 then max a b else if op = 9 then truth (decide (a < b)) else truth (decide (a = b))
end Go.Pm
namespace Go.Proofs.YtkdhmbhbbciedaaGreatDoor.Vm
open Go Go.VL
attribute [local simp] zaY zcB zbz evPure opd uOf zal St.put St.at getK binD binI binS binB nilD aggD zeS zfd lookD lookR zbE rangeS Go.VL.nextD Go.VL.nextS zbJ zfk zfe zeu zb7 mkV zaZ zcH zaL za1 mapEff zdw zek Key.kk shiftI arith unD convD zcP loadD cellsAt fieldAddrD fieldD indexAddrD indexSlD arrAddr indexD sliceD cutD lenD minmaxD nilCheckD buildD fillD zbn zcC zd1 setAll zcx zdZ zbD zeO zbC St.add zaj za6 rowsOf zcI zca zad zac zaa zaQ zcs zaG entry za2 za3 valD zbK zcq zeL zcD zcE zbp zbo zag zaB za0 delAll effD St.effS zb4 zaD zas zb5 zaE zau zbl zat zan zbm zb2 zaW zbj zaJ zbi zah mkD zbd za4 zbb zag zbN D.ids Op.operands Call.operands za5 makeIfD makeFuncD typeAssertD zfc zcL zcM zeY zbG IntKind.bits zbQ zam List.take_of_length_le List.range_succ zci zbx zcj zcd za7 zbq zbs zce zbu zaP zbt zbr zfJ zbw zcg zaH zav zch zaI zax zbv zaw zaq zcm zcn zfH zab frzN frz1 zaO zaN St.frz St.frzS frzS fv zbI zbV zcb zaM zay zao frz zcc zbH zbS zbT zaX St.norm St.lp St.only zaS wkE wkO wkU Ob.under D.under zai zap zck zby zcl h4s zdG zar zaV List.zipIdx_cons List.zipIdx_nil List.map_cons List.map_nil Nat.zero_add
attribute [local irreducible] V G H HD HD2 zaT Eff CallP CallV EndOK Fun Ret FinOK LoopI LoopW EndW HR vs2 RN Cnd H4
end Go.Proofs.YtkdhmbhbbciedaaGreatDoor.Vm
namespace Go.Pm
def idx {α : Type} (p : α -> Bool) (l : List α) : Int := match l.findIdx? p with | some i => i | none => -1
end Go.Pm
namespace Go.Proofs.YtkdhmbhbbciedaaGreatDoor.Vm
open Go Go.VL
attribute [local simp] zaY zcB zbz evPure opd uOf zal St.put St.at getK binD binI binS binB nilD aggD zeS zfd lookD lookR zbE rangeS Go.VL.nextD Go.VL.nextS zbJ zfk zfe zeu zb7 mkV zaZ zcH zaL za1 mapEff zdw zek Key.kk shiftI arith unD convD zcP loadD cellsAt fieldAddrD fieldD indexAddrD indexSlD arrAddr indexD sliceD cutD lenD minmaxD nilCheckD buildD fillD zbn zcC zd1 setAll zcx zdZ zbD zeO zbC St.add zaj za6 rowsOf zcI zca zad zac zaa zaQ zcs zaG entry za2 za3 valD zbK zcq zeL zcD zcE zbp zbo zag zaB za0 delAll effD St.effS zb4 zaD zas zb5 zaE zau zbl zat zan zbm zb2 zaW zbj zaJ zbi zah mkD zbd za4 zbb zag zbN D.ids Op.operands Call.operands za5 makeIfD makeFuncD typeAssertD zfc zcL zcM zeY zbG IntKind.bits zbQ zam List.take_of_length_le List.range_succ zci zbx zcj zcd za7 zbq zbs zce zbu zaP zbt zbr zfJ zbw zcg zaH zav zch zaI zax zbv zaw zaq zcm zcn zfH zab frzN frz1 zaO zaN St.frz St.frzS frzS fv zbI zbV zcb zaM zay zao frz zcc zbH zbS zbT zaX St.norm St.lp St.only zaS wkE wkO wkU Ob.under D.under zai zap zck zby zcl h4s zdG zar zaV List.zipIdx_cons List.zipIdx_nil List.map_cons List.map_nil Nat.zero_add
attribute [local irreducible] V G H HD HD2 zaT Eff CallP CallV EndOK Fun Ret FinOK LoopI LoopW EndW HR vs2 RN Cnd H4
end Go.Proofs.YtkdhmbhbbciedaaGreatDoor.Vm
namespace Go.Proofs.YtkdhmbhbbciedaaGreatDoor.Vm
open Go Go.VL
attribute [local simp] zaY zcB zbz evPure opd uOf zal St.put St.at getK binD binI binS binB nilD aggD zeS zfd lookD lookR zbE rangeS Go.VL.nextD Go.VL.nextS zbJ zfk zfe zeu zb7 mkV zaZ zcH zaL za1 mapEff zdw zek Key.kk shiftI arith unD convD zcP loadD cellsAt fieldAddrD fieldD indexAddrD indexSlD arrAddr indexD sliceD cutD lenD minmaxD nilCheckD buildD fillD zbn zcC zd1 setAll zcx zdZ zbD zeO zbC St.add zaj za6 rowsOf zcI zca zad zac zaa zaQ zcs zaG entry za2 za3 valD zbK zcq zeL zcD zcE zbp zbo zag zaB za0 delAll effD St.effS zb4 zaD zas zb5 zaE zau zbl zat zan zbm zb2 zaW zbj zaJ zbi zah mkD zbd za4 zbb zag zbN D.ids Op.operands Call.operands za5 makeIfD makeFuncD typeAssertD zfc zcL zcM zeY zbG IntKind.bits zbQ zam List.take_of_length_le List.range_succ zci zbx zcj zcd za7 zbq zbs zce zbu zaP zbt zbr zfJ zbw zcg zaH zav zch zaI zax zbv zaw zaq zcm zcn zfH zab frzN frz1 zaO zaN St.frz St.frzS frzS fv zbI zbV zcb zaM zay zao frz zcc zbH zbS zbT zaX St.norm St.lp St.only zaS wkE wkO wkU Ob.under D.under zai zap zck zby zcl h4s zdG zar zaV List.zipIdx_cons List.zipIdx_nil List.map_cons List.map_nil Nat.zero_add
attribute [local irreducible] V G H HD HD2 zaT Eff CallP CallV EndOK Fun Ret FinOK LoopI LoopW EndW HR vs2 RN Cnd H4
structure Var where
 name : List UInt8
 unit : Int
 n : Int
 deriving DecidableEq
structure Ins where
 op : Int
 a : Int
 s : List UInt8
 deriving DecidableEq
def Var.row (v : Var) : List U := [.str v.name, .int .i64 v.unit, .int .i64 v.n]
def Ins.row (c : Ins) : List U := [.int .i64 c.op, .int .i64 c.a, .str c.s]
def vars (l : List Var) : U := .sl (l.map fun v => [.str v.name, .int .i64 v.unit, .int .i64 v.n])
def inss (l : List Ins) : U := .sl (l.map fun c => [.int .i64 c.op, .int .i64 c.a, .str c.s])
def stk (l : List Int) : List (List D) := l.map fun n => [.u (.int .i64 n)]
def zuY (pc : Int) (sd : D) (en : Bool) (va er : Int) : Ob := .box [.u (.int .i64 pc), sd, .u (.bool en), .u (.int .i64 va), .u (.int .i64 er)]
end Go.Proofs.YtkdhmbhbbciedaaGreatDoor.Vm
namespace Go.Proofs.YtkdhmbhbbciedaaGreatDoor.Vm
open Go Go.VL
structure Mach where
 pc : Int
 stack : List Int
 en : Bool
 va : Int
 er : Int
 deriving DecidableEq
def okv (n : Int) : Bool := decide (-1099511627776 <= n /\ n <= 1099511627776)
def Mach.fin (m : Mach) (v e : Int) : Mach := { m with stack := [], en := true, va := v, er := e }
def Mach.push (m : Mach) (x : Int) : Mach := if okv x then { m with pc := m.pc + 1, stack := m.stack ++ [x] } else m.fin 0 3
def Mach.drop (m : Mach) (k : Nat) : Mach := { m with stack := m.stack.take (m.stack.length - k) }
def Mach.top (m : Mach) (k : Nat) : Int := m.stack.getD (m.stack.length - 1 - k) 0
def zgd (vs : List Var) (m : Mach) (c : Ins) : Mach :=
 if c.op = 0 then m.push c.a
 else if c.op = 1 then match vs.find? fun v => decide (v.name = c.s) with | none => m.fin 0 13 | some v => m.push v.n
 else if c.op = 12 then { m with pc := c.a }
 else if c.op = 13 then { m.drop 1 with pc := if m.top 0 = 0 then c.a else m.pc + 1 }
 else if c.op = 14 then m.fin (m.top 0) 0
 else if c.op = 11 then (m.drop 1).push (Pm.truth (decide (m.top 0 = 0)))
 else if c.op = 5 /\ m.top 0 = 0 then m.fin 0 15
 else (m.drop 2).push (Pm.two c.op (m.top 1) (m.top 0))
def zm5 (code : List Ins) (vs : List Var) (m : Mach) : Mach :=
 if m.pc < 0 then m.fin 0 2 else match code[m.pc.toNat]? with
 | none => m.fin 0 2
 | some c => if c.op < 0 \/ 15 <= c.op \/ (m.stack.length : Int) < zkC c.op \/ (m.stack.any fun n => !okv n) = true then m.fin 0 2 else zgd vs m c
theorem zqf {code : List Ins} {vs : List Var} {m : Mach} {c : Ins} (h : 0 <= m.pc) (hc : code[m.pc.toNat]? = some c) :
  zm5 code vs m = if c.op < 0 \/ 15 <= c.op \/ (m.stack.length : Int) < zkC c.op \/ (m.stack.any fun n => !okv n) = true then m.fin 0 2 else zgd vs m c := by
 unfold zm5;rw [if_neg (by omega), hc]
end Go.Proofs.YtkdhmbhbbciedaaGreatDoor.Vm
namespace Go.Proofs.YtkdhmbhbbciedaaGreatDoor.Vm
open Go Go.VL
def zrM (code : List Ins) (vs : List Var) (fuel : Int) : Nat -> Int -> Mach -> Int × Int × Int
 | 0, _, _ => (0, fuel, 16)
 | k + 1, n, m => let m' := zm5 code vs m
  if m'.en then (m'.va, n + 1, m'.er) else zrM code vs fuel k (n + 1) m'
def zwP : Mach := ⟨0, [], false, 0, 0⟩
structure RunAt (code : List Ins) (vs : List Var) (fuel : Int) where
 n : Nat
 m : Mach
 rows : Option (List Int)
 hn : (n : Int) <= fuel
 hlen : m.stack.length <= n
 hrun : zrM code vs fuel (fuel.toNat - n) n m = zrM code vs fuel fuel.toNat 0 zwP
 hrows : match rows with | none => m.stack = [] | some r => r.take m.stack.length = m.stack
def RunAt.obs {code vs fuel} (x : RunAt code vs fuel) : List (Nat × Ob) :=
 match x.rows with
 | none => [(0, zuY x.m.pc (.u .nil) x.m.en x.m.va x.m.er)]
 | some r => [(0, zuY x.m.pc (.vec 1 x.m.stack.length) x.m.en x.m.va x.m.er), (1, .vec 3 1 (stk r))]
end Go.Proofs.YtkdhmbhbbciedaaGreatDoor.Vm
namespace Go.Proofs.YtkdhmbhbbciedaaGreatDoor
open Go Go.VL Go.ChangeShapes Go.WideShapes Go.ChangeAt Go.RowKit
theorem Tryz.own : ownKnob Tryz.prog.godebug = none := by kernel_rfl
theorem Tryz.zs6 : laidOutB Tryz.prog = true := by kernel_rfl
theorem Tryz.zyl : ziu Tryz.prog = true := by kernel_rfl
theorem zrV : ∀ (m : Nat) (r : List U), SizeOf.sizeOf r <= m -> HasRow Tryz.prog 25 r -> ∃ e : Exp, r = e.row
 | 0, r, hm, _ => by cases r <;> simp at hm
 | m + 1, r, hm, h => by
  obtain ⟨rs, hr, h⟩ := h.of_struct zuW
  match rs, h with
  | [a, b, c, d, f], h =>
   obtain ⟨h1, h2, h3, h4, h5, _⟩ := h;obtain ⟨x, rfl, _⟩ := h1.of_int io3;obtain ⟨y, rfl, _⟩ := h2.of_int io3;obtain ⟨z, rfl, _⟩ := h3.of_int io3;obtain ⟨s, rfl, _⟩ := h4.of_str (by simp);obtain ⟨rows, rfl, _, h6⟩ := h5.of_slice zxr;have hsz : ∀ q ∈ rows, SizeOf.sizeOf q <= m := fun q hq => by
    have := List.sizeOf_lt_of_mem hq;rw [hr] at hm;simp at hm;omega
   obtain ⟨l, rfl, _⟩ := rows_list Exp.row (fun _ => True) (rows := rows) fun q hq => by
    obtain ⟨e, he⟩ := zrV m q (hsz q hq) (h6 q hq);exact ⟨e, he, trivial⟩
   exact ⟨.mk x y z s l, by rw [hr, Exp.row_eq]; rfl⟩
theorem zph {r : List U} (h : HasRow Tryz.prog 25 r) : ∃ e : Exp, r = [.int .i64 e.op, .int .i64 e.n, .int .i64 e.unit, .str e.s, .sl (e.args.map Exp.row)] := by
 obtain ⟨e, rfl⟩ := zrV _ r (Nat.le_refl _) h;exact ⟨e, e.row_eq⟩
theorem zrR {r : List U} (h : HasRow Tryz.prog 39 r) : ∃ l : Let, r = [.str l.name, .int .i64 l.body.op, .int .i64 l.body.n, .int .i64 l.body.unit, .str l.body.s, .sl (l.body.args.map Exp.row)] /\ True := by
 obtain ⟨rs, hr, h⟩ := h.of_struct zuV
 match rs, h with
 | [a, b], h =>
  obtain ⟨h1, h2, _⟩ := h;obtain ⟨x, rfl, _⟩ := h1.of_str (by simp);obtain ⟨e, rfl⟩ := zph h2;exact ⟨⟨x, e⟩, by rw [hr]; rfl, trivial⟩
theorem zsm {u : U} (h : ArgU Tryz.prog 22 u) : ∃ l, u = zaz l := by
 obtain ⟨rows, h1, _, h2⟩ := (h.one (by simp) (by simp)).of_slice zxs;obtain ⟨l, rfl, _⟩ := rows_list (fun l : Let => [.str l.name, .int .i64 l.body.op, .int .i64 l.body.n, .int .i64 l.body.unit, .str l.body.s, .sl (l.body.args.map Exp.row)]) (fun _ => True) fun r hr => zrR (h2 r hr);exact ⟨l, by simp at h1; exact h1⟩
end Go.Proofs.YtkdhmbhbbciedaaGreatDoor
namespace Go.Proofs.YtkdhmbhbbciedaaGreatDoor
open Go Go.VL
structure Tok where
 kind : Int
 text : List UInt8
 n : Int
 pos : Int
 deriving DecidableEq, Inhabited
def Tok.row (t : Tok) : List U := [.int .i64 t.kind, .str t.text, .int .i64 t.n, .int .i64 t.pos]
def zcG (c : UInt8) : Bool := decide (c.toNat = 32) || decide (c.toNat = 9) || decide (c.toNat = 10)
def zdA (c : UInt8) : Bool := zdq c || za9 c
def zbB (s : List UInt8) : Int := s.foldl (fun n c => 10 * n + ((c.toNat : Int) - 48)) 0
def zgh (s : List UInt8) : Option Int :=
 if s = [] \/ zcY za9 s ≠ s.length \/ (s.head? = some 48 /\ s ≠ [48]) \/ 13 < s.length then none else if 1099511627776 < zbB s then none else some (zbB s)
theorem zed (s : List UInt8) (c : UInt8) : zbB (s ++ [c]) = 10 * zbB s + ((c.toNat : Int) - 48) := by simp [zbB]
theorem zf1 : ∀ (n : Nat) (s : List UInt8), s.length = n -> (∀ c ∈ s, za9 c = true) -> 0 <= zbB s /\ zbB s < 10 ^ n
 | 0, s, h, _ => by have := List.eq_nil_of_length_eq_zero h; subst this; simp [zbB]
 | n + 1, s, h, hd => by
  have hne : s ≠ [] := fun e => by rw [e] at h; simp at h
  obtain ⟨t, c, rfl⟩ : ∃ t c, s = t ++ [c] := ⟨s.dropLast, s.getLast hne, (List.dropLast_concat_getLast hne).symm⟩;have h1 := zf1 n t (by simpa using h) (fun x hx => hd x (by simp [hx]));have h2 := hd c (by simp);simp only [za9, Bool.and_eq_true, decide_eq_true_eq] at h2;rw [zed];have : (10 : Int) ^ (n + 1) = 10 * 10 ^ n := by rw [Int.pow_succ]; omega
  omega
end Go.Proofs.YtkdhmbhbbciedaaGreatDoor
namespace Go.Proofs.YtkdhmbhbbciedaaGreatDoor
open Go Go.VL
def signsL : List (List UInt8) := [[61, 61], [59], [44], [61], [60], [43], [45], [42], [47], [40], [41]]
def zh9 (s : List UInt8) : Except Int Tok := match s with
 | [] => .error 0
 | c :: r => if zdq c = true then
   if zh4 ((c :: r).take (zcY zdA (c :: r))) = true then .ok ⟨1, (c :: r).take (zcY zdA (c :: r)), 0, 0⟩ else .error 13
  else if za9 c = true then
   match zgh ((c :: r).take (zcY za9 (c :: r))) with | some n => .ok ⟨2, (c :: r).take (zcY za9 (c :: r)), n, 0⟩ | none => .error 3
  else match signsL.find? fun x => x.isPrefixOf (c :: r) with | some x => .ok ⟨3, x, 0, 0⟩ | none => .error 11
def nextD (s : List UInt8) : D := match zh9 s with | .ok t => .tup [.u (.agg [.int .i64 t.kind, .str t.text, .int .i64 t.n, .int .i64 t.pos]), .u (.int .i64 0)] | .error e => .tup [.u (.agg [.int .i64 0, .str [], .int .i64 0, .int .i64 0]), .u (.int .i64 e)]
end Go.Proofs.YtkdhmbhbbciedaaGreatDoor
namespace Go.Proofs.YtkdhmbhbbciedaaGreatDoor
open Go Go.VL
theorem za8 (l : List Int) : (ziO l).length = l.length := by simp [ziO]
theorem zbh (l : List Int) (i : Nat) : (ziO l)[i]? = (l[i]?).map fun z => [D.u (.int .i64 z)] := by simp [ziO]
theorem zhB (l : List Int) (i : Nat) (h : i < (ziO l).length) : (ziO l)[i] = [D.u (.int .i64 (l[i]'(by simpa [ziO] using h)))] := by simp [ziO]
theorem zfR (l : List Int) (i : Nat) (z : Int) : (ziO l).set i [D.u (.int .i64 z)] = ziO (l.set i z) := by simp [ziO, List.map_set]
theorem zqL (n : Nat) (z : Int) : List.replicate n [D.u (.int .i64 z)] = ziO (List.replicate n z) := by simp [ziO]
theorem zdx (n : Nat) (l : List Int) : (∀ x ∈ ziO l, ∀ y ∈ x, D.under n y = true) ↔ True := by simp [ziO, D.under]
end Go.Proofs.YtkdhmbhbbciedaaGreatDoor
namespace Go.Proofs.YtkdhmbhbbciedaaGreatDoor
open Go Go.VL
attribute [local simp] HS zaY zcB zbz evPure opd uOf zal St.put St.at getK binD binI binS binB nilD aggD zeS zfd lookD lookR zbE rangeS Go.VL.nextD Go.VL.nextS zbJ zfk zfe zeu zb7 mkV zaZ zcH zaL za1 mapEff zdw zek Key.kk shiftI arith unD convD zcP loadD cellsAt fieldAddrD fieldD indexAddrD indexSlD arrAddr indexD sliceD cutD lenD minmaxD nilCheckD buildD fillD zbn zcC zd1 setAll zcx zdZ zbD zeO zbC St.add zaj za6 rowsOf zcI zca zad zac zaa zaQ zcs zaG entry za2 za3 valD zbK zcq zeL zcD zcE zbp zbo zag zaB za0 delAll effD St.effS zb4 zaD zas zb5 zaE zau zbl zat zan zbm zb2 zaW zbj zaJ zbi zah mkD zbd za4 zbb zag zbN D.ids Op.operands Call.operands za5 makeIfD makeFuncD typeAssertD zfc zcL zcM zeY zbG IntKind.bits zbQ zam List.take_of_length_le List.range_succ zci zbx zcj zcd za7 zbq zbs zce zbu zaP zbt zbr zfJ zbw zcg zaH zav zch zaI zax zbv zaw zaq zcm zcn zfH zab frzN frz1 zaO zaN St.frz St.frzS frzS fv zbI zbV zcb zaM zay zao frz zcc zbH zbS zbT zaX St.norm St.lp St.only zaS wkE wkO wkU Ob.under D.under zai zap zck zby zcl h4s zdG zar zaV List.zipIdx_cons List.zipIdx_nil List.map_cons List.map_nil Nat.zero_add
attribute [local irreducible] V G H HD HD2 HD4 zgA RetX zaT Eff CallP CallV EndOK Fun Ret FinOK LoopI LoopW EndW HR vs2 RN Cnd H4
def zgP (s : List UInt8) : Bool := zh4 s && !words.contains s
set_option maxRecDepth 100000 in
theorem zjr (s : List UInt8) : Fun Tryz.prog 82 [.u (.str s)] (· = .u (.bool (zgP s))) := by
 have h1 := zjM words s;have h2 := zmc s;have h3 := zkj;generalize hw : words.contains s = w at h1;simp only [zn7] at h1 h3;generalize (words.map fun s => [U.str s]) = W at h1 h3;unfold zgP;rw [hw];clear hw;generalize zh4 s = b at h2 ⊢;cases b
 all_goals
  refine Fun.run Tryz.func82 Tryz.ntmps82 Tryz.results82 rfl (by simp) fun Γ hn => ?_
  repeat' (first
  | (refine zaf rfl ?_; simp)
  | ((first | refine CallP.f2 rfl (h1) (by first | simp <;> rfl | fail) ?_ | refine CallP.f2 rfl (h2) (by first | simp <;> rfl | fail) ?_ | refine CallP.f2 rfl (h3) (by first | simp <;> rfl | fail) ?_ | fail); simp)
  | fail)
  (refine Pst.of ?_; simp)
def zcu (op : Int) : Int := if op = 0 \/ op = 1 then 0 else if op = 12 then 1 else if op = 13 then 3 else if op < 0 \/ 14 <= op then -1 else 2
theorem zky (op : Int) : Fun Tryz.prog 86 [.u (.int .i64 op)] (· = .u (.int .i64 (zcu op))) := by
 unfold zcu;refine Fun.run Tryz.func86 Tryz.ntmps86 Tryz.results86 rfl (by simp) fun Γ hn => ?_
 repeat' (first
  | (refine Cnd.of (fun hc => ?_) (fun hc => ?_) <;> (try (exfalso; omega)) <;> (try simp))
  | (refine zaf rfl ?_; simp)
  | fail)
 all_goals
  (refine Pst.of ?_; simp)
 all_goals (repeat' split) <;> first | rfl | omega | simp_all
theorem zsy : Exp.row = fun e => [.int .i64 e.op, .int .i64 e.n, .int .i64 e.unit, .str e.s, .sl (e.args.map Exp.row)] := funext fun e => e.row_eq
def zcF (e : Exp) : D := .u (.agg [.int .i64 e.op, .int .i64 e.n, .int .i64 e.unit, .str e.s, .sl (e.args.map Exp.row)])
def ztr (l : List Exp) : U := .sl (l.map fun e => [.int .i64 e.op, .int .i64 e.n, .int .i64 e.unit, .str e.s, .sl (e.args.map Exp.row)])
theorem zsv (l : List Exp) : ztr l = .sl (l.map Exp.row) := by rw [ztr, <- zsy]
theorem znE (l : List (Exp)) (f : FuncId) (caps : List U) (p : Exp -> Bool) (hf : ∀ n ∈ l, Fun Tryz.prog f (zcF n :: caps.map .u) (· = .u (.bool (p n)))) (hcl : zae Tryz.prog f = true)
  (hca : ∀ o, zcq o (caps.map .u) = some (caps.map .u, [])) : Fun Tryz.prog 131 [.u (ztr l), .fnc (.func f) (caps.map .u)] (· = .u (.int .i64 (zjy p l 0))) := by
 refine Fun.run Tryz.func131 Tryz.ntmps131 Tryz.results131 rfl (by simp) fun Γ hn => ?_; simp only [entry, List.zipIdx_cons, List.zipIdx_nil, List.map_cons, List.map_nil, Nat.zero_add];simp only [ztr];refine zjW (x := 0) rfl fun hl => ?_;simp at hl
 repeat' (first
  | (refine zaf rfl ?_; simp)
  | fail)
 refine zdD (α := { i : Nat // i <= l.length /\ ∀ c ∈ l.take i, p c = false }) [0, 1, 7] (fun i => [(8, .u (.int .i64 i.1))]) (fun i => l.length - i.1) ⟨0, by omega, by simp⟩ ?_ ?_
 ·exact (Wk.env rfl rfl rfl (by simp [wkE, St.lp, zaS, zaa, getK] <;> (try (intros; simp_all; done)) <;> (try (intros; omega)) <;> (try grind)))
 rintro ⟨i, hi, hb⟩;simp;rcases hx : l[i]? with _ | n
 ·have hge : l.length <= i := by simpa using hx
  repeat' (first
  | (refine Cnd.of (fun hc => ?_) (fun hc => ?_) <;> (try (exfalso; omega)) <;> (try simp [hx]))
  | (refine zaf rfl ?_; simp [hx])
  | fail)
  (refine Pst.of ?_; simp)
  rw [List.take_of_length_le hge] at hb;exact (zhH hb).symm
 ·have hlt : i < l.length := (List.getElem?_eq_some_iff.1 hx).1;have h1 := hf n (List.mem_of_getElem? hx);simp only [zcF] at h1;cases hp : p n
  ·rw [hp] at h1
   repeat' (first
  | (refine Cnd.of (fun hc => ?_) (fun hc => ?_) <;> (try (exfalso; omega)) <;> (try simp [hx, hca]))
  | (refine zaf rfl ?_; simp [hx, hca])
  | (refine And.intro (by omega) ?_)
  | (refine CallP.f2 rfl (h1) (by first | simp [hx, hca] <;> rfl | fail) ?_; simp [hx, hca])
  | fail)
   refine LoopW.next ⟨i + 1, by omega, zcT hx hb hp⟩ (by simp; omega) ?_
   exact (Wk.env rfl rfl rfl (by simp [wkE, St.lp, zaS, zaa, getK] <;> (try (intros; simp_all; done)) <;> (try (intros; omega)) <;> (try grind)))
  ·rw [hp] at h1
   repeat' (first
  | (refine Cnd.of (fun hc => ?_) (fun hc => ?_) <;> (try (exfalso; omega)) <;> (try simp [hx, hca]))
  | (refine zaf rfl ?_; simp [hx, hca])
  | (refine And.intro (by omega) ?_)
  | (refine CallP.f2 rfl (h1) (by first | simp [hx, hca] <;> rfl | fail) ?_; simp [hx, hca])
  | fail)
   (refine Pst.of ?_; simp)
   rw [zlL hb hx hp];omega
theorem zjO (l : List (Exp)) (f : FuncId) (caps : List U) (p : Exp -> Bool) (hf : ∀ n ∈ l, Fun Tryz.prog f (zcF n :: caps.map .u) (· = .u (.bool (p n)))) (hcl : zae Tryz.prog f = true)
  (hca : ∀ o, zcq o (caps.map .u) = some (caps.map .u, [])) (hcb : ∀ o, zbo o (caps.map .u) = some (caps, [])) : Fun Tryz.prog 87 [.u (ztr l), .fnc (.func f) (caps.map .u)] (· = .u (.bool (l.any p))) := by
 have h1 := znE l f caps p hf hcl hca;refine Fun.run Tryz.func87 Tryz.ntmps87 Tryz.results87 rfl (by simp) fun Γ hn => ?_; simp only [entry, List.zipIdx_cons, List.zipIdx_nil, List.map_cons, List.map_nil, Nat.zero_add];simp only [ztr] at h1 ⊢
 repeat' (first
  | (refine zaf rfl ?_; simp [hcb])
  | (refine CallP.f2 rfl (h1) (by first | simp [hcb] <;> rfl | fail) ?_; simp [hcb])
  | fail)
 (refine Pst.of ?_; simp)
 have h2 := zmA p l 0 (by omega);rw [Bool.eq_iff_iff];simpa using h2
def zuX (e : Exp) : Bool := decide (e.s = []) && decide (0 <= e.unit) && decide (e.unit < 5) && decide (0 <= e.n) && decide (e.n <= if e.unit = 0 then 1 else 1099511627776)
def zba : Nat -> Exp -> Bool
 | 0, _ => false
 | d + 1, e => decide ((e.args.length : Int) = zcu e.op) && (if e.op = 0 then zuX e else if e.n ≠ 0 \/ e.unit ≠ 0 then false else if e.op = 1 then zgP e.s else decide (e.s = []) && !e.args.any (fun x => !zba d x))
set_option maxRecDepth 100000 in
set_option maxHeartbeats 4000000 in
theorem zkg : ∀ (d : Nat) (e : Exp), (d : Int) <= 100 -> Fun Tryz.prog 55 [zcF e, .u (.int .i64 d)] (· = .u (.bool (zba d e)))
 | 0, e, _ => by
  refine Fun.run Tryz.func55 Tryz.ntmps55 Tryz.results55 rfl (by simp) fun Γ hn => ?_; simp only [entry, List.zipIdx_cons, List.zipIdx_nil, List.map_cons, List.map_nil, Nat.zero_add];simp only [zcF]
  repeat' (first
  | (refine zaf rfl ?_; simp)
  | (refine ⟨hC _ (by kernel_rfl), hk _ (zel 8 _ _ _ ?_)⟩; clear hC hk C k; simp)
  | (refine zeW rfl (by kernel_rfl) (by first | (simp [hn]; done) | (simp [hn]; omega) | fail) fun C k hC hk => ?_; simp)
  | fail)
  (refine Pst.of ?_; simp)
  rfl
 | d + 1, e, hd => by
  have hr : ∀ x : Exp, Fun Tryz.prog 88 (zcF x :: [U.row [.int .i64 ((d + 1 : Nat) : Int)] 0].map .u) (· = .u (.bool (!zba d x))) := fun x => by
   have h1 := zkg d x (by omega);refine Fun.run Tryz.func88 Tryz.ntmps88 Tryz.results88 rfl (by simp) fun Γ hn => ?_; simp only [entry, List.zipIdx_cons, List.zipIdx_nil, List.map_cons, List.map_nil, Nat.zero_add];simp only [zcF] at h1 ⊢
   repeat' (first
  | (refine zaf rfl ?_; simp)
  | (refine And.intro (by omega) ?_)
  | (refine CallP.f2 rfl (h1) (by first | simp <;> rfl | fail) ?_; simp)
  | fail)
   (refine Pst.of ?_; simp)
  have hcon := zjO e.args 88 [U.row [.int .i64 ((d + 1 : Nat) : Int)] 0] (fun x => !zba d x) (fun x _ => hr x) (by simp) (fun _ => rfl) (fun _ => rfl);have hnam := zjr e.s;have hopr := zky e.op;simp only [List.map_cons, List.map_nil] at hcon;rw [zba];unfold zuX;generalize (e.args.any fun x => !zba d x) = z at hcon ⊢;generalize zgP e.s = nm at hnam ⊢;generalize hop : zcu e.op = oi at hopr ⊢;refine Fun.run Tryz.func55 Tryz.ntmps55 Tryz.results55 rfl (by simp) fun Γ hn => ?_; simp only [entry, List.zipIdx_cons, List.zipIdx_nil, List.map_cons, List.map_nil, Nat.zero_add];rw [zsv] at hcon;simp only [zcF];by_cases hlen : (e.args.length : Int) = oi
  case neg =>
   repeat' (first
  | (refine Cnd.of (fun hc => ?_) (fun hc => ?_) <;> (try (exfalso; omega)) <;> (try simp [hlen]))
  | (refine zaf rfl ?_; simp [hlen])
  | (refine ⟨hC _ (by kernel_rfl), hk _ (zel 8 _ _ _ ?_)⟩; clear hC hk C k; simp [hlen])
  | (refine zeW rfl (by kernel_rfl) (by first | (simp [hn]; done) | (simp [hn]; omega) | fail) fun C k hC hk => ?_; simp [hlen])
  | (refine zc7 rfl ?_; simp [hlen])
  | (refine zdb rfl ?_; simp [hlen])
  | (refine CallV.f2 rfl (hopr) (by first | simp [hlen] <;> rfl | fail) ?_; simp [hlen])
  | fail)
   (refine Pst.of ?_; simp)
   try (simp_all; done)
  by_cases h0 : e.op = 0
  case pos =>
   by_cases hu : e.unit = 0
   all_goals
    repeat' (first
  | (refine Cnd.of (fun hc => ?_) (fun hc => ?_) <;> (try (exfalso; omega)) <;> (try simp [hlen, h0, hu]))
  | (refine zaf rfl ?_; simp [hlen, h0, hu])
  | (refine ⟨hC _ (by kernel_rfl), hk _ (zel 8 _ _ _ ?_)⟩; clear hC hk C k; simp [hlen, h0, hu])
  | (refine zeW rfl (by kernel_rfl) (by first | (simp [hn]; done) | (simp [hn]; omega) | fail) fun C k hC hk => ?_; simp [hlen, h0, hu])
  | (refine zc7 rfl ?_; simp [hlen, h0, hu])
  | (refine zdb rfl ?_; simp [hlen, h0, hu])
  | (refine CallV.f2 rfl (hopr) (by first | simp [hlen, h0, hu] <;> rfl | fail) ?_; simp [hlen, h0, hu])
  | fail)
    all_goals
     (refine Pst.of ?_; simp)
   all_goals clear hr hopr hcon hnam
   all_goals grind
  by_cases hnu : e.n ≠ 0 \/ e.unit ≠ 0
  case pos =>
   repeat' (first
  | (refine Cnd.of (fun hc => ?_) (fun hc => ?_) <;> (try (exfalso; omega)) <;> (try simp [hlen, h0]))
  | (refine zaf rfl ?_; simp [hlen, h0])
  | (refine ⟨hC _ (by kernel_rfl), hk _ (zel 8 _ _ _ ?_)⟩; clear hC hk C k; simp [hlen, h0])
  | (refine zeW rfl (by kernel_rfl) (by first | (simp [hn]; done) | (simp [hn]; omega) | fail) fun C k hC hk => ?_; simp [hlen, h0])
  | (refine zc7 rfl ?_; simp [hlen, h0])
  | (refine zdb rfl ?_; simp [hlen, h0])
  | (refine CallV.f2 rfl (hopr) (by first | simp [hlen, h0] <;> rfl | fail) ?_; simp [hlen, h0])
  | fail)
   all_goals
    (refine Pst.of ?_; simp)
   all_goals clear hr hopr hcon hnam
   all_goals grind
  by_cases h1 : e.op = 1
  case pos =>
   repeat' (first
  | (refine Cnd.of (fun hc => ?_) (fun hc => ?_) <;> (try (exfalso; omega)) <;> (try simp [hlen, h0, h1]))
  | (refine zaf rfl ?_; simp [hlen, h0, h1])
  | (refine ⟨hC _ (by kernel_rfl), hk _ (zel 8 _ _ _ ?_)⟩; clear hC hk C k; simp [hlen, h0, h1])
  | (refine zeW rfl (by kernel_rfl) (by first | (simp [hn]; done) | (simp [hn]; omega) | fail) fun C k hC hk => ?_; simp [hlen, h0, h1])
  | (refine zc7 rfl ?_; simp [hlen, h0, h1])
  | (refine zdb rfl ?_; simp [hlen, h0, h1])
  | ((first | refine CallP.f2 rfl (hopr) (by first | simp [hlen, h0, h1] <;> rfl | fail) ?_ | refine CallP.f2 rfl (hnam) (by first | simp [hlen, h0, h1] <;> rfl | fail) ?_ | fail); simp [hlen, h0, h1])
  | ((first | refine CallV.f2 rfl (hopr) (by first | simp [hlen, h0, h1] <;> rfl | fail) ?_ | refine CallV.f2 rfl (hnam) (by first | simp [hlen, h0, h1] <;> rfl | fail) ?_ | fail); simp [hlen, h0, h1])
  | fail)
   all_goals
    (refine Pst.of ?_; simp)
   all_goals clear hr hopr hcon hnam
   all_goals grind
  by_cases hs : e.s = []
  all_goals
   repeat' (first
  | (refine Cnd.of (fun hc => ?_) (fun hc => ?_) <;> (try (exfalso; omega)) <;> (try simp [hlen, h0, h1, hs]))
  | (refine zaf rfl ?_; simp [hlen, h0, h1, hs])
  | (refine ⟨hC _ (by kernel_rfl), hk _ (zel 8 _ _ _ ?_)⟩; clear hC hk C k; simp [hlen, h0, h1, hs])
  | (refine zeW rfl (by kernel_rfl) (by first | (simp [hn]; done) | (simp [hn]; omega) | fail) fun C k hC hk => ?_; simp [hlen, h0, h1, hs])
  | (refine zc7 rfl ?_; simp [hlen, h0, h1, hs])
  | (refine zdb rfl ?_; simp [hlen, h0, h1, hs])
  | ((first | refine CallP.f2 rfl (hopr) (by first | simp [hlen, h0, h1, hs] <;> rfl | fail) ?_ | refine CallP.f2 rfl (hnam) (by first | simp [hlen, h0, h1, hs] <;> rfl | fail) ?_ | refine CallP.f2 rfl (hcon) (by first | simp [hlen, h0, h1, hs] <;> rfl | fail) ?_ | fail); simp [hlen, h0, h1, hs])
  | ((first | refine CallV.f2 rfl (hopr) (by first | simp [hlen, h0, h1, hs] <;> rfl | fail) ?_ | refine CallV.f2 rfl (hnam) (by first | simp [hlen, h0, h1, hs] <;> rfl | fail) ?_ | refine CallV.f2 rfl (hcon) (by first | simp [hlen, h0, h1, hs] <;> rfl | fail) ?_ | fail); simp [hlen, h0, h1, hs])
  | fail)
   all_goals
    (refine Pst.of ?_; simp)
  all_goals clear hr hopr hcon hnam
  all_goals grind
theorem zd7 (e : Exp) : Fun Tryz.prog 22 [zcF e] (· = .u (.bool (zba 12 e))) := by
 have h1 := zkg 12 e (by omega);refine Fun.run Tryz.func22 Tryz.ntmps22 Tryz.results22 rfl (by simp) fun Γ hn => ?_; simp only [entry, List.zipIdx_cons, List.zipIdx_nil, List.map_cons, List.map_nil, Nat.zero_add];simp only [zcF] at h1 ⊢
 repeat' (first
  | (refine zaf rfl ?_; simp)
  | (refine CallP.f2 rfl (h1) (by first | simp <;> rfl | fail) ?_; simp)
  | fail)
 (refine Pst.of ?_; simp)
end Go.Proofs.YtkdhmbhbbciedaaGreatDoor
namespace Go.Proofs.YtkdhmbhbbciedaaGreatDoor
open Go Go.VL
attribute [local simp] zaY zcB zbz evPure opd uOf zal St.put St.at getK binD binI binS binB nilD aggD zeS zfd lookD lookR zbE rangeS Go.VL.nextD Go.VL.nextS zbJ zfk zfe zeu zb7 mkV zaZ zcH zaL za1 mapEff zdw zek Key.kk shiftI arith unD convD zcP loadD cellsAt fieldAddrD fieldD indexAddrD indexSlD arrAddr indexD sliceD cutD lenD minmaxD nilCheckD buildD fillD zbn zcC zd1 setAll zcx zdZ zbD zeO zbC St.add zaj za6 rowsOf zcI zca zad zac zaa zaQ zcs zaG entry za2 za3 valD zbK zcq zeL zcD zcE zbp zbo zag zaB za0 delAll effD St.effS zb4 zaD zas zb5 zaE zau zbl zat zan zbm zb2 zaW zbj zaJ zbi zah mkD zbd za4 zbb zag zbN D.ids Op.operands Call.operands za5 makeIfD makeFuncD typeAssertD zfc zcL zcM zeY zbG IntKind.bits zbQ zam List.take_of_length_le List.range_succ zci zbx zcj zcd za7 zbq zbs zce zbu zaP zbt zbr zfJ zbw zcg zaH zav zch zaI zax zbv zaw zaq zcm zcn zfH zab frzN frz1 zaO zaN St.frz St.frzS frzS fv zbI zbV zcb zaM zay zao frz zcc zbH zbS zbT zaX St.norm St.lp St.only zaS wkE wkO wkU Ob.under D.under zai zap zck zby zcl h4s zdG zar zaV List.zipIdx_cons List.zipIdx_nil List.map_cons List.map_nil Nat.zero_add
attribute [local irreducible] V G H HD HD2 zaT Eff CallP CallV EndOK Fun Ret FinOK LoopI LoopW EndW HR vs2 RN Cnd H4
def zoB (u : Int) (l : List Int) : Bool := !l.any fun n => decide (n ≠ u)
def zuk (a b : Int) : Int × Bool := if a = 0 \/ b = 0 then (0, false) else if a = 4 then (b, true) else if b = 4 then (a, true) else if a = 1 then (b, true) else if b = 1 then (a, true) else (0, false)
def l0 (l : List Int) (i : Nat) : Int := l.getD i 0
def ztL (op : Int) (l : List Int) : Int × Bool :=
 if op = 2 \/ op = 3 \/ op = 6 \/ op = 7 then (l0 l 0, zoB (l0 l 0) l && decide (l0 l 0 ≠ 0))
 else if op = 4 then zuk (l0 l 0) (l0 l 1)
 else if op = 5 then (if l0 l 1 = 1 then (l0 l 0, decide (l0 l 0 ≠ 0) && decide (l0 l 0 ≠ 4)) else (1, zoB (l0 l 0) l && (decide (l0 l 0 = 3) || decide (l0 l 0 = 2))))
 else if op = 8 then (0, zoB (l0 l 0) l && decide (l0 l 0 ≠ 0))
 else if op = 9 then (0, zoB (l0 l 0) l)
 else if op = 13 then (l0 l 1, decide (l0 l 0 = 0) && decide (l0 l 1 = l0 l 2))
 else (0, zoB 0 l)
def asc {β : Type} : List (List UInt8 × β) -> List UInt8 -> Option β
 | [], _ => none
 | (k, b) :: l, x => if x = k then some b else asc l x
def zi4 {β : Type} : List (List UInt8 × β) -> List UInt8 -> β -> List (List UInt8 × β)
 | [], x, b => [(x, b)]
 | (k, c) :: l, x, b => if x = k then (k, b) :: l else (k, c) :: zi4 l x b
theorem zoL {β : Type} (f : β -> List U) (x : List UInt8) : ∀ (l : List (List UInt8 × β)), zb7 (l.map fun p => (Key.s p.1, f p.2)) (.s x) = (asc l x).map f
 | [] => rfl
 | (k, b) :: l => by
  simp only [List.map_cons, zb7, asc, Key.s.injEq];split
  ·rfl
  ·exact zoL f x l
theorem zl1 {β : Type} (x y : List UInt8) (b : β) : ∀ (l : List (List UInt8 × β)), asc (zi4 l x b) y = if y = x then some b else asc l y
 | [] => by simp [zi4, asc]
 | (k, c) :: l => by
  simp only [zi4];split
  ·rename_i h;subst h;simp only [asc];split <;> rfl
  ·rename_i h;simp only [asc, zl1 x y b l];by_cases h1 : y = k
   ·subst h1; simp [Ne.symm h]
   ·simp [h1]
mutual
def zlo (g : List UInt8 -> Option Int) (m : List UInt8 -> Option (Int × Int)) : Exp -> Int × Int
 | .mk op _ u s args =>
  if op = 0 then (u, 0)
  else if op = 1 then (match g s with | some u => (u, 0) | none => match m s with | some r => r | none => (0, 13))
  else match zrL g m args with
   | .error b => (0, b)
   | .ok l => if (ztL op l).2 = true then ((ztL op l).1, 0) else (0, 14)
def zrL (g : List UInt8 -> Option Int) (m : List UInt8 -> Option (Int × Int)) : List Exp -> Except Int (List Int)
 | [] => .ok []
 | e :: r => if (zlo g m e).2 ≠ 0 then .error (zlo g m e).2 else match zrL g m r with
  | .error b => .error b
  | .ok l => .ok ((zlo g m e).1 :: l)
end
mutual
def shareS (m : List UInt8 -> Bool) : Exp -> Bool
 | .mk op _ u s args =>
  if op = 0 then decide (u = 4)
  else if op = 1 then m s
  else if op = 2 \/ op = 3 \/ op = 6 \/ op = 7 then zb9 m args 0
  else if op = 4 then zb9 m args 0 && zb9 m args 1
  else if op = 13 then zb9 m args 1
  else false
def zb9 (m : List UInt8 -> Bool) : List Exp -> Nat -> Bool
 | [], _ => false
 | e :: _, 0 => shareS m e
 | _ :: r, n + 1 => zb9 m r n
end
theorem zop (m) (e : Exp) : shareS m e = if e.op = 0 then decide (e.unit = 4)
  else if e.op = 1 then m e.s
  else if e.op = 2 \/ e.op = 3 \/ e.op = 6 \/ e.op = 7 then zb9 m e.args 0
  else if e.op = 4 then zb9 m e.args 0 && zb9 m e.args 1
  else if e.op = 13 then zb9 m e.args 1
  else false := by
 cases e with | mk op n u s args => rw [shareS]; rfl
abbrev LM := List (List UInt8 × Int × Int × Bool)
abbrev GM := List (List UInt8 × Int)
def gF (g : GM) : List UInt8 -> Option Int := asc g
def mF (m : LM) : List UInt8 -> Option (Int × Int) := fun x => (asc m x).map fun q => (q.1, q.2.1)
def sF (m : LM) : List UInt8 -> Bool := fun x => ((asc m x).map fun q => q.2.2).getD false
theorem zdT {d : Nat} {e : Exp} (h : zba (d + 1) e = true) : (e.args.length : Int) = zcu e.op /\ 0 <= e.op /\ e.op < 14 /\ (e.op ≠ 0 -> e.op ≠ 1 -> ∀ x ∈ e.args, zba d x = true) := by
 rw [zba, Bool.and_eq_true, decide_eq_true_eq] at h;obtain ⟨h1, h2⟩ := h;have h3 : 0 <= e.op /\ e.op < 14 := by
  unfold zcu at h1;split at h1
  ·omega
  ·split at h1
   ·omega
   ·split at h1
    ·omega
    ·split at h1
     ·omega
     ·omega
 refine ⟨h1, h3.1, h3.2, fun ha hb x hx => ?_⟩;rw [if_neg ha] at h2;split at h2
 ·cases h2
 ·simp only [if_neg hb, Bool.and_eq_true, Bool.not_eq_true', List.any_eq_false, Bool.not_eq_true] at h2;have := h2.2 x hx;simpa using this
def mOf (g : GM) (lets : List Let) : LM := lets.foldl (fun m l => zi4 m l.name ((zlo (gF g) (mF m) l.body).1, (zlo (gF g) (mF m) l.body).2, shareS (sF m) l.body)) []
def zbW (lets : List Let) (e : Exp) : Bool := decide (lets.length <= 20) && zba 12 e && !lets.any (fun l => !zba 12 l.body)
theorem znJ {α β : Type} (f : β -> α -> β) (b : β) {l : List α} {i : Nat} {x : α} (h : l[i]? = some x) : (l.take (i + 1)).foldl f b = f ((l.take i).foldl f b) x := by
 obtain ⟨hi, rfl⟩ := List.getElem?_eq_some_iff.1 h;rw [List.take_succ_eq_append_getElem hi, List.foldl_append];rfl
theorem zqu {g : GM} {lets : List Let} {i : Nat} {l : Let} (h : lets[i]? = some l) : mOf g (lets.take (i + 1)) = zi4 (mOf g (lets.take i)) l.name ((zlo (gF g) (mF (mOf g (lets.take i))) l.body).1, (zlo (gF g) (mF (mOf g (lets.take i))) l.body).2, shareS (sF (mOf g (lets.take i))) l.body) := znJ _ _ h
end Go.Proofs.YtkdhmbhbbciedaaGreatDoor
namespace Go.Proofs.YtkdhmbhbbciedaaGreatDoor.Vm
open Go Go.VL
attribute [local simp] zaY zcB zbz evPure opd uOf zal St.put St.at getK binD binI binS binB nilD aggD zeS zfd lookD lookR zbE rangeS Go.VL.nextD Go.VL.nextS zbJ zfk zfe zeu zb7 mkV zaZ zcH zaL za1 mapEff zdw zek Key.kk shiftI arith unD convD zcP loadD cellsAt fieldAddrD fieldD indexAddrD indexSlD arrAddr indexD sliceD cutD lenD minmaxD nilCheckD buildD fillD zbn zcC zd1 setAll zcx zdZ zbD zeO zbC St.add zaj za6 rowsOf zcI zca zad zac zaa zaQ zcs zaG entry za2 za3 valD zbK zcq zeL zcD zcE zbp zbo zag zaB za0 delAll effD St.effS zb4 zaD zas zb5 zaE zau zbl zat zan zbm zb2 zaW zbj zaJ zbi zah mkD zbd za4 zbb zag zbN D.ids Op.operands Call.operands za5 makeIfD makeFuncD typeAssertD zfc zcL zcM zeY zbG IntKind.bits zbQ zam List.take_of_length_le List.range_succ zci zbx zcj zcd za7 zbq zbs zce zbu zaP zbt zbr zfJ zbw zcg zaH zav zch zaI zax zbv zaw zaq zcm zcn zfH zab frzN frz1 zaO zaN St.frz St.frzS frzS fv zbI zbV zcb zaM zay zao frz zcc zbH zbS zbT zaX St.norm St.lp St.only zaS wkE wkO wkU Ob.under D.under zai zap zck zby zcl h4s zdG zar zaV List.zipIdx_cons List.zipIdx_nil List.map_cons List.map_nil Nat.zero_add
attribute [local irreducible] V G H HD HD2 zaT Eff CallP CallV EndOK Fun Ret FinOK LoopI LoopW EndW HR vs2 RN Cnd H4
end Go.Proofs.YtkdhmbhbbciedaaGreatDoor.Vm
namespace Go.Proofs.YtkdhmbhbbciedaaGreatDoor
open Go Go.VL
attribute [local simp] zaY zcB zbz evPure opd uOf zal St.put St.at getK binD binI binS binB nilD aggD zeS zfd lookD lookR zbE rangeS Go.VL.nextD Go.VL.nextS zbJ zfk zfe zeu zb7 mkV zaZ zcH zaL za1 mapEff zdw zek Key.kk shiftI arith unD convD zcP loadD cellsAt fieldAddrD fieldD indexAddrD indexSlD arrAddr indexD sliceD cutD lenD minmaxD nilCheckD buildD fillD zbn zcC zd1 setAll zcx zdZ zbD zeO zbC St.add zaj za6 rowsOf zcI zca zad zac zaa zaQ zcs zaG entry za2 za3 valD zbK zcq zeL zcD zcE zbp zbo zag zaB za0 delAll effD St.effS zb4 zaD zas zb5 zaE zau zbl zat zan zbm zb2 zaW zbj zaJ zbi zah mkD zbd za4 zbb zag zbN D.ids Op.operands Call.operands za5 makeIfD makeFuncD typeAssertD zfc zcL zcM zeY zbG IntKind.bits zbQ zam List.take_of_length_le List.range_succ zci zbx zcj zcd za7 zbq zbs zce zbu zaP zbt zbr zfJ zbw zcg zaH zav zch zaI zax zbv zaw zaq zcm zcn zfH zab frzN frz1 zaO zaN St.frz St.frzS frzS fv zbI zbV zcb zaM zay zao frz zcc zbH zbS zbT zaX St.norm St.lp St.only zaS wkE wkO wkU Ob.under D.under zai zap zck zby zcl h4s zdG zar zaV List.zipIdx_cons List.zipIdx_nil List.map_cons List.map_nil Nat.zero_add
attribute [local irreducible] V G H HD HD2 zaT Eff CallP CallV EndOK Fun Ret FinOK LoopI LoopW EndW HR vs2 RN Cnd H4
theorem zpG (c : UInt8) : Fun Tryz.prog 166 [.u (.int .u8 c.toNat)] (· = .u (.bool (zcG c))) := by
 unfold zcG;refine Fun.run Tryz.func166 Tryz.ntmps166 Tryz.results166 rfl (by simp) fun Γ hn => ?_
 repeat' (first
  | (refine Cnd.of (fun hc => ?_) (fun hc => ?_) <;> (try (exfalso; omega)) <;> (try simp))
  | (refine zaf rfl ?_; simp)
  | fail)
 all_goals
  (refine Pst.of ?_; simp)
 all_goals first | omega | (rw [Bool.eq_iff_iff]; simp; omega) | (simp; omega)
theorem zoH (c : UInt8) : Fun Tryz.prog 180 [.u (.int .u8 c.toNat)] (· = .u (.bool (zdA c))) := by
 unfold zdA;refine Fun.run Tryz.func180 Tryz.ntmps180 Tryz.results180 rfl (by simp) fun Γ hn => ?_
 repeat' (first
  | (refine Cnd.of (fun hc => ?_) (fun hc => ?_) <;> (try (exfalso; omega)) <;> (try simp))
  | (refine zaf rfl ?_; simp)
  | ((first | refine CallP.f2 rfl (zes c) (by first | simp <;> rfl | fail) ?_ | refine CallP.f2 rfl (zfb c) (by first | simp <;> rfl | fail) ?_ | fail); simp)
  | fail)
 all_goals
  (refine Pst.of ?_; simp)
 all_goals simp_all
theorem zd6 (p : UInt8 -> Bool) (l : List UInt8) : zcY p l <= l.length := by
 unfold zcY;exact (List.takeWhile_sublist p).length_le
theorem zkd {p : UInt8 -> Bool} {l : List UInt8} (h : zcY p l = l.length) : ∀ c ∈ l, p c = true := by
 have : l.takeWhile p = l := (List.takeWhile_sublist p).eq_of_length h;intro c hc;rw [<- this] at hc;exact List.all_eq_true.1 (List.all_takeWhile (l := l) (p := p)) c hc
theorem znn (s : List UInt8) (hl : s.length <= 1000000) : Fun Tryz.prog 181 [.u (.str s)] (· = .tup [.u (.int .i64 ((zgh s).getD 0)), .u (.bool (zgh s).isSome)]) := by
 have hsp := zfN s hl 157 za9 (fun c _ => zfb c) (by simp);unfold zgh;cases s with
 | nil =>
  refine Fun.run Tryz.func181 Tryz.ntmps181 Tryz.results181 rfl (by simp) fun Γ hn => ?_
  repeat' (first
  | (refine zaf rfl ?_; simp)
  | fail)
  all_goals
   (refine Pst.of ?_; simp)
 | cons c s =>
  by_cases h1 : zcY za9 (c :: s) = (c :: s).length
  case neg =>
   rw [if_pos (.inr (.inl h1))];have h1' : ¬ (zcY za9 (c :: s) : Int) = s.length + 1 := by simp at h1; omega
   refine Fun.run Tryz.func181 Tryz.ntmps181 Tryz.results181 rfl (by simp) fun Γ hn => ?_
   repeat' (first
  | (refine zaf rfl ?_; simp [h1'])
  | (refine CallP.f2 rfl (hsp) (by first | simp [h1'] <;> rfl | fail) ?_; simp [h1'])
  | fail)
   all_goals
    (refine Pst.of ?_; simp)
  have h1' : (zcY za9 (c :: s) : Int) = s.length + 1 := by simp at h1; omega
  by_cases h2 : c.toNat = 48 /\ s ≠ []
  ·rw [if_pos (.inr (.inr (.inl ⟨by have := h2.1; simp; exact UInt8.toNat_inj.1 this, by simp; intro _; exact h2.2⟩)))];have h2b := h2.1;have h2a := h2.2;refine Fun.run Tryz.func181 Tryz.ntmps181 Tryz.results181 rfl (by simp) fun Γ hn => ?_
   repeat' (first
  | (refine zaf rfl ?_; simp [h1', h2a, h2b])
  | (refine CallP.f2 rfl (hsp) (by first | simp [h1', h2a, h2b] <;> rfl | fail) ?_; simp [h1', h2a, h2b])
  | fail)
   all_goals
    (refine Pst.of ?_; simp)
  have h2' : c.toNat = 48 -> s = [] := fun h => by
   by_cases hs : s = []
   ·exact hs
   ·exact absurd ⟨h, hs⟩ h2
  by_cases h3 : 13 < (c :: s).length
  ·rw [if_pos (.inr (.inr (.inr h3)))];have h3' : 13 < (s.length : Int) + 1 := by simp at h3; omega
   have hne : s ≠ [] := fun e => by rw [e] at h3; simp at h3
   have h2'' : ¬ c.toNat = 48 := fun h => hne (h2' h);refine Fun.run Tryz.func181 Tryz.ntmps181 Tryz.results181 rfl (by simp) fun Γ hn => ?_
   repeat' (first
  | (refine Cnd.of (fun hc => ?_) (fun hc => ?_) <;> (try (exfalso; omega)) <;> (try simp [h1', h2'', h3']))
  | (refine zaf rfl ?_; simp [h1', h2'', h3'])
  | (refine CallP.f2 rfl (hsp) (by first | simp [h1', h2'', h3'] <;> rfl | fail) ?_; simp [h1', h2'', h3'])
  | fail)
   all_goals
    (refine Pst.of ?_; simp)
  have hall := zkd h1;rw [if_neg (by
   simp only [not_or];refine ⟨by simp, fun h => h h1, fun h => ?_, h3⟩;have hc48 : c = 48 := by have := h.1; simpa using this
   have := h2' (by rw [hc48]; rfl);rw [this, hc48] at h;exact h.2 rfl)]
  have h3' : ¬ 13 < (s.length : Int) + 1 := by simp at h3; omega
  have hval : ∀ k, k <= (c :: s).length -> 0 <= zbB ((c :: s).take k) /\ zbB ((c :: s).take k) < 10 ^ 13 := fun k hk => by
   have h4 := zf1 k ((c :: s).take k) (by simp; simp at hk; omega) (fun x hx => hall x (List.mem_of_mem_take hx));have : (10 : Int) ^ k <= 10 ^ 13 := by
    have := Nat.pow_le_pow_right (n := 10) (by omega) (show k <= 13 by simp at h3 hk; omega)
    exact_mod_cast this
   omega
  have hloop : ∀ (hw : c.toNat = 48 -> s = []), Fun Tryz.prog 181 [.u (.str (c :: s))] (· = .tup [.u (.int .i64 ((if 1099511627776 < zbB (c :: s) then none else some (zbB (c :: s)) : Option Int).getD 0)), .u (.bool (if 1099511627776 < zbB (c :: s) then none else some (zbB (c :: s)) : Option Int).isSome)]) := fun hw => by
   by_cases h48 : c.toNat = 48
   ·have h48' : (c.toNat : Int) = 48 := by omega
    have hc48 : (c = 48) = True := eq_true (UInt8.toNat_inj.1 h48);have hs0 : (s = []) = True := eq_true (hw h48);refine Fun.run Tryz.func181 Tryz.ntmps181 Tryz.results181 rfl (by simp) fun Γ hn => ?_
    repeat' (first
  | (refine zaf rfl ?_; simp [h1', h3', h48', hc48, hs0])
  | (refine CallP.f2 rfl (hsp) (by first | simp [h1', h3', h48', hc48, hs0] <;> rfl | fail) ?_; simp [h1', h3', h48', hc48, hs0])
  | fail)
    refine zdD (α := { i : Nat // i <= (c :: s).length }) [0, 30] (fun i => [(4, .u (.int .i64 (zbB ((c :: s).take i.1)))), (31, .u (.int .i64 i.1))]) (fun i => (c :: s).length - i.1) ⟨0, by omega⟩ ?_ ?_
    ·exact (Wk.zeX (by simp [hn, zbB] <;> grind))
    rintro ⟨i, hi⟩;simp;rcases hx : (c :: s)[i]? with _ | a
    ·have hge : (c :: s).length <= i := by simpa using hx
     obtain rfl : i = (c :: s).length := by omega
     rw [List.take_length];have hge2 : ¬ ((c :: s).length : Int) < s.length + 1 := by simp
     by_cases hb : 1099511627776 < zbB (c :: s)
     ·repeat' (first
  | (refine zaf rfl ?_; simp [hb, hge2])
  | fail)
      (refine Pst.of ?_; simp)
      try simp [hb]
     ·repeat' (first
  | (refine zaf rfl ?_; simp [hb, hge2])
  | fail)
      (refine Pst.of ?_; simp)
      try simp [hb]
    ·have hlt : i < (c :: s).length := (List.getElem?_eq_some_iff.1 hx).1;have hlt2 : (i : Int) < s.length + 1 := by simp at hlt; omega
     have hd := hall a (List.mem_of_getElem? hx);simp only [za9, Bool.and_eq_true, decide_eq_true_eq] at hd;have hv := hval i hi;have hv2 := hval (i + 1) hlt;have hsn : zbB ((c :: s).take (i + 1)) = 10 * zbB ((c :: s).take i) + ((a.toNat : Int) - 48) := by
      rw [List.take_succ, hx]; exact zed _ _
     generalize zbB ((c :: s).take i) = dv at hv hsn;have hsn2 := hsn.symm
     repeat' (first
  | (refine zaf rfl ?_; simp [hx, hlt2, hsn2])
  | (refine And.intro (by omega) ?_)
  | fail)
     refine LoopW.next ⟨i + 1, hlt⟩ (by simp at hlt; simp; omega) ?_
     exact (Wk.zeX (by simp [hn, hsn] <;> grind))
   ·refine Fun.run Tryz.func181 Tryz.ntmps181 Tryz.results181 rfl (by simp) fun Γ hn => ?_
    repeat' (first
  | (refine Cnd.of (fun hc => ?_) (fun hc => ?_) <;> (try (exfalso; omega)) <;> (try simp [h1', h3', h48]))
  | (refine zaf rfl ?_; simp [h1', h3', h48])
  | (refine CallP.f2 rfl (hsp) (by first | simp [h1', h3', h48] <;> rfl | fail) ?_; simp [h1', h3', h48])
  | fail)
    refine zdD (α := { i : Nat // i <= (c :: s).length }) [0, 30] (fun i => [(4, .u (.int .i64 (zbB ((c :: s).take i.1)))), (31, .u (.int .i64 i.1))]) (fun i => (c :: s).length - i.1) ⟨0, by omega⟩ ?_ ?_
    ·exact (Wk.zeX (by simp [hn, zbB] <;> grind))
    rintro ⟨i, hi⟩;simp;rcases hx : (c :: s)[i]? with _ | a
    ·have hge : (c :: s).length <= i := by simpa using hx
     obtain rfl : i = (c :: s).length := by omega
     rw [List.take_length];have hge2 : ¬ ((c :: s).length : Int) < s.length + 1 := by simp
     by_cases hb : 1099511627776 < zbB (c :: s)
     ·repeat' (first
  | (refine zaf rfl ?_; simp [hb, hge2])
  | fail)
      (refine Pst.of ?_; simp)
      try simp [hb]
     ·repeat' (first
  | (refine zaf rfl ?_; simp [hb, hge2])
  | fail)
      (refine Pst.of ?_; simp)
      try simp [hb]
    ·have hlt : i < (c :: s).length := (List.getElem?_eq_some_iff.1 hx).1;have hlt2 : (i : Int) < s.length + 1 := by simp at hlt; omega
     have hd := hall a (List.mem_of_getElem? hx);simp only [za9, Bool.and_eq_true, decide_eq_true_eq] at hd;have hv := hval i hi;have hv2 := hval (i + 1) hlt;have hsn : zbB ((c :: s).take (i + 1)) = 10 * zbB ((c :: s).take i) + ((a.toNat : Int) - 48) := by
      rw [List.take_succ, hx]; exact zed _ _
     generalize zbB ((c :: s).take i) = dv at hv hsn;have hsn2 := hsn.symm
     repeat' (first
  | (refine zaf rfl ?_; simp [hx, hlt2, hsn2])
  | (refine And.intro (by omega) ?_)
  | fail)
     refine LoopW.next ⟨i + 1, hlt⟩ (by simp at hlt; simp; omega) ?_
     exact (Wk.zeX (by simp [hn, hsn] <;> grind))
  exact hloop h2'
theorem zlA (s p : List UInt8) : Fun Tryz.prog 189 [.u (.str s), .u (.str p)] (· = .u (.bool (p.isPrefixOf s))) := by
 by_cases hl : p.length <= s.length
 ·have hl2 : (p.length : Int) <= s.length := by omega
  by_cases he : s.take p.length = p
  ·have hp : p.isPrefixOf s = true := List.isPrefixOf_iff_prefix.2 (List.prefix_iff_eq_take.2 he.symm);refine Fun.run Tryz.func189 Tryz.ntmps189 Tryz.results189 rfl (by simp) fun Γ hn => ?_
   repeat' (first
  | (refine zaf rfl ?_; simp [hl, hl2, he])
  | fail)
   all_goals
    (refine Pst.of ?_; simp)
   all_goals first | (rw [hp]; done) | exact List.isPrefixOf_iff_prefix.1 hp | (simp [hp]; done) | rfl
  ·have hp : p.isPrefixOf s = false := by
    cases h : p.isPrefixOf s with
    | false => rfl
    | true => exact absurd (List.prefix_iff_eq_take.1 (List.isPrefixOf_iff_prefix.1 h)).symm he
   refine Fun.run Tryz.func189 Tryz.ntmps189 Tryz.results189 rfl (by simp) fun Γ hn => ?_
   repeat' (first
  | (refine zaf rfl ?_; simp [hl, hl2, he])
  | fail)
   all_goals
    (refine Pst.of ?_; simp)
   all_goals first | (rw [hp]; done) | exact List.isPrefixOf_iff_prefix.1 hp | (simp [hp]; done) | rfl
 ·have hl2 : ¬ (p.length : Int) <= s.length := by omega
  have hp : p.isPrefixOf s = false := by
   cases h : p.isPrefixOf s with
   | false => rfl
   | true => exact absurd (List.isPrefixOf_iff_prefix.1 h).length_le hl
  refine Fun.run Tryz.func189 Tryz.ntmps189 Tryz.results189 rfl (by simp) fun Γ hn => ?_
  repeat' (first
  | (refine zaf rfl ?_; simp [hl, hl2])
  | fail)
  all_goals
   (refine Pst.of ?_; simp)
  all_goals first | (rw [hp]; done) | exact List.isPrefixOf_iff_prefix.1 hp | (simp [hp]; done) | rfl
theorem zne (s p : List UInt8) : Fun Tryz.prog 182 [.u (.str s), .u (.str p)] (· = .u (.bool (p.isPrefixOf s))) := by
 have h := zlA s p;refine Fun.run Tryz.func182 Tryz.ntmps182 Tryz.results182 rfl (by simp) fun Γ hn => ?_
 repeat' (first
  | (refine zaf rfl ?_; simp)
  | (refine CallP.f2 rfl (h) (by first | simp <;> rfl | fail) ?_; simp)
  | fail)
 (refine Pst.of ?_; simp)
@[local simp] theorem ztq : zlO 8 = .u (.row (signsL.map .str) 0) := by
 simp [zlO, globs, signsL, uOf]
theorem hsl : signsL.length = 11 := rfl
theorem zqp (s : List UInt8) (hs : s ≠ []) (hl : s.length <= 1000000) : Fun Tryz.prog 167 [.u (.str s)] (· = nextD s) := by
 obtain ⟨c, r, rfl⟩ : ∃ c r, s = c :: r := by cases s with | nil => exact absurd rfl hs | cons c r => exact ⟨c, r, rfl⟩
 have h1 := zes c;have h2 := zfb c;have h3 := zfN (c :: r) hl 180 zdA (fun c _ => zoH c) (by simp);have h4 := zfN (c :: r) hl 157 za9 (fun c _ => zfb c) (by simp);have h5 := zmc ((c :: r).take (zcY zdA (c :: r)));have h6 := znn ((c :: r).take (zcY za9 (c :: r))) (by have := zd6 za9 (c :: r); rw [List.length_take]; omega);have l1 : (zcY zdA (c :: r) : Int) <= r.length + 1 := by have := zd6 zdA (c :: r); simp at this; omega
 have l2 : (zcY za9 (c :: r) : Int) <= r.length + 1 := by have := zd6 za9 (c :: r); simp at this; omega
 have l1' : zcY zdA (c :: r) <= r.length + 1 := by omega
 have l2' : zcY za9 (c :: r) <= r.length + 1 := by omega
 unfold nextD zh9;cases c1 : zdq c with
 | true =>
  rw [c1] at h1;cases c3 : zh4 ((c :: r).take (zcY zdA (c :: r))) with
  | true =>
   rw [c3] at h5;refine Fun.run Tryz.func167 Tryz.ntmps167 Tryz.results167 rfl (by simp) fun Γ hn => ?_
   repeat' (first
  | (refine zaf rfl ?_; simp [l1, l1'])
  | ((first | refine CallP.f2 rfl (h1) (by first | simp [l1, l1'] <;> rfl | fail) ?_ | refine CallP.f2 rfl (h3) (by first | simp [l1, l1'] <;> rfl | fail) ?_ | refine CallP.f2 rfl (h5) (by first | simp [l1, l1'] <;> rfl | fail) ?_ | fail); simp [l1, l1'])
  | fail)
   (refine Pst.of ?_; simp)
   simp [c1, c3]
  | false =>
   rw [c3] at h5;refine Fun.run Tryz.func167 Tryz.ntmps167 Tryz.results167 rfl (by simp) fun Γ hn => ?_
   repeat' (first
  | (refine zaf rfl ?_; simp [l1, l1'])
  | ((first | refine CallP.f2 rfl (h1) (by first | simp [l1, l1'] <;> rfl | fail) ?_ | refine CallP.f2 rfl (h3) (by first | simp [l1, l1'] <;> rfl | fail) ?_ | refine CallP.f2 rfl (h5) (by first | simp [l1, l1'] <;> rfl | fail) ?_ | fail); simp [l1, l1'])
  | fail)
   (refine Pst.of ?_; simp)
   simp [c1, c3]
 | false =>
  rw [c1] at h1;cases c2 : za9 c with
  | true =>
   rw [c2] at h2;cases c3 : zgh ((c :: r).take (zcY za9 (c :: r))) with
   | none =>
    rw [c3] at h6;refine Fun.run Tryz.func167 Tryz.ntmps167 Tryz.results167 rfl (by simp) fun Γ hn => ?_
    repeat' (first
  | (refine zaf rfl ?_; simp [l2, l2'])
  | ((first | refine CallP.f2 rfl (h1) (by first | simp [l2, l2'] <;> rfl | fail) ?_ | refine CallP.f2 rfl (h2) (by first | simp [l2, l2'] <;> rfl | fail) ?_ | refine CallP.f2 rfl (h4) (by first | simp [l2, l2'] <;> rfl | fail) ?_ | refine CallP.f2 rfl (h6) (by first | simp [l2, l2'] <;> rfl | fail) ?_ | fail); simp [l2, l2'])
  | fail)
    (refine Pst.of ?_; simp)
    simp [c1, c2, c3]
   | some n =>
    rw [c3] at h6;refine Fun.run Tryz.func167 Tryz.ntmps167 Tryz.results167 rfl (by simp) fun Γ hn => ?_
    repeat' (first
  | (refine zaf rfl ?_; simp [l2, l2'])
  | ((first | refine CallP.f2 rfl (h1) (by first | simp [l2, l2'] <;> rfl | fail) ?_ | refine CallP.f2 rfl (h2) (by first | simp [l2, l2'] <;> rfl | fail) ?_ | refine CallP.f2 rfl (h4) (by first | simp [l2, l2'] <;> rfl | fail) ?_ | refine CallP.f2 rfl (h6) (by first | simp [l2, l2'] <;> rfl | fail) ?_ | fail); simp [l2, l2'])
  | fail)
    (refine Pst.of ?_; simp)
    simp [c1, c2, c3]
  | false =>
   rw [c2] at h2;refine Fun.run Tryz.func167 Tryz.ntmps167 Tryz.results167 rfl (by simp) fun Γ hn => ?_
   repeat' (first
  | (refine zaf rfl ?_; simp [hsl, List.take_of_length_le])
  | ((first | refine CallP.f2 rfl (h1) (by first | simp [hsl, List.take_of_length_le] <;> rfl | fail) ?_ | refine CallP.f2 rfl (h2) (by first | simp [hsl, List.take_of_length_le] <;> rfl | fail) ?_ | fail); simp [hsl, List.take_of_length_le])
  | fail)
   refine zdD (α := { i : Nat // i <= 11 /\ ∀ x ∈ signsL.take i, x.isPrefixOf (c :: r) = false }) [0, 2, 3, 43] (fun i => [(44, .u (.int .i64 i.1))]) (fun i => 11 - i.1) ⟨0, by omega, by simp⟩ ?_ ?_
   ·exact (Wk.zeX (by simp [hn] <;> grind))
   rintro ⟨i, hi, hb⟩;simp;rcases hx : signsL[i]? with _ | x
   ·have hge : signsL.length <= i := by simpa using hx
    obtain rfl : i = 11 := by rw [hsl] at hge; omega
    have hnone : signsL.find? (fun x => x.isPrefixOf (c :: r)) = none := List.find?_eq_none.2 fun x hx => by
     rw [hb x (by rw [List.take_of_length_le (by rw [hsl]; omega)]; exact hx)]; simp
    repeat' (first
  | (refine zaf rfl ?_; simp)
  | fail)
    (refine Pst.of ?_; simp)
    simp [c1, c2, hnone]
   ·have hlt : i < 11 := by have := (List.getElem?_eq_some_iff.1 hx).1; rw [hsl] at this; exact this
    have hlt2 : (i : Int) < 11 := by omega
    have hp := zne (c :: r) x;by_cases hpx : x.isPrefixOf (c :: r) = true
    ·have hfind : signsL.find? (fun x => x.isPrefixOf (c :: r)) = some x := by
      have e : signsL = signsL.take i ++ x :: signsL.drop (i + 1) := by
       obtain ⟨h5, h6⟩ := List.getElem?_eq_some_iff.1 hx;rw [<- h6, List.getElem_cons_drop, List.take_append_drop]
      rw [e, List.find?_append, List.find?_eq_none.2 (fun y hy => by rw [hb y hy]; simp), List.find?_cons, hpx];rfl
     rw [hpx] at hp
     repeat' (first
  | (refine zaf rfl ?_; simp [hx, hsl, hlt2])
  | (refine CallP.f2 rfl (hp) (by first | simp [hx, hsl, hlt2] <;> rfl | fail) ?_; simp [hx, hsl, hlt2])
  | fail)
     (refine Pst.of ?_; simp)
     simp [c1, c2, hfind]
    ·rw [Bool.eq_false_iff.2 hpx] at hp
     repeat' (first
  | (refine zaf rfl ?_; simp [hx, hsl, hlt2])
  | (refine And.intro (by omega) ?_)
  | (refine CallP.f2 rfl (hp) (by first | simp [hx, hsl, hlt2] <;> rfl | fail) ?_; simp [hx, hsl, hlt2])
  | fail)
     refine LoopW.next ⟨i + 1, by omega, fun y hy => ?_⟩ (by simp; omega) ?_
     ·rw [List.take_succ, hx] at hy;rcases List.mem_append.1 hy with h | h
      ·exact hb y h
      ·simp at h; subst h; exact Bool.eq_false_iff.2 hpx
     ·exact (Wk.zeX (by simp [hn] <;> grind))
structure By where
 kind : Int
 period : Int
 grace : Int
 wait : Int
 last : Int
 order : Int
 sld : Bool
 backs : Int
 voices : Int
 jury : Int
 fund : Int
 lets : List Let
 due : Exp
 fine : Exp
 pay : Exp
 cover : Exp
 hold : Exp
 deriving Inhabited
end Go.Proofs.YtkdhmbhbbciedaaGreatDoor
namespace Go.Proofs.YtkdhmbhbbciedaaGreatDoor
open Go Go.VL
mutual
def zfv (s : List UInt8) (b : Exp) : Exp -> Exp
 | .mk op n u t args => if op = 1 /\ t = s then b else .mk op n u t (zrN s b args)
def zrN (s : List UInt8) (b : Exp) : List Exp -> List Exp
 | [] => []
 | e :: l => zfv s b e :: zrN s b l
end
theorem zji (s b) : ∀ l : List Exp, zrN s b l = l.map (zfv s b)
 | [] => by rw [zrN]; rfl
 | e :: l => by rw [zrN, zji s b l]; rfl
theorem zse (s b) (e : Exp) : zfv s b e = if e.op = 1 /\ e.s = s then b else .mk e.op e.n e.unit e.s (e.args.map (zfv s b)) := by
 cases e with | mk op n u t args => rw [zfv, zji]; rfl
theorem zsA (o n u : Int) (t : List UInt8) (l : List Exp) : zcF (.mk o n u t l) = .u (.agg [.int .i64 o, .int .i64 n, .int .i64 u, .str t, .sl (l.map Exp.row)]) := rfl
mutual
def zh6 : Exp -> Bool
 | .mk _ _ _ _ args => decide (args.length <= 1000) && zom args
def zom : List Exp -> Bool
 | [] => true
 | e :: l => zh6 e && zom l
end
theorem zj8 : ∀ l : List Exp, zom l = true ↔ ∀ x ∈ l, zh6 x = true
 | [] => by rw [zom]; simp
 | e :: l => by rw [zom, Bool.and_eq_true, zj8 l]; simp
theorem zj7 (e : Exp) : zh6 e = true ↔ e.args.length <= 1000 /\ ∀ x ∈ e.args, zh6 x = true := by
 cases e with | mk op n u s args => rw [zh6, Bool.and_eq_true, decide_eq_true_eq, zj8]; rfl
section
attribute [local simp] zaY zcB zbz evPure opd uOf zal St.put St.at getK binD binI binS binB nilD aggD zeS zfd lookD lookR zbE rangeS Go.VL.nextD Go.VL.nextS zbJ zfk zfe zeu zb7 mkV zaZ zcH zaL za1 mapEff zdw zek Key.kk shiftI arith unD convD zcP loadD cellsAt fieldAddrD fieldD indexAddrD indexSlD arrAddr indexD sliceD cutD lenD minmaxD nilCheckD buildD fillD zbn zcC zd1 setAll zcx zdZ zbD zeO zbC St.add zaj za6 rowsOf zcI zca zad zac zaa zaQ zcs zaG entry za2 za3 valD zbK zcq zeL zcD zcE zbp zbo zag zaB za0 delAll effD St.effS zb4 zaD zas zb5 zaE zau zbl zat zan zbm zb2 zaW zbj zaJ zbi zah mkD zbd za4 zbb zag zbN D.ids Op.operands Call.operands za5 makeIfD makeFuncD typeAssertD zfc zcL zcM zeY zbG IntKind.bits zbQ zam List.take_of_length_le List.range_succ zci zbx zcj zcd za7 zbq zbs zce zbu zaP zbt zbr zfJ zbw zcg zaH zav zch zaI zax zbv zaw zaq zcm zcn zfH zab frzN frz1 zaO zaN St.frz St.frzS frzS fv zbI zbV zcb zaM zay zao frz zcc zbH zbS zbT zaX St.norm St.lp St.only zaS wkE wkO wkU Ob.under D.under zai zap zck zby zcl h4s zdG zar zaV List.zipIdx_cons List.zipIdx_nil List.map_cons List.map_nil Nat.zero_add
attribute [local irreducible] V G H HD HD2 zaT Eff CallP CallV EndOK Fun Ret FinOK LoopI LoopW EndW HR vs2 RN Cnd H4
end
end Go.Proofs.YtkdhmbhbbciedaaGreatDoor
