/- Texts joined by a program of mine: Ec#p Ed#p My#p Uc Ed Er Et Ee Ya Yb Yc Yd Ye Yf Yg Yh Yi Yj Ud Uf Ug Uh Uo UP Ec Em Mc Md Mh#p Mk#p Uv Mo Me Mf Mg Mh Ef Eg Eh. -/
import Derived.Test.YtepiegcjnaohjaaGreatDoorV3
import Derived.Lib.ItoaNum
set_option linter.all false
set_option maxRecDepth 100000
set_option maxHeartbeats 8000000
namespace Go.Proofs.YtepiegcjnaohjaaGreatDoor
open Go Go.VL
/-- The tokens of a string from a place on. -/
def lexF : Nat → List UInt8 → Nat → Except (Nat × Int) (List Tok)
  | 0, _, _ => .ok []
  | f + 1, s, p =>
    match (s.drop (p + spanL isBlank (s.drop p))) with
    | [] => .ok [⟨0, [], 0, ((p + spanL isBlank (s.drop p) : Nat) : Int)⟩]
    | c :: r => match nextO (c :: r) with
      | .error e => .error (p + spanL isBlank (s.drop p), e)
      | .ok t => match lexF f s (p + spanL isBlank (s.drop p) + t.text.length) with
        | .error x => .error x
        | .ok l => .ok ({ t with pos := ((p + spanL isBlank (s.drop p) : Nat) : Int) } :: l)
def lexL (s : List UInt8) : Except (Nat × Int) (List Tok) := if 2000 < s.length then .error (0, 6) else lexF (s.length + 1) s 0
def lexOut : Except (Nat × Int) (List Tok) → D
  | .ok l => .tup [.u (.sl (l.map fun t => [.int .i64 t.kind, .str t.text, .int .i64 t.n, .int .i64 t.pos])), .u (.int .i64 0), .u (.int .i64 0)]
  | .error (p, e) => .tup [.u (.sl []), .u (.int .i64 p), .u (.int .i64 e)]
def prepE (acc : List Tok) : Except (Nat × Int) (List Tok) → Except (Nat × Int) (List Tok)
  | .ok l => .ok (acc ++ l)
  | .error x => .error x
theorem prepE_nil (x) : prepE [] x = x := by cases x <;> simp [prepE]
theorem spanL_pos {p : UInt8 → Bool} {c : UInt8} {r : List UInt8} (h : p c = true) : 0 < spanL p (c :: r) := by
  unfold spanL; rw [List.takeWhile_cons, if_pos h]; simp
theorem nextO_text {s : List UInt8} {t : Tok} (h : nextO s = .ok t) : 0 < t.text.length ∧ t.text.length ≤ s.length := by
  unfold nextO at h
  split at h
  · cases h
  · rename_i c r
    by_cases c1 : isLetter c = true
    · rw [if_pos c1] at h
      split at h
      · cases h
        have h1 := spanL_pos (p := isWordC) (c := c) (r := r) (by simp [isWordC, c1])
        have h2 := spanL_le isWordC (c :: r)
        simp only [List.length_take]
        omega
      · cases h
    · rw [if_neg c1] at h
      by_cases c2 : isDigit c = true
      · rw [if_pos c2] at h
        split at h
        · cases h
          have h1 := spanL_pos (p := isDigit) (c := c) (r := r) c2
          have h2 := spanL_le isDigit (c :: r)
          simp only [List.length_take]
          omega
        · cases h
      · rw [if_neg c2] at h
        split at h
        · rename_i x hx
          cases h
          have h1 := List.find?_some hx
          have h2 := List.mem_of_find?_eq_some hx
          refine ⟨?_, (List.isPrefixOf_iff_prefix.1 h1).length_le⟩
          simp only [signsL, List.mem_cons, List.not_mem_nil, or_false] at h2
          rcases h2 with h | h | h | h | h | h | h | h | h | h | h <;> subst h <;> simp
        · cases h
def tokR (l : List Tok) : List (List D) := l.map fun t => [.u (.int .i64 t.kind), .u (.str t.text), .u (.int .i64 t.n), .u (.int .i64 t.pos)]
theorem tokR_len (l : List Tok) : (tokR l).length = l.length := by simp [tokR]
theorem tokR_rows (l : List Tok) : rowsD (l.map fun t => [U.int .i64 t.kind, .str t.text, .int .i64 t.n, .int .i64 t.pos]) = tokR l := by simp [rowsD, tokR, Function.comp_def]
theorem tokR_all (l : List Tok) : allU2 (tokR l) = some (l.map fun t => [U.int .i64 t.kind, .str t.text, .int .i64 t.n, .int .i64 t.pos]) := by rw [← tokR_rows]; simp
theorem pure_tokR (l) : pureRows (tokR l) = True := by rw [← tokR_rows]; simp
theorem under_tokR (n : Nat) (l) : (∀ x ∈ tokR l, ∀ y ∈ x, D.under n y = true) ↔ True := by
  refine ⟨fun _ => trivial, fun _ x hx y hy => ?_⟩
  obtain ⟨b, _, rfl⟩ := List.mem_map.1 hx
  simp at hy
  rcases hy with rfl | rfl | rfl | rfl <;> simp [D.under]
end Go.Proofs.YtepiegcjnaohjaaGreatDoor
namespace Go.Proofs.YtepiegcjnaohjaaGreatDoor
open Go Go.VL
abbrev toksU (l : List Tok) : U := .sl (l.map fun t => [.int .i64 t.kind, .str t.text, .int .i64 t.n, .int .i64 t.pos])
abbrev pOb (l : List Tok) (p : Nat) : Ob := .box [.u (toksU l), .u (.int .i64 p)]
abbrev pRow (l : List Tok) (p : Nat) : U := .row [toksU l, .int .i64 p] 0
/-- Tokens as Lex makes them: the end comes last, and nowhere else. -/
structure TokOK (l : List Tok) : Prop where
  fin : ∀ (i : Nat) (t : Tok), l[i]? = some t → t.kind ≠ 0 → i + 1 < l.length
  len : l.length ≤ 1000000
def isB (l : List Tok) (p : Nat) (w : List UInt8) : Bool := match l[p]? with | some t => decide (t.kind ≠ 0) && decide (t.text = w) | none => false
theorem isB_lt {l : List Tok} {p : Nat} {w : List UInt8} (hl : TokOK l) (h : isB l p w = true) : p + 1 < l.length := by
  unfold isB at h
  split at h
  · rename_i t ht
    simp only [Bool.and_eq_true, decide_eq_true_eq] at h
    exact hl.fin p t ht h.1
  · cases h
end Go.Proofs.YtepiegcjnaohjaaGreatDoor
namespace Go.Proofs.YtepiegcjnaohjaaGreatDoor
open Go Go.VL
def inR (l : List Int) : List (List D) := l.map fun x => [.u (.int .i64 x)]
theorem inR_len (l : List Int) : (inR l).length = l.length := by simp [inR]
theorem inR_frz (S : D → Option U) (l : List Int) : (inR l).map (fun r => r.map (frzS S)) = inR l := by simp [inR, frzS]
theorem pure_inR (l) : pureRows (inR l) = True := by
  have : inR l = rowsD (l.map fun x => [U.int .i64 x]) := by simp [rowsD, inR, Function.comp_def]
  rw [this]; simp
theorem under_inR (n : Nat) (l) : (∀ x ∈ inR l, ∀ y ∈ x, D.under n y = true) ↔ True := by
  refine ⟨fun _ => trivial, fun _ x hx y hy => ?_⟩
  obtain ⟨b, _, rfl⟩ := List.mem_map.1 hx
  simp at hy
  subst hy
  simp [D.under]
end Go.Proofs.YtepiegcjnaohjaaGreatDoor
namespace Go.Proofs.YtepiegcjnaohjaaGreatDoor
open Go Go.VL
attribute [local simp] HS hcons hstep evPure opd uOf putOK St.put St.at getK binD binI binS binB nilD aggD eqUs cmpK lookD lookR rangeD rangeS Go.VL.nextD Go.VL.nextS entryD keyD valU keyU lookK mkV lookK_entD updK_entD1 allUE allUE_entD makeMapD mapUpdD mapEff updK valM Key.kk shiftI arith unD convD pickD loadD cellsAt fieldAddrD fieldD indexAddrD indexSlD arrAddr indexD sliceD cutD lenD minmaxD nilCheckD buildD fillD cellsD isOne ones setAll mkAgg allU allocD boxD storeD St.add buildSliceD appendD rowsOf makeD setOb getK_setOb getK_del getK_cons stripL strip guardTmp entry chunks zcells valD argsV argsW argW argU1 argU0 argsU0 argsU1 calleeOf scalarD scalarU delAll effD St.effS RK_seq RK_seq_ret RK_seq_exit RK_blk RK_blk_ret RK_blk_exit RK_loop RK_loop_ret RK_loop_exit RK_done vs_seq vs_block vs_cond vs_region vs_loop vs_draw applyW mkD rdIds lentIds callOf calleeOf freeOp D.ids Op.operands Call.operands isEffOp makeIfD makeFuncD typeAssertD conc concs conc1 uOfV panicD IntKind.bits allU2 List.take_of_length_le List.range_succ
attribute [local irreducible] V G H HD HD2 HD4 HD4h RetX RunK Eff CallP CallV EndOK Fun Ret FinOK LoopI LoopW EndW
def nameB (s : List UInt8) : Bool := wordB s && !words.contains s
set_option maxRecDepth 100000 in
theorem name_fun (s : List UInt8) : Fun Tryz.prog 99 [.u (.str s)] (· = .u (.bool (nameB s))) := by
  have h1 := containsS_fun words s
  have h2 := word_fun s
  have h3 := reserved_fun
  generalize hw : words.contains s = w at h1
  simp only [strs] at h1 h3
  generalize (words.map fun s => [U.str s]) = W at h1 h3
  unfold nameB
  rw [hw]
  clear hw
  generalize wordB s = b at h2 ⊢
  cases b
  all_goals
    (refine Fun.of_body Tryz.func99 rfl (by simp) fun Γ hn => ?_); simp only [entry, List.zipIdx_cons, List.zipIdx_nil, List.map_cons, List.map_nil, Nat.zero_add, Tryz.ntmps99]
    repeat' (first
    | (refine H_cons ?_; simp)
    | (refine H_nil ?_; simp)
    | (refine V_sseq ?_; simp)
    | (refine V_ret ?_; simp only [RunK])
    | (refine CallP.fun_ (h1) (by first | rfl | fail) (by first | assumption | (simp; done) | fail) (by first | (simp; done) | (simp; rfl) | fail) (by first | (simp; done) | fail) (fun d hd => ?_); subst hd; (try simp))
    | (refine CallP.fun_ (h2) (by first | rfl | fail) (by first | assumption | (simp; done) | fail) (by first | (simp; done) | (simp; rfl) | fail) (by first | (simp; done) | fail) (fun d hd => ?_); subst hd; (try simp))
    | (refine CallP.fun_ (h3) (by first | rfl | fail) (by first | assumption | (simp; done) | fail) (by first | (simp; done) | (simp; rfl) | fail) (by first | (simp; done) | fail) (fun d hd => ?_); subst hd; (try simp))
    | fail)
    (refine EndOK.val (.inr rfl) ?_; simp [resD, oneOrTup, pureD, Tryz.results99])
def operandsI (op : Int) : Int := if op = 0 ∨ op = 1 then 0 else if op = 12 then 1 else if op = 13 then 3 else if op < 0 ∨ 14 ≤ op then -1 else 2
theorem operands_fun (op : Int) : Fun Tryz.prog 213 [.u (.int .i64 op)] (· = .u (.int .i64 (operandsI op))) := by
  unfold operandsI
  (refine Fun.of_body Tryz.func213 rfl (by simp) fun Γ hn => ?_); simp only [entry, List.zipIdx_cons, List.zipIdx_nil, List.map_cons, List.map_nil, Nat.zero_add, Tryz.ntmps213]
  repeat' (first
    | (refine H_cons ?_; simp)
    | (refine H_nil ?_; simp)
    | (refine V_sseq ?_; simp)
    | (refine V_scond ?_; simp)
    | (refine V_sblock ?_; simp)
    | (refine V_sregion ?_; simp)
    | (refine V_ret ?_; simp only [RunK])
    | (refine V_skip ?_; simp only [RunK])
    | (refine ⟨?_, by omega⟩)
    | (refine ⟨fun hc => ?_, fun hc => ?_⟩ <;> (try (exfalso; omega)))
    | (intro hc <;> (try (exfalso; omega)))
    | fail)
  all_goals
    (refine EndOK.val (.inr rfl) ?_; simp [resD, oneOrTup, pureD, Tryz.results213])
  all_goals (repeat' split) <;> first | rfl | omega | simp_all
theorem erow_eq : Exp.row = fun e => [.int .i64 e.op, .int .i64 e.n, .int .i64 e.unit, .str e.s, .sl (e.args.map Exp.row)] := funext fun e => e.row_eq
def eagg (e : Exp) : D := .u (.agg [.int .i64 e.op, .int .i64 e.n, .int .i64 e.unit, .str e.s, .sl (e.args.map Exp.row)])
def exps (l : List Exp) : U := .sl (l.map fun e => [.int .i64 e.op, .int .i64 e.n, .int .i64 e.unit, .str e.s, .sl (e.args.map Exp.row)])
theorem exps_eq (l : List Exp) : exps l = .sl (l.map Exp.row) := by rw [exps, ← erow_eq]
theorem indexE_fun (l : List (Exp)) (f : FuncId) (caps : List U) (p : Exp → Bool) (hf : ∀ n ∈ l, Fun Tryz.prog f (eagg n :: caps.map .u) (· = .u (.bool (p n)))) (hcl : callable Tryz.prog f = true)
    (hca : ∀ o, argsW o (caps.map .u) = some (caps.map .u, [])) : Fun Tryz.prog 272 [.u (exps l), .fnc (.func f) (caps.map .u)] (· = .u (.int .i64 (idxP p l 0))) := by
  (refine Fun.of_body Tryz.func272 rfl (by simp) fun Γ hn => ?_); simp only [entry, List.zipIdx_cons, List.zipIdx_nil, List.map_cons, List.map_nil, Nat.zero_add, Tryz.ntmps272]
  simp only [exps]
  refine V_len (x := 0) rfl fun hl => ?_
  simp at hl
  repeat' (first
    | (refine H_cons ?_; simp)
    | (refine H_nil ?_; simp)
    | (refine V_sseq ?_; simp)
    | (refine V_sblock ?_; simp)
    | fail)
  refine V_loopF (α := { i : Nat // i ≤ l.length ∧ ∀ c ∈ l.take i, p c = false }) [0, 1, 7] (fun i => [(8, .u (.int .i64 i.1))]) (fun i => l.length - i.1) ⟨0, by omega, by simp⟩ ?_ ?_
  · exact (Wk.env rfl rfl rfl (by simp [wkE, St.lp, keepE, getK_cons, getK] <;> (try (intros; simp_all; done)) <;> (try (intros; omega)) <;> (try grind)))
  rintro ⟨i, hi, hb⟩
  simp [St.lp, St.only, keepE, getK_cons, getK]
  rcases hx : l[i]? with _ | n
  · have hge : l.length ≤ i := by simpa using hx
    repeat' (first
    | (refine H_cons ?_; simp [hx])
    | (refine H_nil ?_; simp [hx])
    | (refine ⟨by omega, ?_⟩)
    | (refine V_sseq ?_; simp [hx])
    | (refine V_ret ?_; simp only [RunK])
    | (refine V_exit ?_; simp [RunK])
    | (intro hc <;> (try (exfalso; omega)))
    | fail)
    (refine EndOK.val (.inr rfl) ?_; simp [resD, oneOrTup, pureD, Tryz.results272])
    rw [List.take_of_length_le hge] at hb
    exact (idxP_none hb).symm
  · have hlt : i < l.length := (List.getElem?_eq_some_iff.1 hx).1
    have h1 := hf n (List.mem_of_getElem? hx)
    simp only [eagg] at h1
    cases hp : p n
    · rw [hp] at h1
      repeat' (first
    | (refine H_cons ?_; simp [hx, hca])
    | (refine H_nil ?_; simp [hx, hca])
    | (refine ⟨by omega, ?_⟩)
    | (refine V_sseq ?_; simp [hx, hca])
    | (refine V_scond ?_; simp [hx, hca])
    | (refine V_sregion ?_; simp [hx, hca])
    | (refine V_skip ?_; simp only [RunK])
    | (refine ⟨?_, by omega⟩)
    | (intro hc <;> (try (exfalso; omega)))
    | (refine CallP.fun_ (h1) (by first | rfl | fail) (by first | assumption | (simp; done) | fail) (by first | (simp [hx, hca]; done) | (simp [hx, hca]; rfl) | fail) (by first | (simp; done) | fail) (fun d hd => ?_); subst hd; (try simp [hx, hca]))
    | fail)
      refine LoopW.next ⟨i + 1, by omega, take_succ_all hx hb hp⟩ (by simp; omega) ?_
      exact (Wk.env rfl rfl rfl (by simp [wkE, St.lp, keepE, getK_cons, getK] <;> (try (intros; simp_all; done)) <;> (try (intros; omega)) <;> (try grind)))
    · rw [hp] at h1
      repeat' (first
    | (refine H_cons ?_; simp [hx, hca])
    | (refine H_nil ?_; simp [hx, hca])
    | (refine V_sseq ?_; simp [hx, hca])
    | (refine V_scond ?_; simp [hx, hca])
    | (refine V_ret ?_; simp only [RunK])
    | (refine V_skip ?_; simp only [RunK])
    | (refine ⟨?_, by omega⟩)
    | (intro hc <;> (try (exfalso; omega)))
    | (refine CallP.fun_ (h1) (by first | rfl | fail) (by first | assumption | (simp; done) | fail) (by first | (simp [hx, hca]; done) | (simp [hx, hca]; rfl) | fail) (by first | (simp; done) | fail) (fun d hd => ?_); subst hd; (try simp [hx, hca]))
    | fail)
      (refine EndOK.val (.inr rfl) ?_; simp [resD, oneOrTup, pureD, Tryz.results272])
      rw [idxP_at hb hx hp]
      omega
theorem containsE_fun (l : List (Exp)) (f : FuncId) (caps : List U) (p : Exp → Bool) (hf : ∀ n ∈ l, Fun Tryz.prog f (eagg n :: caps.map .u) (· = .u (.bool (p n)))) (hcl : callable Tryz.prog f = true)
    (hca : ∀ o, argsW o (caps.map .u) = some (caps.map .u, [])) (hcb : ∀ o, argsU1 o (caps.map .u) = some (caps, [])) : Fun Tryz.prog 214 [.u (exps l), .fnc (.func f) (caps.map .u)] (· = .u (.bool (l.any p))) := by
  have h1 := indexE_fun l f caps p hf hcl hca
  (refine Fun.of_body Tryz.func214 rfl (by simp) fun Γ hn => ?_); simp only [entry, List.zipIdx_cons, List.zipIdx_nil, List.map_cons, List.map_nil, Nat.zero_add, Tryz.ntmps214]
  simp only [exps] at h1 ⊢
  repeat' (first
    | (refine H_cons ?_; simp [hcb])
    | (refine H_nil ?_; simp [hcb])
    | (refine V_sseq ?_; simp [hcb])
    | (refine V_ret ?_; simp only [RunK])
    | (refine CallP.fun_ (h1) (by first | rfl | fail) (by first | assumption | (simp; done) | fail) (by first | (simp [hcb]; done) | (simp [hcb]; rfl) | fail) (by first | (simp; done) | fail) (fun d hd => ?_); subst hd; (try simp [hcb]))
    | fail)
  (refine EndOK.val (.inr rfl) ?_; simp [resD, oneOrTup, pureD, Tryz.results214])
  have h2 := idxP_any p l 0 (by omega)
  rw [Bool.eq_iff_iff]
  simpa using h2
def numB (e : Exp) : Bool := decide (e.s = []) && decide (0 ≤ e.unit) && decide (e.unit < 5) && decide (0 ≤ e.n) && decide (e.n ≤ if e.unit = 0 then 1 else 1099511627776)
def rightB : Nat → Exp → Bool
  | 0, _ => false
  | d + 1, e => decide ((e.args.length : Int) = operandsI e.op) && (if e.op = 0 then numB e else if e.n ≠ 0 ∨ e.unit ≠ 0 then false else if e.op = 1 then nameB e.s else decide (e.s = []) && !e.args.any (fun x => !rightB d x))
set_option maxRecDepth 100000 in
set_option maxHeartbeats 4000000 in
theorem right_fun : ∀ (d : Nat) (e : Exp), (d : Int) ≤ 100 → Fun Tryz.prog 150 [eagg e, .u (.int .i64 d)] (· = .u (.bool (rightB d e)))
  | 0, e, _ => by
    (refine Fun.of_body Tryz.func150 rfl (by simp) fun Γ hn => ?_); simp only [entry, List.zipIdx_cons, List.zipIdx_nil, List.map_cons, List.map_nil, Nat.zero_add, Tryz.ntmps150]
    simp only [eagg]
    repeat' (first
    | (refine H_cons ?_; simp)
    | (refine HD4_val rfl ?_; simp)
    | (refine H_nil ?_; simp)
    | (refine V_sseq ?_; simp)
    | (refine V_scond ?_; simp)
    | (refine HD4_nil (hC _ (by kernel_rfl)) (hk _ ?_); clear hC hk C k; simp only [RunK])
    | (refine V_drawX rfl (by kernel_rfl) (by first | (simp [hn]; done) | (simp [hn]; omega) | fail) fun C k hC hk => ?_; simp)
    | (refine HD4_guard rfl (by simp) (fun hc => ?_) (fun hc => ?_) <;> (try simp at hc) <;> (try (exfalso; omega)) <;> (try simp))
    | (refine V_ret ?_; simp only [RunK])
    | fail)
    (refine EndOK.val (.inr rfl) ?_; simp [resD, oneOrTup, pureD, Tryz.results150])
    rfl
  | d + 1, e, hd => by
    have hr : ∀ x : Exp, Fun Tryz.prog 215 (eagg x :: [U.row [.int .i64 ((d + 1 : Nat) : Int)] 0].map .u) (· = .u (.bool (!rightB d x))) := fun x => by
      have h1 := right_fun d x (by omega)
      (refine Fun.of_body Tryz.func215 rfl (by simp) fun Γ hn => ?_); simp only [entry, List.zipIdx_cons, List.zipIdx_nil, List.map_cons, List.map_nil, Nat.zero_add, Tryz.ntmps215]
      simp only [eagg] at h1 ⊢
      repeat' (first
    | (refine H_cons ?_; simp)
    | (refine H_nil ?_; simp)
    | (refine ⟨by omega, ?_⟩)
    | (refine V_sseq ?_; simp)
    | (refine V_ret ?_; simp only [RunK])
    | (refine CallP.fun_ (h1) (by first | rfl | fail) (by first | assumption | (simp; done) | fail) (by first | (simp; done) | (simp; rfl) | fail) (by first | (simp; done) | fail) (fun d hd => ?_); subst hd; (try simp))
    | fail)
      (refine EndOK.val (.inr rfl) ?_; simp [resD, oneOrTup, pureD, Tryz.results215])
    have hcon := containsE_fun e.args 215 [U.row [.int .i64 ((d + 1 : Nat) : Int)] 0] (fun x => !rightB d x) (fun x _ => hr x) (by simp) (fun _ => rfl) (fun _ => rfl)
    have hnam := name_fun e.s
    have hopr := operands_fun e.op
    simp only [List.map_cons, List.map_nil] at hcon
    rw [rightB]
    unfold numB
    generalize (e.args.any fun x => !rightB d x) = z at hcon ⊢
    generalize nameB e.s = nm at hnam ⊢
    generalize hop : operandsI e.op = oi at hopr ⊢
    (refine Fun.of_body Tryz.func150 rfl (by simp) fun Γ hn => ?_); simp only [entry, List.zipIdx_cons, List.zipIdx_nil, List.map_cons, List.map_nil, Nat.zero_add, Tryz.ntmps150]
    rw [exps_eq] at hcon
    simp only [eagg]
    by_cases hlen : (e.args.length : Int) = oi
    case neg =>
      repeat' (first
    | (refine H_cons ?_; simp [hlen])
    | (refine HD4_val rfl ?_; simp [hlen])
    | (refine HD4h_val rfl ?_; simp [hlen])
    | (refine H_nil ?_; simp [hlen])
    | (refine V_sseq ?_; simp [hlen])
    | (refine V_scond ?_; simp [hlen])
    | (refine HD4_nil (hC _ (by kernel_rfl)) (hk _ ?_); clear hC hk C k; simp only [RunK])
    | (refine V_drawX rfl (by kernel_rfl) (by first | (simp [hn]; done) | (simp [hn]; omega) | fail) fun C k hC hk => ?_; simp [hlen])
    | (refine HD4_guard rfl (by simp [hlen]) (fun hc => ?_) (fun hc => ?_) <;> (try simp [hlen] at hc) <;> (try (exfalso; omega)) <;> (try simp [hlen]))
    | (refine V_ret ?_; simp only [RunK])
    | (refine CallV.fun_ (hopr) (by first | rfl | fail) (by first | assumption | (simp; done) | fail) (by first | (simp [hlen]; done) | (simp [hlen]; rfl) | fail) (by first | (simp; done) | fail) ?_ <;> (try simp [hlen]))
    | fail)
      (refine EndOK.val (.inr rfl) ?_; simp [resD, oneOrTup, pureD, Tryz.results150])
      try (simp_all; done)
    by_cases h0 : e.op = 0
    case pos =>
      by_cases hu : e.unit = 0
      all_goals
        repeat' (first
    | (refine H_cons ?_; simp [hlen, h0, hu])
    | (refine HD4_val rfl ?_; simp [hlen, h0, hu])
    | (refine HD4h_val rfl ?_; simp [hlen, h0, hu])
    | (refine H_nil ?_; simp [hlen, h0, hu])
    | (refine V_sseq ?_; simp [hlen, h0, hu])
    | (refine V_scond ?_; simp [hlen, h0, hu])
    | (refine HD4_nil (hC _ (by kernel_rfl)) (hk _ ?_); clear hC hk C k; simp only [RunK])
    | (refine V_drawX rfl (by kernel_rfl) (by first | (simp [hn]; done) | (simp [hn]; omega) | fail) fun C k hC hk => ?_; simp [hlen, h0, hu])
    | (refine HD4_guard rfl (by simp [hlen, h0, hu]) (fun hc => ?_) (fun hc => ?_) <;> (try simp [hlen, h0, hu] at hc) <;> (try (exfalso; omega)) <;> (try simp [hlen, h0, hu]))
    | (refine V_sregion ?_; simp [hlen, h0, hu])
    | (refine V_ret ?_; simp only [RunK])
    | (refine V_skip ?_; simp only [RunK])
    | (refine ⟨fun hc => ?_, fun hc => ?_⟩ <;> (try (exfalso; omega)))
    | (refine CallV.fun_ (hopr) (by first | rfl | fail) (by first | assumption | (simp; done) | fail) (by first | (simp [hlen, h0, hu]; done) | (simp [hlen, h0, hu]; rfl) | fail) (by first | (simp; done) | fail) ?_ <;> (try simp [hlen, h0, hu]))
    | fail)
        all_goals
          (refine EndOK.val (.inr rfl) ?_; simp [resD, oneOrTup, pureD, Tryz.results150])
      all_goals clear hr hopr hcon hnam
      all_goals grind
    by_cases hnu : e.n ≠ 0 ∨ e.unit ≠ 0
    case pos =>
      repeat' (first
    | (refine H_cons ?_; simp [hlen, h0])
    | (refine HD4_val rfl ?_; simp [hlen, h0])
    | (refine HD4h_val rfl ?_; simp [hlen, h0])
    | (refine H_nil ?_; simp [hlen, h0])
    | (refine V_sseq ?_; simp [hlen, h0])
    | (refine V_scond ?_; simp [hlen, h0])
    | (refine HD4_nil (hC _ (by kernel_rfl)) (hk _ ?_); clear hC hk C k; simp only [RunK])
    | (refine V_drawX rfl (by kernel_rfl) (by first | (simp [hn]; done) | (simp [hn]; omega) | fail) fun C k hC hk => ?_; simp [hlen, h0])
    | (refine HD4_guard rfl (by simp [hlen, h0]) (fun hc => ?_) (fun hc => ?_) <;> (try simp [hlen, h0] at hc) <;> (try (exfalso; omega)) <;> (try simp [hlen, h0]))
    | (refine V_ret ?_; simp only [RunK])
    | (refine V_skip ?_; simp only [RunK])
    | (refine ⟨?_, by omega⟩)
    | (refine ⟨fun hc => ?_, fun hc => ?_⟩ <;> (try (exfalso; omega)))
    | (intro hc <;> (try (exfalso; omega)))
    | (refine CallV.fun_ (hopr) (by first | rfl | fail) (by first | assumption | (simp; done) | fail) (by first | (simp [hlen, h0]; done) | (simp [hlen, h0]; rfl) | fail) (by first | (simp; done) | fail) ?_ <;> (try simp [hlen, h0]))
    | fail)
      all_goals
        (refine EndOK.val (.inr rfl) ?_; simp [resD, oneOrTup, pureD, Tryz.results150])
      all_goals clear hr hopr hcon hnam
      all_goals grind
    by_cases h1 : e.op = 1
    case pos =>
      repeat' (first
    | (refine H_cons ?_; simp [hlen, h0, h1])
    | (refine HD4_val rfl ?_; simp [hlen, h0, h1])
    | (refine HD4h_val rfl ?_; simp [hlen, h0, h1])
    | (refine H_nil ?_; simp [hlen, h0, h1])
    | (refine ⟨by omega, ?_⟩)
    | (refine V_sseq ?_; simp [hlen, h0, h1])
    | (refine V_scond ?_; simp [hlen, h0, h1])
    | (refine HD4_nil (hC _ (by kernel_rfl)) (hk _ ?_); clear hC hk C k; simp only [RunK])
    | (refine V_drawX rfl (by kernel_rfl) (by first | (simp [hn]; done) | (simp [hn]; omega) | fail) fun C k hC hk => ?_; simp [hlen, h0, h1])
    | (refine HD4_guard rfl (by simp [hlen, h0, h1]) (fun hc => ?_) (fun hc => ?_) <;> (try simp [hlen, h0, h1] at hc) <;> (try (exfalso; omega)) <;> (try simp [hlen, h0, h1]))
    | (refine V_ret ?_; simp only [RunK])
    | (refine V_skip ?_; simp only [RunK])
    | (refine ⟨?_, by omega⟩)
    | (intro hc <;> (try (exfalso; omega)))
    | (refine CallV.fun_ (hopr) (by first | rfl | fail) (by first | assumption | (simp; done) | fail) (by first | (simp [hlen, h0, h1]; done) | (simp [hlen, h0, h1]; rfl) | fail) (by first | (simp; done) | fail) ?_ <;> (try simp [hlen, h0, h1]))
    | (refine CallP.fun_ (hnam) (by first | rfl | fail) (by first | assumption | (simp; done) | fail) (by first | (simp [hlen, h0, h1]; done) | (simp [hlen, h0, h1]; rfl) | fail) (by first | (simp; done) | fail) (fun d hd => ?_); subst hd; (try simp [hlen, h0, h1]))
    | fail)
      all_goals
        (refine EndOK.val (.inr rfl) ?_; simp [resD, oneOrTup, pureD, Tryz.results150])
      all_goals clear hr hopr hcon hnam
      all_goals grind
    by_cases hs : e.s = []
    all_goals
      repeat' (first
    | (refine H_cons ?_; simp [hlen, h0, h1, hs])
    | (refine HD4_val rfl ?_; simp [hlen, h0, h1, hs])
    | (refine HD4h_val rfl ?_; simp [hlen, h0, h1, hs])
    | (refine H_nil ?_; simp [hlen, h0, h1, hs])
    | (refine ⟨by omega, ?_⟩)
    | (refine V_sseq ?_; simp [hlen, h0, h1, hs])
    | (refine V_scond ?_; simp [hlen, h0, h1, hs])
    | (refine HD4_nil (hC _ (by kernel_rfl)) (hk _ ?_); clear hC hk C k; simp only [RunK])
    | (refine V_drawX rfl (by kernel_rfl) (by first | (simp [hn]; done) | (simp [hn]; omega) | fail) fun C k hC hk => ?_; simp [hlen, h0, h1, hs])
    | (refine HD4_guard rfl (by simp [hlen, h0, h1, hs]) (fun hc => ?_) (fun hc => ?_) <;> (try simp [hlen, h0, h1, hs] at hc) <;> (try (exfalso; omega)) <;> (try simp [hlen, h0, h1, hs]))
    | (refine V_ret ?_; simp only [RunK])
    | (refine V_skip ?_; simp only [RunK])
    | (refine ⟨?_, by omega⟩)
    | (intro hc <;> (try (exfalso; omega)))
    | (refine CallV.fun_ (hopr) (by first | rfl | fail) (by first | assumption | (simp; done) | fail) (by first | (simp [hlen, h0, h1, hs]; done) | (simp [hlen, h0, h1, hs]; rfl) | fail) (by first | (simp; done) | fail) ?_ <;> (try simp [hlen, h0, h1, hs]))
    | (refine CallP.fun_ (hcon) (by first | rfl | fail) (by first | assumption | (simp; done) | fail) (by first | (simp [hlen, h0, h1, hs]; done) | (simp [hlen, h0, h1, hs]; rfl) | fail) (by first | (simp; done) | fail) (fun d hd => ?_); subst hd; (try simp [hlen, h0, h1, hs]))
    | fail)
      all_goals
        (refine EndOK.val (.inr rfl) ?_; simp [resD, oneOrTup, pureD, Tryz.results150])
    all_goals clear hr hopr hcon hnam
    all_goals grind
theorem rightExp_fun (e : Exp) : Fun Tryz.prog 89 [eagg e] (· = .u (.bool (rightB 12 e))) := by
  have h1 := right_fun 12 e (by omega)
  (refine Fun.of_body Tryz.func89 rfl (by simp) fun Γ hn => ?_); simp only [entry, List.zipIdx_cons, List.zipIdx_nil, List.map_cons, List.map_nil, Nat.zero_add, Tryz.ntmps89]
  simp only [eagg] at h1 ⊢
  repeat' (first
    | (refine H_cons ?_; simp)
    | (refine H_nil ?_; simp)
    | (refine V_sseq ?_; simp)
    | (refine V_ret ?_; simp only [RunK])
    | (refine CallP.fun_ (h1) (by first | rfl | fail) (by first | assumption | (simp; done) | fail) (by first | (simp; done) | (simp; rfl) | fail) (by first | (simp; done) | fail) (fun d hd => ?_); subst hd; (try simp))
    | fail)
  (refine EndOK.val (.inr rfl) ?_; simp [resD, oneOrTup, pureD, Tryz.results89])

theorem pnext_fun (l : List Tok) (p : Nat) (t : Tok) (hp : l[p]? = some t) (hl : l.length ≤ 1000000) : Fun Tryz.prog 127 [.u (pRow l p)] (· = .u (.agg [.int .i64 t.kind, .str t.text, .int .i64 t.n, .int .i64 t.pos])) := by
  have hlt := (List.getElem?_eq_some_iff.1 hp).1
  unfold pRow toksU
  (refine Fun.of_body Tryz.func127 rfl (by simp) fun Γ hn => ?_); simp only [entry, List.zipIdx_cons, List.zipIdx_nil, List.map_cons, List.map_nil, Nat.zero_add, Tryz.ntmps127]
  repeat' (first
    | (refine H_cons ?_; simp [hp])
    | (refine HD4_val rfl ?_; simp [hp])
    | (refine HD4_chg rfl ?_; simp [hp])
    | (refine H_nil ?_; simp [hp])
    | (refine V_sseq ?_; simp [hp])
    | (refine HD4_nil (hC _ (by kernel_rfl)) (hk _ ?_); clear hC hk C k; simp only [RunK])
    | (refine V_drawX rfl (by kernel_rfl) (by first | (simp [hn]; done) | (simp [hn]; omega) | fail) fun C k hC hk => ?_; simp [hp])
    | (refine V_ret ?_; simp only [RunK])
    | fail)
  (refine EndOK.val (.inr rfl) ?_; simp [resD, oneOrTup, pureD, Tryz.results127])
theorem is_fun (l : List Tok) (p : Nat) (w : List UInt8) (hp : p < l.length) (hl : l.length ≤ 1000000) : Fun Tryz.prog 124 [.u (pRow l p), .u (.str w)] (· = .u (.bool (isB l p w))) := by
  obtain ⟨t, ht⟩ : ∃ t, l[p]? = some t := ⟨_, List.getElem?_eq_getElem hp⟩
  have hnx := pnext_fun l p t ht hl
  unfold isB
  rw [ht]
  unfold pRow toksU at *
  by_cases h1 : t.kind = 0
  · (refine Fun.of_body Tryz.func124 rfl (by simp) fun Γ hn => ?_); simp only [entry, List.zipIdx_cons, List.zipIdx_nil, List.map_cons, List.map_nil, Nat.zero_add, Tryz.ntmps124]
    repeat' (first
    | (refine H_cons ?_; simp [h1])
    | (refine H_nil ?_; simp [h1])
    | (refine V_sseq ?_; simp [h1])
    | (refine V_ret ?_; simp only [RunK])
    | (refine CallP.fun_ (hnx) (by first | rfl | fail) (by first | assumption | (simp; done) | fail) (by first | (simp [h1]; done) | (simp [h1]; rfl) | fail) (by first | (simp; done) | fail) (fun d hd => ?_); subst hd; (try simp [h1]))
    | fail)
    all_goals
      (refine EndOK.val (.inr rfl) ?_; simp [resD, oneOrTup, pureD, Tryz.results124])
    all_goals simp [h1]
  · (refine Fun.of_body Tryz.func124 rfl (by simp) fun Γ hn => ?_); simp only [entry, List.zipIdx_cons, List.zipIdx_nil, List.map_cons, List.map_nil, Nat.zero_add, Tryz.ntmps124]
    repeat' (first
    | (refine H_cons ?_; simp [h1])
    | (refine H_nil ?_; simp [h1])
    | (refine V_sseq ?_; simp [h1])
    | (refine V_ret ?_; simp only [RunK])
    | (refine CallP.fun_ (hnx) (by first | rfl | fail) (by first | assumption | (simp; done) | fail) (by first | (simp [h1]; done) | (simp [h1]; rfl) | fail) (by first | (simp; done) | fail) (fun d hd => ?_); subst hd; (try simp [h1]))
    | fail)
    all_goals
      (refine EndOK.val (.inr rfl) ?_; simp [resD, oneOrTup, pureD, Tryz.results124])
    all_goals simp [h1]
theorem has_ret (l : List Tok) (p : Nat) (w : List UInt8) (i nx : Nat) (hi : i < nx) (hp : p < l.length) (hl : l.length ≤ 1000000) :
    RetX Tryz.prog 200 [.ptr i 0, .u (.str w)] [(i, pOb l p)] nx (fun r o n => r = .val (.u (.bool (isB l p w))) ∧ o = [(i, pOb l (if isB l p w = true then p + 1 else p))] ∧ n = nx) := by
  have h1 := is_fun l p w hp hl
  unfold pOb pRow toksU at *
  cases hb : isB l p w with
  | false =>
    rw [hb] at h1
    (refine RetX.of_bodyW Tryz.func200 rfl (by simp) fun Γ hn hpan => ?_); simp only [entry, List.zipIdx_cons, List.zipIdx_nil, List.map_cons, List.map_nil, Nat.zero_add, Tryz.ntmps200]
    repeat' (first
    | (refine H_cons ?_; simp)
    | (refine H_nil ?_; simp)
    | (refine V_sseq ?_; simp)
    | (refine V_scond ?_; simp)
    | (refine V_ret ?_; simp only [RunK])
    | (refine CallP.fun_ (h1) (by first | rfl | fail) (by first | assumption | (simp; done) | fail) (by first | (simp; done) | (simp; rfl) | fail) (by first | (simp; done) | fail) (fun d hd => ?_); subst hd; (try simp))
    | fail)
    (refine EndW.here ?_; (first | (refine EndOK.fin (.inr rfl) ?_) | (refine EndOK.fin (.inl rfl) ?_)); simp [resD, oneOrTup, Tryz.results200]; refine FinOK.here (by simp) ?_; try simp)
  | true =>
    rw [hb] at h1
    (refine RetX.of_bodyW Tryz.func200 rfl (by simp) fun Γ hn hpan => ?_); simp only [entry, List.zipIdx_cons, List.zipIdx_nil, List.map_cons, List.map_nil, Nat.zero_add, Tryz.ntmps200]
    repeat' (first
    | (refine H_cons ?_; simp)
    | (refine H_nil ?_; simp)
    | (refine ⟨by omega, ?_⟩)
    | (refine V_sseq ?_; simp)
    | (refine V_scond ?_; simp)
    | (refine V_ret ?_; simp only [RunK])
    | (refine V_skip ?_; simp only [RunK])
    | (refine CallP.fun_ (h1) (by first | rfl | fail) (by first | assumption | (simp; done) | fail) (by first | (simp; done) | (simp; rfl) | fail) (by first | (simp; done) | fail) (fun d hd => ?_); subst hd; (try simp))
    | fail)
    (refine EndW.here ?_; (first | (refine EndOK.fin (.inr rfl) ?_) | (refine EndOK.fin (.inl rfl) ?_)); simp [resD, oneOrTup, Tryz.results200]; refine FinOK.here (by simp) ?_; try simp)
/-- The panic of a stop. -/
def chP (pos e : Int) : List PanicEntry := [{ v := .iface 194 (.agg #[.int .i64 pos, .int .i64 e]), recovered := false }]
def isP (l : List Tok) (ob : Ob) : Prop := ∃ q : Nat, ob = pOb l q
theorem check_ok (l : List Tok) (p : Nat) (e : Int) (i nx : Nat) (hi : i < nx) :
    RetX Tryz.prog 123 [.ptr i 0, .u (.bool true), .u (.int .i64 e)] [(i, pOb l p)] nx (fun r o n => r = .val (.tup []) ∧ o = [(i, pOb l p)] ∧ n = nx) := by
  (refine RetX.of_bodyW Tryz.func123 rfl (by simp) fun Γ hn hpan => ?_); simp only [entry, List.zipIdx_cons, List.zipIdx_nil, List.map_cons, List.map_nil, Nat.zero_add, Tryz.ntmps123]
  repeat' (first
    | (refine H_cons ?_; simp)
    | (refine H_nil ?_; simp)
    | (refine V_sseq ?_; simp)
    | (refine V_scond ?_; simp)
    | (refine V_skip ?_; simp only [RunK])
    | fail)
  (refine EndW.here ?_; (first | (refine EndOK.fin (.inr rfl) ?_) | (refine EndOK.fin (.inl rfl) ?_)); simp [resD, oneOrTup, Tryz.results123]; refine FinOK.here (by simp) ?_; try simp)
theorem check_pan (l : List Tok) (p : Nat) (t : Tok) (e : Int) (i nx : Nat) (hi : i < nx) (hp : l[p]? = some t) (hl : l.length ≤ 1000000) :
    RetX Tryz.prog 123 [.ptr i 0, .u (.bool false), .u (.int .i64 e)] [(i, pOb l p)] nx (fun r o n => r = .pan (chP t.pos e) ∧ (∃ ob', isP l ob' ∧ o = [(i, ob')]) ∧ n = nx) := by
  have h1 := pnext_fun l p t hp hl
  (refine RetX.of_bodyW Tryz.func123 rfl (by simp) fun Γ hn hpan => ?_); simp only [entry, List.zipIdx_cons, List.zipIdx_nil, List.map_cons, List.map_nil, Nat.zero_add, Tryz.ntmps123]
  repeat' (first
    | (refine H_cons ?_; simp)
    | (refine H_nil ?_; simp)
    | (refine V_sseq ?_; simp)
    | (refine V_scond ?_; simp)
    | (refine V_sregion ?_; simp)
    | (refine CallP.fun_ (h1) (by first | rfl | fail) (by first | assumption | (simp; done) | fail) (by first | (simp; done) | (simp; rfl) | fail) (by first | (simp; done) | fail) (fun d hd => ?_); subst hd; (try simp))
    | fail)
  all_goals
    (refine hpan _ _ ⟨{ n := _, env := [], obs := [(i, pOb l p)], next := nx }, (Wk.cut rfl (by simp [hn]) (by simp [wkO, getK_cons, getK, getK_append, getK_del, Ob.under, D.under, under_rowsD, under_entD, hi]) (by simp [wkU, keepE, getK_cons, getK, D.under, hi]) (by simp [wkE, keepE, getK_cons, getK, hi])), by simp [hn], ?_⟩; try simp)
    all_goals exact ⟨rfl, p, rfl⟩
inductive PR (α : Type) where
  | ok (a : α) (p : Nat)
  | stop (pos e : Int)
def posAt (l : List Tok) (p : Nat) : Int := match l[p]? with | some t => t.pos | none => 0
def wantP (l : List Tok) : Nat → List (List UInt8) → PR Unit
  | p, [] => .ok () p
  | p, w :: ws => if isB l p w = true then wantP l (p + 1) ws else .stop (posAt l p) 12
def PPost {α : Type} (l : List Tok) (i nx : Nat) (val : α → D) : PR α → Out → List (Nat × Ob) → Nat → Prop
  | .ok a q, o, obs, n => o = .val (val a) ∧ obs = [(i, pOb l q)] ∧ n = nx
  | .stop pos e, o, obs, n => o = .pan (chP pos e) ∧ (∃ ob', isP l ob' ∧ obs = [(i, ob')]) ∧ n = nx
theorem want_ret (l : List Tok) (p : Nat) (ws : List (List UInt8)) (i nx : Nat) (hi : i < nx) (hp : p < l.length) (hl : TokOK l) (hw : ws.length ≤ 100) :
    RetX Tryz.prog 129 [.ptr i 0, .u (.sl (ws.map fun w => [.str w]))] [(i, pOb l p)] nx (PPost l i nx (fun _ => .tup []) (wantP l p ws)) := by
  (refine RetX.of_bodyW Tryz.func129 rfl (by simp) fun Γ hn hpan => ?_); simp only [entry, List.zipIdx_cons, List.zipIdx_nil, List.map_cons, List.map_nil, Nat.zero_add, Tryz.ntmps129]
  repeat' (first
    | (refine H_cons ?_; simp)
    | (refine H_nil ?_; simp)
    | (refine V_sseq ?_; simp)
    | (refine V_sblock ?_; simp)
    | fail)
  refine V_loopO (α := { x : Nat × Nat // x.1 ≤ ws.length ∧ x.2 < l.length ∧ wantP l p ws = wantP l x.2 (ws.drop x.1) }) [0, 6, 7] (fun x => [(8, .u (.int .i64 x.1.1))]) (fun x => [(i, pOb l x.1.2)]) nx (fun x => ws.length - x.1.1) ⟨(0, p), by simp, hp, by simp⟩ ?_ ?_
  · exact (Wk.cut rfl (by simp [hn, St.lp]) (by simp [wkO, St.lp, getK_cons, getK, Ob.under, D.under, under_rowsD, under_entD, hi]) (by simp [wkU, St.lp, keepE, getK_cons, getK, D.under, hi]) (by simp [wkE, St.lp, keepE, getK_cons, getK, hi] <;> (try (intros; simp_all; done)) <;> (try (intros; omega)) <;> (try grind)))
  rintro ⟨⟨k, q⟩, h1, h2, h3⟩
  simp only at h1 h2 h3
  simp [St.lp, St.only, keepE, getK_cons, getK]
  rcases hx : ws[k]? with _ | w
  · have hge : ws.length ≤ k := by simpa using hx
    obtain rfl : k = ws.length := by omega
    rw [List.drop_length, wantP] at h3
    repeat' (first
    | (refine H_cons ?_; simp [hx])
    | (refine H_nil ?_; simp [hx])
    | (refine V_sseq ?_; simp [hx])
    | (refine V_exit ?_; simp [RunK])
    | fail)
    rw [h3]
    (refine EndW.here ?_; (first | (refine EndOK.fin (.inr rfl) ?_) | (refine EndOK.fin (.inl rfl) ?_)); simp [resD, oneOrTup, Tryz.results129]; refine FinOK.here (by simp) ?_; try simp)
    simp [PPost]
  · have hlt : k < ws.length := (List.getElem?_eq_some_iff.1 hx).1
    have hd : ws.drop k = w :: ws.drop (k + 1) := by
      obtain ⟨h5, h6⟩ := List.getElem?_eq_some_iff.1 hx
      rw [← h6, List.getElem_cons_drop]
    rw [hd, wantP] at h3
    have hh := has_ret l q w i nx hi h2 hl.len
    by_cases hb : isB l q w = true
    · rw [if_pos hb] at h3
      rw [hb, if_pos rfl] at hh
      have hq := isB_lt hl hb
      have hck := check_ok l (q + 1) 12 i nx hi
      repeat' (first
    | (refine H_cons ?_; simp [hx])
    | (refine H_nil ?_; simp [hx])
    | (refine ⟨by omega, ?_⟩)
    | (refine V_sseq ?_; simp [hx])
    | (refine V_sregion ?_; simp [hx])
    | (refine V_skip ?_; simp only [RunK])
    | (refine ⟨?_, by omega⟩)
    | (intro hc <;> (try (exfalso; omega)))
    | (refine CallP.ok1 (hh) (by first | (simp [hx, getK_cons, getK, getK_append, getK_del]; done) | fail) (by rfl) (by first | assumption | (simp; done) | fail) (by rfl) (by simp) ?_; (try simp [hx]))
    | (refine CallP.ok1 (hck) (by first | (simp [hx, getK_cons, getK, getK_append, getK_del]; done) | fail) (by rfl) (by first | assumption | (simp; done) | fail) (by rfl) (by simp) ?_; (try simp [hx]))
    | fail)
      refine LoopW.next ⟨(k + 1, q + 1), by omega, hq, h3⟩ (by simp; omega) ?_
      exact (Wk.cut rfl (by simp [hn, St.lp]) (by simp [wkO, St.lp, getK_cons, getK, Ob.under, D.under, under_rowsD, under_entD, hi, getK_append, getK_del, getK_cons, getK]) (by simp [wkU, St.lp, keepE, getK_cons, getK, D.under, hi, getK_append, getK_del, getK_cons, getK]) (by simp [wkE, St.lp, keepE, getK_cons, getK, hi, getK_append, getK_del, getK_cons, getK] <;> (try (intros; simp_all; done)) <;> (try (intros; omega)) <;> (try grind)))
    · have hb2 : isB l q w = false := by simpa using hb
      rw [if_neg hb] at h3
      rw [hb2, if_neg (by simp)] at hh
      obtain ⟨t, ht⟩ : ∃ t, l[q]? = some t := ⟨_, List.getElem?_eq_getElem h2⟩
      have hck := check_pan l q t 12 i nx hi ht hl.len
      repeat' (first
    | (refine H_cons ?_; simp [hx])
    | (refine H_nil ?_; simp [hx])
    | (refine V_sseq ?_; simp [hx])
    | (refine V_sregion ?_; simp [hx])
    | (refine V_skip ?_; simp only [RunK])
    | (refine ⟨?_, by omega⟩)
    | (intro hc <;> (try (exfalso; omega)))
    | (refine CallP.ok1 (hh) (by first | (simp [hx, getK_cons, getK, getK_append, getK_del]; done) | fail) (by rfl) (by first | assumption | (simp; done) | fail) (by rfl) (by simp) ?_; (try simp [hx]))
    | (refine CallP.pan1 (hck) (by first | (simp [hx, getK_cons, getK, getK_append, getK_del]; done) | fail) (by rfl) (by first | assumption | (simp; done) | fail) (by rfl) (by simp) ?_; rintro ob' ⟨q', rfl⟩; refine ⟨_, Wk.refl _, ?_⟩)
    | fail)
      rw [h3] at hpan
      (refine hpan _ _ ⟨{ n := _, env := [], obs := [(i, pOb l q')], next := nx }, (Wk.cut rfl (by simp [hn]) (by simp [wkO, getK_cons, getK, getK_append, getK_del, Ob.under, D.under, under_rowsD, under_entD, hi, getK_append, getK_del, getK_cons, getK]) (by simp [wkU, keepE, getK_cons, getK, D.under, hi, getK_append, getK_del, getK_cons, getK]) (by simp [wkE, keepE, getK_cons, getK, hi, getK_append, getK_del, getK_cons, getK])), by simp [hn], ?_⟩; try simp)
      all_goals exact ⟨by simp [posAt, ht], ⟨_, ⟨q', rfl⟩, rfl⟩, rfl⟩



theorem nextO_err {c : UInt8} {r : List UInt8} {e : Int} (h : nextO (c :: r) = .error e) : e ≠ 0 := by
  unfold nextO at h
  simp only at h
  split at h
  · split at h <;> cases h
    omega
  · split at h
    · split at h <;> cases h
      omega
    · split at h <;> cases h
      omega
theorem lexF_err {s : List UInt8} : ∀ (f p : Nat) (q : Nat) (e : Int), lexF f s p = .error (q, e) → p ≤ s.length → e ≠ 0 ∧ q ≤ s.length
  | 0, p, q, e, h, _ => by simp [lexF] at h
  | f + 1, p, q, e, h, h3 => by
    rw [lexF] at h
    have hle := spanL_le isBlank (s.drop p)
    rw [List.length_drop] at hle
    split at h
    · cases h
    · rename_i c r hd
      have hdl : (s.drop (p + spanL isBlank (s.drop p))).length = r.length + 1 := by rw [hd]; rfl
      rw [List.length_drop] at hdl
      split at h
      · rename_i ht
        cases h
        exact ⟨nextO_err ht, by omega⟩
      · rename_i t ht
        obtain ⟨ht1, ht2⟩ := nextO_text ht
        simp only [List.length_cons] at ht2
        split at h
        · rename_i x hx
          cases h
          exact lexF_err f _ q e hx (by omega)
        · cases h
theorem lexL_err {s : List UInt8} {q : Nat} {e : Int} (h : lexL s = .error (q, e)) : e ≠ 0 ∧ q ≤ s.length := by
  unfold lexL at h
  split at h
  · cases h; exact ⟨by decide, by omega⟩
  · exact lexF_err _ _ _ _ h (by omega)
end Go.Proofs.YtepiegcjnaohjaaGreatDoor
namespace Go.Proofs.YtepiegcjnaohjaaGreatDoor
open Go Go.VL
def PR.bind {α β : Type} : PR α → (α → Nat → PR β) → PR β
  | .ok a p, f => f a p
  | .stop pos e, _ => .stop pos e
theorem PR.bind_ok {α β : Type} {a : α} {p : Nat} {f : α → Nat → PR β} : (PR.ok a p).bind f = f a p := rfl
theorem PR.bind_stop {α β : Type} {pos e : Int} {f : α → Nat → PR β} : (PR.stop pos e : PR α).bind f = .stop pos e := rfl
theorem PR.bind_out {α β : Type} {r : PR α} {f : α → Nat → PR β} {b : β} {q : Nat} (h : r.bind f = .ok b q) : ∃ a p, r = .ok a p ∧ f a p = .ok b q := by
  cases r with
  | ok a p => exact ⟨a, p, rfl, h⟩
  | stop => cases h
theorem PPost.at_ok {α : Type} {l i nx} {val : α → D} {r : PR α} {a : α} {q : Nat} (h : r = .ok a q) {d : D} (hd : d = val a) {o : List (Nat × Ob)} (ho : o = [(i, pOb l q)]) : PPost l i nx val r (.val d) o nx := by
  subst h; subst hd; subst ho; exact ⟨rfl, rfl, rfl⟩
theorem PPost.at_stop {α : Type} {l i nx} {val : α → D} {r : PR α} {pos e : Int} {q : Nat} (h : r = .stop pos e) : PPost l i nx val r (.pan (chP pos e)) [(i, pOb l q)] nx := by
  subst h; exact ⟨rfl, ⟨_, ⟨q, rfl⟩, rfl⟩, rfl⟩
structure Opr where
  text : List UInt8
  op : Int
  form : Int
def oprs : List Opr := [⟨[111, 114], 11, 1⟩, ⟨[97, 110, 100], 10, 2⟩, ⟨[61, 61], 9, 4⟩, ⟨[60], 8, 4⟩, ⟨[43], 2, 5⟩, ⟨[45], 3, 5⟩, ⟨[42], 4, 6⟩, ⟨[47], 5, 6⟩]
def oprAt (l : List Tok) (p : Nat) : Option Opr := oprs.find? fun o => isB l p o.text
def unitP (l : List Tok) (p : Nat) : PR Int :=
  if isB l p [99, 111, 105, 110, 115] = true then .ok 3 (p + 1)
  else if isB l p [100, 97, 121, 115] = true then .ok 2 (p + 1)
  else if isB l p [112, 101, 114] = true then (wantP l (p + 1) [[109, 105, 108, 108, 101]]).bind fun _ q => .ok 4 q
  else .ok 1 p
mutual
def expP (l : List Tok) : Nat → Nat → Int → PR Exp
  | 0, _, _ => .stop 0 0
  | f + 1, p, form => (prefixP l f p form).bind fun e q => loopP l f form e.1 e.2 q
def loopP (l : List Tok) : Nat → Int → Exp → Int → Nat → PR Exp
  | 0, _, _, _, _ => .stop 0 0
  | f + 1, form, e, own, q => match oprAt l q with
    | none => .ok e q
    | some x => if x.form < form ∨ own < x.form ∨ (own = 4 ∧ x.form = 4) then .ok e q
      else (expP l f (q + 1) (x.form + 1)).bind fun e2 r => loopP l f form (.mk x.op 0 0 [] [e, e2]) x.form r
def prefixP (l : List Tok) : Nat → Nat → Int → PR (Exp × Int)
  | 0, _, _ => .stop 0 0
  | f + 1, p, form =>
    if form = 0 ∧ isB l p [105, 102] = true then
      (expP l f (p + 1) 0).bind fun a q1 => (wantP l q1 [[116, 104, 101, 110]]).bind fun _ q2 => (expP l f q2 0).bind fun b q3 =>
      (wantP l q3 [[101, 108, 115, 101]]).bind fun _ q4 => (expP l f q4 0).bind fun c q5 => .ok (.mk 13 0 0 [] [a, b, c], 0) q5
    else if form ≤ 3 ∧ isB l p [110, 111, 116] = true then (expP l f (p + 1) 3).bind fun a q => .ok (.mk 12 0 0 [] [a], 3) q
    else (primaryP l f p).bind fun e q => .ok (e, 7) q
def primaryP (l : List Tok) : Nat → Nat → PR Exp
  | 0, _ => .stop 0 0
  | f + 1, p => match l[p]? with
    | none => .stop 0 0
    | some t =>
      if t.kind = 2 then (unitP l (p + 1)).bind fun u q => .ok (.mk 0 t.n u [] []) q
      else if isB l p [116, 114, 117, 101] = true then .ok (.mk 0 1 0 [] []) (p + 1)
      else if isB l p [102, 97, 108, 115, 101] = true then .ok (.mk 0 0 0 [] []) (p + 1)
      else if isB l p [109, 105, 110] = true ∨ isB l p [109, 97, 120] = true then
        (wantP l (p + 1) [[40]]).bind fun _ q1 => (expP l f q1 0).bind fun a q2 => (wantP l q2 [[44]]).bind fun _ q3 => (expP l f q3 0).bind fun b q4 =>
        (wantP l q4 [[41]]).bind fun _ q5 => .ok (.mk (if isB l p [109, 97, 120] = true then 7 else 6) 0 0 [] [a, b]) q5
      else if isB l p [40] = true then (expP l f (p + 1) 0).bind fun e q1 => (wantP l q1 [[41]]).bind fun _ q2 => .ok e q2
      else if t.kind = 1 ∧ nameB t.text = true then .ok (.mk 1 0 0 t.text []) (p + 1)
      else .stop t.pos 12
end
theorem wantP_le {l : List Tok} (hl : TokOK l) : ∀ (ws : List (List UInt8)) {p q : Nat}, wantP l p ws = .ok () q → p < l.length → p ≤ q ∧ q < l.length
  | [], p, q, h, hp => by rw [wantP] at h; cases h; exact ⟨Nat.le_refl _, hp⟩
  | w :: ws, p, q, h, hp => by
    rw [wantP] at h
    split at h
    · rename_i hb
      have := wantP_le hl ws h (isB_lt hl hb)
      exact ⟨by omega, this.2⟩
    · cases h
theorem unitP_le {l : List Tok} (hl : TokOK l) {p q : Nat} {u : Int} (h : unitP l p = .ok u q) (hp : p < l.length) : p ≤ q ∧ q < l.length := by
  unfold unitP at h
  split at h
  · rename_i hb; cases h; exact ⟨by omega, isB_lt hl hb⟩
  · split at h
    · rename_i hb; cases h; exact ⟨by omega, isB_lt hl hb⟩
    · split at h
      · rename_i hb
        obtain ⟨a, r, h1, h2⟩ := PR.bind_out h
        cases h2
        have := wantP_le hl _ h1 (isB_lt hl hb)
        exact ⟨by omega, this.2⟩
      · cases h; exact ⟨by omega, hp⟩
theorem parse_le {l : List Tok} (hl : TokOK l) : ∀ (f : Nat),
    (∀ p form e q, expP l f p form = .ok e q → p < l.length → p ≤ q ∧ q < l.length) ∧
    (∀ form e own p e' q, loopP l f form e own p = .ok e' q → p < l.length → p ≤ q ∧ q < l.length) ∧
    (∀ p form e q, prefixP l f p form = .ok e q → p < l.length → p ≤ q ∧ q < l.length) ∧
    (∀ p e q, primaryP l f p = .ok e q → p < l.length → p ≤ q ∧ q < l.length)
  | 0 => ⟨fun _ _ _ _ h => by simp [expP] at h, fun _ _ _ _ _ _ h => by simp [loopP] at h, fun _ _ _ _ h => by simp [prefixP] at h, fun _ _ _ h => by simp [primaryP] at h⟩
  | f + 1 => by
    obtain ⟨he, hlo, hpr, hpm⟩ := parse_le hl f
    refine ⟨fun p form e q h hp => ?_, fun form e own p e' q h hp => ?_, fun p form e q h hp => ?_, fun p e q h hp => ?_⟩
    · rw [expP] at h
      obtain ⟨a, r, h1, h2⟩ := PR.bind_out h
      have g1 := hpr _ _ _ _ h1 hp
      have g2 := hlo _ _ _ _ _ _ h2 g1.2
      exact ⟨by omega, g2.2⟩
    · rw [loopP] at h
      split at h
      · cases h; exact ⟨by omega, hp⟩
      · rename_i x hx
        have hb := List.find?_some hx
        have hp2 := isB_lt hl hb
        split at h
        · cases h; exact ⟨by omega, hp⟩
        · obtain ⟨a, r, h1, h2⟩ := PR.bind_out h
          have g1 := he _ _ _ _ h1 hp2
          have g2 := hlo _ _ _ _ _ _ h2 g1.2
          exact ⟨by omega, g2.2⟩
    · rw [prefixP] at h
      split at h
      · rename_i hb
        have hp2 := isB_lt hl hb.2
        obtain ⟨a, r, h1, h⟩ := PR.bind_out h
        have g1 := he _ _ _ _ h1 hp2
        obtain ⟨_, r2, h2, h⟩ := PR.bind_out h
        have g2 := wantP_le hl _ h2 g1.2
        obtain ⟨a, r3, h3, h⟩ := PR.bind_out h
        have g3 := he _ _ _ _ h3 g2.2
        obtain ⟨_, r4, h4, h⟩ := PR.bind_out h
        have g4 := wantP_le hl _ h4 g3.2
        obtain ⟨a, r5, h5, h⟩ := PR.bind_out h
        have g5 := he _ _ _ _ h5 g4.2
        cases h
        exact ⟨by omega, g5.2⟩
      · split at h
        · rename_i hb
          have hp2 := isB_lt hl hb.2
          obtain ⟨a, r, h1, h⟩ := PR.bind_out h
          have g1 := he _ _ _ _ h1 hp2
          cases h
          exact ⟨by omega, g1.2⟩
        · obtain ⟨a, r, h1, h⟩ := PR.bind_out h
          have g1 := hpm _ _ _ h1 hp
          cases h
          exact g1
    · rw [primaryP] at h
      split at h
      · cases h
      · rename_i t ht
        split at h
        · rename_i hk
          have hp2 := hl.fin p t ht (by omega)
          obtain ⟨a, r, h1, h⟩ := PR.bind_out h
          have g1 := unitP_le hl h1 hp2
          cases h
          exact ⟨by omega, g1.2⟩
        split at h
        · rename_i hb; cases h; exact ⟨by omega, isB_lt hl hb⟩
        split at h
        · rename_i hb; cases h; exact ⟨by omega, isB_lt hl hb⟩
        split at h
        · rename_i hb
          have hp2 : p + 1 < l.length := hb.elim (isB_lt hl) (isB_lt hl)
          obtain ⟨_, r2, h2, h⟩ := PR.bind_out h
          have g2 := wantP_le hl _ h2 hp2
          obtain ⟨a, r3, h3, h⟩ := PR.bind_out h
          have g3 := he _ _ _ _ h3 g2.2
          obtain ⟨_, r4, h4, h⟩ := PR.bind_out h
          have g4 := wantP_le hl _ h4 g3.2
          obtain ⟨a, r5, h5, h⟩ := PR.bind_out h
          have g5 := he _ _ _ _ h5 g4.2
          obtain ⟨_, r6, h6, h⟩ := PR.bind_out h
          have g6 := wantP_le hl _ h6 g5.2
          cases h
          exact ⟨by omega, g6.2⟩
        split at h
        · rename_i hb
          have hp2 := isB_lt hl hb
          obtain ⟨a, r3, h3, h⟩ := PR.bind_out h
          have g3 := he _ _ _ _ h3 hp2
          obtain ⟨_, r4, h4, h⟩ := PR.bind_out h
          have g4 := wantP_le hl _ h4 g3.2
          cases h
          exact ⟨by omega, g4.2⟩
        split at h
        · rename_i hk
          cases h
          exact ⟨by omega, hl.fin p t ht (by omega)⟩
        · cases h
end Go.Proofs.YtepiegcjnaohjaaGreatDoor
namespace Go.Proofs.YtepiegcjnaohjaaGreatDoor
open Go Go.VL
abbrev W8 := List UInt8
def kindW : W8 → Int
  | [] => 0
  | c :: _ => if isLetter c = true then 1 else if isDigit c = true then 2 else 3
theorem kindW_ne {w : W8} (h : w ≠ []) : kindW w ≠ 0 := by
  cases w with
  | nil => exact absurd rfl h
  | cons c w => rw [kindW]; split <;> (try split) <;> decide
def numW (w : W8) : Int := if kindW w = 2 then (numberO w).getD 0 else 0
def Reads (l : List Tok) (p : Nat) (ws : List W8) : Prop := ∀ i w, ws[i]? = some w → w ≠ [] ∧ ∃ t, l[p + i]? = some t ∧ t.text = w ∧ t.kind = kindW w ∧ t.n = numW w
theorem Reads.left {l p} {a b : List W8} (h : Reads l p (a ++ b)) : Reads l p a := fun i w hi => h i w (by rw [List.getElem?_append_left (List.getElem?_eq_some_iff.1 hi).1]; exact hi)
theorem Reads.right {l p} {a b : List W8} (h : Reads l p (a ++ b)) : Reads l (p + a.length) b := fun i w hi => by
  have := h (a.length + i) w (by rw [List.getElem?_append_right (by omega), Nat.add_sub_cancel_left]; exact hi)
  rwa [← Nat.add_assoc] at this
theorem Reads.head {l p} {w : W8} {b : List W8} (h : Reads l p (w :: b)) : w ≠ [] ∧ ∃ t, l[p]? = some t ∧ t.text = w ∧ t.kind = kindW w ∧ t.n = numW w := h 0 w rfl
theorem Reads.tail {l p} {w : W8} {b : List W8} (h : Reads l p (w :: b)) : Reads l (p + 1) b := Reads.right (a := [w]) h
theorem Reads.isB {l p} {w : W8} {b : List W8} (h : Reads l p (w :: b)) (v : W8) : isB l p v = decide (w = v) := by
  obtain ⟨hw, t, ht, h1, h2, h3⟩ := h.head
  have := kindW_ne hw
  simp [Go.Proofs.YtepiegcjnaohjaaGreatDoor.isB, ht, h1, h2, this]
theorem Reads.want {l p} {w : W8} {b : List W8} (h : Reads l p (w :: b)) : wantP l p [w] = .ok () (p + 1) := by
  rw [wantP, if_pos (by rw [h.isB]; simp), wantP]
def Ev {α : Type} (g : Nat → PR α) (r : PR α) : Prop := ∃ f0, ∀ f, f0 ≤ f → g f = r
theorem Ev.succ {α : Type} {g : Nat → PR α} {r : PR α} (h : Ev (fun f => g (f + 1)) r) : Ev g r := by
  obtain ⟨f0, h⟩ := h
  refine ⟨f0 + 1, fun f hf => ?_⟩
  obtain ⟨f, rfl⟩ : ∃ k, f = k + 1 := ⟨f - 1, by omega⟩
  exact h f (by omega)
theorem Ev.const {α : Type} {r : PR α} : Ev (fun _ => r) r := ⟨0, fun _ _ => rfl⟩
theorem Ev.of {α : Type} {g : Nat → PR α} {r : PR α} (h : ∀ f, g f = r) : Ev g r := ⟨0, fun f _ => h f⟩
theorem Ev.bind {α β : Type} {g : Nat → PR α} {a : α} {q : Nat} {F : Nat → α → Nat → PR β} {r : PR β} (h : Ev g (.ok a q)) (h2 : Ev (fun f => F f a q) r) : Ev (fun f => (g f).bind (F f)) r := by
  obtain ⟨f0, h⟩ := h
  obtain ⟨f1, h2⟩ := h2
  refine ⟨max f0 f1, fun f hf => ?_⟩
  show (g f).bind (F f) = r
  rw [h f (by omega), PR.bind_ok]
  exact h2 f (by omega)
end Go.Proofs.YtepiegcjnaohjaaGreatDoor
namespace Go.Proofs.YtepiegcjnaohjaaGreatDoor
open Go Go.VL
end Go.Proofs.YtepiegcjnaohjaaGreatDoor
namespace Go.Proofs.YtepiegcjnaohjaaGreatDoor
open Go Go.VL
end Go.Proofs.YtepiegcjnaohjaaGreatDoor
namespace Go.Proofs.YtepiegcjnaohjaaGreatDoor
open Go Go.VL
end Go.Proofs.YtepiegcjnaohjaaGreatDoor
namespace Go.Proofs.YtepiegcjnaohjaaGreatDoor
open Go Go.VL
end Go.Proofs.YtepiegcjnaohjaaGreatDoor
namespace Go.Proofs.YtepiegcjnaohjaaGreatDoor
open Go Go.VL
end Go.Proofs.YtepiegcjnaohjaaGreatDoor
namespace Go.Proofs.YtepiegcjnaohjaaGreatDoor
open Go Go.VL
/-- What stands behind a word: nothing, or a blank. -/
def Ends8 (r : W8) : Prop := ∀ c t, r = c :: t → isBlank c = true
structure GoodW (w : W8) : Prop where
  next : ∀ r, Ends8 r → nextO (w ++ r) = .ok ⟨kindW w, w, numW w, 0⟩
  ne : w ≠ []
  head : ∀ c t, w = c :: t → isBlank c = false
/-- Words, each with what stands behind it: blanks; behind the last one maybe nothing. -/
def Spaced : List (W8 × W8) → Prop
  | [] => True
  | [x] => GoodW x.1 ∧ ∀ c ∈ x.2, isBlank c = true
  | x :: y :: l => GoodW x.1 ∧ (∀ c ∈ x.2, isBlank c = true) ∧ x.2 ≠ [] ∧ Spaced (y :: l)
theorem Spaced.good {x : W8 × W8} {l : List (W8 × W8)} (h : Spaced (x :: l)) : GoodW x.1 ∧ (∀ c ∈ x.2, isBlank c = true) ∧ (l ≠ [] → x.2 ≠ []) ∧ Spaced l := by
  cases l with
  | nil => exact ⟨h.1, h.2, fun h => absurd rfl h, trivial⟩
  | cons y l => exact ⟨h.1, h.2.1, fun _ => h.2.2.1, h.2.2.2⟩
end Go.Proofs.YtepiegcjnaohjaaGreatDoor
namespace Go.Proofs.YtepiegcjnaohjaaGreatDoor
open Go Go.VL
theorem PR.bind_congr {α β : Type} {r : PR α} {F G : α → Nat → PR β} (h : ∀ a q, r = .ok a q → F a q = G a q) : r.bind F = r.bind G := by
  cases r with
  | ok a q => exact h a q rfl
  | stop => rfl
theorem fuel_all {l : List Tok} (hl : TokOK l) : ∀ (f : Nat),
    (∀ p form, p < l.length → 4 * (l.length - p) + 3 ≤ f → expP l (f + 1) p form = expP l f p form) ∧
    (∀ p form e own, p < l.length → 4 * (l.length - p) + 2 ≤ f → loopP l (f + 1) form e own p = loopP l f form e own p) ∧
    (∀ p form, p < l.length → 4 * (l.length - p) + 2 ≤ f → prefixP l (f + 1) p form = prefixP l f p form) ∧
    (∀ p, p < l.length → 4 * (l.length - p) + 1 ≤ f → primaryP l (f + 1) p = primaryP l f p)
  | 0 => ⟨fun _ _ _ h => by omega, fun _ _ _ _ _ h => by omega, fun _ _ _ h => by omega, fun _ _ h => by omega⟩
  | f + 1 => by
    obtain ⟨he, hlo, hpr, hpm⟩ := fuel_all hl f
    obtain ⟨le, llo, lpr, lpm⟩ := parse_le hl f
    refine ⟨fun p form hp hf => ?_, fun p form e own hp hf => ?_, fun p form hp hf => ?_, fun p hp hf => ?_⟩
    · simp only [expP]
      rw [hpr p form hp (by omega)]
      refine PR.bind_congr fun a q hq => ?_
      have g := lpr _ _ _ _ hq hp
      exact hlo _ _ _ _ g.2 (by omega)
    · rw [loopP, loopP]
      split
      · rfl
      · rename_i x hx
        have hb := List.find?_some hx
        have hp2 := isB_lt hl hb
        split
        · rfl
        · rw [he (p + 1) _ hp2 (by omega)]
          refine PR.bind_congr fun a q hq => ?_
          have g := le _ _ _ _ hq hp2
          exact hlo _ _ _ _ g.2 (by omega)
    · simp only [prefixP]
      split
      · rename_i hb
        have hp2 := isB_lt hl hb.2
        rw [he (p + 1) _ hp2 (by omega)]
        refine PR.bind_congr fun a q1 hq1 => ?_
        have g1 := le _ _ _ _ hq1 hp2
        refine PR.bind_congr fun _ q2 hq2 => ?_
        have g2 := wantP_le hl _ hq2 g1.2
        rw [he q2 _ g2.2 (by omega)]
        refine PR.bind_congr fun b q3 hq3 => ?_
        have g3 := le _ _ _ _ hq3 g2.2
        refine PR.bind_congr fun _ q4 hq4 => ?_
        have g4 := wantP_le hl _ hq4 g3.2
        rw [he q4 _ g4.2 (by omega)]
      · split
        · rename_i hb
          rw [he (p + 1) _ (isB_lt hl hb.2) (by omega)]
        · rw [hpm p hp (by omega)]
    · simp only [primaryP]
      split
      · rfl
      · split
        · rfl
        · split
          · rfl
          · split
            · rfl
            · split
              · rename_i hb
                have hp2 : p + 1 < l.length := hb.elim (isB_lt hl) (isB_lt hl)
                refine PR.bind_congr fun _ q1 hq1 => ?_
                have g1 := wantP_le hl _ hq1 hp2
                rw [he q1 _ g1.2 (by omega)]
                refine PR.bind_congr fun a q2 hq2 => ?_
                have g2 := le _ _ _ _ hq2 g1.2
                refine PR.bind_congr fun _ q3 hq3 => ?_
                have g3 := wantP_le hl _ hq3 g2.2
                rw [he q3 _ g3.2 (by omega)]
              · split
                · rename_i hb
                  rw [he (p + 1) _ (isB_lt hl hb) (by omega)]
                · rfl
theorem fuel_more {l : List Tok} (hl : TokOK l) {p f : Nat} {form : Int} (hp : p < l.length) (hf : 4 * (l.length - p) + 3 ≤ f) : ∀ g, expP l (f + g) p form = expP l f p form
  | 0 => rfl
  | g + 1 => by rw [← Nat.add_assoc, (fuel_all hl (f + g)).1 p form hp (by omega), fuel_more hl hp hf g]
theorem Ev.fuel {l : List Tok} (hl : TokOK l) {p f : Nat} {form : Int} {r : PR Exp} (h : Ev (fun f => expP l f p form) r) (hp : p < l.length) (hf : 4 * (l.length - p) + 3 ≤ f) : expP l f p form = r := by
  obtain ⟨f0, h⟩ := h
  rw [← fuel_more hl hp hf f0]
  exact h (f + f0) (by omega)
end Go.Proofs.YtepiegcjnaohjaaGreatDoor
namespace Go.Proofs.YtepiegcjnaohjaaGreatDoor
open Go Go.VL
def AllGood (ws : List W8) : Prop := ∀ w ∈ ws, GoodW w
theorem AllGood.nil : AllGood [] := fun _ h => by cases h
theorem AllGood.cons {w : W8} {ws : List W8} (h : GoodW w) (h2 : AllGood ws) : AllGood (w :: ws) := fun x hx => by
  rcases List.mem_cons.1 hx with rfl | hx
  · exact h
  · exact h2 x hx
theorem AllGood.app {a b : List W8} (h : AllGood a) (h2 : AllGood b) : AllGood (a ++ b) := fun x hx => by
  rcases List.mem_append.1 hx with hx | hx
  · exact h x hx
  · exact h2 x hx
end Go.Proofs.YtepiegcjnaohjaaGreatDoor
namespace Go.Proofs.YtepiegcjnaohjaaGreatDoor
open Go Go.VL
end Go.Proofs.YtepiegcjnaohjaaGreatDoor
namespace Go.Proofs.YtepiegcjnaohjaaGreatDoor
open Go Go.VL
attribute [local simp] hcons hstep evPure opd uOf putOK St.put St.at getK binD binI binS binB nilD aggD eqUs cmpK lookD lookR rangeD rangeS Go.VL.nextD Go.VL.nextS entryD keyD valU keyU lookK mkV lookK_entD updK_entD1 allUE allUE_entD makeMapD mapUpdD mapEff updK valM Key.kk shiftI arith unD convD pickD loadD cellsAt fieldAddrD fieldD indexAddrD indexSlD arrAddr indexD sliceD cutD lenD minmaxD nilCheckD buildD fillD cellsD isOne ones setAll mkAgg allU allocD boxD storeD St.add buildSliceD appendD rowsOf makeD setOb getK_setOb getK_del getK_cons stripL strip guardTmp entry chunks zcells valD argsV argsW argW argU1 argU0 argsU0 argsU1 calleeOf scalarD scalarU delAll effD St.effS RK_seq RK_seq_ret RK_seq_exit RK_blk RK_blk_ret RK_blk_exit RK_loop RK_loop_ret RK_loop_exit RK_done vs_seq vs_block vs_cond vs_region vs_loop vs_draw applyW mkD rdIds lentIds callOf calleeOf freeOp D.ids Op.operands Call.operands isEffOp makeIfD makeFuncD typeAssertD conc concs conc1 uOfV panicD IntKind.bits allU2 List.take_of_length_le List.range_succ
attribute [local irreducible] V G H HD HD2 RunK Eff CallP CallV EndOK Fun Ret FinOK LoopI LoopW EndW
def inB (lo hi : Int) (l : List Int) : Bool := !l.any fun n => decide (n < lo) || decide (hi < n)
theorem in1_fun (lo hi n : Int) : Fun Tryz.prog 166 (iarg n :: [U.row [.int .i64 lo] 0, U.row [.int .i64 hi] 0].map .u) (· = .u (.bool (decide (n < lo) || decide (hi < n)))) := by
  simp only [iarg, List.map_cons, List.map_nil]
  (refine Fun.of_body Tryz.func166 rfl (by simp) fun Γ hn => ?_); simp only [entry, List.zipIdx_cons, List.zipIdx_nil, List.map_cons, List.map_nil, Nat.zero_add, Tryz.ntmps166]
  repeat' (first
    | (refine H_cons ?_; simp)
    | (refine H_nil ?_; simp)
    | (refine V_sseq ?_; simp)
    | (refine V_ret ?_; simp only [RunK])
    | (refine ⟨fun hc => ?_, fun hc => ?_⟩ <;> (try (exfalso; omega)))
    | fail)
  all_goals
    (refine EndOK.val (.inr rfl) ?_; simp [resD, oneOrTup, pureD, Tryz.results166])
  all_goals grind
theorem in_fun (lo hi : Int) (l : List Int) : Fun Tryz.prog 98 [.u (.int .i64 lo), .u (.int .i64 hi), .u (ints l)] (· = .u (.bool (inB lo hi l))) := by
  have h1 := containsI_fun l 166 [U.row [.int .i64 lo] 0, U.row [.int .i64 hi] 0] _ (fun n _ => in1_fun lo hi n) (by simp) (fun _ => rfl) (fun _ => rfl)
  simp only [List.map_cons, List.map_nil] at h1
  unfold inB
  (refine Fun.of_body Tryz.func98 rfl (by simp) fun Γ hn => ?_); simp only [entry, List.zipIdx_cons, List.zipIdx_nil, List.map_cons, List.map_nil, Nat.zero_add, Tryz.ntmps98]
  simp only [ints] at h1 ⊢
  repeat' (first
    | (refine H_cons ?_; simp)
    | (refine H_nil ?_; simp)
    | (refine V_sseq ?_; simp)
    | (refine V_ret ?_; simp only [RunK])
    | (refine CallP.fun_ (h1) (by first | rfl | fail) (by first | assumption | (simp; done) | fail) (by first | (simp; done) | (simp; rfl) | fail) (by first | (simp; done) | fail) (fun d hd => ?_); subst hd; (try simp))
    | fail)
  (refine EndOK.val (.inr rfl) ?_; simp [resD, oneOrTup, pureD, Tryz.results98])
theorem right1_fun (x l : Let) : Fun Tryz.prog 100 (lagg x :: [U.row (lcells l) 0].map .u) (· = .u (.bool (decide (x.name = l.name)))) := by
  simp only [lagg, lcells, List.map_cons, List.map_nil]
  (refine Fun.of_body Tryz.func100 rfl (by simp) fun Γ hn => ?_); simp only [entry, List.zipIdx_cons, List.zipIdx_nil, List.map_cons, List.map_nil, Nat.zero_add, Tryz.ntmps100]
  repeat' (first
    | (refine H_cons ?_; simp)
    | (refine H_nil ?_; simp)
    | (refine V_sseq ?_; simp)
    | (refine V_ret ?_; simp only [RunK])
    | fail)
  (refine EndOK.val (.inr rfl) ?_; simp [resD, oneOrTup, pureD, Tryz.results100])
structure By where
  kind : Int
  period : Int
  grace : Int
  wait : Int
  last : Int
  order : Int
  sld : Bool
  backs : Int
  voices : Int
  jury : Int
  fund : Int
  lets : List Let
  due : Exp
  fine : Exp
  pay : Exp
  cover : Exp
  hold : Exp
  deriving Inhabited
def byCells (b : By) : List U := [.int .i64 b.kind, .int .i64 b.period, .int .i64 b.grace, .int .i64 b.wait, .int .i64 b.last, .int .i64 b.order, .bool b.sld, .int .i64 b.backs, .int .i64 b.voices, .int .i64 b.jury, .int .i64 b.fund,
  .sl (b.lets.map fun l => [.str l.name, .int .i64 l.body.op, .int .i64 l.body.n, .int .i64 l.body.unit, .str l.body.s, .sl (l.body.args.map Exp.row)]),
  .int .i64 b.due.op, .int .i64 b.due.n, .int .i64 b.due.unit, .str b.due.s, .sl (b.due.args.map Exp.row),
  .int .i64 b.fine.op, .int .i64 b.fine.n, .int .i64 b.fine.unit, .str b.fine.s, .sl (b.fine.args.map Exp.row),
  .int .i64 b.pay.op, .int .i64 b.pay.n, .int .i64 b.pay.unit, .str b.pay.s, .sl (b.pay.args.map Exp.row),
  .int .i64 b.cover.op, .int .i64 b.cover.n, .int .i64 b.cover.unit, .str b.cover.s, .sl (b.cover.args.map Exp.row),
  .int .i64 b.hold.op, .int .i64 b.hold.n, .int .i64 b.hold.unit, .str b.hold.s, .sl (b.hold.args.map Exp.row)]
def headB (b : By) : Bool := inB 0 2 [b.kind] && inB 0 2 [b.order] && inB 1 1000 [b.period, b.last] && inB 0 1000 [b.grace, b.wait, b.voices, b.fund] && inB 0 60 [b.backs, b.jury]
def letsB (seen : List Let) : List Let → Bool
  | [] => true
  | l :: r => nameB l.name && rightB 12 l.body && !seen.any (fun x => decide (x.name = l.name)) && letsB (seen ++ [l]) r
theorem letsB_at {L : List Let} {i : Nat} {l : Let} (h : L[i]? = some l) : letsB (L.take i) (L.drop i) = (nameB l.name && rightB 12 l.body && !(L.take i).any (fun x => decide (x.name = l.name)) && letsB (L.take (i + 1)) (L.drop (i + 1))) := by
  obtain ⟨hi, rfl⟩ := List.getElem?_eq_some_iff.1 h
  rw [List.drop_eq_getElem_cons hi, letsB, List.take_succ_eq_append_getElem hi]
def expsB (b : By) : Bool := rightB 12 b.due && rightB 12 b.fine && rightB 12 b.pay && rightB 12 b.cover && rightB 12 b.hold
def rightBy (b : By) : Bool := headB b && !(b.sld && decide (b.kind ≠ 1)) && decide (b.lets.length ≤ 20) && letsB [] b.lets && expsB b
set_option maxRecDepth 100000 in
set_option maxHeartbeats 4000000 in
theorem rightBy_fun (b : By) : Fun Tryz.prog 40 [.u (.agg (byCells b))] (· = .u (.bool (rightBy b))) := by
  have i1 := in_fun 0 2 [b.kind]
  have i2 := in_fun 0 2 [b.order]
  have i3 := in_fun 1 1000 [b.period, b.last]
  have i4 := in_fun 0 1000 [b.grace, b.wait, b.voices, b.fund]
  have i5 := in_fun 0 60 [b.backs, b.jury]
  simp only [ints, List.map_cons, List.map_nil] at i1 i2 i3 i4 i5
  have hr : ∀ e : Exp, Fun Tryz.prog 89 [.u (.agg [.int .i64 e.op, .int .i64 e.n, .int .i64 e.unit, .str e.s, .sl (e.args.map Exp.row)])] (· = .u (.bool (rightB 12 e))) := fun e => rightExp_fun e
  have e1 := hr b.due
  have e2 := hr b.fine
  have e3 := hr b.pay
  have e4 := hr b.cover
  have e5 := hr b.hold
  unfold rightBy headB expsB
  generalize inB 0 2 [b.kind] = c1 at i1 ⊢
  generalize inB 0 2 [b.order] = c2 at i2 ⊢
  generalize inB 1 1000 [b.period, b.last] = c3 at i3 ⊢
  generalize inB 0 1000 [b.grace, b.wait, b.voices, b.fund] = c4 at i4 ⊢
  generalize inB 0 60 [b.backs, b.jury] = c5 at i5 ⊢
  (refine Fun.of_body Tryz.func40 rfl (by simp) fun Γ hn => ?_); simp only [entry, List.zipIdx_cons, List.zipIdx_nil, List.map_cons, List.map_nil, Nat.zero_add, Tryz.ntmps40]
  simp only [byCells]
  repeat' (first
    | (refine H_cons ?_; simp)
    | (refine H_nil ?_; simp)
    | (refine V_sseq ?_; simp)
    | (refine V_scond ?_; simp)
    | (refine V_sblock ?_; simp)
    | (refine V_ret ?_; simp only [RunK])
    | (refine V_skip ?_; simp only [RunK])
    | (refine ⟨fun hc => ?_, fun hc => ?_⟩ <;> (try (exfalso; omega)))
    | (refine CallP.fun_ (i1) (by first | rfl | fail) (by first | assumption | (simp; done) | fail) (by first | (simp; done) | (simp; rfl) | fail) (by first | (simp; done) | fail) (fun d hd => ?_); subst hd; (try simp))
    | (refine CallP.fun_ (i2) (by first | rfl | fail) (by first | assumption | (simp; done) | fail) (by first | (simp; done) | (simp; rfl) | fail) (by first | (simp; done) | fail) (fun d hd => ?_); subst hd; (try simp))
    | (refine CallP.fun_ (i3) (by first | rfl | fail) (by first | assumption | (simp; done) | fail) (by first | (simp; done) | (simp; rfl) | fail) (by first | (simp; done) | fail) (fun d hd => ?_); subst hd; (try simp))
    | (refine CallP.fun_ (i4) (by first | rfl | fail) (by first | assumption | (simp; done) | fail) (by first | (simp; done) | (simp; rfl) | fail) (by first | (simp; done) | fail) (fun d hd => ?_); subst hd; (try simp))
    | (refine CallP.fun_ (i5) (by first | rfl | fail) (by first | assumption | (simp; done) | fail) (by first | (simp; done) | (simp; rfl) | fail) (by first | (simp; done) | fail) (fun d hd => ?_); subst hd; (try simp))
    | fail)
  all_goals try ((refine EndOK.val (.inr rfl) ?_; simp [resD, oneOrTup, pureD, Tryz.results40]); clear i1 i2 i3 i4 i5 hr e1 e2 e3 e4 e5; grind)
  all_goals
    refine V_loopF (α := { i : Nat // i ≤ b.lets.length ∧ letsB [] b.lets = letsB (b.lets.take i) (b.lets.drop i) }) [1, 62, 63] (fun i => [(64, .u (.int .i64 i.1))]) (fun i => b.lets.length - i.1) ⟨0, by omega, by simp⟩ ?_ ?_
    · exact (Wk.cut rfl (by simp [hn, St.lp]) (by simp [wkO, St.lp, getK_cons, getK, Ob.under, D.under, under_rowsD, under_entD]) (by simp [wkU, St.lp, keepE, getK_cons, getK, D.under]) (by simp [wkE, St.lp, keepE, getK_cons, getK] <;> (try (intros; simp_all; done)) <;> (try (intros; omega)) <;> (try grind)))
    rintro ⟨i, hi, hb⟩
    simp [St.lp, St.only, keepE, getK_cons, getK]
    rcases hx : b.lets[i]? with _ | l
    · have hge : b.lets.length ≤ i := by simpa using hx
      have hb' : letsB [] b.lets = true := by rw [hb, List.drop_of_length_le hge]; rfl
      generalize rightB 12 b.due = x1 at e1 ⊢
      generalize rightB 12 b.fine = x2 at e2 ⊢
      generalize rightB 12 b.pay = x3 at e3 ⊢
      generalize rightB 12 b.cover = x4 at e4 ⊢
      generalize rightB 12 b.hold = x5 at e5 ⊢
      repeat' (first
    | (refine H_cons ?_; simp [hx])
    | (refine H_nil ?_; simp [hx])
    | (refine ⟨by omega, ?_⟩)
    | (refine V_sseq ?_; simp [hx])
    | (refine V_ret ?_; simp only [RunK])
    | (refine V_exit ?_; simp [RunK])
    | (refine ⟨fun hc => ?_, fun hc => ?_⟩ <;> (try (exfalso; omega)))
    | (intro hc <;> (try (exfalso; omega)))
    | (refine CallP.fun_ (e1) (by first | rfl | fail) (by first | assumption | (simp; done) | fail) (by first | (simp [hx]; done) | (simp [hx]; rfl) | fail) (by first | (simp; done) | fail) (fun d hd => ?_); subst hd; (try simp [hx]))
    | (refine CallP.fun_ (e2) (by first | rfl | fail) (by first | assumption | (simp; done) | fail) (by first | (simp [hx]; done) | (simp [hx]; rfl) | fail) (by first | (simp; done) | fail) (fun d hd => ?_); subst hd; (try simp [hx]))
    | (refine CallP.fun_ (e3) (by first | rfl | fail) (by first | assumption | (simp; done) | fail) (by first | (simp [hx]; done) | (simp [hx]; rfl) | fail) (by first | (simp; done) | fail) (fun d hd => ?_); subst hd; (try simp [hx]))
    | (refine CallP.fun_ (e4) (by first | rfl | fail) (by first | assumption | (simp; done) | fail) (by first | (simp [hx]; done) | (simp [hx]; rfl) | fail) (by first | (simp; done) | fail) (fun d hd => ?_); subst hd; (try simp [hx]))
    | (refine CallP.fun_ (e5) (by first | rfl | fail) (by first | assumption | (simp; done) | fail) (by first | (simp [hx]; done) | (simp [hx]; rfl) | fail) (by first | (simp; done) | fail) (fun d hd => ?_); subst hd; (try simp [hx]))
    | fail)
      all_goals
        (refine EndOK.val (.inr rfl) ?_; simp [resD, oneOrTup, pureD, Tryz.results40])
      all_goals
        clear i1 i2 i3 i4 i5 hr e1 e2 e3 e4 e5
        grind
    · have hlt : i < b.lets.length := (List.getElem?_eq_some_iff.1 hx).1
      have hnx := letsB_at hx
      have e6 := name_fun l.name
      have e7 := hr l.body
      have e8 := containsL_fun (b.lets.take i) 100 [U.row (lcells l) 0] _ (fun x _ => right1_fun x l) (by simp) (fun _ => rfl) (fun _ => rfl)
      simp only [letsU, lcells, List.map_cons, List.map_nil] at e8
      generalize nameB l.name = y1 at e6 hnx
      generalize rightB 12 l.body = y2 at e7 hnx
      generalize ((b.lets.take i).any fun x => decide (x.name = l.name)) = y3 at e8 hnx
      repeat' (first
    | (refine H_cons ?_; simp [hx])
    | (refine H_nil ?_; simp [hx])
    | (refine ⟨by omega, ?_⟩)
    | (refine V_sseq ?_; simp [hx])
    | (refine V_scond ?_; simp [hx])
    | (refine V_sregion ?_; simp [hx])
    | (refine V_ret ?_; simp only [RunK])
    | (refine V_skip ?_; simp only [RunK])
    | (refine ⟨?_, by omega⟩)
    | (refine ⟨fun hc => ?_, fun hc => ?_⟩ <;> (try (exfalso; omega)))
    | (intro hc <;> (try (exfalso; omega)))
    | (refine CallP.fun_ (e6) (by first | rfl | fail) (by first | assumption | (simp; done) | fail) (by first | (simp [hx]; done) | (simp [hx]; rfl) | fail) (by first | (simp; done) | fail) (fun d hd => ?_); subst hd; (try simp [hx]))
    | (refine CallP.fun_ (e7) (by first | rfl | fail) (by first | assumption | (simp; done) | fail) (by first | (simp [hx]; done) | (simp [hx]; rfl) | fail) (by first | (simp; done) | fail) (fun d hd => ?_); subst hd; (try simp [hx]))
    | (refine CallP.fun_ (e8) (by first | rfl | fail) (by first | assumption | (simp; done) | fail) (by first | (simp [hx]; done) | (simp [hx]; rfl) | fail) (by first | (simp; done) | fail) (fun d hd => ?_); subst hd; (try simp [hx]))
    | fail)
      all_goals first
        | (refine LoopW.next ⟨i + 1, by omega, by simp_all⟩ (by simp; omega) ?_; exact (Wk.cut rfl (by simp [hn, St.lp]) (by simp [wkO, St.lp, getK_cons, getK, Ob.under, D.under, under_rowsD, under_entD]) (by simp [wkU, St.lp, keepE, getK_cons, getK, D.under]) (by simp [wkE, St.lp, keepE, getK_cons, getK] <;> (try (intros; simp_all; done)) <;> (try (intros; omega)) <;> (try grind))))
        | ((refine EndOK.val (.inr rfl) ?_; simp [resD, oneOrTup, pureD, Tryz.results40]); clear i1 i2 i3 i4 i5 hr e1 e2 e3 e4 e5 e6 e7 e8; grind)

def l0 (l : List Int) (i : Nat) : Int := l.getD i 0




end Go.Proofs.YtepiegcjnaohjaaGreatDoor
namespace Go.VL
/-- A slice within a struct that came in has a length that an int holds. -/
theorem V_lenA {P : Program} {Γ : Ctx} {c : Code} {s : St} {Q : Exit → St → Prop} {x j : Nat} {cells : List U} {rows : List (List U)} (hx : getK s.env x = some (.u (.agg cells))) (hj : cells[j]? = some (.sl rows)) (h : rows.length ≤ 9223372036854775807 → V P Γ c s Q) : V P Γ c s Q :=
  V_know (fun K a w hs => by
    have hr := (hs.getK hx).2
    obtain ⟨vs, hl, _, hr⟩ := rep_uagg hr
    have hr := hr j _ hj
    generalize vs.getD j undef = v at hr
    cases hr with
    | slE => simp
    | sl _ b o sz c f hc hcx => unfold maxLen at hcx; omega) h
end Go.VL
namespace Go.Proofs.YtepiegcjnaohjaaGreatDoor
open Go Go.VL
attribute [local simp] hcons hstep evPure opd uOf putOK St.put St.at getK binD binI binS binB nilD aggD eqUs cmpK lookD lookR rangeD rangeS Go.VL.nextD Go.VL.nextS entryD keyD valU keyU lookK mkV lookK_entD updK_entD1 allUE allUE_entD makeMapD mapUpdD mapEff updK valM Key.kk shiftI arith unD convD pickD loadD cellsAt fieldAddrD fieldD indexAddrD indexSlD arrAddr indexD sliceD cutD lenD minmaxD nilCheckD buildD fillD cellsD isOne ones setAll mkAgg allU allocD boxD storeD St.add buildSliceD appendD rowsOf makeD setOb getK_setOb getK_del getK_cons stripL strip guardTmp entry chunks zcells valD argsV argsW argW argU1 argU0 argsU0 argsU1 calleeOf scalarD scalarU delAll effD St.effS RK_seq RK_seq_ret RK_seq_exit RK_blk RK_blk_ret RK_blk_exit RK_loop RK_loop_ret RK_loop_exit RK_done vs_seq vs_block vs_cond vs_region vs_loop vs_draw applyW mkD rdIds lentIds callOf calleeOf freeOp D.ids Op.operands Call.operands isEffOp makeIfD makeFuncD typeAssertD conc concs conc1 uOfV panicD IntKind.bits allU2 List.take_of_length_le List.range_succ
attribute [local irreducible] V G H HD HD2 RunK Eff CallP CallV EndOK Fun Ret FinOK LoopI LoopW EndW
def nodesS : Nat → Exp → Int → Int
  | 0, _, most => most + 1
  | L + 1, e, most => if 60 < e.s.length then most + 1 else e.args.foldl (fun n x => if n ≤ most then n + nodesS L x (most - n) else n) 1
theorem nodesS_succ (L : Nat) (e : Exp) (most : Int) : nodesS (L + 1) e most = if 60 < e.s.length then most + 1 else e.args.foldl (fun n x => if n ≤ most then n + nodesS L x (most - n) else n) 1 := by rw [nodesS]
theorem nodes_bound : ∀ (L : Nat) (e : Exp) (most : Int), 0 ≤ most → 1 ≤ nodesS L e most ∧ nodesS L e most ≤ most + 1
  | 0, e, most, h => by rw [nodesS]; omega
  | L + 1, e, most, h => by
    rw [nodesS]
    split
    · omega
    · have : ∀ (l : List Exp) (n : Int), 1 ≤ n → n ≤ most + 1 → 1 ≤ l.foldl (fun n x => if n ≤ most then n + nodesS L x (most - n) else n) n ∧ l.foldl (fun n x => if n ≤ most then n + nodesS L x (most - n) else n) n ≤ most + 1 := by
        intro l
        induction l with
        | nil => intro n h1 h2; exact ⟨h1, h2⟩
        | cons a l ih =>
          intro n h1 h2
          rw [List.foldl_cons]
          split
          · rename_i hn
            have := nodes_bound L a (most - n) (by omega)
            exact ih _ (by omega) (by omega)
          · exact ih n h1 h2
      exact this _ 1 (by omega) (by omega)
theorem foldl_done {L : Nat} {most : Int} : ∀ (l : List Exp) (n : Int), ¬ n ≤ most → l.foldl (fun n x => if n ≤ most then n + nodesS L x (most - n) else n) n = n
  | [], _, _ => rfl
  | a :: l, n, h => by rw [List.foldl_cons, if_neg h]; exact foldl_done l n h
theorem nodes_fun : ∀ (L : Nat) (e : Exp) (most : Int), 0 ≤ most → most ≤ 1000 → (L : Int) ≤ 100 → Fun Tryz.prog 165 [eagg e, .u (.int .i64 most), .u (.int .i64 L)] (· = .u (.int .i64 (nodesS L e most)))
  | 0, e, most, _, _, _ => by
    rw [nodesS]
    (refine Fun.of_body Tryz.func165 rfl (by simp) fun Γ hn => ?_); simp only [entry, List.zipIdx_cons, List.zipIdx_nil, List.map_cons, List.map_nil, Nat.zero_add, Tryz.ntmps165]
    simp only [eagg]
    repeat' (first
    | (refine H_cons ?_; simp)
    | (refine H_nil ?_; simp)
    | (refine ⟨by omega, ?_⟩)
    | (refine V_sseq ?_; simp)
    | (refine V_scond ?_; simp)
    | (refine V_ret ?_; simp only [RunK])
    | fail)
    (refine EndOK.val (.inr rfl) ?_; simp [resD, oneOrTup, pureD, Tryz.results165])
  | L + 1, e, most, h0, h1, hL => by
    rw [nodesS_succ]
    by_cases hs : 60 < e.s.length
    · rw [if_pos hs]
      (refine Fun.of_body Tryz.func165 rfl (by simp) fun Γ hn => ?_); simp only [entry, List.zipIdx_cons, List.zipIdx_nil, List.map_cons, List.map_nil, Nat.zero_add, Tryz.ntmps165]
      simp only [eagg]
      repeat' (first
    | (refine H_cons ?_; simp)
    | (refine H_nil ?_; simp)
    | (refine ⟨by omega, ?_⟩)
    | (refine V_sseq ?_; simp)
    | (refine V_scond ?_; simp)
    | (refine V_ret ?_; simp only [RunK])
    | (refine ⟨?_, by omega⟩)
    | (intro hc <;> (try (exfalso; omega)))
    | fail)
      all_goals first
        | (exfalso; omega)
        | ((refine EndOK.val (.inr rfl) ?_; simp [resD, oneOrTup, pureD, Tryz.results165]); done)
    rw [if_neg hs]
    generalize hg : (e.args.foldl (fun n x => if n ≤ most then n + nodesS L x (most - n) else n) 1) = g
    (refine Fun.of_body Tryz.func165 rfl (by simp) fun Γ hn => ?_); simp only [entry, List.zipIdx_cons, List.zipIdx_nil, List.map_cons, List.map_nil, Nat.zero_add, Tryz.ntmps165]
    simp only [eagg]
    refine V_lenA (x := 0) (j := 4) rfl rfl fun hl => ?_
    simp only [List.length_map] at hl
    repeat' (first
    | (refine H_cons ?_; simp)
    | (refine H_nil ?_; simp)
    | (refine ⟨by omega, ?_⟩)
    | (refine V_sseq ?_; simp)
    | (refine V_scond ?_; simp)
    | (refine V_sblock ?_; simp)
    | (refine V_skip ?_; simp only [RunK])
    | (refine ⟨?_, by omega⟩)
    | (intro hc <;> (try (exfalso; omega)))
    | fail)
    refine V_loopF (α := { p : Nat × Int // p.1 ≤ e.args.length ∧ 1 ≤ p.2 ∧ p.2 ≤ most + 1 ∧ g = (e.args.drop p.1).foldl (fun n x => if n ≤ most then n + nodesS L x (most - n) else n) p.2 }) [1, 2, 3] (fun p => [(7, .u (.int .i64 p.1.2)), (8, .u (.int .i64 p.1.1))]) (fun p => e.args.length - p.1.1) ⟨(0, 1), by simp, by simp, by simp; omega, by simp [hg]⟩ ?_ ?_
    · exact (Wk.cut rfl (by simp [hn, St.lp]) (by simp [wkO, St.lp, getK_cons, getK, Ob.under, D.under, under_rowsD, under_entD]) (by simp [wkU, St.lp, keepE, getK_cons, getK, D.under]) (by simp [wkE, St.lp, keepE, getK_cons, getK] <;> (try (intros; simp_all; done)) <;> (try (intros; omega)) <;> (try grind)))
    rintro ⟨⟨i, n⟩, hi, hn1, hn2, hgn⟩
    simp only at hi hn1 hn2 hgn
    simp [St.lp, St.only, keepE, getK_cons, getK]
    rcases hx : e.args[i]? with _ | x
    · have hge : e.args.length ≤ i := by simpa using hx
      rw [List.drop_of_length_le hge] at hgn
      repeat' (first
    | (refine H_cons ?_; simp [hx])
    | (refine H_nil ?_; simp [hx])
    | (refine ⟨by omega, ?_⟩)
    | (refine V_sseq ?_; simp [hx])
    | (refine V_scond ?_; simp [hx])
    | (refine V_ret ?_; simp only [RunK])
    | (refine V_exit ?_; simp [RunK])
    | (intro hc <;> (try (exfalso; omega)))
    | fail)
      (refine EndOK.val (.inr rfl) ?_; simp [resD, oneOrTup, pureD, Tryz.results165])
      rw [hgn]; rfl
    · have hlt : i < e.args.length := (List.getElem?_eq_some_iff.1 hx).1
      by_cases hm : n ≤ most
      · have h5 := nodes_fun L x (most - n) (by omega) (by omega) (by omega)
        have hb := nodes_bound L x (most - n) (by omega)
        simp only [eagg] at h5
        rw [List.drop_eq_getElem_cons hlt, List.foldl_cons, if_pos hm, (List.getElem?_eq_some_iff.1 hx).2] at hgn
        generalize nodesS L x (most - n) = y at h5 hb hgn
        repeat' (first
    | (refine H_cons ?_; simp [hx, x.row_eq])
    | (refine H_nil ?_; simp [hx, x.row_eq])
    | (refine ⟨by omega, ?_⟩)
    | (refine V_sseq ?_; simp [hx, x.row_eq])
    | (refine V_scond ?_; simp [hx, x.row_eq])
    | (refine V_sregion ?_; simp [hx, x.row_eq])
    | (refine V_skip ?_; simp only [RunK])
    | (refine ⟨?_, by omega⟩)
    | (intro hc <;> (try (exfalso; omega)))
    | (refine CallP.fun_ (h5) (by first | rfl | fail) (by first | assumption | (simp; done) | fail) (by first | (simp [hx, x.row_eq]; done) | (simp [hx, x.row_eq]; rfl) | fail) (by first | (simp; done) | fail) (fun d hd => ?_); subst hd; (try simp [hx, x.row_eq]))
    | fail)
        refine LoopW.next ⟨(i + 1, n + y), (by omega : i + 1 ≤ e.args.length), (by omega : 1 ≤ n + y), (by omega : n + y ≤ most + 1), hgn⟩ (by simp; omega) ?_
        exact (Wk.cut rfl (by simp [hn, St.lp]) (by simp [wkO, St.lp, getK_cons, getK, Ob.under, D.under, under_rowsD, under_entD]) (by simp [wkU, St.lp, keepE, getK_cons, getK, D.under]) (by simp [wkE, St.lp, keepE, getK_cons, getK] <;> (try (intros; simp_all; done)) <;> (try (intros; omega)) <;> (try grind)))
      · rw [foldl_done _ _ hm] at hgn
        repeat' (first
    | (refine H_cons ?_; simp [hx])
    | (refine H_nil ?_; simp [hx])
    | (refine ⟨by omega, ?_⟩)
    | (refine V_sseq ?_; simp [hx])
    | (refine V_scond ?_; simp [hx])
    | (refine V_ret ?_; simp only [RunK])
    | (refine V_exit ?_; simp [RunK])
    | (refine ⟨?_, by omega⟩)
    | (intro hc <;> (try (exfalso; omega)))
    | fail)
        (refine EndOK.val (.inr rfl) ?_; simp [resD, oneOrTup, pureD, Tryz.results165])
        rw [hgn]
def fewE (e : Exp) (n : Int) : Bool := decide (nodesS 16 e n ≤ n)
theorem fewExp_fun (e : Exp) (n : Int) (h0 : 0 ≤ n) (h1 : n ≤ 1000) : Fun Tryz.prog 97 [eagg e, .u (.int .i64 n)] (· = .u (.bool (fewE e n))) := by
  have h2 := nodes_fun 16 e n h0 h1 (by omega)
  unfold fewE
  simp only [eagg] at h2 ⊢
  generalize nodesS 16 e n = y at h2 ⊢
  (refine Fun.of_body Tryz.func97 rfl (by simp) fun Γ hn => ?_); simp only [entry, List.zipIdx_cons, List.zipIdx_nil, List.map_cons, List.map_nil, Nat.zero_add, Tryz.ntmps97]
  repeat' (first
    | (refine H_cons ?_; simp)
    | (refine H_nil ?_; simp)
    | (refine V_sseq ?_; simp)
    | (refine V_ret ?_; simp only [RunK])
    | (refine CallP.fun_ (h2) (by first | rfl | fail) (by first | assumption | (simp; done) | fail) (by first | (simp; done) | (simp; rfl) | fail) (by first | (simp; done) | fail) (fun d hd => ?_); subst hd; (try simp))
    | fail)
  (refine EndOK.val (.inr rfl) ?_; simp [resD, oneOrTup, pureD, Tryz.results97])
mutual
def namesN : Exp → Int
  | .mk op _ _ _ args => (if op = 1 then 1 else 0) + namesNL args
def namesNL : List Exp → Int
  | [] => 0
  | e :: r => namesN e + namesNL r
end
theorem namesN_eq (e : Exp) : namesN e = (if e.op = 1 then 1 else 0) + namesNL e.args := by cases e with | mk op n u s args => rw [namesN]; rfl
mutual
theorem namesN_nonneg : ∀ e : Exp, 0 ≤ namesN e
  | .mk op n u s args => by
    rw [namesN]
    have := namesNL_nonneg args
    split <;> omega
theorem namesNL_nonneg : ∀ l : List Exp, 0 ≤ namesNL l
  | [] => by rw [namesNL]; omega
  | e :: r => by
    rw [namesNL]
    have := namesN_nonneg e
    have := namesNL_nonneg r
    omega
end
theorem namesNL_at {l : List Exp} {i : Nat} {x : Exp} (h : l[i]? = some x) : namesNL (l.take (i + 1)) = namesNL (l.take i) + namesN x := by
  induction l generalizing i with
  | nil => simp at h
  | cons a l ih =>
    cases i with
    | zero => simp at h; subst h; simp [namesNL]
    | succ i => rw [List.take_succ_cons, List.take_succ_cons, namesNL, namesNL, ih (i := i) (by simpa using h)]; omega
theorem namesNL_le {l : List Exp} (i : Nat) : namesNL (l.take i) ≤ namesNL l := by
  induction l generalizing i with
  | nil => simp
  | cons a l ih =>
    cases i with
    | zero => rw [List.take_zero]; have := namesNL_nonneg (a :: l); rw [show namesNL [] = 0 by rw [namesNL]]; exact this
    | succ i => rw [List.take_succ_cons, namesNL, namesNL]; have := ih i; omega
/-- Few nodes: few names. -/
theorem few_names : ∀ (L : Nat) (e : Exp) (most : Int), 0 ≤ most → nodesS L e most ≤ most → namesN e ≤ nodesS L e most
  | 0, e, most, _, h => by rw [nodesS] at h; omega
  | L + 1, e, most, h0, h => by
    rw [nodesS_succ] at h ⊢
    by_cases hs : 60 < e.s.length
    · rw [if_pos hs] at h; omega
    rw [if_neg hs] at h ⊢
    have key : ∀ (l : List Exp) (n : Int), 1 ≤ n → l.foldl (fun n x => if n ≤ most then n + nodesS L x (most - n) else n) n ≤ most → n + namesNL l ≤ l.foldl (fun n x => if n ≤ most then n + nodesS L x (most - n) else n) n := by
      intro l
      induction l with
      | nil => intro n _ _; rw [namesNL]; simp
      | cons a l ih =>
        intro n h1 h2
        rw [List.foldl_cons] at h2 ⊢
        by_cases hn : n ≤ most
        · rw [if_pos hn] at h2 ⊢
          have hb := nodes_bound L a (most - n) (by omega)
          have h3 := ih _ (by omega) h2
          have h4 : n + nodesS L a (most - n) ≤ most := by
            rcases Int.lt_or_le most (n + nodesS L a (most - n)) with h5 | h5
            · rw [foldl_done _ _ (by omega)] at h2; omega
            · exact h5
          have h5 := few_names L a (most - n) (by omega) (by omega)
          rw [namesNL]
          omega
        · rw [if_neg hn, foldl_done _ _ hn] at h2; omega
    have h1 := key e.args 1 (by omega) h
    rw [namesN_eq]
    by_cases h3 : e.op = 1
    · rw [if_pos h3]; omega
    · rw [if_neg h3]; omega
theorem rnames_fun : ∀ (m : Nat) (e : Exp), SizeOf.sizeOf e ≤ m → namesN e ≤ 1000000 → Fun Tryz.prog 107 [eagg e] (· = .u (.int .i64 (namesN e)))
  | 0, e, hm, _ => by cases e; simp at hm
  | m + 1, e, hm, hN => by
    have hch : ∀ x ∈ e.args, SizeOf.sizeOf x ≤ m := fun x hx => by
      cases e with
      | mk op n u s args =>
        have h1 := List.sizeOf_lt_of_mem (show x ∈ args from hx)
        simp at hm
        omega
    rw [namesN_eq] at hN ⊢
    have hnn := namesNL_nonneg e.args
    generalize hk : (if e.op = 1 then (1 : Int) else 0) = k0 at hN ⊢
    have hk01 : 0 ≤ k0 ∧ k0 ≤ 1 := by rw [← hk]; split <;> omega
    (refine Fun.of_body Tryz.func107 rfl (by simp) fun Γ hn => ?_); simp only [entry, List.zipIdx_cons, List.zipIdx_nil, List.map_cons, List.map_nil, Nat.zero_add, Tryz.ntmps107]
    simp only [eagg]
    refine V_lenA (x := 0) (j := 4) rfl rfl fun hl => ?_
    simp only [List.length_map] at hl
    repeat' (first
    | (refine H_cons ?_; simp)
    | (refine H_nil ?_; simp)
    | (refine V_sseq ?_; simp)
    | (refine V_scond ?_; simp)
    | (refine V_sblock ?_; simp)
    | (refine V_sregion ?_; simp)
    | (refine V_skip ?_; simp only [RunK])
    | (refine ⟨fun hc => ?_, fun hc => ?_⟩ <;> (try (exfalso; omega)))
    | fail)
    all_goals
      refine V_loopF (α := { i : Nat // i ≤ e.args.length }) [1] (fun i => [(3, .u (.int .i64 (k0 + namesNL (e.args.take i.1)))), (4, .u (.int .i64 i.1))]) (fun i => e.args.length - i.1) ⟨0, by omega⟩ ?_ ?_
      · exact (Wk.cut rfl (by simp [hn, St.lp]) (by simp [wkO, St.lp, getK_cons, getK, Ob.under, D.under, under_rowsD, under_entD, namesNL]) (by simp [wkU, St.lp, keepE, getK_cons, getK, D.under, namesNL]) (by simp [wkE, St.lp, keepE, getK_cons, getK, namesNL] <;> (try (intros; simp_all; done)) <;> (try (intros; omega)) <;> (try grind)))
      rintro ⟨i, hi⟩
      simp [St.lp, St.only, keepE, getK_cons, getK]
      rcases hx : e.args[i]? with _ | x
      · have hge : e.args.length ≤ i := by simpa using hx
        obtain rfl : i = e.args.length := by omega
        repeat' (first
    | (refine H_cons ?_; simp [hx])
    | (refine H_nil ?_; simp [hx])
    | (refine V_sseq ?_; simp [hx])
    | (refine V_scond ?_; simp [hx])
    | (refine V_ret ?_; simp only [RunK])
    | (refine V_exit ?_; simp [RunK])
    | fail)
        (refine EndOK.val (.inr rfl) ?_; simp [resD, oneOrTup, pureD, Tryz.results107])
      · have hlt : i < e.args.length := (List.getElem?_eq_some_iff.1 hx).1
        have hat := namesNL_at hx
        have hle := namesNL_le (l := e.args) (i + 1)
        have hn0 := namesNL_nonneg (e.args.take i)
        have hnx := namesN_nonneg x
        have h5 := rnames_fun m x (hch x (List.mem_of_getElem? hx)) (by omega)
        simp only [eagg] at h5
        repeat' (first
    | (refine H_cons ?_; simp [hx, x.row_eq])
    | (refine H_nil ?_; simp [hx, x.row_eq])
    | (refine ⟨by omega, ?_⟩)
    | (refine V_sseq ?_; simp [hx, x.row_eq])
    | (refine V_scond ?_; simp [hx, x.row_eq])
    | (refine V_sregion ?_; simp [hx, x.row_eq])
    | (refine V_skip ?_; simp only [RunK])
    | (refine ⟨?_, by omega⟩)
    | (intro hc <;> (try (exfalso; omega)))
    | (refine CallP.fun_ (h5) (by first | rfl | fail) (by first | assumption | (simp; done) | fail) (by first | (simp [hx, x.row_eq]; done) | (simp [hx, x.row_eq]; rfl) | fail) (by first | (simp; done) | fail) (fun d hd => ?_); subst hd; (try simp [hx, x.row_eq]))
    | fail)
        all_goals
          refine LoopW.next ⟨i + 1, by omega⟩ (by simp; omega) ?_
          exact (Wk.cut rfl (by simp [hn, St.lp]) (by simp [wkO, St.lp, getK_cons, getK, Ob.under, D.under, under_rowsD, under_entD, hat, Int.add_assoc]) (by simp [wkU, St.lp, keepE, getK_cons, getK, D.under, hat, Int.add_assoc]) (by simp [wkE, St.lp, keepE, getK_cons, getK, hat, Int.add_assoc] <;> (try (intros; simp_all; done)) <;> (try (intros; omega)) <;> (try grind)))
end Go.Proofs.YtepiegcjnaohjaaGreatDoor
namespace Go.Proofs.YtepiegcjnaohjaaGreatDoor
open Go Go.VL
attribute [local simp] hcons hstep evPure opd uOf putOK St.put St.at getK binD binI binS binB nilD aggD eqUs cmpK lookD lookR rangeD rangeS Go.VL.nextD Go.VL.nextS entryD keyD valU keyU lookK mkV lookK_entD updK_entD1 allUE allUE_entD makeMapD mapUpdD mapEff updK valM Key.kk shiftI arith unD convD pickD loadD cellsAt fieldAddrD fieldD indexAddrD indexSlD arrAddr indexD sliceD cutD lenD minmaxD nilCheckD buildD fillD cellsD isOne ones setAll mkAgg allU allocD boxD storeD St.add buildSliceD appendD rowsOf makeD setOb getK_setOb getK_del getK_cons stripL strip guardTmp entry chunks zcells valD argsV argsW argW argU1 argU0 argsU0 argsU1 calleeOf scalarD scalarU delAll effD St.effS RK_seq RK_seq_ret RK_seq_exit RK_blk RK_blk_ret RK_blk_exit RK_loop RK_loop_ret RK_loop_exit RK_done vs_seq vs_block vs_cond vs_region vs_loop vs_draw applyW mkD rdIds lentIds callOf calleeOf freeOp D.ids Op.operands Call.operands isEffOp makeIfD makeFuncD typeAssertD conc concs conc1 uOfV panicD IntKind.bits allU2 List.take_of_length_le List.range_succ
attribute [local irreducible] V G H HD HD2 RunK Eff CallP CallV EndOK Fun Ret FinOK LoopI LoopW EndW
/-- What the loop over the lets finds. -/
def fewLG (n m : Int) : List Let → Int → Int → Bool
  | [], _, _ => true
  | l :: r, i, p => if i ≤ m then (if 60 < l.name.length ∨ fewE l.body n = false then false else if 2000 < p * (1 + namesN l.body) then false else fewLG n m r (i + 1) (p * (1 + namesN l.body))) else true
def fewL (l : List Let) (m n : Int) : Bool := fewLG n m l 0 1 && decide ((l.length : Int) ≤ m)
theorem fewLets_fun (l : List Let) (m n : Int) (h0 : 0 ≤ n) (h1 : n ≤ 1000) (h2 : 0 ≤ m) (h3 : m ≤ 1000) : Fun Tryz.prog 51 [.u (letsU l), .u (.int .i64 m), .u (.int .i64 n)] (· = .u (.bool (fewL l m n))) := by
  unfold fewL
  generalize hB : fewLG n m l 0 1 = B
  (refine Fun.of_body Tryz.func51 rfl (by simp) fun Γ hn => ?_); simp only [entry, List.zipIdx_cons, List.zipIdx_nil, List.map_cons, List.map_nil, Nat.zero_add, Tryz.ntmps51]
  simp only [letsU]
  refine V_len (x := 0) rfl fun hl => ?_
  simp only [List.length_map] at hl
  repeat' (first
    | (refine H_cons ?_; simp)
    | (refine H_nil ?_; simp)
    | (refine V_sseq ?_; simp)
    | (refine V_sblock ?_; simp)
    | fail)
  refine V_loopF (α := { q : Nat × Int // q.1 ≤ l.length ∧ (q.1 : Int) ≤ m + 1 ∧ 1 ≤ q.2 ∧ q.2 ≤ 2000 ∧ B = fewLG n m (l.drop q.1) q.1 q.2 }) [0, 1, 2] (fun q => [(7, .u (.int .i64 q.1.2)), (8, .u (.int .i64 q.1.1))]) (fun q => l.length - q.1.1) ⟨(0, 1), by simp, by simp; omega, by simp, by simp, by simp [hB]⟩ ?_ ?_
  · exact (Wk.env rfl rfl rfl (by simp [wkE, St.lp, keepE, getK_cons, getK] <;> (try (intros; simp_all; done)) <;> (try (intros; omega)) <;> (try grind)))
  rintro ⟨⟨i, p⟩, hi, him, hp1, hp2, hb⟩
  simp only at hi him hp1 hp2 hb
  simp [St.lp, St.only, keepE, getK_cons, getK]
  rcases hx : l[i]? with _ | x
  · have hge : l.length ≤ i := by simpa using hx
    obtain rfl : i = l.length := by omega
    rw [List.drop_length, fewLG] at hb
    repeat' (first
    | (refine H_cons ?_; simp [hx])
    | (refine H_nil ?_; simp [hx])
    | (refine V_sseq ?_; simp [hx])
    | (refine V_scond ?_; simp [hx])
    | (refine V_ret ?_; simp only [RunK])
    | (refine V_exit ?_; simp [RunK])
    | fail)
    all_goals
      (refine EndOK.val (.inr rfl) ?_; simp [resD, oneOrTup, pureD, Tryz.results51])
    all_goals simp [hb]
  · have hlt : i < l.length := (List.getElem?_eq_some_iff.1 hx).1
    rw [List.drop_eq_getElem_cons hlt, (List.getElem?_eq_some_iff.1 hx).2, fewLG] at hb
    by_cases hm : (i : Int) ≤ m
    · rw [if_pos hm] at hb
      have h5 := fewExp_fun x.body n h0 h1
      simp only [eagg] at h5
      by_cases hn60 : 60 < x.name.length
      · rw [if_pos (.inl hn60)] at hb
        cases hf : fewE x.body n
        all_goals
          rw [hf] at h5
          repeat' (first
    | (refine H_cons ?_; simp [hx, hm])
    | (refine H_nil ?_; simp [hx, hm])
    | (refine ⟨by omega, ?_⟩)
    | (refine V_sseq ?_; simp [hx, hm])
    | (refine V_scond ?_; simp [hx, hm])
    | (refine V_ret ?_; simp only [RunK])
    | (refine V_skip ?_; simp only [RunK])
    | (refine ⟨?_, by omega⟩)
    | (intro hc <;> (try (exfalso; omega)))
    | fail)
          all_goals first
            | (exfalso; omega)
            | ((refine EndOK.val (.inr rfl) ?_; simp [resD, oneOrTup, pureD, Tryz.results51]); simp [hb]; done)
      · cases hf : fewE x.body n with
        | false =>
          rw [if_pos (.inr hf)] at hb
          rw [hf] at h5
          repeat' (first
    | (refine H_cons ?_; simp [hx, hm])
    | (refine H_nil ?_; simp [hx, hm])
    | (refine V_sseq ?_; simp [hx, hm])
    | (refine V_scond ?_; simp [hx, hm])
    | (refine V_ret ?_; simp only [RunK])
    | (refine V_skip ?_; simp only [RunK])
    | (refine ⟨?_, by omega⟩)
    | (intro hc <;> (try (exfalso; omega)))
    | (refine CallP.fun_ (h5) (by first | rfl | fail) (by first | assumption | (simp; done) | fail) (by first | (simp [hx, hm]; done) | (simp [hx, hm]; rfl) | fail) (by first | (simp; done) | fail) (fun d hd => ?_); subst hd; (try simp [hx, hm]))
    | fail)
          all_goals first
            | (exfalso; omega)
            | ((refine EndOK.val (.inr rfl) ?_; simp [resD, oneOrTup, pureD, Tryz.results51]); simp [hb]; done)
        | true =>
          rw [if_neg (by simp [hn60, hf])] at hb
          rw [hf] at h5
          have hfn : namesN x.body ≤ 1000 := by
            unfold fewE at hf
            simp only [decide_eq_true_eq] at hf
            have := few_names 16 x.body n h0 hf
            omega
          have hnn := namesN_nonneg x.body
          have h6 := rnames_fun _ x.body (Nat.le_refl _) (by omega)
          simp only [eagg] at h6
          generalize namesN x.body = y at h6 hb hfn hnn
          have hpy : p * (1 + y) ≤ 2000 * 1001 := Int.mul_le_mul hp2 (by omega) (by omega) (by omega)
          have hpy1 : 1 ≤ p * (1 + y) := by
            have := Int.mul_le_mul hp1 (show (1 : Int) ≤ 1 + y by omega) (by omega) (by omega)
            omega
          repeat' (first
    | (refine H_cons ?_; simp [hx, hm])
    | (refine H_nil ?_; simp [hx, hm])
    | (refine ⟨by omega, ?_⟩)
    | (refine V_sseq ?_; simp [hx, hm])
    | (refine V_scond ?_; simp [hx, hm])
    | (refine V_sregion ?_; simp [hx, hm])
    | (refine V_ret ?_; simp only [RunK])
    | (refine V_skip ?_; simp only [RunK])
    | (refine ⟨?_, by omega⟩)
    | (refine ⟨fun hc => ?_, fun hc => ?_⟩ <;> (try (exfalso; omega)))
    | (intro hc <;> (try (exfalso; omega)))
    | (refine CallP.fun_ (h5) (by first | rfl | fail) (by first | assumption | (simp; done) | fail) (by first | (simp [hx, hm]; done) | (simp [hx, hm]; rfl) | fail) (by first | (simp; done) | fail) (fun d hd => ?_); subst hd; (try simp [hx, hm]))
    | (refine CallP.fun_ (h6) (by first | rfl | fail) (by first | assumption | (simp; done) | fail) (by first | (simp [hx, hm]; done) | (simp [hx, hm]; rfl) | fail) (by first | (simp; done) | fail) (fun d hd => ?_); subst hd; (try simp [hx, hm]))
    | fail)
          all_goals first
            | (exfalso; omega)
            | ((refine EndOK.val (.inr rfl) ?_; simp [resD, oneOrTup, pureD, Tryz.results51]); rw [if_pos (by omega)] at hb; simp [hb]; done)
            | (refine LoopW.next ⟨(i + 1, p * (1 + y)), (by omega : i + 1 ≤ l.length), (by simp; omega), hpy1, (by omega : p * (1 + y) ≤ 2000), by rw [if_neg (by omega)] at hb; simpa using hb⟩ (by simp; omega) ?_; exact (Wk.env rfl rfl rfl (by simp [wkE, St.lp, keepE, getK_cons, getK] <;> (try (intros; simp_all; done)) <;> (try (intros; omega)) <;> (try grind))))
    · rw [if_neg hm] at hb
      repeat' (first
    | (refine H_cons ?_; simp [hx, hm])
    | (refine H_nil ?_; simp [hx, hm])
    | (refine V_sseq ?_; simp [hx, hm])
    | (refine V_scond ?_; simp [hx, hm])
    | (refine V_ret ?_; simp only [RunK])
    | (refine V_exit ?_; simp [RunK])
    | (refine ⟨?_, by omega⟩)
    | (intro hc <;> (try (exfalso; omega)))
    | fail)
      (refine EndOK.val (.inr rfl) ?_; simp [resD, oneOrTup, pureD, Tryz.results51])
      simp [hb]

theorem lex_fun (s : List UInt8) : Fun Tryz.prog 121 [.u (.str s)] (· = lexOut (lexL s)) := by
  unfold lexL
  by_cases hlong : 2000 < s.length
  · have hlong2 : 2000 < (s.length : Int) := by omega
    rw [if_pos hlong]
    (refine Fun.of_bodyW Tryz.func121 rfl (by simp) fun Γ hn => ?_); simp only [entry, List.zipIdx_cons, List.zipIdx_nil, List.map_cons, List.map_nil, Nat.zero_add, Tryz.ntmps121]
    repeat' (first
    | (refine H_cons ?_; simp [hlong, hlong2])
    | (refine H_nil ?_; simp [hlong, hlong2])
    | (refine V_sseq ?_; simp [hlong, hlong2])
    | (refine V_scond ?_; simp [hlong, hlong2])
    | (refine V_ret ?_; simp only [RunK])
    | fail)
    refine EndW.norm (EndW.here ?_)
    (refine EndOK.val (.inr rfl) ?_; simp [resD, oneOrTup, pureD, Tryz.results121, frz_obs, frz_env, norm_obs, norm_env, frz, frzOb, frzS, fv, fzVec, fzMap, fzBox, frzObS, frz_entD, frz_rowsD, normD, normU, norm1, normOb])
    simp [lexOut]
  rw [if_neg hlong]
  have hlong2 : ¬ 2000 < (s.length : Int) := by omega
  obtain ⟨R, hR⟩ : ∃ R, R = lexF (s.length + 1) s 0 := ⟨_, rfl⟩
  rw [← hR]
  (refine Fun.of_bodyW Tryz.func121 rfl (by simp) fun Γ hn => ?_); simp only [entry, List.zipIdx_cons, List.zipIdx_nil, List.map_cons, List.map_nil, Nat.zero_add, Tryz.ntmps121]
  repeat' (first
    | (refine H_cons ?_; simp [hlong, hlong2])
    | (refine H_nil ?_; simp [hlong, hlong2])
    | (refine V_sseq ?_; simp [hlong, hlong2])
    | (refine V_scond ?_; simp [hlong, hlong2])
    | (refine V_sblock ?_; simp [hlong, hlong2])
    | (refine V_skip ?_; simp only [RunK])
    | fail)
  refine V_wk _ (Wk.own 5 201 4 (by decide) rfl) ?_
  simp [St.own]
  refine V_loopO (α := { x : List Tok × Nat × Nat // x.2.1 ≤ s.length ∧ s.length < x.2.1 + x.2.2 ∧ x.1.length ≤ x.2.1 ∧ R = prepE x.1 (lexF x.2.2 s x.2.1) }) [0] (fun x => [(5, .vec 0 x.1.1.length), (6, .u (.int .i64 x.1.2.1))]) (fun x => [(0, .vec 201 4 (tokR x.1.1))]) 1 (fun x => x.1.2.2) ⟨([], 0, s.length + 1), by simp, by simp, by simp, by rw [prepE_nil, hR]⟩ ?_ ?_
  · exact (Wk.cut rfl (by simp [hn, St.lp]) (by simp [wkO, St.lp, getK_cons, getK, Ob.under, D.under, under_rowsD, under_entD, tokR]) (by simp [wkU, St.lp, keepE, getK_cons, getK, D.under, tokR]) (by simp [wkE, St.lp, keepE, getK_cons, getK, tokR] <;> (try (intros; simp_all; done)) <;> (try (intros; omega)) <;> (try grind)))
  rintro ⟨⟨acc, p, f⟩, h1, h2, h3, h4⟩
  simp only at h1 h2 h3 h4
  simp [St.lp, St.only, keepE, getK_cons, getK]
  obtain ⟨f', rfl⟩ : ∃ f', f = f' + 1 := ⟨f - 1, by omega⟩
  rw [lexF] at h4
  have hsp := span_fun (s.drop p) (by rw [List.length_drop]; omega) 198 isBlank (fun c _ => blank_fun c) (by simp)
  have hle := spanL_le isBlank (s.drop p)
  rw [List.length_drop] at hle
  obtain ⟨b, hb⟩ : ∃ b, b = spanL isBlank (s.drop p) := ⟨_, rfl⟩
  rw [← hb] at hsp hle h4
  have hp1 : (p : Int) ≤ s.length := by omega
  have hpb : (p : Int) + b ≤ s.length := by omega
  rcases hd : s.drop (p + b) with _ | ⟨c, r⟩
  · have hdl : (s.drop (p + b)).length = 0 := by rw [hd]; rfl
    rw [List.length_drop] at hdl
    have hpe : p + b = s.length := by omega
    have hpe2 : (p : Int) + b = s.length := by omega
    rw [hd] at h4
    simp only at h4
    have hap : tokR acc ++ [[D.u (.int .i64 0), D.u (.str []), D.u (.int .i64 0), D.u (.int .i64 (s.length : Int))]] = tokR (acc ++ [⟨0, [], 0, s.length⟩]) := by simp [tokR]
    have hlr : lenR 4 (tokR acc) := fun r hr => by obtain ⟨t, _, rfl⟩ := List.mem_map.1 hr; rfl
    rw [hpe] at h4
    repeat' (first
    | (refine H_cons ?_; simp [h1, hp1, hpe2, tokR_len, hap, hlr])
    | (refine H_nil ?_; simp [h1, hp1, hpe2, tokR_len, hap, hlr])
    | (refine ⟨by omega, ?_⟩)
    | (refine V_sseq ?_; simp [h1, hp1, hpe2, tokR_len, hap, hlr])
    | (refine V_scond ?_; simp [h1, hp1, hpe2, tokR_len, hap, hlr])
    | (refine V_sblock ?_; simp [h1, hp1, hpe2, tokR_len, hap, hlr])
    | (refine V_ret ?_; simp only [RunK])
    | (refine CallP.fun_ (hsp) (by first | rfl | fail) (by first | assumption | (simp; done) | fail) (by first | (simp [h1, hp1, hpe2, tokR_len, hap, hlr]; done) | (simp [h1, hp1, hpe2, tokR_len, hap, hlr]; rfl) | fail) (by first | (simp; done) | fail) (fun d hd => ?_); subst hd; (try simp [h1, hp1, hpe2, tokR_len, hap, hlr]))
    | fail)
    (refine EndW.frzN 3 ?_; simp [frzN, frz1, frz_env, frz_obs, St.frz, St.frzS, frzS, fv, fzVec, fzMap, fzBox, frzObS, frz_entD, frz_rowsD, del, frz, frzOb, tokR_all, tokR_len, List.length_append])
    refine EndW.norm (EndW.here ?_)
    (refine EndOK.val (.inr rfl) ?_; simp [resD, oneOrTup, pureD, Tryz.results121, frz_obs, frz_env, norm_obs, norm_env, frz, frzOb, frzS, fv, fzVec, fzMap, fzBox, frzObS, frz_entD, frz_rowsD, normD, normU, norm1, normOb, tokR_all, tokR_len, List.length_append])
    rw [h4]
    simp [prepE, lexOut]
  · have hdl : (s.drop (p + b)).length = r.length + 1 := by rw [hd]; rfl
    rw [List.length_drop] at hdl
    have hpe : ¬ p + b = s.length := by omega
    have hpe2 : ¬ (p : Int) + b = s.length := by omega
    have hnx := next_fun (s.drop (p + b)) (by rw [hd]; simp) (by rw [List.length_drop]; omega)
    unfold nextD at hnx
    rw [hd] at h4
    simp only at h4
    rw [hd] at hnx
    have hpb2 : ((p : Int) + b).toNat = p + b := by omega
    have hpb3 : p + b ≤ s.length := by omega
    cases hno : nextO (c :: r) with
    | error e =>
      rw [hno] at h4 hnx
      have he : e ≠ 0 := by
        unfold nextO at hno
        simp only at hno
        split at hno
        · split at hno <;> cases hno
          omega
        · split at hno
          · split at hno <;> cases hno
            omega
          · split at hno <;> cases hno
            omega
      repeat' (first
    | (refine H_cons ?_; simp [h1, hp1, hpe, hpe2, hd, he, hpb, hpb2, hpb3])
    | (refine H_nil ?_; simp [h1, hp1, hpe, hpe2, hd, he, hpb, hpb2, hpb3])
    | (refine ⟨by omega, ?_⟩)
    | (refine V_sseq ?_; simp [h1, hp1, hpe, hpe2, hd, he, hpb, hpb2, hpb3])
    | (refine V_scond ?_; simp [h1, hp1, hpe, hpe2, hd, he, hpb, hpb2, hpb3])
    | (refine V_sblock ?_; simp [h1, hp1, hpe, hpe2, hd, he, hpb, hpb2, hpb3])
    | (refine V_ret ?_; simp only [RunK])
    | (refine V_skip ?_; simp only [RunK])
    | (refine CallP.fun_ (hsp) (by first | rfl | fail) (by first | assumption | (simp; done) | fail) (by first | (simp [h1, hp1, hpe, hpe2, hd, he, hpb, hpb2, hpb3]; done) | (simp [h1, hp1, hpe, hpe2, hd, he, hpb, hpb2, hpb3]; rfl) | fail) (by first | (simp; done) | fail) (fun d hd => ?_); subst hd; (try simp [h1, hp1, hpe, hpe2, hd, he, hpb, hpb2, hpb3]))
    | (refine CallP.fun_ (hnx) (by first | rfl | fail) (by first | assumption | (simp; done) | fail) (by first | (simp [h1, hp1, hpe, hpe2, hd, he, hpb, hpb2, hpb3]; done) | (simp [h1, hp1, hpe, hpe2, hd, he, hpb, hpb2, hpb3]; rfl) | fail) (by first | (simp; done) | fail) (fun d hd => ?_); subst hd; (try simp [h1, hp1, hpe, hpe2, hd, he, hpb, hpb2, hpb3]))
    | fail)
      refine EndW.norm (EndW.here ?_)
      (refine EndOK.val (.inr rfl) ?_; simp [resD, oneOrTup, pureD, Tryz.results121, frz_obs, frz_env, norm_obs, norm_env, frz, frzOb, frzS, fv, fzVec, fzMap, fzBox, frzObS, frz_entD, frz_rowsD, normD, normU, norm1, normOb])
      rw [h4]
      simp [prepE, lexOut]
    | ok t =>
      rw [hno] at h4 hnx
      obtain ⟨ht1, ht2⟩ := nextO_text hno
      simp only [List.length_cons] at ht2
      have hap : tokR acc ++ [[D.u (.int .i64 t.kind), D.u (.str t.text), D.u (.int .i64 t.n), D.u (.int .i64 ((p : Int) + b))]] = tokR (acc ++ [{ t with pos := ((p + b : Nat) : Int) }]) := by simp [tokR]
      have hlr : lenR 4 (tokR acc) := fun r hr => by obtain ⟨t, _, rfl⟩ := List.mem_map.1 hr; rfl
      repeat' (first
    | (refine H_cons ?_; simp [h1, hp1, hpe, hpe2, hd, hpb, hpb2, hpb3, tokR_len, hap, hlr])
    | (refine H_nil ?_; simp [h1, hp1, hpe, hpe2, hd, hpb, hpb2, hpb3, tokR_len, hap, hlr])
    | (refine ⟨by omega, ?_⟩)
    | (refine V_sseq ?_; simp [h1, hp1, hpe, hpe2, hd, hpb, hpb2, hpb3, tokR_len, hap, hlr])
    | (refine V_scond ?_; simp [h1, hp1, hpe, hpe2, hd, hpb, hpb2, hpb3, tokR_len, hap, hlr])
    | (refine V_sblock ?_; simp [h1, hp1, hpe, hpe2, hd, hpb, hpb2, hpb3, tokR_len, hap, hlr])
    | (refine V_sregion ?_; simp [h1, hp1, hpe, hpe2, hd, hpb, hpb2, hpb3, tokR_len, hap, hlr])
    | (refine V_skip ?_; simp only [RunK])
    | (refine CallP.fun_ (hsp) (by first | rfl | fail) (by first | assumption | (simp; done) | fail) (by first | (simp [h1, hp1, hpe, hpe2, hd, hpb, hpb2, hpb3, tokR_len, hap, hlr]; done) | (simp [h1, hp1, hpe, hpe2, hd, hpb, hpb2, hpb3, tokR_len, hap, hlr]; rfl) | fail) (by first | (simp; done) | fail) (fun d hd => ?_); subst hd; (try simp [h1, hp1, hpe, hpe2, hd, hpb, hpb2, hpb3, tokR_len, hap, hlr]))
    | (refine CallP.fun_ (hnx) (by first | rfl | fail) (by first | assumption | (simp; done) | fail) (by first | (simp [h1, hp1, hpe, hpe2, hd, hpb, hpb2, hpb3, tokR_len, hap, hlr]; done) | (simp [h1, hp1, hpe, hpe2, hd, hpb, hpb2, hpb3, tokR_len, hap, hlr]; rfl) | fail) (by first | (simp; done) | fail) (fun d hd => ?_); subst hd; (try simp [h1, hp1, hpe, hpe2, hd, hpb, hpb2, hpb3, tokR_len, hap, hlr]))
    | fail)
      refine LoopW.next ⟨(acc ++ [{ t with pos := ((p + b : Nat) : Int) }], p + b + t.text.length, f'), by simp; omega, by simp; omega, by simp; omega, ?_⟩ (by simp) ?_
      · rw [h4]
        simp only
        cases lexF f' s (p + b + t.text.length) <;> simp [prepE]
      · skip
        exact (Wk.ren ((fun i => if i = 0 then 3 else i)) rfl (by first | (simp [hn]; done) | (intro i hi; rw [hn] at hi; constructor <;> (try simp) <;> (try (intro _)) <;> omega)) (by simp [wkER, St.lp, keepE, getK_cons, getK, getK_del, getK_setOb, D.under, D.le, D.ren, pure_tokR, under_tokR] <;> (try (intros; simp_all; done)) <;> (try omega)) (by simp [wkR, St.lp, getK_cons, getK, getK_del, getK_setOb, obR, leU, pureRow, pureRows, Ob.under, D.under, D.le, D.ren, pure_tokR, under_tokR] <;> (try (intros; simp_all; done)) <;> (try omega)) (by simp [pure_tokR, under_tokR]))

abbrev oagg (o : Opr) : D := .u (.agg [.str o.text, .int .i64 o.op, .int .i64 o.form])
abbrev oprsU (l : List Opr) : U := .sl (l.map fun o => [.str o.text, .int .i64 o.op, .int .i64 o.form])
theorem operators_fun : Fun Tryz.prog 139 [] (· = .u (oprsU oprs)) := by
  unfold oprsU oprs
  (refine Fun.of_bodyW Tryz.func139 rfl (by simp) fun Γ hn => ?_); simp only [entry, List.zipIdx_cons, List.zipIdx_nil, List.map_cons, List.map_nil, Nat.zero_add, Tryz.ntmps139]
  repeat' (first
    | (refine H_cons ?_; simp [zcells, chunks])
    | (refine H_nil ?_; simp [zcells, chunks])
    | (refine V_sseq ?_; simp [zcells, chunks])
    | (refine V_ret ?_; simp only [RunK])
    | fail)
  (refine EndW.frzN 1 ?_; simp [frzN, frz1, frz_env, frz_obs, St.frz, St.frzS, frzS, fv, fzVec, fzMap, fzBox, frzObS, frz_entD, frz_rowsD, del, frz, frzOb])
  refine EndW.here ?_
  (refine EndOK.val (.inr rfl) ?_; simp [resD, oneOrTup, pureD, Tryz.results139])
theorem expC_fun (l : List Tok) (q : Nat) (o : Opr) (hq : q < l.length) (hl : l.length ≤ 1000000) : Fun Tryz.prog 248 (oagg o :: [U.row [pRow l q] 0].map .u) (· = .u (.bool (isB l q o.text))) := by
  have h1 := is_fun l q o.text hq hl
  simp only [List.map_cons, List.map_nil, oagg]
  (refine Fun.of_body Tryz.func248 rfl (by simp) fun Γ hn => ?_); simp only [entry, List.zipIdx_cons, List.zipIdx_nil, List.map_cons, List.map_nil, Nat.zero_add, Tryz.ntmps248]
  repeat' (first
    | (refine H_cons ?_; simp)
    | (refine H_nil ?_; simp)
    | (refine V_sseq ?_; simp)
    | (refine V_ret ?_; simp only [RunK])
    | (refine CallP.fun_ (h1) (by first | rfl | fail) (by first | assumption | (simp; done) | fail) (by first | (simp; done) | (simp; rfl) | fail) (by first | (simp; done) | fail) (fun d hd => ?_); subst hd; (try simp))
    | fail)
  (refine EndOK.val (.inr rfl) ?_; simp [resD, oneOrTup, pureD, Tryz.results248])
theorem indexO_fun (l : List (Opr)) (f : FuncId) (caps : List U) (p : Opr → Bool) (hf : ∀ n ∈ l, Fun Tryz.prog f (oagg n :: caps.map .u) (· = .u (.bool (p n)))) (hcl : callable Tryz.prog f = true)
    (hca : ∀ o, argsW o (caps.map .u) = some (caps.map .u, [])) : Fun Tryz.prog 140 [.u (oprsU l), .fnc (.func f) (caps.map .u)] (· = .u (.int .i64 (idxP p l 0))) := by
  (refine Fun.of_body Tryz.func140 rfl (by simp) fun Γ hn => ?_); simp only [entry, List.zipIdx_cons, List.zipIdx_nil, List.map_cons, List.map_nil, Nat.zero_add, Tryz.ntmps140]
  simp only [oprsU]
  refine V_len (x := 0) rfl fun hl => ?_
  simp at hl
  repeat' (first
    | (refine H_cons ?_; simp)
    | (refine H_nil ?_; simp)
    | (refine V_sseq ?_; simp)
    | (refine V_sblock ?_; simp)
    | fail)
  refine V_loopF (α := { i : Nat // i ≤ l.length ∧ ∀ c ∈ l.take i, p c = false }) [0, 1, 7] (fun i => [(8, .u (.int .i64 i.1))]) (fun i => l.length - i.1) ⟨0, by omega, by simp⟩ ?_ ?_
  · exact (Wk.env rfl rfl rfl (by simp [wkE, St.lp, keepE, getK_cons, getK] <;> (try (intros; simp_all; done)) <;> (try (intros; omega)) <;> (try grind)))
  rintro ⟨i, hi, hb⟩
  simp [St.lp, St.only, keepE, getK_cons, getK]
  rcases hx : l[i]? with _ | n
  · have hge : l.length ≤ i := by simpa using hx
    repeat' (first
    | (refine H_cons ?_; simp [hx])
    | (refine H_nil ?_; simp [hx])
    | (refine ⟨by omega, ?_⟩)
    | (refine V_sseq ?_; simp [hx])
    | (refine V_ret ?_; simp only [RunK])
    | (refine V_exit ?_; simp [RunK])
    | (intro hc <;> (try (exfalso; omega)))
    | fail)
    (refine EndOK.val (.inr rfl) ?_; simp [resD, oneOrTup, pureD, Tryz.results140])
    rw [List.take_of_length_le hge] at hb
    exact (idxP_none hb).symm
  · have hlt : i < l.length := (List.getElem?_eq_some_iff.1 hx).1
    have h1 := hf n (List.mem_of_getElem? hx)
    simp only [oagg] at h1
    cases hp : p n
    · rw [hp] at h1
      repeat' (first
    | (refine H_cons ?_; simp [hx, hca])
    | (refine H_nil ?_; simp [hx, hca])
    | (refine ⟨by omega, ?_⟩)
    | (refine V_sseq ?_; simp [hx, hca])
    | (refine V_scond ?_; simp [hx, hca])
    | (refine V_sregion ?_; simp [hx, hca])
    | (refine V_skip ?_; simp only [RunK])
    | (refine ⟨?_, by omega⟩)
    | (intro hc <;> (try (exfalso; omega)))
    | (refine CallP.fun_ (h1) (by first | rfl | fail) (by first | assumption | (simp; done) | fail) (by first | (simp [hx, hca]; done) | (simp [hx, hca]; rfl) | fail) (by first | (simp; done) | fail) (fun d hd => ?_); subst hd; (try simp [hx, hca]))
    | fail)
      refine LoopW.next ⟨i + 1, by omega, take_succ_all hx hb hp⟩ (by simp; omega) ?_
      exact (Wk.env rfl rfl rfl (by simp [wkE, St.lp, keepE, getK_cons, getK] <;> (try (intros; simp_all; done)) <;> (try (intros; omega)) <;> (try grind)))
    · rw [hp] at h1
      repeat' (first
    | (refine H_cons ?_; simp [hx, hca])
    | (refine H_nil ?_; simp [hx, hca])
    | (refine V_sseq ?_; simp [hx, hca])
    | (refine V_scond ?_; simp [hx, hca])
    | (refine V_ret ?_; simp only [RunK])
    | (refine V_skip ?_; simp only [RunK])
    | (refine ⟨?_, by omega⟩)
    | (intro hc <;> (try (exfalso; omega)))
    | (refine CallP.fun_ (h1) (by first | rfl | fail) (by first | assumption | (simp; done) | fail) (by first | (simp [hx, hca]; done) | (simp [hx, hca]; rfl) | fail) (by first | (simp; done) | fail) (fun d hd => ?_); subst hd; (try simp [hx, hca]))
    | fail)
      (refine EndOK.val (.inr rfl) ?_; simp [resD, oneOrTup, pureD, Tryz.results140])
      rw [idxP_at hb hx hp]
      omega
theorem idxP_find {p : Opr → Bool} : ∀ (L : List Opr) (k : Int), (L.find? p = none → idxP p L k = -1) ∧ ∀ x, L.find? p = some x → ∃ j : Nat, L[j]? = some x ∧ idxP p L k = k + j
  | [], k => ⟨fun _ => rfl, fun x h => by simp at h⟩
  | a :: L, k => by
    by_cases h : p a = true
    · refine ⟨fun h1 => by simp [h] at h1, fun x h1 => ?_⟩
      rw [List.find?_cons, h] at h1
      cases h1
      exact ⟨0, rfl, by rw [idxP, if_pos h]; simp⟩
    · have h' : p a = false := by simpa using h
      obtain ⟨h1, h2⟩ := idxP_find L (k + 1)
      refine ⟨fun h3 => ?_, fun x h3 => ?_⟩
      · rw [List.find?_cons, h'] at h3
        rw [idxP, if_neg h]
        exact h1 h3
      · rw [List.find?_cons, h'] at h3
        obtain ⟨j, h4, h5⟩ := h2 x h3
        exact ⟨j + 1, h4, by rw [idxP, if_neg h, h5]; omega⟩
theorem indexO_ret (l : List Tok) (q : Nat) (hq : q < l.length) (hl : l.length ≤ 1000000) : Fun Tryz.prog 140 [.u (oprsU oprs), .fnc (.func 248) [.u (.row [pRow l q] 0)]]
    (· = .u (.int .i64 (idxP (fun o => isB l q o.text) oprs 0))) :=
  indexO_fun oprs 248 [U.row [pRow l q] 0] (fun o => isB l q o.text) (fun o _ => expC_fun l q o hq hl) rfl (fun o => rfl)
end Go.Proofs.YtepiegcjnaohjaaGreatDoor
namespace Go.Proofs.YtepiegcjnaohjaaGreatDoor
open Go Go.VL
structure Cl where
  mark : Int
  circle : Int
  who : Int
  n : Int
  event : Int
  day : Int
  proofs : Int
  jury : List Int
  again : List Int
  state : Int
  grant : Int
  frm : Int
def clCells (c : Cl) : List U := [.int .i64 c.mark, .int .i64 c.circle, .int .i64 c.who, .int .i64 c.n, .int .i64 c.event, .int .i64 c.day, .int .i64 c.proofs, .sl (c.jury.map fun x => [.int .i64 x]), .sl (c.again.map fun x => [.int .i64 x]), .int .i64 c.state, .int .i64 c.grant, .int .i64 c.frm]
def clU (c : Cl) : U := .agg (clCells c)
/-- The first voices of members. -/
def cntN (members : List Int) : List Int → List Vo → List Vo
  | _, [] => []
  | seen, v :: r => if v.who ∈ seen ∨ v.who ∉ members then cntN members seen r else v :: cntN members (seen ++ [v.who]) r
theorem cnt_cntN (members : List Int) (u : Int) : ∀ (l : List Vo) (seen : List Int), (∀ v ∈ l, v.day ≤ u) → cnt members u seen l = cntN members seen l
  | [], _, _ => rfl
  | v :: l, seen, h => by
    have h1 : ¬ u < v.day := by have := h v (by simp); omega
    have h2 : ∀ v ∈ l, v.day ≤ u := fun w hw => h w (by simp [hw])
    rw [cnt, cntN]
    simp only [h1, false_or]
    rw [cnt_cntN members u l seen h2, cnt_cntN members u l _ h2]
theorem cntN_len (members : List Int) : ∀ (l : List Vo) (seen : List Int), (cntN members seen l).length ≤ l.length
  | [], _ => by simp [cntN]
  | v :: l, seen => by
    rw [cntN]
    split
    · have := cntN_len members l seen; simp; omega
    · have := cntN_len members l (seen ++ [v.who]); simp; omega
theorem cntN_app (members : List Int) : ∀ (a b : List Vo) (seen : List Int), cntN members seen (a ++ b) = cntN members seen a ++ cntN members (seen ++ (cntN members seen a).map (·.who)) b
  | [], b, seen => by simp [cntN]
  | v :: a, b, seen => by
    rw [List.cons_append, cntN, cntN]
    split
    · exact cntN_app members a b seen
    · rw [cntN_app members a b]; simp
theorem cntN_snoc {members : List Int} {l : List Vo} {i : Nat} {v : Vo} (h : l[i]? = some v) : cntN members [] (l.take (i + 1)) = cntN members [] (l.take i) ++ (if v.who ∈ (cntN members [] (l.take i)).map (·.who) ∨ v.who ∉ members then [] else [v]) := by
  obtain ⟨hi, rfl⟩ := List.getElem?_eq_some_iff.1 h
  rw [List.take_succ_eq_append_getElem hi, cntN_app, List.nil_append]
  congr 1
theorem cntN_out (members : List Int) : ∀ (l : List Vo) (seen : List Int), ((cntN members seen l).map (·.who)).Nodup ∧ ∀ v ∈ cntN members seen l, v.who ∈ members ∧ v.who ∉ seen ∧ l.find? (fun w => decide (w.who = v.who)) = some v
  | [], _ => by simp [cntN]
  | v :: l, seen => by
    rw [cntN]
    split
    · rename_i h
      obtain ⟨h1, h2⟩ := cntN_out members l seen
      refine ⟨h1, fun w hw => ?_⟩
      obtain ⟨a, b, c⟩ := h2 w hw
      refine ⟨a, b, ?_⟩
      rw [List.find?_cons_of_neg, c]
      simp
      intro e
      rcases h with h | h
      · exact b (e ▸ h)
      · exact h (e ▸ a)
    · rename_i h
      obtain ⟨h1, h2⟩ := cntN_out members l (seen ++ [v.who])
      have h3 : v.who ∉ seen ∧ v.who ∈ members := by grind
      refine ⟨?_, ?_⟩
      · rw [List.map_cons, List.nodup_cons]
        refine ⟨fun hm => ?_, h1⟩
        obtain ⟨w, hw, e⟩ := List.mem_map.1 hm
        exact (h2 w hw).2.1 (by simp [e])
      · intro w hw
        rcases List.mem_cons.1 hw with rfl | hw
        · exact ⟨h3.2, h3.1, by simp⟩
        · obtain ⟨a, b, c⟩ := h2 w hw
          simp at b
          refine ⟨a, b.1, ?_⟩
          rw [List.find?_cons_of_neg, c]
          simp
          exact fun e => b.2 e.symm
theorem cntN_same (members : List Int) : ∀ (l : List Vo) (seen : List Int), (l.map (·.who)).Nodup → (∀ v ∈ l, v.who ∈ members ∧ v.who ∉ seen) → cntN members seen l = l
  | [], _, _, _ => rfl
  | v :: l, seen, hd, h => by
    rw [List.map_cons, List.nodup_cons] at hd
    obtain ⟨h1, h2⟩ := h v (by simp)
    rw [cntN, if_neg (by rintro (h | h); exact h2 h; exact h h1), cntN_same members l _ hd.2 fun w hw => ⟨(h w (by simp [hw])).1, fun hm => ?_⟩]
    rcases List.mem_append.1 hm with hm | hm
    · exact (h w (by simp [hw])).2 hm
    · simp at hm
      exact hd.1 (hm ▸ List.mem_map.2 ⟨w, hw, rfl⟩)
theorem cntN_idem (members : List Int) (l : List Vo) : cntN members [] (cntN members [] l) = cntN members [] l := by
  obtain ⟨h1, h2⟩ := cntN_out members l []
  exact cntN_same members _ _ h1 fun v hv => ⟨(h2 v hv).1, by simp⟩
theorem cntN_back (members : List Int) (l : List Vo) : cntN members [] (cntN members [] l).reverse = (cntN members [] l).reverse := by
  obtain ⟨h1, h2⟩ := cntN_out members l []
  exact cntN_same members _ _ (by rw [List.map_reverse]; exact List.pairwise_reverse.2 (List.Pairwise.imp Ne.symm h1)) fun v hv => ⟨(h2 v (List.mem_reverse.1 hv)).1, by simp⟩
/-- What a jury says. -/
def juryM (jury : List Int) (l : List Vo) : Int × Int :=
  if validM jury = false then (0, 1) else
    let c := cntN jury [] l
    if ((jury.length / 2 : Nat) : Int) + 1 ≤ yesN c then (1, 0) else if (jury.length : Int) - (((jury.length / 2 : Nat) : Int) + 1) < (c.length : Int) - yesN c then (2, 0) else (0, 0)
theorem yesN_back (l : List Vo) : yesN l.reverse = yesN l := by simp [yesN]
theorem jury_first (jury : List Int) (l : List Vo) : juryM jury (cntN jury [] l) = juryM jury l := by simp only [juryM, cntN_idem]
theorem jury_back (jury : List Int) (l : List Vo) : juryM jury (cntN jury [] l).reverse = juryM jury l := by simp only [juryM, cntN_back, yesN_back, List.length_reverse]
def deciders (c : Cl) : List Int := if c.again = [] then c.jury else c.again
def verM (c : Cl) (l : List Vo) : Int := (juryM (deciders c) l).1
def dayB (n : Int) : Bool := decide (0 ≤ n) && decide (n ≤ 1048576)
def grantM (c : Cl) (cover : Int) : Int := max (min c.n cover) 0
/-- What the end of a day does to an open claim. -/
def ruled (c : Cl) (wait period v cover today : Int) : Cl :=
  if v = 1 ∧ 0 < c.proofs then (if 0 < grantM c cover then { c with state := 1, grant := grantM c cover, frm := today + 1 + wait } else { c with state := 3, frm := today })
  else if v = 2 ∨ c.frm ≤ today - period then { c with state := 3, frm := today } else c
def opened (c : Cl) (today : Int) : Cl := if c.state = 1 ∧ c.frm ≤ today + 1 then { c with state := 2 } else c
/-- What Step returns. -/
def stepM (c : Cl) (b : By) (cover : Int) (l : List Vo) (today : Int) : Cl :=
  if rightBy b = true ∧ dayB today = true then opened (if c.state = 0 then ruled c b.wait b.period (verM c l) cover today else c) today else c
def proveM (c : Cl) : Cl × Int := if c.state ≠ 0 then (c, 7) else if 1000 ≤ c.proofs then (c, 6) else ({ c with proofs := c.proofs + 1 }, 0)
end Go.Proofs.YtepiegcjnaohjaaGreatDoor
namespace Go.Proofs.YtepiegcjnaohjaaGreatDoor
open Go Go.VL
def appealM (c : Cl) (b : By) (again : List Int) (today : Int) : Cl × Int :=
  if rightBy b = false ∨ dayB today = false ∨ again = [] then (c, 1)
  else if c.state ≠ 3 then (c, 7) else if c.again ≠ [] then (c, 5) else if c.frm < today - b.period then (c, 25) else ({ c with state := 0, again := again, frm := today }, 0)
def payM (c : Cl) (n : Int) : Cl × Int := if c.state = 1 then (c, 26) else if c.state ≠ 2 then (c, 7) else if c.grant < n then (c, 31) else if n < c.grant then (c, 24) else ({ c with state := 4 }, 0)
structure Ivc (n0 w0 : Int) (one two : List Int) (i : Nat) (c : Cl) : Prop where
  hn : c.n = n0
  hw : c.who = w0
  p0 : 0 ≤ c.proofs
  p1 : c.proofs ≤ i
  s0 : 0 ≤ c.state
  s1 : c.state ≤ 4
  hj : c.jury = one
  ha : c.again = [] ∨ (c.again = two ∧ two ≠ [])
theorem Ivc.next {n0 w0 : Int} {one two : List Int} {i : Nat} {c : Cl} (h : Ivc n0 w0 one two i c) : Ivc n0 w0 one two (i + 1) c :=
  ⟨h.hn, h.hw, h.p0, by have := h.p1; omega, h.s0, h.s1, h.hj, h.ha⟩
end Go.Proofs.YtepiegcjnaohjaaGreatDoor
namespace Go.Proofs.YtepiegcjnaohjaaGreatDoor
open Go Go.VL
def askE : En := ⟨5, 0, 20, [], 10, 0, 0, 300, 18, -1, [], [], []⟩
theorem plain_ask : plainB askE = true := by decide
end Go.Proofs.YtepiegcjnaohjaaGreatDoor
namespace Go.Proofs.YtepiegcjnaohjaaGreatDoor
open Go Go.VL
theorem ruled_keeps (c : Cl) (w p v cv t : Int) : (ruled c w p v cv t).jury = c.jury ∧ (ruled c w p v cv t).again = c.again := by
  unfold ruled
  split
  · split <;> exact ⟨rfl, rfl⟩
  · split <;> exact ⟨rfl, rfl⟩
theorem opened_keeps (c : Cl) (t : Int) : (opened c t).jury = c.jury ∧ (opened c t).again = c.again := by unfold opened; split <;> exact ⟨rfl, rfl⟩
theorem stepM_keeps (c : Cl) (b : By) (cv : Int) (l : List Vo) (t : Int) : (stepM c b cv l t).jury = c.jury ∧ (stepM c b cv l t).again = c.again := by
  unfold stepM
  split
  · rw [(opened_keeps _ t).1, (opened_keeps _ t).2]
    split
    · exact ruled_keeps _ _ _ _ _ _
    · exact ⟨rfl, rfl⟩
  · exact ⟨rfl, rfl⟩
theorem step_first (c : Cl) (b : By) (cv : Int) (l : List Vo) (t : Int) : stepM c b cv (cntN (deciders c) [] l) t = stepM c b cv l t := by
  unfold stepM verM
  rw [jury_first]
theorem step_back (c : Cl) (b : By) (cv : Int) (l : List Vo) (t : Int) : stepM c b cv (cntN (deciders c) [] l).reverse t = stepM c b cv l t := by
  unfold stepM verM
  rw [jury_back]
def hasI (x : Int) (l : List Int) : Bool := decide (x ∈ l)
def hasV (x : Int) (l : List Vo) : Bool := decide (x ∈ l.map (·.who))
theorem hasI_nil (x : Int) : hasI x [] = false := rfl
theorem hasV_nil (x : Int) : hasV x [] = false := rfl
theorem hasI_snoc {l : List Int} {i : Nat} {a : Int} (x : Int) (h : l[i]? = some a) : hasI x (l.take (i + 1)) = (hasI x (l.take i) || decide (a = x)) := by
  obtain ⟨hi, rfl⟩ := List.getElem?_eq_some_iff.1 h
  rw [List.take_succ_eq_append_getElem hi]
  simp only [hasI, List.mem_append, List.mem_singleton, Bool.decide_or, eq_comm (a := x) (b := l[i])]
theorem hasV_snoc {l : List Vo} {i : Nat} {a : Vo} (x : Int) (h : l[i]? = some a) : hasV x (l.take (i + 1)) = (hasV x (l.take i) || decide (a.who = x)) := by
  obtain ⟨hi, rfl⟩ := List.getElem?_eq_some_iff.1 h
  rw [List.take_succ_eq_append_getElem hi]
  simp only [hasV, List.map_append, List.mem_append, List.map_cons, List.map_nil, List.mem_singleton, Bool.decide_or, eq_comm (a := x) (b := l[i].who)]
theorem back_snoc {l : List Vo} {i : Nat} {a : Vo} (h : l[l.length - 1 - i]? = some a) (hi : i < l.length) : l.reverse.take (i + 1) = l.reverse.take i ++ [a] := by
  have h1 : l.reverse[i]? = some a := by rw [List.getElem?_reverse hi]; exact h
  obtain ⟨hj, rfl⟩ := List.getElem?_eq_some_iff.1 h1
  rw [List.take_succ_eq_append_getElem hj]
end Go.Proofs.YtepiegcjnaohjaaGreatDoor
namespace Go.Proofs.YtepiegcjnaohjaaGreatDoor
open Go Go.VL Go.ChangeShapes Go.WideShapes Go.ChangeAt Go.RowKit
theorem by_of {r : List U} (h : HasRow Tryz.prog 57 r) : ∃ b : By, r = byCells b := by
  obtain ⟨rs, hr, h⟩ := h.of_struct sf57
  match rs, h with
  | [a1, a2, a3, a4, a5, a6, a7, a8, a9, a10, a11, a12, a13, a14, a15, a16, a17], h =>
    obtain ⟨h1, h2, h3, h4, h5, h6, h7, h8, h9, h10, h11, h12, h13, h14, h15, h16, h17, _⟩ := h
    obtain ⟨x1, rfl, _⟩ := h1.of_int io3
    obtain ⟨x2, rfl, _⟩ := h2.of_int io3
    obtain ⟨x3, rfl, _⟩ := h3.of_int io3
    obtain ⟨x4, rfl, _⟩ := h4.of_int io3
    obtain ⟨x5, rfl, _⟩ := h5.of_int io3
    obtain ⟨x6, rfl, _⟩ := h6.of_int io3
    obtain ⟨x7, rfl⟩ := h7.of_bool (by simp)
    obtain ⟨x8, rfl, _⟩ := h8.of_int io3
    obtain ⟨x9, rfl, _⟩ := h9.of_int io3
    obtain ⟨x10, rfl, _⟩ := h10.of_int io3
    obtain ⟨x11, rfl, _⟩ := h11.of_int io3
    obtain ⟨rows, rfl, _, h12⟩ := h12.of_slice es52
    obtain ⟨l, rfl, _⟩ := rows_list (fun l : Let => [.str l.name, .int .i64 l.body.op, .int .i64 l.body.n, .int .i64 l.body.unit, .str l.body.s, .sl (l.body.args.map Exp.row)]) (fun _ => True) (rows := rows) fun r hr => let_of (h12 r hr)
    obtain ⟨e1, rfl⟩ := expU_of h13
    obtain ⟨e2, rfl⟩ := expU_of h14
    obtain ⟨e3, rfl⟩ := expU_of h15
    obtain ⟨e4, rfl⟩ := expU_of h16
    obtain ⟨e5, rfl⟩ := expU_of h17
    exact ⟨⟨x1, x2, x3, x4, x5, x6, x7, x8, x9, x10, x11, l, e1, e2, e3, e4, e5⟩, by rw [hr]; rfl⟩
end Go.Proofs.YtepiegcjnaohjaaGreatDoor
namespace Go.Proofs.YtepiegcjnaohjaaGreatDoor
open Go Go.VL Go.ChangeShapes Go.WideShapes Go.ChangeAt Go.RowKit
theorem inR_of {rows : List (List U)} (h : ∀ r ∈ rows, HasRow Tryz.prog 3 r) : ∃ l : List Int, rows = l.map fun n => [.int .i64 n] := by
  obtain ⟨l, e, _⟩ := rows_list (fun n : Int => [.int .i64 n]) (fun _ => True) (rows := rows) fun r hr => by
    obtain ⟨n, e, _⟩ := (h r hr).of_int io3
    exact ⟨n, e, trivial⟩
  exact ⟨l, e⟩
theorem cl_of {r : List U} (h : HasRow Tryz.prog 89 r) : ∃ c : Cl, r = clCells c := by
  obtain ⟨rs, hr, h⟩ := h.of_struct sf89
  match rs, h with
  | [a1, a2, a3, a4, a5, a6, a7, a8, a9, a10, a11, a12], h =>
    obtain ⟨h1, h2, h3, h4, h5, h6, h7, h8, h9, h10, h11, h12, _⟩ := h
    obtain ⟨x1, rfl, _⟩ := h1.of_int io3
    obtain ⟨x2, rfl, _⟩ := h2.of_int io3
    obtain ⟨x3, rfl, _⟩ := h3.of_int io3
    obtain ⟨x4, rfl, _⟩ := h4.of_int io3
    obtain ⟨x5, rfl, _⟩ := h5.of_int io3
    obtain ⟨x6, rfl, _⟩ := h6.of_int io3
    obtain ⟨x7, rfl, _⟩ := h7.of_int io3
    obtain ⟨r8, rfl, _, h8⟩ := h8.of_slice es26
    obtain ⟨x8, rfl⟩ := inR_of h8
    obtain ⟨r9, rfl, _, h9⟩ := h9.of_slice es26
    obtain ⟨x9, rfl⟩ := inR_of h9
    obtain ⟨x10, rfl, _⟩ := h10.of_int io3
    obtain ⟨x11, rfl, _⟩ := h11.of_int io3
    obtain ⟨x12, rfl, _⟩ := h12.of_int io3
    exact ⟨⟨x1, x2, x3, x4, x5, x6, x7, x8, x9, x10, x11, x12⟩, by rw [hr]; rfl⟩
theorem vo_of {r : List U} (h : HasRow Tryz.prog 49 r) : ∃ v : Vo, r = [.int .i64 v.mark, .int .i64 v.who, .bool v.yes, .int .i64 v.day] ∧ True := by
  obtain ⟨rs, hr, h⟩ := h.of_struct sf49
  match rs, h with
  | [a1, a2, a3, a4], h =>
    obtain ⟨h1, h2, h3, h4, _⟩ := h
    obtain ⟨x1, rfl, _⟩ := h1.of_int io3
    obtain ⟨x2, rfl, _⟩ := h2.of_int io3
    obtain ⟨x3, rfl⟩ := h3.of_bool (by simp)
    obtain ⟨x4, rfl, _⟩ := h4.of_int io3
    exact ⟨⟨x1, x2, x3, x4⟩, by rw [hr]; rfl, trivial⟩
theorem voices_of {u : U} (h : ArgU Tryz.prog 47 u) : ∃ l : List Vo, u = voU l := by
  obtain ⟨rows, h1, _, h2⟩ := (h.one (by simp) (by simp)).of_slice es47
  obtain ⟨l, rfl, _⟩ := rows_list (fun v : Vo => [.int .i64 v.mark, .int .i64 v.who, .bool v.yes, .int .i64 v.day]) (fun _ => True) (rows := rows) fun r hr => vo_of (h2 r hr)
  exact ⟨l, by simpa [voU] using h1⟩
end Go.Proofs.YtepiegcjnaohjaaGreatDoor
namespace Go.Proofs.YtepiegcjnaohjaaGreatDoor
open Go Go.VL
attribute [local simp] HS hcons hstep evPure opd uOf putOK St.put St.at getK binD binI binS binB nilD aggD eqUs cmpK lookD lookR rangeD rangeS Go.VL.nextD Go.VL.nextS entryD keyD valU keyU lookK mkV lookK_entD updK_entD1 allUE allUE_entD makeMapD mapUpdD mapEff updK valM Key.kk shiftI arith unD convD pickD loadD cellsAt fieldAddrD fieldD indexAddrD indexSlD arrAddr indexD sliceD cutD lenD minmaxD nilCheckD buildD fillD cellsD isOne ones setAll mkAgg allU allocD boxD storeD St.add buildSliceD appendD rowsOf makeD setOb getK_setOb getK_del getK_cons stripL strip guardTmp entry chunks zcells valD argsV argsW argW argU1 argU0 argsU0 argsU1 calleeOf scalarD scalarU delAll effD St.effS RK_seq RK_seq_ret RK_seq_exit RK_blk RK_blk_ret RK_blk_exit RK_loop RK_loop_ret RK_loop_exit RK_done vs_seq vs_block vs_cond vs_region vs_loop vs_draw applyW mkD rdIds lentIds callOf calleeOf freeOp D.ids Op.operands Call.operands isEffOp makeIfD makeFuncD typeAssertD conc concs conc1 uOfV panicD IntKind.bits allU2 List.take_of_length_le List.range_succ
attribute [local irreducible] V G H HD HD2 HD4 HD4h RetX RunK Eff CallP CallV EndOK Fun Ret FinOK LoopI LoopW EndW
theorem clone_fun (l : List Int) (hl : l.length ≤ 1000000) : Fun Tryz.prog 102 [.u (ints l)] (· = .u (ints l)) := by
  cases l with
  | nil =>
    (refine Fun.of_bodyW Tryz.func102 rfl (by simp) fun Γ hn => ?_); simp only [entry, List.zipIdx_cons, List.zipIdx_nil, List.map_cons, List.map_nil, Nat.zero_add, Tryz.ntmps102]
    simp only [ints, List.map_nil]
    refine V_nilsplit (x := 0) rfl ?_ (fun a cp => ?_)
    · repeat' (first
    | (refine H_cons ?_; simp)
    | (refine H_nil ?_; simp)
    | (refine V_sseq ?_; simp)
    | (refine V_scond ?_; simp)
    | (refine V_ret ?_; simp only [RunK])
    | fail)
      refine EndW.norm (EndW.here ?_)
      (refine EndOK.val (.inr rfl) ?_; simp [resD, oneOrTup, pureD, Tryz.results102, frz_obs, frz_env, norm_obs, norm_env, frz, frzOb, frzS, fv, fzVec, fzMap, fzBox, frzObS, frz_entD, frz_rowsD, normD, normU, norm1, normOb])
    · repeat' (first
    | (refine H_cons ?_; simp)
    | (refine H_nil ?_; simp)
    | (refine V_sseq ?_; simp)
    | (refine V_scond ?_; simp)
    | (refine V_ret ?_; simp only [RunK])
    | (refine V_skip ?_; simp only [RunK])
    | fail)
      (refine EndW.frzN 1 ?_; simp [frzN, frz1, frz_env, frz_obs, St.frz, St.frzS, frzS, fv, fzVec, fzMap, fzBox, frzObS, frz_entD, frz_rowsD, del, frz, frzOb])
      refine EndW.norm (EndW.here ?_)
      (refine EndOK.val (.inr rfl) ?_; simp [resD, oneOrTup, pureD, Tryz.results102, frz_obs, frz_env, norm_obs, norm_env, frz, frzOb, frzS, fv, fzVec, fzMap, fzBox, frzObS, frz_entD, frz_rowsD, normD, normU, norm1, normOb])
  | cons x l =>
    simp only [List.length_cons] at hl
    (refine Fun.of_bodyW Tryz.func102 rfl (by simp) fun Γ hn => ?_); simp only [entry, List.zipIdx_cons, List.zipIdx_nil, List.map_cons, List.map_nil, Nat.zero_add, Tryz.ntmps102]
    simp only [ints, List.map_cons]
    repeat' (first
    | (refine H_cons ?_; simp)
    | (refine H_nil ?_; simp)
    | (refine ⟨by omega, ?_⟩)
    | (refine V_sseq ?_; simp)
    | (refine V_scond ?_; simp)
    | (refine V_ret ?_; simp only [RunK])
    | (refine V_skip ?_; simp only [RunK])
    | fail)
    (refine EndW.frzN 1 ?_; simp [frzN, frz1, frz_env, frz_obs, St.frz, St.frzS, frzS, fv, fzVec, fzMap, fzBox, frzObS, frz_entD, frz_rowsD, del, frz, frzOb])
    refine EndW.here ?_
    (refine EndOK.val (.inr rfl) ?_; simp [resD, oneOrTup, pureD, Tryz.results102, frz_obs, frz_env, norm_obs, norm_env, frz, frzOb, frzS, fv, fzVec, fzMap, fzBox, frzObS, frz_entD, frz_rowsD, normD, normU, norm1, normOb])
theorem copied_fun (c : Cl) (h1 : c.jury.length ≤ 1000000) (h2 : c.again.length ≤ 1000000) : Fun Tryz.prog 103 [.u (clU c)] (· = .u (clU c)) := by
  have e1 := clone_fun c.jury h1
  have e2 := clone_fun c.again h2
  unfold ints at e1 e2
  unfold clU clCells
  (refine Fun.of_bodyW Tryz.func103 rfl (by simp) fun Γ hn => ?_); simp only [entry, List.zipIdx_cons, List.zipIdx_nil, List.map_cons, List.map_nil, Nat.zero_add, Tryz.ntmps103]
  repeat' (first
    | (refine H_cons ?_; simp)
    | (refine HD4_val rfl ?_; simp)
    | (refine HD4_chg rfl ?_; simp)
    | (refine H_nil ?_; simp)
    | (refine V_sseq ?_; simp)
    | (refine HD4_nil (hC _ (by kernel_rfl)) (hk _ ?_); clear hC hk C k; simp only [RunK])
    | (refine V_drawX rfl (by kernel_rfl) (by first | (simp [hn]; done) | (simp [hn]; omega) | fail) fun C k hC hk => ?_; simp)
    | (refine V_ret ?_; simp only [RunK])
    | (refine CallV.fun_ (e1) (by first | rfl | fail) (by first | assumption | (simp; done) | fail) (by first | (simp; done) | (simp; rfl) | fail) (by first | (simp; done) | fail) ?_ <;> (try simp))
    | (refine CallV.fun_ (e2) (by first | rfl | fail) (by first | assumption | (simp; done) | fail) (by first | (simp; done) | (simp; rfl) | fail) (by first | (simp; done) | fail) ?_ <;> (try simp))
    | fail)
  refine EndW.here ?_
  (refine EndOK.val (.inr rfl) ?_; simp [resD, oneOrTup, pureD, Tryz.results103])
theorem cday_fun (n : Int) : Fun Tryz.prog 104 [.u (.int .i64 n)] (· = .u (.bool (dayB n))) := by
  unfold dayB
  by_cases c1 : 0 ≤ n
  · by_cases c2 : n ≤ 1048576
    · (refine Fun.of_body Tryz.func104 rfl (by simp) fun Γ hn => ?_); simp only [entry, List.zipIdx_cons, List.zipIdx_nil, List.map_cons, List.map_nil, Nat.zero_add, Tryz.ntmps104]
      repeat' (first
    | (refine H_cons ?_; simp [c1, c2])
    | (refine H_nil ?_; simp [c1, c2])
    | (refine V_sseq ?_; simp [c1, c2])
    | (refine V_ret ?_; simp only [RunK])
    | fail)
      (refine EndOK.val (.inr rfl) ?_; simp [resD, oneOrTup, pureD, Tryz.results104])
      try simp [c1, c2]
    · (refine Fun.of_body Tryz.func104 rfl (by simp) fun Γ hn => ?_); simp only [entry, List.zipIdx_cons, List.zipIdx_nil, List.map_cons, List.map_nil, Nat.zero_add, Tryz.ntmps104]
      repeat' (first
    | (refine H_cons ?_; simp [c1, c2])
    | (refine H_nil ?_; simp [c1, c2])
    | (refine V_sseq ?_; simp [c1, c2])
    | (refine V_ret ?_; simp only [RunK])
    | fail)
      (refine EndOK.val (.inr rfl) ?_; simp [resD, oneOrTup, pureD, Tryz.results104])
      try simp [c1, c2]
  · (refine Fun.of_body Tryz.func104 rfl (by simp) fun Γ hn => ?_); simp only [entry, List.zipIdx_cons, List.zipIdx_nil, List.map_cons, List.map_nil, Nat.zero_add, Tryz.ntmps104]
    repeat' (first
    | (refine H_cons ?_; simp [c1])
    | (refine H_nil ?_; simp [c1])
    | (refine V_sseq ?_; simp [c1])
    | (refine V_ret ?_; simp only [RunK])
    | fail)
    (refine EndOK.val (.inr rfl) ?_; simp [resD, oneOrTup, pureD, Tryz.results104])
    try simp [c1]
theorem jvalid_fun (l : List Int) (hl : l.length ≤ 1000000) : Fun Tryz.prog 226 [.u (ints l)] (· = .u (.bool (validM l))) := by
  obtain ⟨R, hR⟩ : ∃ R, R = validM l := ⟨_, rfl⟩
  rw [← hR]
  by_cases h0 : l.length = 0
  · have e : l = [] := List.eq_nil_of_length_eq_zero h0
    subst e
    have e2 : R = false := by rw [hR]; rfl
    rw [e2]
    simp only [ints, List.map_nil]
    (refine Fun.of_body Tryz.func226 rfl (by simp) fun Γ hn => ?_); simp only [entry, List.zipIdx_cons, List.zipIdx_nil, List.map_cons, List.map_nil, Nat.zero_add, Tryz.ntmps226]
    repeat' (first
    | (refine H_cons ?_; simp)
    | (refine H_nil ?_; simp)
    | (refine V_sseq ?_; simp)
    | (refine V_scond ?_; simp)
    | (refine V_ret ?_; simp only [RunK])
    | fail)
    (refine EndOK.val (.inr rfl) ?_; simp [resD, oneOrTup, pureD, Tryz.results226])
  have h0' : ¬ (l.length : Int) = 0 := by omega
  have hne0 : l ≠ [] := fun e => h0 (by rw [e]; rfl)
  unfold ints
  by_cases h60 : 60 < l.length
  · have h60' : (60 : Int) < l.length := by omega
    have e2 : R = false := by rw [hR, validM]; simp; omega
    rw [e2]
    (refine Fun.of_body Tryz.func226 rfl (by simp) fun Γ hn => ?_); simp only [entry, List.zipIdx_cons, List.zipIdx_nil, List.map_cons, List.map_nil, Nat.zero_add, Tryz.ntmps226]
    repeat' (first
    | (refine H_cons ?_; simp [h0, h0', h60', hne0])
    | (refine H_nil ?_; simp [h0, h0', h60', hne0])
    | (refine V_sseq ?_; simp [h0, h0', h60', hne0])
    | (refine V_scond ?_; simp [h0, h0', h60', hne0])
    | (refine V_ret ?_; simp only [RunK])
    | fail)
    (refine EndOK.val (.inr rfl) ?_; simp [resD, oneOrTup, pureD, Tryz.results226])
  have h60' : ¬ (60 : Int) < l.length := by omega
  (refine Fun.of_body Tryz.func226 rfl (by simp) fun Γ hn => ?_); simp only [entry, List.zipIdx_cons, List.zipIdx_nil, List.map_cons, List.map_nil, Nat.zero_add, Tryz.ntmps226]
  repeat' (first
    | (refine H_cons ?_; simp [h0, h0', h60', hne0])
    | (refine H_nil ?_; simp [h0, h0', h60', hne0])
    | (refine V_sseq ?_; simp [h0, h0', h60', hne0])
    | (refine V_scond ?_; simp [h0, h0', h60', hne0])
    | (refine V_sblock ?_; simp [h0, h0', h60', hne0])
    | (refine V_skip ?_; simp only [RunK])
    | fail)
  refine V_loopF (α := { i : Nat // i ≤ l.length ∧ (l.take i).Nodup ∧ ∀ y ∈ l.take i, 0 ≤ y ∧ y < 200 }) [0, 13, 14] (fun i => [(15, .u (.int .i64 i.1))]) (fun i => l.length - i.1) ⟨0, by omega, by simp, by simp⟩ ?_ ?_
  · exact (Wk.env rfl rfl rfl (by simp [wkE, St.lp, keepE, getK_cons, getK] <;> (try (intros; simp_all; done)) <;> (try (intros; omega)) <;> (try grind)))
  rintro ⟨i, hi, hd, hb⟩
  simp [St.lp, St.only, keepE, getK_cons, getK]
  rcases hx : l[i]? with _ | x
  · have hge : l.length ≤ i := by simpa using hx
    obtain rfl : i = l.length := by omega
    rw [List.take_length] at hd hb
    have e2 : R = true := by rw [hR]; exact validM_true hne0 (by omega) hd hb
    rw [e2]
    repeat' (first
    | (refine H_cons ?_; simp [hx])
    | (refine H_nil ?_; simp [hx])
    | (refine V_sseq ?_; simp [hx])
    | (refine V_ret ?_; simp only [RunK])
    | (refine V_exit ?_; simp [RunK])
    | fail)
    (refine EndOK.val (.inr rfl) ?_; simp [resD, oneOrTup, pureD, Tryz.results226])
  · have hlt : i < l.length := (List.getElem?_eq_some_iff.1 hx).1
    have hle : (i : Int) ≤ l.length := by omega
    have hct := contM_fun (l.take i) x (by rw [List.length_take]; omega)
    simp only [ints, List.map_take] at hct
    by_cases hr : x < 0 ∨ 200 ≤ x
    · have e2 : R = false := by rw [hR]; exact validM_bad hx (.inl hr)
      rw [e2]
      rcases hr with hr | hr
      · repeat' (first
    | (refine H_cons ?_; simp [hx, hr])
    | (refine H_nil ?_; simp [hx, hr])
    | (refine V_sseq ?_; simp [hx, hr])
    | (refine V_scond ?_; simp [hx, hr])
    | (refine V_ret ?_; simp only [RunK])
    | (refine V_skip ?_; simp only [RunK])
    | (refine ⟨?_, by omega⟩)
    | (intro hc <;> (try (exfalso; omega)))
    | fail)
        (refine EndOK.val (.inr rfl) ?_; simp [resD, oneOrTup, pureD, Tryz.results226])
      · have hr2 : ¬ x < 0 := by omega
        repeat' (first
    | (refine H_cons ?_; simp [hx, hr, hr2])
    | (refine H_nil ?_; simp [hx, hr, hr2])
    | (refine V_sseq ?_; simp [hx, hr, hr2])
    | (refine V_scond ?_; simp [hx, hr, hr2])
    | (refine V_ret ?_; simp only [RunK])
    | (refine V_skip ?_; simp only [RunK])
    | (refine ⟨?_, by omega⟩)
    | (intro hc <;> (try (exfalso; omega)))
    | fail)
        (refine EndOK.val (.inr rfl) ?_; simp [resD, oneOrTup, pureD, Tryz.results226])
    · have hr1 : ¬ x < 0 := by omega
      have hr2 : ¬ 200 ≤ x := by omega
      by_cases hm : x ∈ l.take i
      · rw [decide_eq_true hm] at hct
        have e2 : R = false := by rw [hR]; exact validM_bad hx (.inr hm)
        rw [e2]
        repeat' (first
    | (refine H_cons ?_; simp [hx, hr1, hr2, hle])
    | (refine H_nil ?_; simp [hx, hr1, hr2, hle])
    | (refine V_sseq ?_; simp [hx, hr1, hr2, hle])
    | (refine V_scond ?_; simp [hx, hr1, hr2, hle])
    | (refine V_ret ?_; simp only [RunK])
    | (refine V_skip ?_; simp only [RunK])
    | (refine ⟨?_, by omega⟩)
    | (intro hc <;> (try (exfalso; omega)))
    | (refine CallP.fun_ (hct) (by first | rfl | fail) (by first | assumption | (simp; done) | fail) (by first | (simp [hx, hr1, hr2, hle]; done) | (simp [hx, hr1, hr2, hle]; rfl) | fail) (by first | (simp; done) | fail) (fun d hd => ?_); subst hd; (try simp [hx, hr1, hr2, hle]))
    | fail)
        (refine EndOK.val (.inr rfl) ?_; simp [resD, oneOrTup, pureD, Tryz.results226])
      · rw [decide_eq_false hm] at hct
        repeat' (first
    | (refine H_cons ?_; simp [hx, hr1, hr2, hle])
    | (refine H_nil ?_; simp [hx, hr1, hr2, hle])
    | (refine ⟨by omega, ?_⟩)
    | (refine V_sseq ?_; simp [hx, hr1, hr2, hle])
    | (refine V_scond ?_; simp [hx, hr1, hr2, hle])
    | (refine V_sregion ?_; simp [hx, hr1, hr2, hle])
    | (refine V_skip ?_; simp only [RunK])
    | (refine ⟨?_, by omega⟩)
    | (intro hc <;> (try (exfalso; omega)))
    | (refine CallP.fun_ (hct) (by first | rfl | fail) (by first | assumption | (simp; done) | fail) (by first | (simp [hx, hr1, hr2, hle]; done) | (simp [hx, hr1, hr2, hle]; rfl) | fail) (by first | (simp; done) | fail) (fun d hd => ?_); subst hd; (try simp [hx, hr1, hr2, hle]))
    | fail)
        refine LoopW.next ⟨i + 1, by omega, ?_, fun y hy => ?_⟩ (by simp; omega) ?_
        · rw [List.take_succ, hx, List.nodup_append]
          exact ⟨hd, by simp, fun a h1 b h2 => by simp at h2; subst h2; intro e; exact hm (e ▸ h1)⟩
        · rw [List.take_succ, hx] at hy
          rcases List.mem_append.1 hy with h | h
          · exact hb y h
          · simp at h; subst h; omega
        exact (Wk.env rfl rfl rfl (by simp [wkE, St.lp, keepE, getK_cons, getK] <;> (try (intros; simp_all; done)) <;> (try (intros; omega)) <;> (try grind)))
theorem jury_fun (jury : List Int) (l : List Vo) (hm : jury.length ≤ 1000000) (hl : l.length ≤ 1000000) : Fun Tryz.prog 178 [.u (ints jury), .u (voU l)] (· = .tup [.u (.int .i64 (juryM jury l).1), .u (.int .i64 (juryM jury l).2)]) := by
  have h1 := jvalid_fun jury hm
  obtain ⟨R, hR⟩ : ∃ R, R = juryM jury l := ⟨_, rfl⟩
  rw [← hR]
  unfold juryM at hR
  cases hv : validM jury with
  | false =>
    rw [hv] at h1 hR
    rw [if_pos rfl] at hR
    subst hR
    simp only [ints, voU] at *
    (refine Fun.of_bodyW Tryz.func178 rfl (by simp) fun Γ hn => ?_); simp only [entry, List.zipIdx_cons, List.zipIdx_nil, List.map_cons, List.map_nil, Nat.zero_add, Tryz.ntmps178]
    repeat' (first
    | (refine H_cons ?_; simp)
    | (refine H_nil ?_; simp)
    | (refine V_sseq ?_; simp)
    | (refine V_scond ?_; simp)
    | (refine V_ret ?_; simp only [RunK])
    | (refine CallP.fun_ (h1) (by first | rfl | fail) (by first | assumption | (simp; done) | fail) (by first | (simp; done) | (simp; rfl) | fail) (by first | (simp; done) | fail) (fun d hd => ?_); subst hd; (try simp))
    | fail)
    refine EndW.here ?_
    (refine EndOK.val (.inr rfl) ?_; simp [resD, oneOrTup, pureD, Tryz.results178])
  | true =>
    rw [hv] at h1 hR
    rw [if_neg (by simp)] at hR
    simp only at hR
    have h2 : ∀ u, (∀ v ∈ l, v.day ≤ u) → Fun Tryz.prog 60 [.u (ints jury), .u (voU l), .u (.int .i64 u)] (· = .u (voU (cntN jury [] l))) := fun u hu => by
      have := counted_fun jury l u hm hl
      rwa [countM, if_pos hv, cnt_cntN _ _ _ _ hu] at this
    have hcl := cntN_len jury l []
    generalize cntN jury [] l = C at *
    have hyl := yes_le C
    have hd : Int.tdiv (jury.length : Int) 2 = ((jury.length / 2 : Nat) : Int) := by rw [Int.tdiv_eq_ediv_of_nonneg (by omega)]; omega
    simp only [ints, voU] at *
    (refine Fun.of_bodyW Tryz.func178 rfl (by simp) fun Γ hn => ?_); simp only [entry, List.zipIdx_cons, List.zipIdx_nil, List.map_cons, List.map_nil, Nat.zero_add, Tryz.ntmps178]
    repeat' (first
    | (refine H_cons ?_; simp)
    | (refine H_nil ?_; simp)
    | (refine V_sseq ?_; simp)
    | (refine V_scond ?_; simp)
    | (refine V_sblock ?_; simp)
    | (refine V_skip ?_; simp only [RunK])
    | (refine CallP.fun_ (h1) (by first | rfl | fail) (by first | assumption | (simp; done) | fail) (by first | (simp; done) | (simp; rfl) | fail) (by first | (simp; done) | fail) (fun d hd => ?_); subst hd; (try simp))
    | fail)
    refine V_loopF (α := { q : Nat × Int // q.1 ≤ l.length ∧ ∀ v ∈ l.take q.1, v.day ≤ q.2 }) [0, 1, 17, 18] (fun q => [(6, .u (.int .i64 q.1.2)), (19, .u (.int .i64 q.1.1))]) (fun q => l.length - q.1.1) ⟨(0, 0), by simp⟩ ?_ ?_
    · exact (Wk.cut rfl (by simp [hn, St.lp]) (by simp [wkO, St.lp, getK_cons, getK, Ob.under, D.under, under_rowsD, under_entD]) (by simp [wkU, St.lp, keepE, getK_cons, getK, D.under]) (by simp [wkE, St.lp, keepE, getK_cons, getK] <;> (try (intros; simp_all; done)) <;> (try (intros; omega)) <;> (try grind)))
    rintro ⟨⟨i, u⟩, hi, hu⟩
    simp only at hi hu
    simp [St.lp, St.only, keepE, getK_cons, getK]
    rcases hx : l[i]? with _ | v
    · have hge : l.length ≤ i := by simpa using hx
      obtain rfl : i = l.length := by omega
      rw [List.take_length] at hu
      have h3 := h2 u hu
      repeat' (first
    | (refine H_cons ?_; simp [hx])
    | (refine H_nil ?_; simp [hx])
    | (refine V_sseq ?_; simp [hx])
    | (refine V_sblock ?_; simp [hx])
    | (refine V_exit ?_; simp [RunK])
    | (refine CallP.fun_ (h3) (by first | rfl | fail) (by first | assumption | (simp; done) | fail) (by first | (simp [hx]; done) | (simp [hx]; rfl) | fail) (by first | (simp; done) | fail) (fun d hd => ?_); subst hd; (try simp [hx]))
    | fail)
      refine V_loopF (α := { i : Nat // i ≤ C.length }) [0, 9, 32, 33] (fun i => [(10, .u (.int .i64 (yesN (C.take i.1)))), (34, .u (.int .i64 i.1))]) (fun i => C.length - i.1) ⟨0, by omega⟩ ?_ ?_
      · exact (Wk.cut rfl (by simp [hn, St.lp]) (by simp [wkO, St.lp, getK_cons, getK, Ob.under, D.under, under_rowsD, under_entD, yesN]) (by simp [wkU, St.lp, keepE, getK_cons, getK, D.under, yesN]) (by simp [wkE, St.lp, keepE, getK_cons, getK, yesN] <;> (try (intros; simp_all; done)) <;> (try (intros; omega)) <;> (try grind)))
      rintro ⟨i, hi⟩
      simp [St.lp, St.only, keepE, getK_cons, getK]
      rcases hx : C[i]? with _ | v
      · have hge : C.length ≤ i := by simpa using hx
        obtain rfl : i = C.length := by omega
        simp only [List.take_length]
        generalize yesN C = Y at *
        by_cases c1 : ((jury.length / 2 : Nat) : Int) + 1 ≤ Y
        · rw [if_pos c1] at hR
          subst hR
          repeat' (first
    | (refine H_cons ?_; simp [hx, hd, c1])
    | (refine H_nil ?_; simp [hx, hd, c1])
    | (refine ⟨by omega, ?_⟩)
    | (refine V_sseq ?_; simp [hx, hd, c1])
    | (refine V_scond ?_; simp [hx, hd, c1])
    | (refine V_ret ?_; simp only [RunK])
    | (refine V_exit ?_; simp [RunK])
    | (refine ⟨?_, by omega⟩)
    | (intro hc <;> (try (exfalso; omega)))
    | fail)
          refine EndW.here ?_
          (refine EndOK.val (.inr rfl) ?_; simp [resD, oneOrTup, pureD, Tryz.results178])
        · rw [if_neg c1] at hR
          by_cases c2 : (jury.length : Int) - (((jury.length / 2 : Nat) : Int) + 1) < (C.length : Int) - Y
          · rw [if_pos c2] at hR
            subst hR
            repeat' (first
    | (refine H_cons ?_; simp [hx, hd, c1, c2])
    | (refine H_nil ?_; simp [hx, hd, c1, c2])
    | (refine ⟨by omega, ?_⟩)
    | (refine V_sseq ?_; simp [hx, hd, c1, c2])
    | (refine V_scond ?_; simp [hx, hd, c1, c2])
    | (refine V_ret ?_; simp only [RunK])
    | (refine V_exit ?_; simp [RunK])
    | (refine ⟨?_, by omega⟩)
    | (intro hc <;> (try (exfalso; omega)))
    | fail)
            refine EndW.here ?_
            (refine EndOK.val (.inr rfl) ?_; simp [resD, oneOrTup, pureD, Tryz.results178])
          · rw [if_neg c2] at hR
            subst hR
            repeat' (first
    | (refine H_cons ?_; simp [hx, hd, c1, c2])
    | (refine H_nil ?_; simp [hx, hd, c1, c2])
    | (refine ⟨by omega, ?_⟩)
    | (refine V_sseq ?_; simp [hx, hd, c1, c2])
    | (refine V_scond ?_; simp [hx, hd, c1, c2])
    | (refine V_ret ?_; simp only [RunK])
    | (refine V_skip ?_; simp only [RunK])
    | (refine V_exit ?_; simp [RunK])
    | (intro hc <;> (try (exfalso; omega)))
    | fail)
            refine EndW.here ?_
            (refine EndOK.val (.inr rfl) ?_; simp [resD, oneOrTup, pureD, Tryz.results178])
      · have hlt : i < C.length := (List.getElem?_eq_some_iff.1 hx).1
        have hst := yes_step hx
        have hyl := yes_le (C.take i)
        rw [List.length_take] at hyl
        have hyl2 : yesN (C.take i) ≤ 1000000 := by omega
        cases hvy : v.yes with
        | true =>
          rw [if_pos hvy] at hst
          generalize yesN (C.take i) = Y at *
          repeat' (first
    | (refine H_cons ?_; simp [hx, hvy])
    | (refine H_nil ?_; simp [hx, hvy])
    | (refine ⟨by omega, ?_⟩)
    | (refine V_sseq ?_; simp [hx, hvy])
    | (refine V_scond ?_; simp [hx, hvy])
    | (refine V_sregion ?_; simp [hx, hvy])
    | (refine V_skip ?_; simp only [RunK])
    | (refine ⟨?_, by omega⟩)
    | (intro hc <;> (try (exfalso; omega)))
    | fail)
          refine LoopW.next ⟨i + 1, by omega⟩ (by simp; omega) ?_
          exact (Wk.cut rfl (by simp [hn, St.lp]) (by simp [wkO, St.lp, getK_cons, getK, Ob.under, D.under, under_rowsD, under_entD, hst]) (by simp [wkU, St.lp, keepE, getK_cons, getK, D.under, hst]) (by simp [wkE, St.lp, keepE, getK_cons, getK, hst] <;> (try (intros; simp_all; done)) <;> (try (intros; omega)) <;> (try grind)))
        | false =>
          rw [if_neg (by simp [hvy])] at hst
          generalize yesN (C.take i) = Y at *
          repeat' (first
    | (refine H_cons ?_; simp [hx, hvy])
    | (refine H_nil ?_; simp [hx, hvy])
    | (refine ⟨by omega, ?_⟩)
    | (refine V_sseq ?_; simp [hx, hvy])
    | (refine V_scond ?_; simp [hx, hvy])
    | (refine V_sregion ?_; simp [hx, hvy])
    | (refine V_skip ?_; simp only [RunK])
    | (refine ⟨?_, by omega⟩)
    | (intro hc <;> (try (exfalso; omega)))
    | fail)
          refine LoopW.next ⟨i + 1, by omega⟩ (by simp; omega) ?_
          exact (Wk.cut rfl (by simp [hn, St.lp]) (by simp [wkO, St.lp, getK_cons, getK, Ob.under, D.under, under_rowsD, under_entD, hst]) (by simp [wkU, St.lp, keepE, getK_cons, getK, D.under, hst]) (by simp [wkE, St.lp, keepE, getK_cons, getK, hst] <;> (try (intros; simp_all; done)) <;> (try (intros; omega)) <;> (try grind)))
    · have hlt : i < l.length := (List.getElem?_eq_some_iff.1 hx).1
      repeat' (first
    | (refine H_cons ?_; simp [hx])
    | (refine H_nil ?_; simp [hx])
    | (refine ⟨by omega, ?_⟩)
    | (refine V_sseq ?_; simp [hx])
    | (refine V_sregion ?_; simp [hx])
    | (refine V_skip ?_; simp only [RunK])
    | (refine ⟨?_, by omega⟩)
    | (intro hc <;> (try (exfalso; omega)))
    | fail)
      refine LoopW.next ⟨(i + 1, max u v.day), by simp; omega, fun y hy => ?_⟩ (by simp; omega) ?_
      · simp only at hy ⊢
        rw [List.take_succ, hx] at hy
        rcases List.mem_append.1 hy with h | h
        · have := hu y h; omega
        · simp at h; subst h; omega
      exact (Wk.cut rfl (by simp [hn, St.lp]) (by simp [wkO, St.lp, getK_cons, getK, Ob.under, D.under, under_rowsD, under_entD]) (by simp [wkU, St.lp, keepE, getK_cons, getK, D.under]) (by simp [wkE, St.lp, keepE, getK_cons, getK] <;> (try (intros; simp_all; done)) <;> (try (intros; omega)) <;> (try grind)))
theorem cverdict_fun (c : Cl) (l : List Vo) (h1 : c.jury.length ≤ 1000000) (h2 : c.again.length ≤ 1000000) (hl : l.length ≤ 1000000) : Fun Tryz.prog 105 [.u (clU c), .u (voU l)] (· = .u (.int .i64 (verM c l))) := by
  have hj := jury_fun (deciders c) l (by unfold deciders; split <;> assumption) hl
  have hz : (juryM (deciders c) l).2 ≠ 0 → (juryM (deciders c) l).1 = 0 := by
    unfold juryM; split
    · simp
    · simp only; split
      · simp
      · split <;> simp
  unfold verM
  unfold deciders at *
  by_cases c1 : c.again = []
  · rw [if_pos c1] at hj hz ⊢
    have c2 : (0 < c.again.length) = False := by rw [c1]; simp
    generalize juryM c.jury l = J at *
    obtain ⟨j1, j2⟩ := J
    simp only at hj hz ⊢
    unfold clU clCells voU
    unfold ints voU at hj
    by_cases c3 : j2 = 0
    · (refine Fun.of_bodyW Tryz.func105 rfl (by simp) fun Γ hn => ?_); simp only [entry, List.zipIdx_cons, List.zipIdx_nil, List.map_cons, List.map_nil, Nat.zero_add, Tryz.ntmps105]
      repeat' (first
    | (refine H_cons ?_; simp [c2, c3])
    | (refine H_nil ?_; simp [c2, c3])
    | (refine V_sseq ?_; simp [c2, c3])
    | (refine V_scond ?_; simp [c2, c3])
    | (refine V_ret ?_; simp only [RunK])
    | (refine V_skip ?_; simp only [RunK])
    | (refine CallP.fun_ (hj) (by first | rfl | fail) (by first | assumption | (simp; done) | fail) (by first | (simp [c2, c3]; done) | (simp [c2, c3]; rfl) | fail) (by first | (simp; done) | fail) (fun d hd => ?_); subst hd; (try simp [c2, c3]))
    | fail)
      refine EndW.here ?_
      (refine EndOK.val (.inr rfl) ?_; simp [resD, oneOrTup, pureD, Tryz.results105])
    · rw [hz c3]
      (refine Fun.of_bodyW Tryz.func105 rfl (by simp) fun Γ hn => ?_); simp only [entry, List.zipIdx_cons, List.zipIdx_nil, List.map_cons, List.map_nil, Nat.zero_add, Tryz.ntmps105]
      repeat' (first
    | (refine H_cons ?_; simp [c2, c3])
    | (refine H_nil ?_; simp [c2, c3])
    | (refine V_sseq ?_; simp [c2, c3])
    | (refine V_scond ?_; simp [c2, c3])
    | (refine V_ret ?_; simp only [RunK])
    | (refine V_skip ?_; simp only [RunK])
    | (refine CallP.fun_ (hj) (by first | rfl | fail) (by first | assumption | (simp; done) | fail) (by first | (simp [c2, c3]; done) | (simp [c2, c3]; rfl) | fail) (by first | (simp; done) | fail) (fun d hd => ?_); subst hd; (try simp [c2, c3]))
    | fail)
      refine EndW.here ?_
      (refine EndOK.val (.inr rfl) ?_; simp [resD, oneOrTup, pureD, Tryz.results105])
  · rw [if_neg c1] at hj hz ⊢
    have c2 : (c.again = []) = False := eq_false c1
    generalize juryM c.again l = J at *
    obtain ⟨j1, j2⟩ := J
    simp only at hj hz ⊢
    unfold clU clCells voU
    unfold ints voU at hj
    by_cases c3 : j2 = 0
    · (refine Fun.of_bodyW Tryz.func105 rfl (by simp) fun Γ hn => ?_); simp only [entry, List.zipIdx_cons, List.zipIdx_nil, List.map_cons, List.map_nil, Nat.zero_add, Tryz.ntmps105]
      repeat' (first
    | (refine H_cons ?_; simp [c2, c3])
    | (refine H_nil ?_; simp [c2, c3])
    | (refine V_sseq ?_; simp [c2, c3])
    | (refine V_scond ?_; simp [c2, c3])
    | (refine V_sregion ?_; simp [c2, c3])
    | (refine V_ret ?_; simp only [RunK])
    | (refine V_skip ?_; simp only [RunK])
    | (intro hc <;> (try (exfalso; omega)))
    | (refine CallP.fun_ (hj) (by first | rfl | fail) (by first | assumption | (simp; done) | fail) (by first | (simp [c2, c3]; done) | (simp [c2, c3]; rfl) | fail) (by first | (simp; done) | fail) (fun d hd => ?_); subst hd; (try simp [c2, c3]))
    | fail)
      refine EndW.here ?_
      (refine EndOK.val (.inr rfl) ?_; simp [resD, oneOrTup, pureD, Tryz.results105])
    · rw [hz c3]
      (refine Fun.of_bodyW Tryz.func105 rfl (by simp) fun Γ hn => ?_); simp only [entry, List.zipIdx_cons, List.zipIdx_nil, List.map_cons, List.map_nil, Nat.zero_add, Tryz.ntmps105]
      repeat' (first
    | (refine H_cons ?_; simp [c2, c3])
    | (refine H_nil ?_; simp [c2, c3])
    | (refine V_sseq ?_; simp [c2, c3])
    | (refine V_scond ?_; simp [c2, c3])
    | (refine V_sregion ?_; simp [c2, c3])
    | (refine V_ret ?_; simp only [RunK])
    | (intro hc <;> (try (exfalso; omega)))
    | (refine CallP.fun_ (hj) (by first | rfl | fail) (by first | assumption | (simp; done) | fail) (by first | (simp [c2, c3]; done) | (simp [c2, c3]; rfl) | fail) (by first | (simp; done) | fail) (fun d hd => ?_); subst hd; (try simp [c2, c3]))
    | fail)
      refine EndW.here ?_
      (refine EndOK.val (.inr rfl) ?_; simp [resD, oneOrTup, pureD, Tryz.results105])
theorem right_period {b : By} (h : rightBy b = true) : 1 ≤ b.period ∧ b.period ≤ 1000 ∧ 0 ≤ b.wait ∧ b.wait ≤ 1000 := by
  simp [rightBy, headB, inB] at h
  omega
theorem day_in {n : Int} (h : dayB n = true) : 0 ≤ n ∧ n ≤ 1048576 := by
  simp [dayB] at h
  exact h
theorem step_fun (c : Cl) (b : By) (cover : Int) (l : List Vo) (today : Int) (h1 : c.jury.length ≤ 1000000) (h2 : c.again.length ≤ 1000000) (hl : l.length ≤ 1000000) :
    Fun Tryz.prog 43 [.u (clU c), .u (.agg (byCells b)), .u (.int .i64 cover), .u (voU l), .u (.int .i64 today)] (· = .u (clU (stepM c b cover l today))) := by
  have e1 := copied_fun c h1 h2
  have e2 := rightBy_fun b
  have e3 := cday_fun today
  have e4 := cverdict_fun c l h1 h2 hl
  obtain ⟨X, hX⟩ : ∃ X, X = stepM c b cover l today := ⟨_, rfl⟩
  rw [← hX]
  unfold stepM at hX
  generalize verM c l = v at *
  cases hr : rightBy b with
  | false =>
    rw [hr] at e2 hX
    rw [if_neg (by simp)] at hX
    subst hX
    unfold clU clCells byCells voU at *
    (refine Fun.of_bodyW Tryz.func43 rfl (by simp) fun Γ hn => ?_); simp only [entry, List.zipIdx_cons, List.zipIdx_nil, List.map_cons, List.map_nil, Nat.zero_add, Tryz.ntmps43]
    repeat' (first
    | (refine H_cons ?_; simp)
    | (refine H_nil ?_; simp)
    | (refine V_sseq ?_; simp)
    | (refine V_scond ?_; simp)
    | (refine V_ret ?_; simp only [RunK])
    | (refine CallP.fun_ (e1) (by first | rfl | fail) (by first | assumption | (simp; done) | fail) (by first | (simp; done) | (simp; rfl) | fail) (by first | (simp; done) | fail) (fun d hd => ?_); subst hd; (try simp))
    | (refine CallP.fun_ (e2) (by first | rfl | fail) (by first | assumption | (simp; done) | fail) (by first | (simp; done) | (simp; rfl) | fail) (by first | (simp; done) | fail) (fun d hd => ?_); subst hd; (try simp))
    | fail)
    refine EndW.here ?_
    (refine EndOK.val (.inr rfl) ?_; simp [resD, oneOrTup, pureD, Tryz.results43])
  | true =>
  obtain ⟨p0, p1, p2, p3⟩ := right_period hr
  rw [hr] at e2 hX
  cases hd : dayB today with
  | false =>
    rw [hd] at e3 hX
    rw [if_neg (by simp)] at hX
    subst hX
    unfold clU clCells byCells voU at *
    (refine Fun.of_bodyW Tryz.func43 rfl (by simp) fun Γ hn => ?_); simp only [entry, List.zipIdx_cons, List.zipIdx_nil, List.map_cons, List.map_nil, Nat.zero_add, Tryz.ntmps43]
    repeat' (first
    | (refine H_cons ?_; simp)
    | (refine H_nil ?_; simp)
    | (refine V_sseq ?_; simp)
    | (refine V_scond ?_; simp)
    | (refine V_ret ?_; simp only [RunK])
    | (refine CallP.fun_ (e1) (by first | rfl | fail) (by first | assumption | (simp; done) | fail) (by first | (simp; done) | (simp; rfl) | fail) (by first | (simp; done) | fail) (fun d hd => ?_); subst hd; (try simp))
    | (refine CallP.fun_ (e2) (by first | rfl | fail) (by first | assumption | (simp; done) | fail) (by first | (simp; done) | (simp; rfl) | fail) (by first | (simp; done) | fail) (fun d hd => ?_); subst hd; (try simp))
    | (refine CallP.fun_ (e3) (by first | rfl | fail) (by first | assumption | (simp; done) | fail) (by first | (simp; done) | (simp; rfl) | fail) (by first | (simp; done) | fail) (fun d hd => ?_); subst hd; (try simp))
    | fail)
    refine EndW.here ?_
    (refine EndOK.val (.inr rfl) ?_; simp [resD, oneOrTup, pureD, Tryz.results43])
  | true =>
  obtain ⟨d0, d1⟩ := day_in hd
  rw [hd] at e3 hX
  rw [if_pos ⟨rfl, rfl⟩] at hX
  by_cases s0 : c.state = 0
  case neg =>
    rw [if_neg s0] at hX
    unfold opened at hX
    by_cases s1 : c.state = 1
    · by_cases s2 : c.frm ≤ today + 1
      · rw [if_pos ⟨s1, s2⟩] at hX
        subst hX
        unfold clU clCells byCells voU at *
        (refine Fun.of_bodyW Tryz.func43 rfl (by simp) fun Γ hn => ?_); simp only [entry, List.zipIdx_cons, List.zipIdx_nil, List.map_cons, List.map_nil, Nat.zero_add, Tryz.ntmps43]
        repeat' (first
    | (refine H_cons ?_; simp [s0, s1, s2])
    | (refine H_nil ?_; simp [s0, s1, s2])
    | (refine ⟨by omega, ?_⟩)
    | (refine V_sseq ?_; simp [s0, s1, s2])
    | (refine V_scond ?_; simp [s0, s1, s2])
    | (refine V_sregion ?_; simp [s0, s1, s2])
    | (refine V_ret ?_; simp only [RunK])
    | (refine V_skip ?_; simp only [RunK])
    | (refine CallP.fun_ (e1) (by first | rfl | fail) (by first | assumption | (simp; done) | fail) (by first | (simp [s0, s1, s2]; done) | (simp [s0, s1, s2]; rfl) | fail) (by first | (simp; done) | fail) (fun d hd => ?_); subst hd; (try simp [s0, s1, s2]))
    | (refine CallP.fun_ (e2) (by first | rfl | fail) (by first | assumption | (simp; done) | fail) (by first | (simp [s0, s1, s2]; done) | (simp [s0, s1, s2]; rfl) | fail) (by first | (simp; done) | fail) (fun d hd => ?_); subst hd; (try simp [s0, s1, s2]))
    | (refine CallP.fun_ (e3) (by first | rfl | fail) (by first | assumption | (simp; done) | fail) (by first | (simp [s0, s1, s2]; done) | (simp [s0, s1, s2]; rfl) | fail) (by first | (simp; done) | fail) (fun d hd => ?_); subst hd; (try simp [s0, s1, s2]))
    | fail)
        refine EndW.here ?_
        (refine EndOK.val (.inr rfl) ?_; simp [resD, oneOrTup, pureD, Tryz.results43])
      · rw [if_neg (fun h => s2 h.2)] at hX
        subst hX
        unfold clU clCells byCells voU at *
        (refine Fun.of_bodyW Tryz.func43 rfl (by simp) fun Γ hn => ?_); simp only [entry, List.zipIdx_cons, List.zipIdx_nil, List.map_cons, List.map_nil, Nat.zero_add, Tryz.ntmps43]
        repeat' (first
    | (refine H_cons ?_; simp [s0, s1, s2])
    | (refine H_nil ?_; simp [s0, s1, s2])
    | (refine ⟨by omega, ?_⟩)
    | (refine V_sseq ?_; simp [s0, s1, s2])
    | (refine V_scond ?_; simp [s0, s1, s2])
    | (refine V_ret ?_; simp only [RunK])
    | (refine V_skip ?_; simp only [RunK])
    | (refine CallP.fun_ (e1) (by first | rfl | fail) (by first | assumption | (simp; done) | fail) (by first | (simp [s0, s1, s2]; done) | (simp [s0, s1, s2]; rfl) | fail) (by first | (simp; done) | fail) (fun d hd => ?_); subst hd; (try simp [s0, s1, s2]))
    | (refine CallP.fun_ (e2) (by first | rfl | fail) (by first | assumption | (simp; done) | fail) (by first | (simp [s0, s1, s2]; done) | (simp [s0, s1, s2]; rfl) | fail) (by first | (simp; done) | fail) (fun d hd => ?_); subst hd; (try simp [s0, s1, s2]))
    | (refine CallP.fun_ (e3) (by first | rfl | fail) (by first | assumption | (simp; done) | fail) (by first | (simp [s0, s1, s2]; done) | (simp [s0, s1, s2]; rfl) | fail) (by first | (simp; done) | fail) (fun d hd => ?_); subst hd; (try simp [s0, s1, s2]))
    | fail)
        refine EndW.here ?_
        (refine EndOK.val (.inr rfl) ?_; simp [resD, oneOrTup, pureD, Tryz.results43])
    · rw [if_neg (fun h => s1 h.1)] at hX
      subst hX
      unfold clU clCells byCells voU at *
      (refine Fun.of_bodyW Tryz.func43 rfl (by simp) fun Γ hn => ?_); simp only [entry, List.zipIdx_cons, List.zipIdx_nil, List.map_cons, List.map_nil, Nat.zero_add, Tryz.ntmps43]
      repeat' (first
    | (refine H_cons ?_; simp [s0, s1])
    | (refine H_nil ?_; simp [s0, s1])
    | (refine V_sseq ?_; simp [s0, s1])
    | (refine V_scond ?_; simp [s0, s1])
    | (refine V_ret ?_; simp only [RunK])
    | (refine V_skip ?_; simp only [RunK])
    | (refine CallP.fun_ (e1) (by first | rfl | fail) (by first | assumption | (simp; done) | fail) (by first | (simp [s0, s1]; done) | (simp [s0, s1]; rfl) | fail) (by first | (simp; done) | fail) (fun d hd => ?_); subst hd; (try simp [s0, s1]))
    | (refine CallP.fun_ (e2) (by first | rfl | fail) (by first | assumption | (simp; done) | fail) (by first | (simp [s0, s1]; done) | (simp [s0, s1]; rfl) | fail) (by first | (simp; done) | fail) (fun d hd => ?_); subst hd; (try simp [s0, s1]))
    | (refine CallP.fun_ (e3) (by first | rfl | fail) (by first | assumption | (simp; done) | fail) (by first | (simp [s0, s1]; done) | (simp [s0, s1]; rfl) | fail) (by first | (simp; done) | fail) (fun d hd => ?_); subst hd; (try simp [s0, s1]))
    | fail)
      refine EndW.here ?_
      (refine EndOK.val (.inr rfl) ?_; simp [resD, oneOrTup, pureD, Tryz.results43])
  rw [if_pos s0] at hX
  by_cases c1 : v = 1 ∧ 0 < c.proofs
  · by_cases c3 : 0 < grantM c cover
    · have hru : ruled c b.wait b.period v cover today = { c with state := 1, grant := grantM c cover, frm := today + 1 + b.wait } := by rw [ruled, if_pos c1, if_pos c3]
      obtain ⟨c1, c2⟩ := c1
      rw [hru] at hX
      unfold opened at hX
      unfold grantM at hX c3
      by_cases c4 : b.wait = 0
      · rw [if_pos ⟨rfl, by simp only; omega⟩] at hX
        subst hX
        have c5 : today + 1 + b.wait ≤ today + 1 := by omega
        unfold clU clCells byCells voU at *
        (refine Fun.of_bodyW Tryz.func43 rfl (by simp) fun Γ hn => ?_); simp only [entry, List.zipIdx_cons, List.zipIdx_nil, List.map_cons, List.map_nil, Nat.zero_add, Tryz.ntmps43]
        repeat' (first
    | (refine H_cons ?_; simp [s0, c1, c2, c3, c5])
    | (refine HD4_val rfl ?_; simp [s0, c1, c2, c3, c5])
    | (refine HD4_chg rfl ?_; simp [s0, c1, c2, c3, c5])
    | (refine H_nil ?_; simp [s0, c1, c2, c3, c5])
    | (refine ⟨by omega, ?_⟩)
    | (refine V_sseq ?_; simp [s0, c1, c2, c3, c5])
    | (refine V_scond ?_; simp [s0, c1, c2, c3, c5])
    | (refine HD4_nil (hC _ (by kernel_rfl)) (hk _ ?_); clear hC hk C k; simp only [RunK])
    | (refine V_drawX rfl (by kernel_rfl) (by first | (simp [hn]; done) | (simp [hn]; omega) | fail) fun C k hC hk => ?_; simp [s0, c1, c2, c3, c5])
    | (refine V_sblock ?_; simp [s0, c1, c2, c3, c5])
    | (refine V_sregion ?_; simp [s0, c1, c2, c3, c5])
    | (refine V_ret ?_; simp only [RunK])
    | (refine V_skip ?_; simp only [RunK])
    | (refine CallP.fun_ (e1) (by first | rfl | fail) (by first | assumption | (simp; done) | fail) (by first | (simp [s0, c1, c2, c3, c5]; done) | (simp [s0, c1, c2, c3, c5]; rfl) | fail) (by first | (simp; done) | fail) (fun d hd => ?_); subst hd; (try simp [s0, c1, c2, c3, c5]))
    | (refine CallP.fun_ (e2) (by first | rfl | fail) (by first | assumption | (simp; done) | fail) (by first | (simp [s0, c1, c2, c3, c5]; done) | (simp [s0, c1, c2, c3, c5]; rfl) | fail) (by first | (simp; done) | fail) (fun d hd => ?_); subst hd; (try simp [s0, c1, c2, c3, c5]))
    | (refine CallP.fun_ (e3) (by first | rfl | fail) (by first | assumption | (simp; done) | fail) (by first | (simp [s0, c1, c2, c3, c5]; done) | (simp [s0, c1, c2, c3, c5]; rfl) | fail) (by first | (simp; done) | fail) (fun d hd => ?_); subst hd; (try simp [s0, c1, c2, c3, c5]))
    | (refine CallP.fun_ (e4) (by first | rfl | fail) (by first | assumption | (simp; done) | fail) (by first | (simp [s0, c1, c2, c3, c5]; done) | (simp [s0, c1, c2, c3, c5]; rfl) | fail) (by first | (simp; done) | fail) (fun d hd => ?_); subst hd; (try simp [s0, c1, c2, c3, c5]))
    | fail)
        refine EndW.here ?_
        (refine EndOK.val (.inr rfl) ?_; simp [resD, oneOrTup, pureD, Tryz.results43])
      · rw [if_neg (fun h => by have := h.2; simp only at this; omega)] at hX
        subst hX
        have c5 : ¬ today + 1 + b.wait ≤ today + 1 := by omega
        unfold clU clCells byCells voU at *
        (refine Fun.of_bodyW Tryz.func43 rfl (by simp) fun Γ hn => ?_); simp only [entry, List.zipIdx_cons, List.zipIdx_nil, List.map_cons, List.map_nil, Nat.zero_add, Tryz.ntmps43]
        repeat' (first
    | (refine H_cons ?_; simp [s0, c1, c2, c3, c5])
    | (refine HD4_val rfl ?_; simp [s0, c1, c2, c3, c5])
    | (refine HD4_chg rfl ?_; simp [s0, c1, c2, c3, c5])
    | (refine H_nil ?_; simp [s0, c1, c2, c3, c5])
    | (refine ⟨by omega, ?_⟩)
    | (refine V_sseq ?_; simp [s0, c1, c2, c3, c5])
    | (refine V_scond ?_; simp [s0, c1, c2, c3, c5])
    | (refine HD4_nil (hC _ (by kernel_rfl)) (hk _ ?_); clear hC hk C k; simp only [RunK])
    | (refine V_drawX rfl (by kernel_rfl) (by first | (simp [hn]; done) | (simp [hn]; omega) | fail) fun C k hC hk => ?_; simp [s0, c1, c2, c3, c5])
    | (refine V_sblock ?_; simp [s0, c1, c2, c3, c5])
    | (refine V_ret ?_; simp only [RunK])
    | (refine V_skip ?_; simp only [RunK])
    | (refine CallP.fun_ (e1) (by first | rfl | fail) (by first | assumption | (simp; done) | fail) (by first | (simp [s0, c1, c2, c3, c5]; done) | (simp [s0, c1, c2, c3, c5]; rfl) | fail) (by first | (simp; done) | fail) (fun d hd => ?_); subst hd; (try simp [s0, c1, c2, c3, c5]))
    | (refine CallP.fun_ (e2) (by first | rfl | fail) (by first | assumption | (simp; done) | fail) (by first | (simp [s0, c1, c2, c3, c5]; done) | (simp [s0, c1, c2, c3, c5]; rfl) | fail) (by first | (simp; done) | fail) (fun d hd => ?_); subst hd; (try simp [s0, c1, c2, c3, c5]))
    | (refine CallP.fun_ (e3) (by first | rfl | fail) (by first | assumption | (simp; done) | fail) (by first | (simp [s0, c1, c2, c3, c5]; done) | (simp [s0, c1, c2, c3, c5]; rfl) | fail) (by first | (simp; done) | fail) (fun d hd => ?_); subst hd; (try simp [s0, c1, c2, c3, c5]))
    | (refine CallP.fun_ (e4) (by first | rfl | fail) (by first | assumption | (simp; done) | fail) (by first | (simp [s0, c1, c2, c3, c5]; done) | (simp [s0, c1, c2, c3, c5]; rfl) | fail) (by first | (simp; done) | fail) (fun d hd => ?_); subst hd; (try simp [s0, c1, c2, c3, c5]))
    | fail)
        refine EndW.here ?_
        (refine EndOK.val (.inr rfl) ?_; simp [resD, oneOrTup, pureD, Tryz.results43])
    · have hru : ruled c b.wait b.period v cover today = { c with state := 3, frm := today } := by rw [ruled, if_pos c1, if_neg c3]
      obtain ⟨c1, c2⟩ := c1
      rw [hru] at hX
      unfold opened at hX
      unfold grantM at c3
      rw [if_neg (fun h => by have := h.1; simp at this)] at hX
      subst hX
      unfold clU clCells byCells voU at *
      (refine Fun.of_bodyW Tryz.func43 rfl (by simp) fun Γ hn => ?_); simp only [entry, List.zipIdx_cons, List.zipIdx_nil, List.map_cons, List.map_nil, Nat.zero_add, Tryz.ntmps43]
      repeat' (first
    | (refine H_cons ?_; simp [s0, c1, c2, c3])
    | (refine H_nil ?_; simp [s0, c1, c2, c3])
    | (refine V_sseq ?_; simp [s0, c1, c2, c3])
    | (refine V_scond ?_; simp [s0, c1, c2, c3])
    | (refine V_sblock ?_; simp [s0, c1, c2, c3])
    | (refine V_sregion ?_; simp [s0, c1, c2, c3])
    | (refine V_ret ?_; simp only [RunK])
    | (refine V_skip ?_; simp only [RunK])
    | (refine CallP.fun_ (e1) (by first | rfl | fail) (by first | assumption | (simp; done) | fail) (by first | (simp [s0, c1, c2, c3]; done) | (simp [s0, c1, c2, c3]; rfl) | fail) (by first | (simp; done) | fail) (fun d hd => ?_); subst hd; (try simp [s0, c1, c2, c3]))
    | (refine CallP.fun_ (e2) (by first | rfl | fail) (by first | assumption | (simp; done) | fail) (by first | (simp [s0, c1, c2, c3]; done) | (simp [s0, c1, c2, c3]; rfl) | fail) (by first | (simp; done) | fail) (fun d hd => ?_); subst hd; (try simp [s0, c1, c2, c3]))
    | (refine CallP.fun_ (e3) (by first | rfl | fail) (by first | assumption | (simp; done) | fail) (by first | (simp [s0, c1, c2, c3]; done) | (simp [s0, c1, c2, c3]; rfl) | fail) (by first | (simp; done) | fail) (fun d hd => ?_); subst hd; (try simp [s0, c1, c2, c3]))
    | (refine CallP.fun_ (e4) (by first | rfl | fail) (by first | assumption | (simp; done) | fail) (by first | (simp [s0, c1, c2, c3]; done) | (simp [s0, c1, c2, c3]; rfl) | fail) (by first | (simp; done) | fail) (fun d hd => ?_); subst hd; (try simp [s0, c1, c2, c3]))
    | fail)
      refine EndW.here ?_
      (refine EndOK.val (.inr rfl) ?_; simp [resD, oneOrTup, pureD, Tryz.results43])
  by_cases c2 : v = 2
  · have hru : ruled c b.wait b.period v cover today = { c with state := 3, frm := today } := by rw [ruled, if_neg c1, if_pos (.inl c2)]
    rw [hru] at hX
    unfold opened at hX
    rw [if_neg (fun h => by have := h.1; simp at this)] at hX
    subst hX
    have c3 : ¬ v = 1 := by omega
    unfold clU clCells byCells voU at *
    (refine Fun.of_bodyW Tryz.func43 rfl (by simp) fun Γ hn => ?_); simp only [entry, List.zipIdx_cons, List.zipIdx_nil, List.map_cons, List.map_nil, Nat.zero_add, Tryz.ntmps43]
    repeat' (first
    | (refine H_cons ?_; simp [s0, c2, c3])
    | (refine H_nil ?_; simp [s0, c2, c3])
    | (refine V_sseq ?_; simp [s0, c2, c3])
    | (refine V_scond ?_; simp [s0, c2, c3])
    | (refine V_sblock ?_; simp [s0, c2, c3])
    | (refine V_sregion ?_; simp [s0, c2, c3])
    | (refine V_ret ?_; simp only [RunK])
    | (refine V_skip ?_; simp only [RunK])
    | (refine CallP.fun_ (e1) (by first | rfl | fail) (by first | assumption | (simp; done) | fail) (by first | (simp [s0, c2, c3]; done) | (simp [s0, c2, c3]; rfl) | fail) (by first | (simp; done) | fail) (fun d hd => ?_); subst hd; (try simp [s0, c2, c3]))
    | (refine CallP.fun_ (e2) (by first | rfl | fail) (by first | assumption | (simp; done) | fail) (by first | (simp [s0, c2, c3]; done) | (simp [s0, c2, c3]; rfl) | fail) (by first | (simp; done) | fail) (fun d hd => ?_); subst hd; (try simp [s0, c2, c3]))
    | (refine CallP.fun_ (e3) (by first | rfl | fail) (by first | assumption | (simp; done) | fail) (by first | (simp [s0, c2, c3]; done) | (simp [s0, c2, c3]; rfl) | fail) (by first | (simp; done) | fail) (fun d hd => ?_); subst hd; (try simp [s0, c2, c3]))
    | (refine CallP.fun_ (e4) (by first | rfl | fail) (by first | assumption | (simp; done) | fail) (by first | (simp [s0, c2, c3]; done) | (simp [s0, c2, c3]; rfl) | fail) (by first | (simp; done) | fail) (fun d hd => ?_); subst hd; (try simp [s0, c2, c3]))
    | fail)
    refine EndW.here ?_
    (refine EndOK.val (.inr rfl) ?_; simp [resD, oneOrTup, pureD, Tryz.results43])
  by_cases c3 : c.frm ≤ today - b.period
  · have hru : ruled c b.wait b.period v cover today = { c with state := 3, frm := today } := by rw [ruled, if_neg c1, if_pos (.inr c3)]
    rw [hru] at hX
    unfold opened at hX
    rw [if_neg (fun h => by have := h.1; simp at this)] at hX
    subst hX
    unfold clU clCells byCells voU at *
    by_cases c4 : v = 1
    · have c5 : ¬ 0 < c.proofs := fun h => c1 ⟨c4, h⟩
      (refine Fun.of_bodyW Tryz.func43 rfl (by simp) fun Γ hn => ?_); simp only [entry, List.zipIdx_cons, List.zipIdx_nil, List.map_cons, List.map_nil, Nat.zero_add, Tryz.ntmps43]
      repeat' (first
    | (refine H_cons ?_; simp [s0, c2, c3, c4, c5])
    | (refine H_nil ?_; simp [s0, c2, c3, c4, c5])
    | (refine ⟨by omega, ?_⟩)
    | (refine V_sseq ?_; simp [s0, c2, c3, c4, c5])
    | (refine V_scond ?_; simp [s0, c2, c3, c4, c5])
    | (refine V_sblock ?_; simp [s0, c2, c3, c4, c5])
    | (refine V_sregion ?_; simp [s0, c2, c3, c4, c5])
    | (refine V_ret ?_; simp only [RunK])
    | (refine V_skip ?_; simp only [RunK])
    | (refine CallP.fun_ (e1) (by first | rfl | fail) (by first | assumption | (simp; done) | fail) (by first | (simp [s0, c2, c3, c4, c5]; done) | (simp [s0, c2, c3, c4, c5]; rfl) | fail) (by first | (simp; done) | fail) (fun d hd => ?_); subst hd; (try simp [s0, c2, c3, c4, c5]))
    | (refine CallP.fun_ (e2) (by first | rfl | fail) (by first | assumption | (simp; done) | fail) (by first | (simp [s0, c2, c3, c4, c5]; done) | (simp [s0, c2, c3, c4, c5]; rfl) | fail) (by first | (simp; done) | fail) (fun d hd => ?_); subst hd; (try simp [s0, c2, c3, c4, c5]))
    | (refine CallP.fun_ (e3) (by first | rfl | fail) (by first | assumption | (simp; done) | fail) (by first | (simp [s0, c2, c3, c4, c5]; done) | (simp [s0, c2, c3, c4, c5]; rfl) | fail) (by first | (simp; done) | fail) (fun d hd => ?_); subst hd; (try simp [s0, c2, c3, c4, c5]))
    | (refine CallP.fun_ (e4) (by first | rfl | fail) (by first | assumption | (simp; done) | fail) (by first | (simp [s0, c2, c3, c4, c5]; done) | (simp [s0, c2, c3, c4, c5]; rfl) | fail) (by first | (simp; done) | fail) (fun d hd => ?_); subst hd; (try simp [s0, c2, c3, c4, c5]))
    | fail)
      refine EndW.here ?_
      (refine EndOK.val (.inr rfl) ?_; simp [resD, oneOrTup, pureD, Tryz.results43])
    · skip
      (refine Fun.of_bodyW Tryz.func43 rfl (by simp) fun Γ hn => ?_); simp only [entry, List.zipIdx_cons, List.zipIdx_nil, List.map_cons, List.map_nil, Nat.zero_add, Tryz.ntmps43]
      repeat' (first
    | (refine H_cons ?_; simp [s0, c2, c3, c4])
    | (refine H_nil ?_; simp [s0, c2, c3, c4])
    | (refine ⟨by omega, ?_⟩)
    | (refine V_sseq ?_; simp [s0, c2, c3, c4])
    | (refine V_scond ?_; simp [s0, c2, c3, c4])
    | (refine V_sblock ?_; simp [s0, c2, c3, c4])
    | (refine V_sregion ?_; simp [s0, c2, c3, c4])
    | (refine V_ret ?_; simp only [RunK])
    | (refine V_skip ?_; simp only [RunK])
    | (refine CallP.fun_ (e1) (by first | rfl | fail) (by first | assumption | (simp; done) | fail) (by first | (simp [s0, c2, c3, c4]; done) | (simp [s0, c2, c3, c4]; rfl) | fail) (by first | (simp; done) | fail) (fun d hd => ?_); subst hd; (try simp [s0, c2, c3, c4]))
    | (refine CallP.fun_ (e2) (by first | rfl | fail) (by first | assumption | (simp; done) | fail) (by first | (simp [s0, c2, c3, c4]; done) | (simp [s0, c2, c3, c4]; rfl) | fail) (by first | (simp; done) | fail) (fun d hd => ?_); subst hd; (try simp [s0, c2, c3, c4]))
    | (refine CallP.fun_ (e3) (by first | rfl | fail) (by first | assumption | (simp; done) | fail) (by first | (simp [s0, c2, c3, c4]; done) | (simp [s0, c2, c3, c4]; rfl) | fail) (by first | (simp; done) | fail) (fun d hd => ?_); subst hd; (try simp [s0, c2, c3, c4]))
    | (refine CallP.fun_ (e4) (by first | rfl | fail) (by first | assumption | (simp; done) | fail) (by first | (simp [s0, c2, c3, c4]; done) | (simp [s0, c2, c3, c4]; rfl) | fail) (by first | (simp; done) | fail) (fun d hd => ?_); subst hd; (try simp [s0, c2, c3, c4]))
    | fail)
      refine EndW.here ?_
      (refine EndOK.val (.inr rfl) ?_; simp [resD, oneOrTup, pureD, Tryz.results43])
  · have hru : ruled c b.wait b.period v cover today = c := by rw [ruled, if_neg c1, if_neg (by omega)]
    rw [hru] at hX
    unfold opened at hX
    rw [if_neg (by omega)] at hX
    rw [hX]
    clear hX
    unfold clU clCells byCells voU at *
    by_cases c4 : v = 1
    · have c5 : ¬ 0 < c.proofs := fun h => c1 ⟨c4, h⟩
      (refine Fun.of_bodyW Tryz.func43 rfl (by simp) fun Γ hn => ?_); simp only [entry, List.zipIdx_cons, List.zipIdx_nil, List.map_cons, List.map_nil, Nat.zero_add, Tryz.ntmps43]
      repeat' (first
    | (refine H_cons ?_; simp [s0, c2, c3, c4, c5])
    | (refine H_nil ?_; simp [s0, c2, c3, c4, c5])
    | (refine ⟨by omega, ?_⟩)
    | (refine V_sseq ?_; simp [s0, c2, c3, c4, c5])
    | (refine V_scond ?_; simp [s0, c2, c3, c4, c5])
    | (refine V_sblock ?_; simp [s0, c2, c3, c4, c5])
    | (refine V_sregion ?_; simp [s0, c2, c3, c4, c5])
    | (refine V_ret ?_; simp only [RunK])
    | (refine V_skip ?_; simp only [RunK])
    | (refine CallP.fun_ (e1) (by first | rfl | fail) (by first | assumption | (simp; done) | fail) (by first | (simp [s0, c2, c3, c4, c5]; done) | (simp [s0, c2, c3, c4, c5]; rfl) | fail) (by first | (simp; done) | fail) (fun d hd => ?_); subst hd; (try simp [s0, c2, c3, c4, c5]))
    | (refine CallP.fun_ (e2) (by first | rfl | fail) (by first | assumption | (simp; done) | fail) (by first | (simp [s0, c2, c3, c4, c5]; done) | (simp [s0, c2, c3, c4, c5]; rfl) | fail) (by first | (simp; done) | fail) (fun d hd => ?_); subst hd; (try simp [s0, c2, c3, c4, c5]))
    | (refine CallP.fun_ (e3) (by first | rfl | fail) (by first | assumption | (simp; done) | fail) (by first | (simp [s0, c2, c3, c4, c5]; done) | (simp [s0, c2, c3, c4, c5]; rfl) | fail) (by first | (simp; done) | fail) (fun d hd => ?_); subst hd; (try simp [s0, c2, c3, c4, c5]))
    | (refine CallP.fun_ (e4) (by first | rfl | fail) (by first | assumption | (simp; done) | fail) (by first | (simp [s0, c2, c3, c4, c5]; done) | (simp [s0, c2, c3, c4, c5]; rfl) | fail) (by first | (simp; done) | fail) (fun d hd => ?_); subst hd; (try simp [s0, c2, c3, c4, c5]))
    | fail)
      refine EndW.here ?_
      (refine EndOK.val (.inr rfl) ?_; simp [resD, oneOrTup, pureD, Tryz.results43])
    · skip
      (refine Fun.of_bodyW Tryz.func43 rfl (by simp) fun Γ hn => ?_); simp only [entry, List.zipIdx_cons, List.zipIdx_nil, List.map_cons, List.map_nil, Nat.zero_add, Tryz.ntmps43]
      repeat' (first
    | (refine H_cons ?_; simp [s0, c2, c3, c4])
    | (refine H_nil ?_; simp [s0, c2, c3, c4])
    | (refine ⟨by omega, ?_⟩)
    | (refine V_sseq ?_; simp [s0, c2, c3, c4])
    | (refine V_scond ?_; simp [s0, c2, c3, c4])
    | (refine V_sblock ?_; simp [s0, c2, c3, c4])
    | (refine V_sregion ?_; simp [s0, c2, c3, c4])
    | (refine V_ret ?_; simp only [RunK])
    | (refine V_skip ?_; simp only [RunK])
    | (refine CallP.fun_ (e1) (by first | rfl | fail) (by first | assumption | (simp; done) | fail) (by first | (simp [s0, c2, c3, c4]; done) | (simp [s0, c2, c3, c4]; rfl) | fail) (by first | (simp; done) | fail) (fun d hd => ?_); subst hd; (try simp [s0, c2, c3, c4]))
    | (refine CallP.fun_ (e2) (by first | rfl | fail) (by first | assumption | (simp; done) | fail) (by first | (simp [s0, c2, c3, c4]; done) | (simp [s0, c2, c3, c4]; rfl) | fail) (by first | (simp; done) | fail) (fun d hd => ?_); subst hd; (try simp [s0, c2, c3, c4]))
    | (refine CallP.fun_ (e3) (by first | rfl | fail) (by first | assumption | (simp; done) | fail) (by first | (simp [s0, c2, c3, c4]; done) | (simp [s0, c2, c3, c4]; rfl) | fail) (by first | (simp; done) | fail) (fun d hd => ?_); subst hd; (try simp [s0, c2, c3, c4]))
    | (refine CallP.fun_ (e4) (by first | rfl | fail) (by first | assumption | (simp; done) | fail) (by first | (simp [s0, c2, c3, c4]; done) | (simp [s0, c2, c3, c4]; rfl) | fail) (by first | (simp; done) | fail) (fun d hd => ?_); subst hd; (try simp [s0, c2, c3, c4]))
    | fail)
      refine EndW.here ?_
      (refine EndOK.val (.inr rfl) ?_; simp [resD, oneOrTup, pureD, Tryz.results43])
theorem prove_fun (c : Cl) (h0 : 0 ≤ c.proofs) (h1 : c.jury.length ≤ 1000000) (h2 : c.again.length ≤ 1000000) : Fun Tryz.prog 42 [.u (clU c)] (· = .tup [.u (clU (proveM c).1), .u (.int .i64 (proveM c).2)]) := by
  have e1 := copied_fun c h1 h2
  unfold proveM
  by_cases c1 : c.state = 0
  · rw [if_neg (by simp [c1])]
    by_cases c2 : 1000 ≤ c.proofs
    · rw [if_pos c2]
      unfold clU clCells at *
      (refine Fun.of_bodyW Tryz.func42 rfl (by simp) fun Γ hn => ?_); simp only [entry, List.zipIdx_cons, List.zipIdx_nil, List.map_cons, List.map_nil, Nat.zero_add, Tryz.ntmps42]
      repeat' (first
    | (refine H_cons ?_; simp [c1, c2])
    | (refine H_nil ?_; simp [c1, c2])
    | (refine V_sseq ?_; simp [c1, c2])
    | (refine V_scond ?_; simp [c1, c2])
    | (refine V_ret ?_; simp only [RunK])
    | (refine CallP.fun_ (e1) (by first | rfl | fail) (by first | assumption | (simp; done) | fail) (by first | (simp [c1, c2]; done) | (simp [c1, c2]; rfl) | fail) (by first | (simp; done) | fail) (fun d hd => ?_); subst hd; (try simp [c1, c2]))
    | fail)
      refine EndW.here ?_
      (refine EndOK.val (.inr rfl) ?_; simp [resD, oneOrTup, pureD, Tryz.results42])
    · rw [if_neg c2]
      unfold clU clCells at *
      (refine Fun.of_bodyW Tryz.func42 rfl (by simp) fun Γ hn => ?_); simp only [entry, List.zipIdx_cons, List.zipIdx_nil, List.map_cons, List.map_nil, Nat.zero_add, Tryz.ntmps42]
      repeat' (first
    | (refine H_cons ?_; simp [c1, c2])
    | (refine H_nil ?_; simp [c1, c2])
    | (refine ⟨by omega, ?_⟩)
    | (refine V_sseq ?_; simp [c1, c2])
    | (refine V_scond ?_; simp [c1, c2])
    | (refine V_ret ?_; simp only [RunK])
    | (refine V_skip ?_; simp only [RunK])
    | (refine CallP.fun_ (e1) (by first | rfl | fail) (by first | assumption | (simp; done) | fail) (by first | (simp [c1, c2]; done) | (simp [c1, c2]; rfl) | fail) (by first | (simp; done) | fail) (fun d hd => ?_); subst hd; (try simp [c1, c2]))
    | fail)
      refine EndW.here ?_
      (refine EndOK.val (.inr rfl) ?_; simp [resD, oneOrTup, pureD, Tryz.results42])
  · rw [if_pos c1]
    unfold clU clCells at *
    (refine Fun.of_bodyW Tryz.func42 rfl (by simp) fun Γ hn => ?_); simp only [entry, List.zipIdx_cons, List.zipIdx_nil, List.map_cons, List.map_nil, Nat.zero_add, Tryz.ntmps42]
    repeat' (first
    | (refine H_cons ?_; simp [c1])
    | (refine H_nil ?_; simp [c1])
    | (refine V_sseq ?_; simp [c1])
    | (refine V_scond ?_; simp [c1])
    | (refine V_ret ?_; simp only [RunK])
    | (refine CallP.fun_ (e1) (by first | rfl | fail) (by first | assumption | (simp; done) | fail) (by first | (simp [c1]; done) | (simp [c1]; rfl) | fail) (by first | (simp; done) | fail) (fun d hd => ?_); subst hd; (try simp [c1]))
    | fail)
    refine EndW.here ?_
    (refine EndOK.val (.inr rfl) ?_; simp [resD, oneOrTup, pureD, Tryz.results42])
theorem pay_fun (c : Cl) (n : Int) (h1 : c.jury.length ≤ 1000000) (h2 : c.again.length ≤ 1000000) : Fun Tryz.prog 46 [.u (clU c), .u (.int .i64 n)] (· = .tup [.u (clU (payM c n).1), .u (.int .i64 (payM c n).2)]) := by
  have e1 := copied_fun c h1 h2
  unfold payM
  by_cases c1 : c.state = 1
  · rw [if_pos c1]
    unfold clU clCells at *
    (refine Fun.of_bodyW Tryz.func46 rfl (by simp) fun Γ hn => ?_); simp only [entry, List.zipIdx_cons, List.zipIdx_nil, List.map_cons, List.map_nil, Nat.zero_add, Tryz.ntmps46]
    repeat' (first
    | (refine H_cons ?_; simp [c1])
    | (refine H_nil ?_; simp [c1])
    | (refine V_sseq ?_; simp [c1])
    | (refine V_scond ?_; simp [c1])
    | (refine V_ret ?_; simp only [RunK])
    | (refine CallP.fun_ (e1) (by first | rfl | fail) (by first | assumption | (simp; done) | fail) (by first | (simp [c1]; done) | (simp [c1]; rfl) | fail) (by first | (simp; done) | fail) (fun d hd => ?_); subst hd; (try simp [c1]))
    | fail)
    refine EndW.here ?_
    (refine EndOK.val (.inr rfl) ?_; simp [resD, oneOrTup, pureD, Tryz.results46])
  rw [if_neg c1]
  by_cases c2 : c.state = 2
  case neg =>
    rw [if_pos c2]
    unfold clU clCells at *
    (refine Fun.of_bodyW Tryz.func46 rfl (by simp) fun Γ hn => ?_); simp only [entry, List.zipIdx_cons, List.zipIdx_nil, List.map_cons, List.map_nil, Nat.zero_add, Tryz.ntmps46]
    repeat' (first
    | (refine H_cons ?_; simp [c1, c2])
    | (refine H_nil ?_; simp [c1, c2])
    | (refine V_sseq ?_; simp [c1, c2])
    | (refine V_scond ?_; simp [c1, c2])
    | (refine V_ret ?_; simp only [RunK])
    | (refine CallP.fun_ (e1) (by first | rfl | fail) (by first | assumption | (simp; done) | fail) (by first | (simp [c1, c2]; done) | (simp [c1, c2]; rfl) | fail) (by first | (simp; done) | fail) (fun d hd => ?_); subst hd; (try simp [c1, c2]))
    | fail)
    refine EndW.here ?_
    (refine EndOK.val (.inr rfl) ?_; simp [resD, oneOrTup, pureD, Tryz.results46])
  rw [if_neg (fun h => h c2)]
  by_cases c3 : c.grant < n
  · rw [if_pos c3]
    unfold clU clCells at *
    (refine Fun.of_bodyW Tryz.func46 rfl (by simp) fun Γ hn => ?_); simp only [entry, List.zipIdx_cons, List.zipIdx_nil, List.map_cons, List.map_nil, Nat.zero_add, Tryz.ntmps46]
    repeat' (first
    | (refine H_cons ?_; simp [c1, c2, c3])
    | (refine H_nil ?_; simp [c1, c2, c3])
    | (refine V_sseq ?_; simp [c1, c2, c3])
    | (refine V_scond ?_; simp [c1, c2, c3])
    | (refine V_ret ?_; simp only [RunK])
    | (refine CallP.fun_ (e1) (by first | rfl | fail) (by first | assumption | (simp; done) | fail) (by first | (simp [c1, c2, c3]; done) | (simp [c1, c2, c3]; rfl) | fail) (by first | (simp; done) | fail) (fun d hd => ?_); subst hd; (try simp [c1, c2, c3]))
    | fail)
    refine EndW.here ?_
    (refine EndOK.val (.inr rfl) ?_; simp [resD, oneOrTup, pureD, Tryz.results46])
  rw [if_neg c3]
  by_cases c4 : n < c.grant
  · rw [if_pos c4]
    unfold clU clCells at *
    (refine Fun.of_bodyW Tryz.func46 rfl (by simp) fun Γ hn => ?_); simp only [entry, List.zipIdx_cons, List.zipIdx_nil, List.map_cons, List.map_nil, Nat.zero_add, Tryz.ntmps46]
    repeat' (first
    | (refine H_cons ?_; simp [c1, c2, c3, c4])
    | (refine H_nil ?_; simp [c1, c2, c3, c4])
    | (refine V_sseq ?_; simp [c1, c2, c3, c4])
    | (refine V_scond ?_; simp [c1, c2, c3, c4])
    | (refine V_ret ?_; simp only [RunK])
    | (refine CallP.fun_ (e1) (by first | rfl | fail) (by first | assumption | (simp; done) | fail) (by first | (simp [c1, c2, c3, c4]; done) | (simp [c1, c2, c3, c4]; rfl) | fail) (by first | (simp; done) | fail) (fun d hd => ?_); subst hd; (try simp [c1, c2, c3, c4]))
    | fail)
    refine EndW.here ?_
    (refine EndOK.val (.inr rfl) ?_; simp [resD, oneOrTup, pureD, Tryz.results46])
  · rw [if_neg c4]
    unfold clU clCells at *
    (refine Fun.of_bodyW Tryz.func46 rfl (by simp) fun Γ hn => ?_); simp only [entry, List.zipIdx_cons, List.zipIdx_nil, List.map_cons, List.map_nil, Nat.zero_add, Tryz.ntmps46]
    repeat' (first
    | (refine H_cons ?_; simp [c1, c2, c3, c4])
    | (refine H_nil ?_; simp [c1, c2, c3, c4])
    | (refine V_sseq ?_; simp [c1, c2, c3, c4])
    | (refine V_scond ?_; simp [c1, c2, c3, c4])
    | (refine V_ret ?_; simp only [RunK])
    | (refine V_skip ?_; simp only [RunK])
    | (refine CallP.fun_ (e1) (by first | rfl | fail) (by first | assumption | (simp; done) | fail) (by first | (simp [c1, c2, c3, c4]; done) | (simp [c1, c2, c3, c4]; rfl) | fail) (by first | (simp; done) | fail) (fun d hd => ?_); subst hd; (try simp [c1, c2, c3, c4]))
    | fail)
    refine EndW.here ?_
    (refine EndOK.val (.inr rfl) ?_; simp [resD, oneOrTup, pureD, Tryz.results46])
theorem appeal_fun (c : Cl) (b : By) (again : List Int) (today : Int) (h1 : c.jury.length ≤ 1000000) (h2 : c.again.length ≤ 1000000) (h3 : again.length ≤ 1000000) :
    Fun Tryz.prog 45 [.u (clU c), .u (.agg (byCells b)), .u (ints again), .u (.int .i64 today)] (· = .tup [.u (clU (appealM c b again today).1), .u (.int .i64 (appealM c b again today).2)]) := by
  have e1 := copied_fun c h1 h2
  have e2 := rightBy_fun b
  have e3 := cday_fun today
  have e4 := clone_fun again h3
  obtain ⟨X, hX⟩ : ∃ X, X = appealM c b again today := ⟨_, rfl⟩
  rw [← hX]
  unfold appealM at hX
  cases hr : rightBy b with
  | false =>
    rw [hr] at e2 hX
    rw [if_pos (.inl rfl)] at hX
    subst hX
    unfold clU clCells byCells ints at *
    (refine Fun.of_bodyW Tryz.func45 rfl (by simp) fun Γ hn => ?_); simp only [entry, List.zipIdx_cons, List.zipIdx_nil, List.map_cons, List.map_nil, Nat.zero_add, Tryz.ntmps45]
    repeat' (first
    | (refine H_cons ?_; simp)
    | (refine H_nil ?_; simp)
    | (refine V_sseq ?_; simp)
    | (refine V_scond ?_; simp)
    | (refine V_ret ?_; simp only [RunK])
    | (refine CallP.fun_ (e1) (by first | rfl | fail) (by first | assumption | (simp; done) | fail) (by first | (simp; done) | (simp; rfl) | fail) (by first | (simp; done) | fail) (fun d hd => ?_); subst hd; (try simp))
    | (refine CallP.fun_ (e2) (by first | rfl | fail) (by first | assumption | (simp; done) | fail) (by first | (simp; done) | (simp; rfl) | fail) (by first | (simp; done) | fail) (fun d hd => ?_); subst hd; (try simp))
    | fail)
    refine EndW.here ?_
    (refine EndOK.val (.inr rfl) ?_; simp [resD, oneOrTup, pureD, Tryz.results45])
  | true =>
  obtain ⟨p0, p1, p2, p3⟩ := right_period hr
  rw [hr] at e2 hX
  cases hd : dayB today with
  | false =>
    rw [hd] at e3 hX
    rw [if_pos (.inr (.inl rfl))] at hX
    subst hX
    unfold clU clCells byCells ints at *
    (refine Fun.of_bodyW Tryz.func45 rfl (by simp) fun Γ hn => ?_); simp only [entry, List.zipIdx_cons, List.zipIdx_nil, List.map_cons, List.map_nil, Nat.zero_add, Tryz.ntmps45]
    repeat' (first
    | (refine H_cons ?_; simp)
    | (refine H_nil ?_; simp)
    | (refine V_sseq ?_; simp)
    | (refine V_scond ?_; simp)
    | (refine V_ret ?_; simp only [RunK])
    | (refine CallP.fun_ (e1) (by first | rfl | fail) (by first | assumption | (simp; done) | fail) (by first | (simp; done) | (simp; rfl) | fail) (by first | (simp; done) | fail) (fun d hd => ?_); subst hd; (try simp))
    | (refine CallP.fun_ (e2) (by first | rfl | fail) (by first | assumption | (simp; done) | fail) (by first | (simp; done) | (simp; rfl) | fail) (by first | (simp; done) | fail) (fun d hd => ?_); subst hd; (try simp))
    | (refine CallP.fun_ (e3) (by first | rfl | fail) (by first | assumption | (simp; done) | fail) (by first | (simp; done) | (simp; rfl) | fail) (by first | (simp; done) | fail) (fun d hd => ?_); subst hd; (try simp))
    | fail)
    refine EndW.here ?_
    (refine EndOK.val (.inr rfl) ?_; simp [resD, oneOrTup, pureD, Tryz.results45])
  | true =>
  obtain ⟨d0, d1⟩ := day_in hd
  rw [hd] at e3 hX
  by_cases c1 : again = []
  · rw [if_pos (.inr (.inr c1))] at hX
    subst hX
    subst c1
    unfold clU clCells byCells ints at *
    (refine Fun.of_bodyW Tryz.func45 rfl (by simp) fun Γ hn => ?_); simp only [entry, List.zipIdx_cons, List.zipIdx_nil, List.map_cons, List.map_nil, Nat.zero_add, Tryz.ntmps45]
    repeat' (first
    | (refine H_cons ?_; simp)
    | (refine H_nil ?_; simp)
    | (refine V_sseq ?_; simp)
    | (refine V_scond ?_; simp)
    | (refine V_ret ?_; simp only [RunK])
    | (refine CallP.fun_ (e1) (by first | rfl | fail) (by first | assumption | (simp; done) | fail) (by first | (simp; done) | (simp; rfl) | fail) (by first | (simp; done) | fail) (fun d hd => ?_); subst hd; (try simp))
    | (refine CallP.fun_ (e2) (by first | rfl | fail) (by first | assumption | (simp; done) | fail) (by first | (simp; done) | (simp; rfl) | fail) (by first | (simp; done) | fail) (fun d hd => ?_); subst hd; (try simp))
    | (refine CallP.fun_ (e3) (by first | rfl | fail) (by first | assumption | (simp; done) | fail) (by first | (simp; done) | (simp; rfl) | fail) (by first | (simp; done) | fail) (fun d hd => ?_); subst hd; (try simp))
    | fail)
    refine EndW.here ?_
    (refine EndOK.val (.inr rfl) ?_; simp [resD, oneOrTup, pureD, Tryz.results45])
  have c1' : (again = []) = False := eq_false c1
  rw [if_neg (by simp [c1])] at hX
  by_cases c2 : c.state = 3
  case neg =>
    rw [if_pos c2] at hX
    subst hX
    unfold clU clCells byCells ints at *
    (refine Fun.of_bodyW Tryz.func45 rfl (by simp) fun Γ hn => ?_); simp only [entry, List.zipIdx_cons, List.zipIdx_nil, List.map_cons, List.map_nil, Nat.zero_add, Tryz.ntmps45]
    repeat' (first
    | (refine H_cons ?_; simp [c1', c2])
    | (refine H_nil ?_; simp [c1', c2])
    | (refine V_sseq ?_; simp [c1', c2])
    | (refine V_scond ?_; simp [c1', c2])
    | (refine V_ret ?_; simp only [RunK])
    | (refine CallP.fun_ (e1) (by first | rfl | fail) (by first | assumption | (simp; done) | fail) (by first | (simp [c1', c2]; done) | (simp [c1', c2]; rfl) | fail) (by first | (simp; done) | fail) (fun d hd => ?_); subst hd; (try simp [c1', c2]))
    | (refine CallP.fun_ (e2) (by first | rfl | fail) (by first | assumption | (simp; done) | fail) (by first | (simp [c1', c2]; done) | (simp [c1', c2]; rfl) | fail) (by first | (simp; done) | fail) (fun d hd => ?_); subst hd; (try simp [c1', c2]))
    | (refine CallP.fun_ (e3) (by first | rfl | fail) (by first | assumption | (simp; done) | fail) (by first | (simp [c1', c2]; done) | (simp [c1', c2]; rfl) | fail) (by first | (simp; done) | fail) (fun d hd => ?_); subst hd; (try simp [c1', c2]))
    | fail)
    refine EndW.here ?_
    (refine EndOK.val (.inr rfl) ?_; simp [resD, oneOrTup, pureD, Tryz.results45])
  rw [if_neg (fun h => h c2)] at hX
  by_cases c3 : c.again = []
  case neg =>
    rw [if_pos c3] at hX
    subst hX
    have c4 : (c.again = []) = False := eq_false c3
    unfold clU clCells byCells ints at *
    (refine Fun.of_bodyW Tryz.func45 rfl (by simp) fun Γ hn => ?_); simp only [entry, List.zipIdx_cons, List.zipIdx_nil, List.map_cons, List.map_nil, Nat.zero_add, Tryz.ntmps45]
    repeat' (first
    | (refine H_cons ?_; simp [c1', c2, c4])
    | (refine H_nil ?_; simp [c1', c2, c4])
    | (refine V_sseq ?_; simp [c1', c2, c4])
    | (refine V_scond ?_; simp [c1', c2, c4])
    | (refine V_ret ?_; simp only [RunK])
    | (intro hc <;> (try (exfalso; omega)))
    | (refine CallP.fun_ (e1) (by first | rfl | fail) (by first | assumption | (simp; done) | fail) (by first | (simp [c1', c2, c4]; done) | (simp [c1', c2, c4]; rfl) | fail) (by first | (simp; done) | fail) (fun d hd => ?_); subst hd; (try simp [c1', c2, c4]))
    | (refine CallP.fun_ (e2) (by first | rfl | fail) (by first | assumption | (simp; done) | fail) (by first | (simp [c1', c2, c4]; done) | (simp [c1', c2, c4]; rfl) | fail) (by first | (simp; done) | fail) (fun d hd => ?_); subst hd; (try simp [c1', c2, c4]))
    | (refine CallP.fun_ (e3) (by first | rfl | fail) (by first | assumption | (simp; done) | fail) (by first | (simp [c1', c2, c4]; done) | (simp [c1', c2, c4]; rfl) | fail) (by first | (simp; done) | fail) (fun d hd => ?_); subst hd; (try simp [c1', c2, c4]))
    | fail)
    refine EndW.here ?_
    (refine EndOK.val (.inr rfl) ?_; simp [resD, oneOrTup, pureD, Tryz.results45])
  rw [if_neg (fun h => h c3)] at hX
  have c4 : (0 < c.again.length) = False := by rw [c3]; simp
  by_cases c5 : c.frm < today - b.period
  · rw [if_pos c5] at hX
    subst hX
    unfold clU clCells byCells ints at *
    (refine Fun.of_bodyW Tryz.func45 rfl (by simp) fun Γ hn => ?_); simp only [entry, List.zipIdx_cons, List.zipIdx_nil, List.map_cons, List.map_nil, Nat.zero_add, Tryz.ntmps45]
    repeat' (first
    | (refine H_cons ?_; simp [c1', c2, c4, c5])
    | (refine H_nil ?_; simp [c1', c2, c4, c5])
    | (refine ⟨by omega, ?_⟩)
    | (refine V_sseq ?_; simp [c1', c2, c4, c5])
    | (refine V_scond ?_; simp [c1', c2, c4, c5])
    | (refine V_ret ?_; simp only [RunK])
    | (refine CallP.fun_ (e1) (by first | rfl | fail) (by first | assumption | (simp; done) | fail) (by first | (simp [c1', c2, c4, c5]; done) | (simp [c1', c2, c4, c5]; rfl) | fail) (by first | (simp; done) | fail) (fun d hd => ?_); subst hd; (try simp [c1', c2, c4, c5]))
    | (refine CallP.fun_ (e2) (by first | rfl | fail) (by first | assumption | (simp; done) | fail) (by first | (simp [c1', c2, c4, c5]; done) | (simp [c1', c2, c4, c5]; rfl) | fail) (by first | (simp; done) | fail) (fun d hd => ?_); subst hd; (try simp [c1', c2, c4, c5]))
    | (refine CallP.fun_ (e3) (by first | rfl | fail) (by first | assumption | (simp; done) | fail) (by first | (simp [c1', c2, c4, c5]; done) | (simp [c1', c2, c4, c5]; rfl) | fail) (by first | (simp; done) | fail) (fun d hd => ?_); subst hd; (try simp [c1', c2, c4, c5]))
    | fail)
    refine EndW.here ?_
    (refine EndOK.val (.inr rfl) ?_; simp [resD, oneOrTup, pureD, Tryz.results45])
  · rw [if_neg c5] at hX
    subst hX
    unfold clU clCells byCells ints at *
    (refine Fun.of_bodyW Tryz.func45 rfl (by simp) fun Γ hn => ?_); simp only [entry, List.zipIdx_cons, List.zipIdx_nil, List.map_cons, List.map_nil, Nat.zero_add, Tryz.ntmps45]
    repeat' (first
    | (refine H_cons ?_; simp [c1', c2, c4, c5])
    | (refine H_nil ?_; simp [c1', c2, c4, c5])
    | (refine ⟨by omega, ?_⟩)
    | (refine V_sseq ?_; simp [c1', c2, c4, c5])
    | (refine V_scond ?_; simp [c1', c2, c4, c5])
    | (refine V_ret ?_; simp only [RunK])
    | (refine V_skip ?_; simp only [RunK])
    | (refine CallP.fun_ (e1) (by first | rfl | fail) (by first | assumption | (simp; done) | fail) (by first | (simp [c1', c2, c4, c5]; done) | (simp [c1', c2, c4, c5]; rfl) | fail) (by first | (simp; done) | fail) (fun d hd => ?_); subst hd; (try simp [c1', c2, c4, c5]))
    | (refine CallP.fun_ (e2) (by first | rfl | fail) (by first | assumption | (simp; done) | fail) (by first | (simp [c1', c2, c4, c5]; done) | (simp [c1', c2, c4, c5]; rfl) | fail) (by first | (simp; done) | fail) (fun d hd => ?_); subst hd; (try simp [c1', c2, c4, c5]))
    | (refine CallP.fun_ (e3) (by first | rfl | fail) (by first | assumption | (simp; done) | fail) (by first | (simp [c1', c2, c4, c5]; done) | (simp [c1', c2, c4, c5]; rfl) | fail) (by first | (simp; done) | fail) (fun d hd => ?_); subst hd; (try simp [c1', c2, c4, c5]))
    | (refine CallP.fun_ (e4) (by first | rfl | fail) (by first | assumption | (simp; done) | fail) (by first | (simp [c1', c2, c4, c5]; done) | (simp [c1', c2, c4, c5]; rfl) | fail) (by first | (simp; done) | fail) (fun d hd => ?_); subst hd; (try simp [c1', c2, c4, c5]))
    | fail)
    refine EndW.here ?_
    (refine EndOK.val (.inr rfl) ?_; simp [resD, oneOrTup, pureD, Tryz.results45])

theorem mark_fun (n : Int) : Fun Tryz.prog 174 [.u (.int .i64 n)] (· = .u (.bool (markB n))) := by
  unfold markB
  by_cases c1 : 0 ≤ n
  · by_cases c2 : n ≤ 1073741824
    all_goals
      (refine Fun.of_body Tryz.func174 rfl (by simp) fun Γ hn => ?_); simp only [entry, List.zipIdx_cons, List.zipIdx_nil, List.map_cons, List.map_nil, Nat.zero_add, Tryz.ntmps174]
      repeat' (first
    | (refine H_cons ?_; simp [c1, c2])
    | (refine H_nil ?_; simp [c1, c2])
    | (refine V_sseq ?_; simp [c1, c2])
    | (refine V_ret ?_; simp only [RunK])
    | fail)
      (refine EndOK.val (.inr rfl) ?_; simp [resD, oneOrTup, pureD, Tryz.results174])
      try simp [c1, c2]
  · (refine Fun.of_body Tryz.func174 rfl (by simp) fun Γ hn => ?_); simp only [entry, List.zipIdx_cons, List.zipIdx_nil, List.map_cons, List.map_nil, Nat.zero_add, Tryz.ntmps174]
    repeat' (first
    | (refine H_cons ?_; simp [c1])
    | (refine H_nil ?_; simp [c1])
    | (refine V_sseq ?_; simp [c1])
    | (refine V_ret ?_; simp only [RunK])
    | fail)
    (refine EndOK.val (.inr rfl) ?_; simp [resD, oneOrTup, pureD, Tryz.results174])
    try simp [c1]
theorem key_fun (n : Int) : Fun Tryz.prog 170 [.u (.int .i64 n)] (· = .u (.bool (keyB n))) := by
  unfold keyB
  by_cases c1 : 0 ≤ n
  · by_cases c2 : n < 200
    all_goals
      (refine Fun.of_body Tryz.func170 rfl (by simp) fun Γ hn => ?_); simp only [entry, List.zipIdx_cons, List.zipIdx_nil, List.map_cons, List.map_nil, Nat.zero_add, Tryz.ntmps170]
      repeat' (first
    | (refine H_cons ?_; simp [c1, c2])
    | (refine H_nil ?_; simp [c1, c2])
    | (refine V_sseq ?_; simp [c1, c2])
    | (refine V_ret ?_; simp only [RunK])
    | fail)
      (refine EndOK.val (.inr rfl) ?_; simp [resD, oneOrTup, pureD, Tryz.results170])
      try simp [c1, c2]
  · (refine Fun.of_body Tryz.func170 rfl (by simp) fun Γ hn => ?_); simp only [entry, List.zipIdx_cons, List.zipIdx_nil, List.map_cons, List.map_nil, Nat.zero_add, Tryz.ntmps170]
    repeat' (first
    | (refine H_cons ?_; simp [c1])
    | (refine H_nil ?_; simp [c1])
    | (refine V_sseq ?_; simp [c1])
    | (refine V_ret ?_; simp only [RunK])
    | fail)
    (refine EndOK.val (.inr rfl) ?_; simp [resD, oneOrTup, pureD, Tryz.results170])
    try simp [c1]
theorem eday_fun (n : Int) : Fun Tryz.prog 171 [.u (.int .i64 n)] (· = .u (.bool (dayB n))) := by
  unfold dayB
  by_cases c1 : 0 ≤ n
  · by_cases c2 : n ≤ 1048576
    all_goals
      (refine Fun.of_body Tryz.func171 rfl (by simp) fun Γ hn => ?_); simp only [entry, List.zipIdx_cons, List.zipIdx_nil, List.map_cons, List.map_nil, Nat.zero_add, Tryz.ntmps171]
      repeat' (first
    | (refine H_cons ?_; simp [c1, c2])
    | (refine H_nil ?_; simp [c1, c2])
    | (refine V_sseq ?_; simp [c1, c2])
    | (refine V_ret ?_; simp only [RunK])
    | fail)
      (refine EndOK.val (.inr rfl) ?_; simp [resD, oneOrTup, pureD, Tryz.results171])
      try simp [c1, c2]
  · (refine Fun.of_body Tryz.func171 rfl (by simp) fun Γ hn => ?_); simp only [entry, List.zipIdx_cons, List.zipIdx_nil, List.map_cons, List.map_nil, Nat.zero_add, Tryz.ntmps171]
    repeat' (first
    | (refine H_cons ?_; simp [c1])
    | (refine H_nil ?_; simp [c1])
    | (refine V_sseq ?_; simp [c1])
    | (refine V_ret ?_; simp only [RunK])
    | fail)
    (refine EndOK.val (.inr rfl) ?_; simp [resD, oneOrTup, pureD, Tryz.results171])
    try simp [c1]
theorem asc_fun (l : List Int) (hl : l.length ≤ 1000000) : Fun Tryz.prog 173 [.u (ints l)] (· = .u (.bool (ascB l))) := by
  obtain ⟨R, hR⟩ : ∃ R, R = ascB l := ⟨_, rfl⟩
  rw [← hR]
  unfold ascB at hR
  unfold ints
  (refine Fun.of_body Tryz.func173 rfl (by simp) fun Γ hn => ?_); simp only [entry, List.zipIdx_cons, List.zipIdx_nil, List.map_cons, List.map_nil, Nat.zero_add, Tryz.ntmps173]
  repeat' (first
    | (refine H_cons ?_; simp)
    | (refine H_nil ?_; simp)
    | (refine V_sseq ?_; simp)
    | (refine V_sblock ?_; simp)
    | fail)
  refine V_loopF (α := { i : Nat // 1 ≤ i ∧ (i ≤ l.length ∨ i = 1) ∧ ∀ j, j + 1 < i → l.getD j 0 < l.getD (j + 1) 0 }) [0] (fun i => [(3, .u (.int .i64 i.1))]) (fun i => l.length - i.1) ⟨1, by omega, by omega, by omega⟩ ?_ ?_
  · exact (Wk.env rfl rfl rfl (by simp [wkE, St.lp, keepE, getK_cons, getK] <;> (try (intros; simp_all; done)) <;> (try (intros; omega)) <;> (try grind)))
  rintro ⟨i, hi1, hi, hb⟩
  simp [St.lp, St.only, keepE, getK_cons, getK]
  by_cases hlt : i < l.length
  · have hlt' : (i : Int) < l.length := by omega
    have h1 : l[i]? = some (l.getD i 0) := by simp [List.getD, hlt]
    have h2 : l[i - 1]? = some (l.getD (i - 1) 0) := by simp [List.getD, show i - 1 < l.length by omega]
    have h3 : ((i : Int) - 1).toNat = i - 1 := by omega
    have h4 := hb (i - 2)
    have e : i - 1 + 1 = i := by omega
    generalize hx : l.getD i 0 = x at *
    generalize hy : l.getD (i - 1) 0 = y at *
    by_cases c1 : x ≤ y
    · have : R = false := by
        rw [hR, decide_eq_false_iff_not]
        intro h
        have := h ⟨i - 1, by omega⟩
        simp only [e, hx, hy] at this
        omega
      rw [this]
      repeat' (first
    | (refine H_cons ?_; simp [hlt', h1, h2, h3, c1])
    | (refine HD4_val rfl ?_; simp [hlt', h1, h2, h3, c1])
    | (refine H_nil ?_; simp [hlt', h1, h2, h3, c1])
    | (refine ⟨by omega, ?_⟩)
    | (refine V_sseq ?_; simp [hlt', h1, h2, h3, c1])
    | (refine V_scond ?_; simp [hlt', h1, h2, h3, c1])
    | (refine HD4_nil (hC _ (by kernel_rfl)) (hk _ ?_); clear hC hk C k; simp only [RunK])
    | (refine V_drawX rfl (by kernel_rfl) (by first | (simp [hn]; done) | (simp [hn]; omega) | fail) fun C k hC hk => ?_; simp [hlt', h1, h2, h3, c1])
    | (refine V_ret ?_; simp only [RunK])
    | (refine V_skip ?_; simp only [RunK])
    | fail)
      (refine EndOK.val (.inr rfl) ?_; simp [resD, oneOrTup, pureD, Tryz.results173])
    · repeat' (first
    | (refine H_cons ?_; simp [hlt', h1, h2, h3, c1])
    | (refine HD4_val rfl ?_; simp [hlt', h1, h2, h3, c1])
    | (refine H_nil ?_; simp [hlt', h1, h2, h3, c1])
    | (refine ⟨by omega, ?_⟩)
    | (refine V_sseq ?_; simp [hlt', h1, h2, h3, c1])
    | (refine V_scond ?_; simp [hlt', h1, h2, h3, c1])
    | (refine HD4_nil (hC _ (by kernel_rfl)) (hk _ ?_); clear hC hk C k; simp only [RunK])
    | (refine V_drawX rfl (by kernel_rfl) (by first | (simp [hn]; done) | (simp [hn]; omega) | fail) fun C k hC hk => ?_; simp [hlt', h1, h2, h3, c1])
    | (refine V_sregion ?_; simp [hlt', h1, h2, h3, c1])
    | (refine V_skip ?_; simp only [RunK])
    | fail)
      refine LoopW.next ⟨i + 1, by omega, by omega, fun j hj => ?_⟩ (by simp; omega) ?_
      · by_cases hj2 : j + 1 < i
        · exact hb j hj2
        · obtain rfl : j = i - 1 := by omega
          rw [e, hx, hy]; omega
      exact (Wk.env rfl rfl rfl (by simp [wkE, St.lp, keepE, getK_cons, getK] <;> (try (intros; simp_all; done)) <;> (try (intros; omega)) <;> (try grind)))
  · have hlt' : ¬ (i : Int) < l.length := by omega
    have : R = true := by
      rw [hR, decide_eq_true_iff]
      exact fun j => hb j (by have := j.2; omega)
    rw [this]
    repeat' (first
    | (refine H_cons ?_; simp [hlt'])
    | (refine H_nil ?_; simp [hlt'])
    | (refine V_sseq ?_; simp [hlt'])
    | (refine V_scond ?_; simp [hlt'])
    | (refine V_ret ?_; simp only [RunK])
    | (refine V_exit ?_; simp [RunK])
    | fail)
    (refine EndOK.val (.inr rfl) ?_; simp [resD, oneOrTup, pureD, Tryz.results173])

theorem glob_uses : globD 0 = .u (.row (usesL.map .str) 0) := by
  simp [globD, globs, usesL, uOf]
theorem plain_fun (e : En) (h0 : 0 ≤ e.kind) (h1 : e.kind < 21) : Fun Tryz.prog 172 [.u (.agg (enCells e))] (· = .u (.bool (plainB e))) := by
  obtain ⟨R, hR⟩ : ∃ R, R = plainB e := ⟨_, rfl⟩
  rw [← hR]
  have hgu := glob_uses
  have hul : usesL.length = 21 := rfl
  have hu : usesL[e.kind.toNat]? = some (usesL.getD e.kind.toNat []) := by
    rw [List.getD, List.getElem?_eq_getElem (by omega)]; rfl
  have hok : ∀ i, okAt e i = ((flagsB e).getD i true || hasRune (usesL.getD e.kind.toNat []) (zS.getD i 0).toNat) := fun i => rfl
  have hno : ∀ i, i < 8 → okAt e i = false → R = false := fun i hi h => by rw [hR]; exact plainB_no hi h
  have hyes : (∀ j, j < 8 → okAt e j = true) → R = true := fun h => by rw [hR]; exact plainB_yes h
  have hF : ∃ F, F = flagsB e := ⟨_, rfl⟩
  obtain ⟨F, hF⟩ := hF
  have hFl : F.length = 8 := by rw [hF]; rfl
  have hFm : F.map (fun b => D.u (U.bool b)) = [.u (.bool (decide (e.circle = 0))), .u (.bool (decide (e.who = 0))), .u (.bool (decide (e.n = 0))), .u (.bool (decide (e.m = 0))), .u (.bool (decide (e.ref = -1))), .u (.bool (decide (e.keys = []))), .u (.bool (decide (e.spans = []))), .u (.bool (decide (e.text = [])))] := by
    rw [hF]; simp [flagsB]
  rw [← hF] at hok
  have hzl : zS.length = 8 := rfl
  have hzz : ∀ i, i < 8 → (zS.getD i 0).toNat < 128 := by decide
  have hru := fun r h => rune_fun (usesL.getD e.kind.toNat []) r h
  generalize usesL.getD e.kind.toNat [] = us at *
  have hu' : ∀ h, usesL[e.kind.toNat]'h = us := fun h => (List.getElem?_eq_some_iff.1 hu).2
  clear hR hF
  have hkn : ((e.kind.toNat : Nat) : Int) = e.kind := by omega
  unfold enCells
  (refine Fun.of_bodyW Tryz.func172 rfl (by simp) fun Γ hn => ?_); simp only [entry, List.zipIdx_cons, List.zipIdx_nil, List.map_cons, List.map_nil, Nat.zero_add, Tryz.ntmps172]
  repeat' (first
    | (refine H_cons ?_; simp [hgu, hul, hu, hu', h0, h1, hkn])
    | (refine H_nil ?_; simp [hgu, hul, hu, hu', h0, h1, hkn])
    | (refine V_sseq ?_; simp [hgu, hul, hu, hu', h0, h1, hkn])
    | (refine V_sblock ?_; simp [hgu, hul, hu, hu', h0, h1, hkn])
    | fail)
  refine V_loopO (α := { i : Nat // i ≤ 8 ∧ ∀ j, j < i → okAt e j = true }) [3, 4, 38] (fun i => []) (fun i => [(1, .box (F.map fun b => D.u (U.bool b))), (2, .sit zS i.1)]) 3 (fun i => 8 - i.1) ⟨0, by omega, by omega⟩ ?_ ?_
  · exact (Wk.cut rfl (by simp [hn, St.lp]) (by simp [wkO, St.lp, getK_cons, getK, Ob.under, D.under, under_rowsD, under_entD, hFm, zS]) (by simp [wkU, St.lp, keepE, getK_cons, getK, D.under, hFm, zS]) (by simp [wkE, St.lp, keepE, getK_cons, getK, hFm, zS] <;> (try (intros; simp_all; done)) <;> (try (intros; omega)) <;> (try grind)))
  rintro ⟨i, hi, hb⟩
  simp [St.lp, St.only, keepE, getK_cons, getK]
  by_cases h8 : i = 8
  · subst h8
    rw [hyes hb]
    repeat' (first
    | (refine H_cons ?_; simp [hzl])
    | (refine H_nil ?_; simp [hzl])
    | (refine V_sseq ?_; simp [hzl])
    | (refine V_ret ?_; simp only [RunK])
    | (refine V_exit ?_; simp [RunK])
    | fail)
    refine EndW.here ?_
    (refine EndOK.val (.inr rfl) ?_; simp [resD, oneOrTup, pureD, Tryz.results172])
  · have hi8 : i < 8 := by omega
    have hz := hzz i hi8
    have hrc := hru _ hz
    have hoi := hok i
    have hni := hno i hi8
    have hx : F[i]? = some (F.getD i true) := by rw [List.getD, List.getElem?_eq_getElem (by omega)]; rfl
    have hzi : zS[i]?.getD 0 = zS.getD i 0 := by simp [List.getD]
    have hzg : ∀ h, zS[i]'h = zS.getD i 0 := fun h => by simp [List.getD, h]
    generalize zS.getD i 0 = c at *
    generalize F.getD i true = b at *
    have hsucc : okAt e i = true → ∀ j, j < i + 1 → okAt e j = true := fun h j hj => by
      by_cases e1 : j < i
      · exact hb j e1
      · rw [show j = i by omega]; exact h
    cases b with
    | true =>
      repeat' (first
    | (refine H_cons ?_; simp [hzl, hi8, hz, hzi, hzg, hx])
    | (refine H_nil ?_; simp [hzl, hi8, hz, hzi, hzg, hx])
    | (refine V_sseq ?_; simp [hzl, hi8, hz, hzi, hzg, hx])
    | (refine V_scond ?_; simp [hzl, hi8, hz, hzi, hzg, hx])
    | (refine V_sblock ?_; simp [hzl, hi8, hz, hzi, hzg, hx])
    | (refine V_skip ?_; simp only [RunK])
    | fail)
      refine LoopW.next ⟨i + 1, by omega, hsucc (by rw [hoi]; simp)⟩ (by simp; omega) ?_
      exact (Wk.cut rfl (by simp [hn, St.lp]) (by simp [wkO, St.lp, getK_cons, getK, Ob.under, D.under, under_rowsD, under_entD]) (by simp [wkU, St.lp, keepE, getK_cons, getK, D.under]) (by simp [wkE, St.lp, keepE, getK_cons, getK] <;> (try (intros; simp_all; done)) <;> (try (intros; omega)) <;> (try grind)))
    | false =>
      generalize hasRune us c.toNat = r at *
      cases r with
      | true =>
        repeat' (first
    | (refine H_cons ?_; simp [hzl, hi8, hz, hzi, hzg, hx])
    | (refine H_nil ?_; simp [hzl, hi8, hz, hzi, hzg, hx])
    | (refine V_sseq ?_; simp [hzl, hi8, hz, hzi, hzg, hx])
    | (refine V_scond ?_; simp [hzl, hi8, hz, hzi, hzg, hx])
    | (refine V_sblock ?_; simp [hzl, hi8, hz, hzi, hzg, hx])
    | (refine V_skip ?_; simp only [RunK])
    | (refine CallP.fun_ (hrc) (by first | rfl | fail) (by first | assumption | (simp; done) | fail) (by first | (simp [hzl, hi8, hz, hzi, hzg, hx]; done) | (simp [hzl, hi8, hz, hzi, hzg, hx]; rfl) | fail) (by first | (simp; done) | fail) (fun d hd => ?_); subst hd; (try simp [hzl, hi8, hz, hzi, hzg, hx]))
    | fail)
        refine LoopW.next ⟨i + 1, by omega, hsucc (by rw [hoi]; simp)⟩ (by simp; omega) ?_
        exact (Wk.cut rfl (by simp [hn, St.lp]) (by simp [wkO, St.lp, getK_cons, getK, Ob.under, D.under, under_rowsD, under_entD]) (by simp [wkU, St.lp, keepE, getK_cons, getK, D.under]) (by simp [wkE, St.lp, keepE, getK_cons, getK] <;> (try (intros; simp_all; done)) <;> (try (intros; omega)) <;> (try grind)))
      | false =>
        rw [hni (by rw [hoi]; simp)]
        repeat' (first
    | (refine H_cons ?_; simp [hzl, hi8, hz, hzi, hzg, hx])
    | (refine H_nil ?_; simp [hzl, hi8, hz, hzi, hzg, hx])
    | (refine V_sseq ?_; simp [hzl, hi8, hz, hzi, hzg, hx])
    | (refine V_scond ?_; simp [hzl, hi8, hz, hzi, hzg, hx])
    | (refine V_sblock ?_; simp [hzl, hi8, hz, hzi, hzg, hx])
    | (refine V_ret ?_; simp only [RunK])
    | (refine V_skip ?_; simp only [RunK])
    | (refine CallP.fun_ (hrc) (by first | rfl | fail) (by first | assumption | (simp; done) | fail) (by first | (simp [hzl, hi8, hz, hzi, hzg, hx]; done) | (simp [hzl, hi8, hz, hzi, hzg, hx]; rfl) | fail) (by first | (simp; done) | fail) (fun d hd => ?_); subst hd; (try simp [hzl, hi8, hz, hzi, hzg, hx]))
    | fail)
        refine EndW.here ?_
        (refine EndOK.val (.inr rfl) ?_; simp [resD, oneOrTup, pureD, Tryz.results172])



abbrev expD (e : Exp) : D := .u (.agg e.row)
abbrev intD (n : Int) : D := .u (.int .i64 n)
theorem ne_facts {i nx : Nat} (h : i < nx) : ¬ i = nx ∧ ¬ nx = i ∧ (∀ k, ¬ i = nx + k) ∧ ∀ k, ¬ nx + k = i := ⟨by omega, by omega, fun k => by omega, fun k => by omega⟩
theorem unit_ret (l : List Tok) (p : Nat) (i nx : Nat) (hi : i < nx) (hp : p < l.length) (hl : TokOK l) :
    RetX Tryz.prog 303 [.ptr i 0] [(i, pOb l p)] nx (PPost l i nx intD (unitP l p)) := by
  have hne := ne_facts hi
  have hh1 := fun nx' (h : nx ≤ nx') => has_ret l p [99, 111, 105, 110, 115] i nx' (by omega) hp hl.len
  have hh2 := fun nx' (h : nx ≤ nx') => has_ret l p [100, 97, 121, 115] i nx' (by omega) hp hl.len
  have hh3 := fun nx' (h : nx ≤ nx') => has_ret l p [112, 101, 114] i nx' (by omega) hp hl.len
  unfold unitP
  by_cases h1 : isB l p [99, 111, 105, 110, 115] = true
  · simp only [h1, if_true] at hh1 ⊢
    (refine RetX.of_bodyW Tryz.func303 rfl (by simp) fun Γ hn hpan => ?_); simp only [entry, List.zipIdx_cons, List.zipIdx_nil, List.map_cons, List.map_nil, Nat.zero_add, Tryz.ntmps303]
    repeat' (first
    | (refine H_cons ?_; simp [hne])
    | (refine H_nil ?_; simp [hne])
    | (refine V_sseq ?_; simp [hne])
    | (refine V_scond ?_; simp [hne])
    | (refine V_ret ?_; simp only [RunK])
    | (refine CallP.ok1 (hh1 _ (by first | omega | (simp; done) | (simp; omega) | fail)) (by first | (simp [hne, getK_cons, getK, getK_append, getK_del]; done) | fail) (by rfl) (by first | assumption | (simp; done) | fail) (by rfl) (by simp) ?_; (try simp [hne]))
    | fail)
    (refine EndW.here ?_; (first | (refine EndOK.fin (.inr rfl) ?_) | (refine EndOK.fin (.inl rfl) ?_)); simp [resD, oneOrTup, Tryz.results303]; refine FinOK.here (by simp) ?_; try simp)
    exact PPost.at_ok rfl rfl (by first | rfl | simp [del])
  · simp only [h1, Bool.false_eq_true, if_false] at hh1 ⊢
    by_cases h2 : isB l p [100, 97, 121, 115] = true
    · simp only [h2, if_true] at hh2 ⊢
      (refine RetX.of_bodyW Tryz.func303 rfl (by simp) fun Γ hn hpan => ?_); simp only [entry, List.zipIdx_cons, List.zipIdx_nil, List.map_cons, List.map_nil, Nat.zero_add, Tryz.ntmps303]
      repeat' (first
    | (refine H_cons ?_; simp [hne])
    | (refine H_nil ?_; simp [hne])
    | (refine V_sseq ?_; simp [hne])
    | (refine V_scond ?_; simp [hne])
    | (refine V_ret ?_; simp only [RunK])
    | (refine CallP.ok1 (hh1 _ (by first | omega | (simp; done) | (simp; omega) | fail)) (by first | (simp [hne, getK_cons, getK, getK_append, getK_del]; done) | fail) (by rfl) (by first | assumption | (simp; done) | fail) (by rfl) (by simp) ?_; (try simp [hne]))
    | (refine CallP.ok1 (hh2 _ (by first | omega | (simp; done) | (simp; omega) | fail)) (by first | (simp [hne, getK_cons, getK, getK_append, getK_del]; done) | fail) (by rfl) (by first | assumption | (simp; done) | fail) (by rfl) (by simp) ?_; (try simp [hne]))
    | fail)
      (refine EndW.here ?_; (first | (refine EndOK.fin (.inr rfl) ?_) | (refine EndOK.fin (.inl rfl) ?_)); simp [resD, oneOrTup, Tryz.results303]; refine FinOK.here (by simp) ?_; try simp)
      exact PPost.at_ok rfl rfl (by first | rfl | simp [del])
    · simp only [h2, Bool.false_eq_true, if_false] at hh2 ⊢
      by_cases h3 : isB l p [112, 101, 114] = true
      · simp only [h3, if_true] at hh3 ⊢
        have hw := fun nx' (h : nx ≤ nx') => want_ret l (p + 1) [[109, 105, 108, 108, 101]] i nx' (by omega) (isB_lt hl h3) hl (by simp)
        cases hr : wantP l (p + 1) [[109, 105, 108, 108, 101]] with
        | ok a q =>
          simp only [hr, List.map_cons, List.map_nil] at hw
          (refine RetX.of_bodyW Tryz.func303 rfl (by simp) fun Γ hn hpan => ?_); simp only [entry, List.zipIdx_cons, List.zipIdx_nil, List.map_cons, List.map_nil, Nat.zero_add, Tryz.ntmps303]
          repeat' (first
    | (refine H_cons ?_; simp [hne])
    | (refine H_nil ?_; simp [hne])
    | (refine V_sseq ?_; simp [hne])
    | (refine V_scond ?_; simp [hne])
    | (refine V_ret ?_; simp only [RunK])
    | (refine CallP.ok1 (hh1 _ (by first | omega | (simp; done) | (simp; omega) | fail)) (by first | (simp [hne, getK_cons, getK, getK_append, getK_del]; done) | fail) (by rfl) (by first | assumption | (simp; done) | fail) (by rfl) (by simp) ?_; (try simp [hne]))
    | (refine CallP.ok1 (hh2 _ (by first | omega | (simp; done) | (simp; omega) | fail)) (by first | (simp [hne, getK_cons, getK, getK_append, getK_del]; done) | fail) (by rfl) (by first | assumption | (simp; done) | fail) (by rfl) (by simp) ?_; (try simp [hne]))
    | (refine CallP.ok1 (hh3 _ (by first | omega | (simp; done) | (simp; omega) | fail)) (by first | (simp [hne, getK_cons, getK, getK_append, getK_del]; done) | fail) (by rfl) (by first | assumption | (simp; done) | fail) (by rfl) (by simp) ?_; (try simp [hne]))
    | (refine CallP.ok1 (hw _ (by first | omega | (simp; done) | (simp; omega) | fail)) (by first | (simp [hne, getK_cons, getK, getK_append, getK_del]; done) | fail) (by rfl) (by first | assumption | (simp; done) | fail) (by rfl) (by simp) ?_; (try simp [hne]))
    | (refine CallP_frzV (by first | rfl | fail) ?_; simp [hne, frzN, frz1, frz_env, frz_obs, St.frz, St.frzS, frzS, fv, fzVec, fzMap, fzBox, frzObS, frz_entD, frz_rowsD, del, frz, frzOb])
    | fail)
          (refine EndW.wk { n := _, env := [(2, intD 4)], obs := [(i, pOb l q)], next := nx } (Wk.cut rfl (by simp [hn]) (by simp [wkO, getK_cons, getK, getK_append, getK_del, Ob.under, D.under, under_rowsD, under_entD, hne, hi]) (by simp [wkU, keepE, getK_cons, getK, D.under, hne, hi]) (by simp [wkE, keepE, getK_cons, getK, hne, hi])) (EndW.here ?_); (first | (refine EndOK.fin (.inr rfl) ?_) | (refine EndOK.fin (.inl rfl) ?_)); simp [resD, oneOrTup, Tryz.results303]; refine FinOK.here (by simp) ?_; try simp)
          exact PPost.at_ok rfl rfl (by first | rfl | simp [del])
        | stop pos e =>
          simp only [hr, List.map_cons, List.map_nil] at hw
          (refine RetX.of_bodyW Tryz.func303 rfl (by simp) fun Γ hn hpan => ?_); simp only [entry, List.zipIdx_cons, List.zipIdx_nil, List.map_cons, List.map_nil, Nat.zero_add, Tryz.ntmps303]
          repeat' (first
    | (refine H_cons ?_; simp [hne])
    | (refine H_nil ?_; simp [hne])
    | (refine V_sseq ?_; simp [hne])
    | (refine V_scond ?_; simp [hne])
    | (refine CallP.ok1 (hh1 _ (by first | omega | (simp; done) | (simp; omega) | fail)) (by first | (simp [hne, getK_cons, getK, getK_append, getK_del]; done) | fail) (by rfl) (by first | assumption | (simp; done) | fail) (by rfl) (by simp) ?_; (try simp [hne]))
    | (refine CallP.ok1 (hh2 _ (by first | omega | (simp; done) | (simp; omega) | fail)) (by first | (simp [hne, getK_cons, getK, getK_append, getK_del]; done) | fail) (by rfl) (by first | assumption | (simp; done) | fail) (by rfl) (by simp) ?_; (try simp [hne]))
    | (refine CallP.ok1 (hh3 _ (by first | omega | (simp; done) | (simp; omega) | fail)) (by first | (simp [hne, getK_cons, getK, getK_append, getK_del]; done) | fail) (by rfl) (by first | assumption | (simp; done) | fail) (by rfl) (by simp) ?_; (try simp [hne]))
    | (refine CallP.pan1 (hw _ (by first | omega | (simp; done) | (simp; omega) | fail)) (by first | (simp [hne, getK_cons, getK, getK_append, getK_del]; done) | fail) (by rfl) (by first | assumption | (simp; done) | fail) (by rfl) (by simp) ?_; rintro ob' ⟨q', rfl⟩; refine ⟨_, Wk.refl _, ?_⟩)
    | (refine CallP_frzV (by first | rfl | fail) ?_; simp [hne, frzN, frz1, frz_env, frz_obs, St.frz, St.frzS, frzS, fv, fzVec, fzMap, fzBox, frzObS, frz_entD, frz_rowsD, del, frz, frzOb])
    | fail)
          (refine hpan _ _ ⟨{ n := _, env := [], obs := [(i, pOb l q')], next := nx }, (Wk.cut rfl (by simp [hn]) (by simp [wkO, getK_cons, getK, getK_append, getK_del, Ob.under, D.under, under_rowsD, under_entD, hi, getK_append, getK_del, getK_cons, getK]) (by simp [wkU, keepE, getK_cons, getK, D.under, hi, getK_append, getK_del, getK_cons, getK]) (by simp [wkE, keepE, getK_cons, getK, hi, getK_append, getK_del, getK_cons, getK])), by simp [hn], ?_⟩; try simp)
          exact PPost.at_stop rfl
      · simp only [h3, Bool.false_eq_true, if_false] at hh3 ⊢
        (refine RetX.of_bodyW Tryz.func303 rfl (by simp) fun Γ hn hpan => ?_); simp only [entry, List.zipIdx_cons, List.zipIdx_nil, List.map_cons, List.map_nil, Nat.zero_add, Tryz.ntmps303]
        repeat' (first
    | (refine H_cons ?_; simp [hne])
    | (refine H_nil ?_; simp [hne])
    | (refine V_sseq ?_; simp [hne])
    | (refine V_scond ?_; simp [hne])
    | (refine V_ret ?_; simp only [RunK])
    | (refine V_skip ?_; simp only [RunK])
    | (refine CallP.ok1 (hh1 _ (by first | omega | (simp; done) | (simp; omega) | fail)) (by first | (simp [hne, getK_cons, getK, getK_append, getK_del]; done) | fail) (by rfl) (by first | assumption | (simp; done) | fail) (by rfl) (by simp) ?_; (try simp [hne]))
    | (refine CallP.ok1 (hh2 _ (by first | omega | (simp; done) | (simp; omega) | fail)) (by first | (simp [hne, getK_cons, getK, getK_append, getK_del]; done) | fail) (by rfl) (by first | assumption | (simp; done) | fail) (by rfl) (by simp) ?_; (try simp [hne]))
    | (refine CallP.ok1 (hh3 _ (by first | omega | (simp; done) | (simp; omega) | fail)) (by first | (simp [hne, getK_cons, getK, getK_append, getK_del]; done) | fail) (by rfl) (by first | assumption | (simp; done) | fail) (by rfl) (by simp) ?_; (try simp [hne]))
    | fail)
        (refine EndW.here ?_; (first | (refine EndOK.fin (.inr rfl) ?_) | (refine EndOK.fin (.inl rfl) ?_)); simp [resD, oneOrTup, Tryz.results303]; refine FinOK.here (by simp) ?_; try simp)
        exact PPost.at_ok rfl rfl (by first | rfl | simp [del])

abbrev pairD (e : Exp × Int) : D := .tup [.u (.agg e.1.row), .u (.int .i64 e.2)]
def ExpOK (l : List Tok) (f : Nat) : Prop := ∀ (p : Nat) (form : Int) (i nx : Nat), i < nx → p < l.length → 4 * (l.length - p) + 3 ≤ f → 0 ≤ form → form ≤ 7 →
  RetX Tryz.prog 203 [.ptr i 0, intD form] [(i, pOb l p)] nx (PPost l i nx expD (expP l f p form))
def PreOK (l : List Tok) (f : Nat) : Prop := ∀ (p : Nat) (form : Int) (i nx : Nat), i < nx → p < l.length → 4 * (l.length - p) + 2 ≤ f → 0 ≤ form → form ≤ 7 →
  RetX Tryz.prog 247 [.ptr i 0, intD form] [(i, pOb l p)] nx (PPost l i nx pairD (prefixP l f p form))
def PrimOK (l : List Tok) (f : Nat) : Prop := ∀ (p : Nat) (i nx : Nat), i < nx → p < l.length → 4 * (l.length - p) + 1 ≤ f →
  RetX Tryz.prog 283 [.ptr i 0] [(i, pOb l p)] nx (PPost l i nx expD (primaryP l f p))
theorem want1 {l : List Tok} (hl : TokOK l) (w : List UInt8) {q i nx : Nat} (hi : i < nx) (hq : q < l.length) :
    RetX Tryz.prog 129 [.ptr i 0, .u (.sl [[.str w]])] [(i, pOb l q)] nx (PPost l i nx (fun _ => .tup []) (wantP l q [w])) := want_ret l q [w] i nx hi hq hl (by simp)
theorem primary_num {l : List Tok} (hl : TokOK l) {f p : Nat} {t : Tok} (ht : l[p]? = some t) (hk : t.kind = 2) {i nx : Nat} (hi : i < nx) :
    RetX Tryz.prog 283 [.ptr i 0] [(i, pOb l p)] nx (PPost l i nx expD (primaryP l (f + 1) p)) := by
  have hne := ne_facts hi
  have hp := (List.getElem?_eq_some_iff.1 ht).1
  have hnx := pnext_fun l p t ht hl.len
  have hp2 := hl.fin p t ht (by omega)
  have hll := hl.len
  rw [primaryP, ht]
  simp only [hk, if_true] at hnx ⊢
  have hu := fun nx' (h : nx ≤ nx') => unit_ret l (p + 1) i nx' (by omega) hp2 hl
  cases hr : unitP l (p + 1) with
  | ok a q =>
    simp only [hr] at hu
    (refine RetX.of_bodyW Tryz.func283 rfl (by simp) fun Γ hn hpan => ?_); simp only [entry, List.zipIdx_cons, List.zipIdx_nil, List.map_cons, List.map_nil, Nat.zero_add, Tryz.ntmps283]
    repeat' (first
    | (refine HD4_ok1 (fun nx' h' => hu nx' (by simp at h'; omega)) (by first | (simp [hne, getK_cons, getK, getK_append, getK_del, getK_setOb, applyW]; done) | fail) (by rfl) (by first | assumption | simp) (by rfl) (by simp [D.under, Ob.under]) (by simp) ?_; (try simp [hne]))
    | (refine H_cons ?_; simp [hne])
    | (refine HD4_val rfl ?_; simp [hne])
    | (refine HD4_chg rfl ?_; simp [hne])
    | (refine H_nil ?_; simp [hne])
    | (refine ⟨by omega, ?_⟩)
    | (refine V_sseq ?_; simp [hne])
    | (refine V_scond ?_; simp [hne])
    | (refine HD4_nil (hC _ (okP4_ren [i] nx (by simp <;> omega) (by simp <;> omega) (by apply Exists.intro; apply And.intro; (focus (repeat' (first | exact KF.nil | exact KL.nil | apply KF.cons | apply KL.cons 0 rfl | apply KL.cons 1 rfl | apply KL.cons 2 rfl | apply KL.cons 3 rfl | apply KL.cons 4 rfl | apply KL.cons 5 rfl | apply KL.cons 6 rfl | apply KL.cons 7 rfl | apply KL.cons 8 rfl | apply KL.cons 9 rfl))); kernel_rfl))) (hk _ ?_); clear hC hk C k; simp only [RunK])
    | (refine V_drawX rfl (by kernel_rfl) (by first | (simp [hn]; done) | (simp [hn]; omega) | fail) fun C k hC hk => ?_; simp [hne])
    | (refine V_ret ?_; simp only [RunK])
    | (refine CallP.fun_ (hnx) (by first | rfl | fail) (by first | assumption | (simp; done) | fail) (by first | (simp [hne]; done) | (simp [hne]; rfl) | fail) (by first | (simp; done) | fail) (fun d hd => ?_); subst hd; (try simp [hne]))
    | fail)
    refine EndW.norm ?_
    simp [St.norm, normOb, normD, normU, norm1, hne]
    (refine EndW.here ?_; (first | (refine EndOK.fin (.inr rfl) ?_) | (refine EndOK.fin (.inl rfl) ?_)); simp [resD, oneOrTup, Tryz.results283, hne, hi]; refine FinOK.cut [(i, pOb l q)] (nx) (by simp [getK_cons, getK, getK_append, getK_del, Ob.under, D.under, under_rowsD, under_entD, hne, hi] <;> omega) (by simp [D.under]) (by simp [hn]) ?_; try simp)
    exact PPost.at_ok rfl (by simp [Exp.row]) rfl
  | stop pos e =>
    simp only [hr] at hu
    (refine RetX.of_bodyW Tryz.func283 rfl (by simp) fun Γ hn hpan => ?_); simp only [entry, List.zipIdx_cons, List.zipIdx_nil, List.map_cons, List.map_nil, Nat.zero_add, Tryz.ntmps283]
    repeat' (first
    | (refine HD4_pan1 (fun nx' h' => hu nx' (by simp at h'; omega)) (by first | (simp [hne, getK_cons, getK, getK_append, getK_del, getK_setOb, applyW]; done) | fail) (by rfl) (by first | assumption | simp) (by rfl) (by simp) ?_ ?_; rintro env' ob' n' hn' ⟨q', rfl⟩; refine ⟨_, Wk.refl _, ?_⟩)
    | (refine HD4_skipS rfl (by simp) ?_; simp)
    | (refine H_cons ?_; simp [hne])
    | (refine HD4_val rfl ?_; simp [hne])
    | (refine H_nil ?_; simp [hne])
    | (refine ⟨by omega, ?_⟩)
    | (refine V_sseq ?_; simp [hne])
    | (refine V_scond ?_; simp [hne])
    | (refine HD4_nilS (hC _ (okP4_ren [i] nx (by simp <;> omega) (by simp <;> omega) (by apply Exists.intro; apply And.intro; (focus (repeat' (first | exact KF.nil | exact KL.nil | apply KF.cons | apply KL.cons 0 rfl | apply KL.cons 1 rfl | apply KL.cons 2 rfl | apply KL.cons 3 rfl | apply KL.cons 4 rfl | apply KL.cons 5 rfl | apply KL.cons 6 rfl | apply KL.cons 7 rfl | apply KL.cons 8 rfl | apply KL.cons 9 rfl))); kernel_rfl))) rfl; done)
    | (refine V_drawX rfl (by kernel_rfl) (by first | (simp [hn]; done) | (simp [hn]; omega) | fail) fun C k hC hk => ?_; simp [hne])
    | (refine CallP.fun_ (hnx) (by first | rfl | fail) (by first | assumption | (simp; done) | fail) (by first | (simp [hne]; done) | (simp [hne]; rfl) | fail) (by first | (simp; done) | fail) (fun d hd => ?_); subst hd; (try simp [hne]))
    | fail)
    (refine hpan _ _ ⟨{ n := _, env := [], obs := [(i, pOb l q')], next := nx }, (Wk.cut rfl (by simp [hn]) (by simp [wkO, getK_cons, getK, getK_append, getK_del, Ob.under, D.under, under_rowsD, under_entD, hi, hne, getK_append, getK_del, getK_cons, getK]) (by simp [wkU, keepE, getK_cons, getK, D.under, hi, hne, getK_append, getK_del, getK_cons, getK]) (by simp [wkE, keepE, getK_cons, getK, hi, hne, getK_append, getK_del, getK_cons, getK])), by simp [hn], ?_⟩; try simp)
    exact PPost.at_stop (by simp [PR.bind])
theorem primary_true {l : List Tok} (hl : TokOK l) {f p : Nat} {t : Tok} (ht : l[p]? = some t) (hk : ¬ t.kind = 2) (h1 : isB l p [116, 114, 117, 101] = true) {i nx : Nat} (hi : i < nx) :
    RetX Tryz.prog 283 [.ptr i 0] [(i, pOb l p)] nx (PPost l i nx expD (primaryP l (f + 1) p)) := by
  have hne := ne_facts hi
  have hp := (List.getElem?_eq_some_iff.1 ht).1
  have hnx := pnext_fun l p t ht hl.len
  have hll := hl.len
  rw [primaryP, ht]
  have hh1 := fun nx' (h : nx ≤ nx') => has_ret l p [116, 114, 117, 101] i nx' (by omega) hp hl.len
  simp only [hk, h1, if_false, if_true] at hh1 ⊢
  (refine RetX.of_bodyW Tryz.func283 rfl (by simp) fun Γ hn hpan => ?_); simp only [entry, List.zipIdx_cons, List.zipIdx_nil, List.map_cons, List.map_nil, Nat.zero_add, Tryz.ntmps283]
  repeat' (first
    | (refine H_cons ?_; simp [hne, hk, del])
    | (refine H_nil ?_; simp [hne, hk, del])
    | (refine V_sseq ?_; simp [hne, hk, del])
    | (refine V_scond ?_; simp [hne, hk, del])
    | (refine V_ret ?_; simp only [RunK])
    | (refine CallP.fun_ (hnx) (by first | rfl | fail) (by first | assumption | (simp; done) | fail) (by first | (simp [hne, hk, del]; done) | (simp [hne, hk, del]; rfl) | fail) (by first | (simp; done) | fail) (fun d hd => ?_); subst hd; (try simp [hne, hk, del]))
    | (refine CallP.ok1 (hh1 _ (by first | omega | (simp; done) | (simp; omega) | fail)) (by first | (simp [hne, hk, del, getK_cons, getK, getK_append, getK_del]; done) | fail) (by rfl) (by first | assumption | (simp; done) | fail) (by rfl) (by simp) ?_; (try simp [hne, hk, del]))
    | fail)
  refine EndW.norm ?_
  simp [St.norm, normOb, normD, normU, norm1, hne]
  (refine EndW.here ?_; (first | (refine EndOK.fin (.inr rfl) ?_) | (refine EndOK.fin (.inl rfl) ?_)); simp [resD, oneOrTup, Tryz.results283, hne, hi]; refine FinOK.cut [(i, pOb l (p + 1))] (nx) (by simp [getK_cons, getK, getK_append, getK_del, Ob.under, D.under, under_rowsD, under_entD, hne, hi] <;> omega) (by simp [D.under]) (by simp [hn]) ?_; try simp)
  exact PPost.at_ok rfl (by simp [Exp.row]) rfl
theorem primary_false {l : List Tok} (hl : TokOK l) {f p : Nat} {t : Tok} (ht : l[p]? = some t) (hk : ¬ t.kind = 2) (h1 : isB l p [116, 114, 117, 101] = false) (h2 : isB l p [102, 97, 108, 115, 101] = true) {i nx : Nat} (hi : i < nx) :
    RetX Tryz.prog 283 [.ptr i 0] [(i, pOb l p)] nx (PPost l i nx expD (primaryP l (f + 1) p)) := by
  have hne := ne_facts hi
  have hp := (List.getElem?_eq_some_iff.1 ht).1
  have hnx := pnext_fun l p t ht hl.len
  have hll := hl.len
  rw [primaryP, ht]
  have hh1 := fun nx' (h : nx ≤ nx') => has_ret l p [116, 114, 117, 101] i nx' (by omega) hp hl.len
  have hh2 := fun nx' (h : nx ≤ nx') => has_ret l p [102, 97, 108, 115, 101] i nx' (by omega) hp hl.len
  simp only [hk, h1, h2, if_false, if_true, Bool.false_eq_true] at hh1 hh2 ⊢
  (refine RetX.of_bodyW Tryz.func283 rfl (by simp) fun Γ hn hpan => ?_); simp only [entry, List.zipIdx_cons, List.zipIdx_nil, List.map_cons, List.map_nil, Nat.zero_add, Tryz.ntmps283]
  repeat' (first
    | (refine H_cons ?_; simp [hne, hk, del])
    | (refine H_nil ?_; simp [hne, hk, del])
    | (refine V_sseq ?_; simp [hne, hk, del])
    | (refine V_scond ?_; simp [hne, hk, del])
    | (refine V_ret ?_; simp only [RunK])
    | (refine CallP.fun_ (hnx) (by first | rfl | fail) (by first | assumption | (simp; done) | fail) (by first | (simp [hne, hk, del]; done) | (simp [hne, hk, del]; rfl) | fail) (by first | (simp; done) | fail) (fun d hd => ?_); subst hd; (try simp [hne, hk, del]))
    | (refine CallP.ok1 (hh1 _ (by first | omega | (simp; done) | (simp; omega) | fail)) (by first | (simp [hne, hk, del, getK_cons, getK, getK_append, getK_del]; done) | fail) (by rfl) (by first | assumption | (simp; done) | fail) (by rfl) (by simp) ?_; (try simp [hne, hk, del]))
    | (refine CallP.ok1 (hh2 _ (by first | omega | (simp; done) | (simp; omega) | fail)) (by first | (simp [hne, hk, del, getK_cons, getK, getK_append, getK_del]; done) | fail) (by rfl) (by first | assumption | (simp; done) | fail) (by rfl) (by simp) ?_; (try simp [hne, hk, del]))
    | fail)
  refine EndW.norm ?_
  simp [St.norm, normOb, normD, normU, norm1, hne]
  (refine EndW.here ?_; (first | (refine EndOK.fin (.inr rfl) ?_) | (refine EndOK.fin (.inl rfl) ?_)); simp [resD, oneOrTup, Tryz.results283, hne, hi]; refine FinOK.cut [(i, pOb l (p + 1))] (nx) (by simp [getK_cons, getK, getK_append, getK_del, Ob.under, D.under, under_rowsD, under_entD, hne, hi] <;> omega) (by simp [D.under]) (by simp [hn]) ?_; try simp)
  exact PPost.at_ok rfl (by simp [Exp.row]) rfl

theorem exp_ok {l : List Tok} {F : FuncId} {r : PR Exp} {e : Exp} {q i nx : Nat} {ds : List D} {obs : List (Nat × Ob)} (h : RetX Tryz.prog F ds obs nx (PPost l i nx expD r)) (hr : r = .ok e q) :
    RetX Tryz.prog F ds obs nx fun r o n => r = .val (.u (.agg [.int .i64 e.op, .int .i64 e.n, .int .i64 e.unit, .str e.s, .sl (e.args.map Exp.row)])) ∧ o = [(i, pOb l q)] ∧ n = nx := by
  subst hr
  rw [← Exp.row_eq]
  exact h
theorem primary_paren {l : List Tok} (hl : TokOK l) {f p : Nat} (hE : ExpOK l f) (hf : 4 * (l.length - p) ≤ f) {t : Tok} (ht : l[p]? = some t) (hk : ¬ t.kind = 2) (h1 : isB l p [116, 114, 117, 101] = false) (h2 : isB l p [102, 97, 108, 115, 101] = false)
    (h3 : isB l p [109, 105, 110] = false) (h4 : isB l p [109, 97, 120] = false) (h5 : isB l p [40] = true) {i nx : Nat} (hi : i < nx) :
    RetX Tryz.prog 283 [.ptr i 0] [(i, pOb l p)] nx (PPost l i nx expD (primaryP l (f + 1) p)) := by
  have hne := ne_facts hi
  have hp := (List.getElem?_eq_some_iff.1 ht).1
  have hnx := pnext_fun l p t ht hl.len
  have hll := hl.len
  have hp2 := isB_lt hl h5
  rw [primaryP, ht]
  have hh1 := fun nx' (h : nx ≤ nx') => has_ret l p [116, 114, 117, 101] i nx' (by omega) hp hl.len
  have hh2 := fun nx' (h : nx ≤ nx') => has_ret l p [102, 97, 108, 115, 101] i nx' (by omega) hp hl.len
  have hm1 := is_fun l p [109, 105, 110] hp hl.len
  have hm2 := is_fun l p [109, 97, 120] hp hl.len
  have hh3 := fun nx' (h : nx ≤ nx') => has_ret l p [40] i nx' (by omega) hp hl.len
  simp only [hk, h1, h2, h3, h4, h5, if_false, if_true, Bool.false_eq_true, or_self] at hh1 hh2 hm1 hm2 hh3 ⊢
  have he := fun nx' (h : nx ≤ nx') => hE (p + 1) 0 i nx' (by omega) hp2 (by omega) (by omega) (by omega)
  cases hr : expP l f (p + 1) 0 with
  | stop pos e =>
    simp only [hr] at he
    (refine RetX.of_bodyW Tryz.func283 rfl (by simp) fun Γ hn hpan => ?_); simp only [entry, List.zipIdx_cons, List.zipIdx_nil, List.map_cons, List.map_nil, Nat.zero_add, Tryz.ntmps283]
    repeat' (first
    | (refine H_cons ?_; simp [hne, hk, del, Nat.add_assoc])
    | (refine H_nil ?_; simp [hne, hk, del, Nat.add_assoc])
    | (refine V_sseq ?_; simp [hne, hk, del, Nat.add_assoc])
    | (refine V_scond ?_; simp [hne, hk, del, Nat.add_assoc])
    | (refine CallP.fun_ (hnx) (by first | rfl | fail) (by first | assumption | (simp; done) | fail) (by first | (simp [hne, hk, del, Nat.add_assoc]; done) | (simp [hne, hk, del, Nat.add_assoc]; rfl) | fail) (by first | (simp; done) | fail) (fun d hd => ?_); subst hd; (try simp [hne, hk, del, Nat.add_assoc]))
    | (refine CallP.fun_ (hm1) (by first | rfl | fail) (by first | assumption | (simp; done) | fail) (by first | (simp [hne, hk, del, Nat.add_assoc]; done) | (simp [hne, hk, del, Nat.add_assoc]; rfl) | fail) (by first | (simp; done) | fail) (fun d hd => ?_); subst hd; (try simp [hne, hk, del, Nat.add_assoc]))
    | (refine CallP.fun_ (hm2) (by first | rfl | fail) (by first | assumption | (simp; done) | fail) (by first | (simp [hne, hk, del, Nat.add_assoc]; done) | (simp [hne, hk, del, Nat.add_assoc]; rfl) | fail) (by first | (simp; done) | fail) (fun d hd => ?_); subst hd; (try simp [hne, hk, del, Nat.add_assoc]))
    | (refine CallP.ok1 (hh1 _ (by first | omega | (simp; done) | (simp; omega) | fail)) (by first | (simp [hne, hk, del, Nat.add_assoc, getK_cons, getK, getK_append, getK_del]; done) | fail) (by rfl) (by first | assumption | (simp; done) | fail) (by rfl) (by simp) ?_; (try simp [hne, hk, del, Nat.add_assoc]))
    | (refine CallP.ok1 (hh2 _ (by first | omega | (simp; done) | (simp; omega) | fail)) (by first | (simp [hne, hk, del, Nat.add_assoc, getK_cons, getK, getK_append, getK_del]; done) | fail) (by rfl) (by first | assumption | (simp; done) | fail) (by rfl) (by simp) ?_; (try simp [hne, hk, del, Nat.add_assoc]))
    | (refine CallP.ok1 (hh3 _ (by first | omega | (simp; done) | (simp; omega) | fail)) (by first | (simp [hne, hk, del, Nat.add_assoc, getK_cons, getK, getK_append, getK_del]; done) | fail) (by rfl) (by first | assumption | (simp; done) | fail) (by rfl) (by simp) ?_; (try simp [hne, hk, del, Nat.add_assoc]))
    | (refine CallP.pan1 (he _ (by first | omega | (simp; done) | (simp; omega) | fail)) (by first | (simp [hne, hk, del, Nat.add_assoc, getK_cons, getK, getK_append, getK_del]; done) | fail) (by rfl) (by first | assumption | (simp; done) | fail) (by rfl) (by simp) ?_; rintro ob' ⟨q', rfl⟩; refine ⟨_, Wk.refl _, ?_⟩)
    | fail)
    (refine hpan _ _ ⟨{ n := _, env := [], obs := [(i, pOb l q')], next := nx }, (Wk.cut rfl (by simp [hn]) (by simp [wkO, getK_cons, getK, getK_append, getK_del, Ob.under, D.under, under_rowsD, under_entD, hi, hne, getK_append, getK_del, getK_cons, getK]) (by simp [wkU, keepE, getK_cons, getK, D.under, hi, hne, getK_append, getK_del, getK_cons, getK]) (by simp [wkE, keepE, getK_cons, getK, hi, hne, getK_append, getK_del, getK_cons, getK])), by simp [hn], ?_⟩; try simp)
    exact PPost.at_stop (by simp [PR.bind, *])
  | ok e1 q1 =>
    have he := fun nx' h => exp_ok (he nx' h) hr
    obtain ⟨g1, g2⟩ := (parse_le hl f).1 _ _ _ _ hr hp2
    have hw := fun nx' (h : nx ≤ nx') => want1 hl [41] (q := q1) (i := i) (nx := nx') (by omega) g2
    cases hr2 : wantP l q1 [[41]] with
    | stop pos e =>
      simp only [hr2] at hw
      (refine RetX.of_bodyW Tryz.func283 rfl (by simp) fun Γ hn hpan => ?_); simp only [entry, List.zipIdx_cons, List.zipIdx_nil, List.map_cons, List.map_nil, Nat.zero_add, Tryz.ntmps283]
      repeat' (first
    | (refine H_cons ?_; simp [hne, hk, del, Nat.add_assoc])
    | (refine H_nil ?_; simp [hne, hk, del, Nat.add_assoc])
    | (refine V_sseq ?_; simp [hne, hk, del, Nat.add_assoc])
    | (refine V_scond ?_; simp [hne, hk, del, Nat.add_assoc])
    | (refine CallP.fun_ (hnx) (by first | rfl | fail) (by first | assumption | (simp; done) | fail) (by first | (simp [hne, hk, del, Nat.add_assoc]; done) | (simp [hne, hk, del, Nat.add_assoc]; rfl) | fail) (by first | (simp; done) | fail) (fun d hd => ?_); subst hd; (try simp [hne, hk, del, Nat.add_assoc]))
    | (refine CallP.fun_ (hm1) (by first | rfl | fail) (by first | assumption | (simp; done) | fail) (by first | (simp [hne, hk, del, Nat.add_assoc]; done) | (simp [hne, hk, del, Nat.add_assoc]; rfl) | fail) (by first | (simp; done) | fail) (fun d hd => ?_); subst hd; (try simp [hne, hk, del, Nat.add_assoc]))
    | (refine CallP.fun_ (hm2) (by first | rfl | fail) (by first | assumption | (simp; done) | fail) (by first | (simp [hne, hk, del, Nat.add_assoc]; done) | (simp [hne, hk, del, Nat.add_assoc]; rfl) | fail) (by first | (simp; done) | fail) (fun d hd => ?_); subst hd; (try simp [hne, hk, del, Nat.add_assoc]))
    | (refine CallP.ok1 (hh1 _ (by first | omega | (simp; done) | (simp; omega) | fail)) (by first | (simp [hne, hk, del, Nat.add_assoc, getK_cons, getK, getK_append, getK_del]; done) | fail) (by rfl) (by first | assumption | (simp; done) | fail) (by rfl) (by simp) ?_; (try simp [hne, hk, del, Nat.add_assoc]))
    | (refine CallP.ok1 (hh2 _ (by first | omega | (simp; done) | (simp; omega) | fail)) (by first | (simp [hne, hk, del, Nat.add_assoc, getK_cons, getK, getK_append, getK_del]; done) | fail) (by rfl) (by first | assumption | (simp; done) | fail) (by rfl) (by simp) ?_; (try simp [hne, hk, del, Nat.add_assoc]))
    | (refine CallP.ok1 (hh3 _ (by first | omega | (simp; done) | (simp; omega) | fail)) (by first | (simp [hne, hk, del, Nat.add_assoc, getK_cons, getK, getK_append, getK_del]; done) | fail) (by rfl) (by first | assumption | (simp; done) | fail) (by rfl) (by simp) ?_; (try simp [hne, hk, del, Nat.add_assoc]))
    | (refine CallP.ok1 (he _ (by first | omega | (simp; done) | (simp; omega) | fail)) (by first | (simp [hne, hk, del, Nat.add_assoc, getK_cons, getK, getK_append, getK_del]; done) | fail) (by rfl) (by first | assumption | (simp; done) | fail) (by rfl) (by simp) ?_; (try simp [hne, hk, del, Nat.add_assoc]))
    | (refine CallP.pan1 (hw _ (by first | omega | (simp; done) | (simp; omega) | fail)) (by first | (simp [hne, hk, del, Nat.add_assoc, getK_cons, getK, getK_append, getK_del]; done) | fail) (by rfl) (by first | assumption | (simp; done) | fail) (by rfl) (by simp) ?_; rintro ob' ⟨q', rfl⟩; refine ⟨_, Wk.refl _, ?_⟩)
    | (refine CallP_frzV (by first | rfl | fail) ?_; simp [hne, hk, del, Nat.add_assoc, frzN, frz1, frz_env, frz_obs, St.frz, St.frzS, frzS, fv, fzVec, fzMap, fzBox, frzObS, frz_entD, frz_rowsD, del, frz, frzOb])
    | fail)
      (refine hpan _ _ ⟨{ n := _, env := [], obs := [(i, pOb l q')], next := nx }, (Wk.cut rfl (by simp [hn]) (by simp [wkO, getK_cons, getK, getK_append, getK_del, Ob.under, D.under, under_rowsD, under_entD, hi, hne, getK_append, getK_del, getK_cons, getK]) (by simp [wkU, keepE, getK_cons, getK, D.under, hi, hne, getK_append, getK_del, getK_cons, getK]) (by simp [wkE, keepE, getK_cons, getK, hi, hne, getK_append, getK_del, getK_cons, getK])), by simp [hn], ?_⟩; try simp)
      exact PPost.at_stop (by simp [PR.bind, *])
    | ok u2 q =>
      simp only [hr2] at hw
      (refine RetX.of_bodyW Tryz.func283 rfl (by simp) fun Γ hn hpan => ?_); simp only [entry, List.zipIdx_cons, List.zipIdx_nil, List.map_cons, List.map_nil, Nat.zero_add, Tryz.ntmps283]
      repeat' (first
    | (refine H_cons ?_; simp [hne, hk, del, Nat.add_assoc])
    | (refine H_nil ?_; simp [hne, hk, del, Nat.add_assoc])
    | (refine V_sseq ?_; simp [hne, hk, del, Nat.add_assoc])
    | (refine V_scond ?_; simp [hne, hk, del, Nat.add_assoc])
    | (refine V_ret ?_; simp only [RunK])
    | (refine CallP.fun_ (hnx) (by first | rfl | fail) (by first | assumption | (simp; done) | fail) (by first | (simp [hne, hk, del, Nat.add_assoc]; done) | (simp [hne, hk, del, Nat.add_assoc]; rfl) | fail) (by first | (simp; done) | fail) (fun d hd => ?_); subst hd; (try simp [hne, hk, del, Nat.add_assoc]))
    | (refine CallP.fun_ (hm1) (by first | rfl | fail) (by first | assumption | (simp; done) | fail) (by first | (simp [hne, hk, del, Nat.add_assoc]; done) | (simp [hne, hk, del, Nat.add_assoc]; rfl) | fail) (by first | (simp; done) | fail) (fun d hd => ?_); subst hd; (try simp [hne, hk, del, Nat.add_assoc]))
    | (refine CallP.fun_ (hm2) (by first | rfl | fail) (by first | assumption | (simp; done) | fail) (by first | (simp [hne, hk, del, Nat.add_assoc]; done) | (simp [hne, hk, del, Nat.add_assoc]; rfl) | fail) (by first | (simp; done) | fail) (fun d hd => ?_); subst hd; (try simp [hne, hk, del, Nat.add_assoc]))
    | (refine CallP.ok1 (hh1 _ (by first | omega | (simp; done) | (simp; omega) | fail)) (by first | (simp [hne, hk, del, Nat.add_assoc, getK_cons, getK, getK_append, getK_del]; done) | fail) (by rfl) (by first | assumption | (simp; done) | fail) (by rfl) (by simp) ?_; (try simp [hne, hk, del, Nat.add_assoc]))
    | (refine CallP.ok1 (hh2 _ (by first | omega | (simp; done) | (simp; omega) | fail)) (by first | (simp [hne, hk, del, Nat.add_assoc, getK_cons, getK, getK_append, getK_del]; done) | fail) (by rfl) (by first | assumption | (simp; done) | fail) (by rfl) (by simp) ?_; (try simp [hne, hk, del, Nat.add_assoc]))
    | (refine CallP.ok1 (hh3 _ (by first | omega | (simp; done) | (simp; omega) | fail)) (by first | (simp [hne, hk, del, Nat.add_assoc, getK_cons, getK, getK_append, getK_del]; done) | fail) (by rfl) (by first | assumption | (simp; done) | fail) (by rfl) (by simp) ?_; (try simp [hne, hk, del, Nat.add_assoc]))
    | (refine CallP.ok1 (he _ (by first | omega | (simp; done) | (simp; omega) | fail)) (by first | (simp [hne, hk, del, Nat.add_assoc, getK_cons, getK, getK_append, getK_del]; done) | fail) (by rfl) (by first | assumption | (simp; done) | fail) (by rfl) (by simp) ?_; (try simp [hne, hk, del, Nat.add_assoc]))
    | (refine CallP.ok1 (hw _ (by first | omega | (simp; done) | (simp; omega) | fail)) (by first | (simp [hne, hk, del, Nat.add_assoc, getK_cons, getK, getK_append, getK_del]; done) | fail) (by rfl) (by first | assumption | (simp; done) | fail) (by rfl) (by simp) ?_; (try simp [hne, hk, del, Nat.add_assoc]))
    | (refine CallP_frzV (by first | rfl | fail) ?_; simp [hne, hk, del, Nat.add_assoc, frzN, frz1, frz_env, frz_obs, St.frz, St.frzS, frzS, fv, fzVec, fzMap, fzBox, frzObS, frz_entD, frz_rowsD, del, frz, frzOb])
    | fail)
      refine EndW.norm ?_
      simp [St.norm, normOb, normD, normU, norm1, hne]
      (refine EndW.here ?_; (first | (refine EndOK.fin (.inr rfl) ?_) | (refine EndOK.fin (.inl rfl) ?_)); simp [resD, oneOrTup, Tryz.results283, hne, hi]; refine FinOK.cut [(i, pOb l q)] (nx) (by simp [getK_cons, getK, getK_append, getK_del, Ob.under, D.under, under_rowsD, under_entD, hne, hi] <;> omega) (by simp [D.under]) (by simp [hn]) ?_; try simp)
      exact PPost.at_ok (by simp [PR.bind, *]; rfl) (by simp [Exp.row_eq]) rfl
end Go.Proofs.YtepiegcjnaohjaaGreatDoor
