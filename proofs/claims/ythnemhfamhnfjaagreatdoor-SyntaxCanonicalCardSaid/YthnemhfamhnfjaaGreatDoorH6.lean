/- Texts joined by a program of mine: Zi Zj Es Et Za Zk Zb Zc Zd Zl#p Ze#p Yu Zm Zp Yt Zs Zo#p. -/
import Derived.Test.YthnemhfamhnfjaaGreatDoorH5
set_option linter.all false
set_option maxRecDepth 100000
set_option maxHeartbeats 8000000
namespace Go.Proofs.YthnemhfamhnfjaaGreatDoor
open Go Go.VL
attribute [local simp] HS zdy zck evPure opd uOf zaI St.put St.at getK binD binI binS binB nilD aggD zii zjj lookD lookR zcY Go.VL.nextD zc1 zkb zjm zhD zcO mkV zdU zbt zbE mapEff zeJ zgV Key.kk shiftI arith unD convD zeH loadD cellsAt fieldAddrD fieldD indexAddrD indexD sliceD cutD lenD minmaxD nilCheckD buildD fillD zb4 zdM zfi setAll zdm zfu zcU zja zcL St.add za0 zbZ rowsOf zew zc6 zak zac zaa zbe zc4 zaY entry zbS zb9 valD zcn zcT zhO zdS zdT zcc zbU zaw za2 zbx delAll effD St.effS zdP zbk zbb zdQ zbl zbd zcD zbc za4 zcE zdH zbV zcz zbw zcx zcy zaP mkD zbO zbG zbT zaw zcR D.ids Op.operands Call.operands zbN makeIfD makeFuncD typeAssertD zji zei zej zjh zcZ IntKind.bits zdq List.take_of_length_le List.range_succ
attribute [local irreducible] V G H HD HD2 HD4 zns RetX zap Eff CallP CallV EndOK Fun Ret FinOK LoopI LoopW EndW
abbrev zmr (e : Exp) : Prop := ∀ least : Int, Fun Tryz.prog 59 [.u (.agg e.row), .u (.int .i64 least)] (· = .u (.str (txt e least)))
theorem zd7 (op n u : Int) (s : W8) (args : List Exp) (i : Nat) (a : Exp) (least : Int) (ha : args[i]? = some a) (h : zmr a) :
  Fun Tryz.prog 112 [.u (.int .i64 i), .u (.int .i64 least), .u (.row [.int .i64 op, .int .i64 n, .int .i64 u, .str s, .sl (args.map Exp.row)] 0)] (· = .u (.str (txt a least))) := by
 have hs := h least
 rw [Exp.row_eq] at hs
 generalize txt a least = T at *
 have hi := (lGE.1 ha).1
 (refine Fun.of_body Tryz.func112 rfl (by simp) fun Γ hn => ?_); simp only [entry, ziC, ziN, maC, maN, oA, Tryz.ntmps112]
 have hlt : (i : Int) < args.length := by omega
 repeat' (first
  | ((first | refine zaf ?_ | refine zaj ?_ | refine zah ?_ | fail); simp [ha, hlt, Exp.row_eq])
  | (refine zas ?_; simp only [zap])
  | (refine CallP.fE (hs) (by first | rfl | fail) (by first | simp [ha, hlt, Exp.row_eq] <;> rfl | fail) ?_; (try simp [ha, hlt, Exp.row_eq]))
  | fail)
 (refine EndOK.val (.inr rfl) ?_; simp [zaM, zag, zau, Tryz.results112])
theorem zpu (o : Opr) (op n u : Int) (s : W8) (g : U) : Fun Tryz.prog 114 (zrv o :: [U.row [.int .i64 op, .int .i64 n, .int .i64 u, .str s, g] 0].map .u) (· = .u (.bool (decide (o.op = op)))) := by
 simp only [List.map_cons, List.map_nil, zrv]
 (refine Fun.of_body Tryz.func114 rfl (by simp) fun Γ hn => ?_); simp only [entry, ziC, ziN, maC, maN, oA, Tryz.ntmps114]
 repeat' (first
  | ((first | refine zaf ?_ | refine zaj ?_ | refine zah ?_ | fail); simp)
  | (refine zas ?_; simp only [zap])
  | fail)
 (refine EndOK.val (.inr rfl) ?_; simp [zaM, zag, zau, Tryz.results114])
theorem zpv (op n u : Int) (s : W8) (g : U) : Fun Tryz.prog 96 [.u (zmL oprs), .fnc (.func 114) [.u (.row [.int .i64 op, .int .i64 n, .int .i64 u, .str s, g] 0)]]
  (· = .u (.int .i64 (zhJ (fun o => decide (o.op = op)) oprs 0))) :=
 zid oprs 114 [U.row [.int .i64 op, .int .i64 n, .int .i64 u, .str s, g] 0] (fun o => decide (o.op = op)) (fun o _ => zpu o op n u s g) rfl (fun o => rfl)
/-- Ahead of the parentheses. -/
theorem znI {d : Nat} {e : Exp} (he : zaA d e = true) (hd : d ≤ 12) (h0 : Fun Tryz.prog 59 [.u (.agg e.row), .u (.int .i64 0)] (· = .u (.str (txt e 0)))) {least : Int} (hl : zb7 e.op < least) (h00 : ¬ zb7 e.op < 0) :
  Fun Tryz.prog 59 [.u (.agg e.row), .u (.int .i64 least)] (· = .u (.str (txt e least))) := by
 have hf := zl9 e
 have hlen := zcA he hd 0
 rw [zgF he hl]
 rw [zdb h00] at h0 hlen
 rw [Exp.row_eq] at *
 generalize zbu (zaZ e) = T at *
 generalize zb7 e.op = F at *
 have hT : T.length ≤ 9223372036854775000 := by omega
 (refine Fun.of_body Tryz.func59 rfl (by simp) fun Γ hn => ?_); simp only [entry, ziC, ziN, maC, maN, oA, Tryz.ntmps59]
 repeat' (first
  | ((first | refine zaf ?_ | refine zaj ?_ | fail); simp [hl])
  | (refine ⟨by omega, ?_⟩)
  | ((first | refine zah ?_ | refine zai ?_ | fail); simp [hl])
  | (refine zas ?_; simp only [zap])
  | (refine CallP.fE (hf) (by first | rfl | fail) (by first | simp [hl] <;> rfl | fail) ?_; (try simp [hl]))
  | (refine CallP.fE (h0) (by first | rfl | fail) (by first | simp [hl] <;> rfl | fail) ?_; (try simp [hl]))
  | fail)
 (refine EndOK.val (.inr rfl) ?_; simp [zaM, zag, zau, Tryz.results59])
theorem zjv : ∀ (d : Nat), d ≤ 12 → ∀ e : Exp, zaA d e = true → ∀ least : Int, ¬ zb7 e.op < least → (∀ x ∈ e.args, zaA (d - 1) x = true → zmr x) →
  Fun Tryz.prog 59 [.u (.agg e.row), .u (.int .i64 least)] (· = .u (.str (zbu (zaZ e))))
 | 0, _, e, h, _, _, _ => by rw [zaA] at h; cases h
 | d + 1, hd, .mk op n u s args, h, least, hl, ih => by
  have hf := zl9 (.mk op n u s args)
  simp only [Exp.op] at hl hf
  rw [Exp.row] at hf ⊢
  rcases zch h with ⟨rfl, rfl, rfl, hn⟩ | ⟨rfl, rfl, rfl, rfl, hn⟩ | ⟨rfl, rfl, rfl, ha, ⟨rfl, hl3⟩ | ⟨rfl, hl3⟩ | ⟨g0, g1, g12, g13, g2, g3, hl3⟩⟩
  ·have h1 := zmR n u hn
   rw [zaZ, zcW, if_pos rfl]
   rw [Exp.row] at h1
   simp only [List.map_nil] at *
   generalize zbu (zdv n u) = T at *
   (refine Fun.of_body Tryz.func59 rfl (by simp) fun Γ hn => ?_); simp only [entry, ziC, ziN, maC, maN, oA, Tryz.ntmps59]
   repeat' (first
  | ((first | refine zaf ?_ | refine zaj ?_ | refine zah ?_ | refine zai ?_ | refine zaD ?_ | fail); simp [hl])
  | ((first | refine zas ?_ | refine zaq ?_ | fail); simp only [zap])
  | (refine CallP.fE (hf) (by first | rfl | fail) (by first | simp [hl] <;> rfl | fail) ?_; (try simp [hl]))
  | (refine CallP.fE (h1) (by first | rfl | fail) (by first | simp [hl] <;> rfl | fail) ?_; (try simp [hl]))
  | fail)
   (refine EndOK.val (.inr rfl) ?_; simp [zaM, zag, zau, Tryz.results59])
  ·rw [zaZ, zcW, if_neg (by decide), if_pos rfl, za7]
   simp only [List.map_nil] at *
   (refine Fun.of_body Tryz.func59 rfl (by simp) fun Γ hn => ?_); simp only [entry, ziC, ziN, maC, maN, oA, Tryz.ntmps59]
   repeat' (first
  | ((first | refine zaf ?_ | refine zaj ?_ | refine zah ?_ | refine zai ?_ | refine zaD ?_ | fail); simp [hl])
  | ((first | refine zas ?_ | refine zaq ?_ | fail); simp only [zap])
  | (refine CallP.fE (hf) (by first | rfl | fail) (by first | simp [hl] <;> rfl | fail) ?_; (try simp [hl]))
  | fail)
   (refine EndOK.val (.inr rfl) ?_; simp [zaM, zag, zau, Tryz.results59])
  ·obtain ⟨a, rfl⟩ := zlb hl3
   have h1 := ha a (by simp)
   have hb := zcA h1 (by omega) 3
   have k1 := zd7 12 0 0 [] [a] 0 a 3 rfl (ih a (by simp [Exp.args]) h1)
   rw [zlY h1]
   simp only [List.map_cons, List.map_nil] at *
   generalize txt a 3 = T at *
   have hT : T.length ≤ 9223372036854775000 := by omega
   (refine Fun.of_body Tryz.func59 rfl (by simp) fun Γ hn => ?_); simp only [entry, ziC, ziN, maC, maN, oA, Tryz.ntmps59]
   repeat' (first
  | ((first | refine zaf ?_ | refine zaj ?_ | fail); simp [hl])
  | (refine ⟨by omega, ?_⟩)
  | ((first | refine zah ?_ | refine zai ?_ | refine zaD ?_ | fail); simp [hl])
  | ((first | refine zas ?_ | refine zaq ?_ | fail); simp only [zap])
  | (refine CallP.fE (hf) (by first | rfl | fail) (by first | simp [hl] <;> rfl | fail) ?_; (try simp [hl]))
  | (refine CallP.fE (k1) (by first | rfl | fail) (by first | simp [hl] <;> rfl | fail) ?_; (try simp [hl]))
  | fail)
   (refine EndOK.val (.inr rfl) ?_; simp [zaM, zag, zau, Tryz.results59])
  ·obtain ⟨a, b, c, rfl⟩ := zk9 hl3
   have h1 := ha a (by simp)
   have h2 := ha b (by simp)
   have h3 := ha c (by simp)
   have hb1 := zcA h1 (by omega) 0
   have hb2 := zcA h2 (by omega) 0
   have hb3 := zcA h3 (by omega) 0
   have k1 := zd7 13 0 0 [] [a, b, c] 0 a 0 rfl (ih a (by simp [Exp.args]) h1)
   have k2 := zd7 13 0 0 [] [a, b, c] 1 b 0 rfl (ih b (by simp [Exp.args]) h2)
   have k3 := zd7 13 0 0 [] [a, b, c] 2 c 0 rfl (ih c (by simp [Exp.args]) h3)
   rw [zow h1 h2 h3]
   simp only [List.map_cons, List.map_nil] at *
   generalize txt a 0 = T1 at *
   generalize txt b 0 = T2 at *
   generalize txt c 0 = T3 at *
   (refine Fun.of_body Tryz.func59 rfl (by simp) fun Γ hn => ?_); simp only [entry, ziC, ziN, maC, maN, oA, Tryz.ntmps59]
   repeat' (first
  | ((first | refine zaf ?_ | refine zaj ?_ | fail); simp [hl])
  | (refine ⟨by omega, ?_⟩)
  | ((first | refine zah ?_ | refine zai ?_ | refine zaD ?_ | fail); simp [hl])
  | ((first | refine zas ?_ | refine zaq ?_ | fail); simp only [zap])
  | (refine CallP.fE (hf) (by first | rfl | fail) (by first | simp [hl] <;> rfl | fail) ?_; (try simp [hl]))
  | (refine CallP.fE (k1) (by first | rfl | fail) (by first | simp [hl] <;> rfl | fail) ?_; (try simp [hl]))
  | (refine CallP.fE (k2) (by first | rfl | fail) (by first | simp [hl] <;> rfl | fail) ?_; (try simp [hl]))
  | (refine CallP.fE (k3) (by first | rfl | fail) (by first | simp [hl] <;> rfl | fail) ?_; (try simp [hl]))
  | fail)
   (refine EndOK.val (.inr rfl) ?_; simp [zaM, zag, zau, Tryz.results59])
  ·obtain ⟨a, b, rfl⟩ := zla hl3
   have h1 := ha a (by simp)
   have h2 := ha b (by simp)
   have ia := ih a (by simp [Exp.args]) h1
   have ib := ih b (by simp [Exp.args]) h2
   by_cases h6 : op = 6
   ·subst h6
    have hb1 := zcA h1 (by omega) 0
    have hb2 := zcA h2 (by omega) 0
    have k1 := zd7 6 0 0 [] [a, b] 0 a 0 rfl ia
    have k2 := zd7 6 0 0 [] [a, b] 1 b 0 rfl ib
    rw [zlZ h1 h2]
    simp only [List.map_cons, List.map_nil] at *
    generalize txt a 0 = T1 at *
    generalize txt b 0 = T2 at *
    (refine Fun.of_body Tryz.func59 rfl (by simp) fun Γ hn => ?_); simp only [entry, ziC, ziN, maC, maN, oA, Tryz.ntmps59]
    repeat' (first
  | ((first | refine zaf ?_ | refine zaj ?_ | fail); simp [hl])
  | (refine ⟨by omega, ?_⟩)
  | ((first | refine zah ?_ | refine zai ?_ | refine zaD ?_ | fail); simp [hl])
  | ((first | refine zas ?_ | refine zaq ?_ | fail); simp only [zap])
  | (refine CallP.fE (hf) (by first | rfl | fail) (by first | simp [hl] <;> rfl | fail) ?_; (try simp [hl]))
  | (refine CallP.fE (k1) (by first | rfl | fail) (by first | simp [hl] <;> rfl | fail) ?_; (try simp [hl]))
  | (refine CallP.fE (k2) (by first | rfl | fail) (by first | simp [hl] <;> rfl | fail) ?_; (try simp [hl]))
  | fail)
    (refine EndOK.val (.inr rfl) ?_; simp [zaM, zag, zau, Tryz.results59])
   ·by_cases h7 : op = 7
    ·subst h7
     have hb1 := zcA h1 (by omega) 0
     have hb2 := zcA h2 (by omega) 0
     have k1 := zd7 7 0 0 [] [a, b] 0 a 0 rfl ia
     have k2 := zd7 7 0 0 [] [a, b] 1 b 0 rfl ib
     rw [zl0 h1 h2]
     simp only [List.map_cons, List.map_nil] at *
     generalize txt a 0 = T1 at *
     generalize txt b 0 = T2 at *
     (refine Fun.of_body Tryz.func59 rfl (by simp) fun Γ hn => ?_); simp only [entry, ziC, ziN, maC, maN, oA, Tryz.ntmps59]
     repeat' (first
  | ((first | refine zaf ?_ | refine zaj ?_ | fail); simp [hl])
  | (refine ⟨by omega, ?_⟩)
  | ((first | refine zah ?_ | refine zai ?_ | refine zaD ?_ | fail); simp [hl])
  | ((first | refine zas ?_ | refine zaq ?_ | fail); simp only [zap])
  | (refine CallP.fE (hf) (by first | rfl | fail) (by first | simp [hl] <;> rfl | fail) ?_; (try simp [hl]))
  | (refine CallP.fE (k1) (by first | rfl | fail) (by first | simp [hl] <;> rfl | fail) ?_; (try simp [hl]))
  | (refine CallP.fE (k2) (by first | rfl | fail) (by first | simp [hl] <;> rfl | fail) ?_; (try simp [hl]))
  | fail)
     (refine EndOK.val (.inr rfl) ?_; simp [zaM, zag, zau, Tryz.results59])
    ·obtain ⟨o, ho, rfl⟩ := zg9 (by omega) (by omega) h6 h7
     have hop := zes
     have hfd : oprs.find? (fun x => decide (x.op = o.op)) = some o := by
      simp only [oprs, List.mem_cons, List.mem_nil_iff, or_false] at ho
      rcases ho with rfl | rfl | rfl | rfl | rfl | rfl | rfl | rfl <;> rfl
     obtain ⟨j, hj1, hj2⟩ := (zfM oprs 0).2 o hfd
     have hix := zpv o.op 0 0 [] (.sl ([a, b].map Exp.row))
     rw [hj2] at hix
     have hj0 : ¬ ((j : Int) < 0) := by omega
     have hjl : j < 8 := (lGE.1 hj1).1
     rw [show (0 : Int) + j = (j : Int) by omega] at hix
     have hfm : 0 ≤ o.form ∧ o.form ≤ 6 := by
      simp only [oprs, List.mem_cons, List.mem_nil_iff, or_false] at ho
      rcases ho with rfl | rfl | rfl | rfl | rfl | rfl | rfl | rfl <;> decide
     obtain ⟨hf0, hf6⟩ := hfm
     have hot := znX ho
     have hb1 := zcA h1 (by omega) (if o.form = 4 then 5 else o.form)
     have hb2 := zcA h2 (by omega) (o.form + 1)
     have k1 := zd7 o.op 0 0 [] [a, b] 0 a (if o.form = 4 then 5 else o.form) rfl ia
     have k2 := zd7 o.op 0 0 [] [a, b] 1 b (o.form + 1) rfl ib
     rw [ze3 ho h1 h2]
     simp only [List.map_cons, List.map_nil] at *
     clear hfd hj2 ho
     generalize hL : oprs = L at hop hix hj1
     by_cases c4 : o.form = 4
     ·have e1 : o.form + 1 = 5 := by omega
      rw [if_pos c4] at k1 hb1 ⊢
      rw [e1] at k2 hb2 ⊢
      generalize txt a 5 = T1 at *
      generalize txt b 5 = T2 at *
      (refine Fun.of_body Tryz.func59 rfl (by simp) fun Γ hn => ?_); simp only [entry, ziC, ziN, maC, maN, oA, Tryz.ntmps59]
      repeat' (first
  | ((first | refine zaf ?_ | refine zbo rfl ?_ | refine zaj ?_ | fail); simp [hl, g0, g1, g12, g13, h6, h7, hj0, hj1, c4])
  | (refine ⟨by omega, ?_⟩)
  | ((first | refine zah ?_ | refine zai ?_ | fail); simp [hl, g0, g1, g12, g13, h6, h7, hj0, hj1, c4])
  | (refine zbH (hC _ (by kernel_rfl)) (hk _ ?_); clear hC hk C k; simp only [zap])
  | (refine zb0 rfl (by kernel_rfl) (by first | (simp [hn]; done) | (simp [hn]; omega) | fail) fun C k hC hk => ?_; simp [hl, g0, g1, g12, g13, h6, h7, hj0, hj1, c4])
  | ((first | refine zaD ?_ | refine zaG ?_ | fail); simp [hl, g0, g1, g12, g13, h6, h7, hj0, hj1, c4])
  | ((first | refine zas ?_ | refine zaq ?_ | fail); simp only [zap])
  | (refine CallP.fE (hf) (by first | rfl | fail) (by first | simp [hl, g0, g1, g12, g13, h6, h7, hj0, hj1, c4] <;> rfl | fail) ?_; (try simp [hl, g0, g1, g12, g13, h6, h7, hj0, hj1, c4]))
  | (refine CallP.fE (hop) (by first | rfl | fail) (by first | simp [hl, g0, g1, g12, g13, h6, h7, hj0, hj1, c4] <;> rfl | fail) ?_; (try simp [hl, g0, g1, g12, g13, h6, h7, hj0, hj1, c4]))
  | (refine CallP.fE (hix) (by first | rfl | fail) (by first | simp [hl, g0, g1, g12, g13, h6, h7, hj0, hj1, c4] <;> rfl | fail) ?_; (try simp [hl, g0, g1, g12, g13, h6, h7, hj0, hj1, c4]))
  | (refine CallV.fun_ (k1) (by first | rfl | fail) (by first | simp [hl, g0, g1, g12, g13, h6, h7, hj0, hj1, c4] <;> rfl | fail) ?_ <;> (try simp [hl, g0, g1, g12, g13, h6, h7, hj0, hj1, c4]))
  | (refine CallV.fun_ (k2) (by first | rfl | fail) (by first | simp [hl, g0, g1, g12, g13, h6, h7, hj0, hj1, c4] <;> rfl | fail) ?_ <;> (try simp [hl, g0, g1, g12, g13, h6, h7, hj0, hj1, c4]))
  | fail)
      (refine EndOK.val (.inr rfl) ?_; simp [zaM, zag, zau, Tryz.results59])
     ·rw [if_neg c4] at k1 hb1 ⊢
      generalize txt a o.form = T1 at *
      generalize txt b (o.form + 1) = T2 at *
      (refine Fun.of_body Tryz.func59 rfl (by simp) fun Γ hn => ?_); simp only [entry, ziC, ziN, maC, maN, oA, Tryz.ntmps59]
      repeat' (first
  | ((first | refine zaf ?_ | refine zbo rfl ?_ | refine zaj ?_ | fail); simp [hl, g0, g1, g12, g13, h6, h7, hj0, hj1, c4])
  | (refine ⟨by omega, ?_⟩)
  | ((first | refine zah ?_ | refine zai ?_ | fail); simp [hl, g0, g1, g12, g13, h6, h7, hj0, hj1, c4])
  | (refine zbH (hC _ (by kernel_rfl)) (hk _ ?_); clear hC hk C k; simp only [zap])
  | (refine zb0 rfl (by kernel_rfl) (by first | (simp [hn]; done) | (simp [hn]; omega) | fail) fun C k hC hk => ?_; simp [hl, g0, g1, g12, g13, h6, h7, hj0, hj1, c4])
  | (refine zaD ?_; simp [hl, g0, g1, g12, g13, h6, h7, hj0, hj1, c4])
  | ((first | refine zas ?_ | refine zaq ?_ | fail); simp only [zap])
  | (refine CallP.fE (hf) (by first | rfl | fail) (by first | simp [hl, g0, g1, g12, g13, h6, h7, hj0, hj1, c4] <;> rfl | fail) ?_; (try simp [hl, g0, g1, g12, g13, h6, h7, hj0, hj1, c4]))
  | (refine CallP.fE (hop) (by first | rfl | fail) (by first | simp [hl, g0, g1, g12, g13, h6, h7, hj0, hj1, c4] <;> rfl | fail) ?_; (try simp [hl, g0, g1, g12, g13, h6, h7, hj0, hj1, c4]))
  | (refine CallP.fE (hix) (by first | rfl | fail) (by first | simp [hl, g0, g1, g12, g13, h6, h7, hj0, hj1, c4] <;> rfl | fail) ?_; (try simp [hl, g0, g1, g12, g13, h6, h7, hj0, hj1, c4]))
  | (refine CallV.fun_ (k1) (by first | rfl | fail) (by first | simp [hl, g0, g1, g12, g13, h6, h7, hj0, hj1, c4] <;> rfl | fail) ?_ <;> (try simp [hl, g0, g1, g12, g13, h6, h7, hj0, hj1, c4]))
  | (refine CallV.fun_ (k2) (by first | rfl | fail) (by first | simp [hl, g0, g1, g12, g13, h6, h7, hj0, hj1, c4] <;> rfl | fail) ?_ <;> (try simp [hl, g0, g1, g12, g13, h6, h7, hj0, hj1, c4]))
  | fail)
      (refine EndOK.val (.inr rfl) ?_; simp [zaM, zag, zau, Tryz.results59])
theorem zgG : ∀ (d : Nat), d ≤ 12 → ∀ e : Exp, zaA d e = true → zmr e
 | 0, _, e, h => by rw [zaA] at h; cases h
 | d + 1, hd, e, h => fun least => by
  have ih : ∀ x ∈ e.args, zaA (d + 1 - 1) x = true → zmr x := fun x _ hx => zgG d (by omega) x hx
  have h00 : ¬ zb7 e.op < 0 := by
   unfold zb7
   split
   ·omega
   ·split
    ·omega
    ·split
     ·rename_i o ho
      have := List.mem_of_find?_eq_some ho
      simp only [oprs, List.mem_cons, List.mem_nil_iff, or_false] at this
      rcases this with rfl | rfl | rfl | rfl | rfl | rfl | rfl | rfl <;> decide
     ·omega
  have h0 := zjv (d + 1) hd e h 0 h00 ih
  by_cases hl : zb7 e.op < least
  ·exact znI h hd (by rw [zdb h00]; exact h0) hl h00
  ·have := zjv (d + 1) hd e h least hl ih
   rwa [← zdb hl] at this
/-- What PrintExp returns. -/
def zfB (e : Exp) : W8 × Int := if zaA 12 e = true then (if 2000 < (txt e 0).length then ([], 6) else (txt e 0, 0)) else ([], 1)
theorem zdW (e : Exp) : Fun Tryz.prog 21 [.u (.agg e.row)] (· = .tup [.u (.str (zfB e).1), .u (.int .i64 (zfB e).2)]) := by
 have h1 : Fun Tryz.prog 25 [.u (.agg e.row)] (· = .u (.bool (zaA 12 e))) := by rw [Exp.row_eq]; exact zci e
 unfold zfB
 cases hr : zaA 12 e with
 | false =>
  rw [hr] at h1
  rw [if_neg (by simp)]
  rw [Exp.row_eq] at *
  (refine Fun.of_body Tryz.func21 rfl (by simp) fun Γ hn => ?_); simp only [entry, ziC, ziN, maC, maN, oA, Tryz.ntmps21]
  repeat' (first
  | ((first | refine zaf ?_ | refine zaj ?_ | refine zah ?_ | refine zai ?_ | fail); simp)
  | (refine zas ?_; simp only [zap])
  | (refine CallP.fE (h1) (by first | rfl | fail) (by first | (simp; done) | (simp; rfl) | fail) ?_; (try simp))
  | fail)
  (refine EndOK.val (.inr rfl) ?_; simp [zaM, zag, zau, Tryz.results21])
 | true =>
  have h2 := zgG 12 (Nat.le_refl _) e hr 0
  have h3 := zma (txt e 0)
  rw [hr] at h1
  rw [if_pos rfl]
  rw [Exp.row_eq] at *
  generalize txt e 0 = T at *
  by_cases hl : 2000 < T.length
  ·rw [if_pos hl] at h3 ⊢
   (refine Fun.of_body Tryz.func21 rfl (by simp) fun Γ hn => ?_); simp only [entry, ziC, ziN, maC, maN, oA, Tryz.ntmps21]
   repeat' (first
  | ((first | refine zaf ?_ | refine zaj ?_ | refine zah ?_ | refine zai ?_ | fail); simp)
  | ((first | refine zas ?_ | refine zaq ?_ | fail); simp only [zap])
  | (refine CallP.fE (h1) (by first | rfl | fail) (by first | (simp; done) | (simp; rfl) | fail) ?_; (try simp))
  | (refine CallP.fE (h2) (by first | rfl | fail) (by first | (simp; done) | (simp; rfl) | fail) ?_; (try simp))
  | (refine CallP.fE (h3) (by first | rfl | fail) (by first | (simp; done) | (simp; rfl) | fail) ?_; (try simp))
  | fail)
   (refine EndOK.val (.inr rfl) ?_; simp [zaM, zag, zau, Tryz.results21])
  ·rw [if_neg hl] at h3 ⊢
   (refine Fun.of_body Tryz.func21 rfl (by simp) fun Γ hn => ?_); simp only [entry, ziC, ziN, maC, maN, oA, Tryz.ntmps21]
   repeat' (first
  | ((first | refine zaf ?_ | refine zaj ?_ | refine zah ?_ | refine zai ?_ | fail); simp)
  | ((first | refine zas ?_ | refine zaq ?_ | fail); simp only [zap])
  | (refine CallP.fE (h1) (by first | rfl | fail) (by first | (simp; done) | (simp; rfl) | fail) ?_; (try simp))
  | (refine CallP.fE (h2) (by first | rfl | fail) (by first | (simp; done) | (simp; rfl) | fail) ?_; (try simp))
  | (refine CallP.fE (h3) (by first | rfl | fail) (by first | (simp; done) | (simp; rfl) | fail) ?_; (try simp))
  | fail)
   (refine EndOK.val (.inr rfl) ?_; simp [zaM, zag, zau, Tryz.results21])
abbrev zdu (a b : Exp) : Prop := Fun Tryz.prog 28 [.u (.agg a.row), .u (.agg b.row)] (· = .u (.bool (eqB a b)))
theorem zni (A B : List Exp) (h : ∀ a ∈ A, ∀ b, zdu a b) : Fun Tryz.prog 73 [.u (.sl (A.map Exp.row)), .u (.sl (B.map Exp.row)), .fnc (.func 28) []] (· = .u (.bool (eqB A B))) := by
 by_cases hl : A.length = B.length
 ·have hl' : (A.length : Int) = B.length := by omega
  (refine Fun.of_body Tryz.func73 rfl (by simp) fun Γ hn => ?_); simp only [entry, ziC, ziN, maC, maN, oA, Tryz.ntmps73]
  refine zjd (x := 0) rfl fun hll => ?_
  simp at hll
  repeat' (first
  | ((first | refine zaf ?_ | refine zaj ?_ | refine zah ?_ | refine zai ?_ | refine zaD ?_ | fail); simp [hl, hl'])
  | (refine zaq ?_; simp only [zap])
  | fail)
  refine zd8 (α := { i : Nat // i ≤ A.length ∧ A.take i = B.take i }) [0, 1, 2, 6, 15, 16] (fun x => [(17, .u (.int .i64 x.1))]) (fun x => []) 0 (fun x => A.length - x.1) ⟨0, by omega, by simp⟩ ?_ ?_
  ·exact (Wk.cut rfl (by simp [hn, St.lp]) (by simp [wkO, St.lp, zaa, getK, Ob.under, D.under, zad, zae, hl]) (by simp [wkU, St.lp, zan, zaa, getK, D.under, hl]) (by simp [wkE, St.lp, zan, zaa, getK, hl] <;> (try (intros; simp_all; done)) <;> (try (intros; omega)) <;> (try grind)))
  rintro ⟨i, hi, hb⟩
  simp [St.lp, St.only, zan, zaa, getK]
  rcases hx : A[i]? with _ | a
  ·have hge : A.length ≤ i := by simpa using hx
   obtain rfl : i = A.length := by omega
   rw [List.take_of_length_le (Nat.le_refl _), List.take_of_length_le (by omega)] at hb
   subst hb
   rw [zex]
   repeat' (first
  | ((first | refine zaf ?_ | refine zaj ?_ | refine zah ?_ | fail); simp [hx, hl])
  | (refine zas ?_; simp only [zap])
  | (refine zce ?_; simp [zap])
  | fail)
   (refine EndOK.val (.inr rfl) ?_; simp [zaM, zag, zau, Tryz.results73])
  ·have hlt : i < A.length := (lGE.1 hx).1
   have hlt2 : i < B.length := by omega
   obtain ⟨b, hy⟩ : ∃ b, B[i]? = some b := ⟨_, List.getElem?_eq_getElem hlt2⟩
   have hi2 : (i : Int) < B.length := by omega
   have h1 : zdu a b := h a (List.mem_of_getElem? hx) b
   unfold zdu at h1
   by_cases hab : a = b
   ·rw [zcb.2 hab] at h1
    rw [Exp.row_eq, Exp.row_eq] at h1
    repeat' (first
  | ((first | refine zaf ?_ | refine zaj ?_ | fail); simp [hx, hy, hi2, Exp.row_eq])
  | (refine ⟨by omega, ?_⟩)
  | ((first | refine zah ?_ | refine zai ?_ | refine zaG ?_ | fail); simp [hx, hy, hi2, Exp.row_eq])
  | (refine zaq ?_; simp only [zap])
  | (refine CallP.fE (h1) (by first | rfl | fail) (by first | simp [hx, hy, hi2, Exp.row_eq] <;> rfl | fail) ?_; (try simp [hx, hy, hi2, Exp.row_eq]))
  | fail)
    have hsn : A.take (i + 1) = B.take (i + 1) := by
     rw [List.take_succ_eq_append_getElem hlt, List.take_succ_eq_append_getElem hlt2, hb, (lGE.1 hx).2, (lGE.1 hy).2, hab]
    refine LoopW.next ⟨i + 1, by omega, hsn⟩ (by simp; omega) ?_
    exact (Wk.cut rfl (by simp [hn, St.lp]) (by simp [wkO, St.lp, zaa, getK, Ob.under, D.under, zad, zae, hl]) (by simp [wkU, St.lp, zan, zaa, getK, D.under, hl]) (by simp [wkE, St.lp, zan, zaa, getK, hl] <;> (try (intros; simp_all; done)) <;> (try (intros; omega)) <;> (try grind)))
   ·rw [zeh hab] at h1
    rw [Exp.row_eq, Exp.row_eq] at h1
    have hne : A ≠ B := fun e => by subst e; rw [hx] at hy; cases hy; exact hab rfl
    rw [zeh hne]
    repeat' (first
  | ((first | refine zaf ?_ | refine zaj ?_ | refine zah ?_ | refine zai ?_ | fail); simp [hx, hy, hi2, Exp.row_eq])
  | ((first | refine zas ?_ | refine zaq ?_ | fail); simp only [zap])
  | (refine CallP.fE (h1) (by first | rfl | fail) (by first | simp [hx, hy, hi2, Exp.row_eq] <;> rfl | fail) ?_; (try simp [hx, hy, hi2, Exp.row_eq]))
  | fail)
    (refine EndOK.val (.inr rfl) ?_; simp [zaM, zag, zau, Tryz.results73])
 ·have hl' : ¬ (A.length : Int) = B.length := by omega
  rw [zeh (fun e => hl (by rw [e]))]
  (refine Fun.of_body Tryz.func73 rfl (by simp) fun Γ hn => ?_); simp only [entry, ziC, ziN, maC, maN, oA, Tryz.ntmps73]
  repeat' (first
  | ((first | refine zaf ?_ | refine zaj ?_ | refine zah ?_ | refine zai ?_ | fail); simp [hl, hl'])
  | (refine zas ?_; simp only [zap])
  | fail)
  (refine EndOK.val (.inr rfl) ?_; simp [zaM, zag, zau, Tryz.results73])
theorem zpl : ∀ (n : Nat) (a b : Exp), SizeOf.sizeOf a ≤ n → zdu a b := by
 intro n
 induction n with
 | zero =>
  intro a b h
  cases a with
  | mk op n u s args => simp only [Exp.mk.sizeOf_spec] at h; omega
 | succ n ih =>
  intro a b hs
  have h1 := zni a.args b.args (fun x hx y => ih x y (by have := Exp.zft hx; omega))
  unfold zdu
  have key : ∀ B : Bool, (B = true ↔ a = b) → eqB a b = B := fun B h => by
   cases B with
   | true => exact zcb.2 (h.1 rfl)
   | false => exact zeh fun e => by have := h.2 e; cases this
  have hmk : a = b ↔ a.op = b.op ∧ a.n = b.n ∧ a.unit = b.unit ∧ a.s = b.s ∧ a.args = b.args := by
   cases a; cases b
   simp only [Exp.op, Exp.n, Exp.unit, Exp.s, Exp.args, Exp.mk.injEq]
  rw [Exp.row_eq, Exp.row_eq b]
  by_cases c1 : a.op = b.op
  ·by_cases c2 : a.n = b.n
   ·by_cases c3 : a.unit = b.unit
    ·by_cases c4 : a.s = b.s
     ·rw [key (eqB a.args b.args) (by rw [zcb, hmk]; exact ⟨fun h => ⟨c1, c2, c3, c4, h⟩, fun h => h.2.2.2.2⟩)]
      (refine Fun.of_body Tryz.func28 rfl (by simp) fun Γ hn => ?_); simp only [entry, ziC, ziN, maC, maN, oA, Tryz.ntmps28]
      repeat' (first
  | ((first | refine zaf ?_ | refine zaj ?_ | refine zah ?_ | fail); simp [c1, c2, c3, c4])
  | (refine zas ?_; simp only [zap])
  | (refine CallP.fE (h1) (by first | rfl | fail) (by first | simp [c1, c2, c3, c4] <;> rfl | fail) ?_; (try simp [c1, c2, c3, c4]))
  | fail)
      (refine EndOK.val (.inr rfl) ?_; simp [zaM, zag, zau, Tryz.results28])
     ·rw [key false (by rw [hmk]; simp [c4])]
      (refine Fun.of_body Tryz.func28 rfl (by simp) fun Γ hn => ?_); simp only [entry, ziC, ziN, maC, maN, oA, Tryz.ntmps28]
      repeat' (first
  | ((first | refine zaf ?_ | refine zaj ?_ | refine zah ?_ | fail); simp [c1, c2, c3, c4])
  | (refine zas ?_; simp only [zap])
  | fail)
      (refine EndOK.val (.inr rfl) ?_; simp [zaM, zag, zau, Tryz.results28])
    ·rw [key false (by rw [hmk]; simp [c3])]
     (refine Fun.of_body Tryz.func28 rfl (by simp) fun Γ hn => ?_); simp only [entry, ziC, ziN, maC, maN, oA, Tryz.ntmps28]
     repeat' (first
  | ((first | refine zaf ?_ | refine zaj ?_ | refine zah ?_ | fail); simp [c1, c2, c3])
  | (refine zas ?_; simp only [zap])
  | fail)
     (refine EndOK.val (.inr rfl) ?_; simp [zaM, zag, zau, Tryz.results28])
   ·rw [key false (by rw [hmk]; simp [c2])]
    (refine Fun.of_body Tryz.func28 rfl (by simp) fun Γ hn => ?_); simp only [entry, ziC, ziN, maC, maN, oA, Tryz.ntmps28]
    repeat' (first
  | ((first | refine zaf ?_ | refine zaj ?_ | refine zah ?_ | fail); simp [c1, c2])
  | (refine zas ?_; simp only [zap])
  | fail)
    (refine EndOK.val (.inr rfl) ?_; simp [zaM, zag, zau, Tryz.results28])
  ·rw [key false (by rw [hmk]; simp [c1])]
   (refine Fun.of_body Tryz.func28 rfl (by simp) fun Γ hn => ?_); simp only [entry, ziC, ziN, maC, maN, oA, Tryz.ntmps28]
   repeat' (first
  | ((first | refine zaf ?_ | refine zaj ?_ | refine zah ?_ | fail); simp [c1])
  | (refine zas ?_; simp only [zap])
  | fail)
   (refine EndOK.val (.inr rfl) ?_; simp [zaM, zag, zau, Tryz.results28])
theorem zcg (a b : Exp) : zdu a b := zpl (SizeOf.sizeOf a) a b (Nat.le_refl _)
theorem zmB (x y : Let) : Fun Tryz.prog 72 [zos x, zos y] (· = .u (.bool (eqB x y))) := by
 have h1 := zcg x.body y.body
 unfold zdu at h1
 rw [Exp.row_eq, Exp.row_eq] at h1
 simp only [zos]
 have hmk : x = y ↔ x.name = y.name ∧ x.body = y.body := by cases x; cases y; simp
 by_cases c1 : x.name = y.name
 ·have e : eqB x y = eqB x.body y.body := by
   by_cases c2 : x.body = y.body
   ·rw [zcb.2 c2, zcb.2 (hmk.2 ⟨c1, c2⟩)]
   ·rw [zeh c2, zeh fun h => c2 (hmk.1 h).2]
  rw [e]
  (refine Fun.of_body Tryz.func72 rfl (by simp) fun Γ hn => ?_); simp only [entry, ziC, ziN, maC, maN, oA, Tryz.ntmps72]
  repeat' (first
  | ((first | refine zaf ?_ | refine zaj ?_ | refine zah ?_ | fail); simp [c1])
  | (refine zas ?_; simp only [zap])
  | (refine CallP.fE (h1) (by first | rfl | fail) (by first | simp [c1] <;> rfl | fail) ?_; (try simp [c1]))
  | fail)
  (refine EndOK.val (.inr rfl) ?_; simp [zaM, zag, zau, Tryz.results72])
 ·rw [zeh fun h => c1 (hmk.1 h).1]
  (refine Fun.of_body Tryz.func72 rfl (by simp) fun Γ hn => ?_); simp only [entry, ziC, ziN, maC, maN, oA, Tryz.ntmps72]
  repeat' (first
  | ((first | refine zaf ?_ | refine zaj ?_ | refine zah ?_ | fail); simp [c1])
  | (refine zas ?_; simp only [zap])
  | fail)
  (refine EndOK.val (.inr rfl) ?_; simp [zaM, zag, zau, Tryz.results72])
theorem znh (A B : List Let) : Fun Tryz.prog 71 [.u (zfH A), .u (zfH B), .fnc (.func 72) []] (· = .u (.bool (eqB A B))) := by
 simp only [zfH]
 by_cases hl : A.length = B.length
 ·have hl' : (A.length : Int) = B.length := by omega
  (refine Fun.of_body Tryz.func71 rfl (by simp) fun Γ hn => ?_); simp only [entry, ziC, ziN, maC, maN, oA, Tryz.ntmps71]
  refine zjd (x := 0) rfl fun hll => ?_
  simp at hll
  repeat' (first
  | ((first | refine zaf ?_ | refine zaj ?_ | refine zah ?_ | refine zai ?_ | refine zaD ?_ | fail); simp [hl, hl'])
  | (refine zaq ?_; simp only [zap])
  | fail)
  refine zd8 (α := { i : Nat // i ≤ A.length ∧ A.take i = B.take i }) [0, 1, 2, 6, 15, 16] (fun x => [(17, .u (.int .i64 x.1))]) (fun x => []) 0 (fun x => A.length - x.1) ⟨0, by omega, by simp⟩ ?_ ?_
  ·exact (Wk.cut rfl (by simp [hn, St.lp]) (by simp [wkO, St.lp, zaa, getK, Ob.under, D.under, zad, zae, hl]) (by simp [wkU, St.lp, zan, zaa, getK, D.under, hl]) (by simp [wkE, St.lp, zan, zaa, getK, hl] <;> (try (intros; simp_all; done)) <;> (try (intros; omega)) <;> (try grind)))
  rintro ⟨i, hi, hb⟩
  simp [St.lp, St.only, zan, zaa, getK]
  rcases hx : A[i]? with _ | a
  ·have hge : A.length ≤ i := by simpa using hx
   obtain rfl : i = A.length := by omega
   rw [List.take_of_length_le (Nat.le_refl _), List.take_of_length_le (by omega)] at hb
   subst hb
   rw [zex]
   repeat' (first
  | ((first | refine zaf ?_ | refine zaj ?_ | refine zah ?_ | fail); simp [hx, hl])
  | (refine zas ?_; simp only [zap])
  | (refine zce ?_; simp [zap])
  | fail)
   (refine EndOK.val (.inr rfl) ?_; simp [zaM, zag, zau, Tryz.results71])
  ·have hlt : i < A.length := (lGE.1 hx).1
   have hlt2 : i < B.length := by omega
   obtain ⟨b, hy⟩ : ∃ b, B[i]? = some b := ⟨_, List.getElem?_eq_getElem hlt2⟩
   have hi2 : (i : Int) < B.length := by omega
   have h1 := zmB a b
   simp only [zos] at h1
   by_cases hab : a = b
   ·rw [zcb.2 hab] at h1
    repeat' (first
  | ((first | refine zaf ?_ | refine zaj ?_ | fail); simp [hx, hy, hi2])
  | (refine ⟨by omega, ?_⟩)
  | ((first | refine zah ?_ | refine zai ?_ | refine zaG ?_ | fail); simp [hx, hy, hi2])
  | (refine zaq ?_; simp only [zap])
  | (refine CallP.fE (h1) (by first | rfl | fail) (by first | simp [hx, hy, hi2] <;> rfl | fail) ?_; (try simp [hx, hy, hi2]))
  | fail)
    have hsn : A.take (i + 1) = B.take (i + 1) := by
     rw [List.take_succ_eq_append_getElem hlt, List.take_succ_eq_append_getElem hlt2, hb, (lGE.1 hx).2, (lGE.1 hy).2, hab]
    refine LoopW.next ⟨i + 1, by omega, hsn⟩ (by simp; omega) ?_
    exact (Wk.cut rfl (by simp [hn, St.lp]) (by simp [wkO, St.lp, zaa, getK, Ob.under, D.under, zad, zae, hl]) (by simp [wkU, St.lp, zan, zaa, getK, D.under, hl]) (by simp [wkE, St.lp, zan, zaa, getK, hl] <;> (try (intros; simp_all; done)) <;> (try (intros; omega)) <;> (try grind)))
   ·rw [zeh hab] at h1
    have hne : A ≠ B := fun e => by subst e; rw [hx] at hy; cases hy; exact hab rfl
    rw [zeh hne]
    repeat' (first
  | ((first | refine zaf ?_ | refine zaj ?_ | refine zah ?_ | refine zai ?_ | fail); simp [hx, hy, hi2])
  | ((first | refine zas ?_ | refine zaq ?_ | fail); simp only [zap])
  | (refine CallP.fE (h1) (by first | rfl | fail) (by first | simp [hx, hy, hi2] <;> rfl | fail) ?_; (try simp [hx, hy, hi2]))
  | fail)
    (refine EndOK.val (.inr rfl) ?_; simp [zaM, zag, zau, Tryz.results71])
 ·have hl' : ¬ (A.length : Int) = B.length := by omega
  rw [zeh (fun e => hl (by rw [e]))]
  (refine Fun.of_body Tryz.func71 rfl (by simp) fun Γ hn => ?_); simp only [entry, ziC, ziN, maC, maN, oA, Tryz.ntmps71]
  repeat' (first
  | ((first | refine zaf ?_ | refine zaj ?_ | refine zah ?_ | refine zai ?_ | fail); simp [hl, hl'])
  | (refine zas ?_; simp only [zap])
  | fail)
  (refine EndOK.val (.inr rfl) ?_; simp [zaM, zag, zau, Tryz.results71])
theorem zjx (b : By) : Fun Tryz.prog 27 [.u (.agg (zbf b)), .u (.agg (zbf b))] (· = .u (.bool true)) := by
 have e0 := znh b.lets b.lets
 have e1 : zdu b.due b.due := zcg _ _
 have e2 : zdu b.fine b.fine := zcg _ _
 have e3 : zdu b.pay b.pay := zcg _ _
 have e4 : zdu b.cover b.cover := zcg _ _
 have e5 : zdu b.hold b.hold := zcg _ _
 unfold zdu at e1 e2 e3 e4 e5
 rw [Exp.row_eq] at e1 e2 e3 e4 e5
 rw [zex] at e0 e1 e2 e3 e4 e5
 simp only [zfH] at e0
 unfold zbf
 (refine Fun.of_body Tryz.func27 rfl (by simp) fun Γ hn => ?_); simp only [entry, ziC, ziN, maC, maN, oA, Tryz.ntmps27]
 repeat' (first
  | ((first | refine zaf ?_ | refine zaj ?_ | refine zah ?_ | fail); simp)
  | (refine zas ?_; simp only [zap])
  | (refine CallP.fE (e0) (by first | rfl | fail) (by first | (simp; done) | (simp; rfl) | fail) ?_; (try simp))
  | (refine CallP.fE (e1) (by first | rfl | fail) (by first | (simp; done) | (simp; rfl) | fail) ?_; (try simp))
  | (refine CallP.fE (e2) (by first | rfl | fail) (by first | (simp; done) | (simp; rfl) | fail) ?_; (try simp))
  | (refine CallP.fE (e3) (by first | rfl | fail) (by first | (simp; done) | (simp; rfl) | fail) ?_; (try simp))
  | (refine CallP.fE (e4) (by first | rfl | fail) (by first | (simp; done) | (simp; rfl) | fail) ?_; (try simp))
  | (refine CallP.fE (e5) (by first | rfl | fail) (by first | (simp; done) | (simp; rfl) | fail) ?_; (try simp))
  | fail)
 (refine EndOK.val (.inr rfl) ?_; simp [zaM, zag, zau, Tryz.results27])
abbrev zkp : Ob := .box [.u (.int .i64 0), .u (.int .i64 0), .u (.int .i64 0), .u (.str []), .u .nil]
theorem ziF (i j q nx : Nat) (hi : i < nx) (hj : j < nx) (hq : q < nx) (hij : i ≠ j) (hiq : i ≠ q) (hjq : j ≠ q) (p e pos err : Int) (a b c : Int) (t : List UInt8) (g : U) :
  RetDf Tryz.prog 40 [.ptr i 0, .ptr j 0, .ptr q 0] [(i, .box [.u (.int .i64 p)]), (j, .box [.u (.int .i64 e)]), (q, .box [.u (.int .i64 a), .u (.int .i64 b), .u (.int .i64 c), .u (.str t), .u g])] nx (.panicking (chP pos err))
   (fun u o n => settle u = .returning ∧ n = nx ∧ o = [(i, .box [.u (.int .i64 pos)]), (j, .box [.u (.int .i64 err)]), (q, zkp)]) := by
 have hne := zaB hi
 have hne2 := zaB hj
 have hne3 := zaB hq
 have hc0 := zhv i j nx hi hj hij p e pos err
 refine RetDf.of_body Tryz.func40 rfl (by simp) (by simp) rfl fun Γ hn => ?_
 simp [entry, zkU, chP, Tryz.ntmps40]
 refine CallP.x2 hc0 (by simp [getK]) (by simp [getK, hij, Ne.symm hij]) hij rfl rfl (by simp) (by simp) (fun d o1 nx' hnx h => ?_) (fun ch o1 nx' hnx h => by cases h.1)
 obtain ⟨h1, rfl, h4⟩ := h
 have h4 := h4.symm
 subst h4
 cases h1
 simp [del, hij, Ne.symm hij, hiq, hjq, Ne.symm hiq, Ne.symm hjq]
 repeat' (first
  | ((first | refine zaf ?_ | refine zaj ?_ | refine zai ?_ | refine zaG ?_ | fail); simp [hij, hiq, hjq])
  | fail)
 (refine ⟨by simp, { n := _, env := [], obs := [(i, .box [.u (.int .i64 pos)]), (j, .box [.u (.int .i64 err)]), (q, zkp)], next := nx }, (Wk.cut rfl (by simp [hn]) (by simp [wkO, zaa, getK, zab, zac, Ob.under, D.under, zad, zae, hi, hj, hq, hne, hne2, hne3, hij, hiq, hjq, Ne.symm hij, Ne.symm hiq, Ne.symm hjq]) (by simp [wkU, zan, zaa, getK, D.under, hi, hj, hq, hne, hne2, hne3, hij, hiq, hjq, Ne.symm hij, Ne.symm hiq, Ne.symm hjq]) (by simp [wkE, zan, zaa, getK, hi, hj, hq, hne, hne2, hne3, hij, hiq, hjq, Ne.symm hij, Ne.symm hiq, Ne.symm hjq])), by simp [hn], ?_⟩; try simp)
 all_goals rfl
theorem zoh {s : List UInt8} : ∀ (f p : Nat) (l : List Tok), zhG f s p = .ok l → s.length < p + f → p ≤ s.length →
  (∀ (i : Nat) (t : Tok), l[i]? = some t → t.kind ≠ 0 → i + 1 < l.length) ∧ l.length ≤ s.length - p + 1 ∧ 0 < l.length
 | 0, p, l, _, h2, h3 => by omega
 | f + 1, p, l, h, h2, h3 => by
  rw [zhG] at h
  have hle := zdd zaT (s.drop p)
  rw [List.length_drop] at hle
  split at h
  ·cases h
   refine ⟨fun i t hi hk => ?_, by simp, by simp⟩
   rcases i with _ | i
   ·simp at hi
    subst hi
    exact absurd rfl hk
   ·simp at hi
  ·rename_i c r hd
   have hdl : (s.drop (p + zbn zaT (s.drop p))).length = r.length + 1 := by rw [hd]; rfl
   rw [List.length_drop] at hdl
   split at h
   ·cases h
   ·rename_i t ht
    obtain ⟨ht1, ht2⟩ := zeZ ht
    simp only [List.length_cons] at ht2
    split at h
    ·cases h
    ·rename_i l' hl'
     cases h
     obtain ⟨g1, g2, g3⟩ := zoh f _ l' hl' (by omega) (by omega)
     refine ⟨fun i t' hi hk => ?_, by simp only [List.length_cons]; omega, by simp⟩
     rcases i with _ | i
     ·simp; exact g3
     ·simp only [List.getElem?_cons_succ] at hi
      have := g1 i t' hi hk
      simp only [List.length_cons]
      omega
theorem ziP {s : List UInt8} {l : List Tok} (h : zgs s = .ok l) : TokOK l ∧ l.length ≤ 2001 ∧ 0 < l.length := by
 unfold zgs at h
 split at h
 ·cases h
 ·obtain ⟨g1, g2, g3⟩ := zoh _ _ _ h (by omega) (by omega)
  exact ⟨⟨g1, by omega⟩, by omega, g3⟩
theorem Exp.zkJ {op n u : Int} {s : List UInt8} {args : List Exp} {B : Int} (h : ∀ x ∈ args, x.lev ≤ B) (h0 : 0 ≤ B) : (Exp.mk op n u s args).lev ≤ B + 1 := by
 rw [Exp.zf5]
 simp only [Exp.args]
 have : ∀ (l : List Int) (a : Int), a ≤ B → (∀ x ∈ l, x ≤ B) → l.foldl max a ≤ B := by
  intro l
  induction l with
  | nil => intro a ha _; exact ha
  | cons b l ih => intro a ha hl; exact ih _ (by have := hl b (by simp); omega) fun x hx => hl x (by simp [hx])
 have := this (args.map Exp.lev) 0 h0 (fun x hx => by obtain ⟨y, hy, rfl⟩ := List.mem_map.1 hx; exact h y hy)
 omega
theorem zg8 {l : List Tok} : ∀ (f : Nat),
  (∀ p form e q, zcC l f p form = .ok e q → e.lev ≤ f * f + 1) ∧
  (∀ form e own p e' q, zcK l f form e own p = .ok e' q → e'.lev ≤ max e.lev (f * f + 1) + f) ∧
  (∀ p form e q, zaV l f p form = .ok e q → e.1.lev ≤ f * f + 1) ∧
  (∀ p e q, zaJ l f p = .ok e q → e.lev ≤ f * f + 1)
 | 0 => ⟨fun _ _ _ _ h => by simp [zcC] at h, fun _ _ _ _ _ _ h => by simp [zcK] at h, fun _ _ _ _ h => by simp [zaV] at h, fun _ _ _ h => by simp [zaJ] at h⟩
 | f + 1 => by
  obtain ⟨he, hlo, hpr, hpm⟩ := zg8 f
  have hsq : ((f + 1 : Nat) : Int) * ((f + 1 : Nat) : Int) = (f : Int) * f + 2 * f + 1 := by
   rw [show ((f + 1 : Nat) : Int) = (f : Int) + 1 by omega, Int.add_mul, Int.mul_add]; omega
  rw [hsq]
  have h0 : (0 : Int) ≤ (f : Int) * f := Int.mul_nonneg (by omega) (by omega)
  generalize hF : (f : Int) * f = F at *
  refine ⟨fun p form e q h => ?_, fun form e own p e' q h => ?_, fun p form e q h => ?_, fun p e q h => ?_⟩
  ·rw [zcC] at h
   obtain ⟨a, r, h1, h2⟩ := PR.zao h
   have g1 := hpr _ _ _ _ h1
   have g2 := hlo _ _ _ _ _ _ h2
   omega
  ·rw [zcK] at h
   split at h
   ·cases h; omega
   ·split at h
    ·cases h; omega
    ·obtain ⟨a, r, h1, h2⟩ := PR.zao h
     have g1 := he _ _ _ _ h1
     have g2 := hlo _ _ _ _ _ _ h2
     rename_i x _ _
     have g3 := Exp.zkJ (op := x.op) (n := 0) (u := 0) (s := []) (args := [e, a]) (B := max e.lev (F + 1)) (by
      intro y hy
      simp only [List.mem_cons, List.not_mem_nil, or_false] at hy
      rcases hy with rfl | rfl <;> omega) (by omega)
     omega
  ·rw [zaV] at h
   split at h
   ·obtain ⟨a, r, h1, h⟩ := PR.zao h
    obtain ⟨_, r2, h2, h⟩ := PR.zao h
    obtain ⟨b, r3, h3, h⟩ := PR.zao h
    obtain ⟨_, r4, h4, h⟩ := PR.zao h
    obtain ⟨c, r5, h5, h⟩ := PR.zao h
    cases h
    have g1 := he _ _ _ _ h1
    have g3 := he _ _ _ _ h3
    have g5 := he _ _ _ _ h5
    have := Exp.zkJ (op := 13) (n := 0) (u := 0) (s := []) (args := [a, b, c]) (B := F + 1) (by
     intro y hy
     simp only [List.mem_cons, List.not_mem_nil, or_false] at hy
     rcases hy with rfl | rfl | rfl <;> omega) (by omega)
    simp only
    omega
   ·split at h
    ·obtain ⟨a, r, h1, h⟩ := PR.zao h
     cases h
     have g1 := he _ _ _ _ h1
     have := Exp.zkJ (op := 12) (n := 0) (u := 0) (s := []) (args := [a]) (B := F + 1) (by
      intro y hy
      simp only [List.mem_cons, List.not_mem_nil, or_false] at hy
      rcases hy with rfl; omega) (by omega)
     simp only
     omega
    ·obtain ⟨a, r, h1, h⟩ := PR.zao h
     cases h
     have g1 := hpm _ _ _ h1
     simp only
     omega
  ·have leaf : ∀ (op n u : Int) (s : List UInt8), (Exp.mk op n u s []).lev ≤ F + 2 * f + 1 + 1 := fun op n u s => by
    have := Exp.zkJ (op := op) (n := n) (u := u) (s := s) (args := []) (B := 0) (by simp) (by omega)
    omega
   rw [zaJ] at h
   split at h
   ·cases h
   ·split at h
    ·obtain ⟨a, r, h1, h⟩ := PR.zao h
     cases h; exact leaf ..
    split at h
    ·cases h; exact leaf ..
    split at h
    ·cases h; exact leaf ..
    split at h
    ·obtain ⟨_, r2, h2, h⟩ := PR.zao h
     obtain ⟨a, r3, h3, h⟩ := PR.zao h
     obtain ⟨_, r4, h4, h⟩ := PR.zao h
     obtain ⟨b, r5, h5, h⟩ := PR.zao h
     obtain ⟨_, r6, h6, h⟩ := PR.zao h
     have g3 := he _ _ _ _ h3
     have g5 := he _ _ _ _ h5
     have := Exp.zkJ (op := if isB l p [109, 97, 120] = true then 7 else 6) (n := 0) (u := 0) (s := []) (args := [a, b]) (B := F + 1) (by
      intro y hy
      simp only [List.mem_cons, List.not_mem_nil, or_false] at hy
      rcases hy with rfl | rfl <;> omega) (by omega)
     cases h
     omega
    split at h
    ·obtain ⟨a, r3, h3, h⟩ := PR.zao h
     obtain ⟨_, r4, h4, h⟩ := PR.zao h
     cases h
     have g3 := he _ _ _ _ h3
     omega
    split at h
    ·cases h; exact leaf ..
    ·cases h
def zib (l : List Tok) (p : Nat) : Int := match l[p]? with | some t => t.kind | none => 0
def zdg : Exp := .mk 0 0 0 [] []
/-- What ParseExp returns: the expression, the place, the error. -/
def zcj (s : List UInt8) : Exp × Int × Int := match zgs s with
 | .error (p, e) => (zdg, p, e)
 | .ok l => match zcC l (4 * l.length + 3) 0 0 with
  | .stop pos e => (zdg, pos, e)
  | .ok y q => if zib l q ≠ 0 then (zdg, zco l q, 12) else if 12 < y.lev then (zdg, zco l q, 6) else (y, 0, 0)
theorem zn8 {c : UInt8} {r : List UInt8} {e : Int} (h : zeu (c :: r) = .error e) : e ≠ 0 := by
 unfold zeu at h
 simp only at h
 split at h
 ·split at h <;> cases h
  omega
 ·split at h
  ·split at h <;> cases h
   omega
  ·split at h <;> cases h
   omega
theorem zlR {s : List UInt8} : ∀ (f p : Nat) (q : Nat) (e : Int), zhG f s p = .error (q, e) → p ≤ s.length → e ≠ 0 ∧ q ≤ s.length
 | 0, p, q, e, h, _ => by simp [zhG] at h
 | f + 1, p, q, e, h, h3 => by
  rw [zhG] at h
  have hle := zdd zaT (s.drop p)
  rw [List.length_drop] at hle
  split at h
  ·cases h
  ·rename_i c r hd
   have hdl : (s.drop (p + zbn zaT (s.drop p))).length = r.length + 1 := by rw [hd]; rfl
   rw [List.length_drop] at hdl
   split at h
   ·rename_i ht
    cases h
    exact ⟨zn8 ht, by omega⟩
   ·rename_i t ht
    obtain ⟨ht1, ht2⟩ := zeZ ht
    simp only [List.length_cons] at ht2
    split at h
    ·rename_i x hx
     cases h
     exact zlR f _ q e hx (by omega)
    ·cases h
theorem zlO {s : List UInt8} {q : Nat} {e : Int} (h : zgs s = .error (q, e)) : e ≠ 0 ∧ q ≤ s.length := by
 unfold zgs at h
 split at h
 ·cases h; exact ⟨by decide, by omega⟩
 ·exact zlR _ _ _ _ h (by omega)
def zqt (r : Exp × Int × Int) : D := .tup [.u (.agg r.1.row), .u (.int .i64 r.2.1), .u (.int .i64 r.2.2)]
theorem zjR (s : List UInt8) : RetX Tryz.prog 12 [.u (.str s)] [] 0 (fun r o n => r = .val (zqt (zcj s))) := by
 unfold zcj
 cases hlx : zgs s with
 | error pe =>
  obtain ⟨p, e⟩ := pe
  have ho := fun nx => zlD s p e nx hlx
  have he := (zlO hlx).1
  simp only
  (refine RetX.zdC Tryz.func12 rfl (by simp) fun Γ hn hdfr hpan hesc => ?_); simp only [entry, ziC, ziN, maC, maN, oA, Tryz.ntmps12]
  repeat' (first
  | ((first | refine zaf ?_ | refine zbo rfl ?_ | refine zb8 rfl ?_ | refine zaj ?_ | refine zah ?_ | refine zai ?_ | fail); simp [he])
  | (refine zbH (hC _ (by kernel_rfl)) (hk _ ?_); clear hC hk C k; simp only [zap])
  | (refine zb0 rfl (by kernel_rfl) (by first | (simp [hn]; done) | (simp [hn]; omega) | fail) fun C k hC hk => ?_; simp [he])
  | (refine zas ?_; simp only [zap])
  | (refine CallP.okL (ho _) (by first | (simp [he, zaa, getK, zab, zac, zak, zaP, del]; done) | fail) (by rfl) (by rfl) ?_; (try simp [he, zdf, del]))
  | fail)
  refine EndW.norm ?_
  simp [St.norm, zbh, zb3, zcs, zct]
  (refine EndW.here ?_; (first | (refine EndOK.fin (.inr rfl) ?_) | (refine EndOK.fin (.inl rfl) ?_)); simp [zaM, zag, Tryz.results12]; refine FinOK.here (by simp) ?_; try simp)
  simp [zqt, Exp.row, zdg]
 | ok l =>
  obtain ⟨hl, hl2, hl0⟩ := ziP hlx
  have ho := fun nx => zn0 s l nx hlx
  have hE := (zjO hl (4 * l.length + 3)).1 0 0 3 4 (by omega) hl0 (by omega) (by omega) (by omega)
  simp only
  cases hr : zcC l (4 * l.length + 3) 0 0 with
  | stop pos e =>
   simp only [hr] at hE ⊢
   (refine RetX.zdC Tryz.func12 rfl (by simp) fun Γ hn hdfr hpan hesc => ?_); simp only [entry, ziC, ziN, maC, maN, oA, Tryz.ntmps12]
   rw [zdF]
   repeat' (first
  | ((first | refine zaf ?_ | refine zaj ?_ | refine zah ?_ | refine zai ?_ | fail); simp)
  | (refine zaq ?_; simp only [zap])
  | (refine CallP.okL (ho _) (by first | (simp [zaa, getK, zab, zac, zak, zaP, del]; done) | fail) (by rfl) (by rfl) ?_; (try simp [zdf, del]))
  | fail)
   refine zgo hesc hdfr rfl (by simp) ?_
   have hn0 := hn
   have hpan0 := hpan
   intro Γ' hn hpan
   simp
   repeat' (first
  | ((first | refine zaf ?_ | refine zah ?_ | fail); simp)
  | (refine CallP.zem (hE) (by first | (simp [zaa, getK, zab, zac]; done) | fail) (by rfl) (by first | assumption | (simp; done) | fail) (by rfl) (by simp) ?_; rintro ob' ⟨q', rfl⟩; refine ⟨_, Wk.refl _, ?_⟩)
  | fail)
   refine hpan _ _ ?_
   refine LeaveD.of [(1, .box [.u (.int .i64 0)]), (2, .box [.u (.int .i64 0)]), (0, zkp)] (by simp [zaa, getK, zab, zac]) (ziF 1 2 0 _ (by simp) (by simp) (by simp) (by decide) (by decide) (by decide) 0 0 _ _ 0 0 0 [] .nil) ?_
   simp only [show Γ.base.n0 = 0 from hn0]
   simp [zdf, del]
   refine EndW.norm ?_
   simp [St.norm, zbh, zb3, zcs, zct]
   (refine EndW.here ?_; (first | (refine EndOK.fin (.inr rfl) ?_) | (refine EndOK.fin (.inl rfl) ?_)); simp [zaM, zag, Tryz.results12]; refine FinOK.here (by simp) ?_; try simp)
   simp [zqt, Exp.row, zdg]
  | ok y q =>
   have hEx := zc0 hE hr
   obtain ⟨g0a, g0b⟩ := (zbJ hl _).1 _ _ _ _ hr hl0
   have hlev := (zg8 (l := l) _).1 _ _ _ _ hr
   have hlev2 : y.lev ≤ 1000000000 := by
    have h1 : ((4 * l.length + 3 : Nat) : Int) * ((4 * l.length + 3 : Nat) : Int) ≤ 8007 * 8007 := Int.mul_le_mul (by omega) (by omega) (by omega) (by omega)
    omega
   have hlv := zh8 (SizeOf.sizeOf y) y (Nat.le_refl _) hlev2
   rw [Exp.row_eq] at hlv
   obtain ⟨t, ht⟩ : ∃ t, l[q]? = some t := ⟨_, List.getElem?_eq_getElem g0b⟩
   have hnx := zbL l q t ht hl.len
   have hka : zib l q = t.kind := by unfold zib; rw [ht]
   have hpa : zco l q = t.pos := by unfold zco; rw [ht]
   simp only [hka, hpa]
   by_cases hk : t.kind = 0
   ·have hc1 := fun nx (h : 3 < nx) => zd3 l q 12 3 nx h
    rw [if_neg (by simp [hk])]
    by_cases hv : 12 < y.lev
    ·have hc2 := fun nx (h : 3 < nx) => zcS l q t 6 3 nx h ht hl.len
     have hv2 : ¬ y.lev ≤ 12 := by omega
     rw [if_pos hv]
     (refine RetX.zdC Tryz.func12 rfl (by simp) fun Γ hn hdfr hpan hesc => ?_); simp only [entry, ziC, ziN, maC, maN, oA, Tryz.ntmps12]
     rw [zdF]
     repeat' (first
  | ((first | refine zaf ?_ | refine zaj ?_ | refine zah ?_ | refine zai ?_ | fail); simp)
  | (refine zaq ?_; simp only [zap])
  | (refine CallP.okL (ho _) (by first | (simp [zaa, getK, zab, zac, zak, zaP, del]; done) | fail) (by rfl) (by rfl) ?_; (try simp [zdf, del]))
  | fail)
     refine zgo hesc hdfr rfl (by simp) ?_
     have hn0 := hn
     have hpan0 := hpan
     intro Γ' hn hpan
     simp
     repeat' (first
  | ((first | refine zaf ?_ | refine zaj ?_ | refine zah ?_ | fail); simp [hk, hv, hv2, del])
  | (refine CallP.fE (hlv) (by first | rfl | fail) (by first | simp [hk, hv, hv2, del] <;> rfl | fail) ?_; (try simp [hk, hv, hv2, del]))
  | (refine CallP.fE (hnx) (by first | rfl | fail) (by first | simp [hk, hv, hv2, del] <;> rfl | fail) ?_; (try simp [hk, hv, hv2, del]))
  | (refine CallP.ok1 (hEx) (by first | (simp [hk, hv, hv2, del, zaa, getK, zab, zac]; done) | fail) (by rfl) (by rfl) ?_; (try simp [hk, hv, hv2, del]))
  | (refine CallP.ok1 (hc1 _ (by simp)) (by first | (simp [hk, hv, hv2, del, zaa, getK, zab, zac]; done) | fail) (by rfl) (by rfl) ?_; (try simp [hk, hv, hv2, del]))
  | (refine CallP.zem (hc2 _ (by simp)) (by first | (simp [hk, hv, hv2, del, zaa, getK, zab, zac]; done) | fail) (by rfl) (by first | assumption | (simp; done) | fail) (by rfl) (by simp) ?_; rintro ob' ⟨q', rfl⟩; refine ⟨_, Wk.refl _, ?_⟩)
  | fail)
     refine hpan _ _ ?_
     refine LeaveD.of [(1, .box [.u (.int .i64 0)]), (2, .box [.u (.int .i64 0)]), (0, zkp)] (by simp [zaa, getK, zab, zac]) (ziF 1 2 0 _ (by simp) (by simp) (by simp) (by decide) (by decide) (by decide) 0 0 _ _ 0 0 0 [] .nil) ?_
     simp only [show Γ.base.n0 = 0 from hn0]
     simp [zdf, del]
     refine EndW.norm ?_
     simp [St.norm, zbh, zb3, zcs, zct]
     (refine EndW.here ?_; (first | (refine EndOK.fin (.inr rfl) ?_) | (refine EndOK.fin (.inl rfl) ?_)); simp [zaM, zag, Tryz.results12]; refine FinOK.here (by simp) ?_; try simp)
     simp [zqt, Exp.row, zdg]
    ·have hc2 := fun nx (h : 3 < nx) => zd3 l q 6 3 nx h
     have hv2 : y.lev ≤ 12 := by omega
     rw [if_neg hv]
     (refine RetX.zdC Tryz.func12 rfl (by simp) fun Γ hn hdfr hpan hesc => ?_); simp only [entry, ziC, ziN, maC, maN, oA, Tryz.ntmps12]
     rw [zdF]
     repeat' (first
  | ((first | refine zaf ?_ | refine zaj ?_ | refine zah ?_ | refine zai ?_ | fail); simp)
  | (refine zaq ?_; simp only [zap])
  | (refine CallP.okL (ho _) (by first | (simp [zaa, getK, zab, zac, zak, zaP, del]; done) | fail) (by rfl) (by rfl) ?_; (try simp [zdf, del]))
  | fail)
     refine zgo hesc hdfr rfl (by simp) ?_
     have hn0 := hn
     have hpan0 := hpan
     intro Γ' hn hpan
     simp
     repeat' (first
  | ((first | refine zaf ?_ | refine zaj ?_ | refine zah ?_ | fail); simp [hk, hv, hv2, del])
  | (refine zas ?_; simp only [zap])
  | (refine CallP.fE (hlv) (by first | rfl | fail) (by first | simp [hk, hv, hv2, del] <;> rfl | fail) ?_; (try simp [hk, hv, hv2, del]))
  | (refine CallP.fE (hnx) (by first | rfl | fail) (by first | simp [hk, hv, hv2, del] <;> rfl | fail) ?_; (try simp [hk, hv, hv2, del]))
  | (refine CallP.ok1 (hEx) (by first | (simp [hk, hv, hv2, del, zaa, getK, zab, zac]; done) | fail) (by rfl) (by rfl) ?_; (try simp [hk, hv, hv2, del]))
  | (refine CallP.ok1 (hc1 _ (by simp)) (by first | (simp [hk, hv, hv2, del, zaa, getK, zab, zac]; done) | fail) (by rfl) (by rfl) ?_; (try simp [hk, hv, hv2, del]))
  | (refine CallP.ok1 (hc2 _ (by simp)) (by first | (simp [hk, hv, hv2, del, zaa, getK, zab, zac]; done) | fail) (by rfl) (by rfl) ?_; (try simp [hk, hv, hv2, del]))
  | fail)
     refine ⟨rfl, ?_⟩
     refine LeaveD.of [(1, .box [.u (.int .i64 0)]), (2, .box [.u (.int .i64 0)]), (0, .box ([.int .i64 y.op, .int .i64 y.n, .int .i64 y.unit, .str y.s, .sl (y.args.map Exp.row)].map .u))] (by simp [zaa, getK, zab, zac]) (zpp 1 2 0 _ (by simp) (by simp) (by simp) (by decide) (by decide) (by decide) 0 0 _) ?_
     simp only [show Γ.base.n0 = 0 from hn0]
     simp [zdf, del]
     (refine EndW.here ?_; (first | (refine EndOK.fin (.inr rfl) ?_) | (refine EndOK.fin (.inl rfl) ?_)); simp [zaM, zag, Tryz.results12]; refine FinOK.here (by simp) ?_; try simp)
     simp [zqt, Exp.row_eq]
   ·have hc1 := fun nx (h : 3 < nx) => zcS l q t 12 3 nx h ht hl.len
    rw [if_pos hk]
    (refine RetX.zdC Tryz.func12 rfl (by simp) fun Γ hn hdfr hpan hesc => ?_); simp only [entry, ziC, ziN, maC, maN, oA, Tryz.ntmps12]
    rw [zdF]
    repeat' (first
  | ((first | refine zaf ?_ | refine zaj ?_ | refine zah ?_ | refine zai ?_ | fail); simp)
  | (refine zaq ?_; simp only [zap])
  | (refine CallP.okL (ho _) (by first | (simp [zaa, getK, zab, zac, zak, zaP, del]; done) | fail) (by rfl) (by rfl) ?_; (try simp [zdf, del]))
  | fail)
    refine zgo hesc hdfr rfl (by simp) ?_
    have hn0 := hn
    have hpan0 := hpan
    intro Γ' hn hpan
    simp
    repeat' (first
  | ((first | refine zaf ?_ | refine zaj ?_ | refine zah ?_ | fail); simp [hk, del])
  | (refine CallP.fE (hnx) (by first | rfl | fail) (by first | simp [hk, del] <;> rfl | fail) ?_; (try simp [hk, del]))
  | (refine CallP.ok1 (hEx) (by first | (simp [hk, del, zaa, getK, zab, zac]; done) | fail) (by rfl) (by rfl) ?_; (try simp [hk, del]))
  | (refine CallP.zem (hc1 _ (by simp)) (by first | (simp [hk, del, zaa, getK, zab, zac]; done) | fail) (by rfl) (by first | assumption | (simp; done) | fail) (by rfl) (by simp) ?_; rintro ob' ⟨q', rfl⟩; refine ⟨_, Wk.refl _, ?_⟩)
  | fail)
    refine hpan _ _ ?_
    refine LeaveD.of [(1, .box [.u (.int .i64 0)]), (2, .box [.u (.int .i64 0)]), (0, zkp)] (by simp [zaa, getK, zab, zac]) (ziF 1 2 0 _ (by simp) (by simp) (by simp) (by decide) (by decide) (by decide) 0 0 _ _ 0 0 0 [] .nil) ?_
    simp only [show Γ.base.n0 = 0 from hn0]
    simp [zdf, del]
    refine EndW.norm ?_
    simp [St.norm, zbh, zb3, zcs, zct]
    (refine EndW.here ?_; (first | (refine EndOK.fin (.inr rfl) ?_) | (refine EndOK.fin (.inl rfl) ?_)); simp [zaM, zag, Tryz.results12]; refine FinOK.here (by simp) ?_; try simp)
    simp [zqt, Exp.row, zdg]
theorem zbR (s : List UInt8) : Fun Tryz.prog 12 [.u (.str s)] (· = .tup [zgB (zcj s).1, .u (.int .i64 (zcj s).2.1), .u (.int .i64 (zcj s).2.2)]) := by
 unfold Fun
 exact (zjR s).ret (fun d o n h => by
  cases h
  refine ⟨by simp [zqt, zau], ?_⟩
  rw [zqt, Exp.row_eq]
  rfl) (fun ch o n h => by cases h)
theorem zmO (l : List Tok) (p : Nat) (a b : Int) (i nx : Nat) (hi : i < nx) (hp : p < l.length) (hl : TokOK l) :
  RetX Tryz.prog 128 [.ptr i 0, ziU a, ziU b] [(i, pOb l p)] nx (PPost l i nx ziU (znu l p a b)) := by
 have hne := zaB hi
 obtain ⟨t, ht⟩ : ∃ t, l[p]? = some t := ⟨_, List.getElem?_eq_getElem hp⟩
 have hnx := zbL l p t ht hl.len
 have hll := hl.len
 have hc1 := fun e nx' (h : nx ≤ nx') => zd3 l p e i nx' (by omega)
 have hc2 := fun e nx' (h : nx ≤ nx') => zcS l p t e i nx' (by omega) ht hl.len
 rw [znu, ht]
 by_cases hk2 : t.kind = 2
 ·simp only [hk2, if_true]
  by_cases h1 : a ≤ t.n
  ·by_cases h2 : t.n ≤ b
   ·simp only [h1, h2, and_self, if_true]
    (refine RetX.of_bodyW Tryz.func128 rfl (by simp) fun Γ hn hpan => ?_); simp only [entry, ziC, ziN, maC, maN, oA, Tryz.ntmps128]
    repeat' (first
  | ((first | refine zaf ?_ | refine zaj ?_ | fail); simp [hne, hk2, h1, h2, del])
  | (refine ⟨by omega, ?_⟩)
  | (refine zah ?_; simp [hne, hk2, h1, h2, del])
  | (refine zas ?_; simp only [zap])
  | (refine CallP.fE (hnx) (by first | rfl | fail) (by first | simp [hne, hk2, h1, h2, del] <;> rfl | fail) ?_; (try simp [hne, hk2, h1, h2, del]))
  | (refine CallP.ok1 (hc1 _ _ (by first | omega | simp <;> omega | fail)) (by first | (simp [hne, hk2, h1, h2, del, zaa, getK, zab, zac]; done) | fail) (by rfl) (by rfl) ?_; (try simp [hne, hk2, h1, h2, del]))
  | fail)
    (refine EndW.here ?_; (first | (refine EndOK.fin (.inr rfl) ?_) | (refine EndOK.fin (.inl rfl) ?_)); simp [zaM, zag, Tryz.results128, hne, hi]; refine FinOK.cut [(i, pOb l (p + 1))] (nx) (by simp [zaa, getK, zab, zac, Ob.under, D.under, zad, zae, hne, hi] <;> omega) (by simp [D.under]) (by simp [hn]) ?_; try simp)
    exact PPost.zcr rfl rfl rfl
   ·simp only [h1, h2, and_false, if_false]
    (refine RetX.of_bodyW Tryz.func128 rfl (by simp) fun Γ hn hpan => ?_); simp only [entry, ziC, ziN, maC, maN, oA, Tryz.ntmps128]
    repeat' (first
  | ((first | refine zaf ?_ | refine zaj ?_ | refine zah ?_ | fail); simp [hne, hk2, h1, h2, del])
  | (refine CallP.fE (hnx) (by first | rfl | fail) (by first | simp [hne, hk2, h1, h2, del] <;> rfl | fail) ?_; (try simp [hne, hk2, h1, h2, del]))
  | (refine CallP.ok1 (hc1 _ _ (by first | omega | simp <;> omega | fail)) (by first | (simp [hne, hk2, h1, h2, del, zaa, getK, zab, zac]; done) | fail) (by rfl) (by rfl) ?_; (try simp [hne, hk2, h1, h2, del]))
  | (refine CallP.zem (hc2 _ _ (by first | omega | simp <;> omega | fail)) (by first | (simp [hne, hk2, h1, h2, del, zaa, getK, zab, zac]; done) | fail) (by rfl) (by first | assumption | (simp; done) | fail) (by rfl) (by simp) ?_; rintro ob' ⟨q', rfl⟩; refine ⟨_, Wk.refl _, ?_⟩)
  | fail)
    (refine hpan _ _ ⟨{ n := _, env := [], obs := [(i, pOb l q')], next := nx }, (Wk.cut rfl (by simp [hn]) (by simp [wkO, zaa, getK, zab, zac, Ob.under, D.under, zad, zae, hi, hne, zab, zac, zaa, getK]) (by simp [wkU, zan, zaa, getK, D.under, hi, hne, zab, zac, zaa, getK]) (by simp [wkE, zan, zaa, getK, hi, hne, zab, zac, zaa, getK])), by simp [hn], ?_⟩; try simp)
    exact PPost.zax (by simp [PR.bind, *])
  ·simp only [h1, false_and, if_false]
   (refine RetX.of_bodyW Tryz.func128 rfl (by simp) fun Γ hn hpan => ?_); simp only [entry, ziC, ziN, maC, maN, oA, Tryz.ntmps128]
   repeat' (first
  | ((first | refine zaf ?_ | refine zaj ?_ | refine zah ?_ | fail); simp [hne, hk2, h1, del])
  | (refine CallP.fE (hnx) (by first | rfl | fail) (by first | simp [hne, hk2, h1, del] <;> rfl | fail) ?_; (try simp [hne, hk2, h1, del]))
  | (refine CallP.ok1 (hc1 _ _ (by first | omega | simp <;> omega | fail)) (by first | (simp [hne, hk2, h1, del, zaa, getK, zab, zac]; done) | fail) (by rfl) (by rfl) ?_; (try simp [hne, hk2, h1, del]))
  | (refine CallP.zem (hc2 _ _ (by first | omega | simp <;> omega | fail)) (by first | (simp [hne, hk2, h1, del, zaa, getK, zab, zac]; done) | fail) (by rfl) (by first | assumption | (simp; done) | fail) (by rfl) (by simp) ?_; rintro ob' ⟨q', rfl⟩; refine ⟨_, Wk.refl _, ?_⟩)
  | fail)
   (refine hpan _ _ ⟨{ n := _, env := [], obs := [(i, pOb l q')], next := nx }, (Wk.cut rfl (by simp [hn]) (by simp [wkO, zaa, getK, zab, zac, Ob.under, D.under, zad, zae, hi, hne, zab, zac, zaa, getK]) (by simp [wkU, zan, zaa, getK, D.under, hi, hne, zab, zac, zaa, getK]) (by simp [wkE, zan, zaa, getK, hi, hne, zab, zac, zaa, getK])), by simp [hn], ?_⟩; try simp)
   exact PPost.zax (by simp [PR.bind, *])
 ·simp only [hk2, if_false]
  (refine RetX.of_bodyW Tryz.func128 rfl (by simp) fun Γ hn hpan => ?_); simp only [entry, ziC, ziN, maC, maN, oA, Tryz.ntmps128]
  repeat' (first
  | ((first | refine zaf ?_ | refine zaj ?_ | refine zah ?_ | fail); simp [hne, hk2, del])
  | (refine CallP.fE (hnx) (by first | rfl | fail) (by first | simp [hne, hk2, del] <;> rfl | fail) ?_; (try simp [hne, hk2, del]))
  | (refine CallP.zem (hc2 _ _ (by first | omega | simp <;> omega | fail)) (by first | (simp [hne, hk2, del, zaa, getK, zab, zac]; done) | fail) (by rfl) (by first | assumption | (simp; done) | fail) (by rfl) (by simp) ?_; rintro ob' ⟨q', rfl⟩; refine ⟨_, Wk.refl _, ?_⟩)
  | fail)
  (refine hpan _ _ ⟨{ n := _, env := [], obs := [(i, pOb l q')], next := nx }, (Wk.cut rfl (by simp [hn]) (by simp [wkO, zaa, getK, zab, zac, Ob.under, D.under, zad, zae, hi, hne, zab, zac, zaa, getK]) (by simp [wkU, zan, zaa, getK, D.under, hi, hne, zab, zac, zaa, getK]) (by simp [wkE, zan, zaa, getK, hi, hne, zab, zac, zaa, getK])), by simp [hn], ?_⟩; try simp)
  exact PPost.zax (by simp [PR.bind, *])
theorem zn5 {l : List Tok} (hl : TokOK l) {p q : Nat} {a b n : Int} (h : znu l p a b = .ok n q) : p ≤ q ∧ q < l.length := by
 unfold znu at h
 split at h
 ·cases h
 ·rename_i t ht
  split at h
  ·rename_i hk2
   split at h
   ·cases h
    exact ⟨by omega, hl.fin p t ht (by omega)⟩
   ·cases h
  ·cases h
theorem zdX (l : List Tok) (p : Nat) (w : List UInt8) (a b : Int) (ws : List (List UInt8)) (i nx : Nat) (hi : i < nx) (hp : p < l.length) (hl : TokOK l) (hw : ws.length ≤ 100) :
  RetX Tryz.prog 80 [.ptr i 0, .u (.str w), ziU a, ziU b, .u (.sl (ws.map fun w => [.str w]))] [(i, pOb l p)] nx (PPost l i nx ziU (zcN l p w a b ws)) := by
 have hne := zaB hi
 have hh1 := fun nx' (h : nx ≤ nx') => za9 l p w i nx' (by omega) hp hl.len
 rw [zcN]
 cases hb : isB l p w with
 | false =>
  simp only [hb, Bool.false_eq_true, if_false] at hh1 ⊢
  (refine RetX.of_bodyW Tryz.func80 rfl (by simp) fun Γ hn hpan => ?_); simp only [entry, ziC, ziN, maC, maN, oA, Tryz.ntmps80]
  repeat' (first
  | ((first | refine zaf ?_ | refine zaj ?_ | refine zah ?_ | refine zai ?_ | fail); simp [hne, del])
  | (refine zas ?_; simp only [zap])
  | (refine CallP.ok1 (hh1 _ (by first | omega | simp <;> omega | fail)) (by first | (simp [hne, del, zaa, getK, zab, zac]; done) | fail) (by rfl) (by rfl) ?_; (try simp [hne, del]))
  | fail)
  (refine EndW.here ?_; (first | (refine EndOK.fin (.inr rfl) ?_) | (refine EndOK.fin (.inl rfl) ?_)); simp [zaM, zag, Tryz.results80, hne, hi]; refine FinOK.cut [(i, pOb l p)] (nx) (by simp [zaa, getK, zab, zac, Ob.under, D.under, zad, zae, hne, hi] <;> omega) (by simp [D.under]) (by simp [hn]) ?_; try simp)
  exact PPost.zcr rfl rfl rfl
 | true =>
  have hp2 := za1 hl hb
  simp only [hb, if_true] at hh1 ⊢
  have hn1 := fun nx' (h : nx ≤ nx') => zmO l (p + 1) a b i nx' (by omega) hp2 hl
  cases hr0 : znu l (p + 1) a b with
  | stop pos e =>
   simp only [hr0] at hn1
   (refine RetX.of_bodyW Tryz.func80 rfl (by simp) fun Γ hn hpan => ?_); simp only [entry, ziC, ziN, maC, maN, oA, Tryz.ntmps80]
   repeat' (first
  | ((first | refine zaf ?_ | refine zaj ?_ | refine zah ?_ | refine zai ?_ | fail); simp [hne, del])
  | (refine zaq ?_; simp only [zap])
  | (refine CallP.ok1 (hh1 _ (by first | omega | simp <;> omega | fail)) (by first | (simp [hne, del, zaa, getK, zab, zac]; done) | fail) (by rfl) (by rfl) ?_; (try simp [hne, del]))
  | (refine CallP.zem (hn1 _ (by first | omega | simp <;> omega | fail)) (by first | (simp [hne, del, zaa, getK, zab, zac]; done) | fail) (by rfl) (by first | assumption | (simp; done) | fail) (by rfl) (by simp) ?_; rintro ob' ⟨q', rfl⟩; refine ⟨_, Wk.refl _, ?_⟩)
  | fail)
   (refine hpan _ _ ⟨{ n := _, env := [], obs := [(i, pOb l q')], next := nx }, (Wk.cut rfl (by simp [hn]) (by simp [wkO, zaa, getK, zab, zac, Ob.under, D.under, zad, zae, hi, hne, zab, zac, zaa, getK]) (by simp [wkU, zan, zaa, getK, D.under, hi, hne, zab, zac, zaa, getK]) (by simp [wkE, zan, zaa, getK, hi, hne, zab, zac, zaa, getK])), by simp [hn], ?_⟩; try simp)
   exact PPost.zax (by simp [PR.bind, *])
  | ok n q0 =>
   simp only [hr0] at hn1
   obtain ⟨g0a, g0b⟩ := zn5 hl hr0
   have hw1 := fun nx' (h : nx ≤ nx') => zir l q0 ws i nx' (by omega) g0b hl hw
   cases hr1 : zbj l q0 ws with
   | stop pos e =>
    simp only [hr1] at hw1
    (refine RetX.of_bodyW Tryz.func80 rfl (by simp) fun Γ hn hpan => ?_); simp only [entry, ziC, ziN, maC, maN, oA, Tryz.ntmps80]
    repeat' (first
  | ((first | refine zaf ?_ | refine zaj ?_ | refine zah ?_ | refine zai ?_ | fail); simp [hne, del])
  | (refine zaq ?_; simp only [zap])
  | (refine CallP.ok1 (hh1 _ (by first | omega | simp <;> omega | fail)) (by first | (simp [hne, del, zaa, getK, zab, zac]; done) | fail) (by rfl) (by rfl) ?_; (try simp [hne, del]))
  | (refine CallP.ok1 (hn1 _ (by first | omega | simp <;> omega | fail)) (by first | (simp [hne, del, zaa, getK, zab, zac]; done) | fail) (by rfl) (by rfl) ?_; (try simp [hne, del]))
  | (refine CallP.zem (hw1 _ (by first | omega | simp <;> omega | fail)) (by first | (simp [hne, del, zaa, getK, zab, zac]; done) | fail) (by rfl) (by first | assumption | (simp; done) | fail) (by rfl) (by simp) ?_; rintro ob' ⟨q', rfl⟩; refine ⟨_, Wk.refl _, ?_⟩)
  | fail)
    (refine hpan _ _ ⟨{ n := _, env := [], obs := [(i, pOb l q')], next := nx }, (Wk.cut rfl (by simp [hn]) (by simp [wkO, zaa, getK, zab, zac, Ob.under, D.under, zad, zae, hi, hne, zab, zac, zaa, getK]) (by simp [wkU, zan, zaa, getK, D.under, hi, hne, zab, zac, zaa, getK]) (by simp [wkE, zan, zaa, getK, hi, hne, zab, zac, zaa, getK])), by simp [hn], ?_⟩; try simp)
    exact PPost.zax (by simp [PR.bind, *])
   | ok u q =>
    simp only [hr1] at hw1
    (refine RetX.of_bodyW Tryz.func80 rfl (by simp) fun Γ hn hpan => ?_); simp only [entry, ziC, ziN, maC, maN, oA, Tryz.ntmps80]
    repeat' (first
  | ((first | refine zaf ?_ | refine zaj ?_ | refine zah ?_ | refine zai ?_ | fail); simp [hne, del])
  | ((first | refine zas ?_ | refine zaq ?_ | fail); simp only [zap])
  | (refine CallP.ok1 (hh1 _ (by first | omega | simp <;> omega | fail)) (by first | (simp [hne, del, zaa, getK, zab, zac]; done) | fail) (by rfl) (by rfl) ?_; (try simp [hne, del]))
  | (refine CallP.ok1 (hn1 _ (by first | omega | simp <;> omega | fail)) (by first | (simp [hne, del, zaa, getK, zab, zac]; done) | fail) (by rfl) (by rfl) ?_; (try simp [hne, del]))
  | (refine CallP.ok1 (hw1 _ (by first | omega | simp <;> omega | fail)) (by first | (simp [hne, del, zaa, getK, zab, zac]; done) | fail) (by rfl) (by rfl) ?_; (try simp [hne, del]))
  | fail)
    (refine EndW.here ?_; (first | (refine EndOK.fin (.inr rfl) ?_) | (refine EndOK.fin (.inl rfl) ?_)); simp [zaM, zag, Tryz.results80, hne, hi]; refine FinOK.cut [(i, pOb l q)] (nx) (by simp [zaa, getK, zab, zac, Ob.under, D.under, zad, zae, hne, hi] <;> omega) (by simp [D.under]) (by simp [hn]) ?_; try simp)
    exact PPost.zcr (by simp [PR.bind, *]) rfl rfl
theorem zbI {l : List Tok} (hl : TokOK l) {p q : Nat} {w : List UInt8} {a b n : Int} {ws : List (List UInt8)} (h : zcN l p w a b ws = .ok n q) (hp : p < l.length) : p ≤ q ∧ q < l.length := by
 unfold zcN at h
 split at h
 ·obtain ⟨m, r, h1, h⟩ := PR.zao h
  have g1 := zn5 hl h1
  obtain ⟨m2, r2, h2, h⟩ := PR.zao h
  have g2 := zaO hl _ h2 g1.2
  cases h
  exact ⟨by omega, g2.2⟩
 ·cases h; exact ⟨by omega, hp⟩
theorem zgT (l : List Tok) (p : Nat) (i nx : Nat) (hi : i < nx) (hp : p < l.length) (hl : TokOK l) (hl2 : l.length ≤ 2001) :
  RetX Tryz.prog 84 [.ptr i 0] [(i, pOb l p)] nx (PPost l i nx zeI (zcX l p)) := by
 have hne := zaB hi
 have hll := hl.len
 rw [zcX]
 have hE := fun nx' (h : nx ≤ nx') => (zjO hl (4 * l.length + 3)).1 p 0 i nx' (by omega) hp (by omega) (by omega) (by omega)
 cases hr : zcC l (4 * l.length + 3) p 0 with
 | stop pos e =>
  simp only [hr] at hE
  (refine RetX.of_bodyW Tryz.func84 rfl (by simp) fun Γ hn hpan => ?_); simp only [entry, ziC, ziN, maC, maN, oA, Tryz.ntmps84]
  repeat' (first
  | ((first | refine zaf ?_ | refine zaj ?_ | refine zah ?_ | fail); simp [hne, del])
  | (refine CallP.zem (hE _ (by first | omega | simp <;> omega | fail)) (by first | (simp [hne, del, zaa, getK, zab, zac]; done) | fail) (by rfl) (by first | assumption | (simp; done) | fail) (by rfl) (by simp) ?_; rintro ob' ⟨q', rfl⟩; refine ⟨_, Wk.refl _, ?_⟩)
  | fail)
  (refine hpan _ _ ⟨{ n := _, env := [], obs := [(i, pOb l q')], next := nx }, (Wk.cut rfl (by simp [hn]) (by simp [wkO, zaa, getK, zab, zac, Ob.under, D.under, zad, zae, hi, hne, zab, zac, zaa, getK]) (by simp [wkU, zan, zaa, getK, D.under, hi, hne, zab, zac, zaa, getK]) (by simp [wkE, zan, zaa, getK, hi, hne, zab, zac, zaa, getK])), by simp [hn], ?_⟩; try simp)
  exact PPost.zax (by simp [PR.bind, *])
 | ok y q =>
  have hEx := fun nx' h => zc0 (hE nx' h) hr
  obtain ⟨g0a, g0b⟩ := (zbJ hl _).1 _ _ _ _ hr hp
  have hlev := (zg8 (l := l) _).1 _ _ _ _ hr
  have hlev2 : y.lev ≤ 1000000000 := by
   have h1 : ((4 * l.length + 3 : Nat) : Int) * ((4 * l.length + 3 : Nat) : Int) ≤ 8007 * 8007 := Int.mul_le_mul (by omega) (by omega) (by omega) (by omega)
   omega
  have hlv := zh8 (SizeOf.sizeOf y) y (Nat.le_refl _) hlev2
  rw [Exp.row_eq] at hlv
  obtain ⟨t, ht⟩ : ∃ t, l[q]? = some t := ⟨_, List.getElem?_eq_getElem g0b⟩
  have his := zdY l q [59] g0b hl.len
  have hpa : zco l q = t.pos := by unfold zco; rw [ht]
  have hc1 := fun e nx' (h : nx ≤ nx') => zd3 l q e i nx' (by omega)
  have hc2 := fun e nx' (h : nx ≤ nx') => zcS l q t e i nx' (by omega) ht hl.len
  rw [PR.zav, hpa]
  cases hb : isB l q [59] with
  | false =>
   simp only [hb, Bool.false_eq_true, if_false] at his ⊢
   (refine RetX.of_bodyW Tryz.func84 rfl (by simp) fun Γ hn hpan => ?_); simp only [entry, ziC, ziN, maC, maN, oA, Tryz.ntmps84]
   repeat' (first
  | ((first | refine zaf ?_ | refine zaj ?_ | refine zah ?_ | fail); simp [hne, del])
  | (refine CallP.fE (his) (by first | rfl | fail) (by first | simp [hne, del] <;> rfl | fail) ?_; (try simp [hne, del]))
  | (refine CallP.ok1 (hEx _ (by first | omega | simp <;> omega | fail)) (by first | (simp [hne, del, zaa, getK, zab, zac]; done) | fail) (by rfl) (by rfl) ?_; (try simp [hne, del]))
  | (refine CallP.zem (hc2 _ _ (by first | omega | simp <;> omega | fail)) (by first | (simp [hne, del, zaa, getK, zab, zac]; done) | fail) (by rfl) (by first | assumption | (simp; done) | fail) (by rfl) (by simp) ?_; rintro ob' ⟨q', rfl⟩; refine ⟨_, Wk.refl _, ?_⟩)
  | fail)
   (refine hpan _ _ ⟨{ n := _, env := [], obs := [(i, pOb l q')], next := nx }, (Wk.cut rfl (by simp [hn]) (by simp [wkO, zaa, getK, zab, zac, Ob.under, D.under, zad, zae, hi, hne, zab, zac, zaa, getK]) (by simp [wkU, zan, zaa, getK, D.under, hi, hne, zab, zac, zaa, getK]) (by simp [wkE, zan, zaa, getK, hi, hne, zab, zac, zaa, getK])), by simp [hn], ?_⟩; try simp)
   exact PPost.zax (by simp [PR.bind, *])
  | true =>
   have hq2 := za1 hl hb
   simp only [hb, if_true] at his ⊢
   by_cases hv : y.lev ≤ 12
   ·simp only [hv, if_true]
    (refine RetX.of_bodyW Tryz.func84 rfl (by simp) fun Γ hn hpan => ?_); simp only [entry, ziC, ziN, maC, maN, oA, Tryz.ntmps84]
    repeat' (first
  | ((first | refine zaf ?_ | refine zaj ?_ | fail); simp [hne, del, hv])
  | (refine ⟨by omega, ?_⟩)
  | (refine zah ?_; simp [hne, del, hv])
  | (refine zas ?_; simp only [zap])
  | (refine CallP.fE (his) (by first | rfl | fail) (by first | simp [hne, del, hv] <;> rfl | fail) ?_; (try simp [hne, del, hv]))
  | (refine CallP.fE (hlv) (by first | rfl | fail) (by first | simp [hne, del, hv] <;> rfl | fail) ?_; (try simp [hne, del, hv]))
  | (refine CallP.ok1 (hEx _ (by first | omega | simp <;> omega | fail)) (by first | (simp [hne, del, hv, zaa, getK, zab, zac]; done) | fail) (by rfl) (by rfl) ?_; (try simp [hne, del, hv]))
  | (refine CallP.ok1 (hc1 _ _ (by first | omega | simp <;> omega | fail)) (by first | (simp [hne, del, hv, zaa, getK, zab, zac]; done) | fail) (by rfl) (by rfl) ?_; (try simp [hne, del, hv]))
  | fail)
    refine EndW.norm ?_
    simp [St.norm, zbh, zb3, zcs, zct, hne, nAA]
    (refine EndW.here ?_; (first | (refine EndOK.fin (.inr rfl) ?_) | (refine EndOK.fin (.inl rfl) ?_)); simp [zaM, zag, Tryz.results84, hne, hi]; refine FinOK.cut [(i, pOb l (q + 1))] (nx) (by simp [zaa, getK, zab, zac, Ob.under, D.under, zad, zae, hne, hi] <;> omega) (by simp [D.under]) (by simp [hn]) ?_; try simp)
    exact PPost.zcr rfl (by simp [Exp.row_eq]) rfl
   ·simp only [hv, if_false]
    (refine RetX.of_bodyW Tryz.func84 rfl (by simp) fun Γ hn hpan => ?_); simp only [entry, ziC, ziN, maC, maN, oA, Tryz.ntmps84]
    repeat' (first
  | ((first | refine zaf ?_ | refine zaj ?_ | refine zah ?_ | fail); simp [hne, del, hv])
  | (refine CallP.fE (his) (by first | rfl | fail) (by first | simp [hne, del, hv] <;> rfl | fail) ?_; (try simp [hne, del, hv]))
  | (refine CallP.fE (hlv) (by first | rfl | fail) (by first | simp [hne, del, hv] <;> rfl | fail) ?_; (try simp [hne, del, hv]))
  | (refine CallP.ok1 (hEx _ (by first | omega | simp <;> omega | fail)) (by first | (simp [hne, del, hv, zaa, getK, zab, zac]; done) | fail) (by rfl) (by rfl) ?_; (try simp [hne, del, hv]))
  | (refine CallP.ok1 (hc1 _ _ (by first | omega | simp <;> omega | fail)) (by first | (simp [hne, del, hv, zaa, getK, zab, zac]; done) | fail) (by rfl) (by rfl) ?_; (try simp [hne, del, hv]))
  | (refine CallP.zem (hc2 _ _ (by first | omega | simp <;> omega | fail)) (by first | (simp [hne, del, hv, zaa, getK, zab, zac]; done) | fail) (by rfl) (by first | assumption | (simp; done) | fail) (by rfl) (by simp) ?_; rintro ob' ⟨q', rfl⟩; refine ⟨_, Wk.refl _, ?_⟩)
  | fail)
    (refine hpan _ _ ⟨{ n := _, env := [], obs := [(i, pOb l q')], next := nx }, (Wk.cut rfl (by simp [hn]) (by simp [wkO, zaa, getK, zab, zac, Ob.under, D.under, zad, zae, hi, hne, zab, zac, zaa, getK]) (by simp [wkU, zan, zaa, getK, D.under, hi, hne, zab, zac, zaa, getK]) (by simp [wkE, zan, zaa, getK, hi, hne, zab, zac, zaa, getK])), by simp [hn], ?_⟩; try simp)
    exact PPost.zax (by simp [PR.bind, *])
theorem zea {l : List Tok} (hl : TokOK l) {p q : Nat} {e : Exp} (h : zcX l p = .ok e q) (hp : p < l.length) : p ≤ q ∧ q < l.length := by
 unfold zcX at h
 obtain ⟨y, r, h1, h⟩ := PR.zao h
 have g1 := (zbJ hl _).1 _ _ _ _ h1 hp
 split at h
 ·rename_i hb
  split at h
  ·cases h
   exact ⟨by omega, za1 hl hb⟩
  ·cases h
 ·cases h
theorem zhc : Fun Tryz.prog 58 [] (· = .u (.agg nothingE.row)) := by
 simp only [nothingE, Exp.row, List.map_nil]
 (refine Fun.of_bodyW Tryz.func58 rfl (by simp) fun Γ hn => ?_); simp only [entry, ziC, ziN, maC, maN, oA, Tryz.ntmps58]
 repeat' (first
  | ((first | refine zaf ?_ | refine zaj ?_ | refine zah ?_ | fail); simp)
  | (refine zas ?_; simp only [zap])
  | fail)
 refine EndW.norm ?_
 simp [St.norm, zbh, zb3, zcs, zct]
 refine EndW.here ?_
 (refine EndOK.val (.inr rfl) ?_; simp [zaM, zag, zau, Tryz.results58])
theorem ze8 (l : List Tok) (p : Nat) (w : List UInt8) (i nx : Nat) (hi : i < nx) (hp : p < l.length) (hl : TokOK l) (hl2 : l.length ≤ 2001) :
  RetX Tryz.prog 85 [.ptr i 0, .u (.str w)] [(i, pOb l p)] nx (PPost l i nx zeI (zcm l p w)) := by
 have hne := zaB hi
 have hh1 := fun nx' (h : nx ≤ nx') => za9 l p w i nx' (by omega) hp hl.len
 rw [zcm]
 cases hb : isB l p w with
 | false =>
  have h0 := zhc
  simp only [nothingE, Exp.row, List.map_nil] at h0
  simp only [hb, Bool.false_eq_true, if_false] at hh1 ⊢
  (refine RetX.of_bodyW Tryz.func85 rfl (by simp) fun Γ hn hpan => ?_); simp only [entry, ziC, ziN, maC, maN, oA, Tryz.ntmps85]
  repeat' (first
  | ((first | refine zaf ?_ | refine zaj ?_ | refine zah ?_ | refine zai ?_ | fail); simp [hne, del])
  | ((first | refine zas ?_ | refine zaq ?_ | fail); simp only [zap])
  | (refine CallP.fE (h0) (by first | rfl | fail) (by first | simp [hne, del] <;> rfl | fail) ?_; (try simp [hne, del]))
  | (refine CallP.ok1 (hh1 _ (by first | omega | simp <;> omega | fail)) (by first | (simp [hne, del, zaa, getK, zab, zac]; done) | fail) (by rfl) (by rfl) ?_; (try simp [hne, del]))
  | fail)
  refine EndW.norm ?_
  simp [St.norm, zbh, zb3, zcs, zct, hne, nAA]
  (refine EndW.here ?_; (first | (refine EndOK.fin (.inr rfl) ?_) | (refine EndOK.fin (.inl rfl) ?_)); simp [zaM, zag, Tryz.results85, hne, hi]; refine FinOK.cut [(i, pOb l p)] (nx) (by simp [zaa, getK, zab, zac, Ob.under, D.under, zad, zae, hne, hi] <;> omega) (by simp [D.under]) (by simp [hn]) ?_; try simp)
  exact PPost.zcr rfl (by simp [nothingE, Exp.row]) rfl
 | true =>
  have hp2 := za1 hl hb
  simp only [hb, if_true] at hh1 ⊢
  have hn1 := fun nx' (h : nx ≤ nx') => zgT l (p + 1) i nx' (by omega) hp2 hl hl2
  cases hr0 : zcX l (p + 1) with
  | stop pos e =>
   simp only [hr0] at hn1
   (refine RetX.of_bodyW Tryz.func85 rfl (by simp) fun Γ hn hpan => ?_); simp only [entry, ziC, ziN, maC, maN, oA, Tryz.ntmps85]
   repeat' (first
  | ((first | refine zaf ?_ | refine zaj ?_ | refine zah ?_ | refine zai ?_ | fail); simp [hne, del])
  | (refine CallP.ok1 (hh1 _ (by first | omega | simp <;> omega | fail)) (by first | (simp [hne, del, zaa, getK, zab, zac]; done) | fail) (by rfl) (by rfl) ?_; (try simp [hne, del]))
  | (refine CallP.zem (hn1 _ (by first | omega | simp <;> omega | fail)) (by first | (simp [hne, del, zaa, getK, zab, zac]; done) | fail) (by rfl) (by first | assumption | (simp; done) | fail) (by rfl) (by simp) ?_; rintro ob' ⟨q', rfl⟩; refine ⟨_, Wk.refl _, ?_⟩)
  | fail)
   (refine hpan _ _ ⟨{ n := _, env := [], obs := [(i, pOb l q')], next := nx }, (Wk.cut rfl (by simp [hn]) (by simp [wkO, zaa, getK, zab, zac, Ob.under, D.under, zad, zae, hi, hne, zab, zac, zaa, getK]) (by simp [wkU, zan, zaa, getK, D.under, hi, hne, zab, zac, zaa, getK]) (by simp [wkE, zan, zaa, getK, hi, hne, zab, zac, zaa, getK])), by simp [hn], ?_⟩; try simp)
   exact PPost.zax (by simp [PR.bind, *])
  | ok n q0 =>
   have hn1 := fun nx' h => zc0 (hn1 nx' h) hr0
   (refine RetX.of_bodyW Tryz.func85 rfl (by simp) fun Γ hn hpan => ?_); simp only [entry, ziC, ziN, maC, maN, oA, Tryz.ntmps85]
   repeat' (first
  | ((first | refine zaf ?_ | refine zaj ?_ | refine zah ?_ | refine zai ?_ | fail); simp [hne, del])
  | (refine zas ?_; simp only [zap])
  | (refine CallP.ok1 (hh1 _ (by first | omega | simp <;> omega | fail)) (by first | (simp [hne, del, zaa, getK, zab, zac]; done) | fail) (by rfl) (by rfl) ?_; (try simp [hne, del]))
  | (refine CallP.ok1 (hn1 _ (by first | omega | simp <;> omega | fail)) (by first | (simp [hne, del, zaa, getK, zab, zac]; done) | fail) (by rfl) (by rfl) ?_; (try simp [hne, del]))
  | fail)
   refine EndW.norm ?_
   simp [St.norm, zbh, zb3, zcs, zct, hne, nAA]
   (refine EndW.here ?_; (first | (refine EndOK.fin (.inr rfl) ?_) | (refine EndOK.fin (.inl rfl) ?_)); simp [zaM, zag, Tryz.results85, hne, hi]; refine FinOK.cut [(i, pOb l q0)] (nx) (by simp [zaa, getK, zab, zac, Ob.under, D.under, zad, zae, hne, hi] <;> omega) (by simp [D.under]) (by simp [hn]) ?_; try simp)
   exact PPost.zcr rfl (by simp [Exp.row_eq]) rfl
theorem zcI {l : List Tok} (hl : TokOK l) {p q : Nat} {w : List UInt8} {e : Exp} (h : zcm l p w = .ok e q) (hp : p < l.length) : p ≤ q ∧ q < l.length := by
 unfold zcm at h
 split at h
 ·rename_i hb
  have := zea hl h (za1 hl hb)
  exact ⟨by omega, this.2⟩
 ·cases h; exact ⟨by omega, hp⟩
/-- The objects of Print: the variable of the closure line, the builder, and its bytes. -/
abbrev zca : Ob := .box [.fnc (.func 52) [.ptr 1 0]]
abbrev zdp (j : Nat) (l : W8) : Ob := .box [.ptr 1 0, .vec j l.length]
abbrev zdo (l : W8) : Ob := .vec u8T 1 (zcu l)
/-- What a line's writing leaves. -/
def zrS (j nx : Nat) (T : W8) (d : D) (o : List (Nat × Ob)) (n : Nat) : Prop := d = .tup [] ∧ ∃ j', 3 ≤ j' ∧ j' < n ∧ nx ≤ n ∧ o = [(2, zca), (1, zdp j' T), (j', zdo T)]
def zb1 (w : W8) (n : Int) (ws : List W8) : W8 := if n = 0 then [] else zbF (w :: Lib.itoa n :: ws)
theorem zhh (l : W8) (ws : List W8) (j nx : Nat) (hj3 : 3 ≤ j) (hj : j < nx) (hlen : l.length + (zbF ws).length ≤ 140737488355328) (hN : ws.length ≤ 140737488355328) :
  RetX Tryz.prog 52 [.u (.sl (ws.map fun w => [.str w])), .ptr 1 0] [(1, zdp j l), (j, zdo l)] nx
   (fun r o n => r = .val (.tup []) ∧ o = [(1, zdp nx (l ++ zbF ws)), (nx, zdo (l ++ zbF ws))] ∧ n = nx + 1) := zof l ws 1 j nx (by omega) hj (by omega) hlen hN
theorem zdi (l w : W8) (n : Int) (ws : List W8) (j nx : Nat) (hj3 : 3 ≤ j) (hj : j < nx) (h0 : 0 ≤ n) (h1 : n ≤ 1099511627776) (hlen : l.length + (zb1 w n ws).length ≤ 100000000000000) (hN : ws.length ≤ 1000) :
  RetX Tryz.prog 55 [.u (.str w), .u (.int .i64 n), .u (.sl (ws.map fun w => [.str w])), .ptr 2 0] [(2, zca), (1, zdp j l), (j, zdo l)] nx
   (fun r o N => ∃ d, r = .val d ∧ zrS j nx (l ++ zb1 w n ws) d o N) := by
 have hit := zl2 n (by omega) (by omega)
 have h2 : 2 < nx := by omega
 have h2j : ¬ (2 : Nat) = j := by omega
 have h1j : ¬ (1 : Nat) = j := by omega
 have hj2 : ¬ j = 2 := by omega
 have hj1 : ¬ j = 1 := by omega
 have hx0 : ¬ nx = 0 := by omega
 have hx1 : ¬ nx = 1 := by omega
 have hx2 : ¬ nx = 2 := by omega
 have hjx : ¬ j = nx + 1 := by omega
 have hne := zaB h2
 have hne1 := zaB (show 1 < nx by omega)
 have hnej := zaB hj
 by_cases hz : n = 0
 ·rw [zb1, if_pos hz, List.append_nil]
  (refine RetX.of_bodyW Tryz.func55 rfl (by simp) fun Γ hn hpan => ?_); simp only [entry, ziC, ziN, maC, maN, oA, Tryz.ntmps55]
  repeat' (first
  | ((first | refine zaf ?_ | refine zaj ?_ | refine zah ?_ | refine zai ?_ | fail); simp [hz])
  | (refine zaq ?_; simp only [zap])
  | fail)
  (refine EndW.here ?_; (first | (refine EndOK.fin (.inr rfl) ?_) | (refine EndOK.fin (.inl rfl) ?_)); simp [zaM, zag, Tryz.results55, hne, hne1, hnej, h2j, h1j, hj2, hj1, hj, h2]; refine FinOK.cut [(2, zca), (1, zdp j l), (j, zdo l)] (nx) (by simp [zaa, getK, zab, zac, Ob.under, D.under, zad, zae, hne, hne1, hnej, h2j, h1j, hj2, hj1, hj, h2] <;> omega) (by simp [D.under]) (by simp [hn]) ?_; try simp)
  exact ⟨rfl, j, hj3, hj, Nat.le_refl _, rfl⟩
 ·rw [zb1, if_neg hz] at hlen ⊢
  have hln := fun nx' (h : nx ≤ nx') => zhh l (w :: Lib.itoa n :: ws) j nx' hj3 (by omega) (by omega) (by simp; omega)
  simp only [List.map_cons] at hln
  (refine RetX.of_bodyW Tryz.func55 rfl (by simp) fun Γ hn hpan => ?_); simp only [entry, ziC, ziN, maC, maN, oA, Tryz.ntmps55]
  have hA : 2 + ws.length ≤ ws.length + 1 + 1 := by omega
  have hB : List.take (2 + ws.length) ([U.str w] :: [U.str (Lib.itoa n)] :: List.map (fun w => [U.str w]) ws) = [U.str w] :: [U.str (Lib.itoa n)] :: List.map (fun w => [U.str w]) ws := List.take_of_length_le (by simp; omega)
  skip
  repeat' (first
  | (refine zdx ?_; simp [hz, hne, hne1, hnej, h2j, h1j, hj2, hj1, hx0, hx1, hx2, hjx, hA, hB, zal, frzS, zaH])
  | (refine zeB rfl rfl (by decide +kernel) (by first | (simp [hn]; done) | (simp [hn]; omega) | fail) fun C k hC hk => ?_; simp [hz, hne, hne1, hnej, h2j, h1j, hj2, hj1, hx0, hx1, hx2, hjx, hA, hB, zal, frzS, zaH])
  | ((first | refine zaf ?_ | refine zbo rfl ?_ | refine zb8 rfl ?_ | refine zaj ?_ | fail); simp [hz, hne, hne1, hnej, h2j, h1j, hj2, hj1, hx0, hx1, hx2, hjx, hA, hB, zal, frzS, zaH])
  | (refine ⟨by omega, ?_⟩)
  | ((first | refine zah ?_ | refine zai ?_ | fail); simp [hz, hne, hne1, hnej, h2j, h1j, hj2, hj1, hx0, hx1, hx2, hjx, hA, hB, zal, frzS, zaH])
  | (refine zbH (hC _ (zcp [2] (nx) (by simp <;> omega) (by simp <;> omega) (by apply Exists.intro; apply And.intro; (focus (repeat' (first | exact KF.nil | exact KL.nil | apply KF.cons | apply KL.cons 0 rfl | apply KL.cons 1 rfl | apply KL.cons 2 rfl | apply KL.cons 3 rfl | apply KL.cons 4 rfl | apply KL.cons 5 rfl | apply KL.cons 6 rfl | apply KL.cons 7 rfl | apply KL.cons 8 rfl | apply KL.cons 9 rfl))); kernel_rfl))) (hk _ ?_); clear hC hk C k; simp only [zap])
  | (refine CallV.fun_ (hit) (by first | rfl | fail) (by first | simp [hz, hne, hne1, hnej, h2j, h1j, hj2, hj1, hx0, hx1, hx2, hjx, hA, hB, zal, frzS, zaH] <;> rfl | fail) ?_ <;> (try simp [hz, hne, hne1, hnej, h2j, h1j, hj2, hj1, hx0, hx1, hx2, hjx, hA, hB, zal, frzS, zaH]))
  | (refine zar (by first | rfl | fail) ?_; simp [hz, hne, hne1, hnej, h2j, h1j, hj2, hj1, hx0, hx1, hx2, hjx, hA, hB, zal, frzS, zaH, frzN, frz1, zaz, zay, St.frz, St.frzS, frzS, fv, zaH, za3, za5, zaE, zat, zal, del, frz, za6])
  | (refine CallP.okL (hln _ (by first | omega | simp <;> omega | fail)) (by first | (simp [hz, hne, hne1, hnej, h2j, h1j, hj2, hj1, hx0, hx1, hx2, hjx, hA, hB, zal, frzS, zaH, zaa, getK, zab, zac, zak, zaP, del]; done) | fail) (by rfl) (by rfl) ?_; (try simp [hz, hne, hne1, hnej, h2j, h1j, hj2, hj1, hx0, hx1, hx2, hjx, hA, hB, zal, frzS, zaH, zdf, del]))
  | fail)
  generalize l ++ zbF (w :: Lib.itoa n :: ws) = T at *
  (refine EndW.here ?_; (first | (refine EndOK.fin (.inr rfl) ?_) | (refine EndOK.fin (.inl rfl) ?_)); simp [zaM, zag, Tryz.results55, hne, hne1, hnej, h2j, h1j, hj2, hj1, hx0, hx1, hx2, hj, h2]; refine FinOK.cut [(2, zca), (1, zdp (nx + 2) T), (nx + 2, zdo T)] (nx + 3) (by simp [zaa, getK, zab, zac, Ob.under, D.under, zad, zae, hne, hne1, hnej, h2j, h1j, hj2, hj1, hx0, hx1, hx2, hj, h2] <;> omega) (by simp [D.under]) (by simp [hn]) ?_; try simp)
  exact ⟨rfl, nx + 2, by omega, by omega, by omega, rfl⟩
noncomputable def clauseT (w : W8) (e : Exp) : W8 := if eqB e nothingE = true ∧ w ≠ [100, 117, 101] then [] else zbF [w, txt e 0]
theorem zj5 (w v : W8) : (zbF [w, v]).length = w.length + v.length + 4 := by
 rw [zbF, zaU, za7]; simp; omega
theorem zdn (l w : W8) (e : Exp) (j nx : Nat) (hj3 : 3 ≤ j) (hj : j < nx) (he : zaA 12 e = true) (hlen : l.length + w.length ≤ 10000000000000) :
  RetX Tryz.prog 57 [.u (.str w), .u (.agg e.row), .ptr 2 0] [(2, zca), (1, zdp j l), (j, zdo l)] nx
   (fun r o N => ∃ d, r = .val d ∧ zrS j nx (l ++ clauseT w e) d o N) := by
 have hsm : zdu e nothingE := zcg e nothingE
 unfold zdu at hsm
 have hno := zhc
 have hsh := zgG 12 (Nat.le_refl _) e he 0
 have htl := zcA he (Nat.le_refl _) 0
 have hln2 := zj5 w (txt e 0)
 have h2 : 2 < nx := by omega
 have h2j : ¬ (2 : Nat) = j := by omega
 have h1j : ¬ (1 : Nat) = j := by omega
 have hj2 : ¬ j = 2 := by omega
 have hj1 : ¬ j = 1 := by omega
 have hx0 : ¬ nx = 0 := by omega
 have hx1 : ¬ nx = 1 := by omega
 have hx2 : ¬ nx = 2 := by omega
 have hjx : ¬ j = nx + 1 := by omega
 have hjx2 : ¬ j = nx + 2 := by omega
 have hne := zaB h2
 have hne1 := zaB (show 1 < nx by omega)
 have hnej := zaB hj
 rw [clauseT]
 rw [show nothingE.row = [.int .i64 0, .int .i64 0, .int .i64 3, .str [], .sl []] by simp [nothingE, Exp.row]] at hsm hno
 rw [Exp.row_eq e] at *
 generalize eqB e nothingE = E at *
 by_cases hc1 : E = true ∧ w ≠ [100, 117, 101]
 ·rw [if_pos hc1, List.append_nil]
  obtain ⟨rfl, hw⟩ := hc1
  (refine RetX.of_bodyW Tryz.func57 rfl (by simp) fun Γ hn hpan => ?_); simp only [entry, ziC, ziN, maC, maN, oA, Tryz.ntmps57]
  skip
  repeat' (first
  | ((first | refine zaf ?_ | refine zbo rfl ?_ | refine zjf rfl ?_ | refine zaj ?_ | refine zah ?_ | refine zai ?_ | fail); simp [hw, hne, hne1, hnej, h2j, h1j, hj2, hj1, hx0, hx1, hx2, hjx])
  | (refine zbH (hC _ (zcp [2] (nx) (by simp <;> omega) (by simp <;> omega) (by apply Exists.intro; apply And.intro; (focus (repeat' (first | exact KF.nil | exact KL.nil | apply KF.cons | apply KL.cons 0 rfl | apply KL.cons 1 rfl | apply KL.cons 2 rfl | apply KL.cons 3 rfl | apply KL.cons 4 rfl | apply KL.cons 5 rfl | apply KL.cons 6 rfl | apply KL.cons 7 rfl | apply KL.cons 8 rfl | apply KL.cons 9 rfl))); kernel_rfl))) (hk _ ?_); clear hC hk C k; simp only [zap])
  | (refine zb0 rfl (by kernel_rfl) (by first | (simp [hn]; done) | (simp [hn]; omega) | fail) fun C k hC hk => ?_; simp [hw, hne, hne1, hnej, h2j, h1j, hj2, hj1, hx0, hx1, hx2, hjx])
  | (refine zhB rfl (by simp [hw, hne, hne1, hnej, h2j, h1j, hj2, hj1, hx0, hx1, hx2, hjx]) (fun hc => ?_) (fun hc => ?_) <;> (try simp [hw, hne, hne1, hnej, h2j, h1j, hj2, hj1, hx0, hx1, hx2, hjx] at hc) <;> (try (exfalso; omega)) <;> (try simp [hw, hne, hne1, hnej, h2j, h1j, hj2, hj1, hx0, hx1, hx2, hjx]))
  | (refine zaq ?_; simp only [zap])
  | (refine CallV.fun_ (hno) (by first | rfl | fail) (by first | simp [hw, hne, hne1, hnej, h2j, h1j, hj2, hj1, hx0, hx1, hx2, hjx] <;> rfl | fail) ?_ <;> (try simp [hw, hne, hne1, hnej, h2j, h1j, hj2, hj1, hx0, hx1, hx2, hjx]))
  | (refine CallV.fun_ (hsm) (by first | rfl | fail) (by first | simp [hw, hne, hne1, hnej, h2j, h1j, hj2, hj1, hx0, hx1, hx2, hjx] <;> rfl | fail) ?_ <;> (try simp [hw, hne, hne1, hnej, h2j, h1j, hj2, hj1, hx0, hx1, hx2, hjx]))
  | fail)
  (refine EndW.here ?_; (first | (refine EndOK.fin (.inr rfl) ?_) | (refine EndOK.fin (.inl rfl) ?_)); simp [zaM, zag, Tryz.results57, hne, hne1, hnej, h2j, h1j, hj2, hj1, hx0, hx1, hx2, hj, h2]; refine FinOK.cut [(2, zca), (1, zdp j l), (j, zdo l)] (nx) (by simp [zaa, getK, zab, zac, Ob.under, D.under, zad, zae, hne, hne1, hnej, h2j, h1j, hj2, hj1, hx0, hx1, hx2, hj, h2] <;> omega) (by simp [D.under]) (by simp [hn]) ?_; try simp)
  exact ⟨rfl, j, hj3, hj, Nat.le_refl _, rfl⟩
 ·rw [if_neg hc1]
  have hln := fun nx' (h : nx ≤ nx') => zhh l [w, txt e 0] j nx' hj3 (by omega) (by omega) (by simp)
  simp only [List.map_cons, List.map_nil] at hln
  generalize txt e 0 = T0 at *
  generalize l ++ zbF [w, T0] = T at *
  cases E with
  | false =>
   (refine RetX.of_bodyW Tryz.func57 rfl (by simp) fun Γ hn hpan => ?_); simp only [entry, ziC, ziN, maC, maN, oA, Tryz.ntmps57]
   skip
   repeat' (first
  | (refine zdx ?_; simp [hne, hne1, hnej, h2j, h1j, hj2, hj1, hx0, hx1, hx2, hjx, hjx2, zal, frzS, zaH])
  | (refine zeB rfl rfl (by decide +kernel) (by first | (simp [hn]; done) | (simp [hn]; omega) | fail) fun C k hC hk => ?_; simp [hne, hne1, hnej, h2j, h1j, hj2, hj1, hx0, hx1, hx2, hjx, hjx2, zal, frzS, zaH])
  | ((first | refine zaf ?_ | refine zbo rfl ?_ | refine zb8 rfl ?_ | refine zaj ?_ | refine zah ?_ | refine zai ?_ | fail); simp [hne, hne1, hnej, h2j, h1j, hj2, hj1, hx0, hx1, hx2, hjx, hjx2, zal, frzS, zaH])
  | (refine zbH (hC _ (zcp [2] (nx) (by simp <;> omega) (by simp <;> omega) (by apply Exists.intro; apply And.intro; (focus (repeat' (first | exact KF.nil | exact KL.nil | apply KF.cons | apply KL.cons 0 rfl | apply KL.cons 1 rfl | apply KL.cons 2 rfl | apply KL.cons 3 rfl | apply KL.cons 4 rfl | apply KL.cons 5 rfl | apply KL.cons 6 rfl | apply KL.cons 7 rfl | apply KL.cons 8 rfl | apply KL.cons 9 rfl))); kernel_rfl))) (hk _ ?_); clear hC hk C k; simp only [zap])
  | (refine zb0 rfl (by kernel_rfl) (by first | (simp [hn]; done) | (simp [hn]; omega) | fail) fun C k hC hk => ?_; simp [hne, hne1, hnej, h2j, h1j, hj2, hj1, hx0, hx1, hx2, hjx, hjx2, zal, frzS, zaH])
  | (refine zhB rfl (by simp [hne, hne1, hnej, h2j, h1j, hj2, hj1, hx0, hx1, hx2, hjx, hjx2, zal, frzS, zaH]) (fun hc => ?_) (fun hc => ?_) <;> (try simp [hne, hne1, hnej, h2j, h1j, hj2, hj1, hx0, hx1, hx2, hjx, hjx2, zal, frzS, zaH] at hc) <;> (try (exfalso; omega)) <;> (try simp [hne, hne1, hnej, h2j, h1j, hj2, hj1, hx0, hx1, hx2, hjx, hjx2, zal, frzS, zaH]))
  | (refine CallV.fun_ (hno) (by first | rfl | fail) (by first | simp [hne, hne1, hnej, h2j, h1j, hj2, hj1, hx0, hx1, hx2, hjx, hjx2, zal, frzS, zaH] <;> rfl | fail) ?_ <;> (try simp [hne, hne1, hnej, h2j, h1j, hj2, hj1, hx0, hx1, hx2, hjx, hjx2, zal, frzS, zaH]))
  | (refine CallV.fun_ (hsm) (by first | rfl | fail) (by first | simp [hne, hne1, hnej, h2j, h1j, hj2, hj1, hx0, hx1, hx2, hjx, hjx2, zal, frzS, zaH] <;> rfl | fail) ?_ <;> (try simp [hne, hne1, hnej, h2j, h1j, hj2, hj1, hx0, hx1, hx2, hjx, hjx2, zal, frzS, zaH]))
  | (refine CallV.fun_ (hsh) (by first | rfl | fail) (by first | simp [hne, hne1, hnej, h2j, h1j, hj2, hj1, hx0, hx1, hx2, hjx, hjx2, zal, frzS, zaH] <;> rfl | fail) ?_ <;> (try simp [hne, hne1, hnej, h2j, h1j, hj2, hj1, hx0, hx1, hx2, hjx, hjx2, zal, frzS, zaH]))
  | (refine zar (by first | rfl | fail) ?_; simp [hne, hne1, hnej, h2j, h1j, hj2, hj1, hx0, hx1, hx2, hjx, hjx2, zal, frzS, zaH, frzN, frz1, zaz, zay, St.frz, St.frzS, frzS, fv, zaH, za3, za5, zaE, zat, zal, del, frz, za6])
  | (refine CallP.okL (hln _ (by first | omega | simp <;> omega | fail)) (by first | (simp [hne, hne1, hnej, h2j, h1j, hj2, hj1, hx0, hx1, hx2, hjx, hjx2, zal, frzS, zaH, zaa, getK, zab, zac, zak, zaP, del]; done) | fail) (by rfl) (by rfl) ?_; (try simp [hne, hne1, hnej, h2j, h1j, hj2, hj1, hx0, hx1, hx2, hjx, hjx2, zal, frzS, zaH, zdf, del]))
  | fail)
   (refine EndW.here ?_; (first | (refine EndOK.fin (.inr rfl) ?_) | (refine EndOK.fin (.inl rfl) ?_)); simp [zaM, zag, Tryz.results57, hne, hne1, hnej, h2j, h1j, hj2, hj1, hx0, hx1, hx2, hj, h2]; refine FinOK.cut [(2, zca), (1, zdp (nx + 2) T), (nx + 2, zdo T)] (nx + 3) (by simp [zaa, getK, zab, zac, Ob.under, D.under, zad, zae, hne, hne1, hnej, h2j, h1j, hj2, hj1, hx0, hx1, hx2, hj, h2] <;> omega) (by simp [D.under]) (by simp [hn]) ?_; try simp)
   exact ⟨rfl, nx + 2, by omega, by omega, by omega, rfl⟩
  | true =>
   obtain rfl : w = [100, 117, 101] := by
    by_cases hw : w = [100, 117, 101]
    ·exact hw
    ·exact absurd ⟨rfl, hw⟩ hc1
   (refine RetX.of_bodyW Tryz.func57 rfl (by simp) fun Γ hn hpan => ?_); simp only [entry, ziC, ziN, maC, maN, oA, Tryz.ntmps57]
   skip
   repeat' (first
  | (refine zdx ?_; simp [hne, hne1, hnej, h2j, h1j, hj2, hj1, hx0, hx1, hx2, hjx, hjx2, zal, frzS, zaH])
  | (refine zeB rfl rfl (by decide +kernel) (by first | (simp [hn]; done) | (simp [hn]; omega) | fail) fun C k hC hk => ?_; simp [hne, hne1, hnej, h2j, h1j, hj2, hj1, hx0, hx1, hx2, hjx, hjx2, zal, frzS, zaH])
  | ((first | refine zaf ?_ | refine zbo rfl ?_ | refine zb8 rfl ?_ | refine zjf rfl ?_ | refine zaj ?_ | refine zah ?_ | refine zai ?_ | fail); simp [hne, hne1, hnej, h2j, h1j, hj2, hj1, hx0, hx1, hx2, hjx, hjx2, zal, frzS, zaH])
  | (refine zbH (hC _ (zcp [2] (nx) (by simp <;> omega) (by simp <;> omega) (by apply Exists.intro; apply And.intro; (focus (repeat' (first | exact KF.nil | exact KL.nil | apply KF.cons | apply KL.cons 0 rfl | apply KL.cons 1 rfl | apply KL.cons 2 rfl | apply KL.cons 3 rfl | apply KL.cons 4 rfl | apply KL.cons 5 rfl | apply KL.cons 6 rfl | apply KL.cons 7 rfl | apply KL.cons 8 rfl | apply KL.cons 9 rfl))); kernel_rfl))) (hk _ ?_); clear hC hk C k; simp only [zap])
  | (refine zb0 rfl (by kernel_rfl) (by first | (simp [hn]; done) | (simp [hn]; omega) | fail) fun C k hC hk => ?_; simp [hne, hne1, hnej, h2j, h1j, hj2, hj1, hx0, hx1, hx2, hjx, hjx2, zal, frzS, zaH])
  | (refine zhB rfl (by simp [hne, hne1, hnej, h2j, h1j, hj2, hj1, hx0, hx1, hx2, hjx, hjx2, zal, frzS, zaH]) (fun hc => ?_) (fun hc => ?_) <;> (try simp [hne, hne1, hnej, h2j, h1j, hj2, hj1, hx0, hx1, hx2, hjx, hjx2, zal, frzS, zaH] at hc) <;> (try (exfalso; omega)) <;> (try simp [hne, hne1, hnej, h2j, h1j, hj2, hj1, hx0, hx1, hx2, hjx, hjx2, zal, frzS, zaH]))
  | (refine CallV.fun_ (hno) (by first | rfl | fail) (by first | simp [hne, hne1, hnej, h2j, h1j, hj2, hj1, hx0, hx1, hx2, hjx, hjx2, zal, frzS, zaH] <;> rfl | fail) ?_ <;> (try simp [hne, hne1, hnej, h2j, h1j, hj2, hj1, hx0, hx1, hx2, hjx, hjx2, zal, frzS, zaH]))
  | (refine CallV.fun_ (hsm) (by first | rfl | fail) (by first | simp [hne, hne1, hnej, h2j, h1j, hj2, hj1, hx0, hx1, hx2, hjx, hjx2, zal, frzS, zaH] <;> rfl | fail) ?_ <;> (try simp [hne, hne1, hnej, h2j, h1j, hj2, hj1, hx0, hx1, hx2, hjx, hjx2, zal, frzS, zaH]))
  | (refine CallV.fun_ (hsh) (by first | rfl | fail) (by first | simp [hne, hne1, hnej, h2j, h1j, hj2, hj1, hx0, hx1, hx2, hjx, hjx2, zal, frzS, zaH] <;> rfl | fail) ?_ <;> (try simp [hne, hne1, hnej, h2j, h1j, hj2, hj1, hx0, hx1, hx2, hjx, hjx2, zal, frzS, zaH]))
  | (refine zar (by first | rfl | fail) ?_; simp [hne, hne1, hnej, h2j, h1j, hj2, hj1, hx0, hx1, hx2, hjx, hjx2, zal, frzS, zaH, frzN, frz1, zaz, zay, St.frz, St.frzS, frzS, fv, zaH, za3, za5, zaE, zat, zal, del, frz, za6])
  | (refine CallP.okL (hln _ (by first | omega | simp <;> omega | fail)) (by first | (simp [hne, hne1, hnej, h2j, h1j, hj2, hj1, hx0, hx1, hx2, hjx, hjx2, zal, frzS, zaH, zaa, getK, zab, zac, zak, zaP, del]; done) | fail) (by rfl) (by rfl) ?_; (try simp [hne, hne1, hnej, h2j, h1j, hj2, hj1, hx0, hx1, hx2, hjx, hjx2, zal, frzS, zaH, zdf, del]))
  | fail)
   (refine EndW.here ?_; (first | (refine EndOK.fin (.inr rfl) ?_) | (refine EndOK.fin (.inl rfl) ?_)); simp [zaM, zag, Tryz.results57, hne, hne1, hnej, h2j, h1j, hj2, hj1, hx0, hx1, hx2, hj, h2]; refine FinOK.cut [(2, zca), (1, zdp (nx + 2) T), (nx + 2, zdo T)] (nx + 3) (by simp [zaa, getK, zab, zac, Ob.under, D.under, zad, zae, hne, hne1, hnej, h2j, h1j, hj2, hj1, hx0, hx1, hx2, hj, h2] <;> omega) (by simp [D.under]) (by simp [hn]) ?_; try simp)
   exact ⟨rfl, nx + 2, by omega, by omega, by omega, rfl⟩
/-- A call of one of the parser's functions, both ways. -/
theorem _root_.Go.VL.CallP.pp {P : Program} {Γ : Ctx} {s : St} {k : St → Prop} {dst : Option Tmp} {fop : Operand} {args : List Operand} {f caps} {ds : List D} {α : Type} {l : List Tok} {i : Nat} {ob : Ob} {val : α → D} {r : PR α}
  (hret : RetX P f ds [(i, ob)] s.next (PPost l i s.next val r)) (hj : getK s.obs i = some ob) (hf : zaw (opd s fop) = some (f, caps)) (hc : zam P f = true) (hds : args.map (opd s) ++ caps = ds) (hp : zaI dst s)
  (hk : ∀ a q, r = .ok a q → k (({ s with obs := del s.obs i ++ [(i, pOb l q)], next := s.next } : St).put dst (val a)))
  (hx : ∀ pos e q, r = .stop pos e → ∃ s2, Wk Γ { s with obs := del s.obs i ++ [(i, pOb l q)], next := s.next } s2 ∧ Γ.pan (chP pos e) s2) : CallP P Γ fop args dst s k :=
 CallP.x1 hret hj hf hc hds hp (fun d o1 nx' _ h => by
  cases r with
  | ok a q => obtain ⟨h1, h2, h3⟩ := h; cases h1; subst h2; subst h3; exact hk a q rfl
  | stop pos e => obtain ⟨h1, _⟩ := h; cases h1) (fun ch o1 nx' _ h => by
  cases r with
  | ok a q => obtain ⟨h1, _⟩ := h; cases h1
  | stop pos e => obtain ⟨h1, ⟨ob', ⟨q, rfl⟩, h2⟩, h3⟩ := h; cases h1; subst h2; subst h3; exact hx pos e q rfl)
abbrev kbD (x : Int × Bool) : D := .tup [.u (.int .i64 x.1), .u (.bool x.2)]
theorem zpL (l : List Tok) (p : Nat) (i nx : Nat) (hi : i < nx) (hp : p < l.length) (hl : TokOK l) :
  RetX Tryz.prog 78 [.ptr i 0] [(i, pOb l p)] nx (PPost l i nx kbD (zfb l p)) := by
 have hne := zaB hi
 have hll := hl.len
 generalize hR : zfb l p = R
 rw [zfb] at hR
 (refine RetX.of_bodyW Tryz.func78 rfl (by simp) fun Γ hn hpan => ?_); simp only [entry, ziC, ziN, maC, maN, oA, Tryz.ntmps78]
 repeat' (first
  | ((first | refine zaf ?_ | refine zaj ?_ | refine zah ?_ | fail); simp [hne])
  | (refine zar (by first | rfl | fail) ?_; simp [hne, frzN, frz1, zaz, zay, St.frz, St.frzS, frzS, fv, zaH, za3, za5, zaE, zat, zal, del, frz, za6])
  | fail)
 (refine CallP.pp (zeG hl [99, 105, 114, 99, 108, 101] (q := p) (i := i) (by first | omega | simp <;> omega | fail) hp) (by first | (simp [hi, hne, nAA, zaa, getK, zab, zac]; done) | fail) (by rfl) (by first | assumption | (simp; done) | fail) (by rfl) (by simp) (fun v1 q1 h1 => ?_) (fun pos e q' h1 => ⟨_, Wk.refl _, ?_⟩); rotate_left 1; (focus (rw [h1, PR.zaQ] at hR; (refine hpan _ _ ⟨{ n := _, env := [], obs := [(i, pOb l q')], next := nx }, (Wk.cut rfl (by simp [hn]) (by simp [wkO, zaa, getK, zab, zac, Ob.under, D.under, zad, zae, hi, hne, nAA, zab, zac, zaa, getK]) (by simp [wkU, zan, zaa, getK, D.under, hi, hne, nAA, zab, zac, zaa, getK]) (by simp [wkE, zan, zaa, getK, hi, hne, nAA, zab, zac, zaa, getK])), by simp [hn], ?_⟩; try simp); exact PPost.zax hR.symm)); rw [h1, PR.zav] at hR; (try simp [hi, hne, nAA]))
 obtain ⟨_, g1⟩ := zaO hl _ h1 hp
 have hh1 := fun nx' (h : nx ≤ nx') => za9 l q1 [114, 111, 116, 97, 116, 105, 110, 103] i nx' (by omega) g1 hl.len
 have hh2 := fun nx' (h : nx ≤ nx') => za9 l q1 [115, 97, 118, 105, 110, 103] i nx' (by omega) g1 hl.len
 by_cases c1 : isB l q1 [114, 111, 116, 97, 116, 105, 110, 103] = true
 ·have g2 := za1 hl c1
  rw [if_pos c1] at hR
  simp only [c1, if_true] at hh1
  repeat' (first
  | ((first | refine zaf ?_ | refine zaj ?_ | refine zah ?_ | refine zai ?_ | fail); simp [hne, del, nAA])
  | (refine CallP.ok1 (hh1 _ (by first | omega | simp <;> omega | fail)) (by first | (simp [hne, del, nAA, zaa, getK, zab, zac]; done) | fail) (by rfl) (by rfl) ?_; (try simp [hne, del, nAA]))
  | (refine zar (by first | rfl | fail) ?_; simp [hne, del, nAA, frzN, frz1, zaz, zay, St.frz, St.frzS, frzS, fv, zaH, za3, za5, zaE, zat, zal, del, frz, za6])
  | fail)
  (refine CallP.pp (zeG hl [59] (q := q1 + 1) (i := i) (by first | omega | simp <;> omega | fail) g2) (by first | (simp [hi, hne, nAA, zaa, getK, zab, zac]; done) | fail) (by rfl) (by first | assumption | (simp; done) | fail) (by rfl) (by simp) (fun v2 q2 h2 => ?_) (fun pos e q' h2 => ⟨_, Wk.refl _, ?_⟩); rotate_left 1; (focus (rw [h2, PR.zaQ] at hR; (refine hpan _ _ ⟨{ n := _, env := [], obs := [(i, pOb l q')], next := nx }, (Wk.cut rfl (by simp [hn]) (by simp [wkO, zaa, getK, zab, zac, Ob.under, D.under, zad, zae, hi, hne, nAA, zab, zac, zaa, getK]) (by simp [wkU, zan, zaa, getK, D.under, hi, hne, nAA, zab, zac, zaa, getK]) (by simp [wkE, zan, zaa, getK, hi, hne, nAA, zab, zac, zaa, getK])), by simp [hn], ?_⟩; try simp); exact PPost.zax hR.symm)); rw [h2, PR.zav] at hR; (try simp [hi, hne, nAA]))
  repeat' (first
  | ((first | refine zaf ?_ | refine zaj ?_ | refine zah ?_ | fail); simp [hne, del, nAA])
  | (refine zas ?_; simp only [zap])
  | fail)
  (refine EndW.here ?_; (first | (refine EndOK.fin (.inr rfl) ?_) | (refine EndOK.fin (.inl rfl) ?_)); simp [zaM, zag, Tryz.results78, hne, hi]; refine FinOK.cut [(i, pOb l q2)] (nx) (by simp [zaa, getK, zab, zac, Ob.under, D.under, zad, zae, hne, hi] <;> omega) (by simp [D.under]) (by simp [hn]) ?_; try simp)
  exact PPost.zcr hR.symm rfl rfl
 ·rw [if_neg c1] at hR
  simp only [c1, Bool.false_eq_true, if_false] at hh1
  by_cases c2 : isB l q1 [115, 97, 118, 105, 110, 103] = true
  ·have g2 := za1 hl c2
   rw [if_pos c2] at hR
   simp only [c2, if_true] at hh2
   repeat' (first
  | ((first | refine zaf ?_ | refine zaj ?_ | refine zah ?_ | refine zai ?_ | fail); simp [hne, del, nAA])
  | (refine CallP.ok1 (hh1 _ (by first | omega | simp <;> omega | fail)) (by first | (simp [hne, del, nAA, zaa, getK, zab, zac]; done) | fail) (by rfl) (by rfl) ?_; (try simp [hne, del, nAA]))
  | (refine CallP.ok1 (hh2 _ (by first | omega | simp <;> omega | fail)) (by first | (simp [hne, del, nAA, zaa, getK, zab, zac]; done) | fail) (by rfl) (by rfl) ?_; (try simp [hne, del, nAA]))
  | (refine zar (by first | rfl | fail) ?_; simp [hne, del, nAA, frzN, frz1, zaz, zay, St.frz, St.frzS, frzS, fv, zaH, za3, za5, zaE, zat, zal, del, frz, za6])
  | fail)
   (refine CallP.pp (zeG hl [59] (q := q1 + 1) (i := i) (by first | omega | simp <;> omega | fail) g2) (by first | (simp [hi, hne, nAA, zaa, getK, zab, zac]; done) | fail) (by rfl) (by first | assumption | (simp; done) | fail) (by rfl) (by simp) (fun v2 q2 h2 => ?_) (fun pos e q' h2 => ⟨_, Wk.refl _, ?_⟩); rotate_left 1; (focus (rw [h2, PR.zaQ] at hR; (refine hpan _ _ ⟨{ n := _, env := [], obs := [(i, pOb l q')], next := nx }, (Wk.cut rfl (by simp [hn]) (by simp [wkO, zaa, getK, zab, zac, Ob.under, D.under, zad, zae, hi, hne, nAA, zab, zac, zaa, getK]) (by simp [wkU, zan, zaa, getK, D.under, hi, hne, nAA, zab, zac, zaa, getK]) (by simp [wkE, zan, zaa, getK, hi, hne, nAA, zab, zac, zaa, getK])), by simp [hn], ?_⟩; try simp); exact PPost.zax hR.symm)); rw [h2, PR.zav] at hR; (try simp [hi, hne, nAA]))
   repeat' (first
  | ((first | refine zaf ?_ | refine zaj ?_ | refine zah ?_ | fail); simp [hne, del, nAA])
  | (refine zas ?_; simp only [zap])
  | fail)
   (refine EndW.here ?_; (first | (refine EndOK.fin (.inr rfl) ?_) | (refine EndOK.fin (.inl rfl) ?_)); simp [zaM, zag, Tryz.results78, hne, hi]; refine FinOK.cut [(i, pOb l q2)] (nx) (by simp [zaa, getK, zab, zac, Ob.under, D.under, zad, zae, hne, hi] <;> omega) (by simp [D.under]) (by simp [hn]) ?_; try simp)
   exact PPost.zcr hR.symm rfl rfl
  ·rw [if_neg c2] at hR
   simp only [c2, Bool.false_eq_true, if_false] at hh2
   repeat' (first
  | ((first | refine zaf ?_ | refine zaj ?_ | refine zah ?_ | refine zai ?_ | fail); simp [hne, del, nAA])
  | (refine zaq ?_; simp only [zap])
  | (refine CallP.ok1 (hh1 _ (by first | omega | simp <;> omega | fail)) (by first | (simp [hne, del, nAA, zaa, getK, zab, zac]; done) | fail) (by rfl) (by rfl) ?_; (try simp [hne, del, nAA]))
  | (refine CallP.ok1 (hh2 _ (by first | omega | simp <;> omega | fail)) (by first | (simp [hne, del, nAA, zaa, getK, zab, zac]; done) | fail) (by rfl) (by rfl) ?_; (try simp [hne, del, nAA]))
  | (refine zar (by first | rfl | fail) ?_; simp [hne, del, nAA, frzN, frz1, zaz, zay, St.frz, St.frzS, frzS, fv, zaH, za3, za5, zaE, zat, zal, del, frz, za6])
  | fail)
   (refine CallP.pp (zeG hl [98, 105, 100, 100, 105, 110, 103] (q := q1) (i := i) (by first | omega | simp <;> omega | fail) g1) (by first | (simp [hi, hne, nAA, zaa, getK, zab, zac]; done) | fail) (by rfl) (by first | assumption | (simp; done) | fail) (by rfl) (by simp) (fun v2 q2 h2 => ?_) (fun pos e q' h2 => ⟨_, Wk.refl _, ?_⟩); rotate_left 1; (focus (rw [h2, PR.zaQ] at hR; (refine hpan _ _ ⟨{ n := _, env := [], obs := [(i, pOb l q')], next := nx }, (Wk.cut rfl (by simp [hn]) (by simp [wkO, zaa, getK, zab, zac, Ob.under, D.under, zad, zae, hi, hne, nAA, zab, zac, zaa, getK]) (by simp [wkU, zan, zaa, getK, D.under, hi, hne, nAA, zab, zac, zaa, getK]) (by simp [wkE, zan, zaa, getK, hi, hne, nAA, zab, zac, zaa, getK])), by simp [hn], ?_⟩; try simp); exact PPost.zax hR.symm)); rw [h2, PR.zav] at hR; (try simp [hi, hne, nAA]))
   obtain ⟨_, g2⟩ := zaO hl _ h2 g1
   have hh3 := fun nx' (h : nx ≤ nx') => za9 l q2 [115, 101, 97, 108, 101, 100] i nx' (by omega) g2 hl.len
   by_cases c3 : isB l q2 [115, 101, 97, 108, 101, 100] = true
   ·have g3 := za1 hl c3
    rw [if_pos c3] at hR
    simp only [c3, if_true] at hh3
    repeat' (first
  | ((first | refine zaf ?_ | refine zaj ?_ | refine zah ?_ | fail); simp [hne, del, nAA])
  | (refine CallP.ok1 (hh3 _ (by first | omega | simp <;> omega | fail)) (by first | (simp [hne, del, nAA, zaa, getK, zab, zac]; done) | fail) (by rfl) (by rfl) ?_; (try simp [hne, del, nAA]))
  | (refine zar (by first | rfl | fail) ?_; simp [hne, del, nAA, frzN, frz1, zaz, zay, St.frz, St.frzS, frzS, fv, zaH, za3, za5, zaE, zat, zal, del, frz, za6])
  | fail)
    (refine CallP.pp (zeG hl [59] (q := q2 + 1) (i := i) (by first | omega | simp <;> omega | fail) g3) (by first | (simp [hi, hne, nAA, zaa, getK, zab, zac]; done) | fail) (by rfl) (by first | assumption | (simp; done) | fail) (by rfl) (by simp) (fun v3 q3 h3 => ?_) (fun pos e q' h3 => ⟨_, Wk.refl _, ?_⟩); rotate_left 1; (focus (rw [h3, PR.zaQ] at hR; (refine hpan _ _ ⟨{ n := _, env := [], obs := [(i, pOb l q')], next := nx }, (Wk.cut rfl (by simp [hn]) (by simp [wkO, zaa, getK, zab, zac, Ob.under, D.under, zad, zae, hi, hne, nAA, zab, zac, zaa, getK]) (by simp [wkU, zan, zaa, getK, D.under, hi, hne, nAA, zab, zac, zaa, getK]) (by simp [wkE, zan, zaa, getK, hi, hne, nAA, zab, zac, zaa, getK])), by simp [hn], ?_⟩; try simp); exact PPost.zax hR.symm)); rw [h3, PR.zav] at hR; (try simp [hi, hne, nAA]))
    repeat' (first
  | ((first | refine zaf ?_ | refine zaj ?_ | refine zah ?_ | fail); simp [hne, del, nAA])
  | (refine zas ?_; simp only [zap])
  | fail)
    (refine EndW.here ?_; (first | (refine EndOK.fin (.inr rfl) ?_) | (refine EndOK.fin (.inl rfl) ?_)); simp [zaM, zag, Tryz.results78, hne, hi]; refine FinOK.cut [(i, pOb l q3)] (nx) (by simp [zaa, getK, zab, zac, Ob.under, D.under, zad, zae, hne, hi] <;> omega) (by simp [D.under]) (by simp [hn]) ?_; try simp)
    exact PPost.zcr hR.symm rfl rfl
   ·rw [if_neg c3] at hR
    simp only [c3, Bool.false_eq_true, if_false] at hh3
    repeat' (first
  | ((first | refine zaf ?_ | refine zaj ?_ | refine zah ?_ | fail); simp [hne, del, nAA])
  | (refine CallP.ok1 (hh3 _ (by first | omega | simp <;> omega | fail)) (by first | (simp [hne, del, nAA, zaa, getK, zab, zac]; done) | fail) (by rfl) (by rfl) ?_; (try simp [hne, del, nAA]))
  | (refine zar (by first | rfl | fail) ?_; simp [hne, del, nAA, frzN, frz1, zaz, zay, St.frz, St.frzS, frzS, fv, zaH, za3, za5, zaE, zat, zal, del, frz, za6])
  | fail)
    (refine CallP.pp (zeG hl [59] (q := q2) (i := i) (by first | omega | simp <;> omega | fail) g2) (by first | (simp [hi, hne, nAA, zaa, getK, zab, zac]; done) | fail) (by rfl) (by first | assumption | (simp; done) | fail) (by rfl) (by simp) (fun v3 q3 h3 => ?_) (fun pos e q' h3 => ⟨_, Wk.refl _, ?_⟩); rotate_left 1; (focus (rw [h3, PR.zaQ] at hR; (refine hpan _ _ ⟨{ n := _, env := [], obs := [(i, pOb l q')], next := nx }, (Wk.cut rfl (by simp [hn]) (by simp [wkO, zaa, getK, zab, zac, Ob.under, D.under, zad, zae, hi, hne, nAA, zab, zac, zaa, getK]) (by simp [wkU, zan, zaa, getK, D.under, hi, hne, nAA, zab, zac, zaa, getK]) (by simp [wkE, zan, zaa, getK, hi, hne, nAA, zab, zac, zaa, getK])), by simp [hn], ?_⟩; try simp); exact PPost.zax hR.symm)); rw [h3, PR.zav] at hR; (try simp [hi, hne, nAA]))
    repeat' (first
  | ((first | refine zaf ?_ | refine zaj ?_ | refine zah ?_ | fail); simp [hne, del, nAA])
  | (refine zas ?_; simp only [zap])
  | fail)
    (refine EndW.here ?_; (first | (refine EndOK.fin (.inr rfl) ?_) | (refine EndOK.fin (.inl rfl) ?_)); simp [zaM, zag, Tryz.results78, hne, hi]; refine FinOK.cut [(i, pOb l q3)] (nx) (by simp [zaa, getK, zab, zac, Ob.under, D.under, zad, zae, hne, hi] <;> omega) (by simp [D.under]) (by simp [hn]) ?_; try simp)
    exact PPost.zcr hR.symm rfl rfl
theorem zlX {l : List Tok} (hl : TokOK l) {p q : Nat} {x : Int × Bool} (h : zfb l p = .ok x q) (hp : p < l.length) : p ≤ q ∧ q < l.length := by
 unfold zfb at h
 obtain ⟨_, r1, h1, h⟩ := PR.zao h
 have g1 := zaO hl _ h1 hp
 split at h
 ·rename_i hb
  obtain ⟨_, r2, h2, h⟩ := PR.zao h
  have g2 := zaO hl _ h2 (za1 hl hb)
  cases h
  exact ⟨by omega, g2.2⟩
 ·split at h
  ·rename_i hb
   obtain ⟨_, r2, h2, h⟩ := PR.zao h
   have g2 := zaO hl _ h2 (za1 hl hb)
   cases h
   exact ⟨by omega, g2.2⟩
  ·obtain ⟨_, r2, h2, h⟩ := PR.zao h
   have g2 := zaO hl _ h2 g1.2
   split at h
   ·rename_i hb
    obtain ⟨_, r3, h3, h⟩ := PR.zao h
    have g3 := zaO hl _ h3 (za1 hl hb)
    cases h
    exact ⟨by omega, g3.2⟩
   ·obtain ⟨_, r3, h3, h⟩ := PR.zao h
    have g3 := zaO hl _ h3 g2.2
    cases h
    exact ⟨by omega, g3.2⟩
theorem zga : Fun Tryz.prog 60 [] (· = .u (.sl (ordersW.map fun w => [.str w]))) := by
 simp only [ordersW, List.map_cons, List.map_nil]
 (refine Fun.of_bodyW Tryz.func60 rfl (by simp) fun Γ hn => ?_); simp only [entry, ziC, ziN, maC, maN, oA, Tryz.ntmps60]
 repeat' (first
  | ((first | refine zaf ?_ | refine zaj ?_ | refine zah ?_ | fail); simp [zb9, zbS])
  | (refine zas ?_; simp only [zap])
  | fail)
 (refine EndW.frzN 1 ?_; simp [frzN, frz1, zaz, zay, St.frz, St.frzS, frzS, fv, zaH, za3, za5, zaE, zat, zal, del, frz, za6])
 refine EndW.here ?_
 (refine EndOK.val (.inr rfl) ?_; simp [zaM, zag, zau, Tryz.results60])
/-- The first of words that stands at a place is read. -/
def atW (l : List Tok) (q : Nat) (ws : List W8) : Option Nat := ws.findIdx? fun w => isB l q w
theorem zm7 (l : List Tok) (q : Nat) (ws : List W8) (i nx : Nat) (hi : i < nx) (hq : q < l.length) (hl : TokOK l) :
  RetX Tryz.prog 129 [.u (.sl (ws.map fun w => [.str w])), .bnd (.func 127) [.ptr i 0]] [(i, pOb l q)] nx
   (fun r o n => r = .val (match atW l q ws with | some j => ziU j | none => ziU (-1)) ∧ o = [(i, pOb l (if (atW l q ws).isSome then q + 1 else q))] ∧ n = nx) := by
 have hne := zaB hi
 generalize hA : atW l q ws = A
 (refine RetX.of_bodyW Tryz.func129 rfl (by simp) fun Γ hn hpan => ?_); simp only [entry, ziC, ziN, maC, maN, oA, Tryz.ntmps129]
 refine zjd (x := 0) rfl fun hll => ?_
 simp at hll
 repeat' (first
  | ((first | refine zaf ?_ | refine zaj ?_ | refine zah ?_ | refine zaD ?_ | fail); simp)
  | fail)
 refine zd8 (α := { j : Nat // j ≤ ws.length ∧ ∀ w ∈ ws.take j, isB l q w = false }) [0, 1, 7] (fun x => [(8, .u (.int .i64 x.1))]) (fun x => [(i, pOb l q)]) nx (fun x => ws.length - x.1) ⟨0, by omega, by simp⟩ ?_ ?_
 ·exact (Wk.cut rfl (by simp [hn, St.lp]) (by simp [wkO, St.lp, zaa, getK, Ob.under, D.under, zad, zae, hi]) (by simp [wkU, St.lp, zan, zaa, getK, D.under, hi]) (by simp [wkE, St.lp, zan, zaa, getK, hi] <;> (try (intros; simp_all; done)) <;> (try (intros; omega)) <;> (try grind)))
 rintro ⟨j, h1, h2⟩
 simp [St.lp, St.only, zan, zaa, getK]
 rcases hx : ws[j]? with _ | w
 ·have hge : ws.length ≤ j := by simpa using hx
  rw [List.take_of_length_le hge] at h2
  have hn0 : atW l q ws = none := by
   unfold atW
   rw [List.findIdx?_eq_none_iff]
   exact h2
  rw [hn0] at hA
  subst hA
  repeat' (first
  | ((first | refine zaf ?_ | refine zaj ?_ | fail); simp [hx])
  | (refine ⟨by omega, ?_⟩)
  | (refine zah ?_; simp [hx])
  | (refine zas ?_; simp only [zap])
  | (refine zce ?_; simp [zap])
  | (intro hc <;> (try (exfalso; omega)))
  | fail)
  (refine EndW.here ?_; (first | (refine EndOK.fin (.inr rfl) ?_) | (refine EndOK.fin (.inl rfl) ?_)); simp [zaM, zag, Tryz.results129]; refine FinOK.here (by simp) ?_; try simp)
 ·have hlt : j < ws.length := (lGE.1 hx).1
  have hh := za9 l q w i nx hi hq hl.len
  cases hb : isB l q w with
  | false =>
   rw [hb, if_neg (by simp)] at hh
   repeat' (first
  | ((first | refine zaf ?_ | refine zaj ?_ | refine zah ?_ | fail); simp [hx])
  | (refine zaq ?_; simp only [zap])
  | (refine ⟨?_, by omega⟩)
  | (intro hc <;> (try (exfalso; omega)))
  | fail)
   refine CallP.bok hh (by simp [zaa, getK]) rfl (by first | assumption | simp) rfl (by simp) ?_
   repeat' (first
  | ((first | refine zaf ?_ | refine zaj ?_ | fail); simp [hx])
  | (refine ⟨by omega, ?_⟩)
  | ((first | refine zai ?_ | refine zaG ?_ | fail); simp [hx])
  | (refine zaq ?_; simp only [zap])
  | fail)
   refine LoopW.next ⟨j + 1, by omega, zbB hx h2 hb⟩ (by simp; omega) ?_
   exact (Wk.cut rfl (by simp [hn, St.lp]) (by simp [wkO, St.lp, zaa, getK, Ob.under, D.under, zad, zae, hi, zab, zac, zaa, getK]) (by simp [wkU, St.lp, zan, zaa, getK, D.under, hi, zab, zac, zaa, getK]) (by simp [wkE, St.lp, zan, zaa, getK, hi, zab, zac, zaa, getK] <;> (try (intros; simp_all; done)) <;> (try (intros; omega)) <;> (try grind)))
  | true =>
   rw [hb, if_pos rfl] at hh
   have hn0 : atW l q ws = some j := by
    unfold atW
    rw [List.findIdx?_eq_some_iff_getElem]
    obtain ⟨h3, h4⟩ := lGE.1 hx
    refine ⟨h3, by rw [h4]; exact hb, fun k hk => ?_⟩
    have := h2 ws[k] (by rw [List.mem_take_iff_getElem]; exact ⟨k, by omega, rfl⟩)
    simp [this]
   rw [hn0] at hA
   subst hA
   repeat' (first
  | ((first | refine zaf ?_ | refine zaj ?_ | refine zah ?_ | fail); simp [hx])
  | (refine zaq ?_; simp only [zap])
  | (refine ⟨?_, by omega⟩)
  | (intro hc <;> (try (exfalso; omega)))
  | fail)
   refine CallP.bok hh (by simp [zaa, getK]) rfl (by first | assumption | simp) rfl (by simp) ?_
   repeat' (first
  | ((first | refine zaf ?_ | refine zaj ?_ | refine zah ?_ | refine zai ?_ | fail); simp [hx])
  | (refine zas ?_; simp only [zap])
  | fail)
   (refine EndW.here ?_; (first | (refine EndOK.fin (.inr rfl) ?_) | (refine EndOK.fin (.inl rfl) ?_)); simp [zaM, zag, Tryz.results129]; refine FinOK.here (by simp) ?_; try simp)
theorem znV (l : List Tok) (p : Nat) (i nx : Nat) (hi : i < nx) (hp : p < l.length) (hl : TokOK l) :
  RetX Tryz.prog 81 [.ptr i 0] [(i, pOb l p)] nx (PPost l i nx ziU (zdK l p)) := by
 have hne := zaB hi
 have hll := hl.len
 have hor := zga
 generalize hR : zdK l p = R
 rw [zdK] at hR
 have hh1 := fun nx' (h : nx ≤ nx') => za9 l p [111, 114, 100, 101, 114] i nx' (by omega) hp hl.len
 by_cases c1 : isB l p [111, 114, 100, 101, 114] = true
 ·have g1 := za1 hl c1
  rw [if_pos c1] at hR
  simp only [c1, if_true] at hh1
  have hix := fun nx' (h : nx ≤ nx') => zm7 l (p + 1) ordersW i nx' (by omega) g1 hl
  have hat : atW l (p + 1) ordersW = ordersW.findIdx? fun w => isB l (p + 1) w := rfl
  rw [← hat] at hR
  obtain ⟨t, ht⟩ : ∃ t, l[p + 1]? = some t := ⟨_, List.getElem?_eq_getElem g1⟩
  have hpa : zco l (p + 1) = t.pos := by unfold zco; rw [ht]
  rw [hpa] at hR
  cases hj : atW l (p + 1) ordersW with
  | none =>
   have hc2 := fun e nx' (h : nx ≤ nx') => zcS l (p + 1) t e i nx' (by omega) ht hl.len
   rw [hj] at hR hix
   simp only [Option.isSome_none, Bool.false_eq_true, if_false] at hR hix
   (refine RetX.of_bodyW Tryz.func81 rfl (by simp) fun Γ hn hpan => ?_); simp only [entry, ziC, ziN, maC, maN, oA, Tryz.ntmps81]
   repeat' (first
  | ((first | refine zaf ?_ | refine zaj ?_ | refine zah ?_ | refine zai ?_ | fail); simp [hne, del, nAA])
  | (refine zaq ?_; simp only [zap])
  | (refine CallP.fE (hor) (by first | rfl | fail) (by first | simp [hne, del, nAA] <;> rfl | fail) ?_; (try simp [hne, del, nAA]))
  | (refine CallP.ok1 (hh1 _ (by first | omega | simp <;> omega | fail)) (by first | (simp [hne, del, nAA, zaa, getK, zab, zac]; done) | fail) (by rfl) (by rfl) ?_; (try simp [hne, del, nAA]))
  | (refine CallP.ok1 (hix _ (by first | omega | simp <;> omega | fail)) (by first | (simp [hne, del, nAA, zaa, getK, zab, zac]; done) | fail) (by rfl) (by rfl) ?_; (try simp [hne, del, nAA]))
  | (refine CallP.zem (hc2 _ _ (by first | omega | simp <;> omega | fail)) (by first | (simp [hne, del, nAA, zaa, getK, zab, zac]; done) | fail) (by rfl) (by first | assumption | (simp; done) | fail) (by rfl) (by simp) ?_; rintro ob' ⟨q', rfl⟩; refine ⟨_, Wk.refl _, ?_⟩)
  | fail)
   (refine hpan _ _ ⟨{ n := _, env := [], obs := [(i, pOb l q')], next := nx }, (Wk.cut rfl (by simp [hn]) (by simp [wkO, zaa, getK, zab, zac, Ob.under, D.under, zad, zae, hi, hne, zab, zac, zaa, getK]) (by simp [wkU, zan, zaa, getK, D.under, hi, hne, zab, zac, zaa, getK]) (by simp [wkE, zan, zaa, getK, hi, hne, zab, zac, zaa, getK])), by simp [hn], ?_⟩; try simp)
   exact PPost.zax hR.symm
  | some j =>
   have g2 : p + 1 + 1 < l.length := by
    unfold atW at hj
    rw [List.findIdx?_eq_some_iff_getElem] at hj
    obtain ⟨_, hb, _⟩ := hj
    exact za1 hl hb
   have hj0 : (0 : Int) ≤ (j : Int) := by omega
   have hc1 := fun e nx' (h : nx ≤ nx') => zd3 l (p + 1 + 1) e i nx' (by omega)
   rw [hj] at hR hix
   simp only [Option.isSome_some, if_true] at hR hix
   (refine RetX.of_bodyW Tryz.func81 rfl (by simp) fun Γ hn hpan => ?_); simp only [entry, ziC, ziN, maC, maN, oA, Tryz.ntmps81]
   repeat' (first
  | ((first | refine zaf ?_ | refine zaj ?_ | refine zah ?_ | refine zai ?_ | fail); simp [hne, del, nAA, hj0])
  | (refine zaq ?_; simp only [zap])
  | (refine CallP.fE (hor) (by first | rfl | fail) (by first | simp [hne, del, nAA, hj0] <;> rfl | fail) ?_; (try simp [hne, del, nAA, hj0]))
  | (refine CallP.ok1 (hh1 _ (by first | omega | simp <;> omega | fail)) (by first | (simp [hne, del, nAA, hj0, zaa, getK, zab, zac]; done) | fail) (by rfl) (by rfl) ?_; (try simp [hne, del, nAA, hj0]))
  | (refine CallP.ok1 (hix _ (by first | omega | simp <;> omega | fail)) (by first | (simp [hne, del, nAA, hj0, zaa, getK, zab, zac]; done) | fail) (by rfl) (by rfl) ?_; (try simp [hne, del, nAA, hj0]))
  | (refine CallP.ok1 (hc1 _ _ (by first | omega | simp <;> omega | fail)) (by first | (simp [hne, del, nAA, hj0, zaa, getK, zab, zac]; done) | fail) (by rfl) (by rfl) ?_; (try simp [hne, del, nAA, hj0]))
  | (refine zar (by first | rfl | fail) ?_; simp [hne, del, nAA, hj0, frzN, frz1, zaz, zay, St.frz, St.frzS, frzS, fv, zaH, za3, za5, zaE, zat, zal, del, frz, za6])
  | fail)
   (refine CallP.pp (zeG hl [59] (q := p + 1 + 1) (i := i) (by first | omega | simp <;> omega | fail) g2) (by first | (simp [hi, hne, nAA, zaa, getK, zab, zac]; done) | fail) (by rfl) (by first | assumption | (simp; done) | fail) (by rfl) (by simp) (fun v2 q2 h2 => ?_) (fun pos e q' h2 => ⟨_, Wk.refl _, ?_⟩); rotate_left 1; (focus (rw [h2, PR.zaQ] at hR; (refine hpan _ _ ⟨{ n := _, env := [], obs := [(i, pOb l q')], next := nx }, (Wk.cut rfl (by simp [hn]) (by simp [wkO, zaa, getK, zab, zac, Ob.under, D.under, zad, zae, hi, hne, nAA, zab, zac, zaa, getK]) (by simp [wkU, zan, zaa, getK, D.under, hi, hne, nAA, zab, zac, zaa, getK]) (by simp [wkE, zan, zaa, getK, hi, hne, nAA, zab, zac, zaa, getK])), by simp [hn], ?_⟩; try simp); exact PPost.zax hR.symm)); rw [h2, PR.zav] at hR; (try simp [hi, hne, nAA]))
   repeat' (first
  | ((first | refine zaf ?_ | refine zaj ?_ | refine zah ?_ | fail); simp [hne, del])
  | (refine zas ?_; simp only [zap])
  | fail)
   (refine EndW.here ?_; (first | (refine EndOK.fin (.inr rfl) ?_) | (refine EndOK.fin (.inl rfl) ?_)); simp [zaM, zag, Tryz.results81, hne, hi]; refine FinOK.cut [(i, pOb l q2)] (nx) (by simp [zaa, getK, zab, zac, Ob.under, D.under, zad, zae, hne, hi] <;> omega) (by simp [D.under]) (by simp [hn]) ?_; try simp)
   exact PPost.zcr hR.symm rfl rfl
 ·rw [if_neg c1] at hR
  simp only [c1, Bool.false_eq_true, if_false] at hh1
  (refine RetX.of_bodyW Tryz.func81 rfl (by simp) fun Γ hn hpan => ?_); simp only [entry, ziC, ziN, maC, maN, oA, Tryz.ntmps81]
  repeat' (first
  | ((first | refine zaf ?_ | refine zaj ?_ | refine zah ?_ | refine zai ?_ | fail); simp [hne, del, nAA])
  | (refine zas ?_; simp only [zap])
  | (refine CallP.ok1 (hh1 _ (by first | omega | simp <;> omega | fail)) (by first | (simp [hne, del, nAA, zaa, getK, zab, zac]; done) | fail) (by rfl) (by rfl) ?_; (try simp [hne, del, nAA]))
  | fail)
  (refine EndW.here ?_; (first | (refine EndOK.fin (.inr rfl) ?_) | (refine EndOK.fin (.inl rfl) ?_)); simp [zaM, zag, Tryz.results81, hne, hi]; refine FinOK.cut [(i, pOb l p)] (nx) (by simp [zaa, getK, zab, zac, Ob.under, D.under, zad, zae, hne, hi] <;> omega) (by simp [D.under]) (by simp [hn]) ?_; try simp)
  exact PPost.zcr hR.symm rfl rfl
theorem zjV {l : List Tok} (hl : TokOK l) {p q : Nat} {n : Int} (h : zdK l p = .ok n q) (hp : p < l.length) : p ≤ q ∧ q < l.length := by
 unfold zdK at h
 split at h
 ·split at h
  ·rename_i j hj
   rw [List.findIdx?_eq_some_iff_getElem] at hj
   obtain ⟨_, hb, _⟩ := hj
   obtain ⟨_, r2, h2, h⟩ := PR.zao h
   have g2 := zaO hl _ h2 (za1 hl hb)
   cases h
   exact ⟨by omega, g2.2⟩
  ·cases h
 ·cases h; exact ⟨by omega, hp⟩
theorem zjy (x : Let) (s : W8) : Fun Tryz.prog 82 (zos x :: [U.row [.str s] 0].map .u) (· = .u (.bool (decide (x.name = s)))) := by
 simp only [zos, List.map_cons, List.map_nil]
 (refine Fun.of_body Tryz.func82 rfl (by simp) fun Γ hn => ?_); simp only [entry, ziC, ziN, maC, maN, oA, Tryz.ntmps82]
 repeat' (first
  | ((first | refine zaf ?_ | refine zaj ?_ | refine zah ?_ | fail); simp)
  | (refine zas ?_; simp only [zap])
  | fail)
 (refine EndOK.val (.inr rfl) ?_; simp [zaM, zag, zau, Tryz.results82])
theorem znE (lets : List Let) (s : W8) : Fun Tryz.prog 67 [.u (zfH lets), .fnc (.func 82) [.u (.row [.str s] 0)]]
  (· = .u (.bool (lets.any fun x => decide (x.name = s)))) :=
 zfU lets 82 [U.row [.str s] 0] _ (fun x _ => zjy x s) (by simp) (fun _ => rfl) (fun _ => rfl)
theorem zno (l : List Tok) (hl0 : 0 < l.length) (hl : TokOK l) (hl2 : l.length ≤ 2001) :
  RetX Tryz.prog 37 [.ptr 3 0] [(3, pOb l 0)] 4 (PPost l 3 4 byD (zkL l)) := by
 have hi : 3 < 4 := by decide
 have hne := zaB hi
 have hll := hl.len
 have htE : True := trivial
 generalize hR : zkL l = R
 rw [zkL] at hR
 (refine RetX.of_bodyW Tryz.func37 rfl (by simp) fun Γ hn hpan => ?_); simp only [entry, ziC, ziN, maC, maN, oA, Tryz.ntmps37]
 repeat' (first
  | ((first | refine zaf ?_ | refine zaj ?_ | refine zah ?_ | fail); simp [hne])
  | fail)
 (refine CallP.pp (zpL l 0 3 _ (by first | omega | simp <;> omega | fail) hl0 hl) (by first | (simp [hi, hne, del, htE, zaa, getK, zab, zac]; done) | fail) (by rfl) (by first | assumption | (simp; done) | fail) (by rfl) (by simp) (fun kb q1 h1 => ?_) (fun pos e q' h1 => ⟨_, Wk.refl _, ?_⟩); rotate_left 1; (focus (rw [h1, PR.zaQ] at hR; (refine hpan _ _ ⟨{ n := _, env := [], obs := [(3, pOb l q')], next := 4 }, (Wk.cut rfl (by simp [hn]) (by simp [wkO, zaa, getK, zab, zac, Ob.under, D.under, zad, zae, hi, hne, del, htE, zab, zac, zaa, getK]) (by simp [wkU, zan, zaa, getK, D.under, hi, hne, del, htE, zab, zac, zaa, getK]) (by simp [wkE, zan, zaa, getK, hi, hne, del, htE, zab, zac, zaa, getK])), by simp [hn], ?_⟩; try simp); exact PPost.zax hR.symm)); rw [h1, PR.zav] at hR; (try simp [hi, hne, del, htE]))
 obtain ⟨_, g1⟩ := zlX hl h1 hl0
 have hm := zdY l q1 [112, 101, 114, 105, 111, 100] g1 hl.len
 repeat' (first
  | ((first | refine zaf ?_ | refine zaj ?_ | refine zah ?_ | fail); simp [hne, del])
  | (refine CallP.fE (hm) (by first | rfl | fail) (by first | simp [hne, del] <;> rfl | fail) ?_; (try simp [hne, del]))
  | fail)
 (refine CallP.pp (zlF l q1 [112, 101, 114, 105, 111, 100] 3 _ (by first | omega | simp <;> omega | fail) g1 hl) (by first | (simp [hi, hne, del, htE, zaa, getK, zab, zac]; done) | fail) (by rfl) (by first | assumption | (simp; done) | fail) (by rfl) (by simp) (fun u2 q2 h2 => ?_) (fun pos e q' h2 => ⟨_, Wk.refl _, ?_⟩); rotate_left 1; (focus (rw [h2, PR.zaQ] at hR; (refine hpan _ _ ⟨{ n := _, env := [], obs := [(3, pOb l q')], next := 4 }, (Wk.cut rfl (by simp [hn]) (by simp [wkO, zaa, getK, zab, zac, Ob.under, D.under, zad, zae, hi, hne, del, htE, zab, zac, zaa, getK]) (by simp [wkU, zan, zaa, getK, D.under, hi, hne, del, htE, zab, zac, zaa, getK]) (by simp [wkE, zan, zaa, getK, hi, hne, del, htE, zab, zac, zaa, getK])), by simp [hn], ?_⟩; try simp); exact PPost.zax hR.symm)); rw [h2, PR.zav] at hR; (try simp [hi, hne, del, htE]))
 obtain ⟨rfl, _⟩ := zk5 h2
 repeat' (first
  | ((first | refine zaf ?_ | refine zaj ?_ | refine zah ?_ | fail); simp [hne, del])
  | (refine zar (by first | rfl | fail) ?_; simp [hne, del, frzN, frz1, zaz, zay, St.frz, St.frzS, frzS, fv, zaH, za3, za5, zaE, zat, zal, del, frz, za6])
  | fail)
 (refine CallP.pp (zdX l q2 [112, 101, 114, 105, 111, 100] 1 1000 [[100, 97, 121, 115], [59]] 3 _ (by first | omega | simp <;> omega | fail) g1 hl (by simp)) (by first | (simp [hi, hne, del, htE, zaa, getK, zab, zac]; done) | fail) (by rfl) (by first | assumption | (simp; done) | fail) (by rfl) (by simp) (fun period q3 h3 => ?_) (fun pos e q' h3 => ⟨_, Wk.refl _, ?_⟩); rotate_left 1; (focus (rw [h3, PR.zaQ] at hR; (refine hpan _ _ ⟨{ n := _, env := [], obs := [(3, pOb l q')], next := 4 }, (Wk.cut rfl (by simp [hn]) (by simp [wkO, zaa, getK, zab, zac, Ob.under, D.under, zad, zae, hi, hne, del, htE, zab, zac, zaa, getK]) (by simp [wkU, zan, zaa, getK, D.under, hi, hne, del, htE, zab, zac, zaa, getK]) (by simp [wkE, zan, zaa, getK, hi, hne, del, htE, zab, zac, zaa, getK])), by simp [hn], ?_⟩; try simp); exact PPost.zax hR.symm)); rw [h3, PR.zav] at hR; (try simp [hi, hne, del, htE]))
 obtain ⟨_, g3⟩ := zbI hl h3 g1
 repeat' (first
  | ((first | refine zaf ?_ | refine zaj ?_ | refine zah ?_ | fail); simp [hne, del])
  | fail)
 have hm := zdY l q3 [108, 97, 115, 116] g3 hl.len
 repeat' (first
  | (refine zaf ?_; simp [hne, del])
  | (refine CallP.fE (hm) (by first | rfl | fail) (by first | simp [hne, del] <;> rfl | fail) ?_; (try simp [hne, del]))
  | fail)
 (refine CallP.pp (zlF l q3 [108, 97, 115, 116] 3 _ (by first | omega | simp <;> omega | fail) g3 hl) (by first | (simp [hi, hne, del, htE, zaa, getK, zab, zac]; done) | fail) (by rfl) (by first | assumption | (simp; done) | fail) (by rfl) (by simp) (fun u4 q4 h4 => ?_) (fun pos e q' h4 => ⟨_, Wk.refl _, ?_⟩); rotate_left 1; (focus (rw [h4, PR.zaQ] at hR; (refine hpan _ _ ⟨{ n := _, env := [], obs := [(3, pOb l q')], next := 4 }, (Wk.cut rfl (by simp [hn]) (by simp [wkO, zaa, getK, zab, zac, Ob.under, D.under, zad, zae, hi, hne, del, htE, zab, zac, zaa, getK]) (by simp [wkU, zan, zaa, getK, D.under, hi, hne, del, htE, zab, zac, zaa, getK]) (by simp [wkE, zan, zaa, getK, hi, hne, del, htE, zab, zac, zaa, getK])), by simp [hn], ?_⟩; try simp); exact PPost.zax hR.symm)); rw [h4, PR.zav] at hR; (try simp [hi, hne, del, htE]))
 obtain ⟨rfl, _⟩ := zk5 h4
 repeat' (first
  | ((first | refine zaf ?_ | refine zaj ?_ | refine zah ?_ | fail); simp [hne, del])
  | (refine zar (by first | rfl | fail) ?_; simp [hne, del, frzN, frz1, zaz, zay, St.frz, St.frzS, frzS, fv, zaH, za3, za5, zaE, zat, zal, del, frz, za6])
  | fail)
 (refine CallP.pp (zdX l q4 [108, 97, 115, 116] 1 1000 [[59]] 3 _ (by first | omega | simp <;> omega | fail) g3 hl (by simp)) (by first | (simp [hi, hne, del, htE, zaa, getK, zab, zac]; done) | fail) (by rfl) (by first | assumption | (simp; done) | fail) (by rfl) (by simp) (fun last q5 h5 => ?_) (fun pos e q' h5 => ⟨_, Wk.refl _, ?_⟩); rotate_left 1; (focus (rw [h5, PR.zaQ] at hR; (refine hpan _ _ ⟨{ n := _, env := [], obs := [(3, pOb l q')], next := 4 }, (Wk.cut rfl (by simp [hn]) (by simp [wkO, zaa, getK, zab, zac, Ob.under, D.under, zad, zae, hi, hne, del, htE, zab, zac, zaa, getK]) (by simp [wkU, zan, zaa, getK, D.under, hi, hne, del, htE, zab, zac, zaa, getK]) (by simp [wkE, zan, zaa, getK, hi, hne, del, htE, zab, zac, zaa, getK])), by simp [hn], ?_⟩; try simp); exact PPost.zax hR.symm)); rw [h5, PR.zav] at hR; (try simp [hi, hne, del, htE]))
 obtain ⟨_, g5⟩ := zbI hl h5 g3
 repeat' (first
  | ((first | refine zaf ?_ | refine zaj ?_ | refine zah ?_ | fail); simp [hne, del])
  | (refine zar (by first | rfl | fail) ?_; simp [hne, del, frzN, frz1, zaz, zay, St.frz, St.frzS, frzS, fv, zaH, za3, za5, zaE, zat, zal, del, frz, za6])
  | fail)
 (refine CallP.pp (zdX l q5 [103, 114, 97, 99, 101] 0 1000 [[100, 97, 121, 115], [59]] 3 _ (by first | omega | simp <;> omega | fail) g5 hl (by simp)) (by first | (simp [hi, hne, del, htE, zaa, getK, zab, zac]; done) | fail) (by rfl) (by first | assumption | (simp; done) | fail) (by rfl) (by simp) (fun grace q6 h6 => ?_) (fun pos e q' h6 => ⟨_, Wk.refl _, ?_⟩); rotate_left 1; (focus (rw [h6, PR.zaQ] at hR; (refine hpan _ _ ⟨{ n := _, env := [], obs := [(3, pOb l q')], next := 4 }, (Wk.cut rfl (by simp [hn]) (by simp [wkO, zaa, getK, zab, zac, Ob.under, D.under, zad, zae, hi, hne, del, htE, zab, zac, zaa, getK]) (by simp [wkU, zan, zaa, getK, D.under, hi, hne, del, htE, zab, zac, zaa, getK]) (by simp [wkE, zan, zaa, getK, hi, hne, del, htE, zab, zac, zaa, getK])), by simp [hn], ?_⟩; try simp); exact PPost.zax hR.symm)); rw [h6, PR.zav] at hR; (try simp [hi, hne, del, htE]))
 obtain ⟨_, g6⟩ := zbI hl h6 g5
 repeat' (first
  | ((first | refine zaf ?_ | refine zaj ?_ | refine zah ?_ | fail); simp [hne, del])
  | (refine zar (by first | rfl | fail) ?_; simp [hne, del, frzN, frz1, zaz, zay, St.frz, St.frzS, frzS, fv, zaH, za3, za5, zaE, zat, zal, del, frz, za6])
  | fail)
 (refine CallP.pp (zdX l q6 [119, 97, 105, 116] 0 1000 [[100, 97, 121, 115], [59]] 3 _ (by first | omega | simp <;> omega | fail) g6 hl (by simp)) (by first | (simp [hi, hne, del, htE, zaa, getK, zab, zac]; done) | fail) (by rfl) (by first | assumption | (simp; done) | fail) (by rfl) (by simp) (fun wait q7 h7 => ?_) (fun pos e q' h7 => ⟨_, Wk.refl _, ?_⟩); rotate_left 1; (focus (rw [h7, PR.zaQ] at hR; (refine hpan _ _ ⟨{ n := _, env := [], obs := [(3, pOb l q')], next := 4 }, (Wk.cut rfl (by simp [hn]) (by simp [wkO, zaa, getK, zab, zac, Ob.under, D.under, zad, zae, hi, hne, del, htE, zab, zac, zaa, getK]) (by simp [wkU, zan, zaa, getK, D.under, hi, hne, del, htE, zab, zac, zaa, getK]) (by simp [wkE, zan, zaa, getK, hi, hne, del, htE, zab, zac, zaa, getK])), by simp [hn], ?_⟩; try simp); exact PPost.zax hR.symm)); rw [h7, PR.zav] at hR; (try simp [hi, hne, del, htE]))
 obtain ⟨_, g7⟩ := zbI hl h7 g6
 repeat' (first
  | ((first | refine zaf ?_ | refine zaj ?_ | refine zah ?_ | fail); simp [hne, del])
  | fail)
 (refine CallP.pp (znV l q7 3 _ (by first | omega | simp <;> omega | fail) g7 hl) (by first | (simp [hi, hne, del, htE, zaa, getK, zab, zac]; done) | fail) (by rfl) (by first | assumption | (simp; done) | fail) (by rfl) (by simp) (fun order q8 h8 => ?_) (fun pos e q' h8 => ⟨_, Wk.refl _, ?_⟩); rotate_left 1; (focus (rw [h8, PR.zaQ] at hR; (refine hpan _ _ ⟨{ n := _, env := [], obs := [(3, pOb l q')], next := 4 }, (Wk.cut rfl (by simp [hn]) (by simp [wkO, zaa, getK, zab, zac, Ob.under, D.under, zad, zae, hi, hne, del, htE, zab, zac, zaa, getK]) (by simp [wkU, zan, zaa, getK, D.under, hi, hne, del, htE, zab, zac, zaa, getK]) (by simp [wkE, zan, zaa, getK, hi, hne, del, htE, zab, zac, zaa, getK])), by simp [hn], ?_⟩; try simp); exact PPost.zax hR.symm)); rw [h8, PR.zav] at hR; (try simp [hi, hne, del, htE]))
 obtain ⟨_, g8⟩ := zjV hl h8 g7
 repeat' (first
  | ((first | refine zaf ?_ | refine zaj ?_ | refine zah ?_ | fail); simp [hne, del])
  | (refine zar (by first | rfl | fail) ?_; simp [hne, del, frzN, frz1, zaz, zay, St.frz, St.frzS, frzS, fv, zaH, za3, za5, zaE, zat, zal, del, frz, za6])
  | fail)
 (refine CallP.pp (zdX l q8 [98, 97, 99, 107, 115] 0 60 [[59]] 3 _ (by first | omega | simp <;> omega | fail) g8 hl (by simp)) (by first | (simp [hi, hne, del, htE, zaa, getK, zab, zac]; done) | fail) (by rfl) (by first | assumption | (simp; done) | fail) (by rfl) (by simp) (fun backs q9 h9 => ?_) (fun pos e q' h9 => ⟨_, Wk.refl _, ?_⟩); rotate_left 1; (focus (rw [h9, PR.zaQ] at hR; (refine hpan _ _ ⟨{ n := _, env := [], obs := [(3, pOb l q')], next := 4 }, (Wk.cut rfl (by simp [hn]) (by simp [wkO, zaa, getK, zab, zac, Ob.under, D.under, zad, zae, hi, hne, del, htE, zab, zac, zaa, getK]) (by simp [wkU, zan, zaa, getK, D.under, hi, hne, del, htE, zab, zac, zaa, getK]) (by simp [wkE, zan, zaa, getK, hi, hne, del, htE, zab, zac, zaa, getK])), by simp [hn], ?_⟩; try simp); exact PPost.zax hR.symm)); rw [h9, PR.zav] at hR; (try simp [hi, hne, del, htE]))
 obtain ⟨_, g9⟩ := zbI hl h9 g8
 repeat' (first
  | ((first | refine zaf ?_ | refine zaj ?_ | refine zah ?_ | fail); simp [hne, del])
  | (refine zar (by first | rfl | fail) ?_; simp [hne, del, frzN, frz1, zaz, zay, St.frz, St.frzS, frzS, fv, zaH, za3, za5, zaE, zat, zal, del, frz, za6])
  | fail)
 (refine CallP.pp (zdX l q9 [118, 111, 105, 99, 101, 115] 0 1000 [[112, 101, 114], [109, 105, 108, 108, 101], [59]] 3 _ (by first | omega | simp <;> omega | fail) g9 hl (by simp)) (by first | (simp [hi, hne, del, htE, zaa, getK, zab, zac]; done) | fail) (by rfl) (by first | assumption | (simp; done) | fail) (by rfl) (by simp) (fun voices q10 h10 => ?_) (fun pos e q' h10 => ⟨_, Wk.refl _, ?_⟩); rotate_left 1; (focus (rw [h10, PR.zaQ] at hR; (refine hpan _ _ ⟨{ n := _, env := [], obs := [(3, pOb l q')], next := 4 }, (Wk.cut rfl (by simp [hn]) (by simp [wkO, zaa, getK, zab, zac, Ob.under, D.under, zad, zae, hi, hne, del, htE, zab, zac, zaa, getK]) (by simp [wkU, zan, zaa, getK, D.under, hi, hne, del, htE, zab, zac, zaa, getK]) (by simp [wkE, zan, zaa, getK, hi, hne, del, htE, zab, zac, zaa, getK])), by simp [hn], ?_⟩; try simp); exact PPost.zax hR.symm)); rw [h10, PR.zav] at hR; (try simp [hi, hne, del, htE]))
 obtain ⟨_, g10⟩ := zbI hl h10 g9
 repeat' (first
  | ((first | refine zaf ?_ | refine zaj ?_ | refine zah ?_ | fail); simp [hne, del])
  | (refine zar (by first | rfl | fail) ?_; simp [hne, del, frzN, frz1, zaz, zay, St.frz, St.frzS, frzS, fv, zaH, za3, za5, zaE, zat, zal, del, frz, za6])
  | fail)
 (refine CallP.pp (zdX l q10 [106, 117, 114, 121] 0 60 [[59]] 3 _ (by first | omega | simp <;> omega | fail) g10 hl (by simp)) (by first | (simp [hi, hne, del, htE, zaa, getK, zab, zac]; done) | fail) (by rfl) (by first | assumption | (simp; done) | fail) (by rfl) (by simp) (fun jury q11 h11 => ?_) (fun pos e q' h11 => ⟨_, Wk.refl _, ?_⟩); rotate_left 1; (focus (rw [h11, PR.zaQ] at hR; (refine hpan _ _ ⟨{ n := _, env := [], obs := [(3, pOb l q')], next := 4 }, (Wk.cut rfl (by simp [hn]) (by simp [wkO, zaa, getK, zab, zac, Ob.under, D.under, zad, zae, hi, hne, del, htE, zab, zac, zaa, getK]) (by simp [wkU, zan, zaa, getK, D.under, hi, hne, del, htE, zab, zac, zaa, getK]) (by simp [wkE, zan, zaa, getK, hi, hne, del, htE, zab, zac, zaa, getK])), by simp [hn], ?_⟩; try simp); exact PPost.zax hR.symm)); rw [h11, PR.zav] at hR; (try simp [hi, hne, del, htE]))
 obtain ⟨_, g11⟩ := zbI hl h11 g10
 repeat' (first
  | ((first | refine zaf ?_ | refine zaj ?_ | refine zah ?_ | fail); simp [hne, del])
  | (refine zar (by first | rfl | fail) ?_; simp [hne, del, frzN, frz1, zaz, zay, St.frz, St.frzS, frzS, fv, zaH, za3, za5, zaE, zat, zal, del, frz, za6])
  | fail)
 (refine CallP.pp (zdX l q11 [102, 117, 110, 100] 0 1000 [[112, 101, 114], [109, 105, 108, 108, 101], [59]] 3 _ (by first | omega | simp <;> omega | fail) g11 hl (by simp)) (by first | (simp [hi, hne, del, htE, zaa, getK, zab, zac]; done) | fail) (by rfl) (by first | assumption | (simp; done) | fail) (by rfl) (by simp) (fun fund q12 h12 => ?_) (fun pos e q' h12 => ⟨_, Wk.refl _, ?_⟩); rotate_left 1; (focus (rw [h12, PR.zaQ] at hR; (refine hpan _ _ ⟨{ n := _, env := [], obs := [(3, pOb l q')], next := 4 }, (Wk.cut rfl (by simp [hn]) (by simp [wkO, zaa, getK, zab, zac, Ob.under, D.under, zad, zae, hi, hne, del, htE, zab, zac, zaa, getK]) (by simp [wkU, zan, zaa, getK, D.under, hi, hne, del, htE, zab, zac, zaa, getK]) (by simp [wkE, zan, zaa, getK, hi, hne, del, htE, zab, zac, zaa, getK])), by simp [hn], ?_⟩; try simp); exact PPost.zax hR.symm)); rw [h12, PR.zav] at hR; (try simp [hi, hne, del, htE]))
 obtain ⟨_, g12⟩ := zbI hl h12 g11
 repeat' (first
  | ((first | refine zaf ?_ | refine zaj ?_ | refine zah ?_ | fail); simp [hne, del])
  | fail)
 refine zhE _ (Wk.ownC 5 _ 11 45 6 (by decide) rfl rfl) ?_
 simp [St.ownC]
 refine zd8 (α := { x : Nat × List Let × Nat // x.1 < l.length ∧ x.2.1.length + x.2.2 = 21 ∧ x.2.1.length ≤ 20 ∧ zdR l 21 q12 [] = zdR l x.2.2 x.1 x.2.1 }) [0, 2, 3] (fun x => [])
  (fun x => [(5, .box [.u (.int .i64 kb.1), .u (.int .i64 period), .u (.int .i64 grace), .u (.int .i64 wait), .u (.int .i64 last), .u (.int .i64 order), .u (.bool kb.2), .u (.int .i64 backs), .u (.int .i64 voices), .u (.int .i64 jury), .u (.int .i64 fund), .vec 14 x.1.2.1.length, .u (.int .i64 0), .u (.int .i64 0), .u (.int .i64 0), .u (.str []), .u .nil, .u (.int .i64 0), .u (.int .i64 0), .u (.int .i64 0), .u (.str []), .u .nil, .u (.int .i64 0), .u (.int .i64 0), .u (.int .i64 0), .u (.str []), .u .nil, .u (.int .i64 0), .u (.int .i64 0), .u (.int .i64 0), .u (.str []), .u .nil, .u (.int .i64 0), .u (.int .i64 0), .u (.int .i64 0), .u (.str []), .u .nil]), (14, .vec 45 6 (rowsD (zgy x.1.2.1))), (4, .box [.u (.int .i64 0), .u (.int .i64 0), .u (.int .i64 0), .u (.int .i64 0), .u (.int .i64 0), .u (.int .i64 0), .u (.bool false), .u (.int .i64 0), .u (.int .i64 0), .u (.int .i64 0), .u (.int .i64 0), .u .nil, .u (.int .i64 0), .u (.int .i64 0), .u (.int .i64 0), .u (.str []), .u .nil, .u (.int .i64 0), .u (.int .i64 0), .u (.int .i64 0), .u (.str []), .u .nil, .u (.int .i64 0), .u (.int .i64 0), .u (.int .i64 0), .u (.str []), .u .nil, .u (.int .i64 0), .u (.int .i64 0), .u (.int .i64 0), .u (.str []), .u .nil, .u (.int .i64 0), .u (.int .i64 0), .u (.int .i64 0), .u (.str []), .u .nil]), (3, pOb l x.1.1)]) 15 (fun x => x.1.2.2) ⟨(q12, [], 21), g12, rfl, by simp, rfl⟩ ?_ ?_
 ·exact (Wk.cut rfl (by simp [hn, St.lp]) (by simp [wkO, St.lp, zaa, getK, Ob.under, D.under, zad, zae, zgy]) (by simp [wkU, St.lp, zan, zaa, getK, D.under, zgy]) (by simp [wkE, St.lp, zan, zaa, getK, zgy] <;> (try (intros; simp_all; done)) <;> (try (intros; omega)) <;> (try grind)))
 rintro ⟨⟨q, acc, g⟩, gq, hg, hg2, hS⟩
 simp only at gq hg hg2 hS
 simp [St.lp, St.only, zan, zaa, getK]
 have hm := zdY l q [108, 101, 116] gq hl.len
 have hAl := zol acc
 have hsn := zmZ acc
 generalize hA : zgy acc = A at *
 have htk : A.take acc.length = A := List.take_of_length_le (by omega)
 obtain ⟨g, rfl⟩ : ∃ g', g = g' + 1 := ⟨g - 1, by omega⟩
 by_cases hb : isB l q [108, 101, 116] = true
 ·have g1q := za1 hl hb
  obtain ⟨t, ht⟩ : ∃ t, l[q + 1]? = some t := ⟨_, List.getElem?_eq_getElem g1q⟩
  have hnx := zbL l (q + 1) t ht hl.len
  rw [zmY ht, if_pos hb] at hS
  rw [hS, PR.zel] at hR
  rw [hb] at hm
  repeat' (first
  | ((first | refine zaf ?_ | refine zaj ?_ | refine zah ?_ | refine zai ?_ | refine zaD ?_ | fail); simp [hne, del, hAl])
  | (refine zaq ?_; simp only [zap])
  | (refine CallP.fE (hm) (by first | rfl | fail) (by first | simp [hne, del, hAl] <;> rfl | fail) ?_; (try simp [hne, del, hAl]))
  | fail)
  (refine CallP.pp (zhu l q (decide ((acc.length : Int) < 20)) 6 3 _ (by first | omega | simp <;> omega | fail) gq hl) (by first | (simp [hi, hne, del, zaa, getK, zab, zac]; done) | fail) (by rfl) (by first | assumption | (simp; done) | fail) (by rfl) (by simp) (fun u20 q20 h20 => ?_) (fun pos e q' h20 => ⟨_, Wk.refl _, ?_⟩); rotate_left 1; (focus (rw [h20, PR.zaQ] at hR; (refine hpan _ _ ⟨{ n := _, env := [], obs := [(3, pOb l q')], next := 4 }, (Wk.cut rfl (by simp [hn]) (by simp [wkO, zaa, getK, zab, zac, Ob.under, D.under, zad, zae, hi, hne, del, zab, zac, zaa, getK]) (by simp [wkU, zan, zaa, getK, D.under, hi, hne, del, zab, zac, zaa, getK]) (by simp [wkE, zan, zaa, getK, hi, hne, del, zab, zac, zaa, getK])), by simp [hn], ?_⟩; try simp); exact PPost.zax hR.symm)); rw [h20, PR.zav] at hR; (try simp [hi, hne, del]))
  obtain ⟨rfl, hlt⟩ := zoR h20
  rw [h20, PR.zav] at hS
  rw [PR.zel] at hR
  by_cases hw : t.kind = 1
  case neg =>
   have hc2 := fun e nx' (h : 15 ≤ nx') => zcS l (q20 + 1) t e 3 nx' (by omega) ht hl.len
   have e3 : znv l (q20 + 1) (decide (t.kind = 1) && zbr t.text) 12 = .stop t.pos 12 := by
    unfold znv zco; rw [ht]; simp [hw]
   rw [e3, PR.zaQ] at hR
   repeat' (first
  | ((first | refine zaf ?_ | refine zaj ?_ | fail); simp [hne, del, hw])
  | (refine ⟨by omega, ?_⟩)
  | (refine zah ?_; simp [hne, del, hw])
  | (refine CallP.fE (hnx) (by first | rfl | fail) (by first | simp [hne, del, hw] <;> rfl | fail) ?_; (try simp [hne, del, hw]))
  | (refine CallP.zem (hc2 _ _ (by first | omega | simp <;> omega | fail)) (by first | (simp [hne, del, hw, zaa, getK, zab, zac]; done) | fail) (by rfl) (by first | assumption | (simp; done) | fail) (by rfl) (by simp) ?_; rintro ob' ⟨q', rfl⟩; refine ⟨_, Wk.refl _, ?_⟩)
  | fail)
   (refine hpan _ _ ⟨{ n := _, env := [], obs := [(3, pOb l q')], next := 4 }, (Wk.cut rfl (by simp [hn]) (by simp [wkO, zaa, getK, zab, zac, Ob.under, D.under, zad, zae, hi, hne, zab, zac, zaa, getK]) (by simp [wkU, zan, zaa, getK, D.under, hi, hne, zab, zac, zaa, getK]) (by simp [wkE, zan, zaa, getK, hi, hne, zab, zac, zaa, getK])), by simp [hn], ?_⟩; try simp)
   exact PPost.zax hR.symm
  have hnm := ze0 t.text
  have e3 : (decide (t.kind = 1) && zbr t.text) = zbr t.text := by simp [hw]
  rw [e3] at hR hS
  generalize zbr t.text = nb at hnm hR hS
  repeat' (first
  | ((first | refine zaf ?_ | refine zaj ?_ | fail); simp [hne, del, hw])
  | (refine ⟨by omega, ?_⟩)
  | (refine zah ?_; simp [hne, del, hw])
  | (refine CallP.fE (hnx) (by first | rfl | fail) (by first | simp [hne, del, hw] <;> rfl | fail) ?_; (try simp [hne, del, hw]))
  | (refine CallP.fE (hnm) (by first | rfl | fail) (by first | simp [hne, del, hw] <;> rfl | fail) ?_; (try simp [hne, del, hw]))
  | fail)
  (refine CallP.pp (zhu l (q20 + 1) nb 12 3 _ (by first | omega | simp <;> omega | fail) g1q hl) (by first | (simp [hi, hne, del, zaa, getK, zab, zac]; done) | fail) (by rfl) (by first | assumption | (simp; done) | fail) (by rfl) (by simp) (fun u21 q21 h21 => ?_) (fun pos e q' h21 => ⟨_, Wk.refl _, ?_⟩); rotate_left 1; (focus (rw [h21, PR.zaQ] at hR; (refine hpan _ _ ⟨{ n := _, env := [], obs := [(3, pOb l q')], next := 4 }, (Wk.cut rfl (by simp [hn]) (by simp [wkO, zaa, getK, zab, zac, Ob.under, D.under, zad, zae, hi, hne, del, zab, zac, zaa, getK]) (by simp [wkU, zan, zaa, getK, D.under, hi, hne, del, zab, zac, zaa, getK]) (by simp [wkE, zan, zaa, getK, hi, hne, del, zab, zac, zaa, getK])), by simp [hn], ?_⟩; try simp); exact PPost.zax hR.symm)); rw [h21, PR.zav] at hR; (try simp [hi, hne, del]))
  obtain ⟨rfl, hnb⟩ := zoR h21
  rw [h21, PR.zav] at hS
  rw [PR.zel] at hR
  have htw := znE acc t.text
  have htw : Fun Tryz.prog 67 [.u (.sl (zgy acc)), .fnc (.func 82) [.u (.row [.str t.text] 0)]] (· = .u (.bool (acc.any fun x => decide (x.name = t.text)))) := htw
  rw [hA] at htw
  generalize (acc.any fun x => decide (x.name = t.text)) = tb at htw hR hS
  repeat' (first
  | ((first | refine zaf ?_ | refine zaj ?_ | refine zah ?_ | fail); simp [hne, del, hw, htk, hAl])
  | (refine CallP.fE (htw) (by first | rfl | fail) (by first | simp [hne, del, hw, htk, hAl] <;> rfl | fail) ?_; (try simp [hne, del, hw, htk, hAl]))
  | fail)
  (refine CallP.pp (zhu l (q20 + 1) (!tb) 5 3 _ (by first | omega | simp <;> omega | fail) g1q hl) (by first | (simp [hi, hne, del, zaa, getK, zab, zac]; done) | fail) (by rfl) (by first | assumption | (simp; done) | fail) (by rfl) (by simp) (fun u22 q22 h22 => ?_) (fun pos e q' h22 => ⟨_, Wk.refl _, ?_⟩); rotate_left 1; (focus (rw [h22, PR.zaQ] at hR; (refine hpan _ _ ⟨{ n := _, env := [], obs := [(3, pOb l q')], next := 4 }, (Wk.cut rfl (by simp [hn]) (by simp [wkO, zaa, getK, zab, zac, Ob.under, D.under, zad, zae, hi, hne, del, zab, zac, zaa, getK]) (by simp [wkU, zan, zaa, getK, D.under, hi, hne, del, zab, zac, zaa, getK]) (by simp [wkE, zan, zaa, getK, hi, hne, del, zab, zac, zaa, getK])), by simp [hn], ?_⟩; try simp); exact PPost.zax hR.symm)); rw [h22, PR.zav] at hR; (try simp [hi, hne, del]))
  obtain ⟨rfl, htb⟩ := zoR h22
  rw [h22, PR.zav] at hS
  rw [PR.zel] at hR
  have g2q := hl.fin (q20 + 1) t ht (by omega)
  repeat' (first
  | ((first | refine zaf ?_ | refine zaj ?_ | fail); simp [hne, del])
  | (refine ⟨by omega, ?_⟩)
  | (refine zah ?_; simp [hne, del])
  | (refine zar (by first | rfl | fail) ?_; simp [hne, del, frzN, frz1, zaz, zay, St.frz, St.frzS, frzS, fv, zaH, za3, za5, zaE, zat, zal, del, frz, za6])
  | fail)
  (refine CallP.pp (zeG hl [61] (q := q20 + 1 + 1) (i := 3) (by first | omega | simp <;> omega | fail) g2q) (by first | (simp [hi, hne, del, zaa, getK, zab, zac]; done) | fail) (by rfl) (by first | assumption | (simp; done) | fail) (by rfl) (by simp) (fun u23 q23 h23 => ?_) (fun pos e q' h23 => ⟨_, Wk.refl _, ?_⟩); rotate_left 1; (focus (rw [h23, PR.zaQ] at hR; (refine hpan _ _ ⟨{ n := _, env := [], obs := [(3, pOb l q')], next := 4 }, (Wk.cut rfl (by simp [hn]) (by simp [wkO, zaa, getK, zab, zac, Ob.under, D.under, zad, zae, hi, hne, del, zab, zac, zaa, getK]) (by simp [wkU, zan, zaa, getK, D.under, hi, hne, del, zab, zac, zaa, getK]) (by simp [wkE, zan, zaa, getK, hi, hne, del, zab, zac, zaa, getK])), by simp [hn], ?_⟩; try simp); exact PPost.zax hR.symm)); rw [h23, PR.zav] at hR; (try simp [hi, hne, del]))
  obtain ⟨_, g23⟩ := zaO hl _ h23 g2q
  rw [h23, PR.zav] at hS
  rw [PR.zel] at hR
  have hwh := fun nx' (h : 15 ≤ nx') => zgT l q23 3 nx' (by omega) g23 hl hl2
  cases hr : zcX l q23 with
  | stop pos e =>
   rw [hr, PR.zaQ] at hR
   simp only [hr] at hwh
   repeat' (first
  | (refine zf3 (fun nx' h' => hwh nx' (by simp at h'; omega)) (by first | (simp [hne, del, htk, hAl, zaa, getK, zab, zac, zak, zaP]; done) | fail) (by rfl) (by first | assumption | simp) (by rfl) (by simp) ?_ ?_; rintro env' ob' n' hn' ⟨q', rfl⟩; refine ⟨_, Wk.refl _, ?_⟩)
  | (refine zeW rfl (by simp) ?_; simp)
  | ((first | refine zbo rfl ?_ | refine zaj ?_ | fail); simp [hne, del, htk, hAl])
  | (refine zf4 (hC _ (by kernel_rfl)) rfl; done)
  | (refine zb0 rfl (by kernel_rfl) (by first | (simp [hn]; done) | (simp [hn]; omega) | fail) fun C k hC hk => ?_; simp [hne, del, htk, hAl])
  | fail)
   (refine hpan _ _ ⟨{ n := _, env := [], obs := [(3, pOb l q')], next := 4 }, (Wk.cut rfl (by simp [hn]) (by simp [wkO, zaa, getK, zab, zac, Ob.under, D.under, zad, zae, hi, hne, zab, zac, zaa, getK]) (by simp [wkU, zan, zaa, getK, D.under, hi, hne, zab, zac, zaa, getK]) (by simp [wkE, zan, zaa, getK, hi, hne, zab, zac, zaa, getK])), by simp [hn], ?_⟩; try simp)
   exact PPost.zax hR.symm
  | ok e r =>
   have hwh := fun nx' h => zc0 (hwh nx' h) hr
   obtain ⟨_, g24⟩ := zea hl hr g23
   rw [hr, PR.zav] at hS
   repeat' (first
  | (refine zhA (fun nx' h' => hwh nx' (by simp at h'; omega)) (by first | (simp [hne, del, htk, hAl, zaa, getK, zab, zac, zak, zaP]; done) | fail) (by rfl) (by first | assumption | simp) (by rfl) (by simp [D.under, Ob.under]) (by simp) ?_; (try simp [hne, del, htk, hAl]))
  | ((first | refine zbo rfl ?_ | refine zb8 rfl ?_ | refine zaj ?_ | fail); simp [hne, del, htk, hAl])
  | (refine ⟨by omega, ?_⟩)
  | (refine zbH (hC _ (by kernel_rfl)) (hk _ ?_); clear hC hk C k; simp only [zap])
  | (refine zb0 rfl (by kernel_rfl) (by first | (simp [hn]; done) | (simp [hn]; omega) | fail) fun C k hC hk => ?_; simp [hne, del, htk, hAl])
  | fail)
   have hlt' : acc.length < 20 := by have := of_decide_eq_true hlt; omega
   refine LoopW.next ⟨(r, acc ++ [⟨t.text, e⟩], g), g24, (by simp; omega), (by simp; omega), hS⟩ (by simp) ?_
   exact (Wk.ren ((fun j => if j = 14 then 18 else j)) rfl (by first | (simp [hn]; done) | (intro i hi; rw [hn] at hi; constructor <;> (try simp) <;> (try (intro _)) <;> omega)) (by simp [zgx, St.lp, zan, zaa, getK, zac, zak, D.under, D.le, D.ren, hsn, htk] <;> (try (intros; simp_all; done)) <;> (try omega)) (by simp [wkR, St.lp, zaa, getK, zac, zak, obR, leU, zbg, zaS, Ob.under, D.under, D.le, D.ren, hsn, htk] <;> (try (intros; simp_all; done)) <;> (try omega)) (by simp [hsn, htk]))
 ·rw [zok hb] at hS
  rw [hS, PR.zav] at hR
  have hb2 : isB l q [108, 101, 116] = false := by simpa using hb
  rw [hb2] at hm
  repeat' (first
  | ((first | refine zaf ?_ | refine zaj ?_ | refine zah ?_ | refine zai ?_ | fail); simp [hne, del])
  | (refine zce ?_; simp [zap])
  | (refine CallP.fE (hm) (by first | rfl | fail) (by first | simp [hne, del] <;> rfl | fail) ?_; (try simp [hne, del]))
  | (refine zar (by first | rfl | fail) ?_; simp [hne, del, frzN, frz1, zaz, zay, St.frz, St.frzS, frzS, fv, zaH, za3, za5, zaE, zat, zal, del, frz, za6])
  | fail)
  (refine CallP.pp (zeG hl [100, 117, 101] (q := q) (i := 3) (by first | omega | simp <;> omega | fail) gq) (by first | (simp [hi, hne, del, zaa, getK, zab, zac]; done) | fail) (by rfl) (by first | assumption | (simp; done) | fail) (by rfl) (by simp) (fun u30 q30 h30 => ?_) (fun pos e q' h30 => ⟨_, Wk.refl _, ?_⟩); rotate_left 1; (focus (rw [h30, PR.zaQ] at hR; (refine hpan _ _ ⟨{ n := _, env := [], obs := [(3, pOb l q')], next := 4 }, (Wk.cut rfl (by simp [hn]) (by simp [wkO, zaa, getK, zab, zac, Ob.under, D.under, zad, zae, hi, hne, del, zab, zac, zaa, getK]) (by simp [wkU, zan, zaa, getK, D.under, hi, hne, del, zab, zac, zaa, getK]) (by simp [wkE, zan, zaa, getK, hi, hne, del, zab, zac, zaa, getK])), by simp [hn], ?_⟩; try simp); exact PPost.zax hR.symm)); rw [h30, PR.zav] at hR; (try simp [hi, hne, del]))
  obtain ⟨_, g30⟩ := zaO hl _ h30 gq
  repeat' (first
  | ((first | refine zaf ?_ | refine zaj ?_ | refine zah ?_ | fail); simp [hne, del])
  | fail)
  (refine CallP.pp (zgT l q30 3 _ (by first | omega | simp <;> omega | fail) g30 hl hl2) (by first | (simp [hi, hne, del, zeI, Exp.row_eq, zaa, getK, zab, zac]; done) | fail) (by rfl) (by first | assumption | (simp; done) | fail) (by rfl) (by simp) (fun due q31 h31 => ?_) (fun pos e q' h31 => ⟨_, Wk.refl _, ?_⟩); rotate_left 1; (focus (rw [h31, PR.zaQ] at hR; (refine hpan _ _ ⟨{ n := _, env := [], obs := [(3, pOb l q')], next := 4 }, (Wk.cut rfl (by simp [hn]) (by simp [wkO, zaa, getK, zab, zac, Ob.under, D.under, zad, zae, hi, hne, del, zeI, Exp.row_eq, zab, zac, zaa, getK]) (by simp [wkU, zan, zaa, getK, D.under, hi, hne, del, zeI, Exp.row_eq, zab, zac, zaa, getK]) (by simp [wkE, zan, zaa, getK, hi, hne, del, zeI, Exp.row_eq, zab, zac, zaa, getK])), by simp [hn], ?_⟩; try simp); exact PPost.zax hR.symm)); rw [h31, PR.zav] at hR; (try simp [hi, hne, del, zeI, Exp.row_eq]))
  obtain ⟨_, g31⟩ := zea hl h31 g30
  repeat' (first
  | ((first | refine zaf ?_ | refine zaj ?_ | refine zah ?_ | fail); simp [hne, del])
  | fail)
  (refine CallP.pp (ze8 l q31 [102, 105, 110, 101] 3 _ (by first | omega | simp <;> omega | fail) g31 hl hl2) (by first | (simp [hi, hne, del, zeI, Exp.row_eq, zaa, getK, zab, zac]; done) | fail) (by rfl) (by first | assumption | (simp; done) | fail) (by rfl) (by simp) (fun fine q32 h32 => ?_) (fun pos e q' h32 => ⟨_, Wk.refl _, ?_⟩); rotate_left 1; (focus (rw [h32, PR.zaQ] at hR; (refine hpan _ _ ⟨{ n := _, env := [], obs := [(3, pOb l q')], next := 4 }, (Wk.cut rfl (by simp [hn]) (by simp [wkO, zaa, getK, zab, zac, Ob.under, D.under, zad, zae, hi, hne, del, zeI, Exp.row_eq, zab, zac, zaa, getK]) (by simp [wkU, zan, zaa, getK, D.under, hi, hne, del, zeI, Exp.row_eq, zab, zac, zaa, getK]) (by simp [wkE, zan, zaa, getK, hi, hne, del, zeI, Exp.row_eq, zab, zac, zaa, getK])), by simp [hn], ?_⟩; try simp); exact PPost.zax hR.symm)); rw [h32, PR.zav] at hR; (try simp [hi, hne, del, zeI, Exp.row_eq]))
  obtain ⟨_, g32⟩ := zcI hl h32 g31
  repeat' (first
  | (refine zaf ?_; simp [hne, del])
  | fail)
  (refine CallP.pp (ze8 l q32 [112, 97, 121] 3 _ (by first | omega | simp <;> omega | fail) g32 hl hl2) (by first | (simp [hi, hne, del, zeI, Exp.row_eq, zaa, getK, zab, zac]; done) | fail) (by rfl) (by first | assumption | (simp; done) | fail) (by rfl) (by simp) (fun pay q33 h33 => ?_) (fun pos e q' h33 => ⟨_, Wk.refl _, ?_⟩); rotate_left 1; (focus (rw [h33, PR.zaQ] at hR; (refine hpan _ _ ⟨{ n := _, env := [], obs := [(3, pOb l q')], next := 4 }, (Wk.cut rfl (by simp [hn]) (by simp [wkO, zaa, getK, zab, zac, Ob.under, D.under, zad, zae, hi, hne, del, zeI, Exp.row_eq, zab, zac, zaa, getK]) (by simp [wkU, zan, zaa, getK, D.under, hi, hne, del, zeI, Exp.row_eq, zab, zac, zaa, getK]) (by simp [wkE, zan, zaa, getK, hi, hne, del, zeI, Exp.row_eq, zab, zac, zaa, getK])), by simp [hn], ?_⟩; try simp); exact PPost.zax hR.symm)); rw [h33, PR.zav] at hR; (try simp [hi, hne, del, zeI, Exp.row_eq]))
  obtain ⟨_, g33⟩ := zcI hl h33 g32
  repeat' (first
  | (refine zaf ?_; simp [hne, del])
  | fail)
  (refine CallP.pp (ze8 l q33 [99, 111, 118, 101, 114] 3 _ (by first | omega | simp <;> omega | fail) g33 hl hl2) (by first | (simp [hi, hne, del, zeI, Exp.row_eq, zaa, getK, zab, zac]; done) | fail) (by rfl) (by first | assumption | (simp; done) | fail) (by rfl) (by simp) (fun cover q34 h34 => ?_) (fun pos e q' h34 => ⟨_, Wk.refl _, ?_⟩); rotate_left 1; (focus (rw [h34, PR.zaQ] at hR; (refine hpan _ _ ⟨{ n := _, env := [], obs := [(3, pOb l q')], next := 4 }, (Wk.cut rfl (by simp [hn]) (by simp [wkO, zaa, getK, zab, zac, Ob.under, D.under, zad, zae, hi, hne, del, zeI, Exp.row_eq, zab, zac, zaa, getK]) (by simp [wkU, zan, zaa, getK, D.under, hi, hne, del, zeI, Exp.row_eq, zab, zac, zaa, getK]) (by simp [wkE, zan, zaa, getK, hi, hne, del, zeI, Exp.row_eq, zab, zac, zaa, getK])), by simp [hn], ?_⟩; try simp); exact PPost.zax hR.symm)); rw [h34, PR.zav] at hR; (try simp [hi, hne, del, zeI, Exp.row_eq]))
  obtain ⟨_, g34⟩ := zcI hl h34 g33
  repeat' (first
  | (refine zaf ?_; simp [hne, del])
  | fail)
  (refine CallP.pp (ze8 l q34 [104, 111, 108, 100] 3 _ (by first | omega | simp <;> omega | fail) g34 hl hl2) (by first | (simp [hi, hne, del, zeI, Exp.row_eq, zaa, getK, zab, zac]; done) | fail) (by rfl) (by first | assumption | (simp; done) | fail) (by rfl) (by simp) (fun hold q35 h35 => ?_) (fun pos e q' h35 => ⟨_, Wk.refl _, ?_⟩); rotate_left 1; (focus (rw [h35, PR.zaQ] at hR; (refine hpan _ _ ⟨{ n := _, env := [], obs := [(3, pOb l q')], next := 4 }, (Wk.cut rfl (by simp [hn]) (by simp [wkO, zaa, getK, zab, zac, Ob.under, D.under, zad, zae, hi, hne, del, zeI, Exp.row_eq, zab, zac, zaa, getK]) (by simp [wkU, zan, zaa, getK, D.under, hi, hne, del, zeI, Exp.row_eq, zab, zac, zaa, getK]) (by simp [wkE, zan, zaa, getK, hi, hne, del, zeI, Exp.row_eq, zab, zac, zaa, getK])), by simp [hn], ?_⟩; try simp); exact PPost.zax hR.symm)); rw [h35, PR.zav] at hR; (try simp [hi, hne, del, zeI, Exp.row_eq]))
  obtain ⟨_, g35⟩ := zcI hl h35 g34
  obtain ⟨t, ht⟩ : ∃ t, l[q35]? = some t := ⟨_, List.getElem?_eq_getElem g35⟩
  have hnx := zbL l q35 t ht hl.len
  repeat' (first
  | ((first | refine zaf ?_ | refine zaj ?_ | refine zah ?_ | fail); simp [hne, del])
  | (refine CallP.fE (hnx) (by first | rfl | fail) (by first | simp [hne, del] <;> rfl | fail) ?_; (try simp [hne, del]))
  | fail)
  (refine CallP.pp (zq3 ht 3 _ (by first | omega | simp <;> omega | fail) hl) (by first | (simp [hi, hne, del, zaa, getK, zab, zac]; done) | fail) (by rfl) (by first | assumption | (simp; done) | fail) (by rfl) (by simp) (fun u36 q36 h36 => ?_) (fun pos e q' h36 => ⟨_, Wk.refl _, ?_⟩); rotate_left 1; (focus (rw [h36, PR.zaQ] at hR; (refine hpan _ _ ⟨{ n := _, env := [], obs := [(3, pOb l q')], next := 4 }, (Wk.cut rfl (by simp [hn]) (by simp [wkO, zaa, getK, zab, zac, Ob.under, D.under, zad, zae, hi, hne, del, zab, zac, zaa, getK]) (by simp [wkU, zan, zaa, getK, D.under, hi, hne, del, zab, zac, zaa, getK]) (by simp [wkE, zan, zaa, getK, hi, hne, del, zab, zac, zaa, getK])), by simp [hn], ?_⟩; try simp); exact PPost.zax hR.symm)); rw [h36, PR.zav] at hR; (try simp [hi, hne, del]))
  obtain rfl := zrM h36
  repeat' (first
  | ((first | refine zaf ?_ | refine zaj ?_ | refine zah ?_ | fail); simp [hne, del])
  | (refine zas ?_; simp only [zap])
  | fail)
  (refine EndW.frzN 1 ?_; simp [frzN, frz1, zaz, zay, St.frz, St.frzS, frzS, fv, zaH, za3, za5, zaE, zat, zal, del, frz, za6, hAl, htk])
  refine EndW.norm ?_
  simp [St.norm, zbh, zb3, zcs, zct, hne]
  (refine EndW.here ?_; (first | (refine EndOK.fin (.inr rfl) ?_) | (refine EndOK.fin (.inl rfl) ?_)); simp [zaM, zag, Tryz.results37, hne, hi]; refine FinOK.cut [(3, pOb l q36)] (4) (by simp [zaa, getK, zab, zac, Ob.under, D.under, zad, zae, hne, hi] <;> omega) (by simp [D.under]) (by simp [hn]) ?_; try simp)
  exact PPost.zcr hR.symm (by simp [zbf, ← hA, zgy]) rfl
end Go.Proofs.YthnemhfamhnfjaaGreatDoor
namespace Go.Proofs.YthnemhfamhnfjaaGreatDoor
open Go Go.VL
theorem zeP : ∀ ws : List W8, (zbu ws).length ≤ (ws.map fun w => w.length + 1).sum
 | [] => by simp [zbu, spW, zbi]
 | [w] => by rw [za7]; simp
 | w :: v :: l => by rw [zaU]; have := zeP (v :: l); simp at this ⊢; omega
theorem zdl {w : W8} {n : Int} {ws : List W8} (h0 : 0 ≤ n) (h1 : n ≤ 1099511627776) (h : w.length + (ws.map fun w => w.length + 1).sum ≤ 80) : (zb1 w n ws).length ≤ 100 := by
 rw [zb1]
 split
 ·simp
 ·have h2 := ziT h0 h1
  have h3 := zeP (w :: Lib.itoa n :: ws)
  rw [zbF]
  simp at h3 ⊢
  omega
theorem zdN {w : W8} {e : Exp} (hw : w.length ≤ 20) (h : zaA 12 e = true) : (clauseT w e).length ≤ 60000000 := by
 rw [clauseT]
 split
 ·simp
 ·have := zcA h (Nat.le_refl _) 0
  rw [zj5]
  omega
def ziR (b : By) : W8 := zbF (if b.sld = true then [[99, 105, 114, 99, 108, 101], [98, 105, 100, 100, 105, 110, 103], [115, 101, 97, 108, 101, 100]] else [[99, 105, 114, 99, 108, 101], if b.kind = 0 then [114, 111, 116, 97, 116, 105, 110, 103] else if b.kind = 1 then [98, 105, 100, 100, 105, 110, 103] else [115, 97, 118, 105, 110, 103]])
def zhY (o : Int) : W8 := if o = 0 then [] else zbF [[111, 114, 100, 101, 114], ordersW.getD o.toNat []]
def zpH (l : Let) : W8 := zbF [[108, 101, 116], l.name, [61], txt l.body 0]
def zfI (L : List Let) : W8 := (L.map zpH).flatten
/-- The text of bylaws, as Print writes it. -/
noncomputable def textP (b : By) : W8 := ziR b ++ zb1 [112, 101, 114, 105, 111, 100] b.period [[100, 97, 121, 115]] ++ zb1 [108, 97, 115, 116] b.last [] ++ zb1 [103, 114, 97, 99, 101] b.grace [[100, 97, 121, 115]] ++ zb1 [119, 97, 105, 116] b.wait [[100, 97, 121, 115]] ++ zhY b.order ++
 zb1 [98, 97, 99, 107, 115] b.backs [] ++ zb1 [118, 111, 105, 99, 101, 115] b.voices [[112, 101, 114], [109, 105, 108, 108, 101]] ++ zb1 [106, 117, 114, 121] b.jury [] ++ zb1 [102, 117, 110, 100] b.fund [[112, 101, 114], [109, 105, 108, 108, 101]] ++ zfI b.lets ++
 clauseT [100, 117, 101] b.due ++ clauseT [102, 105, 110, 101] b.fine ++ clauseT [112, 97, 121] b.pay ++ clauseT [99, 111, 118, 101, 114] b.cover ++ clauseT [104, 111, 108, 100] b.hold
/-- What Print returns. -/
noncomputable def printB (b : By) : W8 × Int := if zbD b = true then (if 2000 < (textP b).length then ([], 6) else (textP b, 0)) else ([], 1)
theorem zhj : ∀ (seen L : List Let), zdL seen L = true → ∀ l ∈ L, zbr l.name = true ∧ zaA 12 l.body = true
 | _, [], _, l, hl => by cases hl
 | seen, x :: r, h, l, hl => by
  rw [zdL] at h
  simp only [Bool.and_eq_true] at h
  rcases List.mem_cons.1 hl with rfl | hl
  ·exact ⟨h.1.1.1, h.1.1.2⟩
  ·exact zhj _ r h.2 l hl
theorem zlV {l : Let} (hn : zbr l.name = true) (h : zaA 12 l.body = true) : (zpH l).length ≤ 60000000 := by
 have h1 := zeP [[108, 101, 116], l.name, [61], txt l.body 0]
 have h2 := zcA h (Nat.le_refl _) 0
 have h3 := ziO hn
 rw [zpH, zbF]
 simp at h1 ⊢
 omega
theorem zj9 : ∀ (L : List Let), (∀ l ∈ L, zbr l.name = true ∧ zaA 12 l.body = true) → (zfI L).length ≤ L.length * 60000000
 | [], _ => by simp [zfI]
 | l :: r, h => by
  have h1 := zj9 r fun x hx => h x (by simp [hx])
  have h2 := zlV (h l (by simp)).1 (h l (by simp)).2
  simp only [zfI, List.map_cons, List.flatten_cons, List.length_append, List.length_cons] at h1 ⊢
  omega
theorem zmX {L : List Let} {i : Nat} {l : Let} (h : L[i]? = some l) : zfI (L.take (i + 1)) = zfI (L.take i) ++ zpH l := by
 obtain ⟨hi, rfl⟩ := lGE.1 h
 rw [List.take_succ_eq_append_getElem hi, zfI, List.map_append, List.flatten_append]
 simp [zfI]
theorem zk4 {P : Program} {f : FuncId} {a c e : D} {obs nx post} (h : RetX P f [a, c, .u (.sl []), e] obs nx post) : RetX P f [a, c, .u .nil, e] obs nx post := by
 intro k own w vs hsat hhdr hown hrep
 refine h k own w vs hsat hhdr hown ⟨hrep.1, fun j d hj => ?_⟩
 match j, hj with
 | 0, hj => exact hrep.2 0 d hj
 | 1, hj => exact hrep.2 1 d hj
 | 2, hj =>
  cases hj
  have := zda (hrep.2 2 (.u .nil) rfl)
  rw [this]
  exact .u _ _ (.slE none 0 fun _ => rfl)
 | 3, hj => exact hrep.2 3 d hj
end Go.Proofs.YthnemhfamhnfjaaGreatDoor
namespace Go.Proofs.YthnemhfamhnfjaaGreatDoor
open Go Go.VL
def zdV : By := ⟨0, 0, 0, 0, 0, 0, false, 0, 0, 0, 0, [], zdg, zdg, zdg, zdg, zdg⟩
/-- What Parse returns: the bylaws, the place, the error. -/
def zcG (s : W8) : By × Int × Int := match zgs s with
 | .error (p, e) => (zdV, p, e)
 | .ok l => match zkL l with
  | .stop pos e => (zdV, pos, e)
  | .ok b _ => (b, 0, 0)
def zrR (r : By × Int × Int) : D := .tup [.u (.agg (zbf r.1)), .u (.int .i64 r.2.1), .u (.int .i64 r.2.2)]
abbrev zp5 : Ob := .box [.u (.int .i64 0), .u (.int .i64 0), .u (.int .i64 0), .u (.int .i64 0), .u (.int .i64 0), .u (.int .i64 0), .u (.bool false), .u (.int .i64 0), .u (.int .i64 0), .u (.int .i64 0), .u (.int .i64 0), .u .nil, .u (.int .i64 0), .u (.int .i64 0), .u (.int .i64 0), .u (.str []), .u .nil, .u (.int .i64 0), .u (.int .i64 0), .u (.int .i64 0), .u (.str []), .u .nil, .u (.int .i64 0), .u (.int .i64 0), .u (.int .i64 0), .u (.str []), .u .nil, .u (.int .i64 0), .u (.int .i64 0), .u (.int .i64 0), .u (.str []), .u .nil, .u (.int .i64 0), .u (.int .i64 0), .u (.int .i64 0), .u (.str []), .u .nil]
end Go.Proofs.YthnemhfamhnfjaaGreatDoor
namespace Go.Proofs.YthnemhfamhnfjaaGreatDoor
open Go Go.VL
mutual
def zrJ : Exp → Int
 | .mk _ _ _ _ args => zoi args + 1
def zoi : List Exp → Int
 | [] => 0
 | e :: l => max (zrJ e) (zoi l)
end
theorem zhK (l : List Int) (a : Int) (ha : 0 ≤ a) : l.foldl max a = max a (l.foldl max 0) := by
 induction l generalizing a with
 | nil => simp; omega
 | cons b l ih => simp only [List.foldl_cons]; rw [ih (max a b) (by omega), ih (max 0 b) (by omega)]; omega
mutual
theorem zlc : ∀ e : Exp, zrJ e = e.lev
 | .mk op n u s args => by rw [zrJ, Exp.zf5, zlS]; rfl
theorem zlS : ∀ l : List Exp, zoi l = (l.map Exp.lev).foldl max 0
 | [] => by rw [zoi]; rfl
 | e :: l => by
  have := e.lev_pos
  rw [zoi, zlc, zlS, List.map_cons, List.foldl_cons, zhK (l.map Exp.lev) (max 0 e.lev) (by omega)]
  omega
end
/-- The same az zcj, to be computed with. -/
def zjP (s : List UInt8) : Exp × Int × Int := match zgs s with
 | .error (p, e) => (zdg, p, e)
 | .ok l => match zcC l (4 * l.length + 3) 0 0 with
  | .stop pos e => (zdg, pos, e)
  | .ok y q => if zib l q ≠ 0 then (zdg, zco l q, 12) else if 12 < zrJ y then (zdg, zco l q, 6) else (y, 0, 0)
theorem znT (s : List UInt8) : zcj s = zjP s := by
 unfold zcj zjP
 simp only [zlc]
 try rfl
def zjl (l : List Tok) (p : Nat) : PR Exp := (zcC l (4 * l.length + 3) p 0).bind fun e q =>
 if isB l q [59] = true then if zrJ e ≤ 12 then .ok e (q + 1) else .stop (zco l q) 6 else .stop (zco l q) 12
def zpD (l : List Tok) : Nat → Nat → List Let → PR (List Let)
 | 0, _, _ => .stop 0 0
 | f + 1, p, acc => if isB l p [108, 101, 116] = true then
   if acc.length < 20 then match l[p + 1]? with
    | none => .stop 0 0
    | some t => if t.kind = 1 ∧ zbr t.text = true then
          if (acc.any fun x => decide (x.name = t.text)) = true then .stop t.pos 5
          else (zbj l (p + 2) [[61]]).bind fun _ q => (zjl l q).bind fun e r => zpD l f r (acc ++ [⟨t.text, e⟩])
     else .stop t.pos 12
   else .stop (zco l p) 6
  else .ok acc p
def zgh (l : List Tok) (p : Nat) (word : W8) : PR Exp := if isB l p word = true then zjl l (p + 1) else .ok nothingE p
def zsB (l : List Tok) : PR By :=
 (zfb l 0).bind fun k p => (zfj l p [112, 101, 114, 105, 111, 100]).bind fun _ p => (zcN l p [112, 101, 114, 105, 111, 100] 1 1000 [[100, 97, 121, 115], [59]]).bind fun period p =>
 (zfj l p [108, 97, 115, 116]).bind fun _ p => (zcN l p [108, 97, 115, 116] 1 1000 [[59]]).bind fun last p =>
 (zcN l p [103, 114, 97, 99, 101] 0 1000 [[100, 97, 121, 115], [59]]).bind fun grace p => (zcN l p [119, 97, 105, 116] 0 1000 [[100, 97, 121, 115], [59]]).bind fun wait p =>
 (zdK l p).bind fun order p => (zcN l p [98, 97, 99, 107, 115] 0 60 [[59]]).bind fun backs p => (zcN l p [118, 111, 105, 99, 101, 115] 0 1000 [[112, 101, 114], [109, 105, 108, 108, 101], [59]]).bind fun voices p =>
 (zcN l p [106, 117, 114, 121] 0 60 [[59]]).bind fun jury p => (zcN l p [102, 117, 110, 100] 0 1000 [[112, 101, 114], [109, 105, 108, 108, 101], [59]]).bind fun fund p =>
 (zpD l 21 p []).bind fun lets p => (zbj l p [[100, 117, 101]]).bind fun _ p => (zjl l p).bind fun due p =>
 (zgh l p [102, 105, 110, 101]).bind fun fine p => (zgh l p [112, 97, 121]).bind fun pay p => (zgh l p [99, 111, 118, 101, 114]).bind fun cover p => (zgh l p [104, 111, 108, 100]).bind fun hold p =>
 (zoK l p).bind fun _ p => .ok ⟨k.1, period, grace, wait, last, order, k.2, backs, voices, jury, fund, lets, due, fine, pay, cover, hold⟩ p
theorem zgU : zcX = zjl := by
 funext l p
 unfold zcX zjl
 simp only [zlc]
theorem zlT (l : List Tok) : ∀ f p acc, zdR l f p acc = zpD l f p acc
 | 0, p, acc => rfl
 | f + 1, p, acc => by
  rw [zdR, zpD, zgU]
  simp only [zlT l f]
  try rfl
theorem znk : zcm = zgh := by
 funext l p w
 unfold zcm zgh
 rw [zgU]
theorem zq5 (l : List Tok) : zkL l = zsB l := by
 unfold zkL zsB
 rw [zgU, znk]
 simp only [zlT]
def zhX (s : W8) : By × Int × Int := match zgs s with
 | .error (p, e) => (zdV, p, e)
 | .ok l => match zsB l with
  | .stop pos e => (zdV, pos, e)
  | .ok b _ => (b, 0, 0)
theorem znU (s : W8) : zcG s = zhX s := by
 unfold zcG zhX
 simp only [zq5]
 try rfl
end Go.Proofs.YthnemhfamhnfjaaGreatDoor
namespace Go.Proofs.YthnemhfamhnfjaaGreatDoor
open Go Go.VL
def eA : Exp := .mk 3 0 0 [] [.mk 1 0 0 [112, 111, 116] [], .mk 4 0 0 [] [.mk 1 0 0 [112, 97, 105, 100] [], .mk 0 50 4 [] []]]
def eS : Exp := .mk 2 0 0 [] [.mk 0 5 3 [] [], .mk 1 0 0 [112, 111, 116] []]
def eM : Exp := .mk 4 0 0 [] [.mk 0 3 1 [] [], eS]
def bB : By := ⟨2, 7, 0, 0, 10, 0, false, 0, 0, 0, 0, [], .mk 0 100 3 [] [], nothingE, nothingE, nothingE, nothingE⟩
theorem pv1 : zjP [112, 111, 116, 45, 112, 97, 105, 100, 42, 53, 48, 32, 112, 101, 114, 32, 109, 105, 108, 108, 101] = (eA, 0, 0) := by kernel_rfl
theorem pv2 : (zjP [49, 32, 99, 111, 105, 110, 115, 32, 50]) = (zdg, 8, 12) := by kernel_rfl
theorem pv3 : zhX [99, 105, 114, 99, 108, 101, 32, 115, 97, 118, 105, 110, 103, 59, 112, 101, 114, 105, 111, 100, 32, 55, 32, 100, 97, 121, 115, 59, 108, 97, 115, 116, 32, 49, 48, 59, 103, 114, 97, 99, 101, 32, 48, 32, 100, 97, 121, 115, 59, 100, 117, 101, 32, 49, 48, 48, 32, 99, 111, 105, 110, 115, 59] = (bB, 0, 0) := by kernel_rfl
theorem pv4 : zhX [99, 105, 114, 99, 108, 101, 32, 115, 97, 118, 105, 110, 103, 59, 112, 101, 114, 105, 111, 100, 32, 48, 32, 100, 97, 121, 115, 59] = (zdV, 21, 3) := by kernel_rfl
theorem pv5 : zhX [99, 105, 114, 99, 108, 101, 32, 115, 101, 97, 108, 101, 100, 59] = (zdV, 7, 12) := by kernel_rfl
theorem zrz (n : Nat) (h : n < 10) : Lib.decDigits n = [UInt8.ofNat (48 + n)] := by rw [Lib.decDigits, dif_pos h]
theorem zr9 (n : Nat) (h : ¬ n < 10) : Lib.decDigits n = Lib.decDigits (n / 10) ++ [UInt8.ofNat (48 + n % 10)] := by rw [Lib.decDigits, dif_neg h]
theorem it3 : Lib.itoa 3 = [51] := by rw [Lib.itoa, if_neg (by decide)]; show Lib.decDigits 3 = _; rw [zrz 3 (by decide)]; rfl
theorem it5 : Lib.itoa 5 = [53] := by rw [Lib.itoa, if_neg (by decide)]; show Lib.decDigits 5 = _; rw [zrz 5 (by decide)]; rfl
theorem it7 : Lib.itoa 7 = [55] := by rw [Lib.itoa, if_neg (by decide)]; show Lib.decDigits 7 = _; rw [zrz 7 (by decide)]; rfl
theorem ztq : Lib.itoa 10 = [49, 48] := by rw [Lib.itoa, if_neg (by decide)]; show Lib.decDigits 10 = _; rw [zr9 10 (by decide), zrz (10 / 10) (by decide)]; rfl
theorem ztp : Lib.itoa 50 = [53, 48] := by rw [Lib.itoa, if_neg (by decide)]; show Lib.decDigits 50 = _; rw [zr9 50 (by decide), zrz (50 / 10) (by decide)]; rfl
theorem zsh : Lib.itoa 100 = [49, 48, 48] := by rw [Lib.itoa, if_neg (by decide)]; show Lib.decDigits 100 = _; rw [zr9 100 (by decide), zr9 (100 / 10) (by decide), zrz (100 / 10 / 10) (by decide)]; rfl
theorem ziu (s : W8) {least : Int} (h : least ≤ 7) : txt (.mk 1 0 0 s []) least = s := by
 rw [zdb (by show ¬ (7 : Int) < least; omega), zaZ, zcW, if_neg (by decide), if_pos rfl, za7]
theorem zit (n u : Int) {least : Int} (h : least ≤ 7) : txt (.mk 0 n u [] []) least = zbu (zdv n u) := by
 rw [zdb (by show ¬ (7 : Int) < least; omega), zaZ, zcW, if_pos rfl]
theorem tA : txt eA 0 = [112, 111, 116, 32, 45, 32, 112, 97, 105, 100, 32, 42, 32, 53, 48, 32, 112, 101, 114, 32, 109, 105, 108, 108, 101] := by
 have h1 := ze3 (d := 11) (a := .mk 1 0 0 [112, 97, 105, 100] []) (b := .mk 0 50 4 [] []) (o := ⟨[42], 4, 6⟩) (by simp [oprs]) (by kernel_rfl) (by kernel_rfl)
 have h2 := ze3 (d := 11) (a := .mk 1 0 0 [112, 111, 116] []) (b := .mk 4 0 0 [] [.mk 1 0 0 [112, 97, 105, 100] [], .mk 0 50 4 [] []]) (o := ⟨[45], 3, 5⟩) (by simp [oprs]) (by kernel_rfl) (by kernel_rfl)
 have e : txt eA 0 = zbu (zaZ eA) := zdb (by show ¬ (5 : Int) < 0; decide)
 rw [e]
 refine Eq.trans h2 ?_
 rw [ziu _ (by decide)]
 have e2 : txt (.mk 4 0 0 [] [.mk 1 0 0 [112, 97, 105, 100] [], .mk 0 50 4 [] []]) (5 + 1) = zbu (zaZ (.mk 4 0 0 [] [.mk 1 0 0 [112, 97, 105, 100] [], .mk 0 50 4 [] []])) := zdb (by show ¬ (6 : Int) < 5 + 1; decide)
 rw [e2]
 have e3 : zbu (zaZ (.mk 4 0 0 [] [.mk 1 0 0 [112, 97, 105, 100] [], .mk 0 50 4 [] []])) = _ := h1
 rw [e3, ziu _ (by decide), zit _ _ (by decide), zdv, if_neg (by decide), if_neg (by decide), if_neg (by decide), if_pos (by decide), ztp]
 rfl
theorem tM : txt eM 0 = [51, 32, 42, 32, 40, 32, 53, 32, 99, 111, 105, 110, 115, 32, 43, 32, 112, 111, 116, 32, 41] := by
 have h1 := ze3 (d := 11) (a := .mk 0 5 3 [] []) (b := .mk 1 0 0 [112, 111, 116] []) (o := ⟨[43], 2, 5⟩) (by simp [oprs]) (by kernel_rfl) (by kernel_rfl)
 have h2 := ze3 (d := 11) (a := .mk 0 3 1 [] []) (b := eS) (o := ⟨[42], 4, 6⟩) (by simp [oprs]) (by kernel_rfl) (by kernel_rfl)
 have e : txt eM 0 = zbu (zaZ eM) := zdb (by show ¬ (6 : Int) < 0; decide)
 rw [e]
 refine Eq.trans h2 ?_
 have e2 : txt eS (6 + 1) = [40, 32] ++ zbu (zaZ eS) ++ [32, 41] := zgF (d := 11) (by kernel_rfl) (by show (5 : Int) < 6 + 1; decide)
 have e3 : zbu (zaZ eS) = _ := h1
 rw [e2, e3, zit _ _ (by decide), zit _ _ (by decide), ziu _ (by decide), zdv, if_neg (by decide), if_neg (by decide), if_neg (by decide), if_neg (by decide), zdv, if_neg (by decide), if_pos (by decide), it3, it5]
 rfl
theorem ztl : txt (.mk 0 100 3 [] []) 0 = [49, 48, 48, 32, 99, 111, 105, 110, 115] := by
 rw [zit _ _ (by decide), zdv, if_neg (by decide), if_pos (by decide), zsh]
 rfl
theorem tB : textP bB = [99, 105, 114, 99, 108, 101, 32, 115, 97, 118, 105, 110, 103, 32, 59] ++ [10] ++ [112, 101, 114, 105, 111, 100, 32, 55, 32, 100, 97, 121, 115, 32, 59] ++ [10] ++ [108, 97, 115, 116, 32, 49, 48, 32, 59] ++ [10] ++ [100, 117, 101, 32, 49, 48, 48, 32, 99, 111, 105, 110, 115, 32, 59] ++ [10] := by
 have hk : ziR bB = [99, 105, 114, 99, 108, 101, 32, 115, 97, 118, 105, 110, 103, 32, 59] ++ [10] := by kernel_rfl
 have hd : clauseT [100, 117, 101] bB.due = [100, 117, 101, 32, 49, 48, 48, 32, 99, 111, 105, 110, 115, 32, 59] ++ [10] := by
  rw [clauseT, if_neg (by simp)]
  show zbF [_, txt (.mk 0 100 3 [] []) 0] = _
  rw [ztl]; kernel_rfl
 have hn : ∀ w : W8, w ≠ [100, 117, 101] → clauseT w nothingE = [] := fun w hw => by rw [clauseT, if_pos ⟨zex _, hw⟩]
 have h7 : zb1 [112, 101, 114, 105, 111, 100] bB.period [[100, 97, 121, 115]] = [112, 101, 114, 105, 111, 100, 32, 55, 32, 100, 97, 121, 115, 32, 59] ++ [10] := by
  rw [zb1, if_neg (by decide)]; show zbF [_, Lib.itoa 7, _] = _; rw [it7]; kernel_rfl
 have h10 : zb1 [108, 97, 115, 116] bB.last [] = [108, 97, 115, 116, 32, 49, 48, 32, 59] ++ [10] := by
  rw [zb1, if_neg (by decide)]; show zbF [_, Lib.itoa 10] = _; rw [ztq]; kernel_rfl
 have h0 : ∀ w ws, zb1 w 0 ws = [] := fun w ws => by rw [zb1, if_pos rfl]
 rw [textP, hk, h7, h10, hd]
 rw [show bB.grace = 0 from rfl, show bB.wait = 0 from rfl, show bB.order = 0 from rfl, show bB.backs = 0 from rfl, show bB.voices = 0 from rfl, show bB.jury = 0 from rfl, show bB.fund = 0 from rfl, show bB.lets = [] from rfl, show bB.fine = nothingE from rfl, show bB.pay = nothingE from rfl, show bB.cover = nothingE from rfl, show bB.hold = nothingE from rfl]
 rw [h0, h0, h0, h0, h0, h0, hn _ (by decide), hn _ (by decide), hn _ (by decide), hn _ (by decide), show zhY 0 = [] from rfl, show zfI [] = [] from rfl]
 simp
end Go.Proofs.YthnemhfamhnfjaaGreatDoor
namespace Go.Proofs.YthnemhfamhnfjaaGreatDoor
open Go Go.VL
theorem zhi {ws : List W8} (h : ws ≠ []) (hs : NoSemi ws) : zbF ws = zbi (zgZ (ws ++ [[59]])) := by rw [zfG ws h hs, zbF]
theorem zdk {w : W8} {n : Int} {ws : List W8} (hw : w ≠ [59]) (h0 : 0 ≤ n) (h1 : n ≤ 1099511627776) (hs : NoSemi ws) : zb1 w n ws = zbi (zgZ (zaW w n ws)) := by
 rw [zb1, zaW]
 split
 ·rfl
 ·rw [zhi (by simp) (((hs.cons (zkc h0 h1))).cons hw)]
  rfl
theorem zou {b : By} : ziR b = zbi (zgZ (zfl b.kind b.sld)) := by
 rw [ziR, zfl]
 split
 ·exact zhi (by simp) (by intro w hw; revert w; decide)
 ·refine zhi (by simp) ?_
  intro w hw
  simp only [List.mem_cons, List.mem_nil_iff, or_false] at hw
  rcases hw with rfl | rfl
  ·decide
  ·split
   ·decide
   ·split <;> decide
theorem zmK {o : Int} (h0 : 0 ≤ o) (h2 : o ≤ 2) : zhY o = zbi (zgZ (zdJ o)) := by
 obtain rfl | rfl | rfl : o = 0 ∨ o = 1 ∨ o = 2 := by omega
 ·rfl
 ·kernel_rfl
 ·kernel_rfl
theorem zpG {x : Let} (hn : zbr x.name = true) (he : zaA 12 x.body = true) : zpH x = zbi (zgZ (zpb x)) := by
 rw [zpF hn he, zpH, zbF, zaU, zaU, zaU, za7, txt]
 simp
theorem zj8 : ∀ {L : List Let}, (∀ l ∈ L, zbr l.name = true ∧ zaA 12 l.body = true) → zfI L = zbi (zgZ (zdw L))
 | [], _ => rfl
 | x :: L, h => by
  have ih := zj8 (L := L) fun l hl => h l (List.mem_cons_of_mem _ hl)
  have h1 := zpG (h x (by simp)).1 (h x (by simp)).2
  simp only [zfI, zdw, List.map_cons, List.flatten_cons] at ih ⊢
  rw [zlB, zhp, ← ih, ← h1]
theorem zht {w : W8} {e : Exp} (hw : w ≠ [59]) (he : zaA 12 e = true) : zbF [w, txt e 0] = zbi (zgZ (zbY w e)) := by
 rw [zln hw he, zbF, zaU, za7, txt]
theorem zfA {w : W8} {e : Exp} (hw : w ≠ [59]) (hd : w ≠ [100, 117, 101]) (he : zaA 12 e = true) : clauseT w e = zbi (zgZ (restW w e)) := by
 rw [clauseT, restW]
 by_cases h : e = nothingE
 ·rw [if_pos ⟨zcb.2 h, hd⟩, if_pos h]; rfl
 ·rw [if_neg (by rw [zcb]; exact fun g => h g.1), if_neg h]
  exact zht hw he
theorem zpi {b : By} (h : zbD b = true) : textP b = textB b := by
 have hh := h
 simp only [zbD, zlg, zlk, Bool.and_eq_true, decide_eq_true_eq] at hh
 obtain ⟨⟨⟨⟨⟨⟨⟨⟨i1, i2⟩, i3⟩, i4⟩, i5⟩, hsl⟩, hLn⟩, hLb⟩, ⟨⟨⟨hrdue, hrfine⟩, hrpay⟩, hrcover⟩, hrhold⟩ := hh
 have hLs := zhj [] b.lets hLb
 simp only [inB, List.any_cons, List.any_nil, Bool.or_false, Bool.not_eq_true', Bool.or_eq_false_iff, decide_eq_false_iff_not, Int.not_lt] at i1 i2 i3 i4 i5
 have ns : ∀ {ws : List W8}, (ws.all fun w => decide (w ≠ [59])) = true → NoSemi ws := fun h w hw => of_decide_eq_true (List.all_eq_true.1 h w hw)
 have hnil : zbi (zgZ []) = [] := rfl
 have hdue : clauseT [100, 117, 101] b.due = zbi (zgZ (zbY [100, 117, 101] b.due)) := by
  rw [clauseT, if_neg (by simp)]
  exact zht (by decide) hrdue
 rw [textB, byW, textP, zou, zdk (by decide) (by omega) (by omega) (ns (by decide)), zdk (by decide) (by omega) (by omega) (ns (by decide)), zdk (by decide) (by omega) (by omega) (ns (by decide)), zdk (by decide) (by omega) (by omega) (ns (by decide)),
  zmK (by omega) (by omega), zdk (by decide) (by omega) (by omega) (ns (by decide)), zdk (by decide) (by omega) (by omega) (ns (by decide)), zdk (by decide) (by omega) (by omega) (ns (by decide)), zdk (by decide) (by omega) (by omega) (ns (by decide)),
  zj8 hLs, hdue, zfA (by decide) (by decide) hrfine, zfA (by decide) (by decide) hrpay, zfA (by decide) (by decide) hrcover, zfA (by decide) (by decide) hrhold]
 simp only [zlB, zhp, List.append_assoc, hnil, List.append_nil]
end Go.Proofs.YthnemhfamhnfjaaGreatDoor
namespace Go.Proofs.YthnemhfamhnfjaaGreatDoor
open Go Go.VL
/-- A stop has an error, and a token's place. -/
def Fine {α : Type} (l : List Tok) : PR α → Prop
 | .ok _ _ => True
 | .stop pos e => e ≠ 0 ∧ ∃ q, pos = zco l q
theorem Fine.ok {α : Type} {l : List Tok} (a : α) (q : Nat) : Fine l (.ok a q) := trivial
theorem Fine.stop {α : Type} {l : List Tok} (q : Nat) (e : Int) (h : e ≠ 0) : Fine (α := α) l (.stop (zco l q) e) := ⟨h, q, rfl⟩
theorem Fine.bind {α β : Type} {l : List Tok} {r : PR α} {f : α → Nat → PR β} (h : Fine l r) (g : ∀ a q, r = .ok a q → Fine l (f a q)) : Fine l (r.bind f) := by
 cases r with
 | ok a q => exact g a q rfl
 | stop pos e => exact h
theorem zlC {l : List Tok} {p : Nat} {t : Tok} (h : l[p]? = some t) : t.pos = zco l p := by unfold zco; rw [h]
theorem Fine.want {l : List Tok} : ∀ (ws : List W8) (p : Nat), Fine l (zbj l p ws)
 | [], p => by rw [zbj]; exact .ok _ _
 | w :: ws, p => by
  rw [zbj]
  split
  ·exact Fine.want ws (p + 1)
  ·exact .stop _ _ (by decide)
theorem Fine.unit {l : List Tok} (p : Nat) : Fine l (zfg l p) := by
 unfold zfg
 split
 ·exact .ok _ _
 ·split
  ·exact .ok _ _
  ·split
   ·exact (Fine.want _ _).bind fun _ _ _ => .ok _ _
   ·exact .ok _ _
theorem ziZ {l : List Tok} (hl : TokOK l) : ∀ (f : Nat),
  (∀ p form, p < l.length → 4 * (l.length - p) + 3 ≤ f → Fine l (zcC l f p form)) ∧
  (∀ p form e own, p < l.length → 4 * (l.length - p) + 2 ≤ f → Fine l (zcK l f form e own p)) ∧
  (∀ p form, p < l.length → 4 * (l.length - p) + 2 ≤ f → Fine l (zaV l f p form)) ∧
  (∀ p, p < l.length → 4 * (l.length - p) + 1 ≤ f → Fine l (zaJ l f p))
 | 0 => ⟨fun _ _ _ h => by omega, fun _ _ _ _ _ h => by omega, fun _ _ _ h => by omega, fun _ _ h => by omega⟩
 | f + 1 => by
  obtain ⟨he, hlo, hpr, hpm⟩ := ziZ hl f
  obtain ⟨le, llo, lpr, lpm⟩ := zbJ hl f
  refine ⟨fun p form hp hf => ?_, fun p form e own hp hf => ?_, fun p form hp hf => ?_, fun p hp hf => ?_⟩
  ·rw [zcC]
   refine (hpr p form hp (by omega)).bind fun a q hq => ?_
   have g := lpr _ _ _ _ hq hp
   exact hlo _ _ _ _ g.2 (by omega)
  ·rw [zcK]
   split
   ·exact .ok _ _
   ·rename_i x hx
    have hb := List.find?_some hx
    have hp2 := za1 hl hb
    split
    ·exact .ok _ _
    ·refine (he (p + 1) _ hp2 (by omega)).bind fun a q hq => ?_
     have g := le _ _ _ _ hq hp2
     exact hlo _ _ _ _ g.2 (by omega)
  ·rw [zaV]
   split
   ·rename_i hb
    have hp2 := za1 hl hb.2
    refine (he (p + 1) _ hp2 (by omega)).bind fun a q1 hq1 => ?_
    have g1 := le _ _ _ _ hq1 hp2
    refine (Fine.want _ _).bind fun _ q2 hq2 => ?_
    have g2 := zaO hl _ hq2 g1.2
    refine (he q2 _ g2.2 (by omega)).bind fun b q3 hq3 => ?_
    have g3 := le _ _ _ _ hq3 g2.2
    refine (Fine.want _ _).bind fun _ q4 hq4 => ?_
    have g4 := zaO hl _ hq4 g3.2
    exact (he q4 _ g4.2 (by omega)).bind fun _ _ _ => .ok _ _
   ·split
    ·rename_i hb
     exact (he (p + 1) _ (za1 hl hb.2) (by omega)).bind fun _ _ _ => .ok _ _
    ·exact (hpm p hp (by omega)).bind fun _ _ _ => .ok _ _
  ·rw [zaJ]
   split
   ·rename_i hn
    rw [List.getElem?_eq_none_iff] at hn
    omega
   ·rename_i t ht
    split
    ·exact (Fine.unit _).bind fun _ _ _ => .ok _ _
    ·split
     ·exact .ok _ _
     ·split
      ·exact .ok _ _
      ·split
       ·rename_i hb
        have hp2 : p + 1 < l.length := hb.elim (za1 hl) (za1 hl)
        refine (Fine.want _ _).bind fun _ q1 hq1 => ?_
        have g1 := zaO hl _ hq1 hp2
        refine (he q1 _ g1.2 (by omega)).bind fun a q2 hq2 => ?_
        have g2 := le _ _ _ _ hq2 g1.2
        refine (Fine.want _ _).bind fun _ q3 hq3 => ?_
        have g3 := zaO hl _ hq3 g2.2
        refine (he q3 _ g3.2 (by omega)).bind fun b q4 hq4 => ?_
        exact (Fine.want _ _).bind fun _ _ _ => .ok _ _
       ·split
        ·rename_i hb
         refine (he (p + 1) _ (za1 hl hb) (by omega)).bind fun _ _ _ => ?_
         exact (Fine.want _ _).bind fun _ _ _ => .ok _ _
        ·split
         ·exact .ok _ _
         ·rw [zlC ht]
          exact .stop _ _ (by decide)
theorem Fine.num {l : List Tok} {p : Nat} (hp : p < l.length) (a b : Int) : Fine l (znu l p a b) := by
 unfold znu
 split
 ·rename_i hn
  rw [List.getElem?_eq_none_iff] at hn
  omega
 ·rename_i t ht
  rw [zlC ht]
  split
  ·split
   ·exact .ok _ _
   ·exact .stop _ _ (by decide)
  ·exact .stop _ _ (by decide)
theorem Fine.part {l : List Tok} (hl : TokOK l) {p : Nat} (w : W8) (a b : Int) (ws : List W8) : Fine l (zcN l p w a b ws) := by
 unfold zcN
 split
 ·rename_i hb
  refine (Fine.num (za1 hl hb) a b).bind fun _ _ _ => ?_
  exact (Fine.want _ _).bind fun _ _ _ => .ok _ _
 ·exact .ok _ _
theorem Fine.whole {l : List Tok} (hl : TokOK l) {p : Nat} (hp : p < l.length) : Fine l (zcX l p) := by
 unfold zcX
 refine ((ziZ hl _).1 p 0 hp (by omega)).bind fun _ _ _ => ?_
 split
 ·split
  ·exact .ok _ _
  ·exact .stop _ _ (by decide)
 ·exact .stop _ _ (by decide)
theorem Fine.kind {l : List Tok} (p : Nat) : Fine l (zfb l p) := by
 unfold zfb
 refine (Fine.want _ _).bind fun _ _ _ => ?_
 split
 ·exact (Fine.want _ _).bind fun _ _ _ => .ok _ _
 ·split
  ·exact (Fine.want _ _).bind fun _ _ _ => .ok _ _
  ·refine (Fine.want _ _).bind fun _ _ _ => ?_
   split
   ·exact (Fine.want _ _).bind fun _ _ _ => .ok _ _
   ·exact (Fine.want _ _).bind fun _ _ _ => .ok _ _
theorem Fine.order {l : List Tok} (p : Nat) : Fine l (zdK l p) := by
 unfold zdK
 split
 ·split
  ·exact (Fine.want _ _).bind fun _ _ _ => .ok _ _
  ·exact .stop _ _ (by decide)
 ·exact .ok _ _
theorem Fine.ztc {l : List Tok} (p : Nat) (w : W8) : Fine l (zfj l p w) := by
 unfold zfj
 split
 ·exact .ok _ _
 ·exact .stop _ _ (by decide)
theorem Fine.lets {l : List Tok} (hl : TokOK l) : ∀ (f p : Nat) (acc : List Let), f + acc.length = 21 → acc.length ≤ 20 → p < l.length → Fine l (zdR l f p acc)
 | 0, p, acc, h, h2, _ => by omega
 | f + 1, p, acc, h, h2, hp => by
  rw [zdR]
  split
  ·rename_i hb
   have hp2 := za1 hl hb
   split
   ·split
    ·rename_i hn
     rw [List.getElem?_eq_none_iff] at hn
     omega
    ·rename_i t ht
     rw [zlC ht]
     split
     ·rename_i hk
      split
      ·exact .stop _ _ (by decide)
      ·have hp3 := hl.fin (p + 1) t ht (by omega)
       refine (Fine.want _ _).bind fun _ q hq => ?_
       have g1 := zaO hl _ hq hp3
       refine (Fine.whole hl g1.2).bind fun e r hr => ?_
       have g2 := zea hl hr g1.2
       exact Fine.lets hl f r _ (by simp; omega) (by simp; omega) g2.2
     ·exact .stop _ _ (by decide)
   ·exact .stop _ _ (by decide)
  ·exact .ok _ _
theorem zlU {l : List Tok} (hl : TokOK l) : ∀ (f p q : Nat) (acc L : List Let), zdR l f p acc = .ok L q → p < l.length → p ≤ q ∧ q < l.length
 | 0, p, q, acc, L, h, hp => by rw [zdR] at h; cases h
 | f + 1, p, q, acc, L, h, hp => by
  rw [zdR] at h
  split at h
  ·rename_i hb
   have hp2 := za1 hl hb
   split at h
   ·split at h
    ·cases h
    ·rename_i t ht
     split at h
     ·rename_i hk
      split at h
      ·cases h
      ·have hp3 := hl.fin (p + 1) t ht (by omega)
       obtain ⟨_, r, h1, h⟩ := PR.zao h
       have g1 := zaO hl _ h1 hp3
       obtain ⟨_, r2, h2, h⟩ := PR.zao h
       have g2 := zea hl h2 g1.2
       have g3 := zlU hl f r2 q _ L h g2.2
       exact ⟨by omega, g3.2⟩
     ·cases h
   ·cases h
  ·cases h; exact ⟨Nat.le_refl _, hp⟩
theorem Fine.zms {l : List Tok} (hl : TokOK l) {p : Nat} (w : W8) : Fine l (zcm l p w) := by
 unfold zcm
 split
 ·rename_i hb
  exact Fine.whole hl (za1 hl hb)
 ·exact .ok _ _
theorem Fine.fin {l : List Tok} {p : Nat} (hp : p < l.length) : Fine l (zoK l p) := by
 unfold zoK
 split
 ·rename_i t ht
  split
  ·exact .ok _ _
  ·rw [zlC ht]; exact .stop _ _ (by decide)
 ·rename_i hn
  rw [List.getElem?_eq_none_iff] at hn
  omega
theorem zoa {l : List Tok} {p q : Nat} {w : W8} {x : Unit} (h : zfj l p w = .ok x q) : q = p := (zk5 h).1
theorem Fine.byl {l : List Tok} (hl : TokOK l) (h0 : 0 < l.length) : Fine l (zkL l) := by
 unfold zkL
 refine (Fine.kind _).bind fun _ p1 h1 => ?_
 have g1 := zlX hl h1 h0
 refine (Fine.ztc _ _).bind fun _ p2 h2 => ?_
 obtain rfl := zoa h2
 refine (Fine.part hl _ _ _ _).bind fun _ p3 h3 => ?_
 have g3 := zbI hl h3 g1.2
 refine (Fine.ztc _ _).bind fun _ p4 h4 => ?_
 obtain rfl := zoa h4
 refine (Fine.part hl _ _ _ _).bind fun _ p5 h5 => ?_
 have g5 := zbI hl h5 g3.2
 refine (Fine.part hl _ _ _ _).bind fun _ p6 h6 => ?_
 have g6 := zbI hl h6 g5.2
 refine (Fine.part hl _ _ _ _).bind fun _ p7 h7 => ?_
 have g7 := zbI hl h7 g6.2
 refine (Fine.order _).bind fun _ p8 h8 => ?_
 have g8 := zjV hl h8 g7.2
 refine (Fine.part hl _ _ _ _).bind fun _ p9 h9 => ?_
 have g9 := zbI hl h9 g8.2
 refine (Fine.part hl _ _ _ _).bind fun _ p10 h10 => ?_
 have g10 := zbI hl h10 g9.2
 refine (Fine.part hl _ _ _ _).bind fun _ p11 h11 => ?_
 have g11 := zbI hl h11 g10.2
 refine (Fine.part hl _ _ _ _).bind fun _ p12 h12 => ?_
 have g12 := zbI hl h12 g11.2
 refine (Fine.lets hl _ _ _ rfl (by simp) g12.2).bind fun _ p13 h13 => ?_
 have g13 := zlU hl _ _ _ _ _ h13 g12.2
 refine (Fine.want _ _).bind fun _ p14 h14 => ?_
 have g14 := zaO hl _ h14 g13.2
 refine (Fine.whole hl g14.2).bind fun _ p15 h15 => ?_
 have g15 := zea hl h15 g14.2
 refine (Fine.zms hl _).bind fun _ p16 h16 => ?_
 have g16 := zcI hl h16 g15.2
 refine (Fine.zms hl _).bind fun _ p17 h17 => ?_
 have g17 := zcI hl h17 g16.2
 refine (Fine.zms hl _).bind fun _ p18 h18 => ?_
 have g18 := zcI hl h18 g17.2
 refine (Fine.zms hl _).bind fun _ p19 h19 => ?_
 have g19 := zcI hl h19 g18.2
 exact (Fine.fin g19.2).bind fun _ _ _ => .ok _ _
theorem zmU {s : W8} {e : Int} (h : zeu s = .error e) (hs : s ≠ []) : e ≠ 0 := by
 unfold zeu at h
 split at h
 ·exact absurd rfl hs
 ·split at h
  ·split at h
   ·cases h
   ·cases h; decide
  ·split at h
   ·split at h
    ·cases h
    ·cases h; decide
   ·split at h
    ·cases h
    ·cases h; decide
/-- The places of the tokens. -/
def PosOK (s : W8) : Except (Nat × Int) (List Tok) → Prop
 | .ok l => ∀ (i : Nat) (t : Tok), l[i]? = some t → 0 ≤ t.pos ∧ t.pos ≤ s.length
 | .error x => x.1 ≤ s.length ∧ x.2 ≠ 0
theorem zlP : ∀ (f : Nat) (s : W8) (p : Nat), p ≤ s.length → PosOK s (zhG f s p)
 | 0, s, p, _ => by
  rw [zhG]
  intro i t hi
  simp at hi
 | f + 1, s, p, hp => by
  have hb := zdd zaT (s.drop p)
  have hb2 : p + zbn zaT (s.drop p) ≤ s.length := by simp at hb; omega
  rw [zhG]
  split
  ·rename_i hd
   intro i t hi
   cases i with
   | zero => simp at hi; subst hi; simp; omega
   | succ i => simp at hi
  ·rename_i c r hd
   cases hn : zeu (c :: r) with
   | error e => exact ⟨hb2, zmU hn (by simp)⟩
   | ok t =>
    have ht := zeZ hn
    have hdl : (c :: r).length = s.length - (p + zbn zaT (s.drop p)) := by rw [← hd]; simp
    have ih := zlP f s (p + zbn zaT (s.drop p) + t.text.length) (by omega)
    simp only
    cases hr : zhG f s (p + zbn zaT (s.drop p) + t.text.length) with
    | error x =>
     rw [hr] at ih
     exact ih
    | ok l =>
     rw [hr] at ih
     simp only at ih ⊢
     intro i x hi
     cases i with
     | zero =>
      simp only [List.getElem?_cons_zero, Option.some.injEq] at hi
      subst hi
      simp
      omega
     | succ i => exact ih i x (by simpa using hi)
theorem zlM (s : W8) : PosOK s (zgs s) := by
 unfold zgs
 split
 ·exact ⟨by simp, by decide⟩
 ·exact zlP (s.length + 1) s 0 (by omega)
theorem PosOK.at {s : W8} {l : List Tok} (h : PosOK s (.ok l)) (q : Nat) : 0 ≤ zco l q ∧ zco l q ≤ s.length := by
 unfold zco
 split
 ·rename_i t ht
  exact h q t ht
 ·omega
/-- What Parse returns: bylaws that are right, or nothing, and a place and an error. -/
theorem zjT (s : W8) : 0 ≤ (zcG s).2.1 ∧ (zcG s).2.1 ≤ s.length ∧ ((zcG s).2.2 ≠ 0 ∧ (zcG s).1 = zdV ∨ (zcG s).2 = (0, 0) ∧ zbD (zcG s).1 = true) := by
 have hp := zlM s
 unfold zcG
 cases hl : zgs s with
 | error x =>
  rw [hl] at hp
  obtain ⟨q, e⟩ := x
  exact ⟨by simp, by simpa using (show q ≤ s.length from hp.1), .inl ⟨hp.2, rfl⟩⟩
 | ok l =>
  rw [hl] at hp
  obtain ⟨k1, k2, k3⟩ := ziP hl
  have hf := Fine.byl k1 k3
  simp only
  cases hb : zkL l with
  | ok b q => exact ⟨by simp, by simp, .inr ⟨rfl, zp4 (zlN hl) hb⟩⟩
  | stop pos e =>
   rw [hb] at hf
   obtain ⟨h1, q, rfl⟩ := hf
   exact ⟨(hp.at q).1, (hp.at q).2, .inl ⟨h1, rfl⟩⟩
theorem zjQ (s : W8) : 0 ≤ (zcj s).2.1 ∧ (zcj s).2.1 ≤ s.length ∧ ((zcj s).2.2 ≠ 0 ∧ (zcj s).1 = zdg ∨ (zcj s).2 = (0, 0) ∧ zaA 12 (zcj s).1 = true) := by
 have hp := zlM s
 unfold zcj
 cases hl : zgs s with
 | error x =>
  rw [hl] at hp
  obtain ⟨q, e⟩ := x
  exact ⟨by simp, by simpa using (show q ≤ s.length from hp.1), .inl ⟨hp.2, rfl⟩⟩
 | ok l =>
  rw [hl] at hp
  obtain ⟨k1, k2, k3⟩ := ziP hl
  have hf := (ziZ k1 (4 * l.length + 3)).1 0 0 k3 (by omega)
  simp only
  cases hb : zcC l (4 * l.length + 3) 0 0 with
  | ok y q =>
   simp only
   split
   ·exact ⟨(hp.at q).1, (hp.at q).2, .inl ⟨by simp, rfl⟩⟩
   ·split
    ·exact ⟨(hp.at q).1, (hp.at q).2, .inl ⟨by simp, rfl⟩⟩
    ·rename_i hlev
     exact ⟨by simp, by simp, .inr ⟨rfl, zoJ hl hb (Int.not_lt.1 hlev)⟩⟩
  | stop pos e =>
   rw [hb] at hf
   obtain ⟨h1, q, rfl⟩ := hf
   exact ⟨(hp.at q).1, (hp.at q).2, .inl ⟨h1, rfl⟩⟩
end Go.Proofs.YthnemhfamhnfjaaGreatDoor
namespace Go.Proofs.YthnemhfamhnfjaaGreatDoor
open Go Go.VL
theorem zlz {p : UInt8 → Bool} {w : W8} (h : w.take (zbn p w) = w) : ∀ c ∈ w, p c = true := by
 have h1 : zbn p w = w.length ∨ w.length ≤ zbn p w := by
  have := congrArg List.length h
  simp only [List.length_take] at this
  omega
 have h2 := zdd p w
 have h3 : w.takeWhile p = w := (List.takeWhile_sublist _).eq_of_length (by unfold zbn at h1 h2; omega)
 intro c hc
 rw [← h3] at hc
 exact List.all_eq_true.1 (List.all_takeWhile (l := w) (p := p)) c hc
theorem zie {w : W8} (h : GoodW w) : ∀ c ∈ w, zaT c = false := by
 have h1 := h.next [] (by intro c t e; cases e)
 rw [List.append_nil] at h1
 cases w with
 | nil => exact absurd rfl h.ne
 | cons c s =>
  unfold zeu at h1
  simp only at h1
  split at h1
  ·split at h1
   ·simp only [Except.ok.injEq, Tok.mk.injEq] at h1
    intro x hx
    have := zlz h1.2.1 x hx
    unfold zb6 at this
    rcases Bool.or_eq_true_iff.1 this with g | g
    ·exact (zj6 g).1
    ·exact (zgP g).1
   ·cases h1
  ·split at h1
   ·split at h1
    ·simp only [Except.ok.injEq, Tok.mk.injEq] at h1
     intro x hx
     exact (zgP (zlz h1.2.1 x hx)).1
    ·cases h1
   ·split at h1
    ·rename_i y hy
     simp only [Except.ok.injEq, Tok.mk.injEq] at h1
     have hm := List.mem_of_find?_eq_some hy
     rw [h1.2.1] at hm
     generalize c :: s = w at hm
     intro x hx
     simp only [signsL, List.mem_cons, List.mem_nil_iff, or_false] at hm
     rcases hm with rfl | rfl | rfl | rfl | rfl | rfl | rfl | rfl | rfl | rfl | rfl <;> revert x <;> decide
    ·cases h1
theorem zli {w : W8} (h : ∀ c ∈ w, zaT c = false) : zbp w = w := by
 rw [zbp]
 conv => rhs; rw [← List.map_id w]
 apply List.map_congr_left
 intro c hc
 rw [zlj, if_neg]
 ·rfl
 ·intro e
  have := h c hc
  subst e
  revert this
  decide
theorem zkn (a b : W8) : zbp (a ++ b) = zbp a ++ zbp b := by simp [zbp]
theorem zgg : ∀ (l : List (W8 × W8)), (∀ x ∈ l, ∀ c ∈ x.1, zaT c = false) → zbp (zbi l) = zbi (l.map fun x => (x.1, zbp x.2))
 | [], _ => rfl
 | x :: l, h => by
  rw [zbi, zkn, zkn, zgg l fun y hy => h y (List.mem_cons_of_mem _ hy), zli (h x (by simp)), List.map_cons, zbi]
theorem zqZ {b : By} (h : zbD b = true) (hl : ¬ 2000 < (textP b).length) : zcG (zbp (textP b)) = (b, 0, 0) := by
 have hg := zoW h
 have e : zbp (textP b) = zbi ((byW b).map fun w => (w, [10])) := by
  rw [zpi h, textB, zgg]
  ·congr 1
   rw [zgZ, List.map_map]
   apply List.map_congr_left
   intro w hw
   show (w, zbp (if w = [59] then [10] else [32])) = (w, [10])
   split <;> rfl
  ·intro x hx
   obtain ⟨w, hw, rfl⟩ := List.mem_map.1 hx
   exact zie (hg w hw)
 have hlen : (zbi ((byW b).map fun w => (w, [10]))).length ≤ 2000 := by
  rw [← e, zfP]; omega
 obtain ⟨ts, h1, h2⟩ := zkP h rfl hlen
 rw [e]
 unfold zcG
 rw [h1]
 simp only [h2]
theorem zmb : ∀ {ws : List W8}, AllGood ws → Spaced ((spW ws).map fun x => (x.1, zbp x.2))
 | [], _ => trivial
 | [w], h => ⟨h w (by simp), by simp [zbp]⟩
 | w :: v :: l, h => by
  have ih := zmb (ws := v :: l) fun x hx => h x (List.mem_cons_of_mem _ hx)
  rw [spW, List.map_cons]
  cases hr : (spW (v :: l)).map fun x => (x.1, zbp x.2) with
  | nil => exact ⟨h w (by simp), by simp [zbp, zlj, zaT]⟩
  | cons y r =>
   rw [hr] at ih
   exact ⟨h w (by simp), by simp [zbp, zlj, zaT], by simp [zbp], ih⟩
theorem zpQ {e : Exp} (h : zaA 12 e = true) (hl : ¬ 2000 < (txt e 0).length) : zcj (zbp (txt e 0)) = (e, 0, 0) := by
 have hg := zfy 12 e h 0
 have e1 : zbp (txt e 0) = zbi ((spW (zaK e 0)).map fun x => (x.1, zbp x.2)) := by
  rw [txt, zbu, zgg]
  intro x hx
  have : x.1 ∈ (spW (zaK e 0)).map (·.1) := List.mem_map.2 ⟨x, hx, rfl⟩
  rw [zkQ] at this
  exact zie (hg _ this)
 have hlen : (zbi ((spW (zaK e 0)).map fun x => (x.1, zbp x.2))).length ≤ 2000 := by
  rw [← e1, zfP]; omega
 obtain ⟨ts, h1, h2, h3, t, h4, h5⟩ := zpS h (zmb hg) (by rw [List.map_map]; exact zkQ _) hlen
 rw [e1]
 unfold zcj
 rw [h1]
 simp only [h3]
 have hk : zib ts (zaK e 0).length = 0 := by unfold zib; rw [h4]; exact h5
 rw [if_neg (by rw [hk]; simp), if_neg (by have := zoj 12 e h; omega)]
end Go.Proofs.YthnemhfamhnfjaaGreatDoor
namespace Go.Proofs.YthnemhfamhnfjaaGreatDoor
open Go Go.VL
/-- A value whose slices of nothing are all told as empty zfi. -/
def zeU : Nat → U → U
 | 0, x => x
 | _ + 1, .nil => .sl []
 | n + 1, .sl rows => .sl (rows.map fun r => r.map (zeU n))
 | n + 1, .agg cs => .agg (cs.map (zeU n))
 | _ + 1, x => x
theorem zi2 {m : Mem} : ∀ (n : Nat) {x : U} {v : Value}, RepU m x v → RepU m (zeU n x) v
 | 0, x, v, h => by rw [zeU]; exact h
 | n + 1, x, v, h => by
  cases h with
  | map kk ag es0 es hp b ents clock f h1 h2 h3 h4 => exact .map kk ag es0 es hp b ents clock f h1 h2 h3 h4
  | nil => rw [zeU]; exact .slE none 0 fun _ => rfl
  | int k n => exact .int k n
  | bool b => exact .bool b
  | str l => exact .str l
  | oth v => cases x' : U.oth v <;> first | (cases x'; rw [zeU] <;> first | exact .oth _ | (intros; contradiction)) | cases x'
  | slE a c h => rw [zeU]; exact .slE a c h
  | row cells off b o f h1 h2 => exact .row cells off b o f h1 h2
  | sl rows b o sz c f h1 h2 h3 h4 h5 =>
   rw [zeU]
   have := RepU.sl (m := m) (rows.map fun r => r.map (zeU n)) b o sz c f (by simpa using h1) h2 (fun r hr => by
    obtain ⟨r0, hr0, rfl⟩ := List.mem_map.1 hr
    simpa using h3 r0 hr0) (fun i hi => h4 i (by simpa using hi)) (fun i r hi j u hj => by
    rw [List.getElem?_map] at hi
    cases hc : rows[i]? with
    | none => rw [hc] at hi; cases hi
    | some r0 =>
     rw [hc] at hi; cases hi
     rw [List.getElem?_map] at hj
     cases hd : r0[j]? with
     | none => rw [hd] at hj; cases hj
     | some u0 => rw [hd] at hj; cases hj; exact zi2 n (h5 i r0 hc j u0 hd))
   simpa using this
  | agg cells vs h1 h2 =>
   rw [zeU]
   refine .agg _ vs (by simpa using h1) fun j u hj => ?_
   rw [List.getElem?_map] at hj
   cases hc : cells[j]? with
   | none => rw [hc] at hj; cases hj
   | some e => rw [hc] at hj; cases hj; exact zi2 n (h2 j e hc)
theorem Fun.zro {P : Program} {f : FuncId} {us : List U} {post : D → Prop} (n : Nat) (h : Fun P f (us.map fun u => .u (zeU n u)) post) : Fun P f (us.map .u) post := by
 intro k own w vs hsat hhdr hown hrep
 refine h k own w vs hsat hhdr hown ⟨by simpa using hrep.1, fun j d hj => ?_⟩
 rw [List.getElem?_map] at hj
 cases hc : us[j]? with
 | none => rw [hc] at hj; cases hj
 | some u =>
  rw [hc] at hj; cases hj
  have h1 := hrep.2 j (.u u) (by rw [List.getElem?_map, hc]; rfl)
  generalize vs.getD j undef = v at h1
  cases h1 with
  | u _ _ h1 => exact .u _ _ (zi2 n h1)
theorem rA : zaA 12 eA = true := by kernel_rfl
theorem rM : zaA 12 eM = true := by kernel_rfl
theorem rS : zaA 12 eS = true := by kernel_rfl
theorem rZ : zaA 12 (.mk 1 0 0 [] []) = false := by kernel_rfl
theorem rB : zbD bB = true := by kernel_rfl
theorem rz : zbD zdV = false := by kernel_rfl
theorem nP : zbr [112, 101, 114, 105, 111, 100] = true := by kernel_rfl
theorem nC : zbr [99, 111, 105, 110, 115] = false := by kernel_rfl
end Go.Proofs.YthnemhfamhnfjaaGreatDoor
