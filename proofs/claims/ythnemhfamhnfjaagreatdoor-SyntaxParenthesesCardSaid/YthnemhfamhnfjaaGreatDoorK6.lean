/- Texts joined by a program of mine: Zi Za Zk Zb Zc Zd Yw Zl#p Ze#p Yu Zm Zo#p Zy#p Zw. -/
import Derived.Test.YthnemhfamhnfjaaGreatDoorK5
set_option linter.all false
set_option maxRecDepth 100000
set_option maxHeartbeats 8000000
namespace Go.Proofs.YthnemhfamhnfjaaGreatDoor
open Go Go.VL
attribute [local simp] HS zde zb7 evPure opd uOf zaF St.put St.at getK binD binI binS binB nilD aggD zhn ziD lookD lookR zcB Go.VL.nextD zcF ziQ ziP zgW zcz mkV zdB zbq zbB mapEff zev zgg Key.kk shiftI arith unD convD zeg loadD cellsAt fieldAddrD fieldD indexAddrD indexD sliceD cutD lenD minmaxD nilCheckD buildD fillD zbU zdn ze5 setAll zcU zff zcx zhN zct St.add zaR zbR rowsOf zd0 zcJ zak zac zaa za9 zcI zaP entry zbO zbY valD zb8 zcA zhf zdz zdA zb1 zbQ zax zaW zbu delAll effD St.effS zdj zbl za5 zdk zbm za7 zcl za6 zaV zcm zdh zbJ zci zbt zcg zch zaK mkD zbL zbC zbP zax zcv D.ids Op.operands Call.operands zbI makeIfD makeFuncD typeAssertD ziB zdR zdS zhX zcD IntKind.bits zcV List.take_of_length_le List.range_succ
attribute [local irreducible] V G H HD HD2 HD4 zmC RetX zao Eff CallP CallV EndOK Fun Ret FinOK LoopI LoopW EndW
abbrev zlE (e : Exp) : Prop := ∀ least : Int, Fun Tryz.prog 59 [.u (.agg e.row), .u (.int .i64 least)] (· = .u (.str (txt e least)))
theorem zdU (op n u : Int) (s : W8) (args : List Exp) (i : Nat) (a : Exp) (least : Int) (ha : args[i]? = some a) (h : zlE a) :
  Fun Tryz.prog 112 [.u (.int .i64 i), .u (.int .i64 least), .u (.row [.int .i64 op, .int .i64 n, .int .i64 u, .str s, .sl (args.map Exp.row)] 0)] (· = .u (.str (txt a least))) := by
 have hs := h least
 rw [Exp.row_eq] at hs
 generalize txt a least = T at *
 have hi := (lGE.1 ha).1
 (refine Fun.of_body Tryz.func112 rfl (by simp) fun Γ hn => ?_); simp only [entry, ziC, ziN, maC, maN, oA, Tryz.ntmps112]
 have hlt : (i : Int) < args.length := by omega
 repeat' (first
  | ((first | refine zaf ?_ | refine zaj ?_ | refine zag ?_ | fail); simp [ha, hlt, Exp.row_eq])
  | (refine zaq ?_; simp only [zao])
  | (refine CallP.fE (hs) (by first | rfl | fail) (by first | simp [ha, hlt, Exp.row_eq] <;> rfl | fail) ?_; (try simp [ha, hlt, Exp.row_eq]))
  | fail)
 (refine EndOK.val (.inr rfl) ?_; simp [zaJ, zah, zau, Tryz.results112])
theorem zou (o : Opr) (op n u : Int) (s : W8) (g : U) : Fun Tryz.prog 114 (zql o :: [U.row [.int .i64 op, .int .i64 n, .int .i64 u, .str s, g] 0].map .u) (· = .u (.bool (decide (o.op = op)))) := by
 simp only [List.map_cons, List.map_nil, zql]
 (refine Fun.of_body Tryz.func114 rfl (by simp) fun Γ hn => ?_); simp only [entry, ziC, ziN, maC, maN, oA, Tryz.ntmps114]
 repeat' (first
  | ((first | refine zaf ?_ | refine zaj ?_ | refine zag ?_ | fail); simp)
  | (refine zaq ?_; simp only [zao])
  | fail)
 (refine EndOK.val (.inr rfl) ?_; simp [zaJ, zah, zau, Tryz.results114])
theorem zov (op n u : Int) (s : W8) (g : U) : Fun Tryz.prog 96 [.u (zlW oprs), .fnc (.func 114) [.u (.row [.int .i64 op, .int .i64 n, .int .i64 u, .str s, g] 0)]]
  (· = .u (.int .i64 (zhj (fun o => decide (o.op = op)) oprs 0))) :=
 zhG oprs 114 [U.row [.int .i64 op, .int .i64 n, .int .i64 u, .str s, g] 0] (fun o => decide (o.op = op)) (fun o _ => zou o op n u s g) rfl (fun o => rfl)
/-- Ahead of the parentheses. -/
theorem zmR {d : Nat} {e : Exp} (he : zaH d e = true) (hd : d ≤ 12) (h0 : Fun Tryz.prog 59 [.u (.agg e.row), .u (.int .i64 0)] (· = .u (.str (txt e 0)))) {least : Int} (hl : zbX e.op < least) (h00 : ¬ zbX e.op < 0) :
  Fun Tryz.prog 59 [.u (.agg e.row), .u (.int .i64 least)] (· = .u (.str (txt e least))) := by
 have hf := zlo e
 have hlen := zcr he hd 0
 rw [zgj he hl]
 rw [zcX h00] at h0 hlen
 rw [Exp.row_eq] at *
 generalize zbg (zbj e) = T at *
 generalize zbX e.op = F at *
 have hT : T.length ≤ 9223372036854775000 := by omega
 (refine Fun.of_body Tryz.func59 rfl (by simp) fun Γ hn => ?_); simp only [entry, ziC, ziN, maC, maN, oA, Tryz.ntmps59]
 repeat' (first
  | ((first | refine zaf ?_ | refine zaj ?_ | fail); simp [hl])
  | (refine ⟨by omega, ?_⟩)
  | ((first | refine zag ?_ | refine zai ?_ | fail); simp [hl])
  | (refine zaq ?_; simp only [zao])
  | (refine CallP.fE (hf) (by first | rfl | fail) (by first | simp [hl] <;> rfl | fail) ?_; (try simp [hl]))
  | (refine CallP.fE (h0) (by first | rfl | fail) (by first | simp [hl] <;> rfl | fail) ?_; (try simp [hl]))
  | fail)
 (refine EndOK.val (.inr rfl) ?_; simp [zaJ, zah, zau, Tryz.results59])
theorem zi3 : ∀ (d : Nat), d ≤ 12 → ∀ e : Exp, zaH d e = true → ∀ least : Int, ¬ zbX e.op < least → (∀ x ∈ e.args, zaH (d - 1) x = true → zlE x) →
  Fun Tryz.prog 59 [.u (.agg e.row), .u (.int .i64 least)] (· = .u (.str (zbg (zbj e))))
 | 0, _, e, h, _, _, _ => by rw [zaH] at h; cases h
 | d + 1, hd, .mk op n u s args, h, least, hl, ih => by
  have hf := zlo (.mk op n u s args)
  simp only [Exp.op] at hl hf
  rw [Exp.row] at hf ⊢
  rcases zed h with ⟨rfl, rfl, rfl, hn⟩ | ⟨rfl, rfl, rfl, rfl, hn⟩ | ⟨rfl, rfl, rfl, ha, ⟨rfl, hl3⟩ | ⟨rfl, hl3⟩ | ⟨g0, g1, g12, g13, g2, g3, hl3⟩⟩
  ·have h1 := zl5 n u hn
   rw [zbj, zcT, if_pos rfl]
   rw [Exp.row] at h1
   simp only [List.map_nil] at *
   generalize zbg (zeC n u) = T at *
   (refine Fun.of_body Tryz.func59 rfl (by simp) fun Γ hn => ?_); simp only [entry, ziC, ziN, maC, maN, oA, Tryz.ntmps59]
   repeat' (first
  | ((first | refine zaf ?_ | refine zaj ?_ | refine zag ?_ | refine zai ?_ | refine zav ?_ | fail); simp [hl])
  | ((first | refine zaq ?_ | refine zap ?_ | fail); simp only [zao])
  | (refine CallP.fE (hf) (by first | rfl | fail) (by first | simp [hl] <;> rfl | fail) ?_; (try simp [hl]))
  | (refine CallP.fE (h1) (by first | rfl | fail) (by first | simp [hl] <;> rfl | fail) ?_; (try simp [hl]))
  | fail)
   (refine EndOK.val (.inr rfl) ?_; simp [zaJ, zah, zau, Tryz.results59])
  ·rw [zbj, zcT, if_neg (by decide), if_pos rfl, zbi]
   simp only [List.map_nil] at *
   (refine Fun.of_body Tryz.func59 rfl (by simp) fun Γ hn => ?_); simp only [entry, ziC, ziN, maC, maN, oA, Tryz.ntmps59]
   repeat' (first
  | ((first | refine zaf ?_ | refine zaj ?_ | refine zag ?_ | refine zai ?_ | refine zav ?_ | fail); simp [hl])
  | ((first | refine zaq ?_ | refine zap ?_ | fail); simp only [zao])
  | (refine CallP.fE (hf) (by first | rfl | fail) (by first | simp [hl] <;> rfl | fail) ?_; (try simp [hl]))
  | fail)
   (refine EndOK.val (.inr rfl) ?_; simp [zaJ, zah, zau, Tryz.results59])
  ·obtain ⟨a, rfl⟩ := zoF hl3
   have h1 := ha a (by simp)
   have hb := zcr h1 (by omega) 3
   have k1 := zdU 12 0 0 [] [a] 0 a 3 rfl (ih a (by simp [Exp.args]) h1)
   rw [zle h1]
   simp only [List.map_cons, List.map_nil] at *
   generalize txt a 3 = T at *
   have hT : T.length ≤ 9223372036854775000 := by omega
   (refine Fun.of_body Tryz.func59 rfl (by simp) fun Γ hn => ?_); simp only [entry, ziC, ziN, maC, maN, oA, Tryz.ntmps59]
   repeat' (first
  | ((first | refine zaf ?_ | refine zaj ?_ | fail); simp [hl])
  | (refine ⟨by omega, ?_⟩)
  | ((first | refine zag ?_ | refine zai ?_ | refine zav ?_ | fail); simp [hl])
  | ((first | refine zaq ?_ | refine zap ?_ | fail); simp only [zao])
  | (refine CallP.fE (hf) (by first | rfl | fail) (by first | simp [hl] <;> rfl | fail) ?_; (try simp [hl]))
  | (refine CallP.fE (k1) (by first | rfl | fail) (by first | simp [hl] <;> rfl | fail) ?_; (try simp [hl]))
  | fail)
   (refine EndOK.val (.inr rfl) ?_; simp [zaJ, zah, zau, Tryz.results59])
  ·obtain ⟨a, b, c, rfl⟩ := zoD hl3
   have h1 := ha a (by simp)
   have h2 := ha b (by simp)
   have h3 := ha c (by simp)
   have hb1 := zcr h1 (by omega) 0
   have hb2 := zcr h2 (by omega) 0
   have hb3 := zcr h3 (by omega) 0
   have k1 := zdU 13 0 0 [] [a, b, c] 0 a 0 rfl (ih a (by simp [Exp.args]) h1)
   have k2 := zdU 13 0 0 [] [a, b, c] 1 b 0 rfl (ih b (by simp [Exp.args]) h2)
   have k3 := zdU 13 0 0 [] [a, b, c] 2 c 0 rfl (ih c (by simp [Exp.args]) h3)
   rw [znD h1 h2 h3]
   simp only [List.map_cons, List.map_nil] at *
   generalize txt a 0 = T1 at *
   generalize txt b 0 = T2 at *
   generalize txt c 0 = T3 at *
   (refine Fun.of_body Tryz.func59 rfl (by simp) fun Γ hn => ?_); simp only [entry, ziC, ziN, maC, maN, oA, Tryz.ntmps59]
   repeat' (first
  | ((first | refine zaf ?_ | refine zaj ?_ | fail); simp [hl])
  | (refine ⟨by omega, ?_⟩)
  | ((first | refine zag ?_ | refine zai ?_ | refine zav ?_ | fail); simp [hl])
  | ((first | refine zaq ?_ | refine zap ?_ | fail); simp only [zao])
  | (refine CallP.fE (hf) (by first | rfl | fail) (by first | simp [hl] <;> rfl | fail) ?_; (try simp [hl]))
  | (refine CallP.fE (k1) (by first | rfl | fail) (by first | simp [hl] <;> rfl | fail) ?_; (try simp [hl]))
  | (refine CallP.fE (k2) (by first | rfl | fail) (by first | simp [hl] <;> rfl | fail) ?_; (try simp [hl]))
  | (refine CallP.fE (k3) (by first | rfl | fail) (by first | simp [hl] <;> rfl | fail) ?_; (try simp [hl]))
  | fail)
   (refine EndOK.val (.inr rfl) ?_; simp [zaJ, zah, zau, Tryz.results59])
  ·obtain ⟨a, b, rfl⟩ := zoE hl3
   have h1 := ha a (by simp)
   have h2 := ha b (by simp)
   have ia := ih a (by simp [Exp.args]) h1
   have ib := ih b (by simp [Exp.args]) h2
   by_cases h6 : op = 6
   ·subst h6
    have hb1 := zcr h1 (by omega) 0
    have hb2 := zcr h2 (by omega) 0
    have k1 := zdU 6 0 0 [] [a, b] 0 a 0 rfl ia
    have k2 := zdU 6 0 0 [] [a, b] 1 b 0 rfl ib
    rw [zlf h1 h2]
    simp only [List.map_cons, List.map_nil] at *
    generalize txt a 0 = T1 at *
    generalize txt b 0 = T2 at *
    (refine Fun.of_body Tryz.func59 rfl (by simp) fun Γ hn => ?_); simp only [entry, ziC, ziN, maC, maN, oA, Tryz.ntmps59]
    repeat' (first
  | ((first | refine zaf ?_ | refine zaj ?_ | fail); simp [hl])
  | (refine ⟨by omega, ?_⟩)
  | ((first | refine zag ?_ | refine zai ?_ | refine zav ?_ | fail); simp [hl])
  | ((first | refine zaq ?_ | refine zap ?_ | fail); simp only [zao])
  | (refine CallP.fE (hf) (by first | rfl | fail) (by first | simp [hl] <;> rfl | fail) ?_; (try simp [hl]))
  | (refine CallP.fE (k1) (by first | rfl | fail) (by first | simp [hl] <;> rfl | fail) ?_; (try simp [hl]))
  | (refine CallP.fE (k2) (by first | rfl | fail) (by first | simp [hl] <;> rfl | fail) ?_; (try simp [hl]))
  | fail)
    (refine EndOK.val (.inr rfl) ?_; simp [zaJ, zah, zau, Tryz.results59])
   ·by_cases h7 : op = 7
    ·subst h7
     have hb1 := zcr h1 (by omega) 0
     have hb2 := zcr h2 (by omega) 0
     have k1 := zdU 7 0 0 [] [a, b] 0 a 0 rfl ia
     have k2 := zdU 7 0 0 [] [a, b] 1 b 0 rfl ib
     rw [zlg h1 h2]
     simp only [List.map_cons, List.map_nil] at *
     generalize txt a 0 = T1 at *
     generalize txt b 0 = T2 at *
     (refine Fun.of_body Tryz.func59 rfl (by simp) fun Γ hn => ?_); simp only [entry, ziC, ziN, maC, maN, oA, Tryz.ntmps59]
     repeat' (first
  | ((first | refine zaf ?_ | refine zaj ?_ | fail); simp [hl])
  | (refine ⟨by omega, ?_⟩)
  | ((first | refine zag ?_ | refine zai ?_ | refine zav ?_ | fail); simp [hl])
  | ((first | refine zaq ?_ | refine zap ?_ | fail); simp only [zao])
  | (refine CallP.fE (hf) (by first | rfl | fail) (by first | simp [hl] <;> rfl | fail) ?_; (try simp [hl]))
  | (refine CallP.fE (k1) (by first | rfl | fail) (by first | simp [hl] <;> rfl | fail) ?_; (try simp [hl]))
  | (refine CallP.fE (k2) (by first | rfl | fail) (by first | simp [hl] <;> rfl | fail) ?_; (try simp [hl]))
  | fail)
     (refine EndOK.val (.inr rfl) ?_; simp [zaJ, zah, zau, Tryz.results59])
    ·obtain ⟨o, ho, rfl⟩ := zkX (by omega) (by omega) h6 h7
     have hop := zeh
     have hfd : oprs.find? (fun x => decide (x.op = o.op)) = some o := by
      simp only [oprs, List.mem_cons, List.mem_nil_iff, or_false] at ho
      rcases ho with rfl | rfl | rfl | rfl | rfl | rfl | rfl | rfl <;> rfl
     obtain ⟨j, hj1, hj2⟩ := (zfr oprs 0).2 o hfd
     have hix := zov o.op 0 0 [] (.sl ([a, b].map Exp.row))
     rw [hj2] at hix
     have hj0 : ¬ ((j : Int) < 0) := by omega
     have hjl : j < 8 := (lGE.1 hj1).1
     rw [show (0 : Int) + j = (j : Int) by omega] at hix
     have hfm : 0 ≤ o.form ∧ o.form ≤ 6 := by
      simp only [oprs, List.mem_cons, List.mem_nil_iff, or_false] at ho
      rcases ho with rfl | rfl | rfl | rfl | rfl | rfl | rfl | rfl <;> decide
     obtain ⟨hf0, hf6⟩ := hfm
     have hot := zm7 ho
     have hb1 := zcr h1 (by omega) (if o.form = 4 then 5 else o.form)
     have hb2 := zcr h2 (by omega) (o.form + 1)
     have k1 := zdU o.op 0 0 [] [a, b] 0 a (if o.form = 4 then 5 else o.form) rfl ia
     have k2 := zdU o.op 0 0 [] [a, b] 1 b (o.form + 1) rfl ib
     rw [zeW ho h1 h2]
     simp only [List.map_cons, List.map_nil] at *
     clear hfd hj2 ho
     generalize hL : oprs = L at hop hix hj1
     by_cases c4 : o.form = 4
     ·have e1 : o.form + 1 = 5 := by omega
      rw [if_pos c4] at k1 hb1 ⊢
      rw [e1] at k2 hb2 ⊢
      generalize txt a 5 = T1 at *
      generalize txt b 5 = T2 at *
      (refine Fun.of_body Tryz.func59 rfl (by simp) fun Γ hn => ?_); simp only [entry, ziC, ziN, maC, maN, oA, Tryz.ntmps59]
      repeat' (first
  | ((first | refine zaf ?_ | refine zaO rfl ?_ | refine zaj ?_ | fail); simp [hl, g0, g1, g12, g13, h6, h7, hj0, hj1, c4])
  | (refine ⟨by omega, ?_⟩)
  | ((first | refine zag ?_ | refine zai ?_ | fail); simp [hl, g0, g1, g12, g13, h6, h7, hj0, hj1, c4])
  | (refine zaX (hC _ (by kernel_rfl)) (hk _ ?_); clear hC hk C k; simp only [zao])
  | (refine za0 rfl (by kernel_rfl) (by first | (simp [hn]; done) | (simp [hn]; omega) | fail) fun C k hC hk => ?_; simp [hl, g0, g1, g12, g13, h6, h7, hj0, hj1, c4])
  | ((first | refine zav ?_ | refine zat ?_ | fail); simp [hl, g0, g1, g12, g13, h6, h7, hj0, hj1, c4])
  | ((first | refine zaq ?_ | refine zap ?_ | fail); simp only [zao])
  | (refine CallP.fE (hf) (by first | rfl | fail) (by first | simp [hl, g0, g1, g12, g13, h6, h7, hj0, hj1, c4] <;> rfl | fail) ?_; (try simp [hl, g0, g1, g12, g13, h6, h7, hj0, hj1, c4]))
  | (refine CallP.fE (hop) (by first | rfl | fail) (by first | simp [hl, g0, g1, g12, g13, h6, h7, hj0, hj1, c4] <;> rfl | fail) ?_; (try simp [hl, g0, g1, g12, g13, h6, h7, hj0, hj1, c4]))
  | (refine CallP.fE (hix) (by first | rfl | fail) (by first | simp [hl, g0, g1, g12, g13, h6, h7, hj0, hj1, c4] <;> rfl | fail) ?_; (try simp [hl, g0, g1, g12, g13, h6, h7, hj0, hj1, c4]))
  | (refine CallV.fun_ (k1) (by first | rfl | fail) (by first | simp [hl, g0, g1, g12, g13, h6, h7, hj0, hj1, c4] <;> rfl | fail) ?_ <;> (try simp [hl, g0, g1, g12, g13, h6, h7, hj0, hj1, c4]))
  | (refine CallV.fun_ (k2) (by first | rfl | fail) (by first | simp [hl, g0, g1, g12, g13, h6, h7, hj0, hj1, c4] <;> rfl | fail) ?_ <;> (try simp [hl, g0, g1, g12, g13, h6, h7, hj0, hj1, c4]))
  | fail)
      (refine EndOK.val (.inr rfl) ?_; simp [zaJ, zah, zau, Tryz.results59])
     ·rw [if_neg c4] at k1 hb1 ⊢
      generalize txt a o.form = T1 at *
      generalize txt b (o.form + 1) = T2 at *
      (refine Fun.of_body Tryz.func59 rfl (by simp) fun Γ hn => ?_); simp only [entry, ziC, ziN, maC, maN, oA, Tryz.ntmps59]
      repeat' (first
  | ((first | refine zaf ?_ | refine zaO rfl ?_ | refine zaj ?_ | fail); simp [hl, g0, g1, g12, g13, h6, h7, hj0, hj1, c4])
  | (refine ⟨by omega, ?_⟩)
  | ((first | refine zag ?_ | refine zai ?_ | fail); simp [hl, g0, g1, g12, g13, h6, h7, hj0, hj1, c4])
  | (refine zaX (hC _ (by kernel_rfl)) (hk _ ?_); clear hC hk C k; simp only [zao])
  | (refine za0 rfl (by kernel_rfl) (by first | (simp [hn]; done) | (simp [hn]; omega) | fail) fun C k hC hk => ?_; simp [hl, g0, g1, g12, g13, h6, h7, hj0, hj1, c4])
  | (refine zav ?_; simp [hl, g0, g1, g12, g13, h6, h7, hj0, hj1, c4])
  | ((first | refine zaq ?_ | refine zap ?_ | fail); simp only [zao])
  | (refine CallP.fE (hf) (by first | rfl | fail) (by first | simp [hl, g0, g1, g12, g13, h6, h7, hj0, hj1, c4] <;> rfl | fail) ?_; (try simp [hl, g0, g1, g12, g13, h6, h7, hj0, hj1, c4]))
  | (refine CallP.fE (hop) (by first | rfl | fail) (by first | simp [hl, g0, g1, g12, g13, h6, h7, hj0, hj1, c4] <;> rfl | fail) ?_; (try simp [hl, g0, g1, g12, g13, h6, h7, hj0, hj1, c4]))
  | (refine CallP.fE (hix) (by first | rfl | fail) (by first | simp [hl, g0, g1, g12, g13, h6, h7, hj0, hj1, c4] <;> rfl | fail) ?_; (try simp [hl, g0, g1, g12, g13, h6, h7, hj0, hj1, c4]))
  | (refine CallV.fun_ (k1) (by first | rfl | fail) (by first | simp [hl, g0, g1, g12, g13, h6, h7, hj0, hj1, c4] <;> rfl | fail) ?_ <;> (try simp [hl, g0, g1, g12, g13, h6, h7, hj0, hj1, c4]))
  | (refine CallV.fun_ (k2) (by first | rfl | fail) (by first | simp [hl, g0, g1, g12, g13, h6, h7, hj0, hj1, c4] <;> rfl | fail) ?_ <;> (try simp [hl, g0, g1, g12, g13, h6, h7, hj0, hj1, c4]))
  | fail)
      (refine EndOK.val (.inr rfl) ?_; simp [zaJ, zah, zau, Tryz.results59])
theorem zgk : ∀ (d : Nat), d ≤ 12 → ∀ e : Exp, zaH d e = true → zlE e
 | 0, _, e, h => by rw [zaH] at h; cases h
 | d + 1, hd, e, h => fun least => by
  have ih : ∀ x ∈ e.args, zaH (d + 1 - 1) x = true → zlE x := fun x _ hx => zgk d (by omega) x hx
  have h00 : ¬ zbX e.op < 0 := by
   unfold zbX
   split
   ·omega
   ·split
    ·omega
    ·split
     ·rename_i o ho
      have := List.mem_of_find?_eq_some ho
      simp only [oprs, List.mem_cons, List.mem_nil_iff, or_false] at this
      rcases this with rfl | rfl | rfl | rfl | rfl | rfl | rfl | rfl <;> decide
     ·omega
  have h0 := zi3 (d + 1) hd e h 0 h00 ih
  by_cases hl : zbX e.op < least
  ·exact zmR h hd (by rw [zcX h00]; exact h0) hl h00
  ·have := zi3 (d + 1) hd e h least hl ih
   rwa [← zcX hl] at this
/-- What PrintExp returns. -/
def zfl (e : Exp) : W8 × Int := if zaH 12 e = true then (if 2000 < (txt e 0).length then ([], 6) else (txt e 0, 0)) else ([], 1)
theorem zf2 (e : Exp) : Fun Tryz.prog 21 [.u (.agg e.row)] (· = .tup [.u (.str (zfl e).1), .u (.int .i64 (zfl e).2)]) := by
 have h1 : Fun Tryz.prog 25 [.u (.agg e.row)] (· = .u (.bool (zaH 12 e))) := by rw [Exp.row_eq]; exact zdE e
 unfold zfl
 cases hr : zaH 12 e with
 | false =>
  rw [hr] at h1
  rw [if_neg (by simp)]
  rw [Exp.row_eq] at *
  (refine Fun.of_body Tryz.func21 rfl (by simp) fun Γ hn => ?_); simp only [entry, ziC, ziN, maC, maN, oA, Tryz.ntmps21]
  repeat' (first
  | ((first | refine zaf ?_ | refine zaj ?_ | refine zag ?_ | refine zai ?_ | fail); simp)
  | (refine zaq ?_; simp only [zao])
  | (refine CallP.fE (h1) (by first | rfl | fail) (by first | (simp; done) | (simp; rfl) | fail) ?_; (try simp))
  | fail)
  (refine EndOK.val (.inr rfl) ?_; simp [zaJ, zah, zau, Tryz.results21])
 | true =>
  have h2 := zgk 12 (Nat.le_refl _) e hr 0
  have h3 := zlq (txt e 0)
  rw [hr] at h1
  rw [if_pos rfl]
  rw [Exp.row_eq] at *
  generalize txt e 0 = T at *
  by_cases hl : 2000 < T.length
  ·rw [if_pos hl] at h3 ⊢
   (refine Fun.of_body Tryz.func21 rfl (by simp) fun Γ hn => ?_); simp only [entry, ziC, ziN, maC, maN, oA, Tryz.ntmps21]
   repeat' (first
  | ((first | refine zaf ?_ | refine zaj ?_ | refine zag ?_ | refine zai ?_ | fail); simp)
  | ((first | refine zaq ?_ | refine zap ?_ | fail); simp only [zao])
  | (refine CallP.fE (h1) (by first | rfl | fail) (by first | (simp; done) | (simp; rfl) | fail) ?_; (try simp))
  | (refine CallP.fE (h2) (by first | rfl | fail) (by first | (simp; done) | (simp; rfl) | fail) ?_; (try simp))
  | (refine CallP.fE (h3) (by first | rfl | fail) (by first | (simp; done) | (simp; rfl) | fail) ?_; (try simp))
  | fail)
   (refine EndOK.val (.inr rfl) ?_; simp [zaJ, zah, zau, Tryz.results21])
  ·rw [if_neg hl] at h3 ⊢
   (refine Fun.of_body Tryz.func21 rfl (by simp) fun Γ hn => ?_); simp only [entry, ziC, ziN, maC, maN, oA, Tryz.ntmps21]
   repeat' (first
  | ((first | refine zaf ?_ | refine zaj ?_ | refine zag ?_ | refine zai ?_ | fail); simp)
  | ((first | refine zaq ?_ | refine zap ?_ | fail); simp only [zao])
  | (refine CallP.fE (h1) (by first | rfl | fail) (by first | (simp; done) | (simp; rfl) | fail) ?_; (try simp))
  | (refine CallP.fE (h2) (by first | rfl | fail) (by first | (simp; done) | (simp; rfl) | fail) ?_; (try simp))
  | (refine CallP.fE (h3) (by first | rfl | fail) (by first | (simp; done) | (simp; rfl) | fail) ?_; (try simp))
  | fail)
   (refine EndOK.val (.inr rfl) ?_; simp [zaJ, zah, zau, Tryz.results21])
theorem zl2 (l : List Tok) (p : Nat) (a b : Int) (i nx : Nat) (hi : i < nx) (hp : p < l.length) (hl : TokOK l) :
  RetX Tryz.prog 128 [.ptr i 0, zio a, zio b] [(i, pOb l p)] nx (PPost l i nx zio (zqn l p a b)) := by
 have hne := zaB hi
 obtain ⟨t, ht⟩ : ∃ t, l[p]? = some t := ⟨_, List.getElem?_eq_getElem hp⟩
 have hnx := zbM l p t ht hl.len
 have hll := hl.len
 have hc1 := fun e nx' (h : nx ≤ nx') => zdM l p e i nx' (by omega)
 have hc2 := fun e nx' (h : nx ≤ nx') => zcG l p t e i nx' (by omega) ht hl.len
 rw [zqn, ht]
 by_cases hk2 : t.kind = 2
 ·simp only [hk2, if_true]
  by_cases h1 : a ≤ t.n
  ·by_cases h2 : t.n ≤ b
   ·simp only [h1, h2, and_self, if_true]
    (refine RetX.of_bodyW Tryz.func128 rfl (by simp) fun Γ hn hpan => ?_); simp only [entry, ziC, ziN, maC, maN, oA, Tryz.ntmps128]
    repeat' (first
  | ((first | refine zaf ?_ | refine zaj ?_ | fail); simp [hne, hk2, h1, h2, del])
  | (refine ⟨by omega, ?_⟩)
  | (refine zag ?_; simp [hne, hk2, h1, h2, del])
  | (refine zaq ?_; simp only [zao])
  | (refine CallP.fE (hnx) (by first | rfl | fail) (by first | simp [hne, hk2, h1, h2, del] <;> rfl | fail) ?_; (try simp [hne, hk2, h1, h2, del]))
  | (refine CallP.ok1 (hc1 _ _ (by first | omega | simp <;> omega | fail)) (by first | (simp [hne, hk2, h1, h2, del, zaa, getK, zab, zac]; done) | fail) (by rfl) (by rfl) ?_; (try simp [hne, hk2, h1, h2, del]))
  | fail)
    (refine EndW.here ?_; (first | (refine EndOK.fin (.inr rfl) ?_) | (refine EndOK.fin (.inl rfl) ?_)); simp [zaJ, zah, Tryz.results128, hne, hi]; refine FinOK.cut [(i, pOb l (p + 1))] (nx) (by simp [zaa, getK, zab, zac, Ob.under, D.under, zad, zae, hne, hi] <;> omega) (by simp [D.under]) (by simp [hn]) ?_; try simp)
    exact PPost.zcf rfl rfl rfl
   ·simp only [h1, h2, and_false, if_false]
    (refine RetX.of_bodyW Tryz.func128 rfl (by simp) fun Γ hn hpan => ?_); simp only [entry, ziC, ziN, maC, maN, oA, Tryz.ntmps128]
    repeat' (first
  | ((first | refine zaf ?_ | refine zaj ?_ | refine zag ?_ | fail); simp [hne, hk2, h1, h2, del])
  | (refine CallP.fE (hnx) (by first | rfl | fail) (by first | simp [hne, hk2, h1, h2, del] <;> rfl | fail) ?_; (try simp [hne, hk2, h1, h2, del]))
  | (refine CallP.ok1 (hc1 _ _ (by first | omega | simp <;> omega | fail)) (by first | (simp [hne, hk2, h1, h2, del, zaa, getK, zab, zac]; done) | fail) (by rfl) (by rfl) ?_; (try simp [hne, hk2, h1, h2, del]))
  | (refine CallP.zd8 (hc2 _ _ (by first | omega | simp <;> omega | fail)) (by first | (simp [hne, hk2, h1, h2, del, zaa, getK, zab, zac]; done) | fail) (by rfl) (by first | assumption | (simp; done) | fail) (by rfl) (by simp) ?_; rintro ob' ⟨q', rfl⟩; refine ⟨_, Wk.refl _, ?_⟩)
  | fail)
    (refine hpan _ _ ⟨{ n := _, env := [], obs := [(i, pOb l q')], next := nx }, (Wk.cut rfl (by simp [hn]) (by simp [wkO, zaa, getK, zab, zac, Ob.under, D.under, zad, zae, hi, hne, zab, zac, zaa, getK]) (by simp [wkU, zam, zaa, getK, D.under, hi, hne, zab, zac, zaa, getK]) (by simp [wkE, zam, zaa, getK, hi, hne, zab, zac, zaa, getK])), by simp [hn], ?_⟩; try simp)
    exact PPost.zay (by simp [PR.bind, *])
  ·simp only [h1, false_and, if_false]
   (refine RetX.of_bodyW Tryz.func128 rfl (by simp) fun Γ hn hpan => ?_); simp only [entry, ziC, ziN, maC, maN, oA, Tryz.ntmps128]
   repeat' (first
  | ((first | refine zaf ?_ | refine zaj ?_ | refine zag ?_ | fail); simp [hne, hk2, h1, del])
  | (refine CallP.fE (hnx) (by first | rfl | fail) (by first | simp [hne, hk2, h1, del] <;> rfl | fail) ?_; (try simp [hne, hk2, h1, del]))
  | (refine CallP.ok1 (hc1 _ _ (by first | omega | simp <;> omega | fail)) (by first | (simp [hne, hk2, h1, del, zaa, getK, zab, zac]; done) | fail) (by rfl) (by rfl) ?_; (try simp [hne, hk2, h1, del]))
  | (refine CallP.zd8 (hc2 _ _ (by first | omega | simp <;> omega | fail)) (by first | (simp [hne, hk2, h1, del, zaa, getK, zab, zac]; done) | fail) (by rfl) (by first | assumption | (simp; done) | fail) (by rfl) (by simp) ?_; rintro ob' ⟨q', rfl⟩; refine ⟨_, Wk.refl _, ?_⟩)
  | fail)
   (refine hpan _ _ ⟨{ n := _, env := [], obs := [(i, pOb l q')], next := nx }, (Wk.cut rfl (by simp [hn]) (by simp [wkO, zaa, getK, zab, zac, Ob.under, D.under, zad, zae, hi, hne, zab, zac, zaa, getK]) (by simp [wkU, zam, zaa, getK, D.under, hi, hne, zab, zac, zaa, getK]) (by simp [wkE, zam, zaa, getK, hi, hne, zab, zac, zaa, getK])), by simp [hn], ?_⟩; try simp)
   exact PPost.zay (by simp [PR.bind, *])
 ·simp only [hk2, if_false]
  (refine RetX.of_bodyW Tryz.func128 rfl (by simp) fun Γ hn hpan => ?_); simp only [entry, ziC, ziN, maC, maN, oA, Tryz.ntmps128]
  repeat' (first
  | ((first | refine zaf ?_ | refine zaj ?_ | refine zag ?_ | fail); simp [hne, hk2, del])
  | (refine CallP.fE (hnx) (by first | rfl | fail) (by first | simp [hne, hk2, del] <;> rfl | fail) ?_; (try simp [hne, hk2, del]))
  | (refine CallP.zd8 (hc2 _ _ (by first | omega | simp <;> omega | fail)) (by first | (simp [hne, hk2, del, zaa, getK, zab, zac]; done) | fail) (by rfl) (by first | assumption | (simp; done) | fail) (by rfl) (by simp) ?_; rintro ob' ⟨q', rfl⟩; refine ⟨_, Wk.refl _, ?_⟩)
  | fail)
  (refine hpan _ _ ⟨{ n := _, env := [], obs := [(i, pOb l q')], next := nx }, (Wk.cut rfl (by simp [hn]) (by simp [wkO, zaa, getK, zab, zac, Ob.under, D.under, zad, zae, hi, hne, zab, zac, zaa, getK]) (by simp [wkU, zam, zaa, getK, D.under, hi, hne, zab, zac, zaa, getK]) (by simp [wkE, zam, zaa, getK, hi, hne, zab, zac, zaa, getK])), by simp [hn], ?_⟩; try simp)
  exact PPost.zay (by simp [PR.bind, *])
theorem znd {l : List Tok} (hl : TokOK l) {p q : Nat} {a b n : Int} (h : zqn l p a b = .ok n q) : p ≤ q ∧ q < l.length := by
 unfold zqn at h
 split at h
 ·cases h
 ·rename_i t ht
  split at h
  ·rename_i hk2
   split at h
   ·cases h
    exact ⟨by omega, hl.fin p t ht (by omega)⟩
   ·cases h
  ·cases h
theorem zdF (l : List Tok) (p : Nat) (w : List UInt8) (a b : Int) (ws : List (List UInt8)) (i nx : Nat) (hi : i < nx) (hp : p < l.length) (hl : TokOK l) (hw : ws.length ≤ 100) :
  RetX Tryz.prog 80 [.ptr i 0, .u (.str w), zio a, zio b, .u (.sl (ws.map fun w => [.str w]))] [(i, pOb l p)] nx (PPost l i nx zio (zdX l p w a b ws)) := by
 have hne := zaB hi
 have hh1 := fun nx' (h : nx ≤ nx') => zbc l p w i nx' (by omega) hp hl.len
 rw [zdX]
 cases hb : isB l p w with
 | false =>
  simp only [hb, Bool.false_eq_true, if_false] at hh1 ⊢
  (refine RetX.of_bodyW Tryz.func80 rfl (by simp) fun Γ hn hpan => ?_); simp only [entry, ziC, ziN, maC, maN, oA, Tryz.ntmps80]
  repeat' (first
  | ((first | refine zaf ?_ | refine zaj ?_ | refine zag ?_ | refine zai ?_ | fail); simp [hne, del])
  | (refine zaq ?_; simp only [zao])
  | (refine CallP.ok1 (hh1 _ (by first | omega | simp <;> omega | fail)) (by first | (simp [hne, del, zaa, getK, zab, zac]; done) | fail) (by rfl) (by rfl) ?_; (try simp [hne, del]))
  | fail)
  (refine EndW.here ?_; (first | (refine EndOK.fin (.inr rfl) ?_) | (refine EndOK.fin (.inl rfl) ?_)); simp [zaJ, zah, Tryz.results80, hne, hi]; refine FinOK.cut [(i, pOb l p)] (nx) (by simp [zaa, getK, zab, zac, Ob.under, D.under, zad, zae, hne, hi] <;> omega) (by simp [D.under]) (by simp [hn]) ?_; try simp)
  exact PPost.zcf rfl rfl rfl
 | true =>
  have hp2 := zba hl hb
  simp only [hb, if_true] at hh1 ⊢
  have hn1 := fun nx' (h : nx ≤ nx') => zl2 l (p + 1) a b i nx' (by omega) hp2 hl
  cases hr0 : zqn l (p + 1) a b with
  | stop pos e =>
   simp only [hr0] at hn1
   (refine RetX.of_bodyW Tryz.func80 rfl (by simp) fun Γ hn hpan => ?_); simp only [entry, ziC, ziN, maC, maN, oA, Tryz.ntmps80]
   repeat' (first
  | ((first | refine zaf ?_ | refine zaj ?_ | refine zag ?_ | refine zai ?_ | fail); simp [hne, del])
  | (refine zap ?_; simp only [zao])
  | (refine CallP.ok1 (hh1 _ (by first | omega | simp <;> omega | fail)) (by first | (simp [hne, del, zaa, getK, zab, zac]; done) | fail) (by rfl) (by rfl) ?_; (try simp [hne, del]))
  | (refine CallP.zd8 (hn1 _ (by first | omega | simp <;> omega | fail)) (by first | (simp [hne, del, zaa, getK, zab, zac]; done) | fail) (by rfl) (by first | assumption | (simp; done) | fail) (by rfl) (by simp) ?_; rintro ob' ⟨q', rfl⟩; refine ⟨_, Wk.refl _, ?_⟩)
  | fail)
   (refine hpan _ _ ⟨{ n := _, env := [], obs := [(i, pOb l q')], next := nx }, (Wk.cut rfl (by simp [hn]) (by simp [wkO, zaa, getK, zab, zac, Ob.under, D.under, zad, zae, hi, hne, zab, zac, zaa, getK]) (by simp [wkU, zam, zaa, getK, D.under, hi, hne, zab, zac, zaa, getK]) (by simp [wkE, zam, zaa, getK, hi, hne, zab, zac, zaa, getK])), by simp [hn], ?_⟩; try simp)
   exact PPost.zay (by simp [PR.bind, *])
  | ok n q0 =>
   simp only [hr0] at hn1
   obtain ⟨g0a, g0b⟩ := znd hl hr0
   have hw1 := fun nx' (h : nx ≤ nx') => zhU l q0 ws i nx' (by omega) g0b hl hw
   cases hr1 : zbs l q0 ws with
   | stop pos e =>
    simp only [hr1] at hw1
    (refine RetX.of_bodyW Tryz.func80 rfl (by simp) fun Γ hn hpan => ?_); simp only [entry, ziC, ziN, maC, maN, oA, Tryz.ntmps80]
    repeat' (first
  | ((first | refine zaf ?_ | refine zaj ?_ | refine zag ?_ | refine zai ?_ | fail); simp [hne, del])
  | (refine zap ?_; simp only [zao])
  | (refine CallP.ok1 (hh1 _ (by first | omega | simp <;> omega | fail)) (by first | (simp [hne, del, zaa, getK, zab, zac]; done) | fail) (by rfl) (by rfl) ?_; (try simp [hne, del]))
  | (refine CallP.ok1 (hn1 _ (by first | omega | simp <;> omega | fail)) (by first | (simp [hne, del, zaa, getK, zab, zac]; done) | fail) (by rfl) (by rfl) ?_; (try simp [hne, del]))
  | (refine CallP.zd8 (hw1 _ (by first | omega | simp <;> omega | fail)) (by first | (simp [hne, del, zaa, getK, zab, zac]; done) | fail) (by rfl) (by first | assumption | (simp; done) | fail) (by rfl) (by simp) ?_; rintro ob' ⟨q', rfl⟩; refine ⟨_, Wk.refl _, ?_⟩)
  | fail)
    (refine hpan _ _ ⟨{ n := _, env := [], obs := [(i, pOb l q')], next := nx }, (Wk.cut rfl (by simp [hn]) (by simp [wkO, zaa, getK, zab, zac, Ob.under, D.under, zad, zae, hi, hne, zab, zac, zaa, getK]) (by simp [wkU, zam, zaa, getK, D.under, hi, hne, zab, zac, zaa, getK]) (by simp [wkE, zam, zaa, getK, hi, hne, zab, zac, zaa, getK])), by simp [hn], ?_⟩; try simp)
    exact PPost.zay (by simp [PR.bind, *])
   | ok u q =>
    simp only [hr1] at hw1
    (refine RetX.of_bodyW Tryz.func80 rfl (by simp) fun Γ hn hpan => ?_); simp only [entry, ziC, ziN, maC, maN, oA, Tryz.ntmps80]
    repeat' (first
  | ((first | refine zaf ?_ | refine zaj ?_ | refine zag ?_ | refine zai ?_ | fail); simp [hne, del])
  | ((first | refine zaq ?_ | refine zap ?_ | fail); simp only [zao])
  | (refine CallP.ok1 (hh1 _ (by first | omega | simp <;> omega | fail)) (by first | (simp [hne, del, zaa, getK, zab, zac]; done) | fail) (by rfl) (by rfl) ?_; (try simp [hne, del]))
  | (refine CallP.ok1 (hn1 _ (by first | omega | simp <;> omega | fail)) (by first | (simp [hne, del, zaa, getK, zab, zac]; done) | fail) (by rfl) (by rfl) ?_; (try simp [hne, del]))
  | (refine CallP.ok1 (hw1 _ (by first | omega | simp <;> omega | fail)) (by first | (simp [hne, del, zaa, getK, zab, zac]; done) | fail) (by rfl) (by rfl) ?_; (try simp [hne, del]))
  | fail)
    (refine EndW.here ?_; (first | (refine EndOK.fin (.inr rfl) ?_) | (refine EndOK.fin (.inl rfl) ?_)); simp [zaJ, zah, Tryz.results80, hne, hi]; refine FinOK.cut [(i, pOb l q)] (nx) (by simp [zaa, getK, zab, zac, Ob.under, D.under, zad, zae, hne, hi] <;> omega) (by simp [D.under]) (by simp [hn]) ?_; try simp)
    exact PPost.zcf (by simp [PR.bind, *]) rfl rfl
theorem zdG {l : List Tok} (hl : TokOK l) {p q : Nat} {w : List UInt8} {a b n : Int} {ws : List (List UInt8)} (h : zdX l p w a b ws = .ok n q) (hp : p < l.length) : p ≤ q ∧ q < l.length := by
 unfold zdX at h
 split at h
 ·obtain ⟨m, r, h1, h⟩ := PR.zaw h
  have g1 := znd hl h1
  obtain ⟨m2, r2, h2, h⟩ := PR.zaw h
  have g2 := zaS hl _ h2 g1.2
  cases h
  exact ⟨by omega, g2.2⟩
 ·cases h; exact ⟨by omega, hp⟩
theorem zgt (l : List Tok) (p : Nat) (i nx : Nat) (hi : i < nx) (hp : p < l.length) (hl : TokOK l) (hl2 : l.length ≤ 2001) :
  RetX Tryz.prog 84 [.ptr i 0] [(i, pOb l p)] nx (PPost l i nx zex (zeq l p)) := by
 have hne := zaB hi
 have hll := hl.len
 rw [zeq]
 have hE := fun nx' (h : nx ≤ nx') => (zjl hl (4 * l.length + 3)).1 p 0 i nx' (by omega) hp (by omega) (by omega) (by omega)
 cases hr : zdI l (4 * l.length + 3) p 0 with
 | stop pos e =>
  simp only [hr] at hE
  (refine RetX.of_bodyW Tryz.func84 rfl (by simp) fun Γ hn hpan => ?_); simp only [entry, ziC, ziN, maC, maN, oA, Tryz.ntmps84]
  repeat' (first
  | ((first | refine zaf ?_ | refine zaj ?_ | refine zag ?_ | fail); simp [hne, del])
  | (refine CallP.zd8 (hE _ (by first | omega | simp <;> omega | fail)) (by first | (simp [hne, del, zaa, getK, zab, zac]; done) | fail) (by rfl) (by first | assumption | (simp; done) | fail) (by rfl) (by simp) ?_; rintro ob' ⟨q', rfl⟩; refine ⟨_, Wk.refl _, ?_⟩)
  | fail)
  (refine hpan _ _ ⟨{ n := _, env := [], obs := [(i, pOb l q')], next := nx }, (Wk.cut rfl (by simp [hn]) (by simp [wkO, zaa, getK, zab, zac, Ob.under, D.under, zad, zae, hi, hne, zab, zac, zaa, getK]) (by simp [wkU, zam, zaa, getK, D.under, hi, hne, zab, zac, zaa, getK]) (by simp [wkE, zam, zaa, getK, hi, hne, zab, zac, zaa, getK])), by simp [hn], ?_⟩; try simp)
  exact PPost.zay (by simp [PR.bind, *])
 | ok y q =>
  have hEx := fun nx' h => zcL (hE nx' h) hr
  obtain ⟨g0a, g0b⟩ := (zbV hl _).1 _ _ _ _ hr hp
  have hlev := (zgF (l := l) _).1 _ _ _ _ hr
  have hlev2 : y.lev ≤ 1000000000 := by
   have h1 : ((4 * l.length + 3 : Nat) : Int) * ((4 * l.length + 3 : Nat) : Int) ≤ 8007 * 8007 := Int.mul_le_mul (by omega) (by omega) (by omega) (by omega)
   omega
  have hlv := zhD (SizeOf.sizeOf y) y (Nat.le_refl _) hlev2
  rw [Exp.row_eq] at hlv
  obtain ⟨t, ht⟩ : ∃ t, l[q]? = some t := ⟨_, List.getElem?_eq_getElem g0b⟩
  have his := zdH l q [59] g0b hl.len
  have hpa : zcR l q = t.pos := by unfold zcR; rw [ht]
  have hc1 := fun e nx' (h : nx ≤ nx') => zdM l q e i nx' (by omega)
  have hc2 := fun e nx' (h : nx ≤ nx') => zcG l q t e i nx' (by omega) ht hl.len
  rw [PR.zaT, hpa]
  cases hb : isB l q [59] with
  | false =>
   simp only [hb, Bool.false_eq_true, if_false] at his ⊢
   (refine RetX.of_bodyW Tryz.func84 rfl (by simp) fun Γ hn hpan => ?_); simp only [entry, ziC, ziN, maC, maN, oA, Tryz.ntmps84]
   repeat' (first
  | ((first | refine zaf ?_ | refine zaj ?_ | refine zag ?_ | fail); simp [hne, del])
  | (refine CallP.fE (his) (by first | rfl | fail) (by first | simp [hne, del] <;> rfl | fail) ?_; (try simp [hne, del]))
  | (refine CallP.ok1 (hEx _ (by first | omega | simp <;> omega | fail)) (by first | (simp [hne, del, zaa, getK, zab, zac]; done) | fail) (by rfl) (by rfl) ?_; (try simp [hne, del]))
  | (refine CallP.zd8 (hc2 _ _ (by first | omega | simp <;> omega | fail)) (by first | (simp [hne, del, zaa, getK, zab, zac]; done) | fail) (by rfl) (by first | assumption | (simp; done) | fail) (by rfl) (by simp) ?_; rintro ob' ⟨q', rfl⟩; refine ⟨_, Wk.refl _, ?_⟩)
  | fail)
   (refine hpan _ _ ⟨{ n := _, env := [], obs := [(i, pOb l q')], next := nx }, (Wk.cut rfl (by simp [hn]) (by simp [wkO, zaa, getK, zab, zac, Ob.under, D.under, zad, zae, hi, hne, zab, zac, zaa, getK]) (by simp [wkU, zam, zaa, getK, D.under, hi, hne, zab, zac, zaa, getK]) (by simp [wkE, zam, zaa, getK, hi, hne, zab, zac, zaa, getK])), by simp [hn], ?_⟩; try simp)
   exact PPost.zay (by simp [PR.bind, *])
  | true =>
   have hq2 := zba hl hb
   simp only [hb, if_true] at his ⊢
   by_cases hv : y.lev ≤ 12
   ·simp only [hv, if_true]
    (refine RetX.of_bodyW Tryz.func84 rfl (by simp) fun Γ hn hpan => ?_); simp only [entry, ziC, ziN, maC, maN, oA, Tryz.ntmps84]
    repeat' (first
  | ((first | refine zaf ?_ | refine zaj ?_ | fail); simp [hne, del, hv])
  | (refine ⟨by omega, ?_⟩)
  | (refine zag ?_; simp [hne, del, hv])
  | (refine zaq ?_; simp only [zao])
  | (refine CallP.fE (his) (by first | rfl | fail) (by first | simp [hne, del, hv] <;> rfl | fail) ?_; (try simp [hne, del, hv]))
  | (refine CallP.fE (hlv) (by first | rfl | fail) (by first | simp [hne, del, hv] <;> rfl | fail) ?_; (try simp [hne, del, hv]))
  | (refine CallP.ok1 (hEx _ (by first | omega | simp <;> omega | fail)) (by first | (simp [hne, del, hv, zaa, getK, zab, zac]; done) | fail) (by rfl) (by rfl) ?_; (try simp [hne, del, hv]))
  | (refine CallP.ok1 (hc1 _ _ (by first | omega | simp <;> omega | fail)) (by first | (simp [hne, del, hv, zaa, getK, zab, zac]; done) | fail) (by rfl) (by rfl) ?_; (try simp [hne, del, hv]))
  | fail)
    refine EndW.norm ?_
    simp [St.norm, zbh, zbZ, zcj, zck, hne, nAA]
    (refine EndW.here ?_; (first | (refine EndOK.fin (.inr rfl) ?_) | (refine EndOK.fin (.inl rfl) ?_)); simp [zaJ, zah, Tryz.results84, hne, hi]; refine FinOK.cut [(i, pOb l (q + 1))] (nx) (by simp [zaa, getK, zab, zac, Ob.under, D.under, zad, zae, hne, hi] <;> omega) (by simp [D.under]) (by simp [hn]) ?_; try simp)
    exact PPost.zcf rfl (by simp [Exp.row_eq]) rfl
   ·simp only [hv, if_false]
    (refine RetX.of_bodyW Tryz.func84 rfl (by simp) fun Γ hn hpan => ?_); simp only [entry, ziC, ziN, maC, maN, oA, Tryz.ntmps84]
    repeat' (first
  | ((first | refine zaf ?_ | refine zaj ?_ | refine zag ?_ | fail); simp [hne, del, hv])
  | (refine CallP.fE (his) (by first | rfl | fail) (by first | simp [hne, del, hv] <;> rfl | fail) ?_; (try simp [hne, del, hv]))
  | (refine CallP.fE (hlv) (by first | rfl | fail) (by first | simp [hne, del, hv] <;> rfl | fail) ?_; (try simp [hne, del, hv]))
  | (refine CallP.ok1 (hEx _ (by first | omega | simp <;> omega | fail)) (by first | (simp [hne, del, hv, zaa, getK, zab, zac]; done) | fail) (by rfl) (by rfl) ?_; (try simp [hne, del, hv]))
  | (refine CallP.ok1 (hc1 _ _ (by first | omega | simp <;> omega | fail)) (by first | (simp [hne, del, hv, zaa, getK, zab, zac]; done) | fail) (by rfl) (by rfl) ?_; (try simp [hne, del, hv]))
  | (refine CallP.zd8 (hc2 _ _ (by first | omega | simp <;> omega | fail)) (by first | (simp [hne, del, hv, zaa, getK, zab, zac]; done) | fail) (by rfl) (by first | assumption | (simp; done) | fail) (by rfl) (by simp) ?_; rintro ob' ⟨q', rfl⟩; refine ⟨_, Wk.refl _, ?_⟩)
  | fail)
    (refine hpan _ _ ⟨{ n := _, env := [], obs := [(i, pOb l q')], next := nx }, (Wk.cut rfl (by simp [hn]) (by simp [wkO, zaa, getK, zab, zac, Ob.under, D.under, zad, zae, hi, hne, zab, zac, zaa, getK]) (by simp [wkU, zam, zaa, getK, D.under, hi, hne, zab, zac, zaa, getK]) (by simp [wkE, zam, zaa, getK, hi, hne, zab, zac, zaa, getK])), by simp [hn], ?_⟩; try simp)
    exact PPost.zay (by simp [PR.bind, *])
theorem zgv {l : List Tok} (hl : TokOK l) {p q : Nat} {e : Exp} (h : zeq l p = .ok e q) (hp : p < l.length) : p ≤ q ∧ q < l.length := by
 unfold zeq at h
 obtain ⟨y, r, h1, h⟩ := PR.zaw h
 have g1 := (zbV hl _).1 _ _ _ _ h1 hp
 split at h
 ·rename_i hb
  split at h
  ·cases h
   exact ⟨by omega, zba hl hb⟩
  ·cases h
 ·cases h
theorem zgK : Fun Tryz.prog 58 [] (· = .u (.agg nothingE.row)) := by
 simp only [nothingE, Exp.row, List.map_nil]
 (refine Fun.of_bodyW Tryz.func58 rfl (by simp) fun Γ hn => ?_); simp only [entry, ziC, ziN, maC, maN, oA, Tryz.ntmps58]
 repeat' (first
  | ((first | refine zaf ?_ | refine zaj ?_ | refine zag ?_ | fail); simp)
  | (refine zaq ?_; simp only [zao])
  | fail)
 refine EndW.norm ?_
 simp [St.norm, zbh, zbZ, zcj, zck]
 refine EndW.here ?_
 (refine EndOK.val (.inr rfl) ?_; simp [zaJ, zah, zau, Tryz.results58])
theorem ze0 (l : List Tok) (p : Nat) (w : List UInt8) (i nx : Nat) (hi : i < nx) (hp : p < l.length) (hl : TokOK l) (hl2 : l.length ≤ 2001) :
  RetX Tryz.prog 85 [.ptr i 0, .u (.str w)] [(i, pOb l p)] nx (PPost l i nx zex (zdT l p w)) := by
 have hne := zaB hi
 have hh1 := fun nx' (h : nx ≤ nx') => zbc l p w i nx' (by omega) hp hl.len
 rw [zdT]
 cases hb : isB l p w with
 | false =>
  have h0 := zgK
  simp only [nothingE, Exp.row, List.map_nil] at h0
  simp only [hb, Bool.false_eq_true, if_false] at hh1 ⊢
  (refine RetX.of_bodyW Tryz.func85 rfl (by simp) fun Γ hn hpan => ?_); simp only [entry, ziC, ziN, maC, maN, oA, Tryz.ntmps85]
  repeat' (first
  | ((first | refine zaf ?_ | refine zaj ?_ | refine zag ?_ | refine zai ?_ | fail); simp [hne, del])
  | ((first | refine zaq ?_ | refine zap ?_ | fail); simp only [zao])
  | (refine CallP.fE (h0) (by first | rfl | fail) (by first | simp [hne, del] <;> rfl | fail) ?_; (try simp [hne, del]))
  | (refine CallP.ok1 (hh1 _ (by first | omega | simp <;> omega | fail)) (by first | (simp [hne, del, zaa, getK, zab, zac]; done) | fail) (by rfl) (by rfl) ?_; (try simp [hne, del]))
  | fail)
  refine EndW.norm ?_
  simp [St.norm, zbh, zbZ, zcj, zck, hne, nAA]
  (refine EndW.here ?_; (first | (refine EndOK.fin (.inr rfl) ?_) | (refine EndOK.fin (.inl rfl) ?_)); simp [zaJ, zah, Tryz.results85, hne, hi]; refine FinOK.cut [(i, pOb l p)] (nx) (by simp [zaa, getK, zab, zac, Ob.under, D.under, zad, zae, hne, hi] <;> omega) (by simp [D.under]) (by simp [hn]) ?_; try simp)
  exact PPost.zcf rfl (by simp [nothingE, Exp.row]) rfl
 | true =>
  have hp2 := zba hl hb
  simp only [hb, if_true] at hh1 ⊢
  have hn1 := fun nx' (h : nx ≤ nx') => zgt l (p + 1) i nx' (by omega) hp2 hl hl2
  cases hr0 : zeq l (p + 1) with
  | stop pos e =>
   simp only [hr0] at hn1
   (refine RetX.of_bodyW Tryz.func85 rfl (by simp) fun Γ hn hpan => ?_); simp only [entry, ziC, ziN, maC, maN, oA, Tryz.ntmps85]
   repeat' (first
  | ((first | refine zaf ?_ | refine zaj ?_ | refine zag ?_ | refine zai ?_ | fail); simp [hne, del])
  | (refine CallP.ok1 (hh1 _ (by first | omega | simp <;> omega | fail)) (by first | (simp [hne, del, zaa, getK, zab, zac]; done) | fail) (by rfl) (by rfl) ?_; (try simp [hne, del]))
  | (refine CallP.zd8 (hn1 _ (by first | omega | simp <;> omega | fail)) (by first | (simp [hne, del, zaa, getK, zab, zac]; done) | fail) (by rfl) (by first | assumption | (simp; done) | fail) (by rfl) (by simp) ?_; rintro ob' ⟨q', rfl⟩; refine ⟨_, Wk.refl _, ?_⟩)
  | fail)
   (refine hpan _ _ ⟨{ n := _, env := [], obs := [(i, pOb l q')], next := nx }, (Wk.cut rfl (by simp [hn]) (by simp [wkO, zaa, getK, zab, zac, Ob.under, D.under, zad, zae, hi, hne, zab, zac, zaa, getK]) (by simp [wkU, zam, zaa, getK, D.under, hi, hne, zab, zac, zaa, getK]) (by simp [wkE, zam, zaa, getK, hi, hne, zab, zac, zaa, getK])), by simp [hn], ?_⟩; try simp)
   exact PPost.zay (by simp [PR.bind, *])
  | ok n q0 =>
   have hn1 := fun nx' h => zcL (hn1 nx' h) hr0
   (refine RetX.of_bodyW Tryz.func85 rfl (by simp) fun Γ hn hpan => ?_); simp only [entry, ziC, ziN, maC, maN, oA, Tryz.ntmps85]
   repeat' (first
  | ((first | refine zaf ?_ | refine zaj ?_ | refine zag ?_ | refine zai ?_ | fail); simp [hne, del])
  | (refine zaq ?_; simp only [zao])
  | (refine CallP.ok1 (hh1 _ (by first | omega | simp <;> omega | fail)) (by first | (simp [hne, del, zaa, getK, zab, zac]; done) | fail) (by rfl) (by rfl) ?_; (try simp [hne, del]))
  | (refine CallP.ok1 (hn1 _ (by first | omega | simp <;> omega | fail)) (by first | (simp [hne, del, zaa, getK, zab, zac]; done) | fail) (by rfl) (by rfl) ?_; (try simp [hne, del]))
  | fail)
   refine EndW.norm ?_
   simp [St.norm, zbh, zbZ, zcj, zck, hne, nAA]
   (refine EndW.here ?_; (first | (refine EndOK.fin (.inr rfl) ?_) | (refine EndOK.fin (.inl rfl) ?_)); simp [zaJ, zah, Tryz.results85, hne, hi]; refine FinOK.cut [(i, pOb l q0)] (nx) (by simp [zaa, getK, zab, zac, Ob.under, D.under, zad, zae, hne, hi] <;> omega) (by simp [D.under]) (by simp [hn]) ?_; try simp)
   exact PPost.zcf rfl (by simp [Exp.row_eq]) rfl
theorem ze1 {l : List Tok} (hl : TokOK l) {p q : Nat} {w : List UInt8} {e : Exp} (h : zdT l p w = .ok e q) (hp : p < l.length) : p ≤ q ∧ q < l.length := by
 unfold zdT at h
 split at h
 ·rename_i hb
  have := zgv hl h (zba hl hb)
  exact ⟨by omega, this.2⟩
 ·cases h; exact ⟨by omega, hp⟩
/-- The objects of Print: the variable of the closure line, the builder, and its bytes. -/
abbrev zb3 : Ob := .box [.fnc (.func 52) [.ptr 1 0]]
abbrev zdb (j : Nat) (l : W8) : Ob := .box [.ptr 1 0, .vec j l.length]
abbrev zda (l : W8) : Ob := .vec u8T 1 (zcn l)
/-- What a line's writing leaves. -/
def zqK (j nx : Nat) (T : W8) (d : D) (o : List (Nat × Ob)) (n : Nat) : Prop := d = .tup [] ∧ ∃ j', 3 ≤ j' ∧ j' < n ∧ nx ≤ n ∧ o = [(2, zb3), (1, zdb j' T), (j', zda T)]
def zb6 (w : W8) (n : Int) (ws : List W8) : W8 := if n = 0 then [] else zb0 (w :: Lib.itoa n :: ws)
theorem zgQ (l : W8) (ws : List W8) (j nx : Nat) (hj3 : 3 ≤ j) (hj : j < nx) (hlen : l.length + (zb0 ws).length ≤ 140737488355328) (hN : ws.length ≤ 140737488355328) :
  RetX Tryz.prog 52 [.u (.sl (ws.map fun w => [.str w])), .ptr 1 0] [(1, zdb j l), (j, zda l)] nx
   (fun r o n => r = .val (.tup []) ∧ o = [(1, zdb nx (l ++ zb0 ws)), (nx, zda (l ++ zb0 ws))] ∧ n = nx + 1) := zno l ws 1 j nx (by omega) hj (by omega) hlen hN
theorem zc5 (l w : W8) (n : Int) (ws : List W8) (j nx : Nat) (hj3 : 3 ≤ j) (hj : j < nx) (h0 : 0 ≤ n) (h1 : n ≤ 1099511627776) (hlen : l.length + (zb6 w n ws).length ≤ 100000000000000) (hN : ws.length ≤ 1000) :
  RetX Tryz.prog 55 [.u (.str w), .u (.int .i64 n), .u (.sl (ws.map fun w => [.str w])), .ptr 2 0] [(2, zb3), (1, zdb j l), (j, zda l)] nx
   (fun r o N => ∃ d, r = .val d ∧ zqK j nx (l ++ zb6 w n ws) d o N) := by
 have hit := zlj n (by omega) (by omega)
 have h2 : 2 < nx := by omega
 have h2j : ¬ (2 : Nat) = j := by omega
 have h1j : ¬ (1 : Nat) = j := by omega
 have hj2 : ¬ j = 2 := by omega
 have hj1 : ¬ j = 1 := by omega
 have hx0 : ¬ nx = 0 := by omega
 have hx1 : ¬ nx = 1 := by omega
 have hx2 : ¬ nx = 2 := by omega
 have hjx : ¬ j = nx + 1 := by omega
 have hne := zaB h2
 have hne1 := zaB (show 1 < nx by omega)
 have hnej := zaB hj
 by_cases hz : n = 0
 ·rw [zb6, if_pos hz, List.append_nil]
  (refine RetX.of_bodyW Tryz.func55 rfl (by simp) fun Γ hn hpan => ?_); simp only [entry, ziC, ziN, maC, maN, oA, Tryz.ntmps55]
  repeat' (first
  | ((first | refine zaf ?_ | refine zaj ?_ | refine zag ?_ | refine zai ?_ | fail); simp [hz])
  | (refine zap ?_; simp only [zao])
  | fail)
  (refine EndW.here ?_; (first | (refine EndOK.fin (.inr rfl) ?_) | (refine EndOK.fin (.inl rfl) ?_)); simp [zaJ, zah, Tryz.results55, hne, hne1, hnej, h2j, h1j, hj2, hj1, hj, h2]; refine FinOK.cut [(2, zb3), (1, zdb j l), (j, zda l)] (nx) (by simp [zaa, getK, zab, zac, Ob.under, D.under, zad, zae, hne, hne1, hnej, h2j, h1j, hj2, hj1, hj, h2] <;> omega) (by simp [D.under]) (by simp [hn]) ?_; try simp)
  exact ⟨rfl, j, hj3, hj, Nat.le_refl _, rfl⟩
 ·rw [zb6, if_neg hz] at hlen ⊢
  have hln := fun nx' (h : nx ≤ nx') => zgQ l (w :: Lib.itoa n :: ws) j nx' hj3 (by omega) (by omega) (by simp; omega)
  simp only [List.map_cons] at hln
  (refine RetX.of_bodyW Tryz.func55 rfl (by simp) fun Γ hn hpan => ?_); simp only [entry, ziC, ziN, maC, maN, oA, Tryz.ntmps55]
  have hA : 2 + ws.length ≤ ws.length + 1 + 1 := by omega
  have hB : List.take (2 + ws.length) ([U.str w] :: [U.str (Lib.itoa n)] :: List.map (fun w => [U.str w]) ws) = [U.str w] :: [U.str (Lib.itoa n)] :: List.map (fun w => [U.str w]) ws := List.take_of_length_le (by simp; omega)
  skip
  repeat' (first
  | (refine zdm ?_; simp [hz, hne, hne1, hnej, h2j, h1j, hj2, hj1, hx0, hx1, hx2, hjx, hA, hB, zal, frzS, zaE])
  | (refine zeo rfl rfl (by decide +kernel) (by first | (simp [hn]; done) | (simp [hn]; omega) | fail) fun C k hC hk => ?_; simp [hz, hne, hne1, hnej, h2j, h1j, hj2, hj1, hx0, hx1, hx2, hjx, hA, hB, zal, frzS, zaE])
  | ((first | refine zaf ?_ | refine zaO rfl ?_ | refine za3 rfl ?_ | refine zaj ?_ | fail); simp [hz, hne, hne1, hnej, h2j, h1j, hj2, hj1, hx0, hx1, hx2, hjx, hA, hB, zal, frzS, zaE])
  | (refine ⟨by omega, ?_⟩)
  | ((first | refine zag ?_ | refine zai ?_ | fail); simp [hz, hne, hne1, hnej, h2j, h1j, hj2, hj1, hx0, hx1, hx2, hjx, hA, hB, zal, frzS, zaE])
  | (refine zaX (hC _ (zcc [2] (nx) (by simp <;> omega) (by simp <;> omega) (by apply Exists.intro; apply And.intro; (focus (repeat' (first | exact KF.nil | exact KL.nil | apply KF.cons | apply KL.cons 0 rfl | apply KL.cons 1 rfl | apply KL.cons 2 rfl | apply KL.cons 3 rfl | apply KL.cons 4 rfl | apply KL.cons 5 rfl | apply KL.cons 6 rfl | apply KL.cons 7 rfl | apply KL.cons 8 rfl | apply KL.cons 9 rfl))); kernel_rfl))) (hk _ ?_); clear hC hk C k; simp only [zao])
  | (refine CallV.fun_ (hit) (by first | rfl | fail) (by first | simp [hz, hne, hne1, hnej, h2j, h1j, hj2, hj1, hx0, hx1, hx2, hjx, hA, hB, zal, frzS, zaE] <;> rfl | fail) ?_ <;> (try simp [hz, hne, hne1, hnej, h2j, h1j, hj2, hj1, hx0, hx1, hx2, hjx, hA, hB, zal, frzS, zaE]))
  | (refine zar (by first | rfl | fail) ?_; simp [hz, hne, hne1, hnej, h2j, h1j, hj2, hj1, hx0, hx1, hx2, hjx, hA, hB, zal, frzS, zaE, frzN, frz1, zaA, zaz, St.frz, St.frzS, frzS, fv, zaE, zaY, za1, zaD, zas, zal, del, frz, za2])
  | (refine CallP.okL (hln _ (by first | omega | simp <;> omega | fail)) (by first | (simp [hz, hne, hne1, hnej, h2j, h1j, hj2, hj1, hx0, hx1, hx2, hjx, hA, hB, zal, frzS, zaE, zaa, getK, zab, zac, zak, zaK, del]; done) | fail) (by rfl) (by rfl) ?_; (try simp [hz, hne, hne1, hnej, h2j, h1j, hj2, hj1, hx0, hx1, hx2, hjx, hA, hB, zal, frzS, zaE, zc1, del]))
  | fail)
  generalize l ++ zb0 (w :: Lib.itoa n :: ws) = T at *
  (refine EndW.here ?_; (first | (refine EndOK.fin (.inr rfl) ?_) | (refine EndOK.fin (.inl rfl) ?_)); simp [zaJ, zah, Tryz.results55, hne, hne1, hnej, h2j, h1j, hj2, hj1, hx0, hx1, hx2, hj, h2]; refine FinOK.cut [(2, zb3), (1, zdb (nx + 2) T), (nx + 2, zda T)] (nx + 3) (by simp [zaa, getK, zab, zac, Ob.under, D.under, zad, zae, hne, hne1, hnej, h2j, h1j, hj2, hj1, hx0, hx1, hx2, hj, h2] <;> omega) (by simp [D.under]) (by simp [hn]) ?_; try simp)
  exact ⟨rfl, nx + 2, by omega, by omega, by omega, rfl⟩
noncomputable def clauseT (w : W8) (e : Exp) : W8 := if eqB e nothingE = true ∧ w ≠ [100, 117, 101] then [] else zb0 [w, txt e 0]
theorem zjC (w v : W8) : (zb0 [w, v]).length = w.length + v.length + 4 := by
 rw [zb0, zbe, zbi]; simp; omega
theorem zc8 (l w : W8) (e : Exp) (j nx : Nat) (hj3 : 3 ≤ j) (hj : j < nx) (he : zaH 12 e = true) (hlen : l.length + w.length ≤ 10000000000000) :
  RetX Tryz.prog 57 [.u (.str w), .u (.agg e.row), .ptr 2 0] [(2, zb3), (1, zdb j l), (j, zda l)] nx
   (fun r o N => ∃ d, r = .val d ∧ zqK j nx (l ++ clauseT w e) d o N) := by
 have hsm : zdi e nothingE := zb9 e nothingE
 unfold zdi at hsm
 have hno := zgK
 have hsh := zgk 12 (Nat.le_refl _) e he 0
 have htl := zcr he (Nat.le_refl _) 0
 have hln2 := zjC w (txt e 0)
 have h2 : 2 < nx := by omega
 have h2j : ¬ (2 : Nat) = j := by omega
 have h1j : ¬ (1 : Nat) = j := by omega
 have hj2 : ¬ j = 2 := by omega
 have hj1 : ¬ j = 1 := by omega
 have hx0 : ¬ nx = 0 := by omega
 have hx1 : ¬ nx = 1 := by omega
 have hx2 : ¬ nx = 2 := by omega
 have hjx : ¬ j = nx + 1 := by omega
 have hjx2 : ¬ j = nx + 2 := by omega
 have hne := zaB h2
 have hne1 := zaB (show 1 < nx by omega)
 have hnej := zaB hj
 rw [clauseT]
 rw [show nothingE.row = [.int .i64 0, .int .i64 0, .int .i64 3, .str [], .sl []] by simp [nothingE, Exp.row]] at hsm hno
 rw [Exp.row_eq e] at *
 generalize eqB e nothingE = E at *
 by_cases hc1 : E = true ∧ w ≠ [100, 117, 101]
 ·rw [if_pos hc1, List.append_nil]
  obtain ⟨rfl, hw⟩ := hc1
  (refine RetX.of_bodyW Tryz.func57 rfl (by simp) fun Γ hn hpan => ?_); simp only [entry, ziC, ziN, maC, maN, oA, Tryz.ntmps57]
  skip
  repeat' (first
  | ((first | refine zaf ?_ | refine zaO rfl ?_ | refine zbx rfl ?_ | refine zaj ?_ | refine zag ?_ | refine zai ?_ | fail); simp [hw, hne, hne1, hnej, h2j, h1j, hj2, hj1, hx0, hx1, hx2, hjx])
  | (refine zaX (hC _ (zcc [2] (nx) (by simp <;> omega) (by simp <;> omega) (by apply Exists.intro; apply And.intro; (focus (repeat' (first | exact KF.nil | exact KL.nil | apply KF.cons | apply KL.cons 0 rfl | apply KL.cons 1 rfl | apply KL.cons 2 rfl | apply KL.cons 3 rfl | apply KL.cons 4 rfl | apply KL.cons 5 rfl | apply KL.cons 6 rfl | apply KL.cons 7 rfl | apply KL.cons 8 rfl | apply KL.cons 9 rfl))); kernel_rfl))) (hk _ ?_); clear hC hk C k; simp only [zao])
  | (refine za0 rfl (by kernel_rfl) (by first | (simp [hn]; done) | (simp [hn]; omega) | fail) fun C k hC hk => ?_; simp [hw, hne, hne1, hnej, h2j, h1j, hj2, hj1, hx0, hx1, hx2, hjx])
  | (refine zbk rfl (by simp [hw, hne, hne1, hnej, h2j, h1j, hj2, hj1, hx0, hx1, hx2, hjx]) (fun hc => ?_) (fun hc => ?_) <;> (try simp [hw, hne, hne1, hnej, h2j, h1j, hj2, hj1, hx0, hx1, hx2, hjx] at hc) <;> (try (exfalso; omega)) <;> (try simp [hw, hne, hne1, hnej, h2j, h1j, hj2, hj1, hx0, hx1, hx2, hjx]))
  | (refine zap ?_; simp only [zao])
  | (refine CallV.fun_ (hno) (by first | rfl | fail) (by first | simp [hw, hne, hne1, hnej, h2j, h1j, hj2, hj1, hx0, hx1, hx2, hjx] <;> rfl | fail) ?_ <;> (try simp [hw, hne, hne1, hnej, h2j, h1j, hj2, hj1, hx0, hx1, hx2, hjx]))
  | (refine CallV.fun_ (hsm) (by first | rfl | fail) (by first | simp [hw, hne, hne1, hnej, h2j, h1j, hj2, hj1, hx0, hx1, hx2, hjx] <;> rfl | fail) ?_ <;> (try simp [hw, hne, hne1, hnej, h2j, h1j, hj2, hj1, hx0, hx1, hx2, hjx]))
  | fail)
  (refine EndW.here ?_; (first | (refine EndOK.fin (.inr rfl) ?_) | (refine EndOK.fin (.inl rfl) ?_)); simp [zaJ, zah, Tryz.results57, hne, hne1, hnej, h2j, h1j, hj2, hj1, hx0, hx1, hx2, hj, h2]; refine FinOK.cut [(2, zb3), (1, zdb j l), (j, zda l)] (nx) (by simp [zaa, getK, zab, zac, Ob.under, D.under, zad, zae, hne, hne1, hnej, h2j, h1j, hj2, hj1, hx0, hx1, hx2, hj, h2] <;> omega) (by simp [D.under]) (by simp [hn]) ?_; try simp)
  exact ⟨rfl, j, hj3, hj, Nat.le_refl _, rfl⟩
 ·rw [if_neg hc1]
  have hln := fun nx' (h : nx ≤ nx') => zgQ l [w, txt e 0] j nx' hj3 (by omega) (by omega) (by simp)
  simp only [List.map_cons, List.map_nil] at hln
  generalize txt e 0 = T0 at *
  generalize l ++ zb0 [w, T0] = T at *
  cases E with
  | false =>
   (refine RetX.of_bodyW Tryz.func57 rfl (by simp) fun Γ hn hpan => ?_); simp only [entry, ziC, ziN, maC, maN, oA, Tryz.ntmps57]
   skip
   repeat' (first
  | (refine zdm ?_; simp [hne, hne1, hnej, h2j, h1j, hj2, hj1, hx0, hx1, hx2, hjx, hjx2, zal, frzS, zaE])
  | (refine zeo rfl rfl (by decide +kernel) (by first | (simp [hn]; done) | (simp [hn]; omega) | fail) fun C k hC hk => ?_; simp [hne, hne1, hnej, h2j, h1j, hj2, hj1, hx0, hx1, hx2, hjx, hjx2, zal, frzS, zaE])
  | ((first | refine zaf ?_ | refine zaO rfl ?_ | refine za3 rfl ?_ | refine zaj ?_ | refine zag ?_ | refine zai ?_ | fail); simp [hne, hne1, hnej, h2j, h1j, hj2, hj1, hx0, hx1, hx2, hjx, hjx2, zal, frzS, zaE])
  | (refine zaX (hC _ (zcc [2] (nx) (by simp <;> omega) (by simp <;> omega) (by apply Exists.intro; apply And.intro; (focus (repeat' (first | exact KF.nil | exact KL.nil | apply KF.cons | apply KL.cons 0 rfl | apply KL.cons 1 rfl | apply KL.cons 2 rfl | apply KL.cons 3 rfl | apply KL.cons 4 rfl | apply KL.cons 5 rfl | apply KL.cons 6 rfl | apply KL.cons 7 rfl | apply KL.cons 8 rfl | apply KL.cons 9 rfl))); kernel_rfl))) (hk _ ?_); clear hC hk C k; simp only [zao])
  | (refine za0 rfl (by kernel_rfl) (by first | (simp [hn]; done) | (simp [hn]; omega) | fail) fun C k hC hk => ?_; simp [hne, hne1, hnej, h2j, h1j, hj2, hj1, hx0, hx1, hx2, hjx, hjx2, zal, frzS, zaE])
  | (refine zbk rfl (by simp [hne, hne1, hnej, h2j, h1j, hj2, hj1, hx0, hx1, hx2, hjx, hjx2, zal, frzS, zaE]) (fun hc => ?_) (fun hc => ?_) <;> (try simp [hne, hne1, hnej, h2j, h1j, hj2, hj1, hx0, hx1, hx2, hjx, hjx2, zal, frzS, zaE] at hc) <;> (try (exfalso; omega)) <;> (try simp [hne, hne1, hnej, h2j, h1j, hj2, hj1, hx0, hx1, hx2, hjx, hjx2, zal, frzS, zaE]))
  | (refine CallV.fun_ (hno) (by first | rfl | fail) (by first | simp [hne, hne1, hnej, h2j, h1j, hj2, hj1, hx0, hx1, hx2, hjx, hjx2, zal, frzS, zaE] <;> rfl | fail) ?_ <;> (try simp [hne, hne1, hnej, h2j, h1j, hj2, hj1, hx0, hx1, hx2, hjx, hjx2, zal, frzS, zaE]))
  | (refine CallV.fun_ (hsm) (by first | rfl | fail) (by first | simp [hne, hne1, hnej, h2j, h1j, hj2, hj1, hx0, hx1, hx2, hjx, hjx2, zal, frzS, zaE] <;> rfl | fail) ?_ <;> (try simp [hne, hne1, hnej, h2j, h1j, hj2, hj1, hx0, hx1, hx2, hjx, hjx2, zal, frzS, zaE]))
  | (refine CallV.fun_ (hsh) (by first | rfl | fail) (by first | simp [hne, hne1, hnej, h2j, h1j, hj2, hj1, hx0, hx1, hx2, hjx, hjx2, zal, frzS, zaE] <;> rfl | fail) ?_ <;> (try simp [hne, hne1, hnej, h2j, h1j, hj2, hj1, hx0, hx1, hx2, hjx, hjx2, zal, frzS, zaE]))
  | (refine zar (by first | rfl | fail) ?_; simp [hne, hne1, hnej, h2j, h1j, hj2, hj1, hx0, hx1, hx2, hjx, hjx2, zal, frzS, zaE, frzN, frz1, zaA, zaz, St.frz, St.frzS, frzS, fv, zaE, zaY, za1, zaD, zas, zal, del, frz, za2])
  | (refine CallP.okL (hln _ (by first | omega | simp <;> omega | fail)) (by first | (simp [hne, hne1, hnej, h2j, h1j, hj2, hj1, hx0, hx1, hx2, hjx, hjx2, zal, frzS, zaE, zaa, getK, zab, zac, zak, zaK, del]; done) | fail) (by rfl) (by rfl) ?_; (try simp [hne, hne1, hnej, h2j, h1j, hj2, hj1, hx0, hx1, hx2, hjx, hjx2, zal, frzS, zaE, zc1, del]))
  | fail)
   (refine EndW.here ?_; (first | (refine EndOK.fin (.inr rfl) ?_) | (refine EndOK.fin (.inl rfl) ?_)); simp [zaJ, zah, Tryz.results57, hne, hne1, hnej, h2j, h1j, hj2, hj1, hx0, hx1, hx2, hj, h2]; refine FinOK.cut [(2, zb3), (1, zdb (nx + 2) T), (nx + 2, zda T)] (nx + 3) (by simp [zaa, getK, zab, zac, Ob.under, D.under, zad, zae, hne, hne1, hnej, h2j, h1j, hj2, hj1, hx0, hx1, hx2, hj, h2] <;> omega) (by simp [D.under]) (by simp [hn]) ?_; try simp)
   exact ⟨rfl, nx + 2, by omega, by omega, by omega, rfl⟩
  | true =>
   obtain rfl : w = [100, 117, 101] := by
    by_cases hw : w = [100, 117, 101]
    ·exact hw
    ·exact absurd ⟨rfl, hw⟩ hc1
   (refine RetX.of_bodyW Tryz.func57 rfl (by simp) fun Γ hn hpan => ?_); simp only [entry, ziC, ziN, maC, maN, oA, Tryz.ntmps57]
   skip
   repeat' (first
  | (refine zdm ?_; simp [hne, hne1, hnej, h2j, h1j, hj2, hj1, hx0, hx1, hx2, hjx, hjx2, zal, frzS, zaE])
  | (refine zeo rfl rfl (by decide +kernel) (by first | (simp [hn]; done) | (simp [hn]; omega) | fail) fun C k hC hk => ?_; simp [hne, hne1, hnej, h2j, h1j, hj2, hj1, hx0, hx1, hx2, hjx, hjx2, zal, frzS, zaE])
  | ((first | refine zaf ?_ | refine zaO rfl ?_ | refine za3 rfl ?_ | refine zbx rfl ?_ | refine zaj ?_ | refine zag ?_ | refine zai ?_ | fail); simp [hne, hne1, hnej, h2j, h1j, hj2, hj1, hx0, hx1, hx2, hjx, hjx2, zal, frzS, zaE])
  | (refine zaX (hC _ (zcc [2] (nx) (by simp <;> omega) (by simp <;> omega) (by apply Exists.intro; apply And.intro; (focus (repeat' (first | exact KF.nil | exact KL.nil | apply KF.cons | apply KL.cons 0 rfl | apply KL.cons 1 rfl | apply KL.cons 2 rfl | apply KL.cons 3 rfl | apply KL.cons 4 rfl | apply KL.cons 5 rfl | apply KL.cons 6 rfl | apply KL.cons 7 rfl | apply KL.cons 8 rfl | apply KL.cons 9 rfl))); kernel_rfl))) (hk _ ?_); clear hC hk C k; simp only [zao])
  | (refine za0 rfl (by kernel_rfl) (by first | (simp [hn]; done) | (simp [hn]; omega) | fail) fun C k hC hk => ?_; simp [hne, hne1, hnej, h2j, h1j, hj2, hj1, hx0, hx1, hx2, hjx, hjx2, zal, frzS, zaE])
  | (refine zbk rfl (by simp [hne, hne1, hnej, h2j, h1j, hj2, hj1, hx0, hx1, hx2, hjx, hjx2, zal, frzS, zaE]) (fun hc => ?_) (fun hc => ?_) <;> (try simp [hne, hne1, hnej, h2j, h1j, hj2, hj1, hx0, hx1, hx2, hjx, hjx2, zal, frzS, zaE] at hc) <;> (try (exfalso; omega)) <;> (try simp [hne, hne1, hnej, h2j, h1j, hj2, hj1, hx0, hx1, hx2, hjx, hjx2, zal, frzS, zaE]))
  | (refine CallV.fun_ (hno) (by first | rfl | fail) (by first | simp [hne, hne1, hnej, h2j, h1j, hj2, hj1, hx0, hx1, hx2, hjx, hjx2, zal, frzS, zaE] <;> rfl | fail) ?_ <;> (try simp [hne, hne1, hnej, h2j, h1j, hj2, hj1, hx0, hx1, hx2, hjx, hjx2, zal, frzS, zaE]))
  | (refine CallV.fun_ (hsm) (by first | rfl | fail) (by first | simp [hne, hne1, hnej, h2j, h1j, hj2, hj1, hx0, hx1, hx2, hjx, hjx2, zal, frzS, zaE] <;> rfl | fail) ?_ <;> (try simp [hne, hne1, hnej, h2j, h1j, hj2, hj1, hx0, hx1, hx2, hjx, hjx2, zal, frzS, zaE]))
  | (refine CallV.fun_ (hsh) (by first | rfl | fail) (by first | simp [hne, hne1, hnej, h2j, h1j, hj2, hj1, hx0, hx1, hx2, hjx, hjx2, zal, frzS, zaE] <;> rfl | fail) ?_ <;> (try simp [hne, hne1, hnej, h2j, h1j, hj2, hj1, hx0, hx1, hx2, hjx, hjx2, zal, frzS, zaE]))
  | (refine zar (by first | rfl | fail) ?_; simp [hne, hne1, hnej, h2j, h1j, hj2, hj1, hx0, hx1, hx2, hjx, hjx2, zal, frzS, zaE, frzN, frz1, zaA, zaz, St.frz, St.frzS, frzS, fv, zaE, zaY, za1, zaD, zas, zal, del, frz, za2])
  | (refine CallP.okL (hln _ (by first | omega | simp <;> omega | fail)) (by first | (simp [hne, hne1, hnej, h2j, h1j, hj2, hj1, hx0, hx1, hx2, hjx, hjx2, zal, frzS, zaE, zaa, getK, zab, zac, zak, zaK, del]; done) | fail) (by rfl) (by rfl) ?_; (try simp [hne, hne1, hnej, h2j, h1j, hj2, hj1, hx0, hx1, hx2, hjx, hjx2, zal, frzS, zaE, zc1, del]))
  | fail)
   (refine EndW.here ?_; (first | (refine EndOK.fin (.inr rfl) ?_) | (refine EndOK.fin (.inl rfl) ?_)); simp [zaJ, zah, Tryz.results57, hne, hne1, hnej, h2j, h1j, hj2, hj1, hx0, hx1, hx2, hj, h2]; refine FinOK.cut [(2, zb3), (1, zdb (nx + 2) T), (nx + 2, zda T)] (nx + 3) (by simp [zaa, getK, zab, zac, Ob.under, D.under, zad, zae, hne, hne1, hnej, h2j, h1j, hj2, hj1, hx0, hx1, hx2, hj, h2] <;> omega) (by simp [D.under]) (by simp [hn]) ?_; try simp)
   exact ⟨rfl, nx + 2, by omega, by omega, by omega, rfl⟩
/-- A call of one of the parser's functions, both ways. -/
theorem _root_.Go.VL.CallP.pp {P : Program} {Γ : Ctx} {s : St} {k : St → Prop} {dst : Option Tmp} {fop : Operand} {args : List Operand} {f caps} {ds : List D} {α : Type} {l : List Tok} {i : Nat} {ob : Ob} {val : α → D} {r : PR α}
  (hret : RetX P f ds [(i, ob)] s.next (PPost l i s.next val r)) (hj : getK s.obs i = some ob) (hf : zax (opd s fop) = some (f, caps)) (hc : zan P f = true) (hds : args.map (opd s) ++ caps = ds) (hp : zaF dst s)
  (hk : ∀ a q, r = .ok a q → k (({ s with obs := del s.obs i ++ [(i, pOb l q)], next := s.next } : St).put dst (val a)))
  (hx : ∀ pos e q, r = .stop pos e → ∃ s2, Wk Γ { s with obs := del s.obs i ++ [(i, pOb l q)], next := s.next } s2 ∧ Γ.pan (chP pos e) s2) : CallP P Γ fop args dst s k :=
 CallP.x1 hret hj hf hc hds hp (fun d o1 nx' _ h => by
  cases r with
  | ok a q => obtain ⟨h1, h2, h3⟩ := h; cases h1; subst h2; subst h3; exact hk a q rfl
  | stop pos e => obtain ⟨h1, _⟩ := h; cases h1) (fun ch o1 nx' _ h => by
  cases r with
  | ok a q => obtain ⟨h1, _⟩ := h; cases h1
  | stop pos e => obtain ⟨h1, ⟨ob', ⟨q, rfl⟩, h2⟩, h3⟩ := h; cases h1; subst h2; subst h3; exact hx pos e q rfl)
abbrev kbD (x : Int × Bool) : D := .tup [.u (.int .i64 x.1), .u (.bool x.2)]
theorem zoM (l : List Tok) (p : Nat) (i nx : Nat) (hi : i < nx) (hp : p < l.length) (hl : TokOK l) :
  RetX Tryz.prog 78 [.ptr i 0] [(i, pOb l p)] nx (PPost l i nx kbD (zkG l p)) := by
 have hne := zaB hi
 have hll := hl.len
 generalize hR : zkG l p = R
 rw [zkG] at hR
 (refine RetX.of_bodyW Tryz.func78 rfl (by simp) fun Γ hn hpan => ?_); simp only [entry, ziC, ziN, maC, maN, oA, Tryz.ntmps78]
 repeat' (first
  | ((first | refine zaf ?_ | refine zaj ?_ | refine zag ?_ | fail); simp [hne])
  | (refine zar (by first | rfl | fail) ?_; simp [hne, frzN, frz1, zaA, zaz, St.frz, St.frzS, frzS, fv, zaE, zaY, za1, zaD, zas, zal, del, frz, za2])
  | fail)
 (refine CallP.pp (zeu hl [99, 105, 114, 99, 108, 101] (q := p) (i := i) (by first | omega | simp <;> omega | fail) hp) (by first | (simp [hi, hne, nAA, zaa, getK, zab, zac]; done) | fail) (by rfl) (by first | assumption | (simp; done) | fail) (by rfl) (by simp) (fun v1 q1 h1 => ?_) (fun pos e q' h1 => ⟨_, Wk.refl _, ?_⟩); rotate_left 1; (focus (rw [h1, PR.zaL] at hR; (refine hpan _ _ ⟨{ n := _, env := [], obs := [(i, pOb l q')], next := nx }, (Wk.cut rfl (by simp [hn]) (by simp [wkO, zaa, getK, zab, zac, Ob.under, D.under, zad, zae, hi, hne, nAA, zab, zac, zaa, getK]) (by simp [wkU, zam, zaa, getK, D.under, hi, hne, nAA, zab, zac, zaa, getK]) (by simp [wkE, zam, zaa, getK, hi, hne, nAA, zab, zac, zaa, getK])), by simp [hn], ?_⟩; try simp); exact PPost.zay hR.symm)); rw [h1, PR.zaT] at hR; (try simp [hi, hne, nAA]))
 obtain ⟨_, g1⟩ := zaS hl _ h1 hp
 have hh1 := fun nx' (h : nx ≤ nx') => zbc l q1 [114, 111, 116, 97, 116, 105, 110, 103] i nx' (by omega) g1 hl.len
 have hh2 := fun nx' (h : nx ≤ nx') => zbc l q1 [115, 97, 118, 105, 110, 103] i nx' (by omega) g1 hl.len
 by_cases c1 : isB l q1 [114, 111, 116, 97, 116, 105, 110, 103] = true
 ·have g2 := zba hl c1
  rw [if_pos c1] at hR
  simp only [c1, if_true] at hh1
  repeat' (first
  | ((first | refine zaf ?_ | refine zaj ?_ | refine zag ?_ | refine zai ?_ | fail); simp [hne, del, nAA])
  | (refine CallP.ok1 (hh1 _ (by first | omega | simp <;> omega | fail)) (by first | (simp [hne, del, nAA, zaa, getK, zab, zac]; done) | fail) (by rfl) (by rfl) ?_; (try simp [hne, del, nAA]))
  | (refine zar (by first | rfl | fail) ?_; simp [hne, del, nAA, frzN, frz1, zaA, zaz, St.frz, St.frzS, frzS, fv, zaE, zaY, za1, zaD, zas, zal, del, frz, za2])
  | fail)
  (refine CallP.pp (zeu hl [59] (q := q1 + 1) (i := i) (by first | omega | simp <;> omega | fail) g2) (by first | (simp [hi, hne, nAA, zaa, getK, zab, zac]; done) | fail) (by rfl) (by first | assumption | (simp; done) | fail) (by rfl) (by simp) (fun v2 q2 h2 => ?_) (fun pos e q' h2 => ⟨_, Wk.refl _, ?_⟩); rotate_left 1; (focus (rw [h2, PR.zaL] at hR; (refine hpan _ _ ⟨{ n := _, env := [], obs := [(i, pOb l q')], next := nx }, (Wk.cut rfl (by simp [hn]) (by simp [wkO, zaa, getK, zab, zac, Ob.under, D.under, zad, zae, hi, hne, nAA, zab, zac, zaa, getK]) (by simp [wkU, zam, zaa, getK, D.under, hi, hne, nAA, zab, zac, zaa, getK]) (by simp [wkE, zam, zaa, getK, hi, hne, nAA, zab, zac, zaa, getK])), by simp [hn], ?_⟩; try simp); exact PPost.zay hR.symm)); rw [h2, PR.zaT] at hR; (try simp [hi, hne, nAA]))
  repeat' (first
  | ((first | refine zaf ?_ | refine zaj ?_ | refine zag ?_ | fail); simp [hne, del, nAA])
  | (refine zaq ?_; simp only [zao])
  | fail)
  (refine EndW.here ?_; (first | (refine EndOK.fin (.inr rfl) ?_) | (refine EndOK.fin (.inl rfl) ?_)); simp [zaJ, zah, Tryz.results78, hne, hi]; refine FinOK.cut [(i, pOb l q2)] (nx) (by simp [zaa, getK, zab, zac, Ob.under, D.under, zad, zae, hne, hi] <;> omega) (by simp [D.under]) (by simp [hn]) ?_; try simp)
  exact PPost.zcf hR.symm rfl rfl
 ·rw [if_neg c1] at hR
  simp only [c1, Bool.false_eq_true, if_false] at hh1
  by_cases c2 : isB l q1 [115, 97, 118, 105, 110, 103] = true
  ·have g2 := zba hl c2
   rw [if_pos c2] at hR
   simp only [c2, if_true] at hh2
   repeat' (first
  | ((first | refine zaf ?_ | refine zaj ?_ | refine zag ?_ | refine zai ?_ | fail); simp [hne, del, nAA])
  | (refine CallP.ok1 (hh1 _ (by first | omega | simp <;> omega | fail)) (by first | (simp [hne, del, nAA, zaa, getK, zab, zac]; done) | fail) (by rfl) (by rfl) ?_; (try simp [hne, del, nAA]))
  | (refine CallP.ok1 (hh2 _ (by first | omega | simp <;> omega | fail)) (by first | (simp [hne, del, nAA, zaa, getK, zab, zac]; done) | fail) (by rfl) (by rfl) ?_; (try simp [hne, del, nAA]))
  | (refine zar (by first | rfl | fail) ?_; simp [hne, del, nAA, frzN, frz1, zaA, zaz, St.frz, St.frzS, frzS, fv, zaE, zaY, za1, zaD, zas, zal, del, frz, za2])
  | fail)
   (refine CallP.pp (zeu hl [59] (q := q1 + 1) (i := i) (by first | omega | simp <;> omega | fail) g2) (by first | (simp [hi, hne, nAA, zaa, getK, zab, zac]; done) | fail) (by rfl) (by first | assumption | (simp; done) | fail) (by rfl) (by simp) (fun v2 q2 h2 => ?_) (fun pos e q' h2 => ⟨_, Wk.refl _, ?_⟩); rotate_left 1; (focus (rw [h2, PR.zaL] at hR; (refine hpan _ _ ⟨{ n := _, env := [], obs := [(i, pOb l q')], next := nx }, (Wk.cut rfl (by simp [hn]) (by simp [wkO, zaa, getK, zab, zac, Ob.under, D.under, zad, zae, hi, hne, nAA, zab, zac, zaa, getK]) (by simp [wkU, zam, zaa, getK, D.under, hi, hne, nAA, zab, zac, zaa, getK]) (by simp [wkE, zam, zaa, getK, hi, hne, nAA, zab, zac, zaa, getK])), by simp [hn], ?_⟩; try simp); exact PPost.zay hR.symm)); rw [h2, PR.zaT] at hR; (try simp [hi, hne, nAA]))
   repeat' (first
  | ((first | refine zaf ?_ | refine zaj ?_ | refine zag ?_ | fail); simp [hne, del, nAA])
  | (refine zaq ?_; simp only [zao])
  | fail)
   (refine EndW.here ?_; (first | (refine EndOK.fin (.inr rfl) ?_) | (refine EndOK.fin (.inl rfl) ?_)); simp [zaJ, zah, Tryz.results78, hne, hi]; refine FinOK.cut [(i, pOb l q2)] (nx) (by simp [zaa, getK, zab, zac, Ob.under, D.under, zad, zae, hne, hi] <;> omega) (by simp [D.under]) (by simp [hn]) ?_; try simp)
   exact PPost.zcf hR.symm rfl rfl
  ·rw [if_neg c2] at hR
   simp only [c2, Bool.false_eq_true, if_false] at hh2
   repeat' (first
  | ((first | refine zaf ?_ | refine zaj ?_ | refine zag ?_ | refine zai ?_ | fail); simp [hne, del, nAA])
  | (refine zap ?_; simp only [zao])
  | (refine CallP.ok1 (hh1 _ (by first | omega | simp <;> omega | fail)) (by first | (simp [hne, del, nAA, zaa, getK, zab, zac]; done) | fail) (by rfl) (by rfl) ?_; (try simp [hne, del, nAA]))
  | (refine CallP.ok1 (hh2 _ (by first | omega | simp <;> omega | fail)) (by first | (simp [hne, del, nAA, zaa, getK, zab, zac]; done) | fail) (by rfl) (by rfl) ?_; (try simp [hne, del, nAA]))
  | (refine zar (by first | rfl | fail) ?_; simp [hne, del, nAA, frzN, frz1, zaA, zaz, St.frz, St.frzS, frzS, fv, zaE, zaY, za1, zaD, zas, zal, del, frz, za2])
  | fail)
   (refine CallP.pp (zeu hl [98, 105, 100, 100, 105, 110, 103] (q := q1) (i := i) (by first | omega | simp <;> omega | fail) g1) (by first | (simp [hi, hne, nAA, zaa, getK, zab, zac]; done) | fail) (by rfl) (by first | assumption | (simp; done) | fail) (by rfl) (by simp) (fun v2 q2 h2 => ?_) (fun pos e q' h2 => ⟨_, Wk.refl _, ?_⟩); rotate_left 1; (focus (rw [h2, PR.zaL] at hR; (refine hpan _ _ ⟨{ n := _, env := [], obs := [(i, pOb l q')], next := nx }, (Wk.cut rfl (by simp [hn]) (by simp [wkO, zaa, getK, zab, zac, Ob.under, D.under, zad, zae, hi, hne, nAA, zab, zac, zaa, getK]) (by simp [wkU, zam, zaa, getK, D.under, hi, hne, nAA, zab, zac, zaa, getK]) (by simp [wkE, zam, zaa, getK, hi, hne, nAA, zab, zac, zaa, getK])), by simp [hn], ?_⟩; try simp); exact PPost.zay hR.symm)); rw [h2, PR.zaT] at hR; (try simp [hi, hne, nAA]))
   obtain ⟨_, g2⟩ := zaS hl _ h2 g1
   have hh3 := fun nx' (h : nx ≤ nx') => zbc l q2 [115, 101, 97, 108, 101, 100] i nx' (by omega) g2 hl.len
   by_cases c3 : isB l q2 [115, 101, 97, 108, 101, 100] = true
   ·have g3 := zba hl c3
    rw [if_pos c3] at hR
    simp only [c3, if_true] at hh3
    repeat' (first
  | ((first | refine zaf ?_ | refine zaj ?_ | refine zag ?_ | fail); simp [hne, del, nAA])
  | (refine CallP.ok1 (hh3 _ (by first | omega | simp <;> omega | fail)) (by first | (simp [hne, del, nAA, zaa, getK, zab, zac]; done) | fail) (by rfl) (by rfl) ?_; (try simp [hne, del, nAA]))
  | (refine zar (by first | rfl | fail) ?_; simp [hne, del, nAA, frzN, frz1, zaA, zaz, St.frz, St.frzS, frzS, fv, zaE, zaY, za1, zaD, zas, zal, del, frz, za2])
  | fail)
    (refine CallP.pp (zeu hl [59] (q := q2 + 1) (i := i) (by first | omega | simp <;> omega | fail) g3) (by first | (simp [hi, hne, nAA, zaa, getK, zab, zac]; done) | fail) (by rfl) (by first | assumption | (simp; done) | fail) (by rfl) (by simp) (fun v3 q3 h3 => ?_) (fun pos e q' h3 => ⟨_, Wk.refl _, ?_⟩); rotate_left 1; (focus (rw [h3, PR.zaL] at hR; (refine hpan _ _ ⟨{ n := _, env := [], obs := [(i, pOb l q')], next := nx }, (Wk.cut rfl (by simp [hn]) (by simp [wkO, zaa, getK, zab, zac, Ob.under, D.under, zad, zae, hi, hne, nAA, zab, zac, zaa, getK]) (by simp [wkU, zam, zaa, getK, D.under, hi, hne, nAA, zab, zac, zaa, getK]) (by simp [wkE, zam, zaa, getK, hi, hne, nAA, zab, zac, zaa, getK])), by simp [hn], ?_⟩; try simp); exact PPost.zay hR.symm)); rw [h3, PR.zaT] at hR; (try simp [hi, hne, nAA]))
    repeat' (first
  | ((first | refine zaf ?_ | refine zaj ?_ | refine zag ?_ | fail); simp [hne, del, nAA])
  | (refine zaq ?_; simp only [zao])
  | fail)
    (refine EndW.here ?_; (first | (refine EndOK.fin (.inr rfl) ?_) | (refine EndOK.fin (.inl rfl) ?_)); simp [zaJ, zah, Tryz.results78, hne, hi]; refine FinOK.cut [(i, pOb l q3)] (nx) (by simp [zaa, getK, zab, zac, Ob.under, D.under, zad, zae, hne, hi] <;> omega) (by simp [D.under]) (by simp [hn]) ?_; try simp)
    exact PPost.zcf hR.symm rfl rfl
   ·rw [if_neg c3] at hR
    simp only [c3, Bool.false_eq_true, if_false] at hh3
    repeat' (first
  | ((first | refine zaf ?_ | refine zaj ?_ | refine zag ?_ | fail); simp [hne, del, nAA])
  | (refine CallP.ok1 (hh3 _ (by first | omega | simp <;> omega | fail)) (by first | (simp [hne, del, nAA, zaa, getK, zab, zac]; done) | fail) (by rfl) (by rfl) ?_; (try simp [hne, del, nAA]))
  | (refine zar (by first | rfl | fail) ?_; simp [hne, del, nAA, frzN, frz1, zaA, zaz, St.frz, St.frzS, frzS, fv, zaE, zaY, za1, zaD, zas, zal, del, frz, za2])
  | fail)
    (refine CallP.pp (zeu hl [59] (q := q2) (i := i) (by first | omega | simp <;> omega | fail) g2) (by first | (simp [hi, hne, nAA, zaa, getK, zab, zac]; done) | fail) (by rfl) (by first | assumption | (simp; done) | fail) (by rfl) (by simp) (fun v3 q3 h3 => ?_) (fun pos e q' h3 => ⟨_, Wk.refl _, ?_⟩); rotate_left 1; (focus (rw [h3, PR.zaL] at hR; (refine hpan _ _ ⟨{ n := _, env := [], obs := [(i, pOb l q')], next := nx }, (Wk.cut rfl (by simp [hn]) (by simp [wkO, zaa, getK, zab, zac, Ob.under, D.under, zad, zae, hi, hne, nAA, zab, zac, zaa, getK]) (by simp [wkU, zam, zaa, getK, D.under, hi, hne, nAA, zab, zac, zaa, getK]) (by simp [wkE, zam, zaa, getK, hi, hne, nAA, zab, zac, zaa, getK])), by simp [hn], ?_⟩; try simp); exact PPost.zay hR.symm)); rw [h3, PR.zaT] at hR; (try simp [hi, hne, nAA]))
    repeat' (first
  | ((first | refine zaf ?_ | refine zaj ?_ | refine zag ?_ | fail); simp [hne, del, nAA])
  | (refine zaq ?_; simp only [zao])
  | fail)
    (refine EndW.here ?_; (first | (refine EndOK.fin (.inr rfl) ?_) | (refine EndOK.fin (.inl rfl) ?_)); simp [zaJ, zah, Tryz.results78, hne, hi]; refine FinOK.cut [(i, pOb l q3)] (nx) (by simp [zaa, getK, zab, zac, Ob.under, D.under, zad, zae, hne, hi] <;> omega) (by simp [D.under]) (by simp [hn]) ?_; try simp)
    exact PPost.zcf hR.symm rfl rfl
theorem zoN {l : List Tok} (hl : TokOK l) {p q : Nat} {x : Int × Bool} (h : zkG l p = .ok x q) (hp : p < l.length) : p ≤ q ∧ q < l.length := by
 unfold zkG at h
 obtain ⟨_, r1, h1, h⟩ := PR.zaw h
 have g1 := zaS hl _ h1 hp
 split at h
 ·rename_i hb
  obtain ⟨_, r2, h2, h⟩ := PR.zaw h
  have g2 := zaS hl _ h2 (zba hl hb)
  cases h
  exact ⟨by omega, g2.2⟩
 ·split at h
  ·rename_i hb
   obtain ⟨_, r2, h2, h⟩ := PR.zaw h
   have g2 := zaS hl _ h2 (zba hl hb)
   cases h
   exact ⟨by omega, g2.2⟩
  ·obtain ⟨_, r2, h2, h⟩ := PR.zaw h
   have g2 := zaS hl _ h2 g1.2
   split at h
   ·rename_i hb
    obtain ⟨_, r3, h3, h⟩ := PR.zaw h
    have g3 := zaS hl _ h3 (zba hl hb)
    cases h
    exact ⟨by omega, g3.2⟩
   ·obtain ⟨_, r3, h3, h⟩ := PR.zaw h
    have g3 := zaS hl _ h3 g2.2
    cases h
    exact ⟨by omega, g3.2⟩
theorem zfI : Fun Tryz.prog 60 [] (· = .u (.sl (ordersW.map fun w => [.str w]))) := by
 simp only [ordersW, List.map_cons, List.map_nil]
 (refine Fun.of_bodyW Tryz.func60 rfl (by simp) fun Γ hn => ?_); simp only [entry, ziC, ziN, maC, maN, oA, Tryz.ntmps60]
 repeat' (first
  | ((first | refine zaf ?_ | refine zaj ?_ | refine zag ?_ | fail); simp [zbY, zbO])
  | (refine zaq ?_; simp only [zao])
  | fail)
 (refine EndW.frzN 1 ?_; simp [frzN, frz1, zaA, zaz, St.frz, St.frzS, frzS, fv, zaE, zaY, za1, zaD, zas, zal, del, frz, za2])
 refine EndW.here ?_
 (refine EndOK.val (.inr rfl) ?_; simp [zaJ, zah, zau, Tryz.results60])
/-- The first of words that stands at a place is read. -/
def atW (l : List Tok) (q : Nat) (ws : List W8) : Option Nat := ws.findIdx? fun w => isB l q w
theorem zmh (l : List Tok) (q : Nat) (ws : List W8) (i nx : Nat) (hi : i < nx) (hq : q < l.length) (hl : TokOK l) :
  RetX Tryz.prog 129 [.u (.sl (ws.map fun w => [.str w])), .bnd (.func 127) [.ptr i 0]] [(i, pOb l q)] nx
   (fun r o n => r = .val (match atW l q ws with | some j => zio j | none => zio (-1)) ∧ o = [(i, pOb l (if (atW l q ws).isSome then q + 1 else q))] ∧ n = nx) := by
 have hne := zaB hi
 generalize hA : atW l q ws = A
 (refine RetX.of_bodyW Tryz.func129 rfl (by simp) fun Γ hn hpan => ?_); simp only [entry, ziC, ziN, maC, maN, oA, Tryz.ntmps129]
 refine zj7 (x := 0) rfl fun hll => ?_
 simp at hll
 repeat' (first
  | ((first | refine zaf ?_ | refine zaj ?_ | refine zag ?_ | refine zav ?_ | fail); simp)
  | fail)
 refine zcW (α := { j : Nat // j ≤ ws.length ∧ ∀ w ∈ ws.take j, isB l q w = false }) [0, 1, 7] (fun x => [(8, .u (.int .i64 x.1))]) (fun x => [(i, pOb l q)]) nx (fun x => ws.length - x.1) ⟨0, by omega, by simp⟩ ?_ ?_
 ·exact (Wk.cut rfl (by simp [hn, St.lp]) (by simp [wkO, St.lp, zaa, getK, Ob.under, D.under, zad, zae, hi]) (by simp [wkU, St.lp, zam, zaa, getK, D.under, hi]) (by simp [wkE, St.lp, zam, zaa, getK, hi] <;> (try (intros; simp_all; done)) <;> (try (intros; omega)) <;> (try grind)))
 rintro ⟨j, h1, h2⟩
 simp [St.lp, St.only, zam, zaa, getK]
 rcases hx : ws[j]? with _ | w
 ·have hge : ws.length ≤ j := by simpa using hx
  rw [List.take_of_length_le hge] at h2
  have hn0 : atW l q ws = none := by
   unfold atW
   rw [List.findIdx?_eq_none_iff]
   exact h2
  rw [hn0] at hA
  subst hA
  repeat' (first
  | ((first | refine zaf ?_ | refine zaj ?_ | fail); simp [hx])
  | (refine ⟨by omega, ?_⟩)
  | (refine zag ?_; simp [hx])
  | (refine zaq ?_; simp only [zao])
  | (refine zbb ?_; simp [zao])
  | (intro hc <;> (try (exfalso; omega)))
  | fail)
  (refine EndW.here ?_; (first | (refine EndOK.fin (.inr rfl) ?_) | (refine EndOK.fin (.inl rfl) ?_)); simp [zaJ, zah, Tryz.results129]; refine FinOK.here (by simp) ?_; try simp)
 ·have hlt : j < ws.length := (lGE.1 hx).1
  have hh := zbc l q w i nx hi hq hl.len
  cases hb : isB l q w with
  | false =>
   rw [hb, if_neg (by simp)] at hh
   repeat' (first
  | ((first | refine zaf ?_ | refine zaj ?_ | refine zag ?_ | fail); simp [hx])
  | (refine zap ?_; simp only [zao])
  | (refine ⟨?_, by omega⟩)
  | (intro hc <;> (try (exfalso; omega)))
  | fail)
   refine CallP.bok hh (by simp [zaa, getK]) rfl (by first | assumption | simp) rfl (by simp) ?_
   repeat' (first
  | ((first | refine zaf ?_ | refine zaj ?_ | fail); simp [hx])
  | (refine ⟨by omega, ?_⟩)
  | ((first | refine zai ?_ | refine zat ?_ | fail); simp [hx])
  | (refine zap ?_; simp only [zao])
  | fail)
   refine LoopW.next ⟨j + 1, by omega, zbE hx h2 hb⟩ (by simp; omega) ?_
   exact (Wk.cut rfl (by simp [hn, St.lp]) (by simp [wkO, St.lp, zaa, getK, Ob.under, D.under, zad, zae, hi, zab, zac, zaa, getK]) (by simp [wkU, St.lp, zam, zaa, getK, D.under, hi, zab, zac, zaa, getK]) (by simp [wkE, St.lp, zam, zaa, getK, hi, zab, zac, zaa, getK] <;> (try (intros; simp_all; done)) <;> (try (intros; omega)) <;> (try grind)))
  | true =>
   rw [hb, if_pos rfl] at hh
   have hn0 : atW l q ws = some j := by
    unfold atW
    rw [List.findIdx?_eq_some_iff_getElem]
    obtain ⟨h3, h4⟩ := lGE.1 hx
    refine ⟨h3, by rw [h4]; exact hb, fun k hk => ?_⟩
    have := h2 ws[k] (by rw [List.mem_take_iff_getElem]; exact ⟨k, by omega, rfl⟩)
    simp [this]
   rw [hn0] at hA
   subst hA
   repeat' (first
  | ((first | refine zaf ?_ | refine zaj ?_ | refine zag ?_ | fail); simp [hx])
  | (refine zap ?_; simp only [zao])
  | (refine ⟨?_, by omega⟩)
  | (intro hc <;> (try (exfalso; omega)))
  | fail)
   refine CallP.bok hh (by simp [zaa, getK]) rfl (by first | assumption | simp) rfl (by simp) ?_
   repeat' (first
  | ((first | refine zaf ?_ | refine zaj ?_ | refine zag ?_ | refine zai ?_ | fail); simp [hx])
  | (refine zaq ?_; simp only [zao])
  | fail)
   (refine EndW.here ?_; (first | (refine EndOK.fin (.inr rfl) ?_) | (refine EndOK.fin (.inl rfl) ?_)); simp [zaJ, zah, Tryz.results129]; refine FinOK.here (by simp) ?_; try simp)
theorem zm5 (l : List Tok) (p : Nat) (i nx : Nat) (hi : i < nx) (hp : p < l.length) (hl : TokOK l) :
  RetX Tryz.prog 81 [.ptr i 0] [(i, pOb l p)] nx (PPost l i nx zio (zgH l p)) := by
 have hne := zaB hi
 have hll := hl.len
 have hor := zfI
 generalize hR : zgH l p = R
 rw [zgH] at hR
 have hh1 := fun nx' (h : nx ≤ nx') => zbc l p [111, 114, 100, 101, 114] i nx' (by omega) hp hl.len
 by_cases c1 : isB l p [111, 114, 100, 101, 114] = true
 ·have g1 := zba hl c1
  rw [if_pos c1] at hR
  simp only [c1, if_true] at hh1
  have hix := fun nx' (h : nx ≤ nx') => zmh l (p + 1) ordersW i nx' (by omega) g1 hl
  have hat : atW l (p + 1) ordersW = ordersW.findIdx? fun w => isB l (p + 1) w := rfl
  rw [← hat] at hR
  obtain ⟨t, ht⟩ : ∃ t, l[p + 1]? = some t := ⟨_, List.getElem?_eq_getElem g1⟩
  have hpa : zcR l (p + 1) = t.pos := by unfold zcR; rw [ht]
  rw [hpa] at hR
  cases hj : atW l (p + 1) ordersW with
  | none =>
   have hc2 := fun e nx' (h : nx ≤ nx') => zcG l (p + 1) t e i nx' (by omega) ht hl.len
   rw [hj] at hR hix
   simp only [Option.isSome_none, Bool.false_eq_true, if_false] at hR hix
   (refine RetX.of_bodyW Tryz.func81 rfl (by simp) fun Γ hn hpan => ?_); simp only [entry, ziC, ziN, maC, maN, oA, Tryz.ntmps81]
   repeat' (first
  | ((first | refine zaf ?_ | refine zaj ?_ | refine zag ?_ | refine zai ?_ | fail); simp [hne, del, nAA])
  | (refine zap ?_; simp only [zao])
  | (refine CallP.fE (hor) (by first | rfl | fail) (by first | simp [hne, del, nAA] <;> rfl | fail) ?_; (try simp [hne, del, nAA]))
  | (refine CallP.ok1 (hh1 _ (by first | omega | simp <;> omega | fail)) (by first | (simp [hne, del, nAA, zaa, getK, zab, zac]; done) | fail) (by rfl) (by rfl) ?_; (try simp [hne, del, nAA]))
  | (refine CallP.ok1 (hix _ (by first | omega | simp <;> omega | fail)) (by first | (simp [hne, del, nAA, zaa, getK, zab, zac]; done) | fail) (by rfl) (by rfl) ?_; (try simp [hne, del, nAA]))
  | (refine CallP.zd8 (hc2 _ _ (by first | omega | simp <;> omega | fail)) (by first | (simp [hne, del, nAA, zaa, getK, zab, zac]; done) | fail) (by rfl) (by first | assumption | (simp; done) | fail) (by rfl) (by simp) ?_; rintro ob' ⟨q', rfl⟩; refine ⟨_, Wk.refl _, ?_⟩)
  | fail)
   (refine hpan _ _ ⟨{ n := _, env := [], obs := [(i, pOb l q')], next := nx }, (Wk.cut rfl (by simp [hn]) (by simp [wkO, zaa, getK, zab, zac, Ob.under, D.under, zad, zae, hi, hne, zab, zac, zaa, getK]) (by simp [wkU, zam, zaa, getK, D.under, hi, hne, zab, zac, zaa, getK]) (by simp [wkE, zam, zaa, getK, hi, hne, zab, zac, zaa, getK])), by simp [hn], ?_⟩; try simp)
   exact PPost.zay hR.symm
  | some j =>
   have g2 : p + 1 + 1 < l.length := by
    unfold atW at hj
    rw [List.findIdx?_eq_some_iff_getElem] at hj
    obtain ⟨_, hb, _⟩ := hj
    exact zba hl hb
   have hj0 : (0 : Int) ≤ (j : Int) := by omega
   have hc1 := fun e nx' (h : nx ≤ nx') => zdM l (p + 1 + 1) e i nx' (by omega)
   rw [hj] at hR hix
   simp only [Option.isSome_some, if_true] at hR hix
   (refine RetX.of_bodyW Tryz.func81 rfl (by simp) fun Γ hn hpan => ?_); simp only [entry, ziC, ziN, maC, maN, oA, Tryz.ntmps81]
   repeat' (first
  | ((first | refine zaf ?_ | refine zaj ?_ | refine zag ?_ | refine zai ?_ | fail); simp [hne, del, nAA, hj0])
  | (refine zap ?_; simp only [zao])
  | (refine CallP.fE (hor) (by first | rfl | fail) (by first | simp [hne, del, nAA, hj0] <;> rfl | fail) ?_; (try simp [hne, del, nAA, hj0]))
  | (refine CallP.ok1 (hh1 _ (by first | omega | simp <;> omega | fail)) (by first | (simp [hne, del, nAA, hj0, zaa, getK, zab, zac]; done) | fail) (by rfl) (by rfl) ?_; (try simp [hne, del, nAA, hj0]))
  | (refine CallP.ok1 (hix _ (by first | omega | simp <;> omega | fail)) (by first | (simp [hne, del, nAA, hj0, zaa, getK, zab, zac]; done) | fail) (by rfl) (by rfl) ?_; (try simp [hne, del, nAA, hj0]))
  | (refine CallP.ok1 (hc1 _ _ (by first | omega | simp <;> omega | fail)) (by first | (simp [hne, del, nAA, hj0, zaa, getK, zab, zac]; done) | fail) (by rfl) (by rfl) ?_; (try simp [hne, del, nAA, hj0]))
  | (refine zar (by first | rfl | fail) ?_; simp [hne, del, nAA, hj0, frzN, frz1, zaA, zaz, St.frz, St.frzS, frzS, fv, zaE, zaY, za1, zaD, zas, zal, del, frz, za2])
  | fail)
   (refine CallP.pp (zeu hl [59] (q := p + 1 + 1) (i := i) (by first | omega | simp <;> omega | fail) g2) (by first | (simp [hi, hne, nAA, zaa, getK, zab, zac]; done) | fail) (by rfl) (by first | assumption | (simp; done) | fail) (by rfl) (by simp) (fun v2 q2 h2 => ?_) (fun pos e q' h2 => ⟨_, Wk.refl _, ?_⟩); rotate_left 1; (focus (rw [h2, PR.zaL] at hR; (refine hpan _ _ ⟨{ n := _, env := [], obs := [(i, pOb l q')], next := nx }, (Wk.cut rfl (by simp [hn]) (by simp [wkO, zaa, getK, zab, zac, Ob.under, D.under, zad, zae, hi, hne, nAA, zab, zac, zaa, getK]) (by simp [wkU, zam, zaa, getK, D.under, hi, hne, nAA, zab, zac, zaa, getK]) (by simp [wkE, zam, zaa, getK, hi, hne, nAA, zab, zac, zaa, getK])), by simp [hn], ?_⟩; try simp); exact PPost.zay hR.symm)); rw [h2, PR.zaT] at hR; (try simp [hi, hne, nAA]))
   repeat' (first
  | ((first | refine zaf ?_ | refine zaj ?_ | refine zag ?_ | fail); simp [hne, del])
  | (refine zaq ?_; simp only [zao])
  | fail)
   (refine EndW.here ?_; (first | (refine EndOK.fin (.inr rfl) ?_) | (refine EndOK.fin (.inl rfl) ?_)); simp [zaJ, zah, Tryz.results81, hne, hi]; refine FinOK.cut [(i, pOb l q2)] (nx) (by simp [zaa, getK, zab, zac, Ob.under, D.under, zad, zae, hne, hi] <;> omega) (by simp [D.under]) (by simp [hn]) ?_; try simp)
   exact PPost.zcf hR.symm rfl rfl
 ·rw [if_neg c1] at hR
  simp only [c1, Bool.false_eq_true, if_false] at hh1
  (refine RetX.of_bodyW Tryz.func81 rfl (by simp) fun Γ hn hpan => ?_); simp only [entry, ziC, ziN, maC, maN, oA, Tryz.ntmps81]
  repeat' (first
  | ((first | refine zaf ?_ | refine zaj ?_ | refine zag ?_ | refine zai ?_ | fail); simp [hne, del, nAA])
  | (refine zaq ?_; simp only [zao])
  | (refine CallP.ok1 (hh1 _ (by first | omega | simp <;> omega | fail)) (by first | (simp [hne, del, nAA, zaa, getK, zab, zac]; done) | fail) (by rfl) (by rfl) ?_; (try simp [hne, del, nAA]))
  | fail)
  (refine EndW.here ?_; (first | (refine EndOK.fin (.inr rfl) ?_) | (refine EndOK.fin (.inl rfl) ?_)); simp [zaJ, zah, Tryz.results81, hne, hi]; refine FinOK.cut [(i, pOb l p)] (nx) (by simp [zaa, getK, zab, zac, Ob.under, D.under, zad, zae, hne, hi] <;> omega) (by simp [D.under]) (by simp [hn]) ?_; try simp)
  exact PPost.zcf hR.symm rfl rfl
theorem zm6 {l : List Tok} (hl : TokOK l) {p q : Nat} {n : Int} (h : zgH l p = .ok n q) (hp : p < l.length) : p ≤ q ∧ q < l.length := by
 unfold zgH at h
 split at h
 ·split at h
  ·rename_i j hj
   rw [List.findIdx?_eq_some_iff_getElem] at hj
   obtain ⟨_, hb, _⟩ := hj
   obtain ⟨_, r2, h2, h⟩ := PR.zaw h
   have g2 := zaS hl _ h2 (zba hl hb)
   cases h
   exact ⟨by omega, g2.2⟩
  ·cases h
 ·cases h; exact ⟨by omega, hp⟩
theorem zi6 (x : Let) (s : W8) : Fun Tryz.prog 82 (znA x :: [U.row [.str s] 0].map .u) (· = .u (.bool (decide (x.name = s)))) := by
 simp only [znA, List.map_cons, List.map_nil]
 (refine Fun.of_body Tryz.func82 rfl (by simp) fun Γ hn => ?_); simp only [entry, ziC, ziN, maC, maN, oA, Tryz.ntmps82]
 repeat' (first
  | ((first | refine zaf ?_ | refine zaj ?_ | refine zag ?_ | fail); simp)
  | (refine zaq ?_; simp only [zao])
  | fail)
 (refine EndOK.val (.inr rfl) ?_; simp [zaJ, zah, zau, Tryz.results82])
theorem zmN (lets : List Let) (s : W8) : Fun Tryz.prog 67 [.u (zgT lets), .fnc (.func 82) [.u (.row [.str s] 0)]]
  (· = .u (.bool (lets.any fun x => decide (x.name = s)))) :=
 zfx lets 82 [U.row [.str s] 0] _ (fun x _ => zi6 x s) (by simp) (fun _ => rfl) (fun _ => rfl)
theorem zmz (l : List Tok) (hl0 : 0 < l.length) (hl : TokOK l) (hl2 : l.length ≤ 2001) :
  RetX Tryz.prog 37 [.ptr 3 0] [(3, pOb l 0)] 4 (PPost l 3 4 byD (zp3 l)) := by
 have hi : 3 < 4 := by decide
 have hne := zaB hi
 have hll := hl.len
 have htE : True := trivial
 generalize hR : zp3 l = R
 rw [zp3] at hR
 (refine RetX.of_bodyW Tryz.func37 rfl (by simp) fun Γ hn hpan => ?_); simp only [entry, ziC, ziN, maC, maN, oA, Tryz.ntmps37]
 repeat' (first
  | ((first | refine zaf ?_ | refine zaj ?_ | refine zag ?_ | fail); simp [hne])
  | fail)
 (refine CallP.pp (zoM l 0 3 _ (by first | omega | simp <;> omega | fail) hl0 hl) (by first | (simp [hi, hne, del, htE, zaa, getK, zab, zac]; done) | fail) (by rfl) (by first | assumption | (simp; done) | fail) (by rfl) (by simp) (fun kb q1 h1 => ?_) (fun pos e q' h1 => ⟨_, Wk.refl _, ?_⟩); rotate_left 1; (focus (rw [h1, PR.zaL] at hR; (refine hpan _ _ ⟨{ n := _, env := [], obs := [(3, pOb l q')], next := 4 }, (Wk.cut rfl (by simp [hn]) (by simp [wkO, zaa, getK, zab, zac, Ob.under, D.under, zad, zae, hi, hne, del, htE, zab, zac, zaa, getK]) (by simp [wkU, zam, zaa, getK, D.under, hi, hne, del, htE, zab, zac, zaa, getK]) (by simp [wkE, zam, zaa, getK, hi, hne, del, htE, zab, zac, zaa, getK])), by simp [hn], ?_⟩; try simp); exact PPost.zay hR.symm)); rw [h1, PR.zaT] at hR; (try simp [hi, hne, del, htE]))
 obtain ⟨_, g1⟩ := zoN hl h1 hl0
 have hm := zdH l q1 [112, 101, 114, 105, 111, 100] g1 hl.len
 repeat' (first
  | ((first | refine zaf ?_ | refine zaj ?_ | refine zag ?_ | fail); simp [hne, del])
  | (refine CallP.fE (hm) (by first | rfl | fail) (by first | simp [hne, del] <;> rfl | fail) ?_; (try simp [hne, del]))
  | fail)
 (refine CallP.pp (zk0 l q1 [112, 101, 114, 105, 111, 100] 3 _ (by first | omega | simp <;> omega | fail) g1 hl) (by first | (simp [hi, hne, del, htE, zaa, getK, zab, zac]; done) | fail) (by rfl) (by first | assumption | (simp; done) | fail) (by rfl) (by simp) (fun u2 q2 h2 => ?_) (fun pos e q' h2 => ⟨_, Wk.refl _, ?_⟩); rotate_left 1; (focus (rw [h2, PR.zaL] at hR; (refine hpan _ _ ⟨{ n := _, env := [], obs := [(3, pOb l q')], next := 4 }, (Wk.cut rfl (by simp [hn]) (by simp [wkO, zaa, getK, zab, zac, Ob.under, D.under, zad, zae, hi, hne, del, htE, zab, zac, zaa, getK]) (by simp [wkU, zam, zaa, getK, D.under, hi, hne, del, htE, zab, zac, zaa, getK]) (by simp [wkE, zam, zaa, getK, hi, hne, del, htE, zab, zac, zaa, getK])), by simp [hn], ?_⟩; try simp); exact PPost.zay hR.symm)); rw [h2, PR.zaT] at hR; (try simp [hi, hne, del, htE]))
 obtain ⟨rfl, _⟩ := znj h2
 repeat' (first
  | ((first | refine zaf ?_ | refine zaj ?_ | refine zag ?_ | fail); simp [hne, del])
  | (refine zar (by first | rfl | fail) ?_; simp [hne, del, frzN, frz1, zaA, zaz, St.frz, St.frzS, frzS, fv, zaE, zaY, za1, zaD, zas, zal, del, frz, za2])
  | fail)
 (refine CallP.pp (zdF l q2 [112, 101, 114, 105, 111, 100] 1 1000 [[100, 97, 121, 115], [59]] 3 _ (by first | omega | simp <;> omega | fail) g1 hl (by simp)) (by first | (simp [hi, hne, del, htE, zaa, getK, zab, zac]; done) | fail) (by rfl) (by first | assumption | (simp; done) | fail) (by rfl) (by simp) (fun period q3 h3 => ?_) (fun pos e q' h3 => ⟨_, Wk.refl _, ?_⟩); rotate_left 1; (focus (rw [h3, PR.zaL] at hR; (refine hpan _ _ ⟨{ n := _, env := [], obs := [(3, pOb l q')], next := 4 }, (Wk.cut rfl (by simp [hn]) (by simp [wkO, zaa, getK, zab, zac, Ob.under, D.under, zad, zae, hi, hne, del, htE, zab, zac, zaa, getK]) (by simp [wkU, zam, zaa, getK, D.under, hi, hne, del, htE, zab, zac, zaa, getK]) (by simp [wkE, zam, zaa, getK, hi, hne, del, htE, zab, zac, zaa, getK])), by simp [hn], ?_⟩; try simp); exact PPost.zay hR.symm)); rw [h3, PR.zaT] at hR; (try simp [hi, hne, del, htE]))
 obtain ⟨_, g3⟩ := zdG hl h3 g1
 repeat' (first
  | ((first | refine zaf ?_ | refine zaj ?_ | refine zag ?_ | fail); simp [hne, del])
  | fail)
 have hm := zdH l q3 [108, 97, 115, 116] g3 hl.len
 repeat' (first
  | (refine zaf ?_; simp [hne, del])
  | (refine CallP.fE (hm) (by first | rfl | fail) (by first | simp [hne, del] <;> rfl | fail) ?_; (try simp [hne, del]))
  | fail)
 (refine CallP.pp (zk0 l q3 [108, 97, 115, 116] 3 _ (by first | omega | simp <;> omega | fail) g3 hl) (by first | (simp [hi, hne, del, htE, zaa, getK, zab, zac]; done) | fail) (by rfl) (by first | assumption | (simp; done) | fail) (by rfl) (by simp) (fun u4 q4 h4 => ?_) (fun pos e q' h4 => ⟨_, Wk.refl _, ?_⟩); rotate_left 1; (focus (rw [h4, PR.zaL] at hR; (refine hpan _ _ ⟨{ n := _, env := [], obs := [(3, pOb l q')], next := 4 }, (Wk.cut rfl (by simp [hn]) (by simp [wkO, zaa, getK, zab, zac, Ob.under, D.under, zad, zae, hi, hne, del, htE, zab, zac, zaa, getK]) (by simp [wkU, zam, zaa, getK, D.under, hi, hne, del, htE, zab, zac, zaa, getK]) (by simp [wkE, zam, zaa, getK, hi, hne, del, htE, zab, zac, zaa, getK])), by simp [hn], ?_⟩; try simp); exact PPost.zay hR.symm)); rw [h4, PR.zaT] at hR; (try simp [hi, hne, del, htE]))
 obtain ⟨rfl, _⟩ := znj h4
 repeat' (first
  | ((first | refine zaf ?_ | refine zaj ?_ | refine zag ?_ | fail); simp [hne, del])
  | (refine zar (by first | rfl | fail) ?_; simp [hne, del, frzN, frz1, zaA, zaz, St.frz, St.frzS, frzS, fv, zaE, zaY, za1, zaD, zas, zal, del, frz, za2])
  | fail)
 (refine CallP.pp (zdF l q4 [108, 97, 115, 116] 1 1000 [[59]] 3 _ (by first | omega | simp <;> omega | fail) g3 hl (by simp)) (by first | (simp [hi, hne, del, htE, zaa, getK, zab, zac]; done) | fail) (by rfl) (by first | assumption | (simp; done) | fail) (by rfl) (by simp) (fun last q5 h5 => ?_) (fun pos e q' h5 => ⟨_, Wk.refl _, ?_⟩); rotate_left 1; (focus (rw [h5, PR.zaL] at hR; (refine hpan _ _ ⟨{ n := _, env := [], obs := [(3, pOb l q')], next := 4 }, (Wk.cut rfl (by simp [hn]) (by simp [wkO, zaa, getK, zab, zac, Ob.under, D.under, zad, zae, hi, hne, del, htE, zab, zac, zaa, getK]) (by simp [wkU, zam, zaa, getK, D.under, hi, hne, del, htE, zab, zac, zaa, getK]) (by simp [wkE, zam, zaa, getK, hi, hne, del, htE, zab, zac, zaa, getK])), by simp [hn], ?_⟩; try simp); exact PPost.zay hR.symm)); rw [h5, PR.zaT] at hR; (try simp [hi, hne, del, htE]))
 obtain ⟨_, g5⟩ := zdG hl h5 g3
 repeat' (first
  | ((first | refine zaf ?_ | refine zaj ?_ | refine zag ?_ | fail); simp [hne, del])
  | (refine zar (by first | rfl | fail) ?_; simp [hne, del, frzN, frz1, zaA, zaz, St.frz, St.frzS, frzS, fv, zaE, zaY, za1, zaD, zas, zal, del, frz, za2])
  | fail)
 (refine CallP.pp (zdF l q5 [103, 114, 97, 99, 101] 0 1000 [[100, 97, 121, 115], [59]] 3 _ (by first | omega | simp <;> omega | fail) g5 hl (by simp)) (by first | (simp [hi, hne, del, htE, zaa, getK, zab, zac]; done) | fail) (by rfl) (by first | assumption | (simp; done) | fail) (by rfl) (by simp) (fun grace q6 h6 => ?_) (fun pos e q' h6 => ⟨_, Wk.refl _, ?_⟩); rotate_left 1; (focus (rw [h6, PR.zaL] at hR; (refine hpan _ _ ⟨{ n := _, env := [], obs := [(3, pOb l q')], next := 4 }, (Wk.cut rfl (by simp [hn]) (by simp [wkO, zaa, getK, zab, zac, Ob.under, D.under, zad, zae, hi, hne, del, htE, zab, zac, zaa, getK]) (by simp [wkU, zam, zaa, getK, D.under, hi, hne, del, htE, zab, zac, zaa, getK]) (by simp [wkE, zam, zaa, getK, hi, hne, del, htE, zab, zac, zaa, getK])), by simp [hn], ?_⟩; try simp); exact PPost.zay hR.symm)); rw [h6, PR.zaT] at hR; (try simp [hi, hne, del, htE]))
 obtain ⟨_, g6⟩ := zdG hl h6 g5
 repeat' (first
  | ((first | refine zaf ?_ | refine zaj ?_ | refine zag ?_ | fail); simp [hne, del])
  | (refine zar (by first | rfl | fail) ?_; simp [hne, del, frzN, frz1, zaA, zaz, St.frz, St.frzS, frzS, fv, zaE, zaY, za1, zaD, zas, zal, del, frz, za2])
  | fail)
 (refine CallP.pp (zdF l q6 [119, 97, 105, 116] 0 1000 [[100, 97, 121, 115], [59]] 3 _ (by first | omega | simp <;> omega | fail) g6 hl (by simp)) (by first | (simp [hi, hne, del, htE, zaa, getK, zab, zac]; done) | fail) (by rfl) (by first | assumption | (simp; done) | fail) (by rfl) (by simp) (fun wait q7 h7 => ?_) (fun pos e q' h7 => ⟨_, Wk.refl _, ?_⟩); rotate_left 1; (focus (rw [h7, PR.zaL] at hR; (refine hpan _ _ ⟨{ n := _, env := [], obs := [(3, pOb l q')], next := 4 }, (Wk.cut rfl (by simp [hn]) (by simp [wkO, zaa, getK, zab, zac, Ob.under, D.under, zad, zae, hi, hne, del, htE, zab, zac, zaa, getK]) (by simp [wkU, zam, zaa, getK, D.under, hi, hne, del, htE, zab, zac, zaa, getK]) (by simp [wkE, zam, zaa, getK, hi, hne, del, htE, zab, zac, zaa, getK])), by simp [hn], ?_⟩; try simp); exact PPost.zay hR.symm)); rw [h7, PR.zaT] at hR; (try simp [hi, hne, del, htE]))
 obtain ⟨_, g7⟩ := zdG hl h7 g6
 repeat' (first
  | ((first | refine zaf ?_ | refine zaj ?_ | refine zag ?_ | fail); simp [hne, del])
  | fail)
 (refine CallP.pp (zm5 l q7 3 _ (by first | omega | simp <;> omega | fail) g7 hl) (by first | (simp [hi, hne, del, htE, zaa, getK, zab, zac]; done) | fail) (by rfl) (by first | assumption | (simp; done) | fail) (by rfl) (by simp) (fun order q8 h8 => ?_) (fun pos e q' h8 => ⟨_, Wk.refl _, ?_⟩); rotate_left 1; (focus (rw [h8, PR.zaL] at hR; (refine hpan _ _ ⟨{ n := _, env := [], obs := [(3, pOb l q')], next := 4 }, (Wk.cut rfl (by simp [hn]) (by simp [wkO, zaa, getK, zab, zac, Ob.under, D.under, zad, zae, hi, hne, del, htE, zab, zac, zaa, getK]) (by simp [wkU, zam, zaa, getK, D.under, hi, hne, del, htE, zab, zac, zaa, getK]) (by simp [wkE, zam, zaa, getK, hi, hne, del, htE, zab, zac, zaa, getK])), by simp [hn], ?_⟩; try simp); exact PPost.zay hR.symm)); rw [h8, PR.zaT] at hR; (try simp [hi, hne, del, htE]))
 obtain ⟨_, g8⟩ := zm6 hl h8 g7
 repeat' (first
  | ((first | refine zaf ?_ | refine zaj ?_ | refine zag ?_ | fail); simp [hne, del])
  | (refine zar (by first | rfl | fail) ?_; simp [hne, del, frzN, frz1, zaA, zaz, St.frz, St.frzS, frzS, fv, zaE, zaY, za1, zaD, zas, zal, del, frz, za2])
  | fail)
 (refine CallP.pp (zdF l q8 [98, 97, 99, 107, 115] 0 60 [[59]] 3 _ (by first | omega | simp <;> omega | fail) g8 hl (by simp)) (by first | (simp [hi, hne, del, htE, zaa, getK, zab, zac]; done) | fail) (by rfl) (by first | assumption | (simp; done) | fail) (by rfl) (by simp) (fun backs q9 h9 => ?_) (fun pos e q' h9 => ⟨_, Wk.refl _, ?_⟩); rotate_left 1; (focus (rw [h9, PR.zaL] at hR; (refine hpan _ _ ⟨{ n := _, env := [], obs := [(3, pOb l q')], next := 4 }, (Wk.cut rfl (by simp [hn]) (by simp [wkO, zaa, getK, zab, zac, Ob.under, D.under, zad, zae, hi, hne, del, htE, zab, zac, zaa, getK]) (by simp [wkU, zam, zaa, getK, D.under, hi, hne, del, htE, zab, zac, zaa, getK]) (by simp [wkE, zam, zaa, getK, hi, hne, del, htE, zab, zac, zaa, getK])), by simp [hn], ?_⟩; try simp); exact PPost.zay hR.symm)); rw [h9, PR.zaT] at hR; (try simp [hi, hne, del, htE]))
 obtain ⟨_, g9⟩ := zdG hl h9 g8
 repeat' (first
  | ((first | refine zaf ?_ | refine zaj ?_ | refine zag ?_ | fail); simp [hne, del])
  | (refine zar (by first | rfl | fail) ?_; simp [hne, del, frzN, frz1, zaA, zaz, St.frz, St.frzS, frzS, fv, zaE, zaY, za1, zaD, zas, zal, del, frz, za2])
  | fail)
 (refine CallP.pp (zdF l q9 [118, 111, 105, 99, 101, 115] 0 1000 [[112, 101, 114], [109, 105, 108, 108, 101], [59]] 3 _ (by first | omega | simp <;> omega | fail) g9 hl (by simp)) (by first | (simp [hi, hne, del, htE, zaa, getK, zab, zac]; done) | fail) (by rfl) (by first | assumption | (simp; done) | fail) (by rfl) (by simp) (fun voices q10 h10 => ?_) (fun pos e q' h10 => ⟨_, Wk.refl _, ?_⟩); rotate_left 1; (focus (rw [h10, PR.zaL] at hR; (refine hpan _ _ ⟨{ n := _, env := [], obs := [(3, pOb l q')], next := 4 }, (Wk.cut rfl (by simp [hn]) (by simp [wkO, zaa, getK, zab, zac, Ob.under, D.under, zad, zae, hi, hne, del, htE, zab, zac, zaa, getK]) (by simp [wkU, zam, zaa, getK, D.under, hi, hne, del, htE, zab, zac, zaa, getK]) (by simp [wkE, zam, zaa, getK, hi, hne, del, htE, zab, zac, zaa, getK])), by simp [hn], ?_⟩; try simp); exact PPost.zay hR.symm)); rw [h10, PR.zaT] at hR; (try simp [hi, hne, del, htE]))
 obtain ⟨_, g10⟩ := zdG hl h10 g9
 repeat' (first
  | ((first | refine zaf ?_ | refine zaj ?_ | refine zag ?_ | fail); simp [hne, del])
  | (refine zar (by first | rfl | fail) ?_; simp [hne, del, frzN, frz1, zaA, zaz, St.frz, St.frzS, frzS, fv, zaE, zaY, za1, zaD, zas, zal, del, frz, za2])
  | fail)
 (refine CallP.pp (zdF l q10 [106, 117, 114, 121] 0 60 [[59]] 3 _ (by first | omega | simp <;> omega | fail) g10 hl (by simp)) (by first | (simp [hi, hne, del, htE, zaa, getK, zab, zac]; done) | fail) (by rfl) (by first | assumption | (simp; done) | fail) (by rfl) (by simp) (fun jury q11 h11 => ?_) (fun pos e q' h11 => ⟨_, Wk.refl _, ?_⟩); rotate_left 1; (focus (rw [h11, PR.zaL] at hR; (refine hpan _ _ ⟨{ n := _, env := [], obs := [(3, pOb l q')], next := 4 }, (Wk.cut rfl (by simp [hn]) (by simp [wkO, zaa, getK, zab, zac, Ob.under, D.under, zad, zae, hi, hne, del, htE, zab, zac, zaa, getK]) (by simp [wkU, zam, zaa, getK, D.under, hi, hne, del, htE, zab, zac, zaa, getK]) (by simp [wkE, zam, zaa, getK, hi, hne, del, htE, zab, zac, zaa, getK])), by simp [hn], ?_⟩; try simp); exact PPost.zay hR.symm)); rw [h11, PR.zaT] at hR; (try simp [hi, hne, del, htE]))
 obtain ⟨_, g11⟩ := zdG hl h11 g10
 repeat' (first
  | ((first | refine zaf ?_ | refine zaj ?_ | refine zag ?_ | fail); simp [hne, del])
  | (refine zar (by first | rfl | fail) ?_; simp [hne, del, frzN, frz1, zaA, zaz, St.frz, St.frzS, frzS, fv, zaE, zaY, za1, zaD, zas, zal, del, frz, za2])
  | fail)
 (refine CallP.pp (zdF l q11 [102, 117, 110, 100] 0 1000 [[112, 101, 114], [109, 105, 108, 108, 101], [59]] 3 _ (by first | omega | simp <;> omega | fail) g11 hl (by simp)) (by first | (simp [hi, hne, del, htE, zaa, getK, zab, zac]; done) | fail) (by rfl) (by first | assumption | (simp; done) | fail) (by rfl) (by simp) (fun fund q12 h12 => ?_) (fun pos e q' h12 => ⟨_, Wk.refl _, ?_⟩); rotate_left 1; (focus (rw [h12, PR.zaL] at hR; (refine hpan _ _ ⟨{ n := _, env := [], obs := [(3, pOb l q')], next := 4 }, (Wk.cut rfl (by simp [hn]) (by simp [wkO, zaa, getK, zab, zac, Ob.under, D.under, zad, zae, hi, hne, del, htE, zab, zac, zaa, getK]) (by simp [wkU, zam, zaa, getK, D.under, hi, hne, del, htE, zab, zac, zaa, getK]) (by simp [wkE, zam, zaa, getK, hi, hne, del, htE, zab, zac, zaa, getK])), by simp [hn], ?_⟩; try simp); exact PPost.zay hR.symm)); rw [h12, PR.zaT] at hR; (try simp [hi, hne, del, htE]))
 obtain ⟨_, g12⟩ := zdG hl h12 g11
 repeat' (first
  | ((first | refine zaf ?_ | refine zaj ?_ | refine zag ?_ | fail); simp [hne, del])
  | fail)
 refine zge _ (Wk.ownC 5 _ 11 45 6 (by decide) rfl rfl) ?_
 simp [St.ownC]
 refine zcW (α := { x : Nat × List Let × Nat // x.1 < l.length ∧ x.2.1.length + x.2.2 = 21 ∧ x.2.1.length ≤ 20 ∧ zgU l 21 q12 [] = zgU l x.2.2 x.1 x.2.1 }) [0, 2, 3] (fun x => [])
  (fun x => [(5, .box [.u (.int .i64 kb.1), .u (.int .i64 period), .u (.int .i64 grace), .u (.int .i64 wait), .u (.int .i64 last), .u (.int .i64 order), .u (.bool kb.2), .u (.int .i64 backs), .u (.int .i64 voices), .u (.int .i64 jury), .u (.int .i64 fund), .vec 14 x.1.2.1.length, .u (.int .i64 0), .u (.int .i64 0), .u (.int .i64 0), .u (.str []), .u .nil, .u (.int .i64 0), .u (.int .i64 0), .u (.int .i64 0), .u (.str []), .u .nil, .u (.int .i64 0), .u (.int .i64 0), .u (.int .i64 0), .u (.str []), .u .nil, .u (.int .i64 0), .u (.int .i64 0), .u (.int .i64 0), .u (.str []), .u .nil, .u (.int .i64 0), .u (.int .i64 0), .u (.int .i64 0), .u (.str []), .u .nil]), (14, .vec 45 6 (rowsD (zgb x.1.2.1))), (4, .box [.u (.int .i64 0), .u (.int .i64 0), .u (.int .i64 0), .u (.int .i64 0), .u (.int .i64 0), .u (.int .i64 0), .u (.bool false), .u (.int .i64 0), .u (.int .i64 0), .u (.int .i64 0), .u (.int .i64 0), .u .nil, .u (.int .i64 0), .u (.int .i64 0), .u (.int .i64 0), .u (.str []), .u .nil, .u (.int .i64 0), .u (.int .i64 0), .u (.int .i64 0), .u (.str []), .u .nil, .u (.int .i64 0), .u (.int .i64 0), .u (.int .i64 0), .u (.str []), .u .nil, .u (.int .i64 0), .u (.int .i64 0), .u (.int .i64 0), .u (.str []), .u .nil, .u (.int .i64 0), .u (.int .i64 0), .u (.int .i64 0), .u (.str []), .u .nil]), (3, pOb l x.1.1)]) 15 (fun x => x.1.2.2) ⟨(q12, [], 21), g12, rfl, by simp, rfl⟩ ?_ ?_
 ·exact (Wk.cut rfl (by simp [hn, St.lp]) (by simp [wkO, St.lp, zaa, getK, Ob.under, D.under, zad, zae, zgb]) (by simp [wkU, St.lp, zam, zaa, getK, D.under, zgb]) (by simp [wkE, St.lp, zam, zaa, getK, zgb] <;> (try (intros; simp_all; done)) <;> (try (intros; omega)) <;> (try grind)))
 rintro ⟨⟨q, acc, g⟩, gq, hg, hg2, hS⟩
 simp only at gq hg hg2 hS
 simp [St.lp, St.only, zam, zaa, getK]
 have hm := zdH l q [108, 101, 116] gq hl.len
 have hAl := znt acc
 have hsn := zmc acc
 generalize hA : zgb acc = A at *
 have htk : A.take acc.length = A := List.take_of_length_le (by omega)
 obtain ⟨g, rfl⟩ : ∃ g', g = g' + 1 := ⟨g - 1, by omega⟩
 by_cases hb : isB l q [108, 101, 116] = true
 ·have g1q := zba hl hb
  obtain ⟨t, ht⟩ : ∃ t, l[q + 1]? = some t := ⟨_, List.getElem?_eq_getElem g1q⟩
  have hnx := zbM l (q + 1) t ht hl.len
  rw [zmb ht, if_pos hb] at hS
  rw [hS, PR.zd7] at hR
  rw [hb] at hm
  repeat' (first
  | ((first | refine zaf ?_ | refine zaj ?_ | refine zag ?_ | refine zai ?_ | refine zav ?_ | fail); simp [hne, del, hAl])
  | (refine zap ?_; simp only [zao])
  | (refine CallP.fE (hm) (by first | rfl | fail) (by first | simp [hne, del, hAl] <;> rfl | fail) ?_; (try simp [hne, del, hAl]))
  | fail)
  (refine CallP.pp (zg6 l q (decide ((acc.length : Int) < 20)) 6 3 _ (by first | omega | simp <;> omega | fail) gq hl) (by first | (simp [hi, hne, del, zaa, getK, zab, zac]; done) | fail) (by rfl) (by first | assumption | (simp; done) | fail) (by rfl) (by simp) (fun u20 q20 h20 => ?_) (fun pos e q' h20 => ⟨_, Wk.refl _, ?_⟩); rotate_left 1; (focus (rw [h20, PR.zaL] at hR; (refine hpan _ _ ⟨{ n := _, env := [], obs := [(3, pOb l q')], next := 4 }, (Wk.cut rfl (by simp [hn]) (by simp [wkO, zaa, getK, zab, zac, Ob.under, D.under, zad, zae, hi, hne, del, zab, zac, zaa, getK]) (by simp [wkU, zam, zaa, getK, D.under, hi, hne, del, zab, zac, zaa, getK]) (by simp [wkE, zam, zaa, getK, hi, hne, del, zab, zac, zaa, getK])), by simp [hn], ?_⟩; try simp); exact PPost.zay hR.symm)); rw [h20, PR.zaT] at hR; (try simp [hi, hne, del]))
  obtain ⟨rfl, hlt⟩ := znZ h20
  rw [h20, PR.zaT] at hS
  rw [PR.zd7] at hR
  by_cases hw : t.kind = 1
  case neg =>
   have hc2 := fun e nx' (h : 15 ≤ nx') => zcG l (q20 + 1) t e 3 nx' (by omega) ht hl.len
   have e3 : zmE l (q20 + 1) (decide (t.kind = 1) && zcy t.text) 12 = .stop t.pos 12 := by
    unfold zmE zcR; rw [ht]; simp [hw]
   rw [e3, PR.zaL] at hR
   repeat' (first
  | ((first | refine zaf ?_ | refine zaj ?_ | fail); simp [hne, del, hw])
  | (refine ⟨by omega, ?_⟩)
  | (refine zag ?_; simp [hne, del, hw])
  | (refine CallP.fE (hnx) (by first | rfl | fail) (by first | simp [hne, del, hw] <;> rfl | fail) ?_; (try simp [hne, del, hw]))
  | (refine CallP.zd8 (hc2 _ _ (by first | omega | simp <;> omega | fail)) (by first | (simp [hne, del, hw, zaa, getK, zab, zac]; done) | fail) (by rfl) (by first | assumption | (simp; done) | fail) (by rfl) (by simp) ?_; rintro ob' ⟨q', rfl⟩; refine ⟨_, Wk.refl _, ?_⟩)
  | fail)
   (refine hpan _ _ ⟨{ n := _, env := [], obs := [(3, pOb l q')], next := 4 }, (Wk.cut rfl (by simp [hn]) (by simp [wkO, zaa, getK, zab, zac, Ob.under, D.under, zad, zae, hi, hne, zab, zac, zaa, getK]) (by simp [wkU, zam, zaa, getK, D.under, hi, hne, zab, zac, zaa, getK]) (by simp [wkE, zam, zaa, getK, hi, hne, zab, zac, zaa, getK])), by simp [hn], ?_⟩; try simp)
   exact PPost.zay hR.symm
  have hnm := zeT t.text
  have e3 : (decide (t.kind = 1) && zcy t.text) = zcy t.text := by simp [hw]
  rw [e3] at hR hS
  generalize zcy t.text = nb at hnm hR hS
  repeat' (first
  | ((first | refine zaf ?_ | refine zaj ?_ | fail); simp [hne, del, hw])
  | (refine ⟨by omega, ?_⟩)
  | (refine zag ?_; simp [hne, del, hw])
  | (refine CallP.fE (hnx) (by first | rfl | fail) (by first | simp [hne, del, hw] <;> rfl | fail) ?_; (try simp [hne, del, hw]))
  | (refine CallP.fE (hnm) (by first | rfl | fail) (by first | simp [hne, del, hw] <;> rfl | fail) ?_; (try simp [hne, del, hw]))
  | fail)
  (refine CallP.pp (zg6 l (q20 + 1) nb 12 3 _ (by first | omega | simp <;> omega | fail) g1q hl) (by first | (simp [hi, hne, del, zaa, getK, zab, zac]; done) | fail) (by rfl) (by first | assumption | (simp; done) | fail) (by rfl) (by simp) (fun u21 q21 h21 => ?_) (fun pos e q' h21 => ⟨_, Wk.refl _, ?_⟩); rotate_left 1; (focus (rw [h21, PR.zaL] at hR; (refine hpan _ _ ⟨{ n := _, env := [], obs := [(3, pOb l q')], next := 4 }, (Wk.cut rfl (by simp [hn]) (by simp [wkO, zaa, getK, zab, zac, Ob.under, D.under, zad, zae, hi, hne, del, zab, zac, zaa, getK]) (by simp [wkU, zam, zaa, getK, D.under, hi, hne, del, zab, zac, zaa, getK]) (by simp [wkE, zam, zaa, getK, hi, hne, del, zab, zac, zaa, getK])), by simp [hn], ?_⟩; try simp); exact PPost.zay hR.symm)); rw [h21, PR.zaT] at hR; (try simp [hi, hne, del]))
  obtain ⟨rfl, hnb⟩ := znZ h21
  rw [h21, PR.zaT] at hS
  rw [PR.zd7] at hR
  have htw := zmN acc t.text
  have htw : Fun Tryz.prog 67 [.u (.sl (zgb acc)), .fnc (.func 82) [.u (.row [.str t.text] 0)]] (· = .u (.bool (acc.any fun x => decide (x.name = t.text)))) := htw
  rw [hA] at htw
  generalize (acc.any fun x => decide (x.name = t.text)) = tb at htw hR hS
  repeat' (first
  | ((first | refine zaf ?_ | refine zaj ?_ | refine zag ?_ | fail); simp [hne, del, hw, htk, hAl])
  | (refine CallP.fE (htw) (by first | rfl | fail) (by first | simp [hne, del, hw, htk, hAl] <;> rfl | fail) ?_; (try simp [hne, del, hw, htk, hAl]))
  | fail)
  (refine CallP.pp (zg6 l (q20 + 1) (!tb) 5 3 _ (by first | omega | simp <;> omega | fail) g1q hl) (by first | (simp [hi, hne, del, zaa, getK, zab, zac]; done) | fail) (by rfl) (by first | assumption | (simp; done) | fail) (by rfl) (by simp) (fun u22 q22 h22 => ?_) (fun pos e q' h22 => ⟨_, Wk.refl _, ?_⟩); rotate_left 1; (focus (rw [h22, PR.zaL] at hR; (refine hpan _ _ ⟨{ n := _, env := [], obs := [(3, pOb l q')], next := 4 }, (Wk.cut rfl (by simp [hn]) (by simp [wkO, zaa, getK, zab, zac, Ob.under, D.under, zad, zae, hi, hne, del, zab, zac, zaa, getK]) (by simp [wkU, zam, zaa, getK, D.under, hi, hne, del, zab, zac, zaa, getK]) (by simp [wkE, zam, zaa, getK, hi, hne, del, zab, zac, zaa, getK])), by simp [hn], ?_⟩; try simp); exact PPost.zay hR.symm)); rw [h22, PR.zaT] at hR; (try simp [hi, hne, del]))
  obtain ⟨rfl, htb⟩ := znZ h22
  rw [h22, PR.zaT] at hS
  rw [PR.zd7] at hR
  have g2q := hl.fin (q20 + 1) t ht (by omega)
  repeat' (first
  | ((first | refine zaf ?_ | refine zaj ?_ | fail); simp [hne, del])
  | (refine ⟨by omega, ?_⟩)
  | (refine zag ?_; simp [hne, del])
  | (refine zar (by first | rfl | fail) ?_; simp [hne, del, frzN, frz1, zaA, zaz, St.frz, St.frzS, frzS, fv, zaE, zaY, za1, zaD, zas, zal, del, frz, za2])
  | fail)
  (refine CallP.pp (zeu hl [61] (q := q20 + 1 + 1) (i := 3) (by first | omega | simp <;> omega | fail) g2q) (by first | (simp [hi, hne, del, zaa, getK, zab, zac]; done) | fail) (by rfl) (by first | assumption | (simp; done) | fail) (by rfl) (by simp) (fun u23 q23 h23 => ?_) (fun pos e q' h23 => ⟨_, Wk.refl _, ?_⟩); rotate_left 1; (focus (rw [h23, PR.zaL] at hR; (refine hpan _ _ ⟨{ n := _, env := [], obs := [(3, pOb l q')], next := 4 }, (Wk.cut rfl (by simp [hn]) (by simp [wkO, zaa, getK, zab, zac, Ob.under, D.under, zad, zae, hi, hne, del, zab, zac, zaa, getK]) (by simp [wkU, zam, zaa, getK, D.under, hi, hne, del, zab, zac, zaa, getK]) (by simp [wkE, zam, zaa, getK, hi, hne, del, zab, zac, zaa, getK])), by simp [hn], ?_⟩; try simp); exact PPost.zay hR.symm)); rw [h23, PR.zaT] at hR; (try simp [hi, hne, del]))
  obtain ⟨_, g23⟩ := zaS hl _ h23 g2q
  rw [h23, PR.zaT] at hS
  rw [PR.zd7] at hR
  have hwh := fun nx' (h : 15 ≤ nx') => zgt l q23 3 nx' (by omega) g23 hl hl2
  cases hr : zeq l q23 with
  | stop pos e =>
   rw [hr, PR.zaL] at hR
   simp only [hr] at hwh
   repeat' (first
  | (refine zfB (fun nx' h' => hwh nx' (by simp at h'; omega)) (by first | (simp [hne, del, htk, hAl, zaa, getK, zab, zac, zak, zaK]; done) | fail) (by rfl) (by first | assumption | simp) (by rfl) (by simp) ?_ ?_; rintro env' ob' n' hn' ⟨q', rfl⟩; refine ⟨_, Wk.refl _, ?_⟩)
  | (refine zeQ rfl (by simp) ?_; simp)
  | ((first | refine zaO rfl ?_ | refine zaj ?_ | fail); simp [hne, del, htk, hAl])
  | (refine zfC (hC _ (by kernel_rfl)) rfl; done)
  | (refine za0 rfl (by kernel_rfl) (by first | (simp [hn]; done) | (simp [hn]; omega) | fail) fun C k hC hk => ?_; simp [hne, del, htk, hAl])
  | fail)
   (refine hpan _ _ ⟨{ n := _, env := [], obs := [(3, pOb l q')], next := 4 }, (Wk.cut rfl (by simp [hn]) (by simp [wkO, zaa, getK, zab, zac, Ob.under, D.under, zad, zae, hi, hne, zab, zac, zaa, getK]) (by simp [wkU, zam, zaa, getK, D.under, hi, hne, zab, zac, zaa, getK]) (by simp [wkE, zam, zaa, getK, hi, hne, zab, zac, zaa, getK])), by simp [hn], ?_⟩; try simp)
   exact PPost.zay hR.symm
  | ok e r =>
   have hwh := fun nx' h => zcL (hwh nx' h) hr
   obtain ⟨_, g24⟩ := zgv hl hr g23
   rw [hr, PR.zaT] at hS
   repeat' (first
  | (refine zhb (fun nx' h' => hwh nx' (by simp at h'; omega)) (by first | (simp [hne, del, htk, hAl, zaa, getK, zab, zac, zak, zaK]; done) | fail) (by rfl) (by first | assumption | simp) (by rfl) (by simp [D.under, Ob.under]) (by simp) ?_; (try simp [hne, del, htk, hAl]))
  | ((first | refine zaO rfl ?_ | refine za3 rfl ?_ | refine zaj ?_ | fail); simp [hne, del, htk, hAl])
  | (refine ⟨by omega, ?_⟩)
  | (refine zaX (hC _ (by kernel_rfl)) (hk _ ?_); clear hC hk C k; simp only [zao])
  | (refine za0 rfl (by kernel_rfl) (by first | (simp [hn]; done) | (simp [hn]; omega) | fail) fun C k hC hk => ?_; simp [hne, del, htk, hAl])
  | fail)
   have hlt' : acc.length < 20 := by have := of_decide_eq_true hlt; omega
   refine LoopW.next ⟨(r, acc ++ [⟨t.text, e⟩], g), g24, (by simp; omega), (by simp; omega), hS⟩ (by simp) ?_
   exact (Wk.ren ((fun j => if j = 14 then 18 else j)) rfl (by first | (simp [hn]; done) | (intro i hi; rw [hn] at hi; constructor <;> (try simp) <;> (try (intro _)) <;> omega)) (by simp [zfZ, St.lp, zam, zaa, getK, zac, zak, D.under, D.le, D.ren, hsn, htk] <;> (try (intros; simp_all; done)) <;> (try omega)) (by simp [wkR, St.lp, zaa, getK, zac, zak, obR, leU, zbf, zaN, Ob.under, D.under, D.le, D.ren, hsn, htk] <;> (try (intros; simp_all; done)) <;> (try omega)) (by simp [hsn, htk]))
 ·rw [zns hb] at hS
  rw [hS, PR.zaT] at hR
  have hb2 : isB l q [108, 101, 116] = false := by simpa using hb
  rw [hb2] at hm
  repeat' (first
  | ((first | refine zaf ?_ | refine zaj ?_ | refine zag ?_ | refine zai ?_ | fail); simp [hne, del])
  | (refine zbb ?_; simp [zao])
  | (refine CallP.fE (hm) (by first | rfl | fail) (by first | simp [hne, del] <;> rfl | fail) ?_; (try simp [hne, del]))
  | (refine zar (by first | rfl | fail) ?_; simp [hne, del, frzN, frz1, zaA, zaz, St.frz, St.frzS, frzS, fv, zaE, zaY, za1, zaD, zas, zal, del, frz, za2])
  | fail)
  (refine CallP.pp (zeu hl [100, 117, 101] (q := q) (i := 3) (by first | omega | simp <;> omega | fail) gq) (by first | (simp [hi, hne, del, zaa, getK, zab, zac]; done) | fail) (by rfl) (by first | assumption | (simp; done) | fail) (by rfl) (by simp) (fun u30 q30 h30 => ?_) (fun pos e q' h30 => ⟨_, Wk.refl _, ?_⟩); rotate_left 1; (focus (rw [h30, PR.zaL] at hR; (refine hpan _ _ ⟨{ n := _, env := [], obs := [(3, pOb l q')], next := 4 }, (Wk.cut rfl (by simp [hn]) (by simp [wkO, zaa, getK, zab, zac, Ob.under, D.under, zad, zae, hi, hne, del, zab, zac, zaa, getK]) (by simp [wkU, zam, zaa, getK, D.under, hi, hne, del, zab, zac, zaa, getK]) (by simp [wkE, zam, zaa, getK, hi, hne, del, zab, zac, zaa, getK])), by simp [hn], ?_⟩; try simp); exact PPost.zay hR.symm)); rw [h30, PR.zaT] at hR; (try simp [hi, hne, del]))
  obtain ⟨_, g30⟩ := zaS hl _ h30 gq
  repeat' (first
  | ((first | refine zaf ?_ | refine zaj ?_ | refine zag ?_ | fail); simp [hne, del])
  | fail)
  (refine CallP.pp (zgt l q30 3 _ (by first | omega | simp <;> omega | fail) g30 hl hl2) (by first | (simp [hi, hne, del, zex, Exp.row_eq, zaa, getK, zab, zac]; done) | fail) (by rfl) (by first | assumption | (simp; done) | fail) (by rfl) (by simp) (fun due q31 h31 => ?_) (fun pos e q' h31 => ⟨_, Wk.refl _, ?_⟩); rotate_left 1; (focus (rw [h31, PR.zaL] at hR; (refine hpan _ _ ⟨{ n := _, env := [], obs := [(3, pOb l q')], next := 4 }, (Wk.cut rfl (by simp [hn]) (by simp [wkO, zaa, getK, zab, zac, Ob.under, D.under, zad, zae, hi, hne, del, zex, Exp.row_eq, zab, zac, zaa, getK]) (by simp [wkU, zam, zaa, getK, D.under, hi, hne, del, zex, Exp.row_eq, zab, zac, zaa, getK]) (by simp [wkE, zam, zaa, getK, hi, hne, del, zex, Exp.row_eq, zab, zac, zaa, getK])), by simp [hn], ?_⟩; try simp); exact PPost.zay hR.symm)); rw [h31, PR.zaT] at hR; (try simp [hi, hne, del, zex, Exp.row_eq]))
  obtain ⟨_, g31⟩ := zgv hl h31 g30
  repeat' (first
  | ((first | refine zaf ?_ | refine zaj ?_ | refine zag ?_ | fail); simp [hne, del])
  | fail)
  (refine CallP.pp (ze0 l q31 [102, 105, 110, 101] 3 _ (by first | omega | simp <;> omega | fail) g31 hl hl2) (by first | (simp [hi, hne, del, zex, Exp.row_eq, zaa, getK, zab, zac]; done) | fail) (by rfl) (by first | assumption | (simp; done) | fail) (by rfl) (by simp) (fun fine q32 h32 => ?_) (fun pos e q' h32 => ⟨_, Wk.refl _, ?_⟩); rotate_left 1; (focus (rw [h32, PR.zaL] at hR; (refine hpan _ _ ⟨{ n := _, env := [], obs := [(3, pOb l q')], next := 4 }, (Wk.cut rfl (by simp [hn]) (by simp [wkO, zaa, getK, zab, zac, Ob.under, D.under, zad, zae, hi, hne, del, zex, Exp.row_eq, zab, zac, zaa, getK]) (by simp [wkU, zam, zaa, getK, D.under, hi, hne, del, zex, Exp.row_eq, zab, zac, zaa, getK]) (by simp [wkE, zam, zaa, getK, hi, hne, del, zex, Exp.row_eq, zab, zac, zaa, getK])), by simp [hn], ?_⟩; try simp); exact PPost.zay hR.symm)); rw [h32, PR.zaT] at hR; (try simp [hi, hne, del, zex, Exp.row_eq]))
  obtain ⟨_, g32⟩ := ze1 hl h32 g31
  repeat' (first
  | (refine zaf ?_; simp [hne, del])
  | fail)
  (refine CallP.pp (ze0 l q32 [112, 97, 121] 3 _ (by first | omega | simp <;> omega | fail) g32 hl hl2) (by first | (simp [hi, hne, del, zex, Exp.row_eq, zaa, getK, zab, zac]; done) | fail) (by rfl) (by first | assumption | (simp; done) | fail) (by rfl) (by simp) (fun pay q33 h33 => ?_) (fun pos e q' h33 => ⟨_, Wk.refl _, ?_⟩); rotate_left 1; (focus (rw [h33, PR.zaL] at hR; (refine hpan _ _ ⟨{ n := _, env := [], obs := [(3, pOb l q')], next := 4 }, (Wk.cut rfl (by simp [hn]) (by simp [wkO, zaa, getK, zab, zac, Ob.under, D.under, zad, zae, hi, hne, del, zex, Exp.row_eq, zab, zac, zaa, getK]) (by simp [wkU, zam, zaa, getK, D.under, hi, hne, del, zex, Exp.row_eq, zab, zac, zaa, getK]) (by simp [wkE, zam, zaa, getK, hi, hne, del, zex, Exp.row_eq, zab, zac, zaa, getK])), by simp [hn], ?_⟩; try simp); exact PPost.zay hR.symm)); rw [h33, PR.zaT] at hR; (try simp [hi, hne, del, zex, Exp.row_eq]))
  obtain ⟨_, g33⟩ := ze1 hl h33 g32
  repeat' (first
  | (refine zaf ?_; simp [hne, del])
  | fail)
  (refine CallP.pp (ze0 l q33 [99, 111, 118, 101, 114] 3 _ (by first | omega | simp <;> omega | fail) g33 hl hl2) (by first | (simp [hi, hne, del, zex, Exp.row_eq, zaa, getK, zab, zac]; done) | fail) (by rfl) (by first | assumption | (simp; done) | fail) (by rfl) (by simp) (fun cover q34 h34 => ?_) (fun pos e q' h34 => ⟨_, Wk.refl _, ?_⟩); rotate_left 1; (focus (rw [h34, PR.zaL] at hR; (refine hpan _ _ ⟨{ n := _, env := [], obs := [(3, pOb l q')], next := 4 }, (Wk.cut rfl (by simp [hn]) (by simp [wkO, zaa, getK, zab, zac, Ob.under, D.under, zad, zae, hi, hne, del, zex, Exp.row_eq, zab, zac, zaa, getK]) (by simp [wkU, zam, zaa, getK, D.under, hi, hne, del, zex, Exp.row_eq, zab, zac, zaa, getK]) (by simp [wkE, zam, zaa, getK, hi, hne, del, zex, Exp.row_eq, zab, zac, zaa, getK])), by simp [hn], ?_⟩; try simp); exact PPost.zay hR.symm)); rw [h34, PR.zaT] at hR; (try simp [hi, hne, del, zex, Exp.row_eq]))
  obtain ⟨_, g34⟩ := ze1 hl h34 g33
  repeat' (first
  | (refine zaf ?_; simp [hne, del])
  | fail)
  (refine CallP.pp (ze0 l q34 [104, 111, 108, 100] 3 _ (by first | omega | simp <;> omega | fail) g34 hl hl2) (by first | (simp [hi, hne, del, zex, Exp.row_eq, zaa, getK, zab, zac]; done) | fail) (by rfl) (by first | assumption | (simp; done) | fail) (by rfl) (by simp) (fun hold q35 h35 => ?_) (fun pos e q' h35 => ⟨_, Wk.refl _, ?_⟩); rotate_left 1; (focus (rw [h35, PR.zaL] at hR; (refine hpan _ _ ⟨{ n := _, env := [], obs := [(3, pOb l q')], next := 4 }, (Wk.cut rfl (by simp [hn]) (by simp [wkO, zaa, getK, zab, zac, Ob.under, D.under, zad, zae, hi, hne, del, zex, Exp.row_eq, zab, zac, zaa, getK]) (by simp [wkU, zam, zaa, getK, D.under, hi, hne, del, zex, Exp.row_eq, zab, zac, zaa, getK]) (by simp [wkE, zam, zaa, getK, hi, hne, del, zex, Exp.row_eq, zab, zac, zaa, getK])), by simp [hn], ?_⟩; try simp); exact PPost.zay hR.symm)); rw [h35, PR.zaT] at hR; (try simp [hi, hne, del, zex, Exp.row_eq]))
  obtain ⟨_, g35⟩ := ze1 hl h35 g34
  obtain ⟨t, ht⟩ : ∃ t, l[q35]? = some t := ⟨_, List.getElem?_eq_getElem g35⟩
  have hnx := zbM l q35 t ht hl.len
  repeat' (first
  | ((first | refine zaf ?_ | refine zaj ?_ | refine zag ?_ | fail); simp [hne, del])
  | (refine CallP.fE (hnx) (by first | rfl | fail) (by first | simp [hne, del] <;> rfl | fail) ?_; (try simp [hne, del]))
  | fail)
  (refine CallP.pp (zpZ ht 3 _ (by first | omega | simp <;> omega | fail) hl) (by first | (simp [hi, hne, del, zaa, getK, zab, zac]; done) | fail) (by rfl) (by first | assumption | (simp; done) | fail) (by rfl) (by simp) (fun u36 q36 h36 => ?_) (fun pos e q' h36 => ⟨_, Wk.refl _, ?_⟩); rotate_left 1; (focus (rw [h36, PR.zaL] at hR; (refine hpan _ _ ⟨{ n := _, env := [], obs := [(3, pOb l q')], next := 4 }, (Wk.cut rfl (by simp [hn]) (by simp [wkO, zaa, getK, zab, zac, Ob.under, D.under, zad, zae, hi, hne, del, zab, zac, zaa, getK]) (by simp [wkU, zam, zaa, getK, D.under, hi, hne, del, zab, zac, zaa, getK]) (by simp [wkE, zam, zaa, getK, hi, hne, del, zab, zac, zaa, getK])), by simp [hn], ?_⟩; try simp); exact PPost.zay hR.symm)); rw [h36, PR.zaT] at hR; (try simp [hi, hne, del]))
  obtain rfl := zqF h36
  repeat' (first
  | ((first | refine zaf ?_ | refine zaj ?_ | refine zag ?_ | fail); simp [hne, del])
  | (refine zaq ?_; simp only [zao])
  | fail)
  (refine EndW.frzN 1 ?_; simp [frzN, frz1, zaA, zaz, St.frz, St.frzS, frzS, fv, zaE, zaY, za1, zaD, zas, zal, del, frz, za2, hAl, htk])
  refine EndW.norm ?_
  simp [St.norm, zbh, zbZ, zcj, zck, hne]
  (refine EndW.here ?_; (first | (refine EndOK.fin (.inr rfl) ?_) | (refine EndOK.fin (.inl rfl) ?_)); simp [zaJ, zah, Tryz.results37, hne, hi]; refine FinOK.cut [(3, pOb l q36)] (4) (by simp [zaa, getK, zab, zac, Ob.under, D.under, zad, zae, hne, hi] <;> omega) (by simp [D.under]) (by simp [hn]) ?_; try simp)
  exact PPost.zcf hR.symm (by simp [zbz, ← hA, zgb]) rfl
end Go.Proofs.YthnemhfamhnfjaaGreatDoor
namespace Go.Proofs.YthnemhfamhnfjaaGreatDoor
open Go Go.VL
/-- The words of tokens. -/
def zaZ (l : List Tok) : List W8 := (l.filter fun t => decide (t.kind ≠ 0)).map (·.text)
theorem zfF (a b : List Tok) : zaZ (a ++ b) = zaZ a ++ zaZ b := by simp [zaZ]
theorem zeR : zaZ [] = [] := rfl
theorem zdw (t : Tok) (l : List Tok) : zaZ (t :: l) = if t.kind ≠ 0 then t.text :: zaZ l else zaZ l := by
 unfold zaZ
 by_cases h : t.kind = 0
 ·rw [if_neg (by simpa using h), List.filter_cons_of_neg (by simpa using h)]
 ·rw [if_pos h, List.filter_cons_of_pos (by simpa using h), List.map_cons]
theorem zeb : ∀ l : List Tok, nOp (zaZ l) = l.countP zei
 | [] => rfl
 | t :: l => by
  rw [zdw, List.countP_cons, ← zeb l]
  by_cases h : t.kind = 0
  ·rw [if_neg (by simpa using h), if_neg (by simp [zei, h])]
   rfl
  ·rw [if_pos h, zdl]
   by_cases h2 : t.text = [40]
   ·rw [if_pos h2, if_pos (by simp [zei, h, h2])]
   ·rw [if_neg h2, if_neg (by simp [zei, h2])]
theorem zf0 : ∀ (ws : List W8) (ts : List Tok), ts.length = ws.length + 1 → Reads ts 0 ws → (∃ t, ts[ws.length]? = some t ∧ t.kind = 0) → zaZ ts = ws
 | [], ts, h1, _, h3 => by
  obtain ⟨t, h3, h4⟩ := h3
  match ts, h1, h3 with
  | [u], _, h3 =>
   simp only [List.length_nil, List.getElem?_cons_zero, Option.some.injEq] at h3
   subst h3
   rw [zdw, if_neg (by simpa using h4), zeR]
 | w :: ws, [], h1, _, _ => by simp at h1
 | w :: ws, u :: ts, h1, h2, h3 => by
  obtain ⟨hw, t, ht, e1, e2, _⟩ := h2.head
  simp only [List.getElem?_cons_zero, Option.some.injEq] at ht
  subst ht
  have hk : u.kind ≠ 0 := by rw [e2]; exact zlc hw
  have ht2 := h2.tail
  have htl : Reads ts 0 ws := fun i w' hi => by
   obtain ⟨g1, t', g2, g3⟩ := ht2 i w' hi
   refine ⟨g1, t', ?_, g3⟩
   have e : 0 + 1 + i = i + 1 := by omega
   rw [e, List.getElem?_cons_succ] at g2
   rw [Nat.zero_add]
   exact g2
  rw [zdw, if_pos hk, e1, zf0 ws ts (by simpa using h1) htl (by simpa using h3)]
/-- The tokens of a text of words. -/
theorem zlh {ws : List W8} (hg : AllGood ws) (hlen : (zbg ws).length ≤ 2000) : ∃ ts, zgS (zbg ws) = .ok ts ∧ zaZ ts = ws := by
 obtain ⟨ts, h1, h2, h3, h4⟩ := zl9 (zhq ws hg) hlen
 have hl : (spW ws).length = ws.length := by rw [← List.length_map (f := (·.1)), zki]
 rw [hl] at h2 h4
 rw [zki] at h3
 exact ⟨ts, h1, zf0 ws ts h2 h3 h4⟩
theorem zlX (l : List Tok) : zdx l 0 = nOp (zaZ l) := by rw [zeb]; rfl
/-- What is parsed of words has at most as many parentheses as these. -/
theorem zlT {ws : List W8} (hg : AllGood ws) {y : Exp} {p : Int} (h : zdY (zbg ws) = (y, p, 0)) : nOp (zbS y 0) ≤ nOp ws := by
 by_cases hlen : (zbg ws).length ≤ 2000
 ·obtain ⟨ts, h1, h2⟩ := zlh hg hlen
  unfold zdY at h
  rw [h1] at h
  simp only at h
  cases hx : zdI ts (4 * ts.length + 3) 0 0 with
  | stop pos e =>
   rw [hx] at h
   simp only [Prod.mk.injEq] at h
   rw [← h.1, zi1, zdN, zbj, zcT, if_pos rfl, zii (by decide) (by decide)]
   omega
  | ok e q =>
   rw [hx] at h
   simp only at h
   have hN : zqU ts := fun i t ht hk => zoG h1 i t ht hk
   have := (zgI hN (4 * ts.length + 3)).1 0 0 e q hx (by omega) (by omega)
   rw [zlX, h2] at this
   split at h
   ·simp at h
   ·split at h
    ·simp at h
    ·simp only [Prod.mk.injEq] at h
     rw [← h.1]
     omega
 ·unfold zdY zgS at h
  rw [if_pos (by omega)] at h
  simp at h
/-- Tokens without one opening parenthesis, and without another token behind it. -/
def zfP (l : List Tok) (i k : Nat) : List Tok := l.take i ++ (l.take k).drop (i + 1) ++ l.drop (k + 1)
theorem znV {l : List Tok} {i k : Nat} {t : Tok} (ht : l[i]? = some t) (ho : zei t = true) (hik : i < k) (hk : k < l.length) : nOp (zaZ (zfP l i k)) + 1 ≤ nOp (zaZ l) := by
 rw [zeb, zeb, zfP, List.countP_append, List.countP_append]
 have e1 : l = l.take i ++ t :: ((l.take k).drop (i + 1) ++ l.drop k) := by
  have h1 : l.take k = l.take i ++ t :: (l.take k).drop (i + 1) := by
   have h2 : (l.take k)[i]? = some t := by rw [List.getElem?_take, if_pos hik, ht]
   obtain ⟨hp, hx⟩ := lGE.1 h2
   have h3 := (List.take_append_drop i (l.take k)).symm
   rw [List.drop_eq_getElem_cons hp, hx, List.take_take, Nat.min_eq_left (by omega)] at h3
   exact h3
  have h4 := (List.take_append_drop k l).symm
  rw [h1] at h4
  simpa using h4
 have e2 : (l.drop (k + 1)).countP zei ≤ (l.drop k).countP zei := by
  rw [List.drop_eq_getElem_cons hk, List.countP_cons]; omega
 have e3 : l.countP zei = (l.take i).countP zei + (((l.take k).drop (i + 1)).countP zei + (l.drop k).countP zei + 1) := by
  have := congrArg (List.countP zei) e1
  rw [List.countP_append, List.countP_cons, List.countP_append, if_pos ho] at this
  exact this
 omega
theorem znW {l : List Tok} (h : AllGood (zaZ l)) (i k : Nat) : AllGood (zaZ (zfP l i k)) := by
 have hs : ∀ m : List Tok, (∀ t ∈ m, t ∈ l) → AllGood (zaZ m) := fun m hm w hw => by
  unfold zaZ at hw
  obtain ⟨t, ht, rfl⟩ := List.mem_map.1 hw
  rw [List.mem_filter] at ht
  refine h _ ?_
  unfold zaZ
  exact List.mem_map.2 ⟨t, List.mem_filter.2 ⟨hm t ht.1, ht.2⟩, rfl⟩
 rw [zfP, zfF, zfF]
 exact ((hs _ fun t ht => List.mem_of_mem_take ht).app (hs _ fun t ht => List.mem_of_mem_take (List.mem_of_mem_drop ht))).app (hs _ fun t ht => List.mem_of_mem_drop ht)
/-- Without a pair of parentheses the text does not say the same. -/
theorem znT {e : Exp} {l : List Tok} (hl : zaZ l = zbS e 0) (hg : AllGood (zbS e 0)) {i k : Nat} {t : Tok} (ht : l[i]? = some t) (ho : zei t = true) (hik : i < k) (hk : k < l.length) {y : Exp} {p : Int}
  (h : zdY (zbg (zaZ (zfP l i k))) = (y, p, 0)) : y ≠ e := fun he => by
 subst he
 have h1 := zlT (znW (by rw [hl]; exact hg) i k) h
 have h2 := znV ht ho hik hk
 rw [hl] at h2
 omega
end Go.Proofs.YthnemhfamhnfjaaGreatDoor
namespace Go.Proofs.YthnemhfamhnfjaaGreatDoor
open Go Go.VL
theorem zeG : ∀ ws : List W8, (zbg ws).length ≤ (ws.map fun w => w.length + 1).sum
 | [] => by simp [zbg, spW, zdf]
 | [w] => by rw [zbi]; simp
 | w :: v :: l => by rw [zbe]; have := zeG (v :: l); simp at this ⊢; omega
theorem zc6 {w : W8} {n : Int} {ws : List W8} (h0 : 0 ≤ n) (h1 : n ≤ 1099511627776) (h : w.length + (ws.map fun w => w.length + 1).sum ≤ 80) : (zb6 w n ws).length ≤ 100 := by
 rw [zb6]
 split
 ·simp
 ·have h2 := zin h0 h1
  have h3 := zeG (w :: Lib.itoa n :: ws)
  rw [zb0]
  simp at h3 ⊢
  omega
theorem zdy {w : W8} {e : Exp} (hw : w.length ≤ 20) (h : zaH 12 e = true) : (clauseT w e).length ≤ 60000000 := by
 rw [clauseT]
 split
 ·simp
 ·have := zcr h (Nat.le_refl _) 0
  rw [zjC]
  omega
def zkF (b : By) : W8 := zb0 (if b.sld = true then [[99, 105, 114, 99, 108, 101], [98, 105, 100, 100, 105, 110, 103], [115, 101, 97, 108, 101, 100]] else [[99, 105, 114, 99, 108, 101], if b.kind = 0 then [114, 111, 116, 97, 116, 105, 110, 103] else if b.kind = 1 then [98, 105, 100, 100, 105, 110, 103] else [115, 97, 118, 105, 110, 103]])
def zjq (o : Int) : W8 := if o = 0 then [] else zb0 [[111, 114, 100, 101, 114], ordersW.getD o.toNat []]
def zpN (l : Let) : W8 := zb0 [[108, 101, 116], l.name, [61], txt l.body 0]
def zga (L : List Let) : W8 := (L.map zpN).flatten
/-- The text of bylaws, as Print writes it. -/
noncomputable def textP (b : By) : W8 := zkF b ++ zb6 [112, 101, 114, 105, 111, 100] b.period [[100, 97, 121, 115]] ++ zb6 [108, 97, 115, 116] b.last [] ++ zb6 [103, 114, 97, 99, 101] b.grace [[100, 97, 121, 115]] ++ zb6 [119, 97, 105, 116] b.wait [[100, 97, 121, 115]] ++ zjq b.order ++
 zb6 [98, 97, 99, 107, 115] b.backs [] ++ zb6 [118, 111, 105, 99, 101, 115] b.voices [[112, 101, 114], [109, 105, 108, 108, 101]] ++ zb6 [106, 117, 114, 121] b.jury [] ++ zb6 [102, 117, 110, 100] b.fund [[112, 101, 114], [109, 105, 108, 108, 101]] ++ zga b.lets ++
 clauseT [100, 117, 101] b.due ++ clauseT [102, 105, 110, 101] b.fine ++ clauseT [112, 97, 121] b.pay ++ clauseT [99, 111, 118, 101, 114] b.cover ++ clauseT [104, 111, 108, 100] b.hold
/-- What Print returns. -/
noncomputable def printB (b : By) : W8 × Int := if zey b = true then (if 2000 < (textP b).length then ([], 6) else (textP b, 0)) else ([], 1)
theorem zjE : ∀ (seen L : List Let), zhg seen L = true → ∀ l ∈ L, zcy l.name = true ∧ zaH 12 l.body = true
 | _, [], _, l, hl => by cases hl
 | seen, x :: r, h, l, hl => by
  rw [zhg] at h
  simp only [Bool.and_eq_true] at h
  rcases List.mem_cons.1 hl with rfl | hl
  ·exact ⟨h.1.1.1, h.1.1.2⟩
  ·exact zjE _ r h.2 l hl
theorem zla {l : Let} (hn : zcy l.name = true) (h : zaH 12 l.body = true) : (zpN l).length ≤ 60000000 := by
 have h1 := zeG [[108, 101, 116], l.name, [61], txt l.body 0]
 have h2 := zcr h (Nat.le_refl _) 0
 have h3 := zih hn
 rw [zpN, zb0]
 simp at h1 ⊢
 omega
theorem zjD : ∀ (L : List Let), (∀ l ∈ L, zcy l.name = true ∧ zaH 12 l.body = true) → (zga L).length ≤ L.length * 60000000
 | [], _ => by simp [zga]
 | l :: r, h => by
  have h1 := zjD r fun x hx => h x (by simp [hx])
  have h2 := zla (h l (by simp)).1 (h l (by simp)).2
  simp only [zga, List.map_cons, List.flatten_cons, List.length_append, List.length_cons] at h1 ⊢
  omega
theorem zma {L : List Let} {i : Nat} {l : Let} (h : L[i]? = some l) : zga (L.take (i + 1)) = zga (L.take i) ++ zpN l := by
 obtain ⟨hi, rfl⟩ := lGE.1 h
 rw [List.take_succ_eq_append_getElem hi, zga, List.map_append, List.flatten_append]
 simp [zga]
theorem zkw {P : Program} {f : FuncId} {a c e : D} {obs nx post} (h : RetX P f [a, c, .u (.sl []), e] obs nx post) : RetX P f [a, c, .u .nil, e] obs nx post := by
 intro k own w vs hsat hhdr hown hrep
 refine h k own w vs hsat hhdr hown ⟨hrep.1, fun j d hj => ?_⟩
 match j, hj with
 | 0, hj => exact hrep.2 0 d hj
 | 1, hj => exact hrep.2 1 d hj
 | 2, hj =>
  cases hj
  have := zcQ (hrep.2 2 (.u .nil) rfl)
  rw [this]
  exact .u _ _ (.slE none 0 fun _ => rfl)
 | 3, hj => exact hrep.2 3 d hj
end Go.Proofs.YthnemhfamhnfjaaGreatDoor
namespace Go.Proofs.YthnemhfamhnfjaaGreatDoor
open Go Go.VL
def ze4 : By := ⟨0, 0, 0, 0, 0, 0, false, 0, 0, 0, 0, [], zdN, zdN, zdN, zdN, zdN⟩
/-- What Parse returns: the bylaws, the place, the error. -/
def zgG (s : W8) : By × Int × Int := match zgS s with
 | .error (p, e) => (ze4, p, e)
 | .ok l => match zp3 l with
  | .stop pos e => (ze4, pos, e)
  | .ok b _ => (b, 0, 0)
def zqJ (r : By × Int × Int) : D := .tup [.u (.agg (zbz r.1)), .u (.int .i64 r.2.1), .u (.int .i64 r.2.2)]
abbrev zo3 : Ob := .box [.u (.int .i64 0), .u (.int .i64 0), .u (.int .i64 0), .u (.int .i64 0), .u (.int .i64 0), .u (.int .i64 0), .u (.bool false), .u (.int .i64 0), .u (.int .i64 0), .u (.int .i64 0), .u (.int .i64 0), .u .nil, .u (.int .i64 0), .u (.int .i64 0), .u (.int .i64 0), .u (.str []), .u .nil, .u (.int .i64 0), .u (.int .i64 0), .u (.int .i64 0), .u (.str []), .u .nil, .u (.int .i64 0), .u (.int .i64 0), .u (.int .i64 0), .u (.str []), .u .nil, .u (.int .i64 0), .u (.int .i64 0), .u (.int .i64 0), .u (.str []), .u .nil, .u (.int .i64 0), .u (.int .i64 0), .u (.int .i64 0), .u (.str []), .u .nil]
end Go.Proofs.YthnemhfamhnfjaaGreatDoor
namespace Go.Proofs.YthnemhfamhnfjaaGreatDoor
open Go Go.VL
mutual
def zqB : Exp → Int
 | .mk _ _ _ _ args => znq args + 1
def znq : List Exp → Int
 | [] => 0
 | e :: l => max (zqB e) (znq l)
end
theorem zhk (l : List Int) (a : Int) (ha : 0 ≤ a) : l.foldl max a = max a (l.foldl max 0) := by
 induction l generalizing a with
 | nil => simp; omega
 | cons b l ih => simp only [List.foldl_cons]; rw [ih (max a b) (by omega), ih (max 0 b) (by omega)]; omega
mutual
theorem zkE : ∀ e : Exp, zqB e = e.lev
 | .mk op n u s args => by rw [zqB, Exp.zhd, zk8]; rfl
theorem zk8 : ∀ l : List Exp, znq l = (l.map Exp.lev).foldl max 0
 | [] => by rw [znq]; rfl
 | e :: l => by
  have := e.lev_pos
  rw [znq, zkE, zk8, List.map_cons, List.foldl_cons, zhk (l.map Exp.lev) (max 0 e.lev) (by omega)]
  omega
end
/-- The same az zdY, to be computed with. -/
def zjm (s : List UInt8) : Exp × Int × Int := match zgS s with
 | .error (p, e) => (zdN, p, e)
 | .ok l => match zdI l (4 * l.length + 3) 0 0 with
  | .stop pos e => (zdN, pos, e)
  | .ok y q => if zld l q ≠ 0 then (zdN, zcR l q, 12) else if 12 < zqB y then (zdN, zcR l q, 6) else (y, 0, 0)
theorem zm3 (s : List UInt8) : zdY s = zjm s := by
 unfold zdY zjm
 simp only [zkE]
 try rfl
def ziS (l : List Tok) (p : Nat) : PR Exp := (zdI l (4 * l.length + 3) p 0).bind fun e q =>
 if isB l q [59] = true then if zqB e ≤ 12 then .ok e (q + 1) else .stop (zcR l q) 6 else .stop (zcR l q) 12
def zoH (l : List Tok) : Nat → Nat → List Let → PR (List Let)
 | 0, _, _ => .stop 0 0
 | f + 1, p, acc => if isB l p [108, 101, 116] = true then
   if acc.length < 20 then match l[p + 1]? with
    | none => .stop 0 0
    | some t => if t.kind = 1 ∧ zcy t.text = true then
          if (acc.any fun x => decide (x.name = t.text)) = true then .stop t.pos 5
          else (zbs l (p + 2) [[61]]).bind fun _ q => (ziS l q).bind fun e r => zoH l f r (acc ++ [⟨t.text, e⟩])
     else .stop t.pos 12
   else .stop (zcR l p) 6
  else .ok acc p
def zfQ (l : List Tok) (p : Nat) (word : W8) : PR Exp := if isB l p word = true then ziS l (p + 1) else .ok nothingE p
def zrv (l : List Tok) : PR By :=
 (zkG l 0).bind fun k p => (zky l p [112, 101, 114, 105, 111, 100]).bind fun _ p => (zdX l p [112, 101, 114, 105, 111, 100] 1 1000 [[100, 97, 121, 115], [59]]).bind fun period p =>
 (zky l p [108, 97, 115, 116]).bind fun _ p => (zdX l p [108, 97, 115, 116] 1 1000 [[59]]).bind fun last p =>
 (zdX l p [103, 114, 97, 99, 101] 0 1000 [[100, 97, 121, 115], [59]]).bind fun grace p => (zdX l p [119, 97, 105, 116] 0 1000 [[100, 97, 121, 115], [59]]).bind fun wait p =>
 (zgH l p).bind fun order p => (zdX l p [98, 97, 99, 107, 115] 0 60 [[59]]).bind fun backs p => (zdX l p [118, 111, 105, 99, 101, 115] 0 1000 [[112, 101, 114], [109, 105, 108, 108, 101], [59]]).bind fun voices p =>
 (zdX l p [106, 117, 114, 121] 0 60 [[59]]).bind fun jury p => (zdX l p [102, 117, 110, 100] 0 1000 [[112, 101, 114], [109, 105, 108, 108, 101], [59]]).bind fun fund p =>
 (zoH l 21 p []).bind fun lets p => (zbs l p [[100, 117, 101]]).bind fun _ p => (ziS l p).bind fun due p =>
 (zfQ l p [102, 105, 110, 101]).bind fun fine p => (zfQ l p [112, 97, 121]).bind fun pay p => (zfQ l p [99, 111, 118, 101, 114]).bind fun cover p => (zfQ l p [104, 111, 108, 100]).bind fun hold p =>
 (zp0 l p).bind fun _ p => .ok ⟨k.1, period, grace, wait, last, order, k.2, backs, voices, jury, fund, lets, due, fine, pay, cover, hold⟩ p
theorem zgu : zeq = ziS := by
 funext l p
 unfold zeq ziS
 simp only [zkE]
theorem zk9 (l : List Tok) : ∀ f p acc, zgU l f p acc = zoH l f p acc
 | 0, p, acc => rfl
 | f + 1, p, acc => by
  rw [zgU, zoH, zgu]
  simp only [zk9 l f]
  try rfl
theorem zmv : zdT = zfQ := by
 funext l p w
 unfold zdT zfQ
 rw [zgu]
theorem zp2 (l : List Tok) : zp3 l = zrv l := by
 unfold zp3 zrv
 rw [zgu, zmv]
 simp only [zk9]
def zhv (s : W8) : By × Int × Int := match zgS s with
 | .error (p, e) => (ze4, p, e)
 | .ok l => match zrv l with
  | .stop pos e => (ze4, pos, e)
  | .ok b _ => (b, 0, 0)
theorem zm4 (s : W8) : zgG s = zhv s := by
 unfold zgG zhv
 simp only [zp2]
 try rfl
end Go.Proofs.YthnemhfamhnfjaaGreatDoor
namespace Go.Proofs.YthnemhfamhnfjaaGreatDoor
open Go Go.VL
def eA : Exp := .mk 3 0 0 [] [.mk 1 0 0 [112, 111, 116] [], .mk 4 0 0 [] [.mk 1 0 0 [112, 97, 105, 100] [], .mk 0 50 4 [] []]]
def eS : Exp := .mk 2 0 0 [] [.mk 0 5 3 [] [], .mk 1 0 0 [112, 111, 116] []]
def eM : Exp := .mk 4 0 0 [] [.mk 0 3 1 [] [], eS]
def bB : By := ⟨2, 7, 0, 0, 10, 0, false, 0, 0, 0, 0, [], .mk 0 100 3 [] [], nothingE, nothingE, nothingE, nothingE⟩
theorem pv1 : zjm [112, 111, 116, 45, 112, 97, 105, 100, 42, 53, 48, 32, 112, 101, 114, 32, 109, 105, 108, 108, 101] = (eA, 0, 0) := by kernel_rfl
theorem pv2 : (zjm [49, 32, 99, 111, 105, 110, 115, 32, 50]) = (zdN, 8, 12) := by kernel_rfl
theorem pv3 : zhv [99, 105, 114, 99, 108, 101, 32, 115, 97, 118, 105, 110, 103, 59, 112, 101, 114, 105, 111, 100, 32, 55, 32, 100, 97, 121, 115, 59, 108, 97, 115, 116, 32, 49, 48, 59, 103, 114, 97, 99, 101, 32, 48, 32, 100, 97, 121, 115, 59, 100, 117, 101, 32, 49, 48, 48, 32, 99, 111, 105, 110, 115, 59] = (bB, 0, 0) := by kernel_rfl
theorem pv4 : zhv [99, 105, 114, 99, 108, 101, 32, 115, 97, 118, 105, 110, 103, 59, 112, 101, 114, 105, 111, 100, 32, 48, 32, 100, 97, 121, 115, 59] = (ze4, 21, 3) := by kernel_rfl
theorem pv5 : zhv [99, 105, 114, 99, 108, 101, 32, 115, 101, 97, 108, 101, 100, 59] = (ze4, 7, 12) := by kernel_rfl
theorem zqr (n : Nat) (h : n < 10) : Lib.decDigits n = [UInt8.ofNat (48 + n)] := by rw [Lib.decDigits, dif_pos h]
theorem zq3 (n : Nat) (h : ¬ n < 10) : Lib.decDigits n = Lib.decDigits (n / 10) ++ [UInt8.ofNat (48 + n % 10)] := by rw [Lib.decDigits, dif_neg h]
theorem it3 : Lib.itoa 3 = [51] := by rw [Lib.itoa, if_neg (by decide)]; show Lib.decDigits 3 = _; rw [zqr 3 (by decide)]; rfl
theorem it5 : Lib.itoa 5 = [53] := by rw [Lib.itoa, if_neg (by decide)]; show Lib.decDigits 5 = _; rw [zqr 5 (by decide)]; rfl
theorem it7 : Lib.itoa 7 = [55] := by rw [Lib.itoa, if_neg (by decide)]; show Lib.decDigits 7 = _; rw [zqr 7 (by decide)]; rfl
theorem zso : Lib.itoa 10 = [49, 48] := by rw [Lib.itoa, if_neg (by decide)]; show Lib.decDigits 10 = _; rw [zq3 10 (by decide), zqr (10 / 10) (by decide)]; rfl
theorem zsn : Lib.itoa 50 = [53, 48] := by rw [Lib.itoa, if_neg (by decide)]; show Lib.decDigits 50 = _; rw [zq3 50 (by decide), zqr (50 / 10) (by decide)]; rfl
theorem zra : Lib.itoa 100 = [49, 48, 48] := by rw [Lib.itoa, if_neg (by decide)]; show Lib.decDigits 100 = _; rw [zq3 100 (by decide), zq3 (100 / 10) (by decide), zqr (100 / 10 / 10) (by decide)]; rfl
theorem zhZ (s : W8) {least : Int} (h : least ≤ 7) : txt (.mk 1 0 0 s []) least = s := by
 rw [zcX (by show ¬ (7 : Int) < least; omega), zbj, zcT, if_neg (by decide), if_pos rfl, zbi]
theorem zhY (n u : Int) {least : Int} (h : least ≤ 7) : txt (.mk 0 n u [] []) least = zbg (zeC n u) := by
 rw [zcX (by show ¬ (7 : Int) < least; omega), zbj, zcT, if_pos rfl]
theorem tA : txt eA 0 = [112, 111, 116, 32, 45, 32, 112, 97, 105, 100, 32, 42, 32, 53, 48, 32, 112, 101, 114, 32, 109, 105, 108, 108, 101] := by
 have h1 := zeW (d := 11) (a := .mk 1 0 0 [112, 97, 105, 100] []) (b := .mk 0 50 4 [] []) (o := ⟨[42], 4, 6⟩) (by simp [oprs]) (by kernel_rfl) (by kernel_rfl)
 have h2 := zeW (d := 11) (a := .mk 1 0 0 [112, 111, 116] []) (b := .mk 4 0 0 [] [.mk 1 0 0 [112, 97, 105, 100] [], .mk 0 50 4 [] []]) (o := ⟨[45], 3, 5⟩) (by simp [oprs]) (by kernel_rfl) (by kernel_rfl)
 have e : txt eA 0 = zbg (zbj eA) := zcX (by show ¬ (5 : Int) < 0; decide)
 rw [e]
 refine Eq.trans h2 ?_
 rw [zhZ _ (by decide)]
 have e2 : txt (.mk 4 0 0 [] [.mk 1 0 0 [112, 97, 105, 100] [], .mk 0 50 4 [] []]) (5 + 1) = zbg (zbj (.mk 4 0 0 [] [.mk 1 0 0 [112, 97, 105, 100] [], .mk 0 50 4 [] []])) := zcX (by show ¬ (6 : Int) < 5 + 1; decide)
 rw [e2]
 have e3 : zbg (zbj (.mk 4 0 0 [] [.mk 1 0 0 [112, 97, 105, 100] [], .mk 0 50 4 [] []])) = _ := h1
 rw [e3, zhZ _ (by decide), zhY _ _ (by decide), zeC, if_neg (by decide), if_neg (by decide), if_neg (by decide), if_pos (by decide), zsn]
 rfl
theorem tM : txt eM 0 = [51, 32, 42, 32, 40, 32, 53, 32, 99, 111, 105, 110, 115, 32, 43, 32, 112, 111, 116, 32, 41] := by
 have h1 := zeW (d := 11) (a := .mk 0 5 3 [] []) (b := .mk 1 0 0 [112, 111, 116] []) (o := ⟨[43], 2, 5⟩) (by simp [oprs]) (by kernel_rfl) (by kernel_rfl)
 have h2 := zeW (d := 11) (a := .mk 0 3 1 [] []) (b := eS) (o := ⟨[42], 4, 6⟩) (by simp [oprs]) (by kernel_rfl) (by kernel_rfl)
 have e : txt eM 0 = zbg (zbj eM) := zcX (by show ¬ (6 : Int) < 0; decide)
 rw [e]
 refine Eq.trans h2 ?_
 have e2 : txt eS (6 + 1) = [40, 32] ++ zbg (zbj eS) ++ [32, 41] := zgj (d := 11) (by kernel_rfl) (by show (5 : Int) < 6 + 1; decide)
 have e3 : zbg (zbj eS) = _ := h1
 rw [e2, e3, zhY _ _ (by decide), zhY _ _ (by decide), zhZ _ (by decide), zeC, if_neg (by decide), if_neg (by decide), if_neg (by decide), if_neg (by decide), zeC, if_neg (by decide), if_pos (by decide), it3, it5]
 rfl
theorem zsh : txt (.mk 0 100 3 [] []) 0 = [49, 48, 48, 32, 99, 111, 105, 110, 115] := by
 rw [zhY _ _ (by decide), zeC, if_neg (by decide), if_pos (by decide), zra]
 rfl
theorem tB : textP bB = [99, 105, 114, 99, 108, 101, 32, 115, 97, 118, 105, 110, 103, 32, 59] ++ [10] ++ [112, 101, 114, 105, 111, 100, 32, 55, 32, 100, 97, 121, 115, 32, 59] ++ [10] ++ [108, 97, 115, 116, 32, 49, 48, 32, 59] ++ [10] ++ [100, 117, 101, 32, 49, 48, 48, 32, 99, 111, 105, 110, 115, 32, 59] ++ [10] := by
 have hk : zkF bB = [99, 105, 114, 99, 108, 101, 32, 115, 97, 118, 105, 110, 103, 32, 59] ++ [10] := by kernel_rfl
 have hd : clauseT [100, 117, 101] bB.due = [100, 117, 101, 32, 49, 48, 48, 32, 99, 111, 105, 110, 115, 32, 59] ++ [10] := by
  rw [clauseT, if_neg (by simp)]
  show zb0 [_, txt (.mk 0 100 3 [] []) 0] = _
  rw [zsh]; kernel_rfl
 have hn : ∀ w : W8, w ≠ [100, 117, 101] → clauseT w nothingE = [] := fun w hw => by rw [clauseT, if_pos ⟨zg4 _, hw⟩]
 have h7 : zb6 [112, 101, 114, 105, 111, 100] bB.period [[100, 97, 121, 115]] = [112, 101, 114, 105, 111, 100, 32, 55, 32, 100, 97, 121, 115, 32, 59] ++ [10] := by
  rw [zb6, if_neg (by decide)]; show zb0 [_, Lib.itoa 7, _] = _; rw [it7]; kernel_rfl
 have h10 : zb6 [108, 97, 115, 116] bB.last [] = [108, 97, 115, 116, 32, 49, 48, 32, 59] ++ [10] := by
  rw [zb6, if_neg (by decide)]; show zb0 [_, Lib.itoa 10] = _; rw [zso]; kernel_rfl
 have h0 : ∀ w ws, zb6 w 0 ws = [] := fun w ws => by rw [zb6, if_pos rfl]
 rw [textP, hk, h7, h10, hd]
 rw [show bB.grace = 0 from rfl, show bB.wait = 0 from rfl, show bB.order = 0 from rfl, show bB.backs = 0 from rfl, show bB.voices = 0 from rfl, show bB.jury = 0 from rfl, show bB.fund = 0 from rfl, show bB.lets = [] from rfl, show bB.fine = nothingE from rfl, show bB.pay = nothingE from rfl, show bB.cover = nothingE from rfl, show bB.hold = nothingE from rfl]
 rw [h0, h0, h0, h0, h0, h0, hn _ (by decide), hn _ (by decide), hn _ (by decide), hn _ (by decide), show zjq 0 = [] from rfl, show zga [] = [] from rfl]
 simp
end Go.Proofs.YthnemhfamhnfjaaGreatDoor
namespace Go.Proofs.YthnemhfamhnfjaaGreatDoor
open Go Go.VL
/-- A value whose slices of nothing are all told as empty ze5. -/
def zeM : Nat → U → U
 | 0, x => x
 | _ + 1, .nil => .sl []
 | n + 1, .sl rows => .sl (rows.map fun r => r.map (zeM n))
 | n + 1, .agg cs => .agg (cs.map (zeM n))
 | _ + 1, x => x
theorem ziv {m : Mem} : ∀ (n : Nat) {x : U} {v : Value}, RepU m x v → RepU m (zeM n x) v
 | 0, x, v, h => by rw [zeM]; exact h
 | n + 1, x, v, h => by
  cases h with
  | map kk ag es0 es hp b ents clock f h1 h2 h3 h4 => exact .map kk ag es0 es hp b ents clock f h1 h2 h3 h4
  | nil => rw [zeM]; exact .slE none 0 fun _ => rfl
  | int k n => exact .int k n
  | bool b => exact .bool b
  | str l => exact .str l
  | oth v => cases x' : U.oth v <;> first | (cases x'; rw [zeM] <;> first | exact .oth _ | (intros; contradiction)) | cases x'
  | slE a c h => rw [zeM]; exact .slE a c h
  | row cells off b o f h1 h2 => exact .row cells off b o f h1 h2
  | sl rows b o sz c f h1 h2 h3 h4 h5 =>
   rw [zeM]
   have := RepU.sl (m := m) (rows.map fun r => r.map (zeM n)) b o sz c f (by simpa using h1) h2 (fun r hr => by
    obtain ⟨r0, hr0, rfl⟩ := List.mem_map.1 hr
    simpa using h3 r0 hr0) (fun i hi => h4 i (by simpa using hi)) (fun i r hi j u hj => by
    rw [List.getElem?_map] at hi
    cases hc : rows[i]? with
    | none => rw [hc] at hi; cases hi
    | some r0 =>
     rw [hc] at hi; cases hi
     rw [List.getElem?_map] at hj
     cases hd : r0[j]? with
     | none => rw [hd] at hj; cases hj
     | some u0 => rw [hd] at hj; cases hj; exact ziv n (h5 i r0 hc j u0 hd))
   simpa using this
  | agg cells vs h1 h2 =>
   rw [zeM]
   refine .agg _ vs (by simpa using h1) fun j u hj => ?_
   rw [List.getElem?_map] at hj
   cases hc : cells[j]? with
   | none => rw [hc] at hj; cases hj
   | some e => rw [hc] at hj; cases hj; exact ziv n (h2 j e hc)
theorem Fun.zqX {P : Program} {f : FuncId} {us : List U} {post : D → Prop} (n : Nat) (h : Fun P f (us.map fun u => .u (zeM n u)) post) : Fun P f (us.map .u) post := by
 intro k own w vs hsat hhdr hown hrep
 refine h k own w vs hsat hhdr hown ⟨by simpa using hrep.1, fun j d hj => ?_⟩
 rw [List.getElem?_map] at hj
 cases hc : us[j]? with
 | none => rw [hc] at hj; cases hj
 | some u =>
  rw [hc] at hj; cases hj
  have h1 := hrep.2 j (.u u) (by rw [List.getElem?_map, hc]; rfl)
  generalize vs.getD j undef = v at h1
  cases h1 with
  | u _ _ h1 => exact .u _ _ (ziv n h1)
theorem rA : zaH 12 eA = true := by kernel_rfl
theorem rM : zaH 12 eM = true := by kernel_rfl
theorem rS : zaH 12 eS = true := by kernel_rfl
theorem rZ : zaH 12 (.mk 1 0 0 [] []) = false := by kernel_rfl
theorem rB : zey bB = true := by kernel_rfl
theorem rz : zey ze4 = false := by kernel_rfl
theorem nP : zcy [112, 101, 114, 105, 111, 100] = true := by kernel_rfl
theorem nC : zcy [99, 111, 105, 110, 115] = false := by kernel_rfl
end Go.Proofs.YthnemhfamhnfjaaGreatDoor
namespace Go.Proofs.YthnemhfamhnfjaaGreatDoor
open Go Go.VL
/-- The cells of a token. -/
abbrev zke (t : Tok) : List U := [.int .i64 t.kind, .str t.text, .int .i64 t.n, .int .i64 t.pos]
theorem znU (l : List Tok) (i k : Nat) : (l.map zke).take i ++ (((l.map zke).take k).drop (i + 1) ++ (l.map zke).drop (k + 1)) = (zfP l i k).map zke := by
 unfold zfP
 rw [List.map_append, List.map_append, List.append_assoc, List.map_take, List.map_drop, List.map_take, List.map_drop]
end Go.Proofs.YthnemhfamhnfjaaGreatDoor
namespace Go.Proofs.YthnemhfamhnfjaaGreatDoor
open Go Go.VL
attribute [local simp] HS zde zb7 evPure opd uOf zaF St.put St.at getK binD binI binS binB nilD aggD zhn ziD lookD lookR zcB Go.VL.nextD zcF ziQ ziP zgW zcz mkV zdB zbq zbB mapEff zev zgg Key.kk shiftI arith unD convD zeg loadD cellsAt fieldAddrD fieldD indexAddrD indexD sliceD cutD lenD minmaxD nilCheckD buildD fillD zbU zdn ze5 setAll zcU zff zcx zhN zct St.add zaR zbR rowsOf zd0 zcJ zak zac zaa za9 zcI zaP entry zbO zbY valD zb8 zcA zhf zdz zdA zb1 zbQ zax zaW zbu delAll effD St.effS zdj zbl za5 zdk zbm za7 zcl za6 zaV zcm zdh zbJ zci zbt zcg zch zaK mkD zbL zbC zbP zax zcv D.ids Op.operands Call.operands zbI makeIfD makeFuncD typeAssertD ziB zdR zdS zhX zcD IntKind.bits zcV List.take_of_length_le List.range_succ
attribute [local irreducible] V G H HD HD2 HD4 zmC RetX zao Eff CallP CallV EndOK Fun Ret FinOK LoopI LoopW EndW
theorem zkV (l : List Tok) (hlen : (zbg (zaZ l)).length ≤ 140737488355328) (hN : l.length ≤ 1000000) : Fun Tryz.prog 33 [.u (.sl (l.map fun t => [.int .i64 t.kind, .str t.text, .int .i64 t.n, .int .i64 t.pos]))] (· = .u (.str (zbg (zaZ l)))) := by
 have hfl : (zaZ l).length ≤ l.length := by unfold zaZ; rw [List.length_map]; exact List.length_filter_le _ _
 have hjn := zim (zaZ l) hlen (by omega)
 (refine Fun.of_bodyW Tryz.func33 rfl (by simp) fun Γ hn => ?_); simp only [entry, ziC, ziN, maC, maN, oA, Tryz.ntmps33]
 repeat' (first
  | ((first | refine zaf ?_ | refine zaj ?_ | refine zag ?_ | refine zav ?_ | fail); simp)
  | fail)
 refine zge _ (Wk.own 3 9 1 (by decide) rfl) ?_
 simp [St.own]
 refine zcW (α := { i : Nat // i ≤ l.length }) [6, 7] (fun i => [(3, .vec 0 (zaZ (l.take i.1)).length), (8, .u (.int .i64 i.1))])
  (fun i => [(0, .vec 9 1 (rowsD (zhV (zaZ (l.take i.1)))))]) 1 (fun i => l.length - i.1) ⟨0, by omega⟩ ?_ ?_
 ·exact (Wk.cut rfl (by simp [hn, St.lp]) (by simp [wkO, St.lp, zaa, getK, Ob.under, D.under, zad, zae, zeR, zhV]) (by simp [wkU, St.lp, zam, zaa, getK, D.under, zeR, zhV]) (by simp [wkE, St.lp, zam, zaa, getK, zeR, zhV] <;> (try (intros; simp_all; done)) <;> (try (intros; omega)) <;> (try grind)))
 rintro ⟨i, hi⟩
 simp [St.lp, St.only, zam, zaa, getK]
 rcases hx : l[i]? with _ | t
 ·have hie : i = l.length := by have := List.getElem?_eq_none_iff.1 hx; omega
  subst hie
  rw [List.take_length]
  generalize zaZ l = ws at *
  have htk : (zhV ws).take ws.length = zhV ws := List.take_of_length_le (by simp)
  repeat' (first
  | ((first | refine zaf ?_ | refine zaj ?_ | refine zag ?_ | fail); simp [hx, htk, zc2])
  | (refine zaq ?_; simp only [zao])
  | (refine zbb ?_; simp [zao])
  | (refine CallP.fE (hjn) (by first | rfl | fail) (by first | simp [hx, htk, zc2] <;> rfl | fail) ?_; (try simp [hx, htk, zc2]))
  | fail)
  refine EndW.here ?_
  (refine EndOK.val (.inr rfl) ?_; simp [zaJ, zah, zau, Tryz.results33])
 ·have hlt : i < l.length := (lGE.1 hx).1
  have hlt2 : (i : Int) < l.length := by omega
  have hts : zaZ (l.take (i + 1)) = zaZ (l.take i) ++ zaZ [t] := by rw [List.take_add_one, hx, ← zfF]; rfl
  have hwl : (zaZ (l.take i)).length ≤ i := by
   unfold zaZ
   rw [List.length_map]
   exact Nat.le_trans (List.length_filter_le _ _) (List.length_take_le _ _)
  by_cases hk : t.kind = 0
  ·have ht0 : zaZ [t] = [] := by rw [zdw, if_neg (by simpa using hk)]; rfl
   rw [ht0, List.append_nil] at hts
   generalize zaZ (l.take i) = ws at *
   repeat' (first
  | ((first | refine zaf ?_ | refine zaj ?_ | fail); simp [hx, hlt2, hk])
  | (refine ⟨by omega, ?_⟩)
  | ((first | refine zag ?_ | refine zai ?_ | refine zat ?_ | fail); simp [hx, hlt2, hk])
  | (refine zap ?_; simp only [zao])
  | fail)
   refine LoopW.next ⟨i + 1, hlt⟩ (by show l.length - (i + 1) < l.length - i; omega) ?_
   exact (Wk.cut rfl (by simp [hn, St.lp]) (by simp [wkO, St.lp, zaa, getK, Ob.under, D.under, zad, zae, hts]) (by simp [wkU, St.lp, zam, zaa, getK, D.under, hts]) (by simp [wkE, St.lp, zam, zaa, getK, hts] <;> (try (intros; simp_all; done)) <;> (try (intros; omega)) <;> (try grind)))
  ·have ht0 : zaZ [t] = [t.text] := by rw [zdw, if_pos hk]; rfl
   rw [ht0] at hts
   generalize zaZ (l.take i) = ws at *
   have htk : (zhV ws).take ws.length = zhV ws := List.take_of_length_le (by simp)
   repeat' (first
  | ((first | refine zaf ?_ | refine zaj ?_ | fail); simp [hx, hlt2, hk, htk, zc2])
  | (refine ⟨by omega, ?_⟩)
  | ((first | refine zag ?_ | refine zai ?_ | refine zat ?_ | fail); simp [hx, hlt2, hk, htk, zc2])
  | (refine zap ?_; simp only [zao])
  | fail)
   refine LoopW.next ⟨i + 1, hlt⟩ (by show l.length - (i + 1) < l.length - i; omega) ?_
   exact (Wk.ren ((fun j => if j = 0 then 3 else j)) rfl (by first | (simp [hn]; done) | (intro i hi; rw [hn] at hi; constructor <;> (try simp) <;> (try (intro _)) <;> omega)) (by simp [zfZ, St.lp, zam, zaa, getK, zac, zak, D.under, D.le, D.ren, hts, htk, zc2] <;> (try (intros; simp_all; done)) <;> (try omega)) (by simp [wkR, St.lp, zaa, getK, zac, zak, obR, leU, zbf, zaN, Ob.under, D.under, D.le, D.ren, hts, htk, zc2] <;> (try (intros; simp_all; done)) <;> (try omega)) (by simp [hts, htk, zc2]))
end Go.Proofs.YthnemhfamhnfjaaGreatDoor
