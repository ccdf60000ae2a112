import Derived.Test.YtepiegcjnaohjaaGreatDoorP4
set_option linter.all false
set_option maxRecDepth 100000
set_option maxHeartbeats 8000000
namespace Go.Proofs.YtepiegcjnaohjaaGreatDoor
open Go Go.VL
attribute [local simp] zc6 zb2 evPure opd uOf zaC St.put St.at getK binD binI binS binB nilD aggD zhd zir lookD lookR zcB rangeS Go.VL.nextD Go.VL.nextS zcD ziF ziE zgE zbX mkV za8 zbj zbi zbh zc0 zbc zbq zbC mapEff zdd zf0 Key.kk shiftI arith unD convD zd4 loadD cellsAt fieldAddrD fieldD indexAddrD indexSlD arrAddr indexD sliceD cutD lenD minmaxD nilCheckD buildD fillD zbS zde zeV setAll zcM zeM zcv zhH zcr St.add zaS zbP rowsOf zdS zcw zak zac zaa zbm zcX zaQ entry zbI zbR valD zbU zcx zg2 zdv zdw zbZ zbO zaw zaR zbs delAll effD St.effS zdb zbk za1 zdc zbl za3 zcf za2 zaV zcg zc7 zbJ zcd zbt zcb zcc zau mkD zbw zbD zbN zaw zcu D.ids Op.operands Call.operands zbz makeIfD makeFuncD typeAssertD zio zdI zdJ zhX zcC IntKind.bits zcG List.take_of_length_le List.range_succ
attribute [local irreducible] V G H HD HD2 zap Eff CallP CallV EndOK Fun Ret FinOK LoopI LoopW EndW
theorem znl (s : List UInt8) : Fun Tryz.prog 121 [.u (.str s)] (· = zhx (zmh s)) := by
 unfold zmh;by_cases hlong : 2000 < s.length
 ·have hlong2 : 2000 < (s.length : Int) := by omega
  rw [if_pos hlong]
  (refine Fun.of_bodyW Tryz.func121 rfl (by simp) fun Γ hn => ?_); simp only [entry, ziC, ziN, maC, maN, oA, Tryz.ntmps121]
  repeat' (first
  | ((first | refine zag ?_ | refine zaj ?_ | refine zah ?_ | refine zai ?_ | fail); simp [hlong, hlong2])
  | (refine zar ?_; simp only [zap])
  | fail)
  refine EndW.norm (EndW.here ?_)
  (refine EndOK.val (.inr rfl) ?_; simp [zaz, zaf, zas, Tryz.results121, zaD, zaE, zcS, zcT, frz, zbg, frzS, fv, za5, za6, za7, zaH, zay, zav, zbG, zb1, zbV, za9])
  simp [zhx]
 rw [if_neg hlong];have hlong2 : ¬ 2000 < (s.length : Int) := by omega
 obtain ⟨R, hR⟩ : ∃ R, R = znn (s.length + 1) s 0 := ⟨_, rfl⟩;rw [<- hR]
 (refine Fun.of_bodyW Tryz.func121 rfl (by simp) fun Γ hn => ?_); simp only [entry, ziC, ziN, maC, maN, oA, Tryz.ntmps121]
 repeat' (first
  | ((first | refine zag ?_ | refine zaj ?_ | refine zah ?_ | refine zai ?_ | refine zao ?_ | fail); simp [hlong, hlong2])
  | (refine zaq ?_; simp only [zap])
  | fail)
 refine zqY _ (Wk.own 5 201 4 (by decide) rfl) ?_;simp [St.own];refine zcq (α := { x : List Tok × Nat × Nat // x.2.1 <= s.length /\ s.length < x.2.1 + x.2.2 /\ x.1.length <= x.2.1 /\ R = zlt x.1 (znn x.2.2 s x.2.1) }) [0] (fun x => [(5, .vec 0 x.1.1.length), (6, .u (.int .i64 x.1.2.1))]) (fun x => [(0, .vec 201 4 (zhZ x.1.1))]) 1 (fun x => x.1.2.2) ⟨([], 0, s.length + 1), by simp, by simp, by simp, by rw [zmP, hR]⟩ ?_ ?_
 ·exact (Wk.cut rfl (by simp [hn, St.lp]) (by simp [wkO, St.lp, zaa, getK, Ob.under, D.under, zad, zae, zhZ]) (by simp [wkU, St.lp, zam, zaa, getK, D.under, zhZ]) (by simp [wkE, St.lp, zam, zaa, getK, zhZ] <;> (try (intros; simp_all; done)) <;> (try (intros; omega)) <;> (try grind)))
 rintro ⟨⟨acc, p, f⟩, h1, h2, h3, h4⟩;simp only at h1 h2 h3 h4;simp [St.lp, St.only, zam, zaa, getK];obtain ⟨f', rfl⟩ : ∃ f', f = f' + 1 := ⟨f - 1, by omega⟩;rw [znn] at h4;have hsp := zfa (s.drop p) (by rw [List.length_drop]; omega) 198 zbT (fun c _ => zn3 c) (by simp);have hle := zdA zbT (s.drop p);rw [List.length_drop] at hle;obtain ⟨b, hb⟩ : ∃ b, b = zce zbT (s.drop p) := ⟨_, rfl⟩;rw [<- hb] at hsp hle h4;have hp1 : (p : Int) <= s.length := by omega
 have hpb : (p : Int) + b <= s.length := by omega
 rcases hd : s.drop (p + b) with _ | ⟨c, r⟩
 ·have hdl : (s.drop (p + b)).length = 0 := by rw [hd]; rfl
  rw [List.length_drop] at hdl;have hpe : p + b = s.length := by omega
  have hpe2 : (p : Int) + b = s.length := by omega
  rw [hd] at h4;simp only at h4;have hap : zhZ acc ++ [[D.u (.int .i64 0), D.u (.str []), D.u (.int .i64 0), D.u (.int .i64 (s.length : Int))]] = zhZ (acc ++ [⟨0, [], 0, s.length⟩]) := by simp [zhZ]
  have hlr : zjO 4 (zhZ acc) := fun r hr => by obtain ⟨t, _, rfl⟩ := List.mem_map.1 hr; rfl
  rw [hpe] at h4
  repeat' (first
  | ((first | refine zag ?_ | refine zaj ?_ | fail); simp [h1, hp1, hpe2, zck, hap, hlr])
  | (refine ⟨by omega, ?_⟩)
  | ((first | refine zah ?_ | refine zai ?_ | refine zao ?_ | fail); simp [h1, hp1, hpe2, zck, hap, hlr])
  | (refine zar ?_; simp only [zap])
  | (refine CallP.fE (hsp) (by first | rfl | fail) (by first | simp [h1, hp1, hpe2, zck, hap, hlr] <;> rfl | fail) ?_; (try simp [h1, hp1, hpe2, zck, hap, hlr]))
  | fail)
  (refine EndW.frzN 3 ?_; simp [frzN, frz1, zaE, zaD, St.frz, St.frzS, frzS, fv, za5, za6, za7, zaH, zay, zav, del, frz, zbg, zkC, zck, List.length_append])
  refine EndW.norm (EndW.here ?_)
  (refine EndOK.val (.inr rfl) ?_; simp [zaz, zaf, zas, Tryz.results121, zaD, zaE, zcS, zcT, frz, zbg, frzS, fv, za5, za6, za7, zaH, zay, zav, zbG, zb1, zbV, za9, zkC, zck, List.length_append])
  rw [h4];simp [zlt, zhx]
 ·have hdl : (s.drop (p + b)).length = r.length + 1 := by rw [hd]; rfl
  rw [List.length_drop] at hdl;have hpe : ¬ p + b = s.length := by omega
  have hpe2 : ¬ (p : Int) + b = s.length := by omega
  have hnx := zoL (s.drop (p + b)) (by rw [hd]; simp) (by rw [List.length_drop]; omega);unfold nextD at hnx;rw [hd] at h4;simp only at h4;rw [hd] at hnx;have hpb2 : ((p : Int) + b).toNat = p + b := by omega
  have hpb3 : p + b <= s.length := by omega
  cases hno : zg6 (c :: r) with
  | error e =>
   rw [hno] at h4 hnx;have he : e ≠ 0 := by
    unfold zg6 at hno;simp only at hno;split at hno
    ·split at hno <;> cases hno;omega
    ·split at hno
     ·split at hno <;> cases hno;omega
     ·split at hno <;> cases hno;omega
   repeat' (first
  | ((first | refine zag ?_ | refine zaj ?_ | fail); simp [h1, hp1, hpe, hpe2, hd, he, hpb, hpb2, hpb3])
  | (refine ⟨by omega, ?_⟩)
  | ((first | refine zah ?_ | refine zai ?_ | refine zao ?_ | fail); simp [h1, hp1, hpe, hpe2, hd, he, hpb, hpb2, hpb3])
  | ((first | refine zar ?_ | refine zaq ?_ | fail); simp only [zap])
  | (refine CallP.fE (hsp) (by first | rfl | fail) (by first | simp [h1, hp1, hpe, hpe2, hd, he, hpb, hpb2, hpb3] <;> rfl | fail) ?_; (try simp [h1, hp1, hpe, hpe2, hd, he, hpb, hpb2, hpb3]))
  | (refine CallP.fE (hnx) (by first | rfl | fail) (by first | simp [h1, hp1, hpe, hpe2, hd, he, hpb, hpb2, hpb3] <;> rfl | fail) ?_; (try simp [h1, hp1, hpe, hpe2, hd, he, hpb, hpb2, hpb3]))
  | fail)
   refine EndW.norm (EndW.here ?_)
   (refine EndOK.val (.inr rfl) ?_; simp [zaz, zaf, zas, Tryz.results121, zaD, zaE, zcS, zcT, frz, zbg, frzS, fv, za5, za6, za7, zaH, zay, zav, zbG, zb1, zbV, za9])
   rw [h4];simp [zlt, zhx]
  | ok t =>
   rw [hno] at h4 hnx;obtain ⟨ht1, ht2⟩ := zfy hno;simp only [List.length_cons] at ht2;have hap : zhZ acc ++ [[D.u (.int .i64 t.kind), D.u (.str t.text), D.u (.int .i64 t.n), D.u (.int .i64 ((p : Int) + b))]] = zhZ (acc ++ [{ t with pos := ((p + b : Nat) : Int) }]) := by simp [zhZ]
   have hlr : zjO 4 (zhZ acc) := fun r hr => by obtain ⟨t, _, rfl⟩ := List.mem_map.1 hr; rfl
   repeat' (first
  | ((first | refine zag ?_ | refine zaj ?_ | fail); simp [h1, hp1, hpe, hpe2, hd, hpb, hpb2, hpb3, zck, hap, hlr])
  | (refine ⟨by omega, ?_⟩)
  | ((first | refine zah ?_ | refine zai ?_ | refine zao ?_ | refine zat ?_ | fail); simp [h1, hp1, hpe, hpe2, hd, hpb, hpb2, hpb3, zck, hap, hlr])
  | (refine zaq ?_; simp only [zap])
  | (refine CallP.fE (hsp) (by first | rfl | fail) (by first | simp [h1, hp1, hpe, hpe2, hd, hpb, hpb2, hpb3, zck, hap, hlr] <;> rfl | fail) ?_; (try simp [h1, hp1, hpe, hpe2, hd, hpb, hpb2, hpb3, zck, hap, hlr]))
  | (refine CallP.fE (hnx) (by first | rfl | fail) (by first | simp [h1, hp1, hpe, hpe2, hd, hpb, hpb2, hpb3, zck, hap, hlr] <;> rfl | fail) ?_; (try simp [h1, hp1, hpe, hpe2, hd, hpb, hpb2, hpb3, zck, hap, hlr]))
  | fail)
   refine LoopW.next ⟨(acc ++ [{ t with pos := ((p + b : Nat) : Int) }], p + b + t.text.length, f'), by simp; omega, by simp; omega, by simp; omega, ?_⟩ (by simp) ?_
   ·rw [h4];simp only;cases znn f' s (p + b + t.text.length) <;> simp [zlt]
   ·skip
    exact (Wk.ren ((fun i => if i = 0 then 3 else i)) rfl (by first | (simp [hn]; done) | (intro i hi; rw [hn] at hi; constructor <;> (try simp) <;> (try (intro _)) <;> omega)) (by simp [zoj, St.lp, zam, zaa, getK, zac, zak, D.under, D.le, D.ren, zgr, zfr] <;> (try (intros; simp_all; done)) <;> (try omega)) (by simp [wkR, St.lp, zaa, getK, zac, zak, obR, leU, zcL, zbp, Ob.under, D.under, D.le, D.ren, zgr, zfr] <;> (try (intros; simp_all; done)) <;> (try omega)) (by simp [zgr, zfr]))
abbrev zrz (o : Opr) : D := .u (.agg [.str o.text, .int .i64 o.op, .int .i64 o.form])
abbrev zm3 (l : List Opr) : U := .sl (l.map fun o => [.str o.text, .int .i64 o.op, .int .i64 o.form])
theorem zh6 : Fun Tryz.prog 139 [] (· = .u (zm3 oprs)) := by
 unfold zm3 oprs
 (refine Fun.of_bodyW Tryz.func139 rfl (by simp) fun Γ hn => ?_); simp only [entry, ziC, ziN, maC, maN, oA, Tryz.ntmps139]
 repeat' (first
  | ((first | refine zag ?_ | refine zaj ?_ | refine zah ?_ | fail); simp [zbR, zbI])
  | (refine zar ?_; simp only [zap])
  | fail)
 (refine EndW.frzN 1 ?_; simp [frzN, frz1, zaE, zaD, St.frz, St.frzS, frzS, fv, za5, za6, za7, zaH, zay, zav, del, frz, zbg])
 refine EndW.here ?_
 (refine EndOK.val (.inr rfl) ?_; simp [zaz, zaf, zas, Tryz.results139])
theorem zo9 (l : List Tok) (q : Nat) (o : Opr) (hq : q < l.length) (hl : l.length <= 1000000) : Fun Tryz.prog 248 (zrz o :: [U.row [zpH l q] 0].map .u) (· = .u (.bool (isB l q o.text))) := by
 have h1 := zeg l q o.text hq hl;simp only [List.map_cons, List.map_nil, zrz]
 (refine Fun.of_body Tryz.func248 rfl (by simp) fun Γ hn => ?_); simp only [entry, ziC, ziN, maC, maN, oA, Tryz.ntmps248]
 repeat' (first
  | ((first | refine zag ?_ | refine zaj ?_ | refine zah ?_ | fail); simp)
  | (refine zar ?_; simp only [zap])
  | (refine CallP.fE (h1) (by first | rfl | fail) (by first | (simp; done) | (simp; rfl) | fail) ?_; (try simp))
  | fail)
 (refine EndOK.val (.inr rfl) ?_; simp [zaz, zaf, zas, Tryz.results248])
theorem zlT (l : List (Opr)) (f : FuncId) (caps : List U) (p : Opr -> Bool) (hf : ∀ n ∈ l, Fun Tryz.prog f (zrz n :: caps.map .u) (· = .u (.bool (p n)))) (hcl : zal Tryz.prog f = true)
  (hca : ∀ o, zcx o (caps.map .u) = some (caps.map .u, [])) : Fun Tryz.prog 140 [.u (zm3 l), .fnc (.func f) (caps.map .u)] (· = .u (.int .i64 (zhz p l 0))) := by
 (refine Fun.of_body Tryz.func140 rfl (by simp) fun Γ hn => ?_); simp only [entry, ziC, ziN, maC, maN, oA, Tryz.ntmps140]
 simp only [zm3];refine zgW (x := 0) rfl fun hl => ?_;simp at hl
 repeat' (first
  | ((first | refine zag ?_ | refine zaj ?_ | refine zah ?_ | refine zao ?_ | fail); simp)
  | fail)
 refine zbH (α := { i : Nat // i <= l.length /\ ∀ c ∈ l.take i, p c = false }) [0, 1, 7] (fun i => [(8, .u (.int .i64 i.1))]) (fun i => l.length - i.1) ⟨0, by omega, by simp⟩ ?_ ?_
 ·exact (Wk.env rfl rfl rfl (by simp [wkE, St.lp, zam, zaa, getK] <;> (try (intros; simp_all; done)) <;> (try (intros; omega)) <;> (try grind)))
 rintro ⟨i, hi, hb⟩;simp [St.lp, St.only, zam, zaa, getK];rcases hx : l[i]? with _ | n
 ·have hge : l.length <= i := by simpa using hx
  repeat' (first
  | ((first | refine zag ?_ | refine zaj ?_ | fail); simp [hx])
  | (refine ⟨by omega, ?_⟩)
  | (refine zah ?_; simp [hx])
  | (refine zar ?_; simp only [zap])
  | (refine zaZ ?_; simp [zap])
  | (intro hc <;> (try (exfalso; omega)))
  | fail)
  (refine EndOK.val (.inr rfl) ?_; simp [zaz, zaf, zas, Tryz.results140])
  rw [List.take_of_length_le hge] at hb;exact (zfd hb).symm
 ·have hlt : i < l.length := (lGE.1 hx).1;have h1 := hf n (List.mem_of_getElem? hx);simp only [zrz] at h1;cases hp : p n
  ·rw [hp] at h1
   repeat' (first
  | ((first | refine zag ?_ | refine zaj ?_ | fail); simp [hx, hca])
  | (refine ⟨by omega, ?_⟩)
  | ((first | refine zah ?_ | refine zai ?_ | refine zat ?_ | fail); simp [hx, hca])
  | (refine zaq ?_; simp only [zap])
  | (refine ⟨?_, by omega⟩)
  | (intro hc <;> (try (exfalso; omega)))
  | (refine CallP.fE (h1) (by first | rfl | fail) (by first | simp [hx, hca] <;> rfl | fail) ?_; (try simp [hcl, hx, hca]))
  | fail)
   refine LoopW.next ⟨i + 1, by omega, za0 hx hb hp⟩ (by simp; omega) ?_
   exact (Wk.env rfl rfl rfl (by simp [wkE, St.lp, zam, zaa, getK] <;> (try (intros; simp_all; done)) <;> (try (intros; omega)) <;> (try grind)))
  ·rw [hp] at h1
   repeat' (first
  | ((first | refine zag ?_ | refine zaj ?_ | refine zah ?_ | refine zai ?_ | fail); simp [hx, hca])
  | ((first | refine zar ?_ | refine zaq ?_ | fail); simp only [zap])
  | (refine ⟨?_, by omega⟩)
  | (intro hc <;> (try (exfalso; omega)))
  | (refine CallP.fE (h1) (by first | rfl | fail) (by first | simp [hx, hca] <;> rfl | fail) ?_; (try simp [hcl, hx, hca]))
  | fail)
   (refine EndOK.val (.inr rfl) ?_; simp [zaz, zaf, zas, Tryz.results140])
   rw [zif hb hx hp];omega
theorem zgJ {p : Opr -> Bool} : ∀ (L : List Opr) (k : Int), (L.find? p = none -> zhz p L k = -1) /\ ∀ x, L.find? p = some x -> ∃ j : Nat, L[j]? = some x /\ zhz p L k = k + j
 | [], k => ⟨fun _ => rfl, fun x h => by simp at h⟩
 | a :: L, k => by
  by_cases h : p a = true
  ·refine ⟨fun h1 => by simp [h] at h1, fun x h1 => ?_⟩;rw [List.find?_cons, h] at h1;cases h1;exact ⟨0, rfl, by rw [zhz, if_pos h]; simp⟩
  ·have h' : p a = false := by simpa using h
   obtain ⟨h1, h2⟩ := zgJ L (k + 1);refine ⟨fun h3 => ?_, fun x h3 => ?_⟩
   ·rw [List.find?_cons, h'] at h3;rw [zhz, if_neg h];exact h1 h3
   ·rw [List.find?_cons, h'] at h3;obtain ⟨j, h4, h5⟩ := h2 x h3;exact ⟨j + 1, h4, by rw [zhz, if_neg h, h5]; omega⟩
theorem zlS (l : List Tok) (q : Nat) (hq : q < l.length) (hl : l.length <= 1000000) : Fun Tryz.prog 140 [.u (zm3 oprs), .fnc (.func 248) [.u (.row [zpH l q] 0)]]
  (· = .u (.int .i64 (zhz (fun o => isB l q o.text) oprs 0))) :=
 zlT oprs 248 [U.row [zpH l q] 0] (fun o => isB l q o.text) (fun o _ => zo9 l q o hq hl) rfl (fun o => rfl)
end Go.Proofs.YtepiegcjnaohjaaGreatDoor
namespace Go.Proofs.YtepiegcjnaohjaaGreatDoor
open Go Go.VL
structure Cl where
 mark : Int
 circle : Int
 who : Int
 n : Int
 event : Int
 day : Int
 proofs : Int
 jury : List Int
 again : List Int
 state : Int
 grant : Int
 frm : Int
def zaY (c : Cl) : List U := [.int .i64 c.mark, .int .i64 c.circle, .int .i64 c.who, .int .i64 c.n, .int .i64 c.event, .int .i64 c.day, .int .i64 c.proofs, .sl (c.jury.map fun x => [.int .i64 x]), .sl (c.again.map fun x => [.int .i64 x]), .int .i64 c.state, .int .i64 c.grant, .int .i64 c.frm]
def clU (c : Cl) : U := .agg (zaY c)
def zoh (members : List Int) : List Int -> List Vo -> List Vo
 | _, [] => []
 | seen, v :: r => if v.who ∈ seen \/ v.who ∉ members then zoh members seen r else v :: zoh members (seen ++ [v.who]) r
theorem zip (members : List Int) (u : Int) : ∀ (l : List Vo) (seen : List Int), (∀ v ∈ l, v.day <= u) -> cnt members u seen l = zoh members seen l
 | [], _, _ => rfl
 | v :: l, seen, h => by
  have h1 : ¬ u < v.day := by have := h v (by simp); omega
  have h2 : ∀ v ∈ l, v.day <= u := fun w hw => h w (by simp [hw]);rw [cnt, zoh];simp only [h1, false_or];rw [zip members u l seen h2, zip members u l _ h2]
theorem ziq (members : List Int) : ∀ (l : List Vo) (seen : List Int), (zoh members seen l).length <= l.length
 | [], _ => by simp [zoh]
 | v :: l, seen => by
  rw [zoh];split
  ·have := ziq members l seen; simp; omega
  ·have := ziq members l (seen ++ [v.who]); simp; omega
def zg7 (jury : List Int) (l : List Vo) : Int × Int :=
 if zc8 jury = false then (0, 1) else
  let c := zoh jury [] l
  if ((jury.length / 2 : Nat) : Int) + 1 <= zjP c then (1, 0) else if (jury.length : Int) - (((jury.length / 2 : Nat) : Int) + 1) < (c.length : Int) - zjP c then (2, 0) else (0, 0)
def zea (c : Cl) : List Int := if c.again = [] then c.jury else c.again
def zqM (c : Cl) (l : List Vo) : Int := (zg7 (zea c) l).1
def zl5 (n : Int) : Bool := decide (0 <= n) && decide (n <= 1048576)
def zgK (c : Cl) (cover : Int) : Int := max (min c.n cover) 0
def zfT (c : Cl) (wait period v cover today : Int) : Cl :=
 if v = 1 /\ 0 < c.proofs then (if 0 < zgK c cover then { c with state := 1, grant := zgK c cover, frm := today + 1 + wait } else { c with state := 3, frm := today })
 else if v = 2 \/ c.frm <= today - period then { c with state := 3, frm := today } else c
def zfP (c : Cl) (today : Int) : Cl := if c.state = 1 /\ c.frm <= today + 1 then { c with state := 2 } else c
def ze8 (c : Cl) (b : By) (cover : Int) (l : List Vo) (today : Int) : Cl :=
 if zco b = true /\ zl5 today = true then zfP (if c.state = 0 then zfT c b.wait b.period (zqM c l) cover today else c) today else c
def zkE (c : Cl) : Cl × Int := if c.state ≠ 0 then (c, 7) else if 1000 <= c.proofs then (c, 6) else ({ c with proofs := c.proofs + 1 }, 0)
end Go.Proofs.YtepiegcjnaohjaaGreatDoor
namespace Go.Proofs.YtepiegcjnaohjaaGreatDoor
open Go Go.VL
def zfL (c : Cl) (b : By) (again : List Int) (today : Int) : Cl × Int :=
 if zco b = false \/ zl5 today = false \/ again = [] then (c, 1)
 else if c.state ≠ 3 then (c, 7) else if c.again ≠ [] then (c, 5) else if c.frm < today - b.period then (c, 25) else ({ c with state := 0, again := again, frm := today }, 0)
def zq5 (c : Cl) (n : Int) : Cl × Int := if c.state = 1 then (c, 26) else if c.state ≠ 2 then (c, 7) else if c.grant < n then (c, 31) else if n < c.grant then (c, 24) else ({ c with state := 4 }, 0)
structure Ivc (n0 w0 : Int) (one two : List Int) (i : Nat) (c : Cl) : Prop where
 hn : c.n = n0
 hw : c.who = w0
 p0 : 0 <= c.proofs
 p1 : c.proofs <= i
 s0 : 0 <= c.state
 s1 : c.state <= 4
 hj : c.jury = one
 ha : c.again = [] \/ (c.again = two /\ two ≠ [])
theorem Ivc.next {n0 w0 : Int} {one two : List Int} {i : Nat} {c : Cl} (h : Ivc n0 w0 one two i c) : Ivc n0 w0 one two (i + 1) c :=
 ⟨h.hn, h.hw, h.p0, by have := h.p1; omega, h.s0, h.s1, h.hj, h.ha⟩
end Go.Proofs.YtepiegcjnaohjaaGreatDoor
namespace Go.Proofs.YtepiegcjnaohjaaGreatDoor
open Go Go.VL
def zpt : En := ⟨5, 0, 20, [], 10, 0, 0, 300, 18, -1, [], [], []⟩
theorem zmS : zgt zpt = true := by decide
end Go.Proofs.YtepiegcjnaohjaaGreatDoor
namespace Go.Proofs.YtepiegcjnaohjaaGreatDoor
open Go Go.VL
end Go.Proofs.YtepiegcjnaohjaaGreatDoor
namespace Go.Proofs.YtepiegcjnaohjaaGreatDoor
open Go Go.VL Go.ChangeShapes Go.WideShapes Go.ChangeAt Go.RowKit
theorem zsv {r : List U} (h : HasRow Tryz.prog 57 r) : ∃ b : By, r = zaI b := by
 obtain ⟨rs, hr, h⟩ := h.of_struct zsH
 match rs, h with
 | [a1, a2, a3, a4, a5, a6, a7, a8, a9, a10, a11, a12, a13, a14, a15, a16, a17], h =>
  obtain ⟨h1, h2, h3, h4, h5, h6, h7, h8, h9, h10, h11, h12, h13, h14, h15, h16, h17, _⟩ := h;obtain ⟨x1, rfl, _⟩ := h1.of_int io3;obtain ⟨x2, rfl, _⟩ := h2.of_int io3;obtain ⟨x3, rfl, _⟩ := h3.of_int io3;obtain ⟨x4, rfl, _⟩ := h4.of_int io3;obtain ⟨x5, rfl, _⟩ := h5.of_int io3;obtain ⟨x6, rfl, _⟩ := h6.of_int io3;obtain ⟨x7, rfl⟩ := h7.of_bool (by simp);obtain ⟨x8, rfl, _⟩ := h8.of_int io3;obtain ⟨x9, rfl, _⟩ := h9.of_int io3;obtain ⟨x10, rfl, _⟩ := h10.of_int io3;obtain ⟨x11, rfl, _⟩ := h11.of_int io3;obtain ⟨rows, rfl, _, h12⟩ := h12.of_slice zua;obtain ⟨l, rfl, _⟩ := rows_list (fun l : Let => [.str l.name, .int .i64 l.body.op, .int .i64 l.body.n, .int .i64 l.body.unit, .str l.body.s, .sl (l.body.args.map Exp.row)]) (fun _ => True) (rows := rows) fun r hr => zq9 (h12 r hr);obtain ⟨e1, rfl⟩ := zfE h13;obtain ⟨e2, rfl⟩ := zfE h14;obtain ⟨e3, rfl⟩ := zfE h15;obtain ⟨e4, rfl⟩ := zfE h16;obtain ⟨e5, rfl⟩ := zfE h17;exact ⟨⟨x1, x2, x3, x4, x5, x6, x7, x8, x9, x10, x11, l, e1, e2, e3, e4, e5⟩, by rw [hr]; rfl⟩
end Go.Proofs.YtepiegcjnaohjaaGreatDoor
namespace Go.Proofs.YtepiegcjnaohjaaGreatDoor
open Go Go.VL Go.ChangeShapes Go.WideShapes Go.ChangeAt Go.RowKit
end Go.Proofs.YtepiegcjnaohjaaGreatDoor
namespace Go.Proofs.YtepiegcjnaohjaaGreatDoor
open Go Go.VL
theorem zlq {lets : List Let} {e : Exp} (h : zcA lets e = true) : lets.length <= 20 /\ zaO 12 e = true /\ ∀ l ∈ lets, zaO 12 l.body = true := by
 simp only [zcA, Bool.and_eq_true, decide_eq_true_eq, Bool.not_eq_true', List.any_eq_false, Bool.not_eq_true] at h;exact ⟨h.1.1, h.1.2, fun l hl => by have := h.2 l hl; simpa using this⟩
def zcz (lets : List Let) (e : Exp) : Bool := zcA lets e && zeR (sF (mOf [] lets)) e
abbrev Tab := List (Int × Int × Bool)
def zdz (n : Int) : Except Int Int := if 1099511627776 < n \/ n < -1099511627776 then .error 3 else .ok n
def zfg (a b : Int) : Int := if a.tdiv b * b ≠ a /\ ¬ (a < 0 ↔ b < 0) then a.tdiv b - 1 else a.tdiv b
def zfv (a b c : Int) : Except Int Int :=
 if a ≠ 0 /\ ((1099511627777 * c).tdiv (max a (-a)) < b \/ b < (-(1099511627777 * c)).tdiv (max a (-a))) then .error 3 else zdz (zfg (a * b) c)
def zcH (b : Bool) : Int := if b = true then 1 else 0
def zhf (op : Int) (sh : Bool) (a b : Int) : Except Int Int :=
 if op = 2 then zdz (a + b) else if op = 3 then zdz (a - b) else if op = 4 then zfv a b (if sh = true then 1000 else 1)
 else if op = 5 then (if b = 0 then .error 15 else zdz (zfg a b))
 else if op = 6 then .ok (min a b) else if op = 7 then .ok (max a b) else if op = 8 then .ok (zcH (decide (a < b))) else .ok (zcH (decide (a = b)))
abbrev TM := Tab -> Except Int Int × Tab
def TM.bind (f : TM) (g : Int -> TM) : TM := fun t => match f t with | (.ok v, t') => g v t' | (.error e, t') => (.error e, t')
def TM.ret (x : Except Int Int) : TM := fun t => (x, t)
theorem TM.bind_ok {f : TM} {g : Int -> TM} {t t' : Tab} {v : Int} (h : f t = (.ok v, t')) : f.bind g t = g v t' := by unfold TM.bind; rw [h]
theorem TM.zga {f : TM} {g : Int -> TM} {t t' : Tab} {e : Int} (h : f t = (.error e, t')) : f.bind g t = (.error e, t') := by unfold TM.bind; rw [h]
mutual
def zlg (nm : List UInt8 -> TM) (sh : Exp -> Bool) : Exp -> TM
 | .mk op n _ s args =>
  if op = 0 then .ret (zdz n)
  else if op = 1 then nm s
  else if op = 10 then (zcQ nm sh args 0).bind fun a => if a = 0 then .ret (.ok 0) else (zcQ nm sh args 1).bind fun b => .ret (.ok (zcH (decide (b ≠ 0))))
  else if op = 11 then (zcQ nm sh args 0).bind fun a => if a ≠ 0 then .ret (.ok 1) else (zcQ nm sh args 1).bind fun b => .ret (.ok (zcH (decide (b ≠ 0))))
  else if op = 12 then (zcQ nm sh args 0).bind fun a => .ret (.ok (zcH (decide (a = 0))))
  else if op = 13 then (zcQ nm sh args 0).bind fun a => if a ≠ 0 then zcQ nm sh args 1 else zcQ nm sh args 2
  else (zcQ nm sh args 0).bind fun a => (zcQ nm sh args 1).bind fun b => .ret (zhf op ((args.take 2).any sh) a b)
def zcQ (nm : List UInt8 -> TM) (sh : Exp -> Bool) : List Exp -> Nat -> TM
 | [], _ => .ret (.error 0)
 | e :: _, 0 => zlg nm sh e
 | _ :: r, i + 1 => zcQ nm sh r i
end
theorem zmt {nm sh} : ∀ {l : List Exp} {i : Nat} {e : Exp}, l[i]? = some e -> zcQ nm sh l i = zlg nm sh e
 | [], _, _, h => by simp at h
 | a :: r, 0, e, h => by simp at h; subst h; rw [zcQ]
 | a :: r, i + 1, e, h => by rw [zcQ]; exact zmt (by simpa using h)
theorem zcn (nm sh) (e : Exp) : zlg nm sh e = if e.op = 0 then .ret (zdz e.n)
  else if e.op = 1 then nm e.s
  else if e.op = 10 then (zcQ nm sh e.args 0).bind fun a => if a = 0 then .ret (.ok 0) else (zcQ nm sh e.args 1).bind fun b => .ret (.ok (zcH (decide (b ≠ 0))))
  else if e.op = 11 then (zcQ nm sh e.args 0).bind fun a => if a ≠ 0 then .ret (.ok 1) else (zcQ nm sh e.args 1).bind fun b => .ret (.ok (zcH (decide (b ≠ 0))))
  else if e.op = 12 then (zcQ nm sh e.args 0).bind fun a => .ret (.ok (zcH (decide (a = 0))))
  else if e.op = 13 then (zcQ nm sh e.args 0).bind fun a => if a ≠ 0 then zcQ nm sh e.args 1 else zcQ nm sh e.args 2
  else (zcQ nm sh e.args 0).bind fun a => (zcQ nm sh e.args 1).bind fun b => .ret (zhf e.op ((e.args.take 2).any sh) a b) := by
 cases e with | mk op n u s args => rw [zlg]; rfl
def zg1 : Except Int Int -> Int × Int × Bool
 | .ok v => (v, 0, true)
 | .error e => (0, e, true)
def zjN (v e : Int) : Except Int Int := if e = 0 then .ok v else .error e
def nmT (lets : List Let) (given : List UInt8 -> Option Int) : Nat -> List UInt8 -> TM
 | 0, s => .ret (match given s with | some v => .ok v | none => .error 13)
 | n + 1, s => match given s with
  | some v => .ret (.ok v)
  | none => match lets[n]? with
   | none => .ret (.error 13)
   | some l => if l.name = s then fun t => match t[n]? with
          | some (v, e, true) => (zjN v e, t)
          | _ => match zlg (nmT lets given n) (zcz (lets.take n)) l.body t with
           | (r, t') => (zjN (zg1 r).1 (zg1 r).2.1, t'.set n (zg1 r))
    else nmT lets given n s
def zbF (lets : List Let) (given : List UInt8 -> Option Int) (n : Nat) (e : Exp) : TM := zlg (nmT lets given n) (zcz (lets.take n)) e
def inC (v : Int) : Prop := -1099511627776 <= v /\ v <= 1099511627776
theorem zic {n v : Int} (h : zdz n = .ok v) : inC v /\ v = n := by
 unfold zdz at h;split at h
 ·cases h
 ·cases h; exact ⟨by unfold inC; omega, rfl⟩
theorem zgF {n e : Int} (h : zdz n = .error e) : e = 3 := by
 unfold zdz at h;split at h <;> cases h;rfl
theorem zoF {a b c v : Int} (h : zfv a b c = .ok v) : inC v := by
 unfold zfv at h;split at h
 ·cases h
 ·exact (zic h).1
theorem zmN {a b c e : Int} (h : zfv a b c = .error e) : e = 3 := by
 unfold zfv at h;split at h
 ·cases h; rfl
 ·exact zgF h
theorem ze6 (b : Bool) : inC (zcH b) := by unfold inC zcH; split <;> omega
theorem zqs {op sh a b v} (ha : inC a) (hb : inC b) (h : zhf op sh a b = .ok v) : inC v := by
 unfold zhf at h
 repeat' split at h
 all_goals first
  | exact (zic h).1
  | exact zoF h
  | (cases h; done)
  | (cases h; exact ze6 _)
  | (cases h; unfold inC at *; omega)
theorem zpm {op sh a b e} (h : zhf op sh a b = .error e) : e = 3 \/ e = 15 := by
 unfold zhf at h
 repeat' split at h
 all_goals first
  | exact .inl (zgF h)
  | exact .inl (zmN h)
  | (cases h; done)
  | (cases h; exact .inr rfl)
structure TabOK (L : Nat) (t : Tab) : Prop where
 len : t.length = L
 small : ∀ (i : Nat) (v e : Int) (d : Bool), t[i]? = some (v, e, d) -> inC v
def TMok (L : Nat) (f : TM) : Prop := ∀ t, TabOK L t -> TabOK L (f t).2 /\ (∀ v, (f t).1 = .ok v -> inC v) /\ (∀ e, (f t).1 = .error e -> e ≠ 0)
theorem TMok.bind {L f g} (hf : TMok L f) (hg : ∀ a, inC a -> TMok L (g a)) : TMok L (TM.bind f g) := fun t ht => by
 obtain ⟨h1, h2, h3⟩ := hf t ht;unfold TM.bind;rcases hft : f t with ⟨r | v, t'⟩
 ·rw [hft] at h1 h3;refine ⟨h1, ?_, ?_⟩
  ·intro v h; cases h
  ·intro e h; exact h3 e h
 ·rw [hft] at h1 h2;exact hg v (h2 v rfl) t' h1
theorem TMok.ret {L} {x : Except Int Int} (h : ∀ v, x = .ok v -> inC v) (he : ∀ e, x = .error e -> e ≠ 0) : TMok L (TM.ret x) := fun t ht => ⟨ht, h, he⟩
theorem TMok.ok {L} {v : Int} (h : inC v) : TMok L (TM.ret (.ok v)) := .ret (fun w hw => by cases hw; exact h) (fun e he => by cases he)
theorem zjR {L nm sh} (hn : ∀ s, TMok L (nm s)) : ∀ (d : Nat) (e : Exp), zaO d e = true -> TMok L (zlg nm sh e)
 | 0, e, h => by simp [zaO] at h
 | d + 1, e, h => by
  obtain ⟨h1, h2, h3, h4⟩ := zcJ h;rw [zcn];by_cases c0 : e.op = 0
  ·rw [if_pos c0];exact .ret (fun v hv => (zic hv).1) (fun e he => by rw [zgF he]; decide)
  rw [if_neg c0];by_cases c1 : e.op = 1
  ·rw [if_pos c1];exact hn _
  rw [if_neg c1];have hA : ∀ i : Nat, (i : Int) < zbb e.op -> TMok L (zcQ nm sh e.args i) := fun i hi => by
   have hlt : i < e.args.length := by omega
   rw [zmt (List.getElem?_eq_getElem hlt)];exact zjR hn d _ (h4 c0 c1 _ (List.getElem_mem hlt))
  have i0 : inC 0 := by unfold inC; omega
  have i1 : inC 1 := by unfold inC; omega
  by_cases c2 : e.op = 10
  ·rw [if_pos c2];rw [c2] at hA;refine .bind (hA 0 (by decide)) fun a ha => ?_;split
   ·exact .ok i0
   ·exact .bind (hA 1 (by decide)) fun b hb => .ok (ze6 _)
  rw [if_neg c2];by_cases c3 : e.op = 11
  ·rw [if_pos c3];rw [c3] at hA;refine .bind (hA 0 (by decide)) fun a ha => ?_;split
   ·exact .ok i1
   ·exact .bind (hA 1 (by decide)) fun b hb => .ok (ze6 _)
  rw [if_neg c3];by_cases c4 : e.op = 12
  ·rw [if_pos c4];rw [c4] at hA;exact .bind (hA 0 (by decide)) fun a ha => .ok (ze6 _)
  rw [if_neg c4];by_cases c5 : e.op = 13
  ·rw [if_pos c5];rw [c5] at hA;refine .bind (hA 0 (by decide)) fun a ha => ?_;split
   ·exact hA 1 (by decide)
   ·exact hA 2 (by decide)
  rw [if_neg c5];have ho : zbb e.op = 2 := by unfold zbb; split <;> first | omega | (split <;> first | omega | (split <;> first | omega | (split <;> omega)))
  rw [ho] at hA;exact .bind (hA 0 (by decide)) fun a ha => .bind (hA 1 (by decide)) fun b hb => .ret (fun v hv => zqs ha hb hv) (fun e he => by rcases zpm he with h | h <;> omega)
theorem znQ {r : Except Int Int} (h : ∀ v, r = .ok v -> inC v) : inC (zg1 r).1 := by
 cases r with
 | ok v => exact h v rfl
 | error e => show inC 0; unfold inC; omega
theorem zm0 {v e : Int} (h : inC v) : ∀ w, zjN v e = .ok w -> inC w := fun w hw => by
 unfold zjN at hw;split at hw
 ·cases hw; exact h
 ·cases hw
theorem zkG {v e w : Int} (hw : zjN v e = .error w) : w ≠ 0 := by
 unfold zjN at hw;split at hw
 ·cases hw
 ·rename_i h; cases hw; exact h
theorem zna {lets : List Let} {given : List UInt8 -> Option Int} (hl : ∀ l ∈ lets, zaO 12 l.body = true) (hg : ∀ s v, given s = some v -> inC v) : ∀ n s, TMok lets.length (nmT lets given n s)
 | 0, s => by
  rw [nmT];cases hgs : given s with
  | some v => exact .ok (hg s v hgs)
  | none => exact .ret (fun v hv => by cases hv) (fun e he => by cases he; decide)
 | n + 1, s => by
  rw [nmT];cases hgs : given s with
  | some v => exact .ok (hg s v hgs)
  | none =>
   simp only;cases hx : lets[n]? with
   | none => exact .ret (fun v hv => by cases hv) (fun e he => by cases he; decide)
   | some l =>
    simp only;split
    ·intro t ht;have main : TabOK lets.length ((zlg (nmT lets given n) (zcz (lets.take n)) l.body t).2.set n (zg1 (zlg (nmT lets given n) (zcz (lets.take n)) l.body t).1)) /\
       (∀ v, zjN (zg1 (zlg (nmT lets given n) (zcz (lets.take n)) l.body t).1).1 (zg1 (zlg (nmT lets given n) (zcz (lets.take n)) l.body t).1).2.1 = .ok v -> inC v) /\
       (∀ e, zjN (zg1 (zlg (nmT lets given n) (zcz (lets.take n)) l.body t).1).1 (zg1 (zlg (nmT lets given n) (zcz (lets.take n)) l.body t).1).2.1 = .error e -> e ≠ 0) := by
      obtain ⟨g1, g2, g3⟩ := zjR (zna hl hg n) 12 l.body (hl l (List.mem_of_getElem? hx)) (sh := zcz (lets.take n)) t ht;refine ⟨⟨by rw [List.length_set]; exact g1.len, fun i v e d hi => ?_⟩, zm0 (znQ g2), fun e he => zkG he⟩;rw [List.getElem?_set] at hi;split at hi
      ·split at hi
       ·have h5 := znQ g2;have h6 := Option.some.inj hi;rw [h6] at h5;exact h5
       ·cases hi
      ·exact g1.small i v e d hi
     rcases hti : t[n]? with _ | ⟨v, e, d⟩
     ·simp only [hti]; exact main
     ·cases d
      ·simp only [hti]; exact main
      ·simp only [hti];exact ⟨ht, zm0 (ht.small n v e true hti), fun e he => zkG he⟩
    ·exact zna hl hg n s
theorem zmu {lets : List Let} {given : List UInt8 -> Option Int} (hl : ∀ l ∈ lets, zaO 12 l.body = true) (hg : ∀ s v, given s = some v -> inC v) (n d : Nat) (e : Exp) (h : zaO d e = true) : TMok lets.length (zbF lets given n e) :=
 zjR (zna hl hg n) d e h
end Go.Proofs.YtepiegcjnaohjaaGreatDoor
namespace Go.Proofs.YtepiegcjnaohjaaGreatDoor
open Go Go.VL
attribute [local simp] HS zc6 zb2 evPure opd uOf zaC St.put St.at getK binD binI binS binB nilD aggD zhd zir lookD lookR zcB rangeS Go.VL.nextD Go.VL.nextS zcD ziF ziE zgE zbX mkV za8 zbj zbi zbh zc0 zbc zbq zbC mapEff zdd zf0 Key.kk shiftI arith unD convD zd4 loadD cellsAt fieldAddrD fieldD indexAddrD indexSlD arrAddr indexD sliceD cutD lenD minmaxD nilCheckD buildD fillD zbS zde zeV setAll zcM zeM zcv zhH zcr St.add zaS zbP rowsOf zdS zcw zak zac zaa zbm zcX zaQ entry zbI zbR valD zbU zcx zg2 zdv zdw zbZ zbO zaw zaR zbs delAll effD St.effS zdb zbk za1 zdc zbl za3 zcf za2 zaV zcg zc7 zbJ zcd zbt zcb zcc zau mkD zbw zbD zbN zaw zcu D.ids Op.operands Call.operands zbz makeIfD makeFuncD typeAssertD zio zdI zdJ zhX zcC IntKind.bits zcG List.take_of_length_le List.range_succ
attribute [local irreducible] V G H HD HD2 HD4 zmf RetX zap Eff CallP CallV EndOK Fun Ret FinOK LoopI LoopW EndW
theorem zfn (l : List Int) (hl : l.length <= 1000000) : Fun Tryz.prog 102 [.u (zcO l)] (· = .u (zcO l)) := by
 cases l with
 | nil =>
  (refine Fun.of_bodyW Tryz.func102 rfl (by simp) fun Γ hn => ?_); simp only [entry, ziC, ziN, maC, maN, oA, Tryz.ntmps102]
  simp only [zcO, List.map_nil];refine zme (x := 0) rfl ?_ (fun a cp => ?_)
  ·repeat' (first
  | ((first | refine zag ?_ | refine zaj ?_ | refine zah ?_ | refine zai ?_ | fail); simp)
  | (refine zar ?_; simp only [zap])
  | fail)
   refine EndW.norm (EndW.here ?_)
   (refine EndOK.val (.inr rfl) ?_; simp [zaz, zaf, zas, Tryz.results102, zaD, zaE, zcS, zcT, frz, zbg, frzS, fv, za5, za6, za7, zaH, zay, zav, zbG, zb1, zbV, za9])
  ·repeat' (first
  | ((first | refine zag ?_ | refine zaj ?_ | refine zah ?_ | refine zai ?_ | fail); simp)
  | ((first | refine zar ?_ | refine zaq ?_ | fail); simp only [zap])
  | fail)
   (refine EndW.frzN 1 ?_; simp [frzN, frz1, zaE, zaD, St.frz, St.frzS, frzS, fv, za5, za6, za7, zaH, zay, zav, del, frz, zbg])
   refine EndW.norm (EndW.here ?_)
   (refine EndOK.val (.inr rfl) ?_; simp [zaz, zaf, zas, Tryz.results102, zaD, zaE, zcS, zcT, frz, zbg, frzS, fv, za5, za6, za7, zaH, zay, zav, zbG, zb1, zbV, za9])
 | cons x l =>
  simp only [List.length_cons] at hl
  (refine Fun.of_bodyW Tryz.func102 rfl (by simp) fun Γ hn => ?_); simp only [entry, ziC, ziN, maC, maN, oA, Tryz.ntmps102]
  simp only [zcO, List.map_cons]
  repeat' (first
  | ((first | refine zag ?_ | refine zaj ?_ | fail); simp)
  | (refine ⟨by omega, ?_⟩)
  | ((first | refine zah ?_ | refine zai ?_ | fail); simp)
  | ((first | refine zar ?_ | refine zaq ?_ | fail); simp only [zap])
  | fail)
  (refine EndW.frzN 1 ?_; simp [frzN, frz1, zaE, zaD, St.frz, St.frzS, frzS, fv, za5, za6, za7, zaH, zay, zav, del, frz, zbg])
  refine EndW.here ?_
  (refine EndOK.val (.inr rfl) ?_; simp [zaz, zaf, zas, Tryz.results102, zaD, zaE, zcS, zcT, frz, zbg, frzS, fv, za5, za6, za7, zaH, zay, zav, zbG, zb1, zbV, za9])
theorem zeI (c : Cl) (h1 : c.jury.length <= 1000000) (h2 : c.again.length <= 1000000) : Fun Tryz.prog 103 [.u (clU c)] (· = .u (clU c)) := by
 have e1 := zfn c.jury h1;have e2 := zfn c.again h2;unfold zcO at e1 e2;unfold clU zaY
 (refine Fun.of_bodyW Tryz.func103 rfl (by simp) fun Γ hn => ?_); simp only [entry, ziC, ziN, maC, maN, oA, Tryz.ntmps103]
 repeat' (first
  | ((first | refine zag ?_ | refine zaN rfl ?_ | refine zci rfl ?_ | refine zaj ?_ | refine zah ?_ | fail); simp)
  | (refine za4 (hC _ (by kernel_rfl)) (hk _ ?_); clear hC hk C k; simp only [zap])
  | (refine zaM rfl (by kernel_rfl) (by first | (simp [hn]; done) | (simp [hn]; omega) | fail) fun C k hC hk => ?_; simp)
  | (refine zar ?_; simp only [zap])
  | (refine CallV.fun_ (e1) (by first | rfl | fail) (by first | (simp; done) | (simp; rfl) | fail) ?_ <;> (try simp))
  | (refine CallV.fun_ (e2) (by first | rfl | fail) (by first | (simp; done) | (simp; rfl) | fail) ?_ <;> (try simp))
  | fail)
 refine EndW.here ?_
 (refine EndOK.val (.inr rfl) ?_; simp [zaz, zaf, zas, Tryz.results103])
theorem zk3 (n : Int) : Fun Tryz.prog 104 [.u (.int .i64 n)] (· = .u (.bool (zl5 n))) := by
 unfold zl5;by_cases c1 : 0 <= n
 ·by_cases c2 : n <= 1048576
  ·(refine Fun.of_body Tryz.func104 rfl (by simp) fun Γ hn => ?_); simp only [entry, ziC, ziN, maC, maN, oA, Tryz.ntmps104]
   repeat' (first
  | ((first | refine zag ?_ | refine zaj ?_ | refine zah ?_ | fail); simp [c1, c2])
  | (refine zar ?_; simp only [zap])
  | fail)
   (refine EndOK.val (.inr rfl) ?_; simp [zaz, zaf, zas, Tryz.results104])
   try simp [c1, c2]
  ·(refine Fun.of_body Tryz.func104 rfl (by simp) fun Γ hn => ?_); simp only [entry, ziC, ziN, maC, maN, oA, Tryz.ntmps104]
   repeat' (first
  | ((first | refine zag ?_ | refine zaj ?_ | refine zah ?_ | fail); simp [c1, c2])
  | (refine zar ?_; simp only [zap])
  | fail)
   (refine EndOK.val (.inr rfl) ?_; simp [zaz, zaf, zas, Tryz.results104])
   try simp [c1, c2]
 ·(refine Fun.of_body Tryz.func104 rfl (by simp) fun Γ hn => ?_); simp only [entry, ziC, ziN, maC, maN, oA, Tryz.ntmps104]
  repeat' (first
  | ((first | refine zag ?_ | refine zaj ?_ | refine zah ?_ | fail); simp [c1])
  | (refine zar ?_; simp only [zap])
  | fail)
  (refine EndOK.val (.inr rfl) ?_; simp [zaz, zaf, zas, Tryz.results104])
  try simp [c1]
theorem zlP (l : List Int) (hl : l.length <= 1000000) : Fun Tryz.prog 226 [.u (zcO l)] (· = .u (.bool (zc8 l))) := by
 obtain ⟨R, hR⟩ : ∃ R, R = zc8 l := ⟨_, rfl⟩;rw [<- hR];by_cases h0 : l.length = 0
 ·have e : l = [] := List.eq_nil_of_length_eq_zero h0;subst e;have e2 : R = false := by rw [hR]; rfl
  rw [e2];simp only [zcO, List.map_nil]
  (refine Fun.of_body Tryz.func226 rfl (by simp) fun Γ hn => ?_); simp only [entry, ziC, ziN, maC, maN, oA, Tryz.ntmps226]
  repeat' (first
  | ((first | refine zag ?_ | refine zaj ?_ | refine zah ?_ | refine zai ?_ | fail); simp)
  | (refine zar ?_; simp only [zap])
  | fail)
  (refine EndOK.val (.inr rfl) ?_; simp [zaz, zaf, zas, Tryz.results226])
 have h0' : ¬ (l.length : Int) = 0 := by omega
 have hne0 : l ≠ [] := fun e => h0 (by rw [e]; rfl);unfold zcO;by_cases h60 : 60 < l.length
 ·have h60' : (60 : Int) < l.length := by omega
  have e2 : R = false := by rw [hR, zc8]; simp; omega
  rw [e2]
  (refine Fun.of_body Tryz.func226 rfl (by simp) fun Γ hn => ?_); simp only [entry, ziC, ziN, maC, maN, oA, Tryz.ntmps226]
  repeat' (first
  | ((first | refine zag ?_ | refine zaj ?_ | refine zah ?_ | refine zai ?_ | fail); simp [h0, h0', h60', hne0])
  | (refine zar ?_; simp only [zap])
  | fail)
  (refine EndOK.val (.inr rfl) ?_; simp [zaz, zaf, zas, Tryz.results226])
 have h60' : ¬ (60 : Int) < l.length := by omega
 (refine Fun.of_body Tryz.func226 rfl (by simp) fun Γ hn => ?_); simp only [entry, ziC, ziN, maC, maN, oA, Tryz.ntmps226]
 repeat' (first
  | ((first | refine zag ?_ | refine zaj ?_ | refine zah ?_ | refine zai ?_ | refine zao ?_ | fail); simp [h0, h0', h60', hne0])
  | (refine zaq ?_; simp only [zap])
  | fail)
 refine zbH (α := { i : Nat // i <= l.length /\ (l.take i).Nodup /\ ∀ y ∈ l.take i, 0 <= y /\ y < 200 }) [0, 13, 14] (fun i => [(15, .u (.int .i64 i.1))]) (fun i => l.length - i.1) ⟨0, by omega, by simp, by simp⟩ ?_ ?_
 ·exact (Wk.env rfl rfl rfl (by simp [wkE, St.lp, zam, zaa, getK] <;> (try (intros; simp_all; done)) <;> (try (intros; omega)) <;> (try grind)))
 rintro ⟨i, hi, hd, hb⟩;simp [St.lp, St.only, zam, zaa, getK];rcases hx : l[i]? with _ | x
 ·have hge : l.length <= i := by simpa using hx
  obtain rfl : i = l.length := by omega
  rw [List.take_length] at hd hb;have e2 : R = true := by rw [hR]; exact zgj hne0 (by omega) hd hb
  rw [e2]
  repeat' (first
  | ((first | refine zag ?_ | refine zaj ?_ | refine zah ?_ | fail); simp [hx])
  | (refine zar ?_; simp only [zap])
  | (refine zaZ ?_; simp [zap])
  | fail)
  (refine EndOK.val (.inr rfl) ?_; simp [zaz, zaf, zas, Tryz.results226])
 ·have hlt : i < l.length := (lGE.1 hx).1;have hle : (i : Int) <= l.length := by omega
  have hct := zfl (l.take i) x (by rw [List.length_take]; omega);simp only [zcO, List.map_take] at hct;by_cases hr : x < 0 \/ 200 <= x
  ·have e2 : R = false := by rw [hR]; exact zex hx (.inl hr)
   rw [e2];rcases hr with hr | hr
   ·repeat' (first
  | ((first | refine zag ?_ | refine zaj ?_ | refine zah ?_ | refine zai ?_ | fail); simp [hx, hr])
  | ((first | refine zar ?_ | refine zaq ?_ | fail); simp only [zap])
  | (refine ⟨?_, by omega⟩)
  | (intro hc <;> (try (exfalso; omega)))
  | fail)
    (refine EndOK.val (.inr rfl) ?_; simp [zaz, zaf, zas, Tryz.results226])
   ·have hr2 : ¬ x < 0 := by omega
    repeat' (first
  | ((first | refine zag ?_ | refine zaj ?_ | refine zah ?_ | refine zai ?_ | fail); simp [hx, hr, hr2])
  | ((first | refine zar ?_ | refine zaq ?_ | fail); simp only [zap])
  | (refine ⟨?_, by omega⟩)
  | (intro hc <;> (try (exfalso; omega)))
  | fail)
    (refine EndOK.val (.inr rfl) ?_; simp [zaz, zaf, zas, Tryz.results226])
  ·have hr1 : ¬ x < 0 := by omega
   have hr2 : ¬ 200 <= x := by omega
   by_cases hm : x ∈ l.take i
   ·rw [decide_eq_true hm] at hct;have e2 : R = false := by rw [hR]; exact zex hx (.inr hm)
    rw [e2]
    repeat' (first
  | ((first | refine zag ?_ | refine zaj ?_ | refine zah ?_ | refine zai ?_ | fail); simp [hx, hr1, hr2, hle])
  | ((first | refine zar ?_ | refine zaq ?_ | fail); simp only [zap])
  | (refine ⟨?_, by omega⟩)
  | (intro hc <;> (try (exfalso; omega)))
  | (refine CallP.fE (hct) (by first | rfl | fail) (by first | simp [hx, hr1, hr2, hle] <;> rfl | fail) ?_; (try simp [hx, hr1, hr2, hle]))
  | fail)
    (refine EndOK.val (.inr rfl) ?_; simp [zaz, zaf, zas, Tryz.results226])
   ·rw [decide_eq_false hm] at hct
    repeat' (first
  | ((first | refine zag ?_ | refine zaj ?_ | fail); simp [hx, hr1, hr2, hle])
  | (refine ⟨by omega, ?_⟩)
  | ((first | refine zah ?_ | refine zai ?_ | refine zat ?_ | fail); simp [hx, hr1, hr2, hle])
  | (refine zaq ?_; simp only [zap])
  | (refine ⟨?_, by omega⟩)
  | (intro hc <;> (try (exfalso; omega)))
  | (refine CallP.fE (hct) (by first | rfl | fail) (by first | simp [hx, hr1, hr2, hle] <;> rfl | fail) ?_; (try simp [hx, hr1, hr2, hle]))
  | fail)
    refine LoopW.next ⟨i + 1, by omega, ?_, fun y hy => ?_⟩ (by simp; omega) ?_
    ·rw [List.take_succ, hx, List.nodup_append];exact ⟨hd, by simp, fun a h1 b h2 => by simp at h2; subst h2; intro e; exact hm (e ▸ h1)⟩
    ·rw [List.take_succ, hx] at hy;rcases List.mem_append.1 hy with h | h
     ·exact hb y h
     ·simp at h; subst h; omega
    exact (Wk.env rfl rfl rfl (by simp [wkE, St.lp, zam, zaa, getK] <;> (try (intros; simp_all; done)) <;> (try (intros; omega)) <;> (try grind)))
theorem zo4 (jury : List Int) (l : List Vo) (hm : jury.length <= 1000000) (hl : l.length <= 1000000) : Fun Tryz.prog 178 [.u (zcO jury), .u (voU l)] (· = .tup [.u (.int .i64 (zg7 jury l).1), .u (.int .i64 (zg7 jury l).2)]) := by
 have h1 := zlP jury hm;obtain ⟨R, hR⟩ : ∃ R, R = zg7 jury l := ⟨_, rfl⟩;rw [<- hR];unfold zg7 at hR;cases hv : zc8 jury with
 | false =>
  rw [hv] at h1 hR;rw [if_pos rfl] at hR;subst hR;simp only [zcO, voU] at *
  (refine Fun.of_bodyW Tryz.func178 rfl (by simp) fun Γ hn => ?_); simp only [entry, ziC, ziN, maC, maN, oA, Tryz.ntmps178]
  repeat' (first
  | ((first | refine zag ?_ | refine zaj ?_ | refine zah ?_ | refine zai ?_ | fail); simp)
  | (refine zar ?_; simp only [zap])
  | (refine CallP.fE (h1) (by first | rfl | fail) (by first | (simp; done) | (simp; rfl) | fail) ?_; (try simp))
  | fail)
  refine EndW.here ?_
  (refine EndOK.val (.inr rfl) ?_; simp [zaz, zaf, zas, Tryz.results178])
 | true =>
  rw [hv] at h1 hR;rw [if_neg (by simp)] at hR;simp only at hR;have h2 : ∀ u, (∀ v ∈ l, v.day <= u) -> Fun Tryz.prog 60 [.u (zcO jury), .u (voU l), .u (.int .i64 u)] (· = .u (voU (zoh jury [] l))) := fun u hu => by
   have := zkj jury l u hm hl
   rwa [znW, if_pos hv, zip _ _ _ _ hu] at this
  have hcl := ziq jury l [];generalize zoh jury [] l = C at *;have hyl := zpF C;have hd : Int.tdiv (jury.length : Int) 2 = ((jury.length / 2 : Nat) : Int) := by rw [Int.tdiv_eq_ediv_of_nonneg (by omega)]; omega
  simp only [zcO, voU] at *
  (refine Fun.of_bodyW Tryz.func178 rfl (by simp) fun Γ hn => ?_); simp only [entry, ziC, ziN, maC, maN, oA, Tryz.ntmps178]
  repeat' (first
  | ((first | refine zag ?_ | refine zaj ?_ | refine zah ?_ | refine zai ?_ | refine zao ?_ | fail); simp)
  | (refine zaq ?_; simp only [zap])
  | (refine CallP.fE (h1) (by first | rfl | fail) (by first | (simp; done) | (simp; rfl) | fail) ?_; (try simp))
  | fail)
  refine zbH (α := { q : Nat × Int // q.1 <= l.length /\ ∀ v ∈ l.take q.1, v.day <= q.2 }) [0, 1, 17, 18] (fun q => [(6, .u (.int .i64 q.1.2)), (19, .u (.int .i64 q.1.1))]) (fun q => l.length - q.1.1) ⟨(0, 0), by simp⟩ ?_ ?_
  ·exact (Wk.cut rfl (by simp [hn, St.lp]) (by simp [wkO, St.lp, zaa, getK, Ob.under, D.under, zad, zae]) (by simp [wkU, St.lp, zam, zaa, getK, D.under]) (by simp [wkE, St.lp, zam, zaa, getK] <;> (try (intros; simp_all; done)) <;> (try (intros; omega)) <;> (try grind)))
  rintro ⟨⟨i, u⟩, hi, hu⟩;simp only at hi hu;simp [St.lp, St.only, zam, zaa, getK];rcases hx : l[i]? with _ | v
  ·have hge : l.length <= i := by simpa using hx
   obtain rfl : i = l.length := by omega
   rw [List.take_length] at hu;have h3 := h2 u hu
   repeat' (first
  | ((first | refine zag ?_ | refine zaj ?_ | refine zah ?_ | refine zao ?_ | fail); simp [hx])
  | (refine zaZ ?_; simp [zap])
  | (refine CallP.fE (h3) (by first | rfl | fail) (by first | simp [hx] <;> rfl | fail) ?_; (try simp [hx]))
  | fail)
   refine zbH (α := { i : Nat // i <= C.length }) [0, 9, 32, 33] (fun i => [(10, .u (.int .i64 (zjP (C.take i.1)))), (34, .u (.int .i64 i.1))]) (fun i => C.length - i.1) ⟨0, by omega⟩ ?_ ?_
   ·exact (Wk.cut rfl (by simp [hn, St.lp]) (by simp [wkO, St.lp, zaa, getK, Ob.under, D.under, zad, zae, zjP]) (by simp [wkU, St.lp, zam, zaa, getK, D.under, zjP]) (by simp [wkE, St.lp, zam, zaa, getK, zjP] <;> (try (intros; simp_all; done)) <;> (try (intros; omega)) <;> (try grind)))
   rintro ⟨i, hi⟩;simp [St.lp, St.only, zam, zaa, getK];rcases hx : C[i]? with _ | v
   ·have hge : C.length <= i := by simpa using hx
    obtain rfl : i = C.length := by omega
    simp only [List.take_length];generalize zjP C = Y at *;by_cases c1 : ((jury.length / 2 : Nat) : Int) + 1 <= Y
    ·rw [if_pos c1] at hR;subst hR
     repeat' (first
  | ((first | refine zag ?_ | refine zaj ?_ | fail); simp [hx, hd, c1])
  | (refine ⟨by omega, ?_⟩)
  | ((first | refine zah ?_ | refine zai ?_ | fail); simp [hx, hd, c1])
  | (refine zar ?_; simp only [zap])
  | (refine zaZ ?_; simp [zap])
  | (refine ⟨?_, by omega⟩)
  | (intro hc <;> (try (exfalso; omega)))
  | fail)
     refine EndW.here ?_
     (refine EndOK.val (.inr rfl) ?_; simp [zaz, zaf, zas, Tryz.results178])
    ·rw [if_neg c1] at hR;by_cases c2 : (jury.length : Int) - (((jury.length / 2 : Nat) : Int) + 1) < (C.length : Int) - Y
     ·rw [if_pos c2] at hR;subst hR
      repeat' (first
  | ((first | refine zag ?_ | refine zaj ?_ | fail); simp [hx, hd, c1, c2])
  | (refine ⟨by omega, ?_⟩)
  | ((first | refine zah ?_ | refine zai ?_ | fail); simp [hx, hd, c1, c2])
  | (refine zar ?_; simp only [zap])
  | (refine zaZ ?_; simp [zap])
  | (refine ⟨?_, by omega⟩)
  | (intro hc <;> (try (exfalso; omega)))
  | fail)
      refine EndW.here ?_
      (refine EndOK.val (.inr rfl) ?_; simp [zaz, zaf, zas, Tryz.results178])
     ·rw [if_neg c2] at hR;subst hR
      repeat' (first
  | ((first | refine zag ?_ | refine zaj ?_ | fail); simp [hx, hd, c1, c2])
  | (refine ⟨by omega, ?_⟩)
  | ((first | refine zah ?_ | refine zai ?_ | fail); simp [hx, hd, c1, c2])
  | ((first | refine zar ?_ | refine zaq ?_ | fail); simp only [zap])
  | (refine zaZ ?_; simp [zap])
  | (intro hc <;> (try (exfalso; omega)))
  | fail)
      refine EndW.here ?_
      (refine EndOK.val (.inr rfl) ?_; simp [zaz, zaf, zas, Tryz.results178])
   ·have hlt : i < C.length := (lGE.1 hx).1;have hst := zoi hx;have hyl := zpF (C.take i);rw [List.length_take] at hyl;have hyl2 : zjP (C.take i) <= 1000000 := by omega
    cases hvy : v.yes with
    | true =>
     rw [if_pos hvy] at hst;generalize zjP (C.take i) = Y at *
     repeat' (first
  | ((first | refine zag ?_ | refine zaj ?_ | fail); simp [hx, hvy])
  | (refine ⟨by omega, ?_⟩)
  | ((first | refine zah ?_ | refine zai ?_ | refine zat ?_ | fail); simp [hx, hvy])
  | (refine zaq ?_; simp only [zap])
  | (refine ⟨?_, by omega⟩)
  | (intro hc <;> (try (exfalso; omega)))
  | fail)
     refine LoopW.next ⟨i + 1, by omega⟩ (by simp; omega) ?_
     exact (Wk.cut rfl (by simp [hn, St.lp]) (by simp [wkO, St.lp, zaa, getK, Ob.under, D.under, zad, zae, hst]) (by simp [wkU, St.lp, zam, zaa, getK, D.under, hst]) (by simp [wkE, St.lp, zam, zaa, getK, hst] <;> (try (intros; simp_all; done)) <;> (try (intros; omega)) <;> (try grind)))
    | false =>
     rw [if_neg (by simp [hvy])] at hst;generalize zjP (C.take i) = Y at *
     repeat' (first
  | ((first | refine zag ?_ | refine zaj ?_ | fail); simp [hx, hvy])
  | (refine ⟨by omega, ?_⟩)
  | ((first | refine zah ?_ | refine zai ?_ | refine zat ?_ | fail); simp [hx, hvy])
  | (refine zaq ?_; simp only [zap])
  | (refine ⟨?_, by omega⟩)
  | (intro hc <;> (try (exfalso; omega)))
  | fail)
     refine LoopW.next ⟨i + 1, by omega⟩ (by simp; omega) ?_
     exact (Wk.cut rfl (by simp [hn, St.lp]) (by simp [wkO, St.lp, zaa, getK, Ob.under, D.under, zad, zae, hst]) (by simp [wkU, St.lp, zam, zaa, getK, D.under, hst]) (by simp [wkE, St.lp, zam, zaa, getK, hst] <;> (try (intros; simp_all; done)) <;> (try (intros; omega)) <;> (try grind)))
  ·have hlt : i < l.length := (lGE.1 hx).1
   repeat' (first
  | ((first | refine zag ?_ | refine zaj ?_ | fail); simp [hx])
  | (refine ⟨by omega, ?_⟩)
  | ((first | refine zah ?_ | refine zat ?_ | fail); simp [hx])
  | (refine zaq ?_; simp only [zap])
  | (refine ⟨?_, by omega⟩)
  | (intro hc <;> (try (exfalso; omega)))
  | fail)
   refine LoopW.next ⟨(i + 1, max u v.day), by simp; omega, fun y hy => ?_⟩ (by simp; omega) ?_
   ·simp only at hy ⊢;rw [List.take_succ, hx] at hy;rcases List.mem_append.1 hy with h | h
    ·have := hu y h; omega
    ·simp at h; subst h; omega
   exact (Wk.cut rfl (by simp [hn, St.lp]) (by simp [wkO, St.lp, zaa, getK, Ob.under, D.under, zad, zae]) (by simp [wkU, St.lp, zam, zaa, getK, D.under]) (by simp [wkE, St.lp, zam, zaa, getK] <;> (try (intros; simp_all; done)) <;> (try (intros; omega)) <;> (try grind)))
theorem zjy (c : Cl) (l : List Vo) (h1 : c.jury.length <= 1000000) (h2 : c.again.length <= 1000000) (hl : l.length <= 1000000) : Fun Tryz.prog 105 [.u (clU c), .u (voU l)] (· = .u (.int .i64 (zqM c l))) := by
 have hj := zo4 (zea c) l (by unfold zea; split <;> assumption) hl;have hz : (zg7 (zea c) l).2 ≠ 0 -> (zg7 (zea c) l).1 = 0 := by
  unfold zg7; split
  ·simp
  ·simp only; split
   ·simp
   ·split <;> simp
 unfold zqM;unfold zea at *;by_cases c1 : c.again = []
 ·rw [if_pos c1] at hj hz ⊢;have c2 : (0 < c.again.length) = False := by rw [c1]; simp
  generalize zg7 c.jury l = J at *;obtain ⟨j1, j2⟩ := J;simp only at hj hz ⊢;unfold clU zaY voU;unfold zcO voU at hj;by_cases c3 : j2 = 0
  ·(refine Fun.of_bodyW Tryz.func105 rfl (by simp) fun Γ hn => ?_); simp only [entry, ziC, ziN, maC, maN, oA, Tryz.ntmps105]
   repeat' (first
  | ((first | refine zag ?_ | refine zaj ?_ | refine zah ?_ | refine zai ?_ | fail); simp [c2, c3])
  | ((first | refine zar ?_ | refine zaq ?_ | fail); simp only [zap])
  | (refine CallP.fE (hj) (by first | rfl | fail) (by first | simp [c2, c3] <;> rfl | fail) ?_; (try simp [c2, c3]))
  | fail)
   refine EndW.here ?_
   (refine EndOK.val (.inr rfl) ?_; simp [zaz, zaf, zas, Tryz.results105])
  ·rw [hz c3]
   (refine Fun.of_bodyW Tryz.func105 rfl (by simp) fun Γ hn => ?_); simp only [entry, ziC, ziN, maC, maN, oA, Tryz.ntmps105]
   repeat' (first
  | ((first | refine zag ?_ | refine zaj ?_ | refine zah ?_ | refine zai ?_ | fail); simp [c2, c3])
  | ((first | refine zar ?_ | refine zaq ?_ | fail); simp only [zap])
  | (refine CallP.fE (hj) (by first | rfl | fail) (by first | simp [c2, c3] <;> rfl | fail) ?_; (try simp [c2, c3]))
  | fail)
   refine EndW.here ?_
   (refine EndOK.val (.inr rfl) ?_; simp [zaz, zaf, zas, Tryz.results105])
 ·rw [if_neg c1] at hj hz ⊢;have c2 : (c.again = []) = False := eq_false c1;generalize zg7 c.again l = J at *;obtain ⟨j1, j2⟩ := J;simp only at hj hz ⊢;unfold clU zaY voU;unfold zcO voU at hj;by_cases c3 : j2 = 0
  ·(refine Fun.of_bodyW Tryz.func105 rfl (by simp) fun Γ hn => ?_); simp only [entry, ziC, ziN, maC, maN, oA, Tryz.ntmps105]
   repeat' (first
  | ((first | refine zag ?_ | refine zaj ?_ | refine zah ?_ | refine zai ?_ | refine zat ?_ | fail); simp [c2, c3])
  | ((first | refine zar ?_ | refine zaq ?_ | fail); simp only [zap])
  | (intro hc <;> (try (exfalso; omega)))
  | (refine CallP.fE (hj) (by first | rfl | fail) (by first | simp [c2, c3] <;> rfl | fail) ?_; (try simp [c2, c3]))
  | fail)
   refine EndW.here ?_
   (refine EndOK.val (.inr rfl) ?_; simp [zaz, zaf, zas, Tryz.results105])
  ·rw [hz c3]
   (refine Fun.of_bodyW Tryz.func105 rfl (by simp) fun Γ hn => ?_); simp only [entry, ziC, ziN, maC, maN, oA, Tryz.ntmps105]
   repeat' (first
  | ((first | refine zag ?_ | refine zaj ?_ | refine zah ?_ | refine zai ?_ | refine zat ?_ | fail); simp [c2, c3])
  | (refine zar ?_; simp only [zap])
  | (intro hc <;> (try (exfalso; omega)))
  | (refine CallP.fE (hj) (by first | rfl | fail) (by first | simp [c2, c3] <;> rfl | fail) ?_; (try simp [c2, c3]))
  | fail)
   refine EndW.here ?_
   (refine EndOK.val (.inr rfl) ?_; simp [zaz, zaf, zas, Tryz.results105])
theorem zfM {b : By} (h : zco b = true) : 1 <= b.period /\ b.period <= 1000 /\ 0 <= b.wait /\ b.wait <= 1000 := by
 simp [zco, zqh, inB] at h;omega
theorem zpN {n : Int} (h : zl5 n = true) : 0 <= n /\ n <= 1048576 := by
 simp [zl5] at h;exact h
theorem zey (c : Cl) (b : By) (cover : Int) (l : List Vo) (today : Int) (h1 : c.jury.length <= 1000000) (h2 : c.again.length <= 1000000) (hl : l.length <= 1000000) :
  Fun Tryz.prog 43 [.u (clU c), .u (.agg (zaI b)), .u (.int .i64 cover), .u (voU l), .u (.int .i64 today)] (· = .u (clU (ze8 c b cover l today))) := by
 have e1 := zeI c h1 h2;have e2 := zd3 b;have e3 := zk3 today;have e4 := zjy c l h1 h2 hl;obtain ⟨X, hX⟩ : ∃ X, X = ze8 c b cover l today := ⟨_, rfl⟩;rw [<- hX];unfold ze8 at hX;generalize zqM c l = v at *;cases hr : zco b with
 | false =>
  rw [hr] at e2 hX;rw [if_neg (by simp)] at hX;subst hX;unfold clU zaY zaI voU at *
  (refine Fun.of_bodyW Tryz.func43 rfl (by simp) fun Γ hn => ?_); simp only [entry, ziC, ziN, maC, maN, oA, Tryz.ntmps43]
  repeat' (first
  | ((first | refine zag ?_ | refine zaj ?_ | refine zah ?_ | refine zai ?_ | fail); simp)
  | (refine zar ?_; simp only [zap])
  | (refine CallP.fE (e1) (by first | rfl | fail) (by first | (simp; done) | (simp; rfl) | fail) ?_; (try simp))
  | (refine CallP.fE (e2) (by first | rfl | fail) (by first | (simp; done) | (simp; rfl) | fail) ?_; (try simp))
  | fail)
  refine EndW.here ?_
  (refine EndOK.val (.inr rfl) ?_; simp [zaz, zaf, zas, Tryz.results43])
 | true =>
 obtain ⟨p0, p1, p2, p3⟩ := zfM hr;rw [hr] at e2 hX;cases hd : zl5 today with
 | false =>
  rw [hd] at e3 hX;rw [if_neg (by simp)] at hX;subst hX;unfold clU zaY zaI voU at *
  (refine Fun.of_bodyW Tryz.func43 rfl (by simp) fun Γ hn => ?_); simp only [entry, ziC, ziN, maC, maN, oA, Tryz.ntmps43]
  repeat' (first
  | ((first | refine zag ?_ | refine zaj ?_ | refine zah ?_ | refine zai ?_ | fail); simp)
  | (refine zar ?_; simp only [zap])
  | (refine CallP.fE (e1) (by first | rfl | fail) (by first | (simp; done) | (simp; rfl) | fail) ?_; (try simp))
  | (refine CallP.fE (e2) (by first | rfl | fail) (by first | (simp; done) | (simp; rfl) | fail) ?_; (try simp))
  | (refine CallP.fE (e3) (by first | rfl | fail) (by first | (simp; done) | (simp; rfl) | fail) ?_; (try simp))
  | fail)
  refine EndW.here ?_
  (refine EndOK.val (.inr rfl) ?_; simp [zaz, zaf, zas, Tryz.results43])
 | true =>
 obtain ⟨d0, d1⟩ := zpN hd;rw [hd] at e3 hX;rw [if_pos ⟨rfl, rfl⟩] at hX;by_cases s0 : c.state = 0
 case neg =>
  rw [if_neg s0] at hX;unfold zfP at hX;by_cases s1 : c.state = 1
  ·by_cases s2 : c.frm <= today + 1
   ·rw [if_pos ⟨s1, s2⟩] at hX;subst hX;unfold clU zaY zaI voU at *
    (refine Fun.of_bodyW Tryz.func43 rfl (by simp) fun Γ hn => ?_); simp only [entry, ziC, ziN, maC, maN, oA, Tryz.ntmps43]
    repeat' (first
  | ((first | refine zag ?_ | refine zaj ?_ | fail); simp [s0, s1, s2])
  | (refine ⟨by omega, ?_⟩)
  | ((first | refine zah ?_ | refine zai ?_ | refine zat ?_ | fail); simp [s0, s1, s2])
  | ((first | refine zar ?_ | refine zaq ?_ | fail); simp only [zap])
  | (refine CallP.fE (e1) (by first | rfl | fail) (by first | simp [s0, s1, s2] <;> rfl | fail) ?_; (try simp [s0, s1, s2]))
  | (refine CallP.fE (e2) (by first | rfl | fail) (by first | simp [s0, s1, s2] <;> rfl | fail) ?_; (try simp [s0, s1, s2]))
  | (refine CallP.fE (e3) (by first | rfl | fail) (by first | simp [s0, s1, s2] <;> rfl | fail) ?_; (try simp [s0, s1, s2]))
  | fail)
    refine EndW.here ?_
    (refine EndOK.val (.inr rfl) ?_; simp [zaz, zaf, zas, Tryz.results43])
   ·rw [if_neg (fun h => s2 h.2)] at hX;subst hX;unfold clU zaY zaI voU at *
    (refine Fun.of_bodyW Tryz.func43 rfl (by simp) fun Γ hn => ?_); simp only [entry, ziC, ziN, maC, maN, oA, Tryz.ntmps43]
    repeat' (first
  | ((first | refine zag ?_ | refine zaj ?_ | fail); simp [s0, s1, s2])
  | (refine ⟨by omega, ?_⟩)
  | ((first | refine zah ?_ | refine zai ?_ | fail); simp [s0, s1, s2])
  | ((first | refine zar ?_ | refine zaq ?_ | fail); simp only [zap])
  | (refine CallP.fE (e1) (by first | rfl | fail) (by first | simp [s0, s1, s2] <;> rfl | fail) ?_; (try simp [s0, s1, s2]))
  | (refine CallP.fE (e2) (by first | rfl | fail) (by first | simp [s0, s1, s2] <;> rfl | fail) ?_; (try simp [s0, s1, s2]))
  | (refine CallP.fE (e3) (by first | rfl | fail) (by first | simp [s0, s1, s2] <;> rfl | fail) ?_; (try simp [s0, s1, s2]))
  | fail)
    refine EndW.here ?_
    (refine EndOK.val (.inr rfl) ?_; simp [zaz, zaf, zas, Tryz.results43])
  ·rw [if_neg (fun h => s1 h.1)] at hX;subst hX;unfold clU zaY zaI voU at *
   (refine Fun.of_bodyW Tryz.func43 rfl (by simp) fun Γ hn => ?_); simp only [entry, ziC, ziN, maC, maN, oA, Tryz.ntmps43]
   repeat' (first
  | ((first | refine zag ?_ | refine zaj ?_ | refine zah ?_ | refine zai ?_ | fail); simp [s0, s1])
  | ((first | refine zar ?_ | refine zaq ?_ | fail); simp only [zap])
  | (refine CallP.fE (e1) (by first | rfl | fail) (by first | simp [s0, s1] <;> rfl | fail) ?_; (try simp [s0, s1]))
  | (refine CallP.fE (e2) (by first | rfl | fail) (by first | simp [s0, s1] <;> rfl | fail) ?_; (try simp [s0, s1]))
  | (refine CallP.fE (e3) (by first | rfl | fail) (by first | simp [s0, s1] <;> rfl | fail) ?_; (try simp [s0, s1]))
  | fail)
   refine EndW.here ?_
   (refine EndOK.val (.inr rfl) ?_; simp [zaz, zaf, zas, Tryz.results43])
 rw [if_pos s0] at hX;by_cases c1 : v = 1 /\ 0 < c.proofs
 ·by_cases c3 : 0 < zgK c cover
  ·have hru : zfT c b.wait b.period v cover today = { c with state := 1, grant := zgK c cover, frm := today + 1 + b.wait } := by rw [zfT, if_pos c1, if_pos c3]
   obtain ⟨c1, c2⟩ := c1;rw [hru] at hX;unfold zfP at hX;unfold zgK at hX c3;by_cases c4 : b.wait = 0
   ·rw [if_pos ⟨rfl, by simp only; omega⟩] at hX;subst hX;have c5 : today + 1 + b.wait <= today + 1 := by omega
    unfold clU zaY zaI voU at *
    (refine Fun.of_bodyW Tryz.func43 rfl (by simp) fun Γ hn => ?_); simp only [entry, ziC, ziN, maC, maN, oA, Tryz.ntmps43]
    repeat' (first
  | ((first | refine zag ?_ | refine zaN rfl ?_ | refine zci rfl ?_ | refine zaj ?_ | fail); simp [s0, c1, c2, c3, c5])
  | (refine ⟨by omega, ?_⟩)
  | ((first | refine zah ?_ | refine zai ?_ | fail); simp [s0, c1, c2, c3, c5])
  | (refine za4 (hC _ (by kernel_rfl)) (hk _ ?_); clear hC hk C k; simp only [zap])
  | (refine zaM rfl (by kernel_rfl) (by first | (simp [hn]; done) | (simp [hn]; omega) | fail) fun C k hC hk => ?_; simp [s0, c1, c2, c3, c5])
  | ((first | refine zao ?_ | refine zat ?_ | fail); simp [s0, c1, c2, c3, c5])
  | ((first | refine zar ?_ | refine zaq ?_ | fail); simp only [zap])
  | (refine CallP.fE (e1) (by first | rfl | fail) (by first | simp [s0, c1, c2, c3, c5] <;> rfl | fail) ?_; (try simp [s0, c1, c2, c3, c5]))
  | (refine CallP.fE (e2) (by first | rfl | fail) (by first | simp [s0, c1, c2, c3, c5] <;> rfl | fail) ?_; (try simp [s0, c1, c2, c3, c5]))
  | (refine CallP.fE (e3) (by first | rfl | fail) (by first | simp [s0, c1, c2, c3, c5] <;> rfl | fail) ?_; (try simp [s0, c1, c2, c3, c5]))
  | (refine CallP.fE (e4) (by first | rfl | fail) (by first | simp [s0, c1, c2, c3, c5] <;> rfl | fail) ?_; (try simp [s0, c1, c2, c3, c5]))
  | fail)
    refine EndW.here ?_
    (refine EndOK.val (.inr rfl) ?_; simp [zaz, zaf, zas, Tryz.results43])
   ·rw [if_neg (fun h => by have := h.2; simp only at this; omega)] at hX;subst hX;have c5 : ¬ today + 1 + b.wait <= today + 1 := by omega
    unfold clU zaY zaI voU at *
    (refine Fun.of_bodyW Tryz.func43 rfl (by simp) fun Γ hn => ?_); simp only [entry, ziC, ziN, maC, maN, oA, Tryz.ntmps43]
    repeat' (first
  | ((first | refine zag ?_ | refine zaN rfl ?_ | refine zci rfl ?_ | refine zaj ?_ | fail); simp [s0, c1, c2, c3, c5])
  | (refine ⟨by omega, ?_⟩)
  | ((first | refine zah ?_ | refine zai ?_ | fail); simp [s0, c1, c2, c3, c5])
  | (refine za4 (hC _ (by kernel_rfl)) (hk _ ?_); clear hC hk C k; simp only [zap])
  | (refine zaM rfl (by kernel_rfl) (by first | (simp [hn]; done) | (simp [hn]; omega) | fail) fun C k hC hk => ?_; simp [s0, c1, c2, c3, c5])
  | (refine zao ?_; simp [s0, c1, c2, c3, c5])
  | ((first | refine zar ?_ | refine zaq ?_ | fail); simp only [zap])
  | (refine CallP.fE (e1) (by first | rfl | fail) (by first | simp [s0, c1, c2, c3, c5] <;> rfl | fail) ?_; (try simp [s0, c1, c2, c3, c5]))
  | (refine CallP.fE (e2) (by first | rfl | fail) (by first | simp [s0, c1, c2, c3, c5] <;> rfl | fail) ?_; (try simp [s0, c1, c2, c3, c5]))
  | (refine CallP.fE (e3) (by first | rfl | fail) (by first | simp [s0, c1, c2, c3, c5] <;> rfl | fail) ?_; (try simp [s0, c1, c2, c3, c5]))
  | (refine CallP.fE (e4) (by first | rfl | fail) (by first | simp [s0, c1, c2, c3, c5] <;> rfl | fail) ?_; (try simp [s0, c1, c2, c3, c5]))
  | fail)
    refine EndW.here ?_
    (refine EndOK.val (.inr rfl) ?_; simp [zaz, zaf, zas, Tryz.results43])
  ·have hru : zfT c b.wait b.period v cover today = { c with state := 3, frm := today } := by rw [zfT, if_pos c1, if_neg c3]
   obtain ⟨c1, c2⟩ := c1;rw [hru] at hX;unfold zfP at hX;unfold zgK at c3;rw [if_neg (fun h => by have := h.1; simp at this)] at hX;subst hX;unfold clU zaY zaI voU at *
   (refine Fun.of_bodyW Tryz.func43 rfl (by simp) fun Γ hn => ?_); simp only [entry, ziC, ziN, maC, maN, oA, Tryz.ntmps43]
   repeat' (first
  | ((first | refine zag ?_ | refine zaj ?_ | refine zah ?_ | refine zai ?_ | refine zao ?_ | refine zat ?_ | fail); simp [s0, c1, c2, c3])
  | ((first | refine zar ?_ | refine zaq ?_ | fail); simp only [zap])
  | (refine CallP.fE (e1) (by first | rfl | fail) (by first | simp [s0, c1, c2, c3] <;> rfl | fail) ?_; (try simp [s0, c1, c2, c3]))
  | (refine CallP.fE (e2) (by first | rfl | fail) (by first | simp [s0, c1, c2, c3] <;> rfl | fail) ?_; (try simp [s0, c1, c2, c3]))
  | (refine CallP.fE (e3) (by first | rfl | fail) (by first | simp [s0, c1, c2, c3] <;> rfl | fail) ?_; (try simp [s0, c1, c2, c3]))
  | (refine CallP.fE (e4) (by first | rfl | fail) (by first | simp [s0, c1, c2, c3] <;> rfl | fail) ?_; (try simp [s0, c1, c2, c3]))
  | fail)
   refine EndW.here ?_
   (refine EndOK.val (.inr rfl) ?_; simp [zaz, zaf, zas, Tryz.results43])
 by_cases c2 : v = 2
 ·have hru : zfT c b.wait b.period v cover today = { c with state := 3, frm := today } := by rw [zfT, if_neg c1, if_pos (.inl c2)]
  rw [hru] at hX;unfold zfP at hX;rw [if_neg (fun h => by have := h.1; simp at this)] at hX;subst hX;have c3 : ¬ v = 1 := by omega
  unfold clU zaY zaI voU at *
  (refine Fun.of_bodyW Tryz.func43 rfl (by simp) fun Γ hn => ?_); simp only [entry, ziC, ziN, maC, maN, oA, Tryz.ntmps43]
  repeat' (first
  | ((first | refine zag ?_ | refine zaj ?_ | refine zah ?_ | refine zai ?_ | refine zao ?_ | refine zat ?_ | fail); simp [s0, c2, c3])
  | ((first | refine zar ?_ | refine zaq ?_ | fail); simp only [zap])
  | (refine CallP.fE (e1) (by first | rfl | fail) (by first | simp [s0, c2, c3] <;> rfl | fail) ?_; (try simp [s0, c2, c3]))
  | (refine CallP.fE (e2) (by first | rfl | fail) (by first | simp [s0, c2, c3] <;> rfl | fail) ?_; (try simp [s0, c2, c3]))
  | (refine CallP.fE (e3) (by first | rfl | fail) (by first | simp [s0, c2, c3] <;> rfl | fail) ?_; (try simp [s0, c2, c3]))
  | (refine CallP.fE (e4) (by first | rfl | fail) (by first | simp [s0, c2, c3] <;> rfl | fail) ?_; (try simp [s0, c2, c3]))
  | fail)
  refine EndW.here ?_
  (refine EndOK.val (.inr rfl) ?_; simp [zaz, zaf, zas, Tryz.results43])
 by_cases c3 : c.frm <= today - b.period
 ·have hru : zfT c b.wait b.period v cover today = { c with state := 3, frm := today } := by rw [zfT, if_neg c1, if_pos (.inr c3)]
  rw [hru] at hX;unfold zfP at hX;rw [if_neg (fun h => by have := h.1; simp at this)] at hX;subst hX;unfold clU zaY zaI voU at *;by_cases c4 : v = 1
  ·have c5 : ¬ 0 < c.proofs := fun h => c1 ⟨c4, h⟩
   (refine Fun.of_bodyW Tryz.func43 rfl (by simp) fun Γ hn => ?_); simp only [entry, ziC, ziN, maC, maN, oA, Tryz.ntmps43]
   repeat' (first
  | ((first | refine zag ?_ | refine zaj ?_ | fail); simp [s0, c2, c3, c4, c5])
  | (refine ⟨by omega, ?_⟩)
  | ((first | refine zah ?_ | refine zai ?_ | refine zao ?_ | refine zat ?_ | fail); simp [s0, c2, c3, c4, c5])
  | ((first | refine zar ?_ | refine zaq ?_ | fail); simp only [zap])
  | (refine CallP.fE (e1) (by first | rfl | fail) (by first | simp [s0, c2, c3, c4, c5] <;> rfl | fail) ?_; (try simp [s0, c2, c3, c4, c5]))
  | (refine CallP.fE (e2) (by first | rfl | fail) (by first | simp [s0, c2, c3, c4, c5] <;> rfl | fail) ?_; (try simp [s0, c2, c3, c4, c5]))
  | (refine CallP.fE (e3) (by first | rfl | fail) (by first | simp [s0, c2, c3, c4, c5] <;> rfl | fail) ?_; (try simp [s0, c2, c3, c4, c5]))
  | (refine CallP.fE (e4) (by first | rfl | fail) (by first | simp [s0, c2, c3, c4, c5] <;> rfl | fail) ?_; (try simp [s0, c2, c3, c4, c5]))
  | fail)
   refine EndW.here ?_
   (refine EndOK.val (.inr rfl) ?_; simp [zaz, zaf, zas, Tryz.results43])
  ·skip
   (refine Fun.of_bodyW Tryz.func43 rfl (by simp) fun Γ hn => ?_); simp only [entry, ziC, ziN, maC, maN, oA, Tryz.ntmps43]
   repeat' (first
  | ((first | refine zag ?_ | refine zaj ?_ | fail); simp [s0, c2, c3, c4])
  | (refine ⟨by omega, ?_⟩)
  | ((first | refine zah ?_ | refine zai ?_ | refine zao ?_ | refine zat ?_ | fail); simp [s0, c2, c3, c4])
  | ((first | refine zar ?_ | refine zaq ?_ | fail); simp only [zap])
  | (refine CallP.fE (e1) (by first | rfl | fail) (by first | simp [s0, c2, c3, c4] <;> rfl | fail) ?_; (try simp [s0, c2, c3, c4]))
  | (refine CallP.fE (e2) (by first | rfl | fail) (by first | simp [s0, c2, c3, c4] <;> rfl | fail) ?_; (try simp [s0, c2, c3, c4]))
  | (refine CallP.fE (e3) (by first | rfl | fail) (by first | simp [s0, c2, c3, c4] <;> rfl | fail) ?_; (try simp [s0, c2, c3, c4]))
  | (refine CallP.fE (e4) (by first | rfl | fail) (by first | simp [s0, c2, c3, c4] <;> rfl | fail) ?_; (try simp [s0, c2, c3, c4]))
  | fail)
   refine EndW.here ?_
   (refine EndOK.val (.inr rfl) ?_; simp [zaz, zaf, zas, Tryz.results43])
 ·have hru : zfT c b.wait b.period v cover today = c := by rw [zfT, if_neg c1, if_neg (by omega)]
  rw [hru] at hX;unfold zfP at hX;rw [if_neg (by omega)] at hX;rw [hX];clear hX;unfold clU zaY zaI voU at *;by_cases c4 : v = 1
  ·have c5 : ¬ 0 < c.proofs := fun h => c1 ⟨c4, h⟩
   (refine Fun.of_bodyW Tryz.func43 rfl (by simp) fun Γ hn => ?_); simp only [entry, ziC, ziN, maC, maN, oA, Tryz.ntmps43]
   repeat' (first
  | ((first | refine zag ?_ | refine zaj ?_ | fail); simp [s0, c2, c3, c4, c5])
  | (refine ⟨by omega, ?_⟩)
  | ((first | refine zah ?_ | refine zai ?_ | refine zao ?_ | refine zat ?_ | fail); simp [s0, c2, c3, c4, c5])
  | ((first | refine zar ?_ | refine zaq ?_ | fail); simp only [zap])
  | (refine CallP.fE (e1) (by first | rfl | fail) (by first | simp [s0, c2, c3, c4, c5] <;> rfl | fail) ?_; (try simp [s0, c2, c3, c4, c5]))
  | (refine CallP.fE (e2) (by first | rfl | fail) (by first | simp [s0, c2, c3, c4, c5] <;> rfl | fail) ?_; (try simp [s0, c2, c3, c4, c5]))
  | (refine CallP.fE (e3) (by first | rfl | fail) (by first | simp [s0, c2, c3, c4, c5] <;> rfl | fail) ?_; (try simp [s0, c2, c3, c4, c5]))
  | (refine CallP.fE (e4) (by first | rfl | fail) (by first | simp [s0, c2, c3, c4, c5] <;> rfl | fail) ?_; (try simp [s0, c2, c3, c4, c5]))
  | fail)
   refine EndW.here ?_
   (refine EndOK.val (.inr rfl) ?_; simp [zaz, zaf, zas, Tryz.results43])
  ·skip
   (refine Fun.of_bodyW Tryz.func43 rfl (by simp) fun Γ hn => ?_); simp only [entry, ziC, ziN, maC, maN, oA, Tryz.ntmps43]
   repeat' (first
  | ((first | refine zag ?_ | refine zaj ?_ | fail); simp [s0, c2, c3, c4])
  | (refine ⟨by omega, ?_⟩)
  | ((first | refine zah ?_ | refine zai ?_ | refine zao ?_ | refine zat ?_ | fail); simp [s0, c2, c3, c4])
  | ((first | refine zar ?_ | refine zaq ?_ | fail); simp only [zap])
  | (refine CallP.fE (e1) (by first | rfl | fail) (by first | simp [s0, c2, c3, c4] <;> rfl | fail) ?_; (try simp [s0, c2, c3, c4]))
  | (refine CallP.fE (e2) (by first | rfl | fail) (by first | simp [s0, c2, c3, c4] <;> rfl | fail) ?_; (try simp [s0, c2, c3, c4]))
  | (refine CallP.fE (e3) (by first | rfl | fail) (by first | simp [s0, c2, c3, c4] <;> rfl | fail) ?_; (try simp [s0, c2, c3, c4]))
  | (refine CallP.fE (e4) (by first | rfl | fail) (by first | simp [s0, c2, c3, c4] <;> rfl | fail) ?_; (try simp [s0, c2, c3, c4]))
  | fail)
   refine EndW.here ?_
   (refine EndOK.val (.inr rfl) ?_; simp [zaz, zaf, zas, Tryz.results43])
theorem zmM (c : Cl) (h0 : 0 <= c.proofs) (h1 : c.jury.length <= 1000000) (h2 : c.again.length <= 1000000) : Fun Tryz.prog 42 [.u (clU c)] (· = .tup [.u (clU (zkE c).1), .u (.int .i64 (zkE c).2)]) := by
 have e1 := zeI c h1 h2;unfold zkE;by_cases c1 : c.state = 0
 ·rw [if_neg (by simp [c1])];by_cases c2 : 1000 <= c.proofs
  ·rw [if_pos c2];unfold clU zaY at *
   (refine Fun.of_bodyW Tryz.func42 rfl (by simp) fun Γ hn => ?_); simp only [entry, ziC, ziN, maC, maN, oA, Tryz.ntmps42]
   repeat' (first
  | ((first | refine zag ?_ | refine zaj ?_ | refine zah ?_ | refine zai ?_ | fail); simp [c1, c2])
  | (refine zar ?_; simp only [zap])
  | (refine CallP.fE (e1) (by first | rfl | fail) (by first | simp [c1, c2] <;> rfl | fail) ?_; (try simp [c1, c2]))
  | fail)
   refine EndW.here ?_
   (refine EndOK.val (.inr rfl) ?_; simp [zaz, zaf, zas, Tryz.results42])
  ·rw [if_neg c2];unfold clU zaY at *
   (refine Fun.of_bodyW Tryz.func42 rfl (by simp) fun Γ hn => ?_); simp only [entry, ziC, ziN, maC, maN, oA, Tryz.ntmps42]
   repeat' (first
  | ((first | refine zag ?_ | refine zaj ?_ | fail); simp [c1, c2])
  | (refine ⟨by omega, ?_⟩)
  | ((first | refine zah ?_ | refine zai ?_ | fail); simp [c1, c2])
  | ((first | refine zar ?_ | refine zaq ?_ | fail); simp only [zap])
  | (refine CallP.fE (e1) (by first | rfl | fail) (by first | simp [c1, c2] <;> rfl | fail) ?_; (try simp [c1, c2]))
  | fail)
   refine EndW.here ?_
   (refine EndOK.val (.inr rfl) ?_; simp [zaz, zaf, zas, Tryz.results42])
 ·rw [if_pos c1];unfold clU zaY at *
  (refine Fun.of_bodyW Tryz.func42 rfl (by simp) fun Γ hn => ?_); simp only [entry, ziC, ziN, maC, maN, oA, Tryz.ntmps42]
  repeat' (first
  | ((first | refine zag ?_ | refine zaj ?_ | refine zah ?_ | refine zai ?_ | fail); simp [c1])
  | (refine zar ?_; simp only [zap])
  | (refine CallP.fE (e1) (by first | rfl | fail) (by first | simp [c1] <;> rfl | fail) ?_; (try simp [c1]))
  | fail)
  refine EndW.here ?_
  (refine EndOK.val (.inr rfl) ?_; simp [zaz, zaf, zas, Tryz.results42])
theorem zmV (c : Cl) (n : Int) (h1 : c.jury.length <= 1000000) (h2 : c.again.length <= 1000000) : Fun Tryz.prog 46 [.u (clU c), .u (.int .i64 n)] (· = .tup [.u (clU (zq5 c n).1), .u (.int .i64 (zq5 c n).2)]) := by
 have e1 := zeI c h1 h2;unfold zq5;by_cases c1 : c.state = 1
 ·rw [if_pos c1];unfold clU zaY at *
  (refine Fun.of_bodyW Tryz.func46 rfl (by simp) fun Γ hn => ?_); simp only [entry, ziC, ziN, maC, maN, oA, Tryz.ntmps46]
  repeat' (first
  | ((first | refine zag ?_ | refine zaj ?_ | refine zah ?_ | refine zai ?_ | fail); simp [c1])
  | (refine zar ?_; simp only [zap])
  | (refine CallP.fE (e1) (by first | rfl | fail) (by first | simp [c1] <;> rfl | fail) ?_; (try simp [c1]))
  | fail)
  refine EndW.here ?_
  (refine EndOK.val (.inr rfl) ?_; simp [zaz, zaf, zas, Tryz.results46])
 rw [if_neg c1];by_cases c2 : c.state = 2
 case neg =>
  rw [if_pos c2];unfold clU zaY at *
  (refine Fun.of_bodyW Tryz.func46 rfl (by simp) fun Γ hn => ?_); simp only [entry, ziC, ziN, maC, maN, oA, Tryz.ntmps46]
  repeat' (first
  | ((first | refine zag ?_ | refine zaj ?_ | refine zah ?_ | refine zai ?_ | fail); simp [c1, c2])
  | (refine zar ?_; simp only [zap])
  | (refine CallP.fE (e1) (by first | rfl | fail) (by first | simp [c1, c2] <;> rfl | fail) ?_; (try simp [c1, c2]))
  | fail)
  refine EndW.here ?_
  (refine EndOK.val (.inr rfl) ?_; simp [zaz, zaf, zas, Tryz.results46])
 rw [if_neg (fun h => h c2)];by_cases c3 : c.grant < n
 ·rw [if_pos c3];unfold clU zaY at *
  (refine Fun.of_bodyW Tryz.func46 rfl (by simp) fun Γ hn => ?_); simp only [entry, ziC, ziN, maC, maN, oA, Tryz.ntmps46]
  repeat' (first
  | ((first | refine zag ?_ | refine zaj ?_ | refine zah ?_ | refine zai ?_ | fail); simp [c1, c2, c3])
  | (refine zar ?_; simp only [zap])
  | (refine CallP.fE (e1) (by first | rfl | fail) (by first | simp [c1, c2, c3] <;> rfl | fail) ?_; (try simp [c1, c2, c3]))
  | fail)
  refine EndW.here ?_
  (refine EndOK.val (.inr rfl) ?_; simp [zaz, zaf, zas, Tryz.results46])
 rw [if_neg c3];by_cases c4 : n < c.grant
 ·rw [if_pos c4];unfold clU zaY at *
  (refine Fun.of_bodyW Tryz.func46 rfl (by simp) fun Γ hn => ?_); simp only [entry, ziC, ziN, maC, maN, oA, Tryz.ntmps46]
  repeat' (first
  | ((first | refine zag ?_ | refine zaj ?_ | refine zah ?_ | refine zai ?_ | fail); simp [c1, c2, c3, c4])
  | (refine zar ?_; simp only [zap])
  | (refine CallP.fE (e1) (by first | rfl | fail) (by first | simp [c1, c2, c3, c4] <;> rfl | fail) ?_; (try simp [c1, c2, c3, c4]))
  | fail)
  refine EndW.here ?_
  (refine EndOK.val (.inr rfl) ?_; simp [zaz, zaf, zas, Tryz.results46])
 ·rw [if_neg c4];unfold clU zaY at *
  (refine Fun.of_bodyW Tryz.func46 rfl (by simp) fun Γ hn => ?_); simp only [entry, ziC, ziN, maC, maN, oA, Tryz.ntmps46]
  repeat' (first
  | ((first | refine zag ?_ | refine zaj ?_ | refine zah ?_ | refine zai ?_ | fail); simp [c1, c2, c3, c4])
  | ((first | refine zar ?_ | refine zaq ?_ | fail); simp only [zap])
  | (refine CallP.fE (e1) (by first | rfl | fail) (by first | simp [c1, c2, c3, c4] <;> rfl | fail) ?_; (try simp [c1, c2, c3, c4]))
  | fail)
  refine EndW.here ?_
  (refine EndOK.val (.inr rfl) ?_; simp [zaz, zaf, zas, Tryz.results46])
theorem zhL (c : Cl) (b : By) (again : List Int) (today : Int) (h1 : c.jury.length <= 1000000) (h2 : c.again.length <= 1000000) (h3 : again.length <= 1000000) :
  Fun Tryz.prog 45 [.u (clU c), .u (.agg (zaI b)), .u (zcO again), .u (.int .i64 today)] (· = .tup [.u (clU (zfL c b again today).1), .u (.int .i64 (zfL c b again today).2)]) := by
 have e1 := zeI c h1 h2;have e2 := zd3 b;have e3 := zk3 today;have e4 := zfn again h3;obtain ⟨X, hX⟩ : ∃ X, X = zfL c b again today := ⟨_, rfl⟩;rw [<- hX];unfold zfL at hX;cases hr : zco b with
 | false =>
  rw [hr] at e2 hX;rw [if_pos (.inl rfl)] at hX;subst hX;unfold clU zaY zaI zcO at *
  (refine Fun.of_bodyW Tryz.func45 rfl (by simp) fun Γ hn => ?_); simp only [entry, ziC, ziN, maC, maN, oA, Tryz.ntmps45]
  repeat' (first
  | ((first | refine zag ?_ | refine zaj ?_ | refine zah ?_ | refine zai ?_ | fail); simp)
  | (refine zar ?_; simp only [zap])
  | (refine CallP.fE (e1) (by first | rfl | fail) (by first | (simp; done) | (simp; rfl) | fail) ?_; (try simp))
  | (refine CallP.fE (e2) (by first | rfl | fail) (by first | (simp; done) | (simp; rfl) | fail) ?_; (try simp))
  | fail)
  refine EndW.here ?_
  (refine EndOK.val (.inr rfl) ?_; simp [zaz, zaf, zas, Tryz.results45])
 | true =>
 obtain ⟨p0, p1, p2, p3⟩ := zfM hr;rw [hr] at e2 hX;cases hd : zl5 today with
 | false =>
  rw [hd] at e3 hX;rw [if_pos (.inr (.inl rfl))] at hX;subst hX;unfold clU zaY zaI zcO at *
  (refine Fun.of_bodyW Tryz.func45 rfl (by simp) fun Γ hn => ?_); simp only [entry, ziC, ziN, maC, maN, oA, Tryz.ntmps45]
  repeat' (first
  | ((first | refine zag ?_ | refine zaj ?_ | refine zah ?_ | refine zai ?_ | fail); simp)
  | (refine zar ?_; simp only [zap])
  | (refine CallP.fE (e1) (by first | rfl | fail) (by first | (simp; done) | (simp; rfl) | fail) ?_; (try simp))
  | (refine CallP.fE (e2) (by first | rfl | fail) (by first | (simp; done) | (simp; rfl) | fail) ?_; (try simp))
  | (refine CallP.fE (e3) (by first | rfl | fail) (by first | (simp; done) | (simp; rfl) | fail) ?_; (try simp))
  | fail)
  refine EndW.here ?_
  (refine EndOK.val (.inr rfl) ?_; simp [zaz, zaf, zas, Tryz.results45])
 | true =>
 obtain ⟨d0, d1⟩ := zpN hd;rw [hd] at e3 hX;by_cases c1 : again = []
 ·rw [if_pos (.inr (.inr c1))] at hX;subst hX;subst c1;unfold clU zaY zaI zcO at *
  (refine Fun.of_bodyW Tryz.func45 rfl (by simp) fun Γ hn => ?_); simp only [entry, ziC, ziN, maC, maN, oA, Tryz.ntmps45]
  repeat' (first
  | ((first | refine zag ?_ | refine zaj ?_ | refine zah ?_ | refine zai ?_ | fail); simp)
  | (refine zar ?_; simp only [zap])
  | (refine CallP.fE (e1) (by first | rfl | fail) (by first | (simp; done) | (simp; rfl) | fail) ?_; (try simp))
  | (refine CallP.fE (e2) (by first | rfl | fail) (by first | (simp; done) | (simp; rfl) | fail) ?_; (try simp))
  | (refine CallP.fE (e3) (by first | rfl | fail) (by first | (simp; done) | (simp; rfl) | fail) ?_; (try simp))
  | fail)
  refine EndW.here ?_
  (refine EndOK.val (.inr rfl) ?_; simp [zaz, zaf, zas, Tryz.results45])
 have c1' : (again = []) = False := eq_false c1;rw [if_neg (by simp [c1])] at hX;by_cases c2 : c.state = 3
 case neg =>
  rw [if_pos c2] at hX;subst hX;unfold clU zaY zaI zcO at *
  (refine Fun.of_bodyW Tryz.func45 rfl (by simp) fun Γ hn => ?_); simp only [entry, ziC, ziN, maC, maN, oA, Tryz.ntmps45]
  repeat' (first
  | ((first | refine zag ?_ | refine zaj ?_ | refine zah ?_ | refine zai ?_ | fail); simp [c1', c2])
  | (refine zar ?_; simp only [zap])
  | (refine CallP.fE (e1) (by first | rfl | fail) (by first | simp [c1', c2] <;> rfl | fail) ?_; (try simp [c1', c2]))
  | (refine CallP.fE (e2) (by first | rfl | fail) (by first | simp [c1', c2] <;> rfl | fail) ?_; (try simp [c1', c2]))
  | (refine CallP.fE (e3) (by first | rfl | fail) (by first | simp [c1', c2] <;> rfl | fail) ?_; (try simp [c1', c2]))
  | fail)
  refine EndW.here ?_
  (refine EndOK.val (.inr rfl) ?_; simp [zaz, zaf, zas, Tryz.results45])
 rw [if_neg (fun h => h c2)] at hX;by_cases c3 : c.again = []
 case neg =>
  rw [if_pos c3] at hX;subst hX;have c4 : (c.again = []) = False := eq_false c3;unfold clU zaY zaI zcO at *
  (refine Fun.of_bodyW Tryz.func45 rfl (by simp) fun Γ hn => ?_); simp only [entry, ziC, ziN, maC, maN, oA, Tryz.ntmps45]
  repeat' (first
  | ((first | refine zag ?_ | refine zaj ?_ | refine zah ?_ | refine zai ?_ | fail); simp [c1', c2, c4])
  | (refine zar ?_; simp only [zap])
  | (intro hc <;> (try (exfalso; omega)))
  | (refine CallP.fE (e1) (by first | rfl | fail) (by first | simp [c1', c2, c4] <;> rfl | fail) ?_; (try simp [c1', c2, c4]))
  | (refine CallP.fE (e2) (by first | rfl | fail) (by first | simp [c1', c2, c4] <;> rfl | fail) ?_; (try simp [c1', c2, c4]))
  | (refine CallP.fE (e3) (by first | rfl | fail) (by first | simp [c1', c2, c4] <;> rfl | fail) ?_; (try simp [c1', c2, c4]))
  | fail)
  refine EndW.here ?_
  (refine EndOK.val (.inr rfl) ?_; simp [zaz, zaf, zas, Tryz.results45])
 rw [if_neg (fun h => h c3)] at hX;have c4 : (0 < c.again.length) = False := by rw [c3]; simp
 by_cases c5 : c.frm < today - b.period
 ·rw [if_pos c5] at hX;subst hX;unfold clU zaY zaI zcO at *
  (refine Fun.of_bodyW Tryz.func45 rfl (by simp) fun Γ hn => ?_); simp only [entry, ziC, ziN, maC, maN, oA, Tryz.ntmps45]
  repeat' (first
  | ((first | refine zag ?_ | refine zaj ?_ | fail); simp [c1', c2, c4, c5])
  | (refine ⟨by omega, ?_⟩)
  | ((first | refine zah ?_ | refine zai ?_ | fail); simp [c1', c2, c4, c5])
  | (refine zar ?_; simp only [zap])
  | (refine CallP.fE (e1) (by first | rfl | fail) (by first | simp [c1', c2, c4, c5] <;> rfl | fail) ?_; (try simp [c1', c2, c4, c5]))
  | (refine CallP.fE (e2) (by first | rfl | fail) (by first | simp [c1', c2, c4, c5] <;> rfl | fail) ?_; (try simp [c1', c2, c4, c5]))
  | (refine CallP.fE (e3) (by first | rfl | fail) (by first | simp [c1', c2, c4, c5] <;> rfl | fail) ?_; (try simp [c1', c2, c4, c5]))
  | fail)
  refine EndW.here ?_
  (refine EndOK.val (.inr rfl) ?_; simp [zaz, zaf, zas, Tryz.results45])
 ·rw [if_neg c5] at hX;subst hX;unfold clU zaY zaI zcO at *
  (refine Fun.of_bodyW Tryz.func45 rfl (by simp) fun Γ hn => ?_); simp only [entry, ziC, ziN, maC, maN, oA, Tryz.ntmps45]
  repeat' (first
  | ((first | refine zag ?_ | refine zaj ?_ | fail); simp [c1', c2, c4, c5])
  | (refine ⟨by omega, ?_⟩)
  | ((first | refine zah ?_ | refine zai ?_ | fail); simp [c1', c2, c4, c5])
  | ((first | refine zar ?_ | refine zaq ?_ | fail); simp only [zap])
  | (refine CallP.fE (e1) (by first | rfl | fail) (by first | simp [c1', c2, c4, c5] <;> rfl | fail) ?_; (try simp [c1', c2, c4, c5]))
  | (refine CallP.fE (e2) (by first | rfl | fail) (by first | simp [c1', c2, c4, c5] <;> rfl | fail) ?_; (try simp [c1', c2, c4, c5]))
  | (refine CallP.fE (e3) (by first | rfl | fail) (by first | simp [c1', c2, c4, c5] <;> rfl | fail) ?_; (try simp [c1', c2, c4, c5]))
  | (refine CallP.fE (e4) (by first | rfl | fail) (by first | simp [c1', c2, c4, c5] <;> rfl | fail) ?_; (try simp [c1', c2, c4, c5]))
  | fail)
  refine EndW.here ?_
  (refine EndOK.val (.inr rfl) ?_; simp [zaz, zaf, zas, Tryz.results45])
theorem zoO (n : Int) : Fun Tryz.prog 174 [.u (.int .i64 n)] (· = .u (.bool (zp8 n))) := by
 unfold zp8;by_cases c1 : 0 <= n
 ·by_cases c2 : n <= 1073741824
  all_goals
   (refine Fun.of_body Tryz.func174 rfl (by simp) fun Γ hn => ?_); simp only [entry, ziC, ziN, maC, maN, oA, Tryz.ntmps174]
   repeat' (first
  | ((first | refine zag ?_ | refine zaj ?_ | refine zah ?_ | fail); simp [c1, c2])
  | (refine zar ?_; simp only [zap])
  | fail)
   (refine EndOK.val (.inr rfl) ?_; simp [zaz, zaf, zas, Tryz.results174])
   try simp [c1, c2]
 ·(refine Fun.of_body Tryz.func174 rfl (by simp) fun Γ hn => ?_); simp only [entry, ziC, ziN, maC, maN, oA, Tryz.ntmps174]
  repeat' (first
  | ((first | refine zag ?_ | refine zaj ?_ | refine zah ?_ | fail); simp [c1])
  | (refine zar ?_; simp only [zap])
  | fail)
  (refine EndOK.val (.inr rfl) ?_; simp [zaz, zaf, zas, Tryz.results174])
  try simp [c1]
theorem znz (n : Int) : Fun Tryz.prog 170 [.u (.int .i64 n)] (· = .u (.bool (zrC n))) := by
 unfold zrC;by_cases c1 : 0 <= n
 ·by_cases c2 : n < 200
  all_goals
   (refine Fun.of_body Tryz.func170 rfl (by simp) fun Γ hn => ?_); simp only [entry, ziC, ziN, maC, maN, oA, Tryz.ntmps170]
   repeat' (first
  | ((first | refine zag ?_ | refine zaj ?_ | refine zah ?_ | fail); simp [c1, c2])
  | (refine zar ?_; simp only [zap])
  | fail)
   (refine EndOK.val (.inr rfl) ?_; simp [zaz, zaf, zas, Tryz.results170])
   try simp [c1, c2]
 ·(refine Fun.of_body Tryz.func170 rfl (by simp) fun Γ hn => ?_); simp only [entry, ziC, ziN, maC, maN, oA, Tryz.ntmps170]
  repeat' (first
  | ((first | refine zag ?_ | refine zaj ?_ | refine zah ?_ | fail); simp [c1])
  | (refine zar ?_; simp only [zap])
  | fail)
  (refine EndOK.val (.inr rfl) ?_; simp [zaz, zaf, zas, Tryz.results170])
  try simp [c1]
theorem zkZ (n : Int) : Fun Tryz.prog 171 [.u (.int .i64 n)] (· = .u (.bool (zl5 n))) := by
 unfold zl5;by_cases c1 : 0 <= n
 ·by_cases c2 : n <= 1048576
  all_goals
   (refine Fun.of_body Tryz.func171 rfl (by simp) fun Γ hn => ?_); simp only [entry, ziC, ziN, maC, maN, oA, Tryz.ntmps171]
   repeat' (first
  | ((first | refine zag ?_ | refine zaj ?_ | refine zah ?_ | fail); simp [c1, c2])
  | (refine zar ?_; simp only [zap])
  | fail)
   (refine EndOK.val (.inr rfl) ?_; simp [zaz, zaf, zas, Tryz.results171])
   try simp [c1, c2]
 ·(refine Fun.of_body Tryz.func171 rfl (by simp) fun Γ hn => ?_); simp only [entry, ziC, ziN, maC, maN, oA, Tryz.ntmps171]
  repeat' (first
  | ((first | refine zag ?_ | refine zaj ?_ | refine zah ?_ | fail); simp [c1])
  | (refine zar ?_; simp only [zap])
  | fail)
  (refine EndOK.val (.inr rfl) ?_; simp [zaz, zaf, zas, Tryz.results171])
  try simp [c1]
theorem zqt (l : List Int) (hl : l.length <= 1000000) : Fun Tryz.prog 173 [.u (zcO l)] (· = .u (.bool (zrE l))) := by
 obtain ⟨R, hR⟩ : ∃ R, R = zrE l := ⟨_, rfl⟩;rw [<- hR];unfold zrE at hR;unfold zcO
 (refine Fun.of_body Tryz.func173 rfl (by simp) fun Γ hn => ?_); simp only [entry, ziC, ziN, maC, maN, oA, Tryz.ntmps173]
 repeat' (first
  | ((first | refine zag ?_ | refine zaj ?_ | refine zah ?_ | refine zao ?_ | fail); simp)
  | fail)
 refine zbH (α := { i : Nat // 1 <= i /\ (i <= l.length \/ i = 1) /\ ∀ j, j + 1 < i -> l.getD j 0 < l.getD (j + 1) 0 }) [0] (fun i => [(3, .u (.int .i64 i.1))]) (fun i => l.length - i.1) ⟨1, by omega, by omega, by omega⟩ ?_ ?_
 ·exact (Wk.env rfl rfl rfl (by simp [wkE, St.lp, zam, zaa, getK] <;> (try (intros; simp_all; done)) <;> (try (intros; omega)) <;> (try grind)))
 rintro ⟨i, hi1, hi, hb⟩;simp [St.lp, St.only, zam, zaa, getK];by_cases hlt : i < l.length
 ·have hlt' : (i : Int) < l.length := by omega
  have h1 : l[i]? = some (l.getD i 0) := by simp [List.getD, hlt]
  have h2 : l[i - 1]? = some (l.getD (i - 1) 0) := by simp [List.getD, show i - 1 < l.length by omega]
  have h3 : ((i : Int) - 1).toNat = i - 1 := by omega
  have h4 := hb (i - 2);have e : i - 1 + 1 = i := by omega
  generalize hx : l.getD i 0 = x at *;generalize hy : l.getD (i - 1) 0 = y at *;by_cases c1 : x <= y
  ·have : R = false := by
    rw [hR, decide_eq_false_iff_not];intro h;have := h ⟨i - 1, by omega⟩;simp only [e, hx, hy] at this;omega
   rw [this]
   repeat' (first
  | ((first | refine zag ?_ | refine zaN rfl ?_ | refine zaj ?_ | fail); simp [hlt', h1, h2, h3, c1])
  | (refine ⟨by omega, ?_⟩)
  | ((first | refine zah ?_ | refine zai ?_ | fail); simp [hlt', h1, h2, h3, c1])
  | (refine za4 (hC _ (by kernel_rfl)) (hk _ ?_); clear hC hk C k; simp only [zap])
  | (refine zaM rfl (by kernel_rfl) (by first | (simp [hn]; done) | (simp [hn]; omega) | fail) fun C k hC hk => ?_; simp [hlt', h1, h2, h3, c1])
  | ((first | refine zar ?_ | refine zaq ?_ | fail); simp only [zap])
  | fail)
   (refine EndOK.val (.inr rfl) ?_; simp [zaz, zaf, zas, Tryz.results173])
  ·repeat' (first
  | ((first | refine zag ?_ | refine zaN rfl ?_ | refine zaj ?_ | fail); simp [hlt', h1, h2, h3, c1])
  | (refine ⟨by omega, ?_⟩)
  | ((first | refine zah ?_ | refine zai ?_ | fail); simp [hlt', h1, h2, h3, c1])
  | (refine za4 (hC _ (by kernel_rfl)) (hk _ ?_); clear hC hk C k; simp only [zap])
  | (refine zaM rfl (by kernel_rfl) (by first | (simp [hn]; done) | (simp [hn]; omega) | fail) fun C k hC hk => ?_; simp [hlt', h1, h2, h3, c1])
  | (refine zat ?_; simp [hlt', h1, h2, h3, c1])
  | (refine zaq ?_; simp only [zap])
  | fail)
   refine LoopW.next ⟨i + 1, by omega, by omega, fun j hj => ?_⟩ (by simp; omega) ?_
   ·by_cases hj2 : j + 1 < i
    ·exact hb j hj2
    ·obtain rfl : j = i - 1 := by omega
     rw [e, hx, hy]; omega
   exact (Wk.env rfl rfl rfl (by simp [wkE, St.lp, zam, zaa, getK] <;> (try (intros; simp_all; done)) <;> (try (intros; omega)) <;> (try grind)))
 ·have hlt' : ¬ (i : Int) < l.length := by omega
  have : R = true := by
   rw [hR, decide_eq_true_iff];exact fun j => hb j (by have := j.2; omega)
  rw [this]
  repeat' (first
  | ((first | refine zag ?_ | refine zaj ?_ | refine zah ?_ | refine zai ?_ | fail); simp [hlt'])
  | (refine zar ?_; simp only [zap])
  | (refine zaZ ?_; simp [zap])
  | fail)
  (refine EndOK.val (.inr rfl) ?_; simp [zaz, zaf, zas, Tryz.results173])
theorem znJ : zkf 0 = .u (.row (usesL.map .str) 0) := by
 simp [zkf, globs, usesL, uOf]
theorem zmR (e : En) (h0 : 0 <= e.kind) (h1 : e.kind < 21) : Fun Tryz.prog 172 [.u (.agg (zd8 e))] (· = .u (.bool (zgt e))) := by
 obtain ⟨R, hR⟩ : ∃ R, R = zgt e := ⟨_, rfl⟩;rw [<- hR];have hgu := znJ;have hul : usesL.length = 21 := rfl;have hu : usesL[e.kind.toNat]? = some (usesL.getD e.kind.toNat []) := by
  rw [List.getD, List.getElem?_eq_getElem (by omega)]; rfl
 have hok : ∀ i, zoI e i = ((zkU e).getD i true || zih (usesL.getD e.kind.toNat []) (zS.getD i 0).toNat) := fun i => rfl;have hno : ∀ i, i < 8 -> zoI e i = false -> R = false := fun i hi h => by rw [hR]; exact zmT hi h
 have hyes : (∀ j, j < 8 -> zoI e j = true) -> R = true := fun h => by rw [hR]; exact zlw h
 have hF : ∃ F, F = zkU e := ⟨_, rfl⟩;obtain ⟨F, hF⟩ := hF;have hFl : F.length = 8 := by rw [hF]; rfl
 have hFm : F.map (fun b => D.u (U.bool b)) = [.u (.bool (decide (e.circle = 0))), .u (.bool (decide (e.who = 0))), .u (.bool (decide (e.n = 0))), .u (.bool (decide (e.m = 0))), .u (.bool (decide (e.ref = -1))), .u (.bool (decide (e.keys = []))), .u (.bool (decide (e.spans = []))), .u (.bool (decide (e.text = [])))] := by
  rw [hF]; simp [zkU]
 rw [<- hF] at hok;have hzl : zS.length = 8 := rfl;have hzz : ∀ i, i < 8 -> (zS.getD i 0).toNat < 128 := by decide
 have hru := fun r h => zoC (usesL.getD e.kind.toNat []) r h;generalize usesL.getD e.kind.toNat [] = us at *;have hu' : ∀ h, usesL[e.kind.toNat]'h = us := fun h => (lGE.1 hu).2;clear hR hF;have hkn : ((e.kind.toNat : Nat) : Int) = e.kind := by omega
 unfold zd8
 (refine Fun.of_bodyW Tryz.func172 rfl (by simp) fun Γ hn => ?_); simp only [entry, ziC, ziN, maC, maN, oA, Tryz.ntmps172]
 repeat' (first
  | ((first | refine zag ?_ | refine zaj ?_ | refine zah ?_ | refine zao ?_ | fail); simp [hgu, hul, hu, hu', h0, h1, hkn])
  | fail)
 refine zcq (α := { i : Nat // i <= 8 /\ ∀ j, j < i -> zoI e j = true }) [3, 4, 38] (fun i => []) (fun i => [(1, .box (F.map fun b => D.u (U.bool b))), (2, .sit zS i.1)]) 3 (fun i => 8 - i.1) ⟨0, by omega, by omega⟩ ?_ ?_
 ·exact (Wk.cut rfl (by simp [hn, St.lp]) (by simp [wkO, St.lp, zaa, getK, Ob.under, D.under, zad, zae, hFm, zS]) (by simp [wkU, St.lp, zam, zaa, getK, D.under, hFm, zS]) (by simp [wkE, St.lp, zam, zaa, getK, hFm, zS] <;> (try (intros; simp_all; done)) <;> (try (intros; omega)) <;> (try grind)))
 rintro ⟨i, hi, hb⟩;simp [St.lp, St.only, zam, zaa, getK];by_cases h8 : i = 8
 ·subst h8;rw [hyes hb]
  repeat' (first
  | ((first | refine zag ?_ | refine zaj ?_ | refine zah ?_ | fail); simp [hzl])
  | (refine zar ?_; simp only [zap])
  | (refine zaZ ?_; simp [zap])
  | fail)
  refine EndW.here ?_
  (refine EndOK.val (.inr rfl) ?_; simp [zaz, zaf, zas, Tryz.results172])
 ·have hi8 : i < 8 := by omega
  have hz := hzz i hi8;have hrc := hru _ hz;have hoi := hok i;have hni := hno i hi8;have hx : F[i]? = some (F.getD i true) := by rw [List.getD, List.getElem?_eq_getElem (by omega)]; rfl
  have hzi : zS[i]?.getD 0 = zS.getD i 0 := by simp [List.getD]
  have hzg : ∀ h, zS[i]'h = zS.getD i 0 := fun h => by simp [List.getD, h]
  generalize zS.getD i 0 = c at *;generalize F.getD i true = b at *;have hsucc : zoI e i = true -> ∀ j, j < i + 1 -> zoI e j = true := fun h j hj => by
   by_cases e1 : j < i
   ·exact hb j e1
   ·rw [show j = i by omega]; exact h
  cases b with
  | true =>
   repeat' (first
  | ((first | refine zag ?_ | refine zaj ?_ | refine zah ?_ | refine zai ?_ | refine zao ?_ | fail); simp [hzl, hi8, hz, hzi, hzg, hx])
  | (refine zaq ?_; simp only [zap])
  | fail)
   refine LoopW.next ⟨i + 1, by omega, hsucc (by rw [hoi]; simp)⟩ (by simp; omega) ?_
   exact (Wk.cut rfl (by simp [hn, St.lp]) (by simp [wkO, St.lp, zaa, getK, Ob.under, D.under, zad, zae]) (by simp [wkU, St.lp, zam, zaa, getK, D.under]) (by simp [wkE, St.lp, zam, zaa, getK] <;> (try (intros; simp_all; done)) <;> (try (intros; omega)) <;> (try grind)))
  | false =>
   generalize zih us c.toNat = r at *;cases r with
   | true =>
    repeat' (first
  | ((first | refine zag ?_ | refine zaj ?_ | refine zah ?_ | refine zai ?_ | refine zao ?_ | fail); simp [hzl, hi8, hz, hzi, hzg, hx])
  | (refine zaq ?_; simp only [zap])
  | (refine CallP.fE (hrc) (by first | rfl | fail) (by first | simp [hzl, hi8, hz, hzi, hzg, hx] <;> rfl | fail) ?_; (try simp [hzl, hi8, hz, hzi, hzg, hx]))
  | fail)
    refine LoopW.next ⟨i + 1, by omega, hsucc (by rw [hoi]; simp)⟩ (by simp; omega) ?_
    exact (Wk.cut rfl (by simp [hn, St.lp]) (by simp [wkO, St.lp, zaa, getK, Ob.under, D.under, zad, zae]) (by simp [wkU, St.lp, zam, zaa, getK, D.under]) (by simp [wkE, St.lp, zam, zaa, getK] <;> (try (intros; simp_all; done)) <;> (try (intros; omega)) <;> (try grind)))
   | false =>
    rw [hni (by rw [hoi]; simp)]
    repeat' (first
  | ((first | refine zag ?_ | refine zaj ?_ | refine zah ?_ | refine zai ?_ | refine zao ?_ | fail); simp [hzl, hi8, hz, hzi, hzg, hx])
  | ((first | refine zar ?_ | refine zaq ?_ | fail); simp only [zap])
  | (refine CallP.fE (hrc) (by first | rfl | fail) (by first | simp [hzl, hi8, hz, hzi, hzg, hx] <;> rfl | fail) ?_; (try simp [hzl, hi8, hz, hzi, hzg, hx]))
  | fail)
    refine EndW.here ?_
    (refine EndOK.val (.inr rfl) ?_; simp [zaz, zaf, zas, Tryz.results172])
abbrev zeh (e : Exp) : D := .u (.agg e.row)
abbrev zie (n : Int) : D := .u (.int .i64 n)
theorem zaP {i nx : Nat} (h : i < nx) : ¬ i = nx /\ ¬ nx = i /\ (∀ k, ¬ i = nx + k) /\ ∀ k, ¬ nx + k = i := ⟨by omega, by omega, fun k => by omega, fun k => by omega⟩
theorem zov (l : List Tok) (p : Nat) (i nx : Nat) (hi : i < nx) (hp : p < l.length) (hl : TokOK l) :
  RetX Tryz.prog 303 [.ptr i 0] [(i, pOb l p)] nx (PPost l i nx zie (zlh l p)) := by
 have hne := zaP hi;have hh1 := fun nx' (h : nx <= nx') => zbf l p [99, 111, 105, 110, 115] i nx' (by omega) hp hl.len;have hh2 := fun nx' (h : nx <= nx') => zbf l p [100, 97, 121, 115] i nx' (by omega) hp hl.len;have hh3 := fun nx' (h : nx <= nx') => zbf l p [112, 101, 114] i nx' (by omega) hp hl.len;unfold zlh;by_cases h1 : isB l p [99, 111, 105, 110, 115] = true
 ·simp only [h1, if_true] at hh1 ⊢
  (refine RetX.of_bodyW Tryz.func303 rfl (by simp) fun Γ hn hpan => ?_); simp only [entry, ziC, ziN, maC, maN, oA, Tryz.ntmps303]
  repeat' (first
  | ((first | refine zag ?_ | refine zaj ?_ | refine zah ?_ | refine zai ?_ | fail); simp [hne])
  | (refine zar ?_; simp only [zap])
  | (refine CallP.ok1 (hh1 _ (by first | omega | simp <;> omega | fail)) (by first | (simp [hne, zaa, getK, zab, zac]; done) | fail) (by rfl) (by rfl) ?_; (try simp [hne]))
  | fail)
  (refine EndW.here ?_; (first | (refine EndOK.fin (.inr rfl) ?_) | (refine EndOK.fin (.inl rfl) ?_)); simp [zaz, zaf, Tryz.results303]; refine FinOK.here (by simp) ?_; try simp)
  exact PPost.zch rfl rfl (by first | rfl | simp [del])
 ·simp only [h1, Bool.false_eq_true, if_false] at hh1 ⊢;by_cases h2 : isB l p [100, 97, 121, 115] = true
  ·simp only [h2, if_true] at hh2 ⊢
   (refine RetX.of_bodyW Tryz.func303 rfl (by simp) fun Γ hn hpan => ?_); simp only [entry, ziC, ziN, maC, maN, oA, Tryz.ntmps303]
   repeat' (first
  | ((first | refine zag ?_ | refine zaj ?_ | refine zah ?_ | refine zai ?_ | fail); simp [hne])
  | (refine zar ?_; simp only [zap])
  | (refine CallP.ok1 (hh1 _ (by first | omega | simp <;> omega | fail)) (by first | (simp [hne, zaa, getK, zab, zac]; done) | fail) (by rfl) (by rfl) ?_; (try simp [hne]))
  | (refine CallP.ok1 (hh2 _ (by first | omega | simp <;> omega | fail)) (by first | (simp [hne, zaa, getK, zab, zac]; done) | fail) (by rfl) (by rfl) ?_; (try simp [hne]))
  | fail)
   (refine EndW.here ?_; (first | (refine EndOK.fin (.inr rfl) ?_) | (refine EndOK.fin (.inl rfl) ?_)); simp [zaz, zaf, Tryz.results303]; refine FinOK.here (by simp) ?_; try simp)
   exact PPost.zch rfl rfl (by first | rfl | simp [del])
  ·simp only [h2, Bool.false_eq_true, if_false] at hh2 ⊢;by_cases h3 : isB l p [112, 101, 114] = true
   ·simp only [h3, if_true] at hh3 ⊢;have hw := fun nx' (h : nx <= nx') => zhP l (p + 1) [[109, 105, 108, 108, 101]] i nx' (by omega) (zba hl h3) hl (by simp);cases hr : zbL l (p + 1) [[109, 105, 108, 108, 101]] with
    | ok a q =>
     simp only [hr, List.map_cons, List.map_nil] at hw
     (refine RetX.of_bodyW Tryz.func303 rfl (by simp) fun Γ hn hpan => ?_); simp only [entry, ziC, ziN, maC, maN, oA, Tryz.ntmps303]
     repeat' (first
  | ((first | refine zag ?_ | refine zaj ?_ | refine zah ?_ | refine zai ?_ | fail); simp [hne])
  | (refine zar ?_; simp only [zap])
  | (refine CallP.ok1 (hh1 _ (by first | omega | simp <;> omega | fail)) (by first | (simp [hne, zaa, getK, zab, zac]; done) | fail) (by rfl) (by rfl) ?_; (try simp [hne]))
  | (refine CallP.ok1 (hh2 _ (by first | omega | simp <;> omega | fail)) (by first | (simp [hne, zaa, getK, zab, zac]; done) | fail) (by rfl) (by rfl) ?_; (try simp [hne]))
  | (refine CallP.ok1 (hh3 _ (by first | omega | simp <;> omega | fail)) (by first | (simp [hne, zaa, getK, zab, zac]; done) | fail) (by rfl) (by rfl) ?_; (try simp [hne]))
  | (refine CallP.ok1 (hw _ (by first | omega | simp <;> omega | fail)) (by first | (simp [hne, zaa, getK, zab, zac]; done) | fail) (by rfl) (by rfl) ?_; (try simp [hne]))
  | (refine zaF (by first | rfl | fail) ?_; simp [hne, frzN, frz1, zaE, zaD, St.frz, St.frzS, frzS, fv, za5, za6, za7, zaH, zay, zav, del, frz, zbg])
  | fail)
     (refine EndW.wk { n := _, env := [(2, zie 4)], obs := [(i, pOb l q)], next := nx } (Wk.cut rfl (by simp [hn]) (by simp [wkO, zaa, getK, zab, zac, Ob.under, D.under, zad, zae, hne, hi]) (by simp [wkU, zam, zaa, getK, D.under, hne, hi]) (by simp [wkE, zam, zaa, getK, hne, hi])) (EndW.here ?_); (first | (refine EndOK.fin (.inr rfl) ?_) | (refine EndOK.fin (.inl rfl) ?_)); simp [zaz, zaf, Tryz.results303]; refine FinOK.here (by simp) ?_; try simp)
     exact PPost.zch rfl rfl (by first | rfl | simp [del])
    | stop pos e =>
     simp only [hr, List.map_cons, List.map_nil] at hw
     (refine RetX.of_bodyW Tryz.func303 rfl (by simp) fun Γ hn hpan => ?_); simp only [entry, ziC, ziN, maC, maN, oA, Tryz.ntmps303]
     repeat' (first
  | ((first | refine zag ?_ | refine zaj ?_ | refine zah ?_ | refine zai ?_ | fail); simp [hne])
  | (refine CallP.ok1 (hh1 _ (by first | omega | simp <;> omega | fail)) (by first | (simp [hne, zaa, getK, zab, zac]; done) | fail) (by rfl) (by rfl) ?_; (try simp [hne]))
  | (refine CallP.ok1 (hh2 _ (by first | omega | simp <;> omega | fail)) (by first | (simp [hne, zaa, getK, zab, zac]; done) | fail) (by rfl) (by rfl) ?_; (try simp [hne]))
  | (refine CallP.ok1 (hh3 _ (by first | omega | simp <;> omega | fail)) (by first | (simp [hne, zaa, getK, zab, zac]; done) | fail) (by rfl) (by rfl) ?_; (try simp [hne]))
  | (refine CallP.zeQ (hw _ (by first | omega | simp <;> omega | fail)) (by first | (simp [hne, zaa, getK, zab, zac]; done) | fail) (by rfl) (by first | assumption | (simp; done) | fail) (by rfl) (by simp) ?_; rintro ob' ⟨q', rfl⟩; refine ⟨_, Wk.refl _, ?_⟩)
  | (refine zaF (by first | rfl | fail) ?_; simp [hne, frzN, frz1, zaE, zaD, St.frz, St.frzS, frzS, fv, za5, za6, za7, zaH, zay, zav, del, frz, zbg])
  | fail)
     (refine hpan _ _ ⟨{ n := _, env := [], obs := [(i, pOb l q')], next := nx }, (Wk.cut rfl (by simp [hn]) (by simp [wkO, zaa, getK, zab, zac, Ob.under, D.under, zad, zae, hi, zab, zac, zaa, getK]) (by simp [wkU, zam, zaa, getK, D.under, hi, zab, zac, zaa, getK]) (by simp [wkE, zam, zaa, getK, hi, zab, zac, zaa, getK])), by simp [hn], ?_⟩; try simp)
     exact PPost.zaB rfl
   ·simp only [h3, Bool.false_eq_true, if_false] at hh3 ⊢
    (refine RetX.of_bodyW Tryz.func303 rfl (by simp) fun Γ hn hpan => ?_); simp only [entry, ziC, ziN, maC, maN, oA, Tryz.ntmps303]
    repeat' (first
  | ((first | refine zag ?_ | refine zaj ?_ | refine zah ?_ | refine zai ?_ | fail); simp [hne])
  | ((first | refine zar ?_ | refine zaq ?_ | fail); simp only [zap])
  | (refine CallP.ok1 (hh1 _ (by first | omega | simp <;> omega | fail)) (by first | (simp [hne, zaa, getK, zab, zac]; done) | fail) (by rfl) (by rfl) ?_; (try simp [hne]))
  | (refine CallP.ok1 (hh2 _ (by first | omega | simp <;> omega | fail)) (by first | (simp [hne, zaa, getK, zab, zac]; done) | fail) (by rfl) (by rfl) ?_; (try simp [hne]))
  | (refine CallP.ok1 (hh3 _ (by first | omega | simp <;> omega | fail)) (by first | (simp [hne, zaa, getK, zab, zac]; done) | fail) (by rfl) (by rfl) ?_; (try simp [hne]))
  | fail)
    (refine EndW.here ?_; (first | (refine EndOK.fin (.inr rfl) ?_) | (refine EndOK.fin (.inl rfl) ?_)); simp [zaz, zaf, Tryz.results303]; refine FinOK.here (by simp) ?_; try simp)
    exact PPost.zch rfl rfl (by first | rfl | simp [del])
abbrev zi8 (e : Exp × Int) : D := .tup [.u (.agg e.1.row), .u (.int .i64 e.2)]
def zfX (l : List Tok) (f : Nat) : Prop := ∀ (p : Nat) (form : Int) (i nx : Nat), i < nx -> p < l.length -> 4 * (l.length - p) + 3 <= f -> 0 <= form -> form <= 7 ->
 RetX Tryz.prog 203 [.ptr i 0, zie form] [(i, pOb l p)] nx (PPost l i nx zeh (zej l f p form))
def zqD (l : List Tok) (f : Nat) : Prop := ∀ (p : Nat) (form : Int) (i nx : Nat), i < nx -> p < l.length -> 4 * (l.length - p) + 2 <= f -> 0 <= form -> form <= 7 ->
 RetX Tryz.prog 247 [.ptr i 0, zie form] [(i, pOb l p)] nx (PPost l i nx zi8 (zbx l f p form))
def zhN (l : List Tok) (f : Nat) : Prop := ∀ (p : Nat) (i nx : Nat), i < nx -> p < l.length -> 4 * (l.length - p) + 1 <= f ->
 RetX Tryz.prog 283 [.ptr i 0] [(i, pOb l p)] nx (PPost l i nx zeh (zaX l f p))
theorem zeS {l : List Tok} (hl : TokOK l) (w : List UInt8) {q i nx : Nat} (hi : i < nx) (hq : q < l.length) :
  RetX Tryz.prog 129 [.ptr i 0, .u (.sl [[.str w]])] [(i, pOb l q)] nx (PPost l i nx (fun _ => .tup []) (zbL l q [w])) := zhP l q [w] i nx hi hq hl (by simp)
theorem zjY {l : List Tok} (hl : TokOK l) {f p : Nat} {t : Tok} (ht : l[p]? = some t) (hk : t.kind = 2) {i nx : Nat} (hi : i < nx) :
  RetX Tryz.prog 283 [.ptr i 0] [(i, pOb l p)] nx (PPost l i nx zeh (zaX l (f + 1) p)) := by
 have hne := zaP hi;have hp := (lGE.1 ht).1;have hnx := zb4 l p t ht hl.len;have hp2 := hl.fin p t ht (by omega);have hll := hl.len;rw [zaX, ht];simp only [hk, if_true] at hnx ⊢;have hu := fun nx' (h : nx <= nx') => zov l (p + 1) i nx' (by omega) hp2 hl;cases hr : zlh l (p + 1) with
 | ok a q =>
  simp only [hr] at hu
  (refine RetX.of_bodyW Tryz.func283 rfl (by simp) fun Γ hn hpan => ?_); simp only [entry, ziC, ziN, maC, maN, oA, Tryz.ntmps283]
  repeat' (first
  | (refine zgY (fun nx' h' => hu nx' (by simp at h'; omega)) (by first | (simp [hne, zaa, getK, zab, zac, zak, zau]; done) | fail) (by rfl) (by first | assumption | simp) (by rfl) (by simp [D.under, Ob.under]) (by simp) ?_; (try simp [hne]))
  | ((first | refine zag ?_ | refine zaN rfl ?_ | refine zci rfl ?_ | refine zaj ?_ | fail); simp [hne])
  | (refine ⟨by omega, ?_⟩)
  | ((first | refine zah ?_ | refine zai ?_ | fail); simp [hne])
  | (refine za4 (hC _ (zbn [i] nx (by simp <;> omega) (by simp <;> omega) (by apply Exists.intro; apply And.intro; (focus (repeat' (first | exact KF.nil | exact KL.nil | apply KF.cons | apply KL.cons 0 rfl | apply KL.cons 1 rfl | apply KL.cons 2 rfl | apply KL.cons 3 rfl | apply KL.cons 4 rfl | apply KL.cons 5 rfl | apply KL.cons 6 rfl | apply KL.cons 7 rfl | apply KL.cons 8 rfl | apply KL.cons 9 rfl))); kernel_rfl))) (hk _ ?_); clear hC hk C k; simp only [zap])
  | (refine zaM rfl (by kernel_rfl) (by first | (simp [hn]; done) | (simp [hn]; omega) | fail) fun C k hC hk => ?_; simp [hne])
  | (refine zar ?_; simp only [zap])
  | (refine CallP.fE (hnx) (by first | rfl | fail) (by first | simp [hne] <;> rfl | fail) ?_; (try simp [hne]))
  | fail)
  refine EndW.norm ?_;simp [St.norm, za9, zbG, zb1, zbV, hne]
  (refine EndW.here ?_; (first | (refine EndOK.fin (.inr rfl) ?_) | (refine EndOK.fin (.inl rfl) ?_)); simp [zaz, zaf, Tryz.results283, hne, hi]; refine FinOK.cut [(i, pOb l q)] (nx) (by simp [zaa, getK, zab, zac, Ob.under, D.under, zad, zae, hne, hi] <;> omega) (by simp [D.under]) (by simp [hn]) ?_; try simp)
  exact PPost.zch rfl (by simp [Exp.row]) rfl
 | stop pos e =>
  simp only [hr] at hu
  (refine RetX.of_bodyW Tryz.func283 rfl (by simp) fun Γ hn hpan => ?_); simp only [entry, ziC, ziN, maC, maN, oA, Tryz.ntmps283]
  repeat' (first
  | (refine zfq (fun nx' h' => hu nx' (by simp at h'; omega)) (by first | (simp [hne, zaa, getK, zab, zac, zak, zau]; done) | fail) (by rfl) (by first | assumption | simp) (by rfl) (by simp) ?_ ?_; rintro env' ob' n' hn' ⟨q', rfl⟩; refine ⟨_, Wk.refl _, ?_⟩)
  | (refine zew rfl (by simp) ?_; simp)
  | ((first | refine zag ?_ | refine zaN rfl ?_ | refine zaj ?_ | fail); simp [hne])
  | (refine ⟨by omega, ?_⟩)
  | ((first | refine zah ?_ | refine zai ?_ | fail); simp [hne])
  | (refine zdi (hC _ (zbn [i] nx (by simp <;> omega) (by simp <;> omega) (by apply Exists.intro; apply And.intro; (focus (repeat' (first | exact KF.nil | exact KL.nil | apply KF.cons | apply KL.cons 0 rfl | apply KL.cons 1 rfl | apply KL.cons 2 rfl | apply KL.cons 3 rfl | apply KL.cons 4 rfl | apply KL.cons 5 rfl | apply KL.cons 6 rfl | apply KL.cons 7 rfl | apply KL.cons 8 rfl | apply KL.cons 9 rfl))); kernel_rfl))) rfl; done)
  | (refine zaM rfl (by kernel_rfl) (by first | (simp [hn]; done) | (simp [hn]; omega) | fail) fun C k hC hk => ?_; simp [hne])
  | (refine CallP.fE (hnx) (by first | rfl | fail) (by first | simp [hne] <;> rfl | fail) ?_; (try simp [hne]))
  | fail)
  (refine hpan _ _ ⟨{ n := _, env := [], obs := [(i, pOb l q')], next := nx }, (Wk.cut rfl (by simp [hn]) (by simp [wkO, zaa, getK, zab, zac, Ob.under, D.under, zad, zae, hi, hne, zab, zac, zaa, getK]) (by simp [wkU, zam, zaa, getK, D.under, hi, hne, zab, zac, zaa, getK]) (by simp [wkE, zam, zaa, getK, hi, hne, zab, zac, zaa, getK])), by simp [hn], ?_⟩; try simp)
  exact PPost.zaB (by simp [PR.bind])
theorem ziZ {l : List Tok} (hl : TokOK l) {f p : Nat} {t : Tok} (ht : l[p]? = some t) (hk : ¬ t.kind = 2) (h1 : isB l p [116, 114, 117, 101] = true) {i nx : Nat} (hi : i < nx) :
  RetX Tryz.prog 283 [.ptr i 0] [(i, pOb l p)] nx (PPost l i nx zeh (zaX l (f + 1) p)) := by
 have hne := zaP hi;have hp := (lGE.1 ht).1;have hnx := zb4 l p t ht hl.len;have hll := hl.len;rw [zaX, ht];have hh1 := fun nx' (h : nx <= nx') => zbf l p [116, 114, 117, 101] i nx' (by omega) hp hl.len;simp only [hk, h1, if_false, if_true] at hh1 ⊢
 (refine RetX.of_bodyW Tryz.func283 rfl (by simp) fun Γ hn hpan => ?_); simp only [entry, ziC, ziN, maC, maN, oA, Tryz.ntmps283]
 repeat' (first
  | ((first | refine zag ?_ | refine zaj ?_ | refine zah ?_ | refine zai ?_ | fail); simp [hne, hk, del])
  | (refine zar ?_; simp only [zap])
  | (refine CallP.fE (hnx) (by first | rfl | fail) (by first | simp [hne, hk, del] <;> rfl | fail) ?_; (try simp [hne, hk, del]))
  | (refine CallP.ok1 (hh1 _ (by first | omega | simp <;> omega | fail)) (by first | (simp [hne, hk, del, zaa, getK, zab, zac]; done) | fail) (by rfl) (by rfl) ?_; (try simp [hne, hk, del]))
  | fail)
 refine EndW.norm ?_;simp [St.norm, za9, zbG, zb1, zbV, hne]
 (refine EndW.here ?_; (first | (refine EndOK.fin (.inr rfl) ?_) | (refine EndOK.fin (.inl rfl) ?_)); simp [zaz, zaf, Tryz.results283, hne, hi]; refine FinOK.cut [(i, pOb l (p + 1))] (nx) (by simp [zaa, getK, zab, zac, Ob.under, D.under, zad, zae, hne, hi] <;> omega) (by simp [D.under]) (by simp [hn]) ?_; try simp)
 exact PPost.zch rfl (by simp [Exp.row]) rfl
theorem zh5 {l : List Tok} (hl : TokOK l) {f p : Nat} {t : Tok} (ht : l[p]? = some t) (hk : ¬ t.kind = 2) (h1 : isB l p [116, 114, 117, 101] = false) (h2 : isB l p [102, 97, 108, 115, 101] = true) {i nx : Nat} (hi : i < nx) :
  RetX Tryz.prog 283 [.ptr i 0] [(i, pOb l p)] nx (PPost l i nx zeh (zaX l (f + 1) p)) := by
 have hne := zaP hi;have hp := (lGE.1 ht).1;have hnx := zb4 l p t ht hl.len;have hll := hl.len;rw [zaX, ht];have hh1 := fun nx' (h : nx <= nx') => zbf l p [116, 114, 117, 101] i nx' (by omega) hp hl.len;have hh2 := fun nx' (h : nx <= nx') => zbf l p [102, 97, 108, 115, 101] i nx' (by omega) hp hl.len;simp only [hk, h1, h2, if_false, if_true, Bool.false_eq_true] at hh1 hh2 ⊢
 (refine RetX.of_bodyW Tryz.func283 rfl (by simp) fun Γ hn hpan => ?_); simp only [entry, ziC, ziN, maC, maN, oA, Tryz.ntmps283]
 repeat' (first
  | ((first | refine zag ?_ | refine zaj ?_ | refine zah ?_ | refine zai ?_ | fail); simp [hne, hk, del])
  | (refine zar ?_; simp only [zap])
  | (refine CallP.fE (hnx) (by first | rfl | fail) (by first | simp [hne, hk, del] <;> rfl | fail) ?_; (try simp [hne, hk, del]))
  | (refine CallP.ok1 (hh1 _ (by first | omega | simp <;> omega | fail)) (by first | (simp [hne, hk, del, zaa, getK, zab, zac]; done) | fail) (by rfl) (by rfl) ?_; (try simp [hne, hk, del]))
  | (refine CallP.ok1 (hh2 _ (by first | omega | simp <;> omega | fail)) (by first | (simp [hne, hk, del, zaa, getK, zab, zac]; done) | fail) (by rfl) (by rfl) ?_; (try simp [hne, hk, del]))
  | fail)
 refine EndW.norm ?_;simp [St.norm, za9, zbG, zb1, zbV, hne]
 (refine EndW.here ?_; (first | (refine EndOK.fin (.inr rfl) ?_) | (refine EndOK.fin (.inl rfl) ?_)); simp [zaz, zaf, Tryz.results283, hne, hi]; refine FinOK.cut [(i, pOb l (p + 1))] (nx) (by simp [zaa, getK, zab, zac, Ob.under, D.under, zad, zae, hne, hi] <;> omega) (by simp [D.under]) (by simp [hn]) ?_; try simp)
 exact PPost.zch rfl (by simp [Exp.row]) rfl
theorem zds {l : List Tok} {F : FuncId} {r : PR Exp} {e : Exp} {q i nx : Nat} {ds : List D} {obs : List (Nat × Ob)} (h : RetX Tryz.prog F ds obs nx (PPost l i nx zeh r)) (hr : r = .ok e q) :
  RetX Tryz.prog F ds obs nx fun r o n => r = .val (.u (.agg [.int .i64 e.op, .int .i64 e.n, .int .i64 e.unit, .str e.s, .sl (e.args.map Exp.row)])) /\ o = [(i, pOb l q)] /\ n = nx := by
 subst hr;rw [<- Exp.row_eq];exact h
theorem zh4 {l : List Tok} (hl : TokOK l) {f p : Nat} (hE : zfX l f) (hf : 4 * (l.length - p) <= f) {t : Tok} (ht : l[p]? = some t) (hk : ¬ t.kind = 2) (h1 : isB l p [116, 114, 117, 101] = false) (h2 : isB l p [102, 97, 108, 115, 101] = false)
  (h3 : isB l p [109, 105, 110] = false) (h4 : isB l p [109, 97, 120] = false) (h5 : isB l p [40] = true) {i nx : Nat} (hi : i < nx) :
  RetX Tryz.prog 283 [.ptr i 0] [(i, pOb l p)] nx (PPost l i nx zeh (zaX l (f + 1) p)) := by
 have hne := zaP hi;have hp := (lGE.1 ht).1;have hnx := zb4 l p t ht hl.len;have hll := hl.len;have hp2 := zba hl h5;rw [zaX, ht];have hh1 := fun nx' (h : nx <= nx') => zbf l p [116, 114, 117, 101] i nx' (by omega) hp hl.len;have hh2 := fun nx' (h : nx <= nx') => zbf l p [102, 97, 108, 115, 101] i nx' (by omega) hp hl.len;have hm1 := zeg l p [109, 105, 110] hp hl.len;have hm2 := zeg l p [109, 97, 120] hp hl.len;have hh3 := fun nx' (h : nx <= nx') => zbf l p [40] i nx' (by omega) hp hl.len;simp only [hk, h1, h2, h3, h4, h5, if_false, if_true, Bool.false_eq_true, or_self] at hh1 hh2 hm1 hm2 hh3 ⊢;have he := fun nx' (h : nx <= nx') => hE (p + 1) 0 i nx' (by omega) hp2 (by omega) (by omega) (by omega);cases hr : zej l f (p + 1) 0 with
 | stop pos e =>
  simp only [hr] at he
  (refine RetX.of_bodyW Tryz.func283 rfl (by simp) fun Γ hn hpan => ?_); simp only [entry, ziC, ziN, maC, maN, oA, Tryz.ntmps283]
  repeat' (first
  | ((first | refine zag ?_ | refine zaj ?_ | refine zah ?_ | refine zai ?_ | fail); simp [hne, hk, del, nAA])
  | (refine CallP.fE (hnx) (by first | rfl | fail) (by first | simp [hne, hk, del, nAA] <;> rfl | fail) ?_; (try simp [hne, hk, del, nAA]))
  | (refine CallP.fE (hm1) (by first | rfl | fail) (by first | simp [hne, hk, del, nAA] <;> rfl | fail) ?_; (try simp [hne, hk, del, nAA]))
  | (refine CallP.fE (hm2) (by first | rfl | fail) (by first | simp [hne, hk, del, nAA] <;> rfl | fail) ?_; (try simp [hne, hk, del, nAA]))
  | (refine CallP.ok1 (hh1 _ (by first | omega | simp <;> omega | fail)) (by first | (simp [hne, hk, del, nAA, zaa, getK, zab, zac]; done) | fail) (by rfl) (by rfl) ?_; (try simp [hne, hk, del, nAA]))
  | (refine CallP.ok1 (hh2 _ (by first | omega | simp <;> omega | fail)) (by first | (simp [hne, hk, del, nAA, zaa, getK, zab, zac]; done) | fail) (by rfl) (by rfl) ?_; (try simp [hne, hk, del, nAA]))
  | (refine CallP.ok1 (hh3 _ (by first | omega | simp <;> omega | fail)) (by first | (simp [hne, hk, del, nAA, zaa, getK, zab, zac]; done) | fail) (by rfl) (by rfl) ?_; (try simp [hne, hk, del, nAA]))
  | (refine CallP.zeQ (he _ (by first | omega | simp <;> omega | fail)) (by first | (simp [hne, hk, del, nAA, zaa, getK, zab, zac]; done) | fail) (by rfl) (by first | assumption | (simp; done) | fail) (by rfl) (by simp) ?_; rintro ob' ⟨q', rfl⟩; refine ⟨_, Wk.refl _, ?_⟩)
  | fail)
  (refine hpan _ _ ⟨{ n := _, env := [], obs := [(i, pOb l q')], next := nx }, (Wk.cut rfl (by simp [hn]) (by simp [wkO, zaa, getK, zab, zac, Ob.under, D.under, zad, zae, hi, hne, zab, zac, zaa, getK]) (by simp [wkU, zam, zaa, getK, D.under, hi, hne, zab, zac, zaa, getK]) (by simp [wkE, zam, zaa, getK, hi, hne, zab, zac, zaa, getK])), by simp [hn], ?_⟩; try simp)
  exact PPost.zaB (by simp [PR.bind, *])
 | ok e1 q1 =>
  have he := fun nx' h => zds (he nx' h) hr;obtain ⟨g1, g2⟩ := (zcm hl f).1 _ _ _ _ hr hp2;have hw := fun nx' (h : nx <= nx') => zeS hl [41] (q := q1) (i := i) (nx := nx') (by omega) g2;cases hr2 : zbL l q1 [[41]] with
  | stop pos e =>
   simp only [hr2] at hw
   (refine RetX.of_bodyW Tryz.func283 rfl (by simp) fun Γ hn hpan => ?_); simp only [entry, ziC, ziN, maC, maN, oA, Tryz.ntmps283]
   repeat' (first
  | ((first | refine zag ?_ | refine zaj ?_ | refine zah ?_ | refine zai ?_ | fail); simp [hne, hk, del, nAA])
  | (refine CallP.fE (hnx) (by first | rfl | fail) (by first | simp [hne, hk, del, nAA] <;> rfl | fail) ?_; (try simp [hne, hk, del, nAA]))
  | (refine CallP.fE (hm1) (by first | rfl | fail) (by first | simp [hne, hk, del, nAA] <;> rfl | fail) ?_; (try simp [hne, hk, del, nAA]))
  | (refine CallP.fE (hm2) (by first | rfl | fail) (by first | simp [hne, hk, del, nAA] <;> rfl | fail) ?_; (try simp [hne, hk, del, nAA]))
  | (refine CallP.ok1 (hh1 _ (by first | omega | simp <;> omega | fail)) (by first | (simp [hne, hk, del, nAA, zaa, getK, zab, zac]; done) | fail) (by rfl) (by rfl) ?_; (try simp [hne, hk, del, nAA]))
  | (refine CallP.ok1 (hh2 _ (by first | omega | simp <;> omega | fail)) (by first | (simp [hne, hk, del, nAA, zaa, getK, zab, zac]; done) | fail) (by rfl) (by rfl) ?_; (try simp [hne, hk, del, nAA]))
  | (refine CallP.ok1 (hh3 _ (by first | omega | simp <;> omega | fail)) (by first | (simp [hne, hk, del, nAA, zaa, getK, zab, zac]; done) | fail) (by rfl) (by rfl) ?_; (try simp [hne, hk, del, nAA]))
  | (refine CallP.ok1 (he _ (by first | omega | simp <;> omega | fail)) (by first | (simp [hne, hk, del, nAA, zaa, getK, zab, zac]; done) | fail) (by rfl) (by rfl) ?_; (try simp [hne, hk, del, nAA]))
  | (refine CallP.zeQ (hw _ (by first | omega | simp <;> omega | fail)) (by first | (simp [hne, hk, del, nAA, zaa, getK, zab, zac]; done) | fail) (by rfl) (by first | assumption | (simp; done) | fail) (by rfl) (by simp) ?_; rintro ob' ⟨q', rfl⟩; refine ⟨_, Wk.refl _, ?_⟩)
  | (refine zaF (by first | rfl | fail) ?_; simp [hne, hk, del, nAA, frzN, frz1, zaE, zaD, St.frz, St.frzS, frzS, fv, za5, za6, za7, zaH, zay, zav, del, frz, zbg])
  | fail)
   (refine hpan _ _ ⟨{ n := _, env := [], obs := [(i, pOb l q')], next := nx }, (Wk.cut rfl (by simp [hn]) (by simp [wkO, zaa, getK, zab, zac, Ob.under, D.under, zad, zae, hi, hne, zab, zac, zaa, getK]) (by simp [wkU, zam, zaa, getK, D.under, hi, hne, zab, zac, zaa, getK]) (by simp [wkE, zam, zaa, getK, hi, hne, zab, zac, zaa, getK])), by simp [hn], ?_⟩; try simp)
   exact PPost.zaB (by simp [PR.bind, *])
  | ok u2 q =>
   simp only [hr2] at hw
   (refine RetX.of_bodyW Tryz.func283 rfl (by simp) fun Γ hn hpan => ?_); simp only [entry, ziC, ziN, maC, maN, oA, Tryz.ntmps283]
   repeat' (first
  | ((first | refine zag ?_ | refine zaj ?_ | refine zah ?_ | refine zai ?_ | fail); simp [hne, hk, del, nAA])
  | (refine zar ?_; simp only [zap])
  | (refine CallP.fE (hnx) (by first | rfl | fail) (by first | simp [hne, hk, del, nAA] <;> rfl | fail) ?_; (try simp [hne, hk, del, nAA]))
  | (refine CallP.fE (hm1) (by first | rfl | fail) (by first | simp [hne, hk, del, nAA] <;> rfl | fail) ?_; (try simp [hne, hk, del, nAA]))
  | (refine CallP.fE (hm2) (by first | rfl | fail) (by first | simp [hne, hk, del, nAA] <;> rfl | fail) ?_; (try simp [hne, hk, del, nAA]))
  | (refine CallP.ok1 (hh1 _ (by first | omega | simp <;> omega | fail)) (by first | (simp [hne, hk, del, nAA, zaa, getK, zab, zac]; done) | fail) (by rfl) (by rfl) ?_; (try simp [hne, hk, del, nAA]))
  | (refine CallP.ok1 (hh2 _ (by first | omega | simp <;> omega | fail)) (by first | (simp [hne, hk, del, nAA, zaa, getK, zab, zac]; done) | fail) (by rfl) (by rfl) ?_; (try simp [hne, hk, del, nAA]))
  | (refine CallP.ok1 (hh3 _ (by first | omega | simp <;> omega | fail)) (by first | (simp [hne, hk, del, nAA, zaa, getK, zab, zac]; done) | fail) (by rfl) (by rfl) ?_; (try simp [hne, hk, del, nAA]))
  | (refine CallP.ok1 (he _ (by first | omega | simp <;> omega | fail)) (by first | (simp [hne, hk, del, nAA, zaa, getK, zab, zac]; done) | fail) (by rfl) (by rfl) ?_; (try simp [hne, hk, del, nAA]))
  | (refine CallP.ok1 (hw _ (by first | omega | simp <;> omega | fail)) (by first | (simp [hne, hk, del, nAA, zaa, getK, zab, zac]; done) | fail) (by rfl) (by rfl) ?_; (try simp [hne, hk, del, nAA]))
  | (refine zaF (by first | rfl | fail) ?_; simp [hne, hk, del, nAA, frzN, frz1, zaE, zaD, St.frz, St.frzS, frzS, fv, za5, za6, za7, zaH, zay, zav, del, frz, zbg])
  | fail)
   refine EndW.norm ?_;simp [St.norm, za9, zbG, zb1, zbV, hne]
   (refine EndW.here ?_; (first | (refine EndOK.fin (.inr rfl) ?_) | (refine EndOK.fin (.inl rfl) ?_)); simp [zaz, zaf, Tryz.results283, hne, hi]; refine FinOK.cut [(i, pOb l q)] (nx) (by simp [zaa, getK, zab, zac, Ob.under, D.under, zad, zae, hne, hi] <;> omega) (by simp [D.under]) (by simp [hn]) ?_; try simp)
   exact PPost.zch (by simp [PR.bind, *]; rfl) (by simp [Exp.row_eq]) rfl
theorem zhp {l : List Tok} (hl : TokOK l) {f p : Nat} (hE : zfX l f) (hf : 4 * (l.length - p) <= f) {t : Tok} (ht : l[p]? = some t) (hk : ¬ t.kind = 2) (h1 : isB l p [116, 114, 117, 101] = false) (h2 : isB l p [102, 97, 108, 115, 101] = false)
  (hm : isB l p [109, 105, 110] = false /\ isB l p [109, 97, 120] = true \/ isB l p [109, 105, 110] = true /\ isB l p [109, 97, 120] = false) {i nx : Nat} (hi : i < nx) :
  RetX Tryz.prog 283 [.ptr i 0] [(i, pOb l p)] nx (PPost l i nx zeh (zaX l (f + 1) p)) := by
 have hne := zaP hi;have hp := (lGE.1 ht).1;have hnx := zb4 l p t ht hl.len;have hll := hl.len;have hp2 : p + 1 < l.length := hm.elim (fun h => zba hl h.2) (fun h => zba hl h.1);rw [zaX, ht];have hh1 := fun nx' (h : nx <= nx') => zbf l p [116, 114, 117, 101] i nx' (by omega) hp hl.len;have hh2 := fun nx' (h : nx <= nx') => zbf l p [102, 97, 108, 115, 101] i nx' (by omega) hp hl.len;have hm1 := zeg l p [109, 105, 110] hp hl.len;have hm2 := zeg l p [109, 97, 120] hp hl.len;rcases hm with ⟨h3, h4⟩ | ⟨h3, h4⟩
 all_goals
  simp only [hk, h1, h2, h3, h4, if_false, if_true, Bool.false_eq_true, or_true, true_or] at hh1 hh2 hm1 hm2 ⊢;have hw1 := fun nx' (h : nx <= nx') => zeS hl [40] (q := (p + 1)) (i := i) (nx := nx') (by omega) hp2;cases hr0 : zbL l (p + 1) [[40]] with
  | stop pos e =>
   simp only [hr0] at hw1
   (refine RetX.of_bodyW Tryz.func283 rfl (by simp) fun Γ hn hpan => ?_); simp only [entry, ziC, ziN, maC, maN, oA, Tryz.ntmps283]
   repeat' (first
  | ((first | refine zag ?_ | refine zaj ?_ | fail); simp [hne, hk, del, nAA])
  | (refine ⟨by omega, ?_⟩)
  | ((first | refine zah ?_ | refine zai ?_ | refine zat ?_ | fail); simp [hne, hk, del, nAA])
  | (refine zaq ?_; simp only [zap])
  | (refine CallP.fE (hnx) (by first | rfl | fail) (by first | simp [hne, hk, del, nAA] <;> rfl | fail) ?_; (try simp [hne, hk, del, nAA]))
  | (refine CallP.fE (hm1) (by first | rfl | fail) (by first | simp [hne, hk, del, nAA] <;> rfl | fail) ?_; (try simp [hne, hk, del, nAA]))
  | (refine CallP.fE (hm2) (by first | rfl | fail) (by first | simp [hne, hk, del, nAA] <;> rfl | fail) ?_; (try simp [hne, hk, del, nAA]))
  | (refine CallP.ok1 (hh1 _ (by first | omega | simp <;> omega | fail)) (by first | (simp [hne, hk, del, nAA, zaa, getK, zab, zac]; done) | fail) (by rfl) (by rfl) ?_; (try simp [hne, hk, del, nAA]))
  | (refine CallP.ok1 (hh2 _ (by first | omega | simp <;> omega | fail)) (by first | (simp [hne, hk, del, nAA, zaa, getK, zab, zac]; done) | fail) (by rfl) (by rfl) ?_; (try simp [hne, hk, del, nAA]))
  | (refine CallP.zeQ (hw1 _ (by first | omega | simp <;> omega | fail)) (by first | (simp [hne, hk, del, nAA, zaa, getK, zab, zac]; done) | fail) (by rfl) (by first | assumption | (simp; done) | fail) (by rfl) (by simp) ?_; rintro ob' ⟨q', rfl⟩; refine ⟨_, Wk.refl _, ?_⟩)
  | (refine zaF (by first | rfl | fail) ?_; simp [hne, hk, del, nAA, frzN, frz1, zaE, zaD, St.frz, St.frzS, frzS, fv, za5, za6, za7, zaH, zay, zav, del, frz, zbg])
  | fail)
   (refine hpan _ _ ⟨{ n := _, env := [], obs := [(i, pOb l q')], next := nx }, (Wk.cut rfl (by simp [hn]) (by simp [wkO, zaa, getK, zab, zac, Ob.under, D.under, zad, zae, hi, hne, zab, zac, zaa, getK]) (by simp [wkU, zam, zaa, getK, D.under, hi, hne, zab, zac, zaa, getK]) (by simp [wkE, zam, zaa, getK, hi, hne, zab, zac, zaa, getK])), by simp [hn], ?_⟩; try simp)
   exact PPost.zaB (by simp [PR.bind, *])
  | ok v0 q0 =>
   simp only [hr0] at hw1;obtain ⟨g0a, g0b⟩ := zaW hl _ hr0 hp2;have ha := fun nx' (h : nx <= nx') => hE q0 0 i nx' (by omega) g0b (by omega) (by omega) (by omega);cases hr1 : zej l f q0 0 with
   | stop pos e =>
    simp only [hr1] at ha
    (refine RetX.of_bodyW Tryz.func283 rfl (by simp) fun Γ hn hpan => ?_); simp only [entry, ziC, ziN, maC, maN, oA, Tryz.ntmps283]
    repeat' (first
  | ((first | refine zag ?_ | refine zaj ?_ | fail); simp [hne, hk, del, nAA])
  | (refine ⟨by omega, ?_⟩)
  | ((first | refine zah ?_ | refine zai ?_ | refine zat ?_ | fail); simp [hne, hk, del, nAA])
  | (refine zaq ?_; simp only [zap])
  | (refine CallP.fE (hnx) (by first | rfl | fail) (by first | simp [hne, hk, del, nAA] <;> rfl | fail) ?_; (try simp [hne, hk, del, nAA]))
  | (refine CallP.fE (hm1) (by first | rfl | fail) (by first | simp [hne, hk, del, nAA] <;> rfl | fail) ?_; (try simp [hne, hk, del, nAA]))
  | (refine CallP.fE (hm2) (by first | rfl | fail) (by first | simp [hne, hk, del, nAA] <;> rfl | fail) ?_; (try simp [hne, hk, del, nAA]))
  | (refine CallP.ok1 (hh1 _ (by first | omega | simp <;> omega | fail)) (by first | (simp [hne, hk, del, nAA, zaa, getK, zab, zac]; done) | fail) (by rfl) (by rfl) ?_; (try simp [hne, hk, del, nAA]))
  | (refine CallP.ok1 (hh2 _ (by first | omega | simp <;> omega | fail)) (by first | (simp [hne, hk, del, nAA, zaa, getK, zab, zac]; done) | fail) (by rfl) (by rfl) ?_; (try simp [hne, hk, del, nAA]))
  | (refine CallP.ok1 (hw1 _ (by first | omega | simp <;> omega | fail)) (by first | (simp [hne, hk, del, nAA, zaa, getK, zab, zac]; done) | fail) (by rfl) (by rfl) ?_; (try simp [hne, hk, del, nAA]))
  | (refine CallP.zeQ (ha _ (by first | omega | simp <;> omega | fail)) (by first | (simp [hne, hk, del, nAA, zaa, getK, zab, zac]; done) | fail) (by rfl) (by first | assumption | (simp; done) | fail) (by rfl) (by simp) ?_; rintro ob' ⟨q', rfl⟩; refine ⟨_, Wk.refl _, ?_⟩)
  | (refine zaF (by first | rfl | fail) ?_; simp [hne, hk, del, nAA, frzN, frz1, zaE, zaD, St.frz, St.frzS, frzS, fv, za5, za6, za7, zaH, zay, zav, del, frz, zbg])
  | fail)
    (refine hpan _ _ ⟨{ n := _, env := [], obs := [(i, pOb l q')], next := nx }, (Wk.cut rfl (by simp [hn]) (by simp [wkO, zaa, getK, zab, zac, Ob.under, D.under, zad, zae, hi, hne, zab, zac, zaa, getK]) (by simp [wkU, zam, zaa, getK, D.under, hi, hne, zab, zac, zaa, getK]) (by simp [wkE, zam, zaa, getK, hi, hne, zab, zac, zaa, getK])), by simp [hn], ?_⟩; try simp)
    exact PPost.zaB (by simp [PR.bind, *])
   | ok v1 q1 =>
    have ha := fun nx' h => zds (ha nx' h) hr1;obtain ⟨g1a, g1b⟩ := (zcm hl f).1 _ _ _ _ hr1 g0b;have hw2 := fun nx' (h : nx <= nx') => zeS hl [44] (q := q1) (i := i) (nx := nx') (by omega) g1b;cases hr2 : zbL l q1 [[44]] with
    | stop pos e =>
     simp only [hr2] at hw2
     (refine RetX.of_bodyW Tryz.func283 rfl (by simp) fun Γ hn hpan => ?_); simp only [entry, ziC, ziN, maC, maN, oA, Tryz.ntmps283]
     repeat' (first
  | ((first | refine zag ?_ | refine zaj ?_ | fail); simp [hne, hk, del, nAA])
  | (refine ⟨by omega, ?_⟩)
  | ((first | refine zah ?_ | refine zai ?_ | refine zat ?_ | fail); simp [hne, hk, del, nAA])
  | (refine zaq ?_; simp only [zap])
  | (refine CallP.fE (hnx) (by first | rfl | fail) (by first | simp [hne, hk, del, nAA] <;> rfl | fail) ?_; (try simp [hne, hk, del, nAA]))
  | (refine CallP.fE (hm1) (by first | rfl | fail) (by first | simp [hne, hk, del, nAA] <;> rfl | fail) ?_; (try simp [hne, hk, del, nAA]))
  | (refine CallP.fE (hm2) (by first | rfl | fail) (by first | simp [hne, hk, del, nAA] <;> rfl | fail) ?_; (try simp [hne, hk, del, nAA]))
  | (refine CallP.ok1 (hh1 _ (by first | omega | simp <;> omega | fail)) (by first | (simp [hne, hk, del, nAA, zaa, getK, zab, zac]; done) | fail) (by rfl) (by rfl) ?_; (try simp [hne, hk, del, nAA]))
  | (refine CallP.ok1 (hh2 _ (by first | omega | simp <;> omega | fail)) (by first | (simp [hne, hk, del, nAA, zaa, getK, zab, zac]; done) | fail) (by rfl) (by rfl) ?_; (try simp [hne, hk, del, nAA]))
  | (refine CallP.ok1 (hw1 _ (by first | omega | simp <;> omega | fail)) (by first | (simp [hne, hk, del, nAA, zaa, getK, zab, zac]; done) | fail) (by rfl) (by rfl) ?_; (try simp [hne, hk, del, nAA]))
  | (refine CallP.ok1 (ha _ (by first | omega | simp <;> omega | fail)) (by first | (simp [hne, hk, del, nAA, zaa, getK, zab, zac]; done) | fail) (by rfl) (by rfl) ?_; (try simp [hne, hk, del, nAA]))
  | (refine CallP.zeQ (hw2 _ (by first | omega | simp <;> omega | fail)) (by first | (simp [hne, hk, del, nAA, zaa, getK, zab, zac]; done) | fail) (by rfl) (by first | assumption | (simp; done) | fail) (by rfl) (by simp) ?_; rintro ob' ⟨q', rfl⟩; refine ⟨_, Wk.refl _, ?_⟩)
  | (refine zaF (by first | rfl | fail) ?_; simp [hne, hk, del, nAA, frzN, frz1, zaE, zaD, St.frz, St.frzS, frzS, fv, za5, za6, za7, zaH, zay, zav, del, frz, zbg])
  | fail)
     (refine hpan _ _ ⟨{ n := _, env := [], obs := [(i, pOb l q')], next := nx }, (Wk.cut rfl (by simp [hn]) (by simp [wkO, zaa, getK, zab, zac, Ob.under, D.under, zad, zae, hi, hne, zab, zac, zaa, getK]) (by simp [wkU, zam, zaa, getK, D.under, hi, hne, zab, zac, zaa, getK]) (by simp [wkE, zam, zaa, getK, hi, hne, zab, zac, zaa, getK])), by simp [hn], ?_⟩; try simp)
     exact PPost.zaB (by simp [PR.bind, *])
    | ok v2 q2 =>
     simp only [hr2] at hw2;obtain ⟨g2a, g2b⟩ := zaW hl _ hr2 g1b;have hb := fun nx' (h : nx <= nx') => hE q2 0 i nx' (by omega) g2b (by omega) (by omega) (by omega);cases hr3 : zej l f q2 0 with
     | stop pos e =>
      simp only [hr3] at hb
      (refine RetX.of_bodyW Tryz.func283 rfl (by simp) fun Γ hn hpan => ?_); simp only [entry, ziC, ziN, maC, maN, oA, Tryz.ntmps283]
      repeat' (first
  | ((first | refine zag ?_ | refine zaj ?_ | fail); simp [hne, hk, del, nAA])
  | (refine ⟨by omega, ?_⟩)
  | ((first | refine zah ?_ | refine zai ?_ | refine zat ?_ | fail); simp [hne, hk, del, nAA])
  | (refine zaq ?_; simp only [zap])
  | (refine CallP.fE (hnx) (by first | rfl | fail) (by first | simp [hne, hk, del, nAA] <;> rfl | fail) ?_; (try simp [hne, hk, del, nAA]))
  | (refine CallP.fE (hm1) (by first | rfl | fail) (by first | simp [hne, hk, del, nAA] <;> rfl | fail) ?_; (try simp [hne, hk, del, nAA]))
  | (refine CallP.fE (hm2) (by first | rfl | fail) (by first | simp [hne, hk, del, nAA] <;> rfl | fail) ?_; (try simp [hne, hk, del, nAA]))
  | (refine CallP.ok1 (hh1 _ (by first | omega | simp <;> omega | fail)) (by first | (simp [hne, hk, del, nAA, zaa, getK, zab, zac]; done) | fail) (by rfl) (by rfl) ?_; (try simp [hne, hk, del, nAA]))
  | (refine CallP.ok1 (hh2 _ (by first | omega | simp <;> omega | fail)) (by first | (simp [hne, hk, del, nAA, zaa, getK, zab, zac]; done) | fail) (by rfl) (by rfl) ?_; (try simp [hne, hk, del, nAA]))
  | (refine CallP.ok1 (hw1 _ (by first | omega | simp <;> omega | fail)) (by first | (simp [hne, hk, del, nAA, zaa, getK, zab, zac]; done) | fail) (by rfl) (by rfl) ?_; (try simp [hne, hk, del, nAA]))
  | (refine CallP.ok1 (ha _ (by first | omega | simp <;> omega | fail)) (by first | (simp [hne, hk, del, nAA, zaa, getK, zab, zac]; done) | fail) (by rfl) (by rfl) ?_; (try simp [hne, hk, del, nAA]))
  | (refine CallP.ok1 (hw2 _ (by first | omega | simp <;> omega | fail)) (by first | (simp [hne, hk, del, nAA, zaa, getK, zab, zac]; done) | fail) (by rfl) (by rfl) ?_; (try simp [hne, hk, del, nAA]))
  | (refine CallP.zeQ (hb _ (by first | omega | simp <;> omega | fail)) (by first | (simp [hne, hk, del, nAA, zaa, getK, zab, zac]; done) | fail) (by rfl) (by first | assumption | (simp; done) | fail) (by rfl) (by simp) ?_; rintro ob' ⟨q', rfl⟩; refine ⟨_, Wk.refl _, ?_⟩)
  | (refine zaF (by first | rfl | fail) ?_; simp [hne, hk, del, nAA, frzN, frz1, zaE, zaD, St.frz, St.frzS, frzS, fv, za5, za6, za7, zaH, zay, zav, del, frz, zbg])
  | fail)
      (refine hpan _ _ ⟨{ n := _, env := [], obs := [(i, pOb l q')], next := nx }, (Wk.cut rfl (by simp [hn]) (by simp [wkO, zaa, getK, zab, zac, Ob.under, D.under, zad, zae, hi, hne, zab, zac, zaa, getK]) (by simp [wkU, zam, zaa, getK, D.under, hi, hne, zab, zac, zaa, getK]) (by simp [wkE, zam, zaa, getK, hi, hne, zab, zac, zaa, getK])), by simp [hn], ?_⟩; try simp)
      exact PPost.zaB (by simp [PR.bind, *])
     | ok v3 q3 =>
      have hb := fun nx' h => zds (hb nx' h) hr3;obtain ⟨g3a, g3b⟩ := (zcm hl f).1 _ _ _ _ hr3 g2b;have hw3 := fun nx' (h : nx <= nx') => zeS hl [41] (q := q3) (i := i) (nx := nx') (by omega) g3b;cases hr4 : zbL l q3 [[41]] with
      | stop pos e =>
       simp only [hr4] at hw3
       (refine RetX.of_bodyW Tryz.func283 rfl (by simp) fun Γ hn hpan => ?_); simp only [entry, ziC, ziN, maC, maN, oA, Tryz.ntmps283]
       repeat' (first
  | ((first | refine zag ?_ | refine zaj ?_ | fail); simp [hne, hk, del, nAA])
  | (refine ⟨by omega, ?_⟩)
  | ((first | refine zah ?_ | refine zai ?_ | refine zat ?_ | fail); simp [hne, hk, del, nAA])
  | (refine zaq ?_; simp only [zap])
  | (refine CallP.fE (hnx) (by first | rfl | fail) (by first | simp [hne, hk, del, nAA] <;> rfl | fail) ?_; (try simp [hne, hk, del, nAA]))
  | (refine CallP.fE (hm1) (by first | rfl | fail) (by first | simp [hne, hk, del, nAA] <;> rfl | fail) ?_; (try simp [hne, hk, del, nAA]))
  | (refine CallP.fE (hm2) (by first | rfl | fail) (by first | simp [hne, hk, del, nAA] <;> rfl | fail) ?_; (try simp [hne, hk, del, nAA]))
  | (refine CallP.ok1 (hh1 _ (by first | omega | simp <;> omega | fail)) (by first | (simp [hne, hk, del, nAA, zaa, getK, zab, zac]; done) | fail) (by rfl) (by rfl) ?_; (try simp [hne, hk, del, nAA]))
  | (refine CallP.ok1 (hh2 _ (by first | omega | simp <;> omega | fail)) (by first | (simp [hne, hk, del, nAA, zaa, getK, zab, zac]; done) | fail) (by rfl) (by rfl) ?_; (try simp [hne, hk, del, nAA]))
  | (refine CallP.ok1 (hw1 _ (by first | omega | simp <;> omega | fail)) (by first | (simp [hne, hk, del, nAA, zaa, getK, zab, zac]; done) | fail) (by rfl) (by rfl) ?_; (try simp [hne, hk, del, nAA]))
  | (refine CallP.ok1 (ha _ (by first | omega | simp <;> omega | fail)) (by first | (simp [hne, hk, del, nAA, zaa, getK, zab, zac]; done) | fail) (by rfl) (by rfl) ?_; (try simp [hne, hk, del, nAA]))
  | (refine CallP.ok1 (hw2 _ (by first | omega | simp <;> omega | fail)) (by first | (simp [hne, hk, del, nAA, zaa, getK, zab, zac]; done) | fail) (by rfl) (by rfl) ?_; (try simp [hne, hk, del, nAA]))
  | (refine CallP.ok1 (hb _ (by first | omega | simp <;> omega | fail)) (by first | (simp [hne, hk, del, nAA, zaa, getK, zab, zac]; done) | fail) (by rfl) (by rfl) ?_; (try simp [hne, hk, del, nAA]))
  | (refine CallP.zeQ (hw3 _ (by first | omega | simp <;> omega | fail)) (by first | (simp [hne, hk, del, nAA, zaa, getK, zab, zac]; done) | fail) (by rfl) (by first | assumption | (simp; done) | fail) (by rfl) (by simp) ?_; rintro ob' ⟨q', rfl⟩; refine ⟨_, Wk.refl _, ?_⟩)
  | (refine zaF (by first | rfl | fail) ?_; simp [hne, hk, del, nAA, frzN, frz1, zaE, zaD, St.frz, St.frzS, frzS, fv, za5, za6, za7, zaH, zay, zav, del, frz, zbg])
  | fail)
       (refine hpan _ _ ⟨{ n := _, env := [], obs := [(i, pOb l q')], next := nx }, (Wk.cut rfl (by simp [hn]) (by simp [wkO, zaa, getK, zab, zac, Ob.under, D.under, zad, zae, hi, hne, zab, zac, zaa, getK]) (by simp [wkU, zam, zaa, getK, D.under, hi, hne, zab, zac, zaa, getK]) (by simp [wkE, zam, zaa, getK, hi, hne, zab, zac, zaa, getK])), by simp [hn], ?_⟩; try simp)
       exact PPost.zaB (by simp [PR.bind, *])
      | ok v4 q4 =>
       simp only [hr4] at hw3;obtain ⟨g4a, g4b⟩ := zaW hl _ hr4 g3b
       (refine RetX.of_bodyW Tryz.func283 rfl (by simp) fun Γ hn hpan => ?_); simp only [entry, ziC, ziN, maC, maN, oA, Tryz.ntmps283]
       repeat' (first
  | ((first | refine zag ?_ | refine zaj ?_ | fail); simp [hne, hk, del, nAA])
  | (refine ⟨by omega, ?_⟩)
  | ((first | refine zah ?_ | refine zai ?_ | refine zat ?_ | fail); simp [hne, hk, del, nAA])
  | ((first | refine zar ?_ | refine zaq ?_ | fail); simp only [zap])
  | (refine CallP.fE (hnx) (by first | rfl | fail) (by first | simp [hne, hk, del, nAA] <;> rfl | fail) ?_; (try simp [hne, hk, del, nAA]))
  | (refine CallP.fE (hm1) (by first | rfl | fail) (by first | simp [hne, hk, del, nAA] <;> rfl | fail) ?_; (try simp [hne, hk, del, nAA]))
  | (refine CallP.fE (hm2) (by first | rfl | fail) (by first | simp [hne, hk, del, nAA] <;> rfl | fail) ?_; (try simp [hne, hk, del, nAA]))
  | (refine CallP.ok1 (hh1 _ (by first | omega | simp <;> omega | fail)) (by first | (simp [hne, hk, del, nAA, zaa, getK, zab, zac]; done) | fail) (by rfl) (by rfl) ?_; (try simp [hne, hk, del, nAA]))
  | (refine CallP.ok1 (hh2 _ (by first | omega | simp <;> omega | fail)) (by first | (simp [hne, hk, del, nAA, zaa, getK, zab, zac]; done) | fail) (by rfl) (by rfl) ?_; (try simp [hne, hk, del, nAA]))
  | (refine CallP.ok1 (hw1 _ (by first | omega | simp <;> omega | fail)) (by first | (simp [hne, hk, del, nAA, zaa, getK, zab, zac]; done) | fail) (by rfl) (by rfl) ?_; (try simp [hne, hk, del, nAA]))
  | (refine CallP.ok1 (ha _ (by first | omega | simp <;> omega | fail)) (by first | (simp [hne, hk, del, nAA, zaa, getK, zab, zac]; done) | fail) (by rfl) (by rfl) ?_; (try simp [hne, hk, del, nAA]))
  | (refine CallP.ok1 (hw2 _ (by first | omega | simp <;> omega | fail)) (by first | (simp [hne, hk, del, nAA, zaa, getK, zab, zac]; done) | fail) (by rfl) (by rfl) ?_; (try simp [hne, hk, del, nAA]))
  | (refine CallP.ok1 (hb _ (by first | omega | simp <;> omega | fail)) (by first | (simp [hne, hk, del, nAA, zaa, getK, zab, zac]; done) | fail) (by rfl) (by rfl) ?_; (try simp [hne, hk, del, nAA]))
  | (refine CallP.ok1 (hw3 _ (by first | omega | simp <;> omega | fail)) (by first | (simp [hne, hk, del, nAA, zaa, getK, zab, zac]; done) | fail) (by rfl) (by rfl) ?_; (try simp [hne, hk, del, nAA]))
  | (refine zaF (by first | rfl | fail) ?_; simp [hne, hk, del, nAA, frzN, frz1, zaE, zaD, St.frz, St.frzS, frzS, fv, za5, za6, za7, zaH, zay, zav, del, frz, zbg])
  | fail)
       (refine EndW.frzN 1 ?_; simp [frzN, frz1, zaE, zaD, St.frz, St.frzS, frzS, fv, za5, za6, za7, zaH, zay, zav, del, frz, zbg, hne, nAA])
       refine EndW.norm ?_;simp [St.norm, za9, zbG, zb1, zbV, hne, nAA]
       (refine EndW.here ?_; (first | (refine EndOK.fin (.inr rfl) ?_) | (refine EndOK.fin (.inl rfl) ?_)); simp [zaz, zaf, Tryz.results283, hne, hi]; refine FinOK.cut [(i, pOb l q4)] (nx) (by simp [zaa, getK, zab, zac, Ob.under, D.under, zad, zae, hne, hi] <;> omega) (by simp [D.under]) (by simp [hn]) ?_; try simp)
       exact PPost.zch (by simp [PR.bind, *]; rfl) (by simp [Exp.row_eq, Exp.op, Exp.n, Exp.unit, Exp.s, Exp.args]) rfl
theorem zj0 {l : List Tok} (hl : TokOK l) {f p : Nat} (hE : zfX l f) (hf : 4 * (l.length - p) <= f) {t : Tok} (ht : l[p]? = some t) (hk : ¬ t.kind = 2) (h1 : isB l p [116, 114, 117, 101] = false) (h2 : isB l p [102, 97, 108, 115, 101] = false)
  (h3 : isB l p [109, 105, 110] = false) (h4 : isB l p [109, 97, 120] = true) {i nx : Nat} (hi : i < nx) :
  RetX Tryz.prog 283 [.ptr i 0] [(i, pOb l p)] nx (PPost l i nx zeh (zaX l (f + 1) p)) := zhp hl hE hf ht hk h1 h2 (.inl ⟨h3, h4⟩) hi
theorem zmQ {l : List Tok} (hl : TokOK l) {f p : Nat} {form : Int} (hE : zfX l f) (hp : p < l.length) (hf : 4 * (l.length - p) + 1 <= f)
  (hf0 : form = 0) (h1 : isB l p [105, 102] = true) {i nx : Nat} (hi : i < nx) :
  RetX Tryz.prog 247 [.ptr i 0, zie form] [(i, pOb l p)] nx (PPost l i nx zi8 (zbx l (f + 1) p form)) := by
 have hne := zaP hi;have hll := hl.len;rw [zbx];have hp2 := zba hl h1;subst hf0;have hf0 : (0 : Int) = 0 := rfl;have hf3 : (0 : Int) <= 3 := by omega
 have hh1 := fun nx' (h : nx <= nx') => zbf l p [105, 102] i nx' (by omega) hp hl.len;simp only [h1, if_true] at hh1;rw [if_pos ⟨rfl, h1⟩];have ha := fun nx' (h : nx <= nx') => hE (p + 1) 0 i nx' (by omega) hp2 (by omega) (by omega) (by omega);cases hr0 : zej l f (p + 1) 0 with
 | stop pos e =>
  simp only [hr0] at ha
  (refine RetX.of_bodyW Tryz.func247 rfl (by simp) fun Γ hn hpan => ?_); simp only [entry, ziC, ziN, maC, maN, oA, Tryz.ntmps247]
  repeat' (first
  | ((first | refine zag ?_ | refine zaj ?_ | refine zah ?_ | refine zai ?_ | fail); simp [hne, hf0, hf3, del, nAA])
  | (refine CallP.ok1 (hh1 _ (by first | omega | simp <;> omega | fail)) (by first | (simp [hne, hf0, hf3, del, nAA, zaa, getK, zab, zac]; done) | fail) (by rfl) (by rfl) ?_; (try simp [hne, hf0, hf3, del, nAA]))
  | (refine CallP.zeQ (ha _ (by first | omega | simp <;> omega | fail)) (by first | (simp [hne, hf0, hf3, del, nAA, zaa, getK, zab, zac]; done) | fail) (by rfl) (by first | assumption | (simp; done) | fail) (by rfl) (by simp) ?_; rintro ob' ⟨q', rfl⟩; refine ⟨_, Wk.refl _, ?_⟩)
  | fail)
  (refine hpan _ _ ⟨{ n := _, env := [], obs := [(i, pOb l q')], next := nx }, (Wk.cut rfl (by simp [hn]) (by simp [wkO, zaa, getK, zab, zac, Ob.under, D.under, zad, zae, hi, hne, zab, zac, zaa, getK]) (by simp [wkU, zam, zaa, getK, D.under, hi, hne, zab, zac, zaa, getK]) (by simp [wkE, zam, zaa, getK, hi, hne, zab, zac, zaa, getK])), by simp [hn], ?_⟩; try simp)
  exact PPost.zaB (by simp [PR.bind, *])
 | ok v0 q0 =>
  have ha := fun nx' h => zds (ha nx' h) hr0;obtain ⟨g0a, g0b⟩ := (zcm hl f).1 _ _ _ _ hr0 hp2;have hw1 := fun nx' (h : nx <= nx') => zeS hl [116, 104, 101, 110] (q := q0) (i := i) (nx := nx') (by omega) g0b;cases hr1 : zbL l q0 [[116, 104, 101, 110]] with
  | stop pos e =>
   simp only [hr1] at hw1
   (refine RetX.of_bodyW Tryz.func247 rfl (by simp) fun Γ hn hpan => ?_); simp only [entry, ziC, ziN, maC, maN, oA, Tryz.ntmps247]
   repeat' (first
  | ((first | refine zag ?_ | refine zaj ?_ | refine zah ?_ | refine zai ?_ | fail); simp [hne, hf0, hf3, del, nAA])
  | (refine CallP.ok1 (hh1 _ (by first | omega | simp <;> omega | fail)) (by first | (simp [hne, hf0, hf3, del, nAA, zaa, getK, zab, zac]; done) | fail) (by rfl) (by rfl) ?_; (try simp [hne, hf0, hf3, del, nAA]))
  | (refine CallP.ok1 (ha _ (by first | omega | simp <;> omega | fail)) (by first | (simp [hne, hf0, hf3, del, nAA, zaa, getK, zab, zac]; done) | fail) (by rfl) (by rfl) ?_; (try simp [hne, hf0, hf3, del, nAA]))
  | (refine CallP.zeQ (hw1 _ (by first | omega | simp <;> omega | fail)) (by first | (simp [hne, hf0, hf3, del, nAA, zaa, getK, zab, zac]; done) | fail) (by rfl) (by first | assumption | (simp; done) | fail) (by rfl) (by simp) ?_; rintro ob' ⟨q', rfl⟩; refine ⟨_, Wk.refl _, ?_⟩)
  | (refine zaF (by first | rfl | fail) ?_; simp [hne, hf0, hf3, del, nAA, frzN, frz1, zaE, zaD, St.frz, St.frzS, frzS, fv, za5, za6, za7, zaH, zay, zav, del, frz, zbg])
  | fail)
   (refine hpan _ _ ⟨{ n := _, env := [], obs := [(i, pOb l q')], next := nx }, (Wk.cut rfl (by simp [hn]) (by simp [wkO, zaa, getK, zab, zac, Ob.under, D.under, zad, zae, hi, hne, zab, zac, zaa, getK]) (by simp [wkU, zam, zaa, getK, D.under, hi, hne, zab, zac, zaa, getK]) (by simp [wkE, zam, zaa, getK, hi, hne, zab, zac, zaa, getK])), by simp [hn], ?_⟩; try simp)
   exact PPost.zaB (by simp [PR.bind, *])
  | ok v1 q1 =>
   simp only [hr1] at hw1;obtain ⟨g1a, g1b⟩ := zaW hl _ hr1 g0b;have hb := fun nx' (h : nx <= nx') => hE q1 0 i nx' (by omega) g1b (by omega) (by omega) (by omega);cases hr2 : zej l f q1 0 with
   | stop pos e =>
    simp only [hr2] at hb
    (refine RetX.of_bodyW Tryz.func247 rfl (by simp) fun Γ hn hpan => ?_); simp only [entry, ziC, ziN, maC, maN, oA, Tryz.ntmps247]
    repeat' (first
  | ((first | refine zag ?_ | refine zaj ?_ | refine zah ?_ | refine zai ?_ | fail); simp [hne, hf0, hf3, del, nAA])
  | (refine CallP.ok1 (hh1 _ (by first | omega | simp <;> omega | fail)) (by first | (simp [hne, hf0, hf3, del, nAA, zaa, getK, zab, zac]; done) | fail) (by rfl) (by rfl) ?_; (try simp [hne, hf0, hf3, del, nAA]))
  | (refine CallP.ok1 (ha _ (by first | omega | simp <;> omega | fail)) (by first | (simp [hne, hf0, hf3, del, nAA, zaa, getK, zab, zac]; done) | fail) (by rfl) (by rfl) ?_; (try simp [hne, hf0, hf3, del, nAA]))
  | (refine CallP.ok1 (hw1 _ (by first | omega | simp <;> omega | fail)) (by first | (simp [hne, hf0, hf3, del, nAA, zaa, getK, zab, zac]; done) | fail) (by rfl) (by rfl) ?_; (try simp [hne, hf0, hf3, del, nAA]))
  | (refine CallP.zeQ (hb _ (by first | omega | simp <;> omega | fail)) (by first | (simp [hne, hf0, hf3, del, nAA, zaa, getK, zab, zac]; done) | fail) (by rfl) (by first | assumption | (simp; done) | fail) (by rfl) (by simp) ?_; rintro ob' ⟨q', rfl⟩; refine ⟨_, Wk.refl _, ?_⟩)
  | (refine zaF (by first | rfl | fail) ?_; simp [hne, hf0, hf3, del, nAA, frzN, frz1, zaE, zaD, St.frz, St.frzS, frzS, fv, za5, za6, za7, zaH, zay, zav, del, frz, zbg])
  | fail)
    (refine hpan _ _ ⟨{ n := _, env := [], obs := [(i, pOb l q')], next := nx }, (Wk.cut rfl (by simp [hn]) (by simp [wkO, zaa, getK, zab, zac, Ob.under, D.under, zad, zae, hi, hne, zab, zac, zaa, getK]) (by simp [wkU, zam, zaa, getK, D.under, hi, hne, zab, zac, zaa, getK]) (by simp [wkE, zam, zaa, getK, hi, hne, zab, zac, zaa, getK])), by simp [hn], ?_⟩; try simp)
    exact PPost.zaB (by simp [PR.bind, *])
   | ok v2 q2 =>
    have hb := fun nx' h => zds (hb nx' h) hr2;obtain ⟨g2a, g2b⟩ := (zcm hl f).1 _ _ _ _ hr2 g1b;have hw2 := fun nx' (h : nx <= nx') => zeS hl [101, 108, 115, 101] (q := q2) (i := i) (nx := nx') (by omega) g2b;cases hr3 : zbL l q2 [[101, 108, 115, 101]] with
    | stop pos e =>
     simp only [hr3] at hw2
     (refine RetX.of_bodyW Tryz.func247 rfl (by simp) fun Γ hn hpan => ?_); simp only [entry, ziC, ziN, maC, maN, oA, Tryz.ntmps247]
     repeat' (first
  | ((first | refine zag ?_ | refine zaj ?_ | refine zah ?_ | refine zai ?_ | fail); simp [hne, hf0, hf3, del, nAA])
  | (refine CallP.ok1 (hh1 _ (by first | omega | simp <;> omega | fail)) (by first | (simp [hne, hf0, hf3, del, nAA, zaa, getK, zab, zac]; done) | fail) (by rfl) (by rfl) ?_; (try simp [hne, hf0, hf3, del, nAA]))
  | (refine CallP.ok1 (ha _ (by first | omega | simp <;> omega | fail)) (by first | (simp [hne, hf0, hf3, del, nAA, zaa, getK, zab, zac]; done) | fail) (by rfl) (by rfl) ?_; (try simp [hne, hf0, hf3, del, nAA]))
  | (refine CallP.ok1 (hw1 _ (by first | omega | simp <;> omega | fail)) (by first | (simp [hne, hf0, hf3, del, nAA, zaa, getK, zab, zac]; done) | fail) (by rfl) (by rfl) ?_; (try simp [hne, hf0, hf3, del, nAA]))
  | (refine CallP.ok1 (hb _ (by first | omega | simp <;> omega | fail)) (by first | (simp [hne, hf0, hf3, del, nAA, zaa, getK, zab, zac]; done) | fail) (by rfl) (by rfl) ?_; (try simp [hne, hf0, hf3, del, nAA]))
  | (refine CallP.zeQ (hw2 _ (by first | omega | simp <;> omega | fail)) (by first | (simp [hne, hf0, hf3, del, nAA, zaa, getK, zab, zac]; done) | fail) (by rfl) (by first | assumption | (simp; done) | fail) (by rfl) (by simp) ?_; rintro ob' ⟨q', rfl⟩; refine ⟨_, Wk.refl _, ?_⟩)
  | (refine zaF (by first | rfl | fail) ?_; simp [hne, hf0, hf3, del, nAA, frzN, frz1, zaE, zaD, St.frz, St.frzS, frzS, fv, za5, za6, za7, zaH, zay, zav, del, frz, zbg])
  | fail)
     (refine hpan _ _ ⟨{ n := _, env := [], obs := [(i, pOb l q')], next := nx }, (Wk.cut rfl (by simp [hn]) (by simp [wkO, zaa, getK, zab, zac, Ob.under, D.under, zad, zae, hi, hne, zab, zac, zaa, getK]) (by simp [wkU, zam, zaa, getK, D.under, hi, hne, zab, zac, zaa, getK]) (by simp [wkE, zam, zaa, getK, hi, hne, zab, zac, zaa, getK])), by simp [hn], ?_⟩; try simp)
     exact PPost.zaB (by simp [PR.bind, *])
    | ok v3 q3 =>
     simp only [hr3] at hw2;obtain ⟨g3a, g3b⟩ := zaW hl _ hr3 g2b;have hc := fun nx' (h : nx <= nx') => hE q3 0 i nx' (by omega) g3b (by omega) (by omega) (by omega);cases hr4 : zej l f q3 0 with
     | stop pos e =>
      simp only [hr4] at hc
      (refine RetX.of_bodyW Tryz.func247 rfl (by simp) fun Γ hn hpan => ?_); simp only [entry, ziC, ziN, maC, maN, oA, Tryz.ntmps247]
      repeat' (first
  | (refine zfq (fun nx' h' => hc nx' (by simp at h'; omega)) (by first | (simp [hne, hf0, hf3, del, nAA, zaa, getK, zab, zac, zak, zau]; done) | fail) (by rfl) (by first | assumption | simp) (by rfl) (by simp) ?_ ?_; rintro env' ob' n' hn' ⟨q', rfl⟩; refine ⟨_, Wk.refl _, ?_⟩)
  | (refine zew rfl (by simp) ?_; simp)
  | ((first | refine zag ?_ | refine zaN rfl ?_ | refine zaj ?_ | refine zah ?_ | refine zai ?_ | fail); simp [hne, hf0, hf3, del, nAA])
  | (refine zdi (hC _ (zbn [i] nx (by simp <;> omega) (by simp <;> omega) (by apply Exists.intro; apply And.intro; (focus (repeat' (first | exact KF.nil | exact KL.nil | apply KF.cons | apply KL.cons 0 rfl | apply KL.cons 1 rfl | apply KL.cons 2 rfl | apply KL.cons 3 rfl | apply KL.cons 4 rfl | apply KL.cons 5 rfl | apply KL.cons 6 rfl | apply KL.cons 7 rfl | apply KL.cons 8 rfl | apply KL.cons 9 rfl))); kernel_rfl))) rfl; done)
  | (refine zaM rfl (by kernel_rfl) (by first | (simp [hn]; done) | (simp [hn]; omega) | fail) fun C k hC hk => ?_; simp [hne, hf0, hf3, del, nAA])
  | (refine CallP.ok1 (hh1 _ (by first | omega | simp <;> omega | fail)) (by first | (simp [hne, hf0, hf3, del, nAA, zaa, getK, zab, zac]; done) | fail) (by rfl) (by rfl) ?_; (try simp [hne, hf0, hf3, del, nAA]))
  | (refine CallP.ok1 (ha _ (by first | omega | simp <;> omega | fail)) (by first | (simp [hne, hf0, hf3, del, nAA, zaa, getK, zab, zac]; done) | fail) (by rfl) (by rfl) ?_; (try simp [hne, hf0, hf3, del, nAA]))
  | (refine CallP.ok1 (hw1 _ (by first | omega | simp <;> omega | fail)) (by first | (simp [hne, hf0, hf3, del, nAA, zaa, getK, zab, zac]; done) | fail) (by rfl) (by rfl) ?_; (try simp [hne, hf0, hf3, del, nAA]))
  | (refine CallP.ok1 (hb _ (by first | omega | simp <;> omega | fail)) (by first | (simp [hne, hf0, hf3, del, nAA, zaa, getK, zab, zac]; done) | fail) (by rfl) (by rfl) ?_; (try simp [hne, hf0, hf3, del, nAA]))
  | (refine CallP.ok1 (hw2 _ (by first | omega | simp <;> omega | fail)) (by first | (simp [hne, hf0, hf3, del, nAA, zaa, getK, zab, zac]; done) | fail) (by rfl) (by rfl) ?_; (try simp [hne, hf0, hf3, del, nAA]))
  | (refine zaF (by first | rfl | fail) ?_; simp [hne, hf0, hf3, del, nAA, frzN, frz1, zaE, zaD, St.frz, St.frzS, frzS, fv, za5, za6, za7, zaH, zay, zav, del, frz, zbg])
  | fail)
      (refine hpan _ _ ⟨{ n := _, env := [], obs := [(i, pOb l q')], next := nx }, (Wk.cut rfl (by simp [hn]) (by simp [wkO, zaa, getK, zab, zac, Ob.under, D.under, zad, zae, hi, hne, zab, zac, zaa, getK]) (by simp [wkU, zam, zaa, getK, D.under, hi, hne, zab, zac, zaa, getK]) (by simp [wkE, zam, zaa, getK, hi, hne, zab, zac, zaa, getK])), by simp [hn], ?_⟩; try simp)
      exact PPost.zaB (by simp [PR.bind, *])
     | ok v4 q4 =>
      have hc := fun nx' h => zds (hc nx' h) hr4;obtain ⟨g4a, g4b⟩ := (zcm hl f).1 _ _ _ _ hr4 g3b
      (refine RetX.of_bodyW Tryz.func247 rfl (by simp) fun Γ hn hpan => ?_); simp only [entry, ziC, ziN, maC, maN, oA, Tryz.ntmps247]
      repeat' (first
  | (refine zgY (fun nx' h' => hc nx' (by simp at h'; omega)) (by first | (simp [hne, hf0, hf3, del, nAA, zaa, getK, zab, zac, zak, zau]; done) | fail) (by rfl) (by first | assumption | simp) (by rfl) (by simp [D.under, Ob.under]) (by simp) ?_; (try simp [hne, hf0, hf3, del, nAA]))
  | ((first | refine zag ?_ | refine zaN rfl ?_ | refine zci rfl ?_ | refine zaj ?_ | refine zah ?_ | refine zai ?_ | fail); simp [hne, hf0, hf3, del, nAA])
  | (refine za4 (hC _ (zbn [i] nx (by simp <;> omega) (by simp <;> omega) (by apply Exists.intro; apply And.intro; (focus (repeat' (first | exact KF.nil | exact KL.nil | apply KF.cons | apply KL.cons 0 rfl | apply KL.cons 1 rfl | apply KL.cons 2 rfl | apply KL.cons 3 rfl | apply KL.cons 4 rfl | apply KL.cons 5 rfl | apply KL.cons 6 rfl | apply KL.cons 7 rfl | apply KL.cons 8 rfl | apply KL.cons 9 rfl))); kernel_rfl))) (hk _ ?_); clear hC hk C k; simp only [zap])
  | (refine zaM rfl (by kernel_rfl) (by first | (simp [hn]; done) | (simp [hn]; omega) | fail) fun C k hC hk => ?_; simp [hne, hf0, hf3, del, nAA])
  | (refine zar ?_; simp only [zap])
  | (refine CallP.ok1 (hh1 _ (by first | omega | simp <;> omega | fail)) (by first | (simp [hne, hf0, hf3, del, nAA, zaa, getK, zab, zac]; done) | fail) (by rfl) (by rfl) ?_; (try simp [hne, hf0, hf3, del, nAA]))
  | (refine CallP.ok1 (ha _ (by first | omega | simp <;> omega | fail)) (by first | (simp [hne, hf0, hf3, del, nAA, zaa, getK, zab, zac]; done) | fail) (by rfl) (by rfl) ?_; (try simp [hne, hf0, hf3, del, nAA]))
  | (refine CallP.ok1 (hw1 _ (by first | omega | simp <;> omega | fail)) (by first | (simp [hne, hf0, hf3, del, nAA, zaa, getK, zab, zac]; done) | fail) (by rfl) (by rfl) ?_; (try simp [hne, hf0, hf3, del, nAA]))
  | (refine CallP.ok1 (hb _ (by first | omega | simp <;> omega | fail)) (by first | (simp [hne, hf0, hf3, del, nAA, zaa, getK, zab, zac]; done) | fail) (by rfl) (by rfl) ?_; (try simp [hne, hf0, hf3, del, nAA]))
  | (refine CallP.ok1 (hw2 _ (by first | omega | simp <;> omega | fail)) (by first | (simp [hne, hf0, hf3, del, nAA, zaa, getK, zab, zac]; done) | fail) (by rfl) (by rfl) ?_; (try simp [hne, hf0, hf3, del, nAA]))
  | (refine zaF (by first | rfl | fail) ?_; simp [hne, hf0, hf3, del, nAA, frzN, frz1, zaE, zaD, St.frz, St.frzS, frzS, fv, za5, za6, za7, zaH, zay, zav, del, frz, zbg])
  | fail)
      (refine EndW.frzN 1 ?_; simp [frzN, frz1, zaE, zaD, St.frz, St.frzS, frzS, fv, za5, za6, za7, zaH, zay, zav, del, frz, zbg, hne, nAA])
      refine EndW.norm ?_;simp [St.norm, za9, zbG, zb1, zbV, hne, nAA]
      (refine EndW.here ?_; (first | (refine EndOK.fin (.inr rfl) ?_) | (refine EndOK.fin (.inl rfl) ?_)); simp [zaz, zaf, Tryz.results247, hne, hi]; refine FinOK.cut [(i, pOb l q4)] (nx) (by simp [zaa, getK, zab, zac, Ob.under, D.under, zad, zae, hne, hi] <;> omega) (by simp [D.under]) (by simp [hn]) ?_; try simp)
      exact PPost.zch (by simp [PR.bind, *]; rfl) (by simp [Exp.row_eq, Exp.op, Exp.n, Exp.unit, Exp.s, Exp.args]) rfl
theorem zj3 {l : List Tok} (hl : TokOK l) {f p : Nat} {form : Int} (hE : zfX l f) (hp : p < l.length) (hf : 4 * (l.length - p) + 1 <= f)
  (hf0 : form = 0) (hf3 : form <= 3) (h1 : isB l p [105, 102] = false) (h2 : isB l p [110, 111, 116] = true) {i nx : Nat} (hi : i < nx) :
  RetX Tryz.prog 247 [.ptr i 0, zie form] [(i, pOb l p)] nx (PPost l i nx zi8 (zbx l (f + 1) p form)) := by
 have hne := zaP hi;have hll := hl.len;rw [zbx];have hh1 := fun nx' (h : nx <= nx') => zbf l p [105, 102] i nx' (by omega) hp hl.len;rw [h1] at hh1;simp only [if_true, Bool.false_eq_true, if_false] at hh1;have hp2 := zba hl h2;have hh2 := fun nx' (h : nx <= nx') => zbf l p [110, 111, 116] i nx' (by omega) hp hl.len;rw [h2] at hh2;simp only [if_true, Bool.false_eq_true, if_false] at hh2;rw [if_neg (by simp [*]), if_pos ⟨hf3, h2⟩];have ha := fun nx' (h : nx <= nx') => hE (p + 1) 3 i nx' (by omega) hp2 (by omega) (by omega) (by omega);cases hr0 : zej l f (p + 1) 3 with
 | stop pos e =>
  simp only [hr0] at ha
  (refine RetX.of_bodyW Tryz.func247 rfl (by simp) fun Γ hn hpan => ?_); simp only [entry, ziC, ziN, maC, maN, oA, Tryz.ntmps247]
  repeat' (first
  | ((first | refine zag ?_ | refine zaj ?_ | refine zah ?_ | refine zai ?_ | fail); simp [hne, hf0, hf3, del, nAA])
  | (refine zaq ?_; simp only [zap])
  | (refine CallP.ok1 (hh1 _ (by first | omega | simp <;> omega | fail)) (by first | (simp [hne, hf0, hf3, del, nAA, zaa, getK, zab, zac]; done) | fail) (by rfl) (by rfl) ?_; (try simp [hne, hf0, hf3, del, nAA]))
  | (refine CallP.ok1 (hh2 _ (by first | omega | simp <;> omega | fail)) (by first | (simp [hne, hf0, hf3, del, nAA, zaa, getK, zab, zac]; done) | fail) (by rfl) (by rfl) ?_; (try simp [hne, hf0, hf3, del, nAA]))
  | (refine CallP.zeQ (ha _ (by first | omega | simp <;> omega | fail)) (by first | (simp [hne, hf0, hf3, del, nAA, zaa, getK, zab, zac]; done) | fail) (by rfl) (by first | assumption | (simp; done) | fail) (by rfl) (by simp) ?_; rintro ob' ⟨q', rfl⟩; refine ⟨_, Wk.refl _, ?_⟩)
  | fail)
  (refine hpan _ _ ⟨{ n := _, env := [], obs := [(i, pOb l q')], next := nx }, (Wk.cut rfl (by simp [hn]) (by simp [wkO, zaa, getK, zab, zac, Ob.under, D.under, zad, zae, hi, hne, zab, zac, zaa, getK]) (by simp [wkU, zam, zaa, getK, D.under, hi, hne, zab, zac, zaa, getK]) (by simp [wkE, zam, zaa, getK, hi, hne, zab, zac, zaa, getK])), by simp [hn], ?_⟩; try simp)
  exact PPost.zaB (by simp [PR.bind, *])
 | ok v0 q0 =>
  have ha := fun nx' h => zds (ha nx' h) hr0
  (refine RetX.of_bodyW Tryz.func247 rfl (by simp) fun Γ hn hpan => ?_); simp only [entry, ziC, ziN, maC, maN, oA, Tryz.ntmps247]
  repeat' (first
  | ((first | refine zag ?_ | refine zaj ?_ | refine zah ?_ | refine zai ?_ | fail); simp [hne, hf0, hf3, del, nAA])
  | ((first | refine zar ?_ | refine zaq ?_ | fail); simp only [zap])
  | (refine CallP.ok1 (hh1 _ (by first | omega | simp <;> omega | fail)) (by first | (simp [hne, hf0, hf3, del, nAA, zaa, getK, zab, zac]; done) | fail) (by rfl) (by rfl) ?_; (try simp [hne, hf0, hf3, del, nAA]))
  | (refine CallP.ok1 (hh2 _ (by first | omega | simp <;> omega | fail)) (by first | (simp [hne, hf0, hf3, del, nAA, zaa, getK, zab, zac]; done) | fail) (by rfl) (by rfl) ?_; (try simp [hne, hf0, hf3, del, nAA]))
  | (refine CallP.ok1 (ha _ (by first | omega | simp <;> omega | fail)) (by first | (simp [hne, hf0, hf3, del, nAA, zaa, getK, zab, zac]; done) | fail) (by rfl) (by rfl) ?_; (try simp [hne, hf0, hf3, del, nAA]))
  | fail)
  (refine EndW.frzN 1 ?_; simp [frzN, frz1, zaE, zaD, St.frz, St.frzS, frzS, fv, za5, za6, za7, zaH, zay, zav, del, frz, zbg, hne, nAA])
  refine EndW.norm ?_;simp [St.norm, za9, zbG, zb1, zbV, hne, nAA]
  (refine EndW.here ?_; (first | (refine EndOK.fin (.inr rfl) ?_) | (refine EndOK.fin (.inl rfl) ?_)); simp [zaz, zaf, Tryz.results247, hne, hi]; refine FinOK.cut [(i, pOb l q0)] (nx) (by simp [zaa, getK, zab, zac, Ob.under, D.under, zad, zae, hne, hi] <;> omega) (by simp [D.under]) (by simp [hn]) ?_; try simp)
  exact PPost.zch (by simp [PR.bind, *]; rfl) (by simp [Exp.row_eq, Exp.op, Exp.n, Exp.unit, Exp.s, Exp.args]) rfl
theorem zj2 {l : List Tok} (hl : TokOK l) {f p : Nat} {form : Int} (hE : zfX l f) (hp : p < l.length) (hf : 4 * (l.length - p) + 1 <= f)
  (hf0 : ¬ form = 0) (hf3 : form <= 3) (h2 : isB l p [110, 111, 116] = true) {i nx : Nat} (hi : i < nx) :
  RetX Tryz.prog 247 [.ptr i 0, zie form] [(i, pOb l p)] nx (PPost l i nx zi8 (zbx l (f + 1) p form)) := by
 have hne := zaP hi;have hll := hl.len;rw [zbx];have hp2 := zba hl h2;have hh2 := fun nx' (h : nx <= nx') => zbf l p [110, 111, 116] i nx' (by omega) hp hl.len;rw [h2] at hh2;simp only [if_true, Bool.false_eq_true, if_false] at hh2;rw [if_neg (by simp [*]), if_pos ⟨hf3, h2⟩];have ha := fun nx' (h : nx <= nx') => hE (p + 1) 3 i nx' (by omega) hp2 (by omega) (by omega) (by omega);cases hr0 : zej l f (p + 1) 3 with
 | stop pos e =>
  simp only [hr0] at ha
  (refine RetX.of_bodyW Tryz.func247 rfl (by simp) fun Γ hn hpan => ?_); simp only [entry, ziC, ziN, maC, maN, oA, Tryz.ntmps247]
  repeat' (first
  | ((first | refine zag ?_ | refine zaj ?_ | refine zah ?_ | refine zai ?_ | fail); simp [hne, hf0, hf3, del, nAA])
  | (refine zaq ?_; simp only [zap])
  | (refine CallP.ok1 (hh2 _ (by first | omega | simp <;> omega | fail)) (by first | (simp [hne, hf0, hf3, del, nAA, zaa, getK, zab, zac]; done) | fail) (by rfl) (by rfl) ?_; (try simp [hne, hf0, hf3, del, nAA]))
  | (refine CallP.zeQ (ha _ (by first | omega | simp <;> omega | fail)) (by first | (simp [hne, hf0, hf3, del, nAA, zaa, getK, zab, zac]; done) | fail) (by rfl) (by first | assumption | (simp; done) | fail) (by rfl) (by simp) ?_; rintro ob' ⟨q', rfl⟩; refine ⟨_, Wk.refl _, ?_⟩)
  | fail)
  (refine hpan _ _ ⟨{ n := _, env := [], obs := [(i, pOb l q')], next := nx }, (Wk.cut rfl (by simp [hn]) (by simp [wkO, zaa, getK, zab, zac, Ob.under, D.under, zad, zae, hi, hne, zab, zac, zaa, getK]) (by simp [wkU, zam, zaa, getK, D.under, hi, hne, zab, zac, zaa, getK]) (by simp [wkE, zam, zaa, getK, hi, hne, zab, zac, zaa, getK])), by simp [hn], ?_⟩; try simp)
  exact PPost.zaB (by simp [PR.bind, *])
 | ok v0 q0 =>
  have ha := fun nx' h => zds (ha nx' h) hr0
  (refine RetX.of_bodyW Tryz.func247 rfl (by simp) fun Γ hn hpan => ?_); simp only [entry, ziC, ziN, maC, maN, oA, Tryz.ntmps247]
  repeat' (first
  | ((first | refine zag ?_ | refine zaj ?_ | refine zah ?_ | refine zai ?_ | fail); simp [hne, hf0, hf3, del, nAA])
  | ((first | refine zar ?_ | refine zaq ?_ | fail); simp only [zap])
  | (refine CallP.ok1 (hh2 _ (by first | omega | simp <;> omega | fail)) (by first | (simp [hne, hf0, hf3, del, nAA, zaa, getK, zab, zac]; done) | fail) (by rfl) (by rfl) ?_; (try simp [hne, hf0, hf3, del, nAA]))
  | (refine CallP.ok1 (ha _ (by first | omega | simp <;> omega | fail)) (by first | (simp [hne, hf0, hf3, del, nAA, zaa, getK, zab, zac]; done) | fail) (by rfl) (by rfl) ?_; (try simp [hne, hf0, hf3, del, nAA]))
  | fail)
  (refine EndW.frzN 1 ?_; simp [frzN, frz1, zaE, zaD, St.frz, St.frzS, frzS, fv, za5, za6, za7, zaH, zay, zav, del, frz, zbg, hne, nAA])
  refine EndW.norm ?_;simp [St.norm, za9, zbG, zb1, zbV, hne, nAA]
  (refine EndW.here ?_; (first | (refine EndOK.fin (.inr rfl) ?_) | (refine EndOK.fin (.inl rfl) ?_)); simp [zaz, zaf, Tryz.results247, hne, hi]; refine FinOK.cut [(i, pOb l q0)] (nx) (by simp [zaa, getK, zab, zac, Ob.under, D.under, zad, zae, hne, hi] <;> omega) (by simp [D.under]) (by simp [hn]) ?_; try simp)
  exact PPost.zch (by simp [PR.bind, *]; rfl) (by simp [Exp.row_eq, Exp.op, Exp.n, Exp.unit, Exp.s, Exp.args]) rfl
theorem zi4 {l : List Tok} (hl : TokOK l) {f p : Nat} {form : Int} (hP : zhN l f) (hp : p < l.length) (hf : 4 * (l.length - p) + 1 <= f)
  (hf0 : form = 0) (hf3 : form <= 3) (h1 : isB l p [105, 102] = false) (h2 : isB l p [110, 111, 116] = false) {i nx : Nat} (hi : i < nx) :
  RetX Tryz.prog 247 [.ptr i 0, zie form] [(i, pOb l p)] nx (PPost l i nx zi8 (zbx l (f + 1) p form)) := by
 have hne := zaP hi;have hll := hl.len;rw [zbx];have hh1 := fun nx' (h : nx <= nx') => zbf l p [105, 102] i nx' (by omega) hp hl.len;rw [h1] at hh1;simp only [if_true, Bool.false_eq_true, if_false] at hh1;have hh2 := fun nx' (h : nx <= nx') => zbf l p [110, 111, 116] i nx' (by omega) hp hl.len;rw [h2] at hh2;simp only [if_true, Bool.false_eq_true, if_false] at hh2;rw [if_neg (by simp [*]), if_neg (by simp [*])];have ha := fun nx' (h : nx <= nx') => hP p i nx' (by omega) hp (by omega);cases hr0 : zaX l f p with
 | stop pos e =>
  simp only [hr0] at ha
  (refine RetX.of_bodyW Tryz.func247 rfl (by simp) fun Γ hn hpan => ?_); simp only [entry, ziC, ziN, maC, maN, oA, Tryz.ntmps247]
  repeat' (first
  | ((first | refine zag ?_ | refine zaj ?_ | refine zah ?_ | refine zai ?_ | fail); simp [hne, hf0, hf3, del, nAA])
  | (refine zaq ?_; simp only [zap])
  | (refine CallP.ok1 (hh1 _ (by first | omega | simp <;> omega | fail)) (by first | (simp [hne, hf0, hf3, del, nAA, zaa, getK, zab, zac]; done) | fail) (by rfl) (by rfl) ?_; (try simp [hne, hf0, hf3, del, nAA]))
  | (refine CallP.ok1 (hh2 _ (by first | omega | simp <;> omega | fail)) (by first | (simp [hne, hf0, hf3, del, nAA, zaa, getK, zab, zac]; done) | fail) (by rfl) (by rfl) ?_; (try simp [hne, hf0, hf3, del, nAA]))
  | (refine CallP.zeQ (ha _ (by first | omega | simp <;> omega | fail)) (by first | (simp [hne, hf0, hf3, del, nAA, zaa, getK, zab, zac]; done) | fail) (by rfl) (by first | assumption | (simp; done) | fail) (by rfl) (by simp) ?_; rintro ob' ⟨q', rfl⟩; refine ⟨_, Wk.refl _, ?_⟩)
  | fail)
  (refine hpan _ _ ⟨{ n := _, env := [], obs := [(i, pOb l q')], next := nx }, (Wk.cut rfl (by simp [hn]) (by simp [wkO, zaa, getK, zab, zac, Ob.under, D.under, zad, zae, hi, hne, zab, zac, zaa, getK]) (by simp [wkU, zam, zaa, getK, D.under, hi, hne, zab, zac, zaa, getK]) (by simp [wkE, zam, zaa, getK, hi, hne, zab, zac, zaa, getK])), by simp [hn], ?_⟩; try simp)
  exact PPost.zaB (by simp [PR.bind, *])
 | ok v0 q0 =>
  have ha := fun nx' h => zds (ha nx' h) hr0
  (refine RetX.of_bodyW Tryz.func247 rfl (by simp) fun Γ hn hpan => ?_); simp only [entry, ziC, ziN, maC, maN, oA, Tryz.ntmps247]
  repeat' (first
  | ((first | refine zag ?_ | refine zaj ?_ | refine zah ?_ | refine zai ?_ | fail); simp [hne, hf0, hf3, del, nAA])
  | ((first | refine zar ?_ | refine zaq ?_ | fail); simp only [zap])
  | (refine CallP.ok1 (hh1 _ (by first | omega | simp <;> omega | fail)) (by first | (simp [hne, hf0, hf3, del, nAA, zaa, getK, zab, zac]; done) | fail) (by rfl) (by rfl) ?_; (try simp [hne, hf0, hf3, del, nAA]))
  | (refine CallP.ok1 (hh2 _ (by first | omega | simp <;> omega | fail)) (by first | (simp [hne, hf0, hf3, del, nAA, zaa, getK, zab, zac]; done) | fail) (by rfl) (by rfl) ?_; (try simp [hne, hf0, hf3, del, nAA]))
  | (refine CallP.ok1 (ha _ (by first | omega | simp <;> omega | fail)) (by first | (simp [hne, hf0, hf3, del, nAA, zaa, getK, zab, zac]; done) | fail) (by rfl) (by rfl) ?_; (try simp [hne, hf0, hf3, del, nAA]))
  | fail)
  refine EndW.norm ?_;simp [St.norm, za9, zbG, zb1, zbV, hne, nAA]
  (refine EndW.here ?_; (first | (refine EndOK.fin (.inr rfl) ?_) | (refine EndOK.fin (.inl rfl) ?_)); simp [zaz, zaf, Tryz.results247, hne, hi]; refine FinOK.cut [(i, pOb l q0)] (nx) (by simp [zaa, getK, zab, zac, Ob.under, D.under, zad, zae, hne, hi] <;> omega) (by simp [D.under]) (by simp [hn]) ?_; try simp)
  exact PPost.zch (by simp [PR.bind, *]; rfl) (by simp [Exp.row_eq, Exp.op, Exp.n, Exp.unit, Exp.s, Exp.args]) rfl
theorem zi3 {l : List Tok} (hl : TokOK l) {f p : Nat} {form : Int} (hP : zhN l f) (hp : p < l.length) (hf : 4 * (l.length - p) + 1 <= f)
  (hf0 : ¬ form = 0) (hf3 : form <= 3) (h2 : isB l p [110, 111, 116] = false) {i nx : Nat} (hi : i < nx) :
  RetX Tryz.prog 247 [.ptr i 0, zie form] [(i, pOb l p)] nx (PPost l i nx zi8 (zbx l (f + 1) p form)) := by
 have hne := zaP hi;have hll := hl.len;rw [zbx];have hh2 := fun nx' (h : nx <= nx') => zbf l p [110, 111, 116] i nx' (by omega) hp hl.len;rw [h2] at hh2;simp only [if_true, Bool.false_eq_true, if_false] at hh2;rw [if_neg (by simp [*]), if_neg (by simp [*])];have ha := fun nx' (h : nx <= nx') => hP p i nx' (by omega) hp (by omega);cases hr0 : zaX l f p with
 | stop pos e =>
  simp only [hr0] at ha
  (refine RetX.of_bodyW Tryz.func247 rfl (by simp) fun Γ hn hpan => ?_); simp only [entry, ziC, ziN, maC, maN, oA, Tryz.ntmps247]
  repeat' (first
  | ((first | refine zag ?_ | refine zaj ?_ | refine zah ?_ | refine zai ?_ | fail); simp [hne, hf0, hf3, del, nAA])
  | (refine zaq ?_; simp only [zap])
  | (refine CallP.ok1 (hh2 _ (by first | omega | simp <;> omega | fail)) (by first | (simp [hne, hf0, hf3, del, nAA, zaa, getK, zab, zac]; done) | fail) (by rfl) (by rfl) ?_; (try simp [hne, hf0, hf3, del, nAA]))
  | (refine CallP.zeQ (ha _ (by first | omega | simp <;> omega | fail)) (by first | (simp [hne, hf0, hf3, del, nAA, zaa, getK, zab, zac]; done) | fail) (by rfl) (by first | assumption | (simp; done) | fail) (by rfl) (by simp) ?_; rintro ob' ⟨q', rfl⟩; refine ⟨_, Wk.refl _, ?_⟩)
  | fail)
  (refine hpan _ _ ⟨{ n := _, env := [], obs := [(i, pOb l q')], next := nx }, (Wk.cut rfl (by simp [hn]) (by simp [wkO, zaa, getK, zab, zac, Ob.under, D.under, zad, zae, hi, hne, zab, zac, zaa, getK]) (by simp [wkU, zam, zaa, getK, D.under, hi, hne, zab, zac, zaa, getK]) (by simp [wkE, zam, zaa, getK, hi, hne, zab, zac, zaa, getK])), by simp [hn], ?_⟩; try simp)
  exact PPost.zaB (by simp [PR.bind, *])
 | ok v0 q0 =>
  have ha := fun nx' h => zds (ha nx' h) hr0
  (refine RetX.of_bodyW Tryz.func247 rfl (by simp) fun Γ hn hpan => ?_); simp only [entry, ziC, ziN, maC, maN, oA, Tryz.ntmps247]
  repeat' (first
  | ((first | refine zag ?_ | refine zaj ?_ | refine zah ?_ | refine zai ?_ | fail); simp [hne, hf0, hf3, del, nAA])
  | ((first | refine zar ?_ | refine zaq ?_ | fail); simp only [zap])
  | (refine CallP.ok1 (hh2 _ (by first | omega | simp <;> omega | fail)) (by first | (simp [hne, hf0, hf3, del, nAA, zaa, getK, zab, zac]; done) | fail) (by rfl) (by rfl) ?_; (try simp [hne, hf0, hf3, del, nAA]))
  | (refine CallP.ok1 (ha _ (by first | omega | simp <;> omega | fail)) (by first | (simp [hne, hf0, hf3, del, nAA, zaa, getK, zab, zac]; done) | fail) (by rfl) (by rfl) ?_; (try simp [hne, hf0, hf3, del, nAA]))
  | fail)
  refine EndW.norm ?_;simp [St.norm, za9, zbG, zb1, zbV, hne, nAA]
  (refine EndW.here ?_; (first | (refine EndOK.fin (.inr rfl) ?_) | (refine EndOK.fin (.inl rfl) ?_)); simp [zaz, zaf, Tryz.results247, hne, hi]; refine FinOK.cut [(i, pOb l q0)] (nx) (by simp [zaa, getK, zab, zac, Ob.under, D.under, zad, zae, hne, hi] <;> omega) (by simp [D.under]) (by simp [hn]) ?_; try simp)
  exact PPost.zch (by simp [PR.bind, *]; rfl) (by simp [Exp.row_eq, Exp.op, Exp.n, Exp.unit, Exp.s, Exp.args]) rfl
theorem zi2 {l : List Tok} (hl : TokOK l) {f p : Nat} {form : Int} (hP : zhN l f) (hp : p < l.length) (hf : 4 * (l.length - p) + 1 <= f)
  (hf0 : ¬ form = 0) (hf3 : ¬ form <= 3) {i nx : Nat} (hi : i < nx) :
  RetX Tryz.prog 247 [.ptr i 0, zie form] [(i, pOb l p)] nx (PPost l i nx zi8 (zbx l (f + 1) p form)) := by
 have hne := zaP hi;have hll := hl.len;rw [zbx];rw [if_neg (by simp [*]), if_neg (by simp [*])];have ha := fun nx' (h : nx <= nx') => hP p i nx' (by omega) hp (by omega);cases hr0 : zaX l f p with
 | stop pos e =>
  simp only [hr0] at ha
  (refine RetX.of_bodyW Tryz.func247 rfl (by simp) fun Γ hn hpan => ?_); simp only [entry, ziC, ziN, maC, maN, oA, Tryz.ntmps247]
  repeat' (first
  | ((first | refine zag ?_ | refine zaj ?_ | refine zah ?_ | refine zai ?_ | fail); simp [hne, hf0, hf3, del, nAA])
  | (refine zaq ?_; simp only [zap])
  | (refine CallP.zeQ (ha _ (by first | omega | simp <;> omega | fail)) (by first | (simp [hne, hf0, hf3, del, nAA, zaa, getK, zab, zac]; done) | fail) (by rfl) (by first | assumption | (simp; done) | fail) (by rfl) (by simp) ?_; rintro ob' ⟨q', rfl⟩; refine ⟨_, Wk.refl _, ?_⟩)
  | fail)
  (refine hpan _ _ ⟨{ n := _, env := [], obs := [(i, pOb l q')], next := nx }, (Wk.cut rfl (by simp [hn]) (by simp [wkO, zaa, getK, zab, zac, Ob.under, D.under, zad, zae, hi, hne, zab, zac, zaa, getK]) (by simp [wkU, zam, zaa, getK, D.under, hi, hne, zab, zac, zaa, getK]) (by simp [wkE, zam, zaa, getK, hi, hne, zab, zac, zaa, getK])), by simp [hn], ?_⟩; try simp)
  exact PPost.zaB (by simp [PR.bind, *])
 | ok v0 q0 =>
  have ha := fun nx' h => zds (ha nx' h) hr0
  (refine RetX.of_bodyW Tryz.func247 rfl (by simp) fun Γ hn hpan => ?_); simp only [entry, ziC, ziN, maC, maN, oA, Tryz.ntmps247]
  repeat' (first
  | ((first | refine zag ?_ | refine zaj ?_ | refine zah ?_ | refine zai ?_ | fail); simp [hne, hf0, hf3, del, nAA])
  | ((first | refine zar ?_ | refine zaq ?_ | fail); simp only [zap])
  | (refine CallP.ok1 (ha _ (by first | omega | simp <;> omega | fail)) (by first | (simp [hne, hf0, hf3, del, nAA, zaa, getK, zab, zac]; done) | fail) (by rfl) (by rfl) ?_; (try simp [hne, hf0, hf3, del, nAA]))
  | fail)
  refine EndW.norm ?_;simp [St.norm, za9, zbG, zb1, zbV, hne, nAA]
  (refine EndW.here ?_; (first | (refine EndOK.fin (.inr rfl) ?_) | (refine EndOK.fin (.inl rfl) ?_)); simp [zaz, zaf, Tryz.results247, hne, hi]; refine FinOK.cut [(i, pOb l q0)] (nx) (by simp [zaa, getK, zab, zac, Ob.under, D.under, zad, zae, hne, hi] <;> omega) (by simp [D.under]) (by simp [hn]) ?_; try simp)
  exact PPost.zch (by simp [PR.bind, *]; rfl) (by simp [Exp.row_eq, Exp.op, Exp.n, Exp.unit, Exp.s, Exp.args]) rfl
theorem zj1 {l : List Tok} (hl : TokOK l) {f : Nat} (hE : zfX l f) (hP : zhN l f) : zqD l (f + 1) := by
 intro p form i nx hi hp hf hm0 hm7;have hf' : 4 * (l.length - p) + 1 <= f := by omega
 by_cases hf0 : form = 0
 ·have hf3 : form <= 3 := by omega
  cases h1 : isB l p [105, 102] with
  | true => exact zmQ hl hE hp hf' hf0 h1 hi
  | false =>
   cases h2 : isB l p [110, 111, 116] with
   | true => exact zj3 hl hE hp hf' hf0 hf3 h1 h2 hi
   | false => exact zi4 hl hP hp hf' hf0 hf3 h1 h2 hi
 ·by_cases hf3 : form <= 3
  ·cases h2 : isB l p [110, 111, 116] with
   | true => exact zj2 hl hE hp hf' hf0 hf3 h2 hi
   | false => exact zi3 hl hP hp hf' hf0 hf3 h2 hi
  ·exact zi2 hl hP hp hf' hf0 hf3 hi
theorem zq4 {l : List Tok} {F : FuncId} {r : PR (Exp × Int)} {e : Exp × Int} {q i nx : Nat} {ds : List D} {obs : List (Nat × Ob)} (h : RetX Tryz.prog F ds obs nx (PPost l i nx zi8 r)) (hr : r = .ok e q) :
  RetX Tryz.prog F ds obs nx fun r o n => r = .val (.tup [.u (.agg [.int .i64 e.1.op, .int .i64 e.1.n, .int .i64 e.1.unit, .str e.1.s, .sl (e.1.args.map Exp.row)]), .u (.int .i64 e.2)]) /\ o = [(i, pOb l q)] /\ n = nx := by
 subst hr;rw [<- Exp.row_eq];exact h
abbrev zsr (e : Exp) : Ob := .box [.u (.int .i64 e.op), .u (.int .i64 e.n), .u (.int .i64 e.unit), .u (.str e.s), .u (.sl (e.args.map Exp.row))]
theorem zo8 {l : List Tok} (hl : TokOK l) {f : Nat} (hE : ∀ g, g < f -> zfX l g) (hP : zqD l f) : zfX l (f + 1) := by
 intro p form i nx hi hp hf hm0 hm7;have hne := zaP hi;have hll := hl.len;rw [zej];have ha := fun nx' (h : nx <= nx') => hP p form i nx' (by omega) hp (by omega) hm0 hm7;have hop := zh6;cases hr0 : zbx l f p form with
 | stop pos e =>
  simp only [hr0] at ha
  (refine RetX.of_bodyW Tryz.func203 rfl (by simp) fun Γ hn hpan => ?_); simp only [entry, ziC, ziN, maC, maN, oA, Tryz.ntmps203]
  repeat' (first
  | ((first | refine zag ?_ | refine zaj ?_ | refine zah ?_ | fail); simp [hne, del, nAA])
  | (refine CallP.zeQ (ha _ (by first | omega | simp <;> omega | fail)) (by first | (simp [hne, del, nAA, zaa, getK, zab, zac]; done) | fail) (by rfl) (by first | assumption | (simp; done) | fail) (by rfl) (by simp) ?_; rintro ob' ⟨q', rfl⟩; refine ⟨_, Wk.refl _, ?_⟩)
  | fail)
  (refine hpan _ _ ⟨{ n := _, env := [], obs := [(i, pOb l q')], next := nx }, (Wk.cut rfl (by simp [hn]) (by simp [wkO, zaa, getK, zab, zac, Ob.under, D.under, zad, zae, hi, hne, zab, zac, zaa, getK]) (by simp [wkU, zam, zaa, getK, D.under, hi, hne, zab, zac, zaa, getK]) (by simp [wkE, zam, zaa, getK, hi, hne, zab, zac, zaa, getK])), by simp [hn], ?_⟩; try simp)
  exact PPost.zaB (by simp [PR.bind, *])
 | ok v0 q0 =>
  have ha := fun nx' h => zq4 (ha nx' h) hr0;obtain ⟨g0a, g0b⟩ := (zcm hl f).2.2.1 _ _ _ _ hr0 hp;generalize hR : (PR.ok v0 q0).bind (fun e q => zeO l f form e.1 e.2 q) = R;have hR' : R = zeO l f form v0.1 v0.2 q0 := hR.symm
  (refine RetX.of_bodyW Tryz.func203 rfl (by simp) fun Γ hn hpan => ?_); simp only [entry, ziC, ziN, maC, maN, oA, Tryz.ntmps203]
  repeat' (first
  | ((first | refine zag ?_ | refine zaj ?_ | refine zah ?_ | refine zao ?_ | fail); simp [hne, del, nAA])
  | (refine CallP.ok1 (ha _ (by first | omega | simp <;> omega | fail)) (by first | (simp [hne, del, nAA, zaa, getK, zab, zac]; done) | fail) (by rfl) (by rfl) ?_; (try simp [hne, del, nAA]))
  | fail)
  refine zcq (α := { x : Exp × Int × Nat × Nat // x.2.2.1 < l.length /\ 4 * (l.length - x.2.2.1) + 2 <= x.2.2.2 /\ x.2.2.2 <= f /\ R = zeO l x.2.2.2 form x.1 x.2.1 x.2.2.1 }) [0, 1, 2, 4, 5] (fun x => [(6, .u (.int .i64 x.1.2.1))])
   (fun x => [(nx + 2, zsr x.1.1), (nx + 1, .box [.u (.int .i64 0), .u (.int .i64 0), .u (.int .i64 0), .u (.str []), .u .nil]), (nx, .box [.ptr i 0]), (i, pOb l x.1.2.2.1)]) (nx + 3) (fun x => x.1.2.2.2) ⟨(v0.1, v0.2, q0, f), g0b, (by show 4 * (l.length - q0) + 2 <= f; omega), (by show f <= f; omega), hR'⟩ ?_ ?_
  ·have hi3 : i < nx + 3 := by omega
   exact (Wk.cut rfl (by simp [hn, St.lp]) (by simp [wkO, St.lp, zaa, getK, Ob.under, D.under, zad, zae, hi, hi3, hne]) (by simp [wkU, St.lp, zam, zaa, getK, D.under, hi, hi3, hne]) (by simp [wkE, St.lp, zam, zaa, getK, hi, hi3, hne] <;> (try (intros; simp_all; done)) <;> (try (intros; omega)) <;> (try grind)))
  rintro ⟨⟨e, own, q, g⟩, h1, h2, h2b, h3⟩;simp only at h1 h2 h2b h3;simp [St.lp, St.only, zam, zaa, getK];obtain ⟨g, rfl⟩ : ∃ g', g = g' + 1 := ⟨g - 1, by omega⟩;rw [zeO] at h3;have hix := zlS l q h1 hl.len;cases hx : zq6 l q with
  | none =>
   rw [(zgJ oprs 0).1 hx] at hix;rw [hx] at h3
   repeat' (first
  | ((first | refine zag ?_ | refine zaj ?_ | refine zah ?_ | refine zai ?_ | refine zao ?_ | fail); simp [hne, del, nAA])
  | (refine zar ?_; simp only [zap])
  | (refine CallP.fE (hop) (by first | rfl | fail) (by first | simp [hne, del, nAA] <;> rfl | fail) ?_; (try simp [hne, del, nAA]))
  | (refine CallP.fE (hix) (by first | rfl | fail) (by first | simp [hne, del, nAA] <;> rfl | fail) ?_; (try simp [hne, del, nAA]))
  | fail)
   refine EndW.norm ?_;simp [St.norm, za9, zbG, zb1, zbV, hne, nAA]
   (refine EndW.here ?_; (first | (refine EndOK.fin (.inr rfl) ?_) | (refine EndOK.fin (.inl rfl) ?_)); simp [zaz, zaf, Tryz.results203, hne, hi]; refine FinOK.cut [(i, pOb l q)] (nx) (by simp [zaa, getK, zab, zac, Ob.under, D.under, zad, zae, hne, hi] <;> omega) (by simp [D.under]) (by simp [hn]) ?_; try simp)
   exact PPost.zch h3 (by simp [Exp.row_eq]) rfl
  | some x =>
   obtain ⟨k, hk1, hk2⟩ := (zgJ oprs 0).2 x hx;rw [hk2] at hix;rw [hx] at h3;simp only at h3;have hqb := zba hl (by have := List.find?_some (p := fun o : Opr => isB l q o.text) hx; exact this);have hk0 : ¬ ((k : Int) < 0) := by omega
   have hkl : k < 8 := (lGE.1 hk1).1;rw [show (0 : Int) + k = (k : Int) by omega] at hix;have hfm : 0 <= x.form /\ x.form <= 6 := by
    have := List.mem_of_getElem? hk1;simp only [oprs, List.mem_cons, List.not_mem_nil, or_false] at this;rcases this with rfl | rfl | rfl | rfl | rfl | rfl | rfl | rfl <;> decide
   obtain ⟨hf0, hf6⟩ := hfm;generalize hL : oprs = L at hop hix hk1;by_cases c1 : x.form < form
   ·rw [if_pos (Or.inl c1)] at h3
    repeat' (first
  | ((first | refine zag ?_ | refine zaj ?_ | refine zah ?_ | refine zai ?_ | refine zao ?_ | fail); simp [hne, del, nAA, hk0, hk1, c1])
  | ((first | refine zar ?_ | refine zaq ?_ | fail); simp only [zap])
  | (refine CallP.fE (hop) (by first | rfl | fail) (by first | simp [hne, del, nAA, hk0, hk1, c1] <;> rfl | fail) ?_; (try simp [hne, del, nAA, hk0, hk1, c1]))
  | (refine CallP.fE (hix) (by first | rfl | fail) (by first | simp [hne, del, nAA, hk0, hk1, c1] <;> rfl | fail) ?_; (try simp [hne, del, nAA, hk0, hk1, c1]))
  | fail)
    refine EndW.norm ?_;simp [St.norm, za9, zbG, zb1, zbV, hne, nAA]
    (refine EndW.here ?_; (first | (refine EndOK.fin (.inr rfl) ?_) | (refine EndOK.fin (.inl rfl) ?_)); simp [zaz, zaf, Tryz.results203, hne, hi]; refine FinOK.cut [(i, pOb l q)] (nx) (by simp [zaa, getK, zab, zac, Ob.under, D.under, zad, zae, hne, hi] <;> omega) (by simp [D.under]) (by simp [hn]) ?_; try simp)
    exact PPost.zch h3 (by simp [Exp.row_eq]) rfl
   ·by_cases c2 : own < x.form
    ·rw [if_pos (Or.inr (Or.inl c2))] at h3
     repeat' (first
  | ((first | refine zag ?_ | refine zaj ?_ | refine zah ?_ | refine zai ?_ | refine zao ?_ | fail); simp [hne, del, nAA, hk0, hk1, c1, c2])
  | ((first | refine zar ?_ | refine zaq ?_ | fail); simp only [zap])
  | (refine CallP.fE (hop) (by first | rfl | fail) (by first | simp [hne, del, nAA, hk0, hk1, c1, c2] <;> rfl | fail) ?_; (try simp [hne, del, nAA, hk0, hk1, c1, c2]))
  | (refine CallP.fE (hix) (by first | rfl | fail) (by first | simp [hne, del, nAA, hk0, hk1, c1, c2] <;> rfl | fail) ?_; (try simp [hne, del, nAA, hk0, hk1, c1, c2]))
  | fail)
     refine EndW.norm ?_;simp [St.norm, za9, zbG, zb1, zbV, hne, nAA]
     (refine EndW.here ?_; (first | (refine EndOK.fin (.inr rfl) ?_) | (refine EndOK.fin (.inl rfl) ?_)); simp [zaz, zaf, Tryz.results203, hne, hi]; refine FinOK.cut [(i, pOb l q)] (nx) (by simp [zaa, getK, zab, zac, Ob.under, D.under, zad, zae, hne, hi] <;> omega) (by simp [D.under]) (by simp [hn]) ?_; try simp)
     exact PPost.zch h3 (by simp [Exp.row_eq]) rfl
    ·by_cases c3 : own = 4 /\ x.form = 4
     ·rw [if_pos (Or.inr (Or.inr c3))] at h3;obtain ⟨c4, c5⟩ := c3
      repeat' (first
  | ((first | refine zag ?_ | refine zaj ?_ | refine zah ?_ | refine zai ?_ | refine zao ?_ | fail); simp [hne, del, nAA, hk0, hk1, c1, c2, c4, c5])
  | ((first | refine zar ?_ | refine zaq ?_ | fail); simp only [zap])
  | (refine ⟨?_, by omega⟩)
  | (intro hc <;> (try (exfalso; omega)))
  | (refine CallP.fE (hop) (by first | rfl | fail) (by first | simp [hne, del, nAA, hk0, hk1, c1, c2, c4, c5] <;> rfl | fail) ?_; (try simp [hne, del, nAA, hk0, hk1, c1, c2, c4, c5]))
  | (refine CallP.fE (hix) (by first | rfl | fail) (by first | simp [hne, del, nAA, hk0, hk1, c1, c2, c4, c5] <;> rfl | fail) ?_; (try simp [hne, del, nAA, hk0, hk1, c1, c2, c4, c5]))
  | fail)
      refine EndW.norm ?_;simp [St.norm, za9, zbG, zb1, zbV, hne, nAA]
      (refine EndW.here ?_; (first | (refine EndOK.fin (.inr rfl) ?_) | (refine EndOK.fin (.inl rfl) ?_)); simp [zaz, zaf, Tryz.results203, hne, hi]; refine FinOK.cut [(i, pOb l q)] (nx) (by simp [zaa, getK, zab, zac, Ob.under, D.under, zad, zae, hne, hi] <;> omega) (by simp [D.under]) (by simp [hn]) ?_; try simp)
      exact PPost.zch h3 (by simp [Exp.row_eq]) rfl
     ·rw [if_neg (by rintro (h | h | h) <;> contradiction)] at h3;have hb := fun nx' (h : nx <= nx') => hE g (by omega) (q + 1) (x.form + 1) i nx' (by omega) hqb (by omega) (by omega) (by omega);cases hr1 : zej l g (q + 1) (x.form + 1) with
      | stop pos err =>
       simp only [hr1] at hb;rw [hr1] at h3;by_cases c4 : own = 4
       ·have c5 : ¬ x.form = 4 := fun h => c3 ⟨c4, h⟩
        repeat' (first
  | (refine zfq (fun nx' h' => hb nx' (by simp at h'; omega)) (by first | (simp [hne, del, nAA, hk0, hk1, c1, c2, c4, c5, zaa, getK, zab, zac, zak, zau]; done) | fail) (by rfl) (by first | assumption | simp) (by rfl) (by simp) ?_ ?_; rintro env' ob' n' hn' ⟨q', rfl⟩; refine ⟨_, Wk.refl _, ?_⟩)
  | (refine zew rfl (by simp) ?_; simp)
  | ((first | refine zag ?_ | refine zaN rfl ?_ | refine zaj ?_ | fail); simp [hne, del, nAA, hk0, hk1, c1, c2, c4, c5])
  | (refine ⟨by omega, ?_⟩)
  | ((first | refine zah ?_ | refine zai ?_ | fail); simp [hne, del, nAA, hk0, hk1, c1, c2, c4, c5])
  | (refine zdi (hC _ (zbn [i] nx (by simp <;> omega) (by simp <;> omega) (by apply Exists.intro; apply And.intro; (focus (repeat' (first | exact KF.nil | exact KL.nil | apply KF.cons | apply KL.cons 0 rfl | apply KL.cons 1 rfl | apply KL.cons 2 rfl | apply KL.cons 3 rfl | apply KL.cons 4 rfl | apply KL.cons 5 rfl | apply KL.cons 6 rfl | apply KL.cons 7 rfl | apply KL.cons 8 rfl | apply KL.cons 9 rfl))); kernel_rfl))) rfl; done)
  | (refine zaM rfl (by kernel_rfl) (by first | (simp [hn]; done) | (simp [hn]; omega) | fail) fun C k hC hk => ?_; simp [hne, del, nAA, hk0, hk1, c1, c2, c4, c5])
  | (refine zao ?_; simp [hne, del, nAA, hk0, hk1, c1, c2, c4, c5])
  | (refine zaq ?_; simp only [zap])
  | (refine ⟨?_, by omega⟩)
  | (intro hc <;> (try (exfalso; omega)))
  | (refine CallP.fE (hop) (by first | rfl | fail) (by first | simp [hne, del, nAA, hk0, hk1, c1, c2, c4, c5] <;> rfl | fail) ?_; (try simp [hne, del, nAA, hk0, hk1, c1, c2, c4, c5]))
  | (refine CallP.fE (hix) (by first | rfl | fail) (by first | simp [hne, del, nAA, hk0, hk1, c1, c2, c4, c5] <;> rfl | fail) ?_; (try simp [hne, del, nAA, hk0, hk1, c1, c2, c4, c5]))
  | fail)
        (refine hpan _ _ ⟨{ n := _, env := [], obs := [(i, pOb l q')], next := nx }, (Wk.cut rfl (by simp [hn]) (by simp [wkO, zaa, getK, zab, zac, Ob.under, D.under, zad, zae, hi, hne, zab, zac, zaa, getK]) (by simp [wkU, zam, zaa, getK, D.under, hi, hne, zab, zac, zaa, getK]) (by simp [wkE, zam, zaa, getK, hi, hne, zab, zac, zaa, getK])), by simp [hn], ?_⟩; try simp)
        exact PPost.zaB h3
       ·repeat' (first
  | (refine zfq (fun nx' h' => hb nx' (by simp at h'; omega)) (by first | (simp [hne, del, nAA, hk0, hk1, c1, c2, c4, zaa, getK, zab, zac, zak, zau]; done) | fail) (by rfl) (by first | assumption | simp) (by rfl) (by simp) ?_ ?_; rintro env' ob' n' hn' ⟨q', rfl⟩; refine ⟨_, Wk.refl _, ?_⟩)
  | (refine zew rfl (by simp) ?_; simp)
  | ((first | refine zag ?_ | refine zaN rfl ?_ | refine zaj ?_ | fail); simp [hne, del, nAA, hk0, hk1, c1, c2, c4])
  | (refine ⟨by omega, ?_⟩)
  | ((first | refine zah ?_ | refine zai ?_ | fail); simp [hne, del, nAA, hk0, hk1, c1, c2, c4])
  | (refine zdi (hC _ (zbn [i] nx (by simp <;> omega) (by simp <;> omega) (by apply Exists.intro; apply And.intro; (focus (repeat' (first | exact KF.nil | exact KL.nil | apply KF.cons | apply KL.cons 0 rfl | apply KL.cons 1 rfl | apply KL.cons 2 rfl | apply KL.cons 3 rfl | apply KL.cons 4 rfl | apply KL.cons 5 rfl | apply KL.cons 6 rfl | apply KL.cons 7 rfl | apply KL.cons 8 rfl | apply KL.cons 9 rfl))); kernel_rfl))) rfl; done)
  | (refine zaM rfl (by kernel_rfl) (by first | (simp [hn]; done) | (simp [hn]; omega) | fail) fun C k hC hk => ?_; simp [hne, del, nAA, hk0, hk1, c1, c2, c4])
  | (refine zao ?_; simp [hne, del, nAA, hk0, hk1, c1, c2, c4])
  | (refine zaq ?_; simp only [zap])
  | (refine CallP.fE (hop) (by first | rfl | fail) (by first | simp [hne, del, nAA, hk0, hk1, c1, c2, c4] <;> rfl | fail) ?_; (try simp [hne, del, nAA, hk0, hk1, c1, c2, c4]))
  | (refine CallP.fE (hix) (by first | rfl | fail) (by first | simp [hne, del, nAA, hk0, hk1, c1, c2, c4] <;> rfl | fail) ?_; (try simp [hne, del, nAA, hk0, hk1, c1, c2, c4]))
  | fail)
        (refine hpan _ _ ⟨{ n := _, env := [], obs := [(i, pOb l q')], next := nx }, (Wk.cut rfl (by simp [hn]) (by simp [wkO, zaa, getK, zab, zac, Ob.under, D.under, zad, zae, hi, hne, zab, zac, zaa, getK]) (by simp [wkU, zam, zaa, getK, D.under, hi, hne, zab, zac, zaa, getK]) (by simp [wkE, zam, zaa, getK, hi, hne, zab, zac, zaa, getK])), by simp [hn], ?_⟩; try simp)
        exact PPost.zaB h3
      | ok e2 q2 =>
       have hb := fun nx' h => zds (hb nx' h) hr1;obtain ⟨g1a, g1b⟩ := (zcm hl g).1 _ _ _ _ hr1 hqb;rw [hr1] at h3;by_cases c4 : own = 4
       ·have c5 : ¬ x.form = 4 := fun h => c3 ⟨c4, h⟩
        repeat' (first
  | (refine zgY (fun nx' h' => hb nx' (by simp at h'; omega)) (by first | (simp [hne, del, nAA, hk0, hk1, c1, c2, c4, c5, zaa, getK, zab, zac, zak, zau]; done) | fail) (by rfl) (by first | assumption | simp) (by rfl) (by simp [D.under, Ob.under]) (by simp) ?_; (try simp [hne, del, nAA, hk0, hk1, c1, c2, c4, c5]))
  | ((first | refine zag ?_ | refine zaN rfl ?_ | refine zci rfl ?_ | refine zaj ?_ | fail); simp [hne, del, nAA, hk0, hk1, c1, c2, c4, c5])
  | (refine ⟨by omega, ?_⟩)
  | ((first | refine zah ?_ | refine zai ?_ | fail); simp [hne, del, nAA, hk0, hk1, c1, c2, c4, c5])
  | (refine za4 (hC _ (zbn [i] nx (by simp <;> omega) (by simp <;> omega) (by apply Exists.intro; apply And.intro; (focus (repeat' (first | exact KF.nil | exact KL.nil | apply KF.cons | apply KL.cons 0 rfl | apply KL.cons 1 rfl | apply KL.cons 2 rfl | apply KL.cons 3 rfl | apply KL.cons 4 rfl | apply KL.cons 5 rfl | apply KL.cons 6 rfl | apply KL.cons 7 rfl | apply KL.cons 8 rfl | apply KL.cons 9 rfl))); kernel_rfl))) (hk _ ?_); clear hC hk C k; simp only [zap])
  | (refine zaM rfl (by kernel_rfl) (by first | (simp [hn]; done) | (simp [hn]; omega) | fail) fun C k hC hk => ?_; simp [hne, del, nAA, hk0, hk1, c1, c2, c4, c5])
  | ((first | refine zao ?_ | refine zat ?_ | fail); simp [hne, del, nAA, hk0, hk1, c1, c2, c4, c5])
  | (refine zaq ?_; simp only [zap])
  | (refine ⟨?_, by omega⟩)
  | (intro hc <;> (try (exfalso; omega)))
  | (refine CallP.fE (hop) (by first | rfl | fail) (by first | simp [hne, del, nAA, hk0, hk1, c1, c2, c4, c5] <;> rfl | fail) ?_; (try simp [hne, del, nAA, hk0, hk1, c1, c2, c4, c5]))
  | (refine CallP.fE (hix) (by first | rfl | fail) (by first | simp [hne, del, nAA, hk0, hk1, c1, c2, c4, c5] <;> rfl | fail) ?_; (try simp [hne, del, nAA, hk0, hk1, c1, c2, c4, c5]))
  | fail)
        have hi3 : i < nx + 3 := by omega
        refine LoopW.next ⟨(.mk x.op 0 0 [] [e, e2], x.form, q2, g), g1b, (by show 4 * (l.length - q2) + 2 <= g; omega), (by show g <= f; omega), h3⟩ (by show g < g + 1; omega) ?_
        refine Wk.trans (Wk.frzN 1 _) ?_;simp [hne, nAA, frzN, frz1, zaE, zaD, St.frz, St.frzS, frzS, fv, za5, za6, za7, zaH, zay, zav, del, frz, zbg];exact (Wk.cut rfl (by simp [hn, St.lp]) (by simp [wkO, St.lp, zaa, getK, Ob.under, D.under, zad, zae, hi, hi3, hne, Exp.row_eq, Exp.op, Exp.n, Exp.unit, Exp.s, Exp.args]) (by simp [wkU, St.lp, zam, zaa, getK, D.under, hi, hi3, hne, Exp.row_eq, Exp.op, Exp.n, Exp.unit, Exp.s, Exp.args]) (by simp [wkE, St.lp, zam, zaa, getK, hi, hi3, hne, Exp.row_eq, Exp.op, Exp.n, Exp.unit, Exp.s, Exp.args] <;> (try (intros; simp_all; done)) <;> (try (intros; omega)) <;> (try grind)))
       ·repeat' (first
  | (refine zgY (fun nx' h' => hb nx' (by simp at h'; omega)) (by first | (simp [hne, del, nAA, hk0, hk1, c1, c2, c4, zaa, getK, zab, zac, zak, zau]; done) | fail) (by rfl) (by first | assumption | simp) (by rfl) (by simp [D.under, Ob.under]) (by simp) ?_; (try simp [hne, del, nAA, hk0, hk1, c1, c2, c4]))
  | ((first | refine zag ?_ | refine zaN rfl ?_ | refine zci rfl ?_ | refine zaj ?_ | fail); simp [hne, del, nAA, hk0, hk1, c1, c2, c4])
  | (refine ⟨by omega, ?_⟩)
  | ((first | refine zah ?_ | refine zai ?_ | fail); simp [hne, del, nAA, hk0, hk1, c1, c2, c4])
  | (refine za4 (hC _ (zbn [i] nx (by simp <;> omega) (by simp <;> omega) (by apply Exists.intro; apply And.intro; (focus (repeat' (first | exact KF.nil | exact KL.nil | apply KF.cons | apply KL.cons 0 rfl | apply KL.cons 1 rfl | apply KL.cons 2 rfl | apply KL.cons 3 rfl | apply KL.cons 4 rfl | apply KL.cons 5 rfl | apply KL.cons 6 rfl | apply KL.cons 7 rfl | apply KL.cons 8 rfl | apply KL.cons 9 rfl))); kernel_rfl))) (hk _ ?_); clear hC hk C k; simp only [zap])
  | (refine zaM rfl (by kernel_rfl) (by first | (simp [hn]; done) | (simp [hn]; omega) | fail) fun C k hC hk => ?_; simp [hne, del, nAA, hk0, hk1, c1, c2, c4])
  | ((first | refine zao ?_ | refine zat ?_ | fail); simp [hne, del, nAA, hk0, hk1, c1, c2, c4])
  | (refine zaq ?_; simp only [zap])
  | (refine CallP.fE (hop) (by first | rfl | fail) (by first | simp [hne, del, nAA, hk0, hk1, c1, c2, c4] <;> rfl | fail) ?_; (try simp [hne, del, nAA, hk0, hk1, c1, c2, c4]))
  | (refine CallP.fE (hix) (by first | rfl | fail) (by first | simp [hne, del, nAA, hk0, hk1, c1, c2, c4] <;> rfl | fail) ?_; (try simp [hne, del, nAA, hk0, hk1, c1, c2, c4]))
  | fail)
        have hi3 : i < nx + 3 := by omega
        refine LoopW.next ⟨(.mk x.op 0 0 [] [e, e2], x.form, q2, g), g1b, (by show 4 * (l.length - q2) + 2 <= g; omega), (by show g <= f; omega), h3⟩ (by show g < g + 1; omega) ?_
        refine Wk.trans (Wk.frzN 1 _) ?_;simp [hne, nAA, frzN, frz1, zaE, zaD, St.frz, St.frzS, frzS, fv, za5, za6, za7, zaH, zay, zav, del, frz, zbg];exact (Wk.cut rfl (by simp [hn, St.lp]) (by simp [wkO, St.lp, zaa, getK, Ob.under, D.under, zad, zae, hi, hi3, hne, Exp.row_eq, Exp.op, Exp.n, Exp.unit, Exp.s, Exp.args]) (by simp [wkU, St.lp, zam, zaa, getK, D.under, hi, hi3, hne, Exp.row_eq, Exp.op, Exp.n, Exp.unit, Exp.s, Exp.args]) (by simp [wkE, St.lp, zam, zaa, getK, hi, hi3, hne, Exp.row_eq, Exp.op, Exp.n, Exp.unit, Exp.s, Exp.args] <;> (try (intros; simp_all; done)) <;> (try (intros; omega)) <;> (try grind)))
end Go.Proofs.YtepiegcjnaohjaaGreatDoor
