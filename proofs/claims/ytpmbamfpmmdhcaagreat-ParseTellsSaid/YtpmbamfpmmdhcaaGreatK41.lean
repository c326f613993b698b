/- The chapter's examples. -/
import Derived.Test.YtpmbamfpmmdhcaaGreatK40
set_option maxRecDepth 100000
set_option maxHeartbeats 16000000
namespace Go.Proofs.YtpmbamfpmmdhcaaGreat
open Go.RowKit
set_option linter.unusedSimpArgs false
set_option linter.unusedVariables false
def winE (fn span : Int) : Ex := .mk 1 fn 0 0 ⟨#[99,112,117]⟩ [] span [] []
def gE : Ex := .mk 2 1 0 0 ⟨#[]⟩ [] 0 [⟨#[97]⟩] [winE 1 10]
def fE : Ex := .mk 5 0 6 3 ⟨#[]⟩ [] 0 [] [gE]
def outQ (s : ByteArray) : Option (Int × Ex × Int × Int) := (pExpr (LX s) 60 (P3 s)).map fun r =>
  let q := r.2.done (LX s) (checkQuery (EV s) r.1)
  ((if q.err = 0 then EV s else 0),(if q.err = 0 then r.1 else noEx),q.err,q.at')
def outE (s : ByteArray) : Option (Ex × Int × Int) := (pExpr (LX s) 60 (PX s)).map fun r =>
  let q := r.2.done (LX s) (checkExpr r.1)
  ((if q.err = 0 then r.1 else noEx),q.err,q.at')
theorem ofQ {s : ByteArray} {ev : Int} {x : Ex} {fe fa : Int} (h : outQ s = some (ev,x,fe,fa)) (hs : s.size ≤ maxLen) : ∀ X,Calls Tryz.prog 13 #[.string s] X (QRes ev x fe fa X) := by
  unfold outQ at h
  cases hr : pExpr (LX s) 60 (P3 s) with
  | none => rw [hr] at h;cases h
  | some r =>
    rw [hr] at h;simp only [Option.map_some,Option.some.injEq,Prod.mk.injEq] at h;obtain ⟨rfl,rfl,rfl,rfl⟩ := h;exact fun X => (tQuery s X hs r.1 r.2 60 hr).mono fun _ _ h => h.res
theorem ofE {s : ByteArray} {x : Ex} {fe fa : Int} (h : outE s = some (x,fe,fa)) (hs : s.size ≤ maxLen) : ∀ X,Calls Tryz.prog 7 #[.string s] X (ERes x fe fa X) := by
  unfold outE at h
  cases hr : pExpr (LX s) 60 (PX s) with
  | none => rw [hr] at h;cases h
  | some r =>
    rw [hr] at h;simp only [Option.map_some,Option.some.injEq,Prod.mk.injEq] at h;obtain ⟨rfl,rfl,rfl⟩ := h;exact fun X => (tExpr s X hs r.1 r.2 60 hr).mono fun _ _ h => h.res
theorem lives_q : outQ ⟨#[101,118,101,114,121,32,53,58,32,116,111,116,97,108,32,98,121,32,40,97,41,32,40,115,117,109,40,99,112,117,91,49,48,93,41,41,32,62,32,51]⟩ = some (5,fE,0,0) := by kernel_rfl
theorem lives_0 : outE ⟨#[115,117,109,40,99,112,117,91,48,93,41]⟩ = some (noEx,2,0) := by kernel_rfl
theorem lives_s : outE ⟨#[115,117,109,40,99,112,117,41]⟩ = some (noEx,14,7) := by kernel_rfl
theorem IsEx.len9 {n : Nat} {w : World} {e : Ex} {r : List Value} (h : IsEx n w e r) : r.length = 9 := by cases h;rfl
theorem exsBlk {w : World} {g n m : Nat} (l : List Ex) (rows : List (List Value)) (h : Blk w g 28 rows.flatten) (hg : g < n) (hnm : m ≤ n) (hl : rows.length = l.length) (hm : rows.length ≤ maxLen) (hr : ∀ (k : Nat) (r : List Value) (e : Ex),rows[k]? = some r → l[k]? = some e → IsEx m w e r) :
    IsExs n w (.slice (some ⟨g,0,none⟩) rows.length rows.length) l := by
  refine ⟨rows,arrBlkP h hg (fun r hr' => ?_) hm,hl,fun k r e h1 h2 => (hr k r e h1 h2).mono (Below.refl _ _) hnm⟩
  obtain ⟨k,hk,rfl⟩ := List.getElem_of_mem hr'
  exact (hr k rows[k] (l[k]'(by omega)) (by simp) (by simp)).len9
theorem IsEx.node {n : Nat} {w : World} {kind fn op num span : Int} {names : List ByteArray} {kids : List Ex} {vn vk : Value} (hn : IsStrs n w vn names) (hk : IsExs n w vk kids) :
    IsEx n w (.mk kind fn op num ⟨#[]⟩ [] span names kids) [.int .i64 kind,.int .i64 fn,.int .i64 op,.int .i64 num,.string ⟨#[]⟩,.slice none 0 0,.int .i64 span,vn,vk] := by
  obtain ⟨rows,h1,h2,h3⟩ := hk
  exact .mk (by decide) ⟨Arr.nil _ _ _,by simp⟩ hn h1 h2 h3
theorem noStrs (n : Nat) (w : World) : IsStrs n w (.slice none 0 0) [] := ⟨Arr.nil _ _ _,by simp⟩
theorem win_is2 (fn span : Int) (n : Nat) (w : World) : IsEx n w (winE fn span) [.int .i64 1,.int .i64 fn,.int .i64 0,.int .i64 0,.string ⟨#[99,112,117]⟩,.slice none 0 0,.int .i64 span,.slice none 0 0,.slice none 0 0] :=
  .mk (rows := []) (by decide) ⟨Arr.nil _ _ _,by simp⟩ ⟨Arr.nil _ _ _,by simp⟩ (Arr.nil _ _ _) rfl (fun k r e hr _ => by simp at hr)
theorem exs_one {X : World} {g m n : Nat} {e : Ex} {cs : List Value} (h : Blk X g 28 cs) (hm : m ≤ n) (hg : g < n) (he : IsEx m X e cs) : IsExs n X (.slice (some ⟨g,0,none⟩) 1 1) [e] :=
  exsBlk (m := m) [e] [cs] (by simpa using h) hg hm rfl (by show 1 ≤ maxLen;decide) (fun k r e' hr he' => by
    match k,hr,he' with
    | 0,hr,he' => simp only [List.getElem?_cons_zero,Option.some.injEq] at hr he';subst hr he';exact he
    | k + 1,hr,he' => simp at hr)
theorem xWin (fn span : Int) (w : World) : Calls Tryz.prog 23 #[.int .i64 fn,.int .i64 span] w fun e' w' =>
    e' = .returned (.agg #[.int .i64 1,.int .i64 fn,.int .i64 0,.int .i64 0,.string ⟨#[99,112,117]⟩,.slice none 0 0,.int .i64 span,.slice none 0 0,.slice none 0 0]) ∧ Below w.heap.size w w' := by
  go_enter Tryz.func23,Tryz.ntmps23;(try simp only [List.append_eq,List.cons_append,List.nil_append])
  go_wp2
  exact bodyPost_agg (g := w.heap.size) (fr := (0,0)) rfl rfl (World.alloc_heap_new w _) Tryz.underlying28 rfl (by kernel_rfl) rfl ⟨rfl,(Below.refl _ _).alloc (Nat.le_refl _) _⟩
theorem xWrong (s : ByteArray) (fe fa : Int) (h : ∀ X,Calls Tryz.prog 7 #[.string s] X (ERes noEx fe fa X)) (w : World) :
    Calls Tryz.prog 24 #[.string s,.int .i64 fe,.int .i64 fa] w fun e' w' => e' = .returned (.bool true) ∧ Below w.heap.size w w' := by
  have H := Lib.hid h;clear h
  go_enter Tryz.func24,Tryz.ntmps24;(try simp only [List.append_eq,List.cons_append,List.nil_append])
  go_wp2_with fail
  refine (H.out _).mono ?_
  rintro e' w1 ⟨cs,rfl,hx,hb⟩
  have HB := Lib.hid hb;clear hb
  obtain ⟨pm,cm,pn,cn,pk,ck,rfl,-⟩ := hx.cellsE
  have HX := Lib.hid hx;clear hx
  go_wp2_with fail
  have hb3 : Below w1.heap.size w1 ((w1.alloc _).alloc _) := two_below w1 (.cells #[.int .i64 noEx.kind,.int .i64 noEx.fn,.int .i64 noEx.op,.int .i64 noEx.num,.string noEx.metric,.slice pm noEx.mats.length cm,.int .i64 noEx.span,.slice pn noEx.names.length cn,.slice pk noEx.kids.length ck] 28) (.cells #[.int .i64 fe,.int .i64 fa] 31)
  have HB3 := Lib.hid (HB.out.trans (hb3.mono HB.out.size))
  refine (kExpr noEx noEx _ _ _ _ (Nat.le_refl _) (HX.out.mono hb3 hb3.size) (noEx_is _)).mono ?_
  clear hb3
  rintro e' w4 ⟨rfl,hb4⟩
  have HB4 := Lib.hid (HB3.out.trans (hb4.mono HB3.out.size));clear hb4
  go_wp2
  go_ret
  exact ⟨rfl,HB4.out⟩
theorem xLives (w : World) : Calls Tryz.prog 6 #[] w fun e' w' => e' = .returned (.bool true) ∧ Below w.heap.size w w' := by
  have HQ := Lib.hid (ofQ lives_q (by decide))
  have H0 := Lib.hid (xWrong _ 2 0 (ofE lives_0 (by decide)))
  have H1 := Lib.hid (xWrong _ 14 7 (ofE lives_s (by decide)))
  go_enter Tryz.func6,Tryz.ntmps6;(try simp only [List.append_eq,List.cons_append,List.nil_append])
  go_wp2_with fail
  refine (HQ.out _).mono ?_
  rintro e' w1 ⟨cs,rfl,hx,hb⟩
  have HB := Lib.hid hb;clear hb
  obtain ⟨pm,cm,pn,cn,pk,ck,rfl,-⟩ := hx.cellsE
  have HX := Lib.hid hx;clear hx
  go_upto_region 2 with fail
  obtain ⟨x,hW⟩ : ∃ x,(w1.alloc (.cells #[.int .i64 5,.int .i64 fE.kind,.int .i64 fE.fn,.int .i64 fE.op,.int .i64 fE.num,.string fE.metric,.slice pm fE.mats.length cm,.int .i64 fE.span,.slice pn fE.names.length cn,.slice pk fE.kids.length ck] 42)).alloc (.cells #[.int .i64 0,.int .i64 0] 31) = x := ⟨_,rfl⟩
  have kq : Blk x w1.heap.size 42 [.int .i64 5,.int .i64 fE.kind,.int .i64 fE.fn,.int .i64 fE.op,.int .i64 fE.num,.string fE.metric,.slice pm fE.mats.length cm,.int .i64 fE.span,.slice pn fE.names.length cn,.slice pk fE.kids.length ck] := by rw [← hW];exact two_at w1 [.int .i64 5,.int .i64 fE.kind,.int .i64 fE.fn,.int .i64 fE.op,.int .i64 fE.num,.string fE.metric,.slice pm fE.mats.length cm,.int .i64 fE.span,.slice pn fE.names.length cn,.slice pk fE.kids.length ck] [.int .i64 0,.int .i64 0] _ _
  have kf : Blk x (w1.heap.size + 1) 31 [.int .i64 0,.int .i64 0] := by rw [← hW];exact two_at' w1 _ [.int .i64 0,.int .i64 0] _
  have kb : Below w1.heap.size w1 x := by rw [← hW];exact two_below w1 _ _
  rw [hW]
  clear hW
  have HBX := Lib.hid (HB.out.trans (kb.mono HB.out.size))
  have HX1 := Lib.hid (HX.out.mono kb kb.size)
  have KQ := Lib.hid kq
  have KF := Lib.hid kf
  clear kb HX HB kq kf
  go_wp2_with fail
  refine (xWin 1 10 _).mono ?_
  rintro e' w3 ⟨rfl,hb3⟩
  have ha3 : Blk w3 x.heap.size 9 [.string ⟨#[97]⟩] := (Blk.new x [.string ⟨#[97]⟩] 9).keep hb3
  have hb4 : Below x.heap.size x w3 := ((Below.refl _ _).alloc (Nat.le_refl _) _).trans (hb3.mono (by simp))
  have HA3 := Lib.hid ha3
  have HX3 := Lib.hid (HX1.out.mono hb4 hb4.size)
  have KQ3 := Lib.hid (KQ.out.keep hb4)
  have KF3 := Lib.hid (KF.out.keep hb4)
  have HB4 := Lib.hid (HBX.out.trans (hb4.mono HBX.out.size))
  clear hb3 hb4 ha3 HX1 KQ KF HBX
  go_upto_region 3 with fail
  obtain ⟨X,hW⟩ : ∃ X,(w3.alloc (.cells #[.int .i64 1,.int .i64 1,.int .i64 0,.int .i64 0,.string ⟨#[99,112,117]⟩,.slice none 0 0,.int .i64 10,.slice none 0 0,.slice none 0 0] 28)).alloc (.cells #[.int .i64 2,.int .i64 1,.int .i64 0,.int .i64 0,.string ⟨#[]⟩,.slice none 0 0,.int .i64 0,.slice (some ⟨x.heap.size,0,none⟩) 1 1,.slice (some ⟨w3.heap.size,0,none⟩) 1 1] 28) = X := ⟨_,rfl⟩
  have kk1 : Blk X w3.heap.size 28 [.int .i64 1,.int .i64 1,.int .i64 0,.int .i64 0,.string ⟨#[99,112,117]⟩,.slice none 0 0,.int .i64 10,.slice none 0 0,.slice none 0 0] := by rw [← hW];exact two_at w3 [.int .i64 1,.int .i64 1,.int .i64 0,.int .i64 0,.string ⟨#[99,112,117]⟩,.slice none 0 0,.int .i64 10,.slice none 0 0,.slice none 0 0] [.int .i64 2,.int .i64 1,.int .i64 0,.int .i64 0,.string ⟨#[]⟩,.slice none 0 0,.int .i64 0,.slice (some ⟨x.heap.size,0,none⟩) 1 1,.slice (some ⟨w3.heap.size,0,none⟩) 1 1] _ _
  have kk2 : Blk X (w3.heap.size + 1) 28 [.int .i64 2,.int .i64 1,.int .i64 0,.int .i64 0,.string ⟨#[]⟩,.slice none 0 0,.int .i64 0,.slice (some ⟨x.heap.size,0,none⟩) 1 1,.slice (some ⟨w3.heap.size,0,none⟩) 1 1] := by rw [← hW];exact two_at' w3 _ [.int .i64 2,.int .i64 1,.int .i64 0,.int .i64 0,.string ⟨#[]⟩,.slice none 0 0,.int .i64 0,.slice (some ⟨x.heap.size,0,none⟩) 1 1,.slice (some ⟨w3.heap.size,0,none⟩) 1 1] _
  have kb : Below w3.heap.size w3 X := by rw [← hW];exact two_below w3 _ _
  rw [hW]
  clear hW
  have ha5 := HA3.out.keep kb
  have hG : IsEx X.heap.size X gE [.int .i64 2,.int .i64 1,.int .i64 0,.int .i64 0,.string ⟨#[]⟩,.slice none 0 0,.int .i64 0,.slice (some ⟨x.heap.size,0,none⟩) 1 1,.slice (some ⟨w3.heap.size,0,none⟩) 1 1] := IsEx.node (strsBlkP [⟨#[97]⟩] ha5 ha5.lt (by intro x hx;simp at hx;subst hx;decide) (by decide)) (exs_one kk1 (Nat.zero_le _) kk1.lt (win_is2 1 10 0 X))
  have HX5 := Lib.hid (HX3.out.mono kb kb.size)
  have kq := KQ3.out.keep kb
  have kf := KF3.out.keep kb
  have HB5 := Lib.hid (HB4.out.trans (kb.mono HB4.out.size))
  clear ha5 kk1 kb HX3 KQ3 KF3 HB4 HA3
  have q0 := kq.cell 0 _ rfl;have q1 := kq.cell 1 _ rfl;have q2 := kq.cell 2 _ rfl;have q3 := kq.cell 3 _ rfl;have q4 := kq.cell 4 _ rfl;have q5 := kq.cell 5 _ rfl;have q6 := kq.cell 6 _ rfl;have q7 := kq.cell 7 _ rfl;have q8 := kq.cell 8 _ rfl;have q9 := kq.cell 9 _ rfl
  have f0 := kf.cell 0 _ rfl;have f1 := kf.cell 1 _ rfl
  have d0 := kk2.cell 0 _ rfl;have d1 := kk2.cell 1 _ rfl;have d2 := kk2.cell 2 _ rfl;have d3 := kk2.cell 3 _ rfl;have d4 := kk2.cell 4 _ rfl;have d5 := kk2.cell 5 _ rfl;have d6 := kk2.cell 6 _ rfl;have d7 := kk2.cell 7 _ rfl;have d8 := kk2.cell 8 _ rfl
  have kq := Blk.new X [.int .i64 2,.int .i64 1,.int .i64 0,.int .i64 0,.string ⟨#[]⟩,.slice none 0 0,.int .i64 0,.slice (some ⟨x.heap.size,0,none⟩) 1 1,.slice (some ⟨w3.heap.size,0,none⟩) 1 1] 28
  have hbx2 : Below X.heap.size X (X.alloc (.cells #[.int .i64 2,.int .i64 1,.int .i64 0,.int .i64 0,.string ⟨#[]⟩,.slice none 0 0,.int .i64 0,.slice (some ⟨x.heap.size,0,none⟩) 1 1,.slice (some ⟨w3.heap.size,0,none⟩) 1 1] 28)) := (Below.refl _ _).alloc (Nat.le_refl _) _
  have hF := IsEx.node (kind := 5) (fn := 0) (op := 6) (num := 3) (span := 0) (noStrs _ _) (exs_one (n := (X.alloc (.cells #[.int .i64 2,.int .i64 1,.int .i64 0,.int .i64 0,.string ⟨#[]⟩,.slice none 0 0,.int .i64 0,.slice (some ⟨x.heap.size,0,none⟩) 1 1,.slice (some ⟨w3.heap.size,0,none⟩) 1 1] 28)).heap.size) kq hbx2.size kq.lt (hG.mono hbx2 (Nat.le_refl _)))
  have HK := Lib.hid (kExpr fE fE _ _ _ _ (Nat.le_refl _) (HX5.out.mono hbx2 hbx2.size) hF)
  have HB6 := Lib.hid (HB5.out.trans (hbx2.mono HB5.out.size))
  clear hF kq hG hbx2 HX5 HB5 kf kk2
  go_wp2_with fail
  refine HK.out.mono ?_
  rintro e' w7 ⟨rfl,hb7⟩
  have HB7 := Lib.hid (HB6.out.trans (hb7.mono HB6.out.size));clear hb7 HB6 HK
  go_wp2_with fail
  refine (H0.out _).mono ?_
  rintro e' w8 ⟨rfl,hb8⟩
  have HB8 := Lib.hid (HB7.out.trans (hb8.mono HB7.out.size));clear hb8 HB7 H0
  go_wp2_with fail
  refine (H1.out _).mono ?_
  rintro e' w9 ⟨rfl,hb9⟩
  have HB9 := Lib.hid (HB8.out.trans (hb9.mono HB8.out.size));clear hb9 HB8 H1
  go_wp2
  go_ret
  exact ⟨rfl,HB9.out⟩
end Go.Proofs.YtpmbamfpmmdhcaaGreat
