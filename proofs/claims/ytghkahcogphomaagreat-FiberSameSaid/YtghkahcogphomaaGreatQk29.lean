/- Fibers: a part of the walk. No condition. -/
import Derived.Test.YtghkahcogphomaaGreatQk23
set_option linter.all false
namespace Go.Proofs.YtghkahcogphomaaGreat
section
open Go.ChangeShapes Go.WideShapes Go.RowKit
variable{w0 w w1 w':World}{c:Sk}{A A':Ar}{top:Int}{last:Value}
def FEnd(w w':World)(c:Sk)(label:Int)(R:Option (Nat×Nat))(last last':Value):Prop:=last'=last∨∃(g:Nat) (f0 up fld:Int) (ok:Bool),last'=.pointer (some ⟨g,0,none⟩)∧FnAt w' g f0 label up fld ok∧g∉c.all∧w.heap.size≤g∧W64 f0∧SrM R up fld ok
theorem St.setlast(h:St w0 w c A top last)(v:Value):St w0 (w.setCell ⟨c.kb,3,none⟩ v) c A top v∧Fr [c.kb] w (w.setCell ⟨c.kb,3,none⟩ v):=by
 have hF:Fr [c.kb] w (w.setCell ⟨c.kb,3,none⟩ v):=(Fr.refl [c.kb] w).setCell (by simp) v;have ap:=h.a.ap;simp only[List.nodup_cons,List.mem_cons,List.not_mem_nil,or_false,not_or]at ap;obtain⟨⟨a1,a2,a3,a4,a5,a6⟩,_⟩:=ap;have ne: ∀x,x≠c.kb→x∉ [c.kb]:=fun x hx=>by simpa using hx
 refine⟨⟨⟨?_,hF.at h.a.s (ne _ (Ne.symm a1)),hF.at h.a.r (ne _ (Ne.symm a2)),h.a.h.fr hF (ne _ (Ne.symm a3)) (ne _ (Ne.symm a4)) (ne _ (Ne.symm a5)) (ne _ (Ne.symm a6)),h.a.ok,h.a.wd,h.a.t,h.a.ap⟩,h.fr.trans hF (fun x hx=> .inl (by simp at hx;subst hx;unfold Sk.own;simp))⟩,hF⟩;rw[zD,if_pos rfl,h.a.k];rfl
def FindOut(w0 w:World)(c:Sk)(A:Ar)(top f label:Int)(last:Value)(R:Option (Nat×Nat))(e:Ending)(w':World):Prop:=
 e=.returned (findVal' A c.m f R)∧∃last',St w0 w' c A top last'∧FEnd w w' c label R last last'
set_option maxRecDepth 100000 in
set_option maxHeartbeats 16000000 in
theorem kfind_c(h:St w0 w c A top last)(label:Int)(hlab:W64 label)(fuel:Nat)(R:Option (Nat×Nat))(f:Int)(hf:W64 f)(hR:srF A c.m label fuel top 0=some R)(hok:srOk A c.m fuel top=true)(hfu:fuel≤1000000)
 (hd: ∀u i,R=some (u,i)→u≤1000000∧i≤1000∧dnF A c.m u top=some f)
 (hl:last=.pointer none∨∃(g:Nat) (f0 lab up fld:Int) (ok:Bool),last=.pointer (some ⟨g,0,none⟩)∧FnAt w g f0 lab up fld ok∧g∉c.all∧W64 f0∧W64 lab∧(lab=label→SrM R up fld ok)):
 Calls Tryz.prog 9 #[.pointer (some ⟨c.kb,0,none⟩),.int .u64 label] w (FindOut w0 w c A top f label last R):=by
 have k3:=h.k3;have tw:=h.tw;have CS:Hid (∀wa,St w0 wa c A top last→_):=Lib.hid (fun wa ha=>ksearch_c ha label hlab fuel R hR hok hfu);have CK:Hid (∀wa,_):=Lib.hid (fun wa=>zx label wa hlab.1 hlab.2);have OW:Hid (∀(wa wb:World) (f0 lab up fld:Int) (ok:Bool) (g:Nat),g∉c.all→FnAt wa g f0 lab up fld ok→Fr c.own wa wb→FnAt wb g f0 lab up fld ok):=Lib.hid (fun wa wb f0 lab up fld ok g hg hb hF=>hF.at hb (fun hm=>hg (zm hm)));have HD:=Lib.hid hd;have HF:=Lib.hid hf;have HW:Hid (W64 label):=Lib.hid hlab;clear hR hok hd hf hlab hfu;rcases hl with rfl|⟨g,f0,lab,up0,fld0,ok0,rfl,hB0,hga0,hf0,hlb0,hM0⟩
 ·go_enter Tryz.func9,Tryz.ntmps9;go_wp2
  go_quiet (fail)
  have hq:=h.drewN nq;have hga:Hid (w.heap.size∉c.all):=Lib.hid (fun hx=>by have:=h.all_lt _ hx;omega);go_wp2_with fail;refine(CS.out _ hq).mono ?_;rintro e w1 ⟨rfl,h1,hm⟩;simp only[show(w.drewN nq).heap.size=w.heap.size from rfl]at hm
  obtain⟨up9,fld9,ok9,hB,hM⟩: ∃up fld ok,FnAt w1 w.heap.size top label up fld ok∧SrM R up fld ok:=by
   cases R with
   |none=>obtain⟨up,hB⟩:=hm;exact⟨up,0,false,hB,rfl,rfl⟩
   |some x=>obtain⟨u,i⟩:=x;exact⟨u,i,true,hm,rfl,rfl,rfl⟩
  have H1:=Lib.hid h1;have HB:=Lib.hid hB;have HM:=Lib.hid hM;have k2:=h1.k2;obtain⟨lst,hlst⟩: ∃lst,lst=(Value.pointer none):=⟨_,rfl⟩;have HE:Hid (∀wb last',last'=lst→FEnd w wb c label R (Value.pointer none) last'):=Lib.hid (fun wb last' hl=> .inl (hl.trans hlst));have HX:Hid (∀wb,FnAt wb w.heap.size top label up9 fld9 ok9→FEnd w wb c label R (Value.pointer none) (.pointer (some ⟨w.heap.size,0,none⟩))):=Lib.hid (fun wb hb=> .inr ⟨_,_,_,_,_,rfl,hb,hga.out,Nat.le_refl _,tw,hM⟩);rw[←hlst]at H1;have HG:=hga;obtain⟨gx,hgx⟩: ∃gx,gx=w.heap.size:=⟨_,rfl⟩;rw[←hgx]at HB HG HX;rw[show(w.drewN nq).heap.size=gx from hgx.symm];clear hlst hgx hB hM hm h1 hq CS k3 tw h hga;obtain⟨rem,hrem⟩: ∃rem,rem=c.rem:=⟨_,rfl⟩;rw[←hrem]at k2;clear hrem;cases rem with
  |false=>
   cases R with
   |none=>
    obtain⟨m1,m2⟩:fld9=0∧ok9=false:=HM.out;subst m1 m2;have x4:=HB.out.c4;have H1':=H1;clear HM HD HF OW HG HB H1;go_wp2_with (first|(go_at_call 48;refine(CK.out _).mono ?_;rintro e w' ⟨rfl,rfl⟩)|(go_at_call 49;refine(zK _).mono ?_;rintro e w' ⟨rfl,rfl⟩));go_ret3;exact⟨rfl,_,H1'.out,HE.out _ _ rfl⟩
   |some x=>
    obtain⟨u,i⟩:=x;obtain⟨m1,m2,m3⟩:up9=(u:Int)∧fld9=(i:Int)∧ok9=true:=HM.out;subst m1 m2 m3;obtain⟨hu,hi,hdn⟩:=HD.out u i rfl;have x4:=HB.out.c4;have x2:=HB.out.c2
    have CDN:Hid (Calls Tryz.prog 50 #[.pointer (some ⟨c.kb,0,none⟩),.int .i64 (u:Int)] w1 fun e w'=>e=.returned (.tuple #[.int .u64 f,.bool (!lowF A c.m f)])∧St w1 w' c A top lst):=Lib.hid (by
     have:=kdown_c H1.out.base u (by omega);rw[hdn]at this;exact this)
    have CHN:Hid (∀wa,St w1 wa c A top lst→_):=Lib.hid (fun wa ha=>zP ha f HF.out);have CGN:Hid (∀w3 wa,St w3 wa c A top lst→_):=Lib.hid (fun w3 wa ha=>zU (w0:=w3) ha (gtF A c.m f 3) (i:Int) (ha.gw _ _) (I64.of (by omega)));have H1':=H1;have HBB:=HB
    have KE:Hid (∀w3 wb,St w1 w3 c A top lst→Fr c.own w3 wb→wb.cell? ⟨gx,2,none⟩=some (.int .i64 (u:Int))∧wb.cell? ⟨gx,3,none⟩=some (.int .i64 (i:Int))∧FnAt wb gx top label u i true):=Lib.hid (fun w3 wb h3 hF=>by
     have:=OW.out _ _ _ _ _ _ _ _ HG.out (OW.out _ _ _ _ _ _ _ _ HG.out HBB.out h3.fr) hF;exact⟨this.c2,this.c3,this⟩)
    clear HM HD hdn HG OW HB H1;go_wp2_with (first|(go_at_call 48;refine(CK.out _).mono ?_;rintro e w' ⟨rfl,rfl⟩)|(go_at_call 50;refine CDN.out.mono ?_;rintro e w2 ⟨rfl,h2⟩));clear x4 x2 k2 CDN HBB;go_wp2_with fail;refine(CHN.out _ h2).mono ?_;rintro e w3 ⟨rfl,h3⟩;have hz:=h3.base;have hzd:=h3.base.drew;obtain⟨z2,z3,_⟩:=KE.out w3 w3 h3 (Fr.refl _ _);have H3:=Lib.hid h3;have CG3:=Lib.hid (CGN.out w3);clear CHN h2 CGN;go_wp2;go_region_held3 (fun w_=>w_.cell? ⟨gx,2,none⟩=some (.int .i64 (u:Int))∧w_.cell? ⟨gx,3,none⟩=some (.int .i64 (i:Int))) (with_reducible first|exact⟨(KE.out _ _ h3 h9.fr).1,(KE.out _ _ h3 h9.fr).2.1⟩|exact⟨(KE.out _ _ h3 (Fr.refl _ _)).1,(KE.out _ _ h3 (Fr.refl _ _)).2.1⟩|exact⟨(KE.out _ _ h3 (Fr.refl _ _).drew).1,(KE.out _ _ h3 (Fr.refl _ _).drew).2.1⟩) (first|(go_at_call 52;refine Calls.mono (CG3.out _ (by first|exact hzd|exact hz)) ?_;rintro e w9 ⟨rfl,h9⟩))
    all_goals
     go_wp2;go_ret3;exact⟨rfl,_,(H1'.out.join H3.out).join h9,HE.out _ _ rfl⟩
  |true=>
   by_cases hl3:label%8=3
   ·have hb3:(label%8==3)=true:=by simpa using hl3
    have kf:=H1.out.kf 3;have H2:Hid (St w0 (w1.setCell ⟨c.kb,3,none⟩ (.pointer (some ⟨gx,0,none⟩))) c A top (.pointer (some ⟨gx,0,none⟩))):=Lib.hid (H1.out.setlast _).1;have HB2:Hid (FnAt (w1.setCell ⟨c.kb,3,none⟩ (.pointer (some ⟨gx,0,none⟩))) gx top label up9 fld9 ok9):=Lib.hid (OW.out _ _ _ _ _ _ _ _ HG.out HB.out ((H1.out.setlast _).2.mono (fun x hx=>by simp at hx;subst hx;unfold Sk.own;simp)));have k3:=H1.out.k3;cases R with
    |none=>
     obtain⟨m1,m2⟩:fld9=0∧ok9=false:=HM.out;subst m1 m2;have x4:=HB2.out.c4;have H1':=H2;clear HM HD HF OW HG HB H1;go_wp2_with (first|(go_at_call 48;refine(CK.out _).mono ?_;rintro e w' ⟨rfl,rfl⟩)|(go_at_call 49;refine(zK _).mono ?_;rintro e w' ⟨rfl,rfl⟩));go_ret3;exact⟨rfl,_,H1'.out,HX.out _ HB2.out⟩
    |some x=>
     obtain⟨u,i⟩:=x;obtain⟨m1,m2,m3⟩:up9=(u:Int)∧fld9=(i:Int)∧ok9=true:=HM.out;subst m1 m2 m3;obtain⟨hu,hi,hdn⟩:=HD.out u i rfl;have x4:=HB2.out.c4;have x2:=HB2.out.c2
     have CDN:Hid (Calls Tryz.prog 50 #[.pointer (some ⟨c.kb,0,none⟩),.int .i64 (u:Int)] (w1.setCell ⟨c.kb,3,none⟩ (.pointer (some ⟨gx,0,none⟩))) fun e w'=>e=.returned (.tuple #[.int .u64 f,.bool (!lowF A c.m f)])∧St (w1.setCell ⟨c.kb,3,none⟩ (.pointer (some ⟨gx,0,none⟩))) w' c A top (.pointer (some ⟨gx,0,none⟩))):=Lib.hid (by
      have:=kdown_c H2.out.base u (by omega);rw[hdn]at this;exact this)
     have CHN:Hid (∀wa,St (w1.setCell ⟨c.kb,3,none⟩ (.pointer (some ⟨gx,0,none⟩))) wa c A top (.pointer (some ⟨gx,0,none⟩))→_):=Lib.hid (fun wa ha=>zP ha f HF.out);have CGN:Hid (∀w3 wa,St w3 wa c A top (.pointer (some ⟨gx,0,none⟩))→_):=Lib.hid (fun w3 wa ha=>zU (w0:=w3) ha (gtF A c.m f 3) (i:Int) (ha.gw _ _) (I64.of (by omega)));have H1':=H2;have HBB:=HB2
     have KE:Hid (∀w3 wb,St (w1.setCell ⟨c.kb,3,none⟩ (.pointer (some ⟨gx,0,none⟩))) w3 c A top (.pointer (some ⟨gx,0,none⟩))→Fr c.own w3 wb→wb.cell? ⟨gx,2,none⟩=some (.int .i64 (u:Int))∧wb.cell? ⟨gx,3,none⟩=some (.int .i64 (i:Int))∧FnAt wb gx top label u i true):=Lib.hid (fun w3 wb h3 hF=>by
      have:=OW.out _ _ _ _ _ _ _ _ HG.out (OW.out _ _ _ _ _ _ _ _ HG.out HBB.out h3.fr) hF;exact⟨this.c2,this.c3,this⟩)
     clear HM HD hdn HG OW HB H1;go_wp2_with (first|(go_at_call 48;refine(CK.out _).mono ?_;rintro e w' ⟨rfl,rfl⟩)|(go_at_call 50;refine CDN.out.mono ?_;rintro e w2 ⟨rfl,h2⟩));clear x4 x2 k2 CDN HBB;go_wp2_with fail;refine(CHN.out _ h2).mono ?_;rintro e w3 ⟨rfl,h3⟩;have hz:=h3.base;have hzd:=h3.base.drew;obtain⟨z2,z3,_⟩:=KE.out w3 w3 h3 (Fr.refl _ _);have H3:=Lib.hid h3;have CG3:=Lib.hid (CGN.out w3);clear CHN h2 CGN;go_wp2;go_region_held3 (fun w_=>w_.cell? ⟨gx,2,none⟩=some (.int .i64 (u:Int))∧w_.cell? ⟨gx,3,none⟩=some (.int .i64 (i:Int))) (with_reducible first|exact⟨(KE.out _ _ h3 h9.fr).1,(KE.out _ _ h3 h9.fr).2.1⟩|exact⟨(KE.out _ _ h3 (Fr.refl _ _)).1,(KE.out _ _ h3 (Fr.refl _ _)).2.1⟩|exact⟨(KE.out _ _ h3 (Fr.refl _ _).drew).1,(KE.out _ _ h3 (Fr.refl _ _).drew).2.1⟩) (first|(go_at_call 52;refine Calls.mono (CG3.out _ (by first|exact hzd|exact hz)) ?_;rintro e w9 ⟨rfl,h9⟩))
     all_goals
      go_wp2;go_ret3;exact⟨rfl,_,(H1'.out.join H3.out).join h9,HX.out _ (KE.out _ _ h3 h9.fr).2.2⟩
   ·have hb3:(label%8==3)=false:=by simpa using hl3
    cases R with
    |none=>
     obtain⟨m1,m2⟩:fld9=0∧ok9=false:=HM.out;subst m1 m2;have x4:=HB.out.c4;have H1':=H1;clear HM HD HF OW HG HB H1;go_wp2_with (first|(go_at_call 48;refine(CK.out _).mono ?_;rintro e w' ⟨rfl,rfl⟩)|(go_at_call 49;refine(zK _).mono ?_;rintro e w' ⟨rfl,rfl⟩));go_ret3;exact⟨rfl,_,H1'.out,HE.out _ _ rfl⟩
    |some x=>
     obtain⟨u,i⟩:=x;obtain⟨m1,m2,m3⟩:up9=(u:Int)∧fld9=(i:Int)∧ok9=true:=HM.out;subst m1 m2 m3;obtain⟨hu,hi,hdn⟩:=HD.out u i rfl;have x4:=HB.out.c4;have x2:=HB.out.c2
     have CDN:Hid (Calls Tryz.prog 50 #[.pointer (some ⟨c.kb,0,none⟩),.int .i64 (u:Int)] w1 fun e w'=>e=.returned (.tuple #[.int .u64 f,.bool (!lowF A c.m f)])∧St w1 w' c A top lst):=Lib.hid (by
      have:=kdown_c H1.out.base u (by omega);rw[hdn]at this;exact this)
     have CHN:Hid (∀wa,St w1 wa c A top lst→_):=Lib.hid (fun wa ha=>zP ha f HF.out);have CGN:Hid (∀w3 wa,St w3 wa c A top lst→_):=Lib.hid (fun w3 wa ha=>zU (w0:=w3) ha (gtF A c.m f 3) (i:Int) (ha.gw _ _) (I64.of (by omega)));have H1':=H1;have HBB:=HB
     have KE:Hid (∀w3 wb,St w1 w3 c A top lst→Fr c.own w3 wb→wb.cell? ⟨gx,2,none⟩=some (.int .i64 (u:Int))∧wb.cell? ⟨gx,3,none⟩=some (.int .i64 (i:Int))∧FnAt wb gx top label u i true):=Lib.hid (fun w3 wb h3 hF=>by
      have:=OW.out _ _ _ _ _ _ _ _ HG.out (OW.out _ _ _ _ _ _ _ _ HG.out HBB.out h3.fr) hF;exact⟨this.c2,this.c3,this⟩)
     clear HM HD hdn HG OW HB H1;go_wp2_with (first|(go_at_call 48;refine(CK.out _).mono ?_;rintro e w' ⟨rfl,rfl⟩)|(go_at_call 50;refine CDN.out.mono ?_;rintro e w2 ⟨rfl,h2⟩));clear x4 x2 k2 CDN HBB;go_wp2_with fail;refine(CHN.out _ h2).mono ?_;rintro e w3 ⟨rfl,h3⟩;have hz:=h3.base;have hzd:=h3.base.drew;obtain⟨z2,z3,_⟩:=KE.out w3 w3 h3 (Fr.refl _ _);have H3:=Lib.hid h3;have CG3:=Lib.hid (CGN.out w3);clear CHN h2 CGN;go_wp2;go_region_held3 (fun w_=>w_.cell? ⟨gx,2,none⟩=some (.int .i64 (u:Int))∧w_.cell? ⟨gx,3,none⟩=some (.int .i64 (i:Int))) (with_reducible first|exact⟨(KE.out _ _ h3 h9.fr).1,(KE.out _ _ h3 h9.fr).2.1⟩|exact⟨(KE.out _ _ h3 (Fr.refl _ _)).1,(KE.out _ _ h3 (Fr.refl _ _)).2.1⟩|exact⟨(KE.out _ _ h3 (Fr.refl _ _).drew).1,(KE.out _ _ h3 (Fr.refl _ _).drew).2.1⟩) (first|(go_at_call 52;refine Calls.mono (CG3.out _ (by first|exact hzd|exact hz)) ?_;rintro e w9 ⟨rfl,h9⟩))
     all_goals
      go_wp2;go_ret3;exact⟨rfl,_,(H1'.out.join H3.out).join h9,HE.out _ _ rfl⟩
 ·have CT:Hid (∀n,Calls Tryz.prog 46 #[.pointer (some ⟨c.kb,0,none⟩)] (w.drewN n) fun e w'=>e=.returned (.int .u64 top)∧w.drewN n=w'):=Lib.hid (fun n=>zh (h.drewN n));have y0:w.cell? ⟨g,0,none⟩=some (.int .u64 f0):=zA hB0 rfl;have y1:w.cell? ⟨g,1,none⟩=some (.int .u64 lab):=zA hB0 rfl;by_cases e0:f0=top
  ·by_cases e1:lab=label
   ·have b0:(f0 !=top)=false:=by simp[e0]
    have b1:(lab !=label)=false:=by simp[e1]
    have HM:=Lib.hid (hM0 e1);subst e0 e1;have HB0:=Lib.hid hB0;have HG:=Lib.hid hga0;clear hB0 hga0 hM0 hlb0 hf0 CS;go_enter Tryz.func9,Tryz.ntmps9;go_wp2
    go_quiet ((go_at_call 46;exact Calls.quiet_of_same ((CT.out _).mono fun e w' h=>⟨h.1,h.2.symm⟩)))
    have H1:=Lib.hid (h.drewN nq);have HB:=Lib.hid (OW.out _ _ _ _ _ _ _ _ HG.out HB0.out ((Fr.refl c.own w).drewN nq));obtain⟨lst,hlst⟩: ∃lst,lst=Value.pointer (some ⟨g,0,none⟩):=⟨_,rfl⟩;have HE:Hid (∀wb last',last'=lst→FEnd w wb c lab R (.pointer (some ⟨g,0,none⟩)) last'):=Lib.hid (fun wb last' hl=> .inl (hl.trans hlst));have HX:Hid (∀wb,FnAt wb g f0 lab up0 fld0 ok0→FEnd w wb c lab R (.pointer (some ⟨g,0,none⟩)) (.pointer (some ⟨g,0,none⟩))):=Lib.hid (fun wb _=> .inl rfl);have k2:(w.drewN nq).cell? ⟨c.kb,2,none⟩=some (.bool c.rem):=H1.out.k2;rw[←hlst]at H1;obtain⟨w1,hw1⟩: ∃w1,w1=w.drewN nq:=⟨_,rfl⟩;rw[←hw1]at H1 HB k2⊢;clear hlst hw1 h HB0 CT y0 y1 tw k3;obtain⟨rem,hrem⟩: ∃rem,rem=c.rem:=⟨_,rfl⟩;rw[←hrem]at k2;clear hrem;cases rem with
    |false=>
     cases R with
     |none=>
      obtain⟨m1,m2⟩:fld0=0∧ok0=false:=HM.out;subst m1 m2;have x4:=HB.out.c4;have H1':=H1;clear HM HD HF OW HG HB H1;go_wp2_with (first|(go_at_call 48;refine(CK.out _).mono ?_;rintro e w' ⟨rfl,rfl⟩)|(go_at_call 49;refine(zK _).mono ?_;rintro e w' ⟨rfl,rfl⟩));go_ret3;exact⟨rfl,_,H1'.out,HE.out _ _ rfl⟩
     |some x=>
      obtain⟨u,i⟩:=x;obtain⟨m1,m2,m3⟩:up0=(u:Int)∧fld0=(i:Int)∧ok0=true:=HM.out;subst m1 m2 m3;obtain⟨hu,hi,hdn⟩:=HD.out u i rfl;have x4:=HB.out.c4;have x2:=HB.out.c2
      have CDN:Hid (Calls Tryz.prog 50 #[.pointer (some ⟨c.kb,0,none⟩),.int .i64 (u:Int)] w1 fun e w'=>e=.returned (.tuple #[.int .u64 f,.bool (!lowF A c.m f)])∧St w1 w' c A f0 lst):=Lib.hid (by
       have:=kdown_c H1.out.base u (by omega);rw[hdn]at this;exact this)
      have CHN:Hid (∀wa,St w1 wa c A f0 lst→_):=Lib.hid (fun wa ha=>zP ha f HF.out);have CGN:Hid (∀w3 wa,St w3 wa c A f0 lst→_):=Lib.hid (fun w3 wa ha=>zU (w0:=w3) ha (gtF A c.m f 3) (i:Int) (ha.gw _ _) (I64.of (by omega)));have H1':=H1;have HBB:=HB
      have KE:Hid (∀w3 wb,St w1 w3 c A f0 lst→Fr c.own w3 wb→wb.cell? ⟨g,2,none⟩=some (.int .i64 (u:Int))∧wb.cell? ⟨g,3,none⟩=some (.int .i64 (i:Int))∧FnAt wb g f0 lab u i true):=Lib.hid (fun w3 wb h3 hF=>by
       have:=OW.out _ _ _ _ _ _ _ _ HG.out (OW.out _ _ _ _ _ _ _ _ HG.out HBB.out h3.fr) hF;exact⟨this.c2,this.c3,this⟩)
      clear HM HD hdn HG OW HB H1;go_wp2_with (first|(go_at_call 48;refine(CK.out _).mono ?_;rintro e w' ⟨rfl,rfl⟩)|(go_at_call 50;refine CDN.out.mono ?_;rintro e w2 ⟨rfl,h2⟩));clear x4 x2 k2 CDN HBB;go_wp2_with fail;refine(CHN.out _ h2).mono ?_;rintro e w3 ⟨rfl,h3⟩;have hz:=h3.base;have hzd:=h3.base.drew;obtain⟨z2,z3,_⟩:=KE.out w3 w3 h3 (Fr.refl _ _);have H3:=Lib.hid h3;have CG3:=Lib.hid (CGN.out w3);clear CHN h2 CGN;go_wp2;go_region_held3 (fun w_=>w_.cell? ⟨g,2,none⟩=some (.int .i64 (u:Int))∧w_.cell? ⟨g,3,none⟩=some (.int .i64 (i:Int))) (with_reducible first|exact⟨(KE.out _ _ h3 h9.fr).1,(KE.out _ _ h3 h9.fr).2.1⟩|exact⟨(KE.out _ _ h3 (Fr.refl _ _)).1,(KE.out _ _ h3 (Fr.refl _ _)).2.1⟩|exact⟨(KE.out _ _ h3 (Fr.refl _ _).drew).1,(KE.out _ _ h3 (Fr.refl _ _).drew).2.1⟩) (first|(go_at_call 52;refine Calls.mono (CG3.out _ (by first|exact hzd|exact hz)) ?_;rintro e w9 ⟨rfl,h9⟩))
      all_goals
       go_wp2;go_ret3;exact⟨rfl,_,(H1'.out.join H3.out).join h9,HE.out _ _ rfl⟩
    |true=>
     by_cases hl3:lab%8=3
     ·have hb3:(lab%8==3)=true:=by simpa using hl3
      have kf:=H1.out.kf 3;have H2:Hid (St w0 (w1.setCell ⟨c.kb,3,none⟩ (.pointer (some ⟨g,0,none⟩))) c A f0 (.pointer (some ⟨g,0,none⟩))):=Lib.hid (H1.out.setlast _).1;have HB2:Hid (FnAt (w1.setCell ⟨c.kb,3,none⟩ (.pointer (some ⟨g,0,none⟩))) g f0 lab up0 fld0 ok0):=Lib.hid (OW.out _ _ _ _ _ _ _ _ HG.out HB.out ((H1.out.setlast _).2.mono (fun x hx=>by simp at hx;subst hx;unfold Sk.own;simp)));have k3:=H1.out.k3;cases R with
      |none=>
       obtain⟨m1,m2⟩:fld0=0∧ok0=false:=HM.out;subst m1 m2;have x4:=HB2.out.c4;have H1':=H2;clear HM HD HF OW HG HB H1;go_wp2_with (first|(go_at_call 48;refine(CK.out _).mono ?_;rintro e w' ⟨rfl,rfl⟩)|(go_at_call 49;refine(zK _).mono ?_;rintro e w' ⟨rfl,rfl⟩));go_ret3;exact⟨rfl,_,H1'.out,HX.out _ HB2.out⟩
      |some x=>
       obtain⟨u,i⟩:=x;obtain⟨m1,m2,m3⟩:up0=(u:Int)∧fld0=(i:Int)∧ok0=true:=HM.out;subst m1 m2 m3;obtain⟨hu,hi,hdn⟩:=HD.out u i rfl;have x4:=HB2.out.c4;have x2:=HB2.out.c2
       have CDN:Hid (Calls Tryz.prog 50 #[.pointer (some ⟨c.kb,0,none⟩),.int .i64 (u:Int)] (w1.setCell ⟨c.kb,3,none⟩ (.pointer (some ⟨g,0,none⟩))) fun e w'=>e=.returned (.tuple #[.int .u64 f,.bool (!lowF A c.m f)])∧St (w1.setCell ⟨c.kb,3,none⟩ (.pointer (some ⟨g,0,none⟩))) w' c A f0 (.pointer (some ⟨g,0,none⟩))):=Lib.hid (by
        have:=kdown_c H2.out.base u (by omega);rw[hdn]at this;exact this)
       have CHN:Hid (∀wa,St (w1.setCell ⟨c.kb,3,none⟩ (.pointer (some ⟨g,0,none⟩))) wa c A f0 (.pointer (some ⟨g,0,none⟩))→_):=Lib.hid (fun wa ha=>zP ha f HF.out);have CGN:Hid (∀w3 wa,St w3 wa c A f0 (.pointer (some ⟨g,0,none⟩))→_):=Lib.hid (fun w3 wa ha=>zU (w0:=w3) ha (gtF A c.m f 3) (i:Int) (ha.gw _ _) (I64.of (by omega)));have H1':=H2;have HBB:=HB2
       have KE:Hid (∀w3 wb,St (w1.setCell ⟨c.kb,3,none⟩ (.pointer (some ⟨g,0,none⟩))) w3 c A f0 (.pointer (some ⟨g,0,none⟩))→Fr c.own w3 wb→wb.cell? ⟨g,2,none⟩=some (.int .i64 (u:Int))∧wb.cell? ⟨g,3,none⟩=some (.int .i64 (i:Int))∧FnAt wb g f0 lab u i true):=Lib.hid (fun w3 wb h3 hF=>by
        have:=OW.out _ _ _ _ _ _ _ _ HG.out (OW.out _ _ _ _ _ _ _ _ HG.out HBB.out h3.fr) hF;exact⟨this.c2,this.c3,this⟩)
       clear HM HD hdn HG OW HB H1;go_wp2_with (first|(go_at_call 48;refine(CK.out _).mono ?_;rintro e w' ⟨rfl,rfl⟩)|(go_at_call 50;refine CDN.out.mono ?_;rintro e w2 ⟨rfl,h2⟩));clear x4 x2 k2 CDN HBB;go_wp2_with fail;refine(CHN.out _ h2).mono ?_;rintro e w3 ⟨rfl,h3⟩;have hz:=h3.base;have hzd:=h3.base.drew;obtain⟨z2,z3,_⟩:=KE.out w3 w3 h3 (Fr.refl _ _);have H3:=Lib.hid h3;have CG3:=Lib.hid (CGN.out w3);clear CHN h2 CGN;go_wp2;go_region_held3 (fun w_=>w_.cell? ⟨g,2,none⟩=some (.int .i64 (u:Int))∧w_.cell? ⟨g,3,none⟩=some (.int .i64 (i:Int))) (with_reducible first|exact⟨(KE.out _ _ h3 h9.fr).1,(KE.out _ _ h3 h9.fr).2.1⟩|exact⟨(KE.out _ _ h3 (Fr.refl _ _)).1,(KE.out _ _ h3 (Fr.refl _ _)).2.1⟩|exact⟨(KE.out _ _ h3 (Fr.refl _ _).drew).1,(KE.out _ _ h3 (Fr.refl _ _).drew).2.1⟩) (first|(go_at_call 52;refine Calls.mono (CG3.out _ (by first|exact hzd|exact hz)) ?_;rintro e w9 ⟨rfl,h9⟩))
       all_goals
        go_wp2;go_ret3;exact⟨rfl,_,(H1'.out.join H3.out).join h9,HX.out _ (KE.out _ _ h3 h9.fr).2.2⟩
     ·have hb3:(lab%8==3)=false:=by simpa using hl3
      cases R with
      |none=>
       obtain⟨m1,m2⟩:fld0=0∧ok0=false:=HM.out;subst m1 m2;have x4:=HB.out.c4;have H1':=H1;clear HM HD HF OW HG HB H1;go_wp2_with (first|(go_at_call 48;refine(CK.out _).mono ?_;rintro e w' ⟨rfl,rfl⟩)|(go_at_call 49;refine(zK _).mono ?_;rintro e w' ⟨rfl,rfl⟩));go_ret3;exact⟨rfl,_,H1'.out,HE.out _ _ rfl⟩
      |some x=>
       obtain⟨u,i⟩:=x;obtain⟨m1,m2,m3⟩:up0=(u:Int)∧fld0=(i:Int)∧ok0=true:=HM.out;subst m1 m2 m3;obtain⟨hu,hi,hdn⟩:=HD.out u i rfl;have x4:=HB.out.c4;have x2:=HB.out.c2
       have CDN:Hid (Calls Tryz.prog 50 #[.pointer (some ⟨c.kb,0,none⟩),.int .i64 (u:Int)] w1 fun e w'=>e=.returned (.tuple #[.int .u64 f,.bool (!lowF A c.m f)])∧St w1 w' c A f0 lst):=Lib.hid (by
        have:=kdown_c H1.out.base u (by omega);rw[hdn]at this;exact this)
       have CHN:Hid (∀wa,St w1 wa c A f0 lst→_):=Lib.hid (fun wa ha=>zP ha f HF.out);have CGN:Hid (∀w3 wa,St w3 wa c A f0 lst→_):=Lib.hid (fun w3 wa ha=>zU (w0:=w3) ha (gtF A c.m f 3) (i:Int) (ha.gw _ _) (I64.of (by omega)));have H1':=H1;have HBB:=HB
       have KE:Hid (∀w3 wb,St w1 w3 c A f0 lst→Fr c.own w3 wb→wb.cell? ⟨g,2,none⟩=some (.int .i64 (u:Int))∧wb.cell? ⟨g,3,none⟩=some (.int .i64 (i:Int))∧FnAt wb g f0 lab u i true):=Lib.hid (fun w3 wb h3 hF=>by
        have:=OW.out _ _ _ _ _ _ _ _ HG.out (OW.out _ _ _ _ _ _ _ _ HG.out HBB.out h3.fr) hF;exact⟨this.c2,this.c3,this⟩)
       clear HM HD hdn HG OW HB H1;go_wp2_with (first|(go_at_call 48;refine(CK.out _).mono ?_;rintro e w' ⟨rfl,rfl⟩)|(go_at_call 50;refine CDN.out.mono ?_;rintro e w2 ⟨rfl,h2⟩));clear x4 x2 k2 CDN HBB;go_wp2_with fail;refine(CHN.out _ h2).mono ?_;rintro e w3 ⟨rfl,h3⟩;have hz:=h3.base;have hzd:=h3.base.drew;obtain⟨z2,z3,_⟩:=KE.out w3 w3 h3 (Fr.refl _ _);have H3:=Lib.hid h3;have CG3:=Lib.hid (CGN.out w3);clear CHN h2 CGN;go_wp2;go_region_held3 (fun w_=>w_.cell? ⟨g,2,none⟩=some (.int .i64 (u:Int))∧w_.cell? ⟨g,3,none⟩=some (.int .i64 (i:Int))) (with_reducible first|exact⟨(KE.out _ _ h3 h9.fr).1,(KE.out _ _ h3 h9.fr).2.1⟩|exact⟨(KE.out _ _ h3 (Fr.refl _ _)).1,(KE.out _ _ h3 (Fr.refl _ _)).2.1⟩|exact⟨(KE.out _ _ h3 (Fr.refl _ _).drew).1,(KE.out _ _ h3 (Fr.refl _ _).drew).2.1⟩) (first|(go_at_call 52;refine Calls.mono (CG3.out _ (by first|exact hzd|exact hz)) ?_;rintro e w9 ⟨rfl,h9⟩))
       all_goals
        go_wp2;go_ret3;exact⟨rfl,_,(H1'.out.join H3.out).join h9,HE.out _ _ rfl⟩
   ·have b0:(f0 !=top)=false:=by simp[e0]
    have b1:(lab !=label)=true:=by simpa using e1
    subst e0;clear hB0 hga0 hM0 hlb0 hf0;go_enter Tryz.func9,Tryz.ntmps9;go_wp2
    go_quiet ((go_at_call 46;exact Calls.quiet_of_same ((CT.out _).mono fun e w' h=>⟨h.1,h.2.symm⟩)))
    have hq:=h.drewN nq;have hga:Hid (w.heap.size∉c.all):=Lib.hid (fun hx=>by have:=h.all_lt _ hx;omega);clear y0 y1 b0 b1 CT;go_wp2_with fail;refine(CS.out _ hq).mono ?_;rintro e w1 ⟨rfl,h1,hm⟩;simp only[show(w.drewN nq).heap.size=w.heap.size from rfl]at hm
    obtain⟨up9,fld9,ok9,hB,hM⟩: ∃up fld ok,FnAt w1 w.heap.size f0 label up fld ok∧SrM R up fld ok:=by
     cases R with
     |none=>obtain⟨up,hB⟩:=hm;exact⟨up,0,false,hB,rfl,rfl⟩
     |some x=>obtain⟨u,i⟩:=x;exact⟨u,i,true,hm,rfl,rfl,rfl⟩
    have H1:=Lib.hid h1;have HB:=Lib.hid hB;have HM:=Lib.hid hM;have k2:=h1.k2;obtain⟨lst,hlst⟩: ∃lst,lst=(Value.pointer (some ⟨g,0,none⟩)):=⟨_,rfl⟩;have HE:Hid (∀wb last',last'=lst→FEnd w wb c label R (Value.pointer (some ⟨g,0,none⟩)) last'):=Lib.hid (fun wb last' hl=> .inl (hl.trans hlst));have HX:Hid (∀wb,FnAt wb w.heap.size f0 label up9 fld9 ok9→FEnd w wb c label R (Value.pointer (some ⟨g,0,none⟩)) (.pointer (some ⟨w.heap.size,0,none⟩))):=Lib.hid (fun wb hb=> .inr ⟨_,_,_,_,_,rfl,hb,hga.out,Nat.le_refl _,tw,hM⟩);rw[←hlst]at H1;have HG:=hga;obtain⟨gx,hgx⟩: ∃gx,gx=w.heap.size:=⟨_,rfl⟩;rw[←hgx]at HB HG HX;rw[show(w.drewN nq).heap.size=gx from hgx.symm];clear hlst hgx hB hM hm h1 hq CS k3 tw h hga;obtain⟨rem,hrem⟩: ∃rem,rem=c.rem:=⟨_,rfl⟩;rw[←hrem]at k2;clear hrem;cases rem with
    |false=>
     cases R with
     |none=>
      obtain⟨m1,m2⟩:fld9=0∧ok9=false:=HM.out;subst m1 m2;have x4:=HB.out.c4;have H1':=H1;clear HM HD HF OW HG HB H1;go_wp2_with (first|(go_at_call 48;refine(CK.out _).mono ?_;rintro e w' ⟨rfl,rfl⟩)|(go_at_call 49;refine(zK _).mono ?_;rintro e w' ⟨rfl,rfl⟩));go_ret3;exact⟨rfl,_,H1'.out,HE.out _ _ rfl⟩
     |some x=>
      obtain⟨u,i⟩:=x;obtain⟨m1,m2,m3⟩:up9=(u:Int)∧fld9=(i:Int)∧ok9=true:=HM.out;subst m1 m2 m3;obtain⟨hu,hi,hdn⟩:=HD.out u i rfl;have x4:=HB.out.c4;have x2:=HB.out.c2
      have CDN:Hid (Calls Tryz.prog 50 #[.pointer (some ⟨c.kb,0,none⟩),.int .i64 (u:Int)] w1 fun e w'=>e=.returned (.tuple #[.int .u64 f,.bool (!lowF A c.m f)])∧St w1 w' c A f0 lst):=Lib.hid (by
       have:=kdown_c H1.out.base u (by omega);rw[hdn]at this;exact this)
      have CHN:Hid (∀wa,St w1 wa c A f0 lst→_):=Lib.hid (fun wa ha=>zP ha f HF.out);have CGN:Hid (∀w3 wa,St w3 wa c A f0 lst→_):=Lib.hid (fun w3 wa ha=>zU (w0:=w3) ha (gtF A c.m f 3) (i:Int) (ha.gw _ _) (I64.of (by omega)));have H1':=H1;have HBB:=HB
      have KE:Hid (∀w3 wb,St w1 w3 c A f0 lst→Fr c.own w3 wb→wb.cell? ⟨gx,2,none⟩=some (.int .i64 (u:Int))∧wb.cell? ⟨gx,3,none⟩=some (.int .i64 (i:Int))∧FnAt wb gx f0 label u i true):=Lib.hid (fun w3 wb h3 hF=>by
       have:=OW.out _ _ _ _ _ _ _ _ HG.out (OW.out _ _ _ _ _ _ _ _ HG.out HBB.out h3.fr) hF;exact⟨this.c2,this.c3,this⟩)
      clear HM HD hdn HG OW HB H1;go_wp2_with (first|(go_at_call 48;refine(CK.out _).mono ?_;rintro e w' ⟨rfl,rfl⟩)|(go_at_call 50;refine CDN.out.mono ?_;rintro e w2 ⟨rfl,h2⟩));clear x4 x2 k2 CDN HBB;go_wp2_with fail;refine(CHN.out _ h2).mono ?_;rintro e w3 ⟨rfl,h3⟩;have hz:=h3.base;have hzd:=h3.base.drew;obtain⟨z2,z3,_⟩:=KE.out w3 w3 h3 (Fr.refl _ _);have H3:=Lib.hid h3;have CG3:=Lib.hid (CGN.out w3);clear CHN h2 CGN;go_wp2;go_region_held3 (fun w_=>w_.cell? ⟨gx,2,none⟩=some (.int .i64 (u:Int))∧w_.cell? ⟨gx,3,none⟩=some (.int .i64 (i:Int))) (with_reducible first|exact⟨(KE.out _ _ h3 h9.fr).1,(KE.out _ _ h3 h9.fr).2.1⟩|exact⟨(KE.out _ _ h3 (Fr.refl _ _)).1,(KE.out _ _ h3 (Fr.refl _ _)).2.1⟩|exact⟨(KE.out _ _ h3 (Fr.refl _ _).drew).1,(KE.out _ _ h3 (Fr.refl _ _).drew).2.1⟩) (first|(go_at_call 52;refine Calls.mono (CG3.out _ (by first|exact hzd|exact hz)) ?_;rintro e w9 ⟨rfl,h9⟩))
      all_goals
       go_wp2;go_ret3;exact⟨rfl,_,(H1'.out.join H3.out).join h9,HE.out _ _ rfl⟩
    |true=>
     by_cases hl3:label%8=3
     ·have hb3:(label%8==3)=true:=by simpa using hl3
      have kf:=H1.out.kf 3;have H2:Hid (St w0 (w1.setCell ⟨c.kb,3,none⟩ (.pointer (some ⟨gx,0,none⟩))) c A f0 (.pointer (some ⟨gx,0,none⟩))):=Lib.hid (H1.out.setlast _).1;have HB2:Hid (FnAt (w1.setCell ⟨c.kb,3,none⟩ (.pointer (some ⟨gx,0,none⟩))) gx f0 label up9 fld9 ok9):=Lib.hid (OW.out _ _ _ _ _ _ _ _ HG.out HB.out ((H1.out.setlast _).2.mono (fun x hx=>by simp at hx;subst hx;unfold Sk.own;simp)));have k3:=H1.out.k3;cases R with
      |none=>
       obtain⟨m1,m2⟩:fld9=0∧ok9=false:=HM.out;subst m1 m2;have x4:=HB2.out.c4;have H1':=H2;clear HM HD HF OW HG HB H1;go_wp2_with (first|(go_at_call 48;refine(CK.out _).mono ?_;rintro e w' ⟨rfl,rfl⟩)|(go_at_call 49;refine(zK _).mono ?_;rintro e w' ⟨rfl,rfl⟩));go_ret3;exact⟨rfl,_,H1'.out,HX.out _ HB2.out⟩
      |some x=>
       obtain⟨u,i⟩:=x;obtain⟨m1,m2,m3⟩:up9=(u:Int)∧fld9=(i:Int)∧ok9=true:=HM.out;subst m1 m2 m3;obtain⟨hu,hi,hdn⟩:=HD.out u i rfl;have x4:=HB2.out.c4;have x2:=HB2.out.c2
       have CDN:Hid (Calls Tryz.prog 50 #[.pointer (some ⟨c.kb,0,none⟩),.int .i64 (u:Int)] (w1.setCell ⟨c.kb,3,none⟩ (.pointer (some ⟨gx,0,none⟩))) fun e w'=>e=.returned (.tuple #[.int .u64 f,.bool (!lowF A c.m f)])∧St (w1.setCell ⟨c.kb,3,none⟩ (.pointer (some ⟨gx,0,none⟩))) w' c A f0 (.pointer (some ⟨gx,0,none⟩))):=Lib.hid (by
        have:=kdown_c H2.out.base u (by omega);rw[hdn]at this;exact this)
       have CHN:Hid (∀wa,St (w1.setCell ⟨c.kb,3,none⟩ (.pointer (some ⟨gx,0,none⟩))) wa c A f0 (.pointer (some ⟨gx,0,none⟩))→_):=Lib.hid (fun wa ha=>zP ha f HF.out);have CGN:Hid (∀w3 wa,St w3 wa c A f0 (.pointer (some ⟨gx,0,none⟩))→_):=Lib.hid (fun w3 wa ha=>zU (w0:=w3) ha (gtF A c.m f 3) (i:Int) (ha.gw _ _) (I64.of (by omega)));have H1':=H2;have HBB:=HB2
       have KE:Hid (∀w3 wb,St (w1.setCell ⟨c.kb,3,none⟩ (.pointer (some ⟨gx,0,none⟩))) w3 c A f0 (.pointer (some ⟨gx,0,none⟩))→Fr c.own w3 wb→wb.cell? ⟨gx,2,none⟩=some (.int .i64 (u:Int))∧wb.cell? ⟨gx,3,none⟩=some (.int .i64 (i:Int))∧FnAt wb gx f0 label u i true):=Lib.hid (fun w3 wb h3 hF=>by
        have:=OW.out _ _ _ _ _ _ _ _ HG.out (OW.out _ _ _ _ _ _ _ _ HG.out HBB.out h3.fr) hF;exact⟨this.c2,this.c3,this⟩)
       clear HM HD hdn HG OW HB H1;go_wp2_with (first|(go_at_call 48;refine(CK.out _).mono ?_;rintro e w' ⟨rfl,rfl⟩)|(go_at_call 50;refine CDN.out.mono ?_;rintro e w2 ⟨rfl,h2⟩));clear x4 x2 k2 CDN HBB;go_wp2_with fail;refine(CHN.out _ h2).mono ?_;rintro e w3 ⟨rfl,h3⟩;have hz:=h3.base;have hzd:=h3.base.drew;obtain⟨z2,z3,_⟩:=KE.out w3 w3 h3 (Fr.refl _ _);have H3:=Lib.hid h3;have CG3:=Lib.hid (CGN.out w3);clear CHN h2 CGN;go_wp2;go_region_held3 (fun w_=>w_.cell? ⟨gx,2,none⟩=some (.int .i64 (u:Int))∧w_.cell? ⟨gx,3,none⟩=some (.int .i64 (i:Int))) (with_reducible first|exact⟨(KE.out _ _ h3 h9.fr).1,(KE.out _ _ h3 h9.fr).2.1⟩|exact⟨(KE.out _ _ h3 (Fr.refl _ _)).1,(KE.out _ _ h3 (Fr.refl _ _)).2.1⟩|exact⟨(KE.out _ _ h3 (Fr.refl _ _).drew).1,(KE.out _ _ h3 (Fr.refl _ _).drew).2.1⟩) (first|(go_at_call 52;refine Calls.mono (CG3.out _ (by first|exact hzd|exact hz)) ?_;rintro e w9 ⟨rfl,h9⟩))
       all_goals
        go_wp2;go_ret3;exact⟨rfl,_,(H1'.out.join H3.out).join h9,HX.out _ (KE.out _ _ h3 h9.fr).2.2⟩
     ·have hb3:(label%8==3)=false:=by simpa using hl3
      cases R with
      |none=>
       obtain⟨m1,m2⟩:fld9=0∧ok9=false:=HM.out;subst m1 m2;have x4:=HB.out.c4;have H1':=H1;clear HM HD HF OW HG HB H1;go_wp2_with (first|(go_at_call 48;refine(CK.out _).mono ?_;rintro e w' ⟨rfl,rfl⟩)|(go_at_call 49;refine(zK _).mono ?_;rintro e w' ⟨rfl,rfl⟩));go_ret3;exact⟨rfl,_,H1'.out,HE.out _ _ rfl⟩
      |some x=>
       obtain⟨u,i⟩:=x;obtain⟨m1,m2,m3⟩:up9=(u:Int)∧fld9=(i:Int)∧ok9=true:=HM.out;subst m1 m2 m3;obtain⟨hu,hi,hdn⟩:=HD.out u i rfl;have x4:=HB.out.c4;have x2:=HB.out.c2
       have CDN:Hid (Calls Tryz.prog 50 #[.pointer (some ⟨c.kb,0,none⟩),.int .i64 (u:Int)] w1 fun e w'=>e=.returned (.tuple #[.int .u64 f,.bool (!lowF A c.m f)])∧St w1 w' c A f0 lst):=Lib.hid (by
        have:=kdown_c H1.out.base u (by omega);rw[hdn]at this;exact this)
       have CHN:Hid (∀wa,St w1 wa c A f0 lst→_):=Lib.hid (fun wa ha=>zP ha f HF.out);have CGN:Hid (∀w3 wa,St w3 wa c A f0 lst→_):=Lib.hid (fun w3 wa ha=>zU (w0:=w3) ha (gtF A c.m f 3) (i:Int) (ha.gw _ _) (I64.of (by omega)));have H1':=H1;have HBB:=HB
       have KE:Hid (∀w3 wb,St w1 w3 c A f0 lst→Fr c.own w3 wb→wb.cell? ⟨gx,2,none⟩=some (.int .i64 (u:Int))∧wb.cell? ⟨gx,3,none⟩=some (.int .i64 (i:Int))∧FnAt wb gx f0 label u i true):=Lib.hid (fun w3 wb h3 hF=>by
        have:=OW.out _ _ _ _ _ _ _ _ HG.out (OW.out _ _ _ _ _ _ _ _ HG.out HBB.out h3.fr) hF;exact⟨this.c2,this.c3,this⟩)
       clear HM HD hdn HG OW HB H1;go_wp2_with (first|(go_at_call 48;refine(CK.out _).mono ?_;rintro e w' ⟨rfl,rfl⟩)|(go_at_call 50;refine CDN.out.mono ?_;rintro e w2 ⟨rfl,h2⟩));clear x4 x2 k2 CDN HBB;go_wp2_with fail;refine(CHN.out _ h2).mono ?_;rintro e w3 ⟨rfl,h3⟩;have hz:=h3.base;have hzd:=h3.base.drew;obtain⟨z2,z3,_⟩:=KE.out w3 w3 h3 (Fr.refl _ _);have H3:=Lib.hid h3;have CG3:=Lib.hid (CGN.out w3);clear CHN h2 CGN;go_wp2;go_region_held3 (fun w_=>w_.cell? ⟨gx,2,none⟩=some (.int .i64 (u:Int))∧w_.cell? ⟨gx,3,none⟩=some (.int .i64 (i:Int))) (with_reducible first|exact⟨(KE.out _ _ h3 h9.fr).1,(KE.out _ _ h3 h9.fr).2.1⟩|exact⟨(KE.out _ _ h3 (Fr.refl _ _)).1,(KE.out _ _ h3 (Fr.refl _ _)).2.1⟩|exact⟨(KE.out _ _ h3 (Fr.refl _ _).drew).1,(KE.out _ _ h3 (Fr.refl _ _).drew).2.1⟩) (first|(go_at_call 52;refine Calls.mono (CG3.out _ (by first|exact hzd|exact hz)) ?_;rintro e w9 ⟨rfl,h9⟩))
       all_goals
        go_wp2;go_ret3;exact⟨rfl,_,(H1'.out.join H3.out).join h9,HE.out _ _ rfl⟩
  ·have b0:(f0 !=top)=true:=by simpa using e0
   clear hB0 hga0 hM0 hlb0 hf0;go_enter Tryz.func9,Tryz.ntmps9;go_wp2
   go_quiet ((go_at_call 46;exact Calls.quiet_of_same ((CT.out _).mono fun e w' h=>⟨h.1,h.2.symm⟩)))
   have hq:=h.drewN nq;have hga:Hid (w.heap.size∉c.all):=Lib.hid (fun hx=>by have:=h.all_lt _ hx;omega);clear y0 y1 b0 CT e0;go_wp2_with fail;refine(CS.out _ hq).mono ?_;rintro e w1 ⟨rfl,h1,hm⟩;simp only[show(w.drewN nq).heap.size=w.heap.size from rfl]at hm
   obtain⟨up9,fld9,ok9,hB,hM⟩: ∃up fld ok,FnAt w1 w.heap.size top label up fld ok∧SrM R up fld ok:=by
    cases R with
    |none=>obtain⟨up,hB⟩:=hm;exact⟨up,0,false,hB,rfl,rfl⟩
    |some x=>obtain⟨u,i⟩:=x;exact⟨u,i,true,hm,rfl,rfl,rfl⟩
   have H1:=Lib.hid h1;have HB:=Lib.hid hB;have HM:=Lib.hid hM;have k2:=h1.k2;obtain⟨lst,hlst⟩: ∃lst,lst=(Value.pointer (some ⟨g,0,none⟩)):=⟨_,rfl⟩;have HE:Hid (∀wb last',last'=lst→FEnd w wb c label R (Value.pointer (some ⟨g,0,none⟩)) last'):=Lib.hid (fun wb last' hl=> .inl (hl.trans hlst));have HX:Hid (∀wb,FnAt wb w.heap.size top label up9 fld9 ok9→FEnd w wb c label R (Value.pointer (some ⟨g,0,none⟩)) (.pointer (some ⟨w.heap.size,0,none⟩))):=Lib.hid (fun wb hb=> .inr ⟨_,_,_,_,_,rfl,hb,hga.out,Nat.le_refl _,tw,hM⟩);rw[←hlst]at H1;have HG:=hga;obtain⟨gx,hgx⟩: ∃gx,gx=w.heap.size:=⟨_,rfl⟩;rw[←hgx]at HB HG HX;rw[show(w.drewN nq).heap.size=gx from hgx.symm];clear hlst hgx hB hM hm h1 hq CS k3 tw h hga;obtain⟨rem,hrem⟩: ∃rem,rem=c.rem:=⟨_,rfl⟩;rw[←hrem]at k2;clear hrem;cases rem with
   |false=>
    cases R with
    |none=>
     obtain⟨m1,m2⟩:fld9=0∧ok9=false:=HM.out;subst m1 m2;have x4:=HB.out.c4;have H1':=H1;clear HM HD HF OW HG HB H1;go_wp2_with (first|(go_at_call 48;refine(CK.out _).mono ?_;rintro e w' ⟨rfl,rfl⟩)|(go_at_call 49;refine(zK _).mono ?_;rintro e w' ⟨rfl,rfl⟩));go_ret3;exact⟨rfl,_,H1'.out,HE.out _ _ rfl⟩
    |some x=>
     obtain⟨u,i⟩:=x;obtain⟨m1,m2,m3⟩:up9=(u:Int)∧fld9=(i:Int)∧ok9=true:=HM.out;subst m1 m2 m3;obtain⟨hu,hi,hdn⟩:=HD.out u i rfl;have x4:=HB.out.c4;have x2:=HB.out.c2
     have CDN:Hid (Calls Tryz.prog 50 #[.pointer (some ⟨c.kb,0,none⟩),.int .i64 (u:Int)] w1 fun e w'=>e=.returned (.tuple #[.int .u64 f,.bool (!lowF A c.m f)])∧St w1 w' c A top lst):=Lib.hid (by
      have:=kdown_c H1.out.base u (by omega);rw[hdn]at this;exact this)
     have CHN:Hid (∀wa,St w1 wa c A top lst→_):=Lib.hid (fun wa ha=>zP ha f HF.out);have CGN:Hid (∀w3 wa,St w3 wa c A top lst→_):=Lib.hid (fun w3 wa ha=>zU (w0:=w3) ha (gtF A c.m f 3) (i:Int) (ha.gw _ _) (I64.of (by omega)));have H1':=H1;have HBB:=HB
     have KE:Hid (∀w3 wb,St w1 w3 c A top lst→Fr c.own w3 wb→wb.cell? ⟨gx,2,none⟩=some (.int .i64 (u:Int))∧wb.cell? ⟨gx,3,none⟩=some (.int .i64 (i:Int))∧FnAt wb gx top label u i true):=Lib.hid (fun w3 wb h3 hF=>by
      have:=OW.out _ _ _ _ _ _ _ _ HG.out (OW.out _ _ _ _ _ _ _ _ HG.out HBB.out h3.fr) hF;exact⟨this.c2,this.c3,this⟩)
     clear HM HD hdn HG OW HB H1;go_wp2_with (first|(go_at_call 48;refine(CK.out _).mono ?_;rintro e w' ⟨rfl,rfl⟩)|(go_at_call 50;refine CDN.out.mono ?_;rintro e w2 ⟨rfl,h2⟩));clear x4 x2 k2 CDN HBB;go_wp2_with fail;refine(CHN.out _ h2).mono ?_;rintro e w3 ⟨rfl,h3⟩;have hz:=h3.base;have hzd:=h3.base.drew;obtain⟨z2,z3,_⟩:=KE.out w3 w3 h3 (Fr.refl _ _);have H3:=Lib.hid h3;have CG3:=Lib.hid (CGN.out w3);clear CHN h2 CGN;go_wp2;go_region_held3 (fun w_=>w_.cell? ⟨gx,2,none⟩=some (.int .i64 (u:Int))∧w_.cell? ⟨gx,3,none⟩=some (.int .i64 (i:Int))) (with_reducible first|exact⟨(KE.out _ _ h3 h9.fr).1,(KE.out _ _ h3 h9.fr).2.1⟩|exact⟨(KE.out _ _ h3 (Fr.refl _ _)).1,(KE.out _ _ h3 (Fr.refl _ _)).2.1⟩|exact⟨(KE.out _ _ h3 (Fr.refl _ _).drew).1,(KE.out _ _ h3 (Fr.refl _ _).drew).2.1⟩) (first|(go_at_call 52;refine Calls.mono (CG3.out _ (by first|exact hzd|exact hz)) ?_;rintro e w9 ⟨rfl,h9⟩))
     all_goals
      go_wp2;go_ret3;exact⟨rfl,_,(H1'.out.join H3.out).join h9,HE.out _ _ rfl⟩
   |true=>
    by_cases hl3:label%8=3
    ·have hb3:(label%8==3)=true:=by simpa using hl3
     have kf:=H1.out.kf 3;have H2:Hid (St w0 (w1.setCell ⟨c.kb,3,none⟩ (.pointer (some ⟨gx,0,none⟩))) c A top (.pointer (some ⟨gx,0,none⟩))):=Lib.hid (H1.out.setlast _).1;have HB2:Hid (FnAt (w1.setCell ⟨c.kb,3,none⟩ (.pointer (some ⟨gx,0,none⟩))) gx top label up9 fld9 ok9):=Lib.hid (OW.out _ _ _ _ _ _ _ _ HG.out HB.out ((H1.out.setlast _).2.mono (fun x hx=>by simp at hx;subst hx;unfold Sk.own;simp)));have k3:=H1.out.k3;cases R with
     |none=>
      obtain⟨m1,m2⟩:fld9=0∧ok9=false:=HM.out;subst m1 m2;have x4:=HB2.out.c4;have H1':=H2;clear HM HD HF OW HG HB H1;go_wp2_with (first|(go_at_call 48;refine(CK.out _).mono ?_;rintro e w' ⟨rfl,rfl⟩)|(go_at_call 49;refine(zK _).mono ?_;rintro e w' ⟨rfl,rfl⟩));go_ret3;exact⟨rfl,_,H1'.out,HX.out _ HB2.out⟩
     |some x=>
      obtain⟨u,i⟩:=x;obtain⟨m1,m2,m3⟩:up9=(u:Int)∧fld9=(i:Int)∧ok9=true:=HM.out;subst m1 m2 m3;obtain⟨hu,hi,hdn⟩:=HD.out u i rfl;have x4:=HB2.out.c4;have x2:=HB2.out.c2
      have CDN:Hid (Calls Tryz.prog 50 #[.pointer (some ⟨c.kb,0,none⟩),.int .i64 (u:Int)] (w1.setCell ⟨c.kb,3,none⟩ (.pointer (some ⟨gx,0,none⟩))) fun e w'=>e=.returned (.tuple #[.int .u64 f,.bool (!lowF A c.m f)])∧St (w1.setCell ⟨c.kb,3,none⟩ (.pointer (some ⟨gx,0,none⟩))) w' c A top (.pointer (some ⟨gx,0,none⟩))):=Lib.hid (by
       have:=kdown_c H2.out.base u (by omega);rw[hdn]at this;exact this)
      have CHN:Hid (∀wa,St (w1.setCell ⟨c.kb,3,none⟩ (.pointer (some ⟨gx,0,none⟩))) wa c A top (.pointer (some ⟨gx,0,none⟩))→_):=Lib.hid (fun wa ha=>zP ha f HF.out);have CGN:Hid (∀w3 wa,St w3 wa c A top (.pointer (some ⟨gx,0,none⟩))→_):=Lib.hid (fun w3 wa ha=>zU (w0:=w3) ha (gtF A c.m f 3) (i:Int) (ha.gw _ _) (I64.of (by omega)));have H1':=H2;have HBB:=HB2
      have KE:Hid (∀w3 wb,St (w1.setCell ⟨c.kb,3,none⟩ (.pointer (some ⟨gx,0,none⟩))) w3 c A top (.pointer (some ⟨gx,0,none⟩))→Fr c.own w3 wb→wb.cell? ⟨gx,2,none⟩=some (.int .i64 (u:Int))∧wb.cell? ⟨gx,3,none⟩=some (.int .i64 (i:Int))∧FnAt wb gx top label u i true):=Lib.hid (fun w3 wb h3 hF=>by
       have:=OW.out _ _ _ _ _ _ _ _ HG.out (OW.out _ _ _ _ _ _ _ _ HG.out HBB.out h3.fr) hF;exact⟨this.c2,this.c3,this⟩)
      clear HM HD hdn HG OW HB H1;go_wp2_with (first|(go_at_call 48;refine(CK.out _).mono ?_;rintro e w' ⟨rfl,rfl⟩)|(go_at_call 50;refine CDN.out.mono ?_;rintro e w2 ⟨rfl,h2⟩));clear x4 x2 k2 CDN HBB;go_wp2_with fail;refine(CHN.out _ h2).mono ?_;rintro e w3 ⟨rfl,h3⟩;have hz:=h3.base;have hzd:=h3.base.drew;obtain⟨z2,z3,_⟩:=KE.out w3 w3 h3 (Fr.refl _ _);have H3:=Lib.hid h3;have CG3:=Lib.hid (CGN.out w3);clear CHN h2 CGN;go_wp2;go_region_held3 (fun w_=>w_.cell? ⟨gx,2,none⟩=some (.int .i64 (u:Int))∧w_.cell? ⟨gx,3,none⟩=some (.int .i64 (i:Int))) (with_reducible first|exact⟨(KE.out _ _ h3 h9.fr).1,(KE.out _ _ h3 h9.fr).2.1⟩|exact⟨(KE.out _ _ h3 (Fr.refl _ _)).1,(KE.out _ _ h3 (Fr.refl _ _)).2.1⟩|exact⟨(KE.out _ _ h3 (Fr.refl _ _).drew).1,(KE.out _ _ h3 (Fr.refl _ _).drew).2.1⟩) (first|(go_at_call 52;refine Calls.mono (CG3.out _ (by first|exact hzd|exact hz)) ?_;rintro e w9 ⟨rfl,h9⟩))
      all_goals
       go_wp2;go_ret3;exact⟨rfl,_,(H1'.out.join H3.out).join h9,HX.out _ (KE.out _ _ h3 h9.fr).2.2⟩
    ·have hb3:(label%8==3)=false:=by simpa using hl3
     cases R with
     |none=>
      obtain⟨m1,m2⟩:fld9=0∧ok9=false:=HM.out;subst m1 m2;have x4:=HB.out.c4;have H1':=H1;clear HM HD HF OW HG HB H1;go_wp2_with (first|(go_at_call 48;refine(CK.out _).mono ?_;rintro e w' ⟨rfl,rfl⟩)|(go_at_call 49;refine(zK _).mono ?_;rintro e w' ⟨rfl,rfl⟩));go_ret3;exact⟨rfl,_,H1'.out,HE.out _ _ rfl⟩
     |some x=>
      obtain⟨u,i⟩:=x;obtain⟨m1,m2,m3⟩:up9=(u:Int)∧fld9=(i:Int)∧ok9=true:=HM.out;subst m1 m2 m3;obtain⟨hu,hi,hdn⟩:=HD.out u i rfl;have x4:=HB.out.c4;have x2:=HB.out.c2
      have CDN:Hid (Calls Tryz.prog 50 #[.pointer (some ⟨c.kb,0,none⟩),.int .i64 (u:Int)] w1 fun e w'=>e=.returned (.tuple #[.int .u64 f,.bool (!lowF A c.m f)])∧St w1 w' c A top lst):=Lib.hid (by
       have:=kdown_c H1.out.base u (by omega);rw[hdn]at this;exact this)
      have CHN:Hid (∀wa,St w1 wa c A top lst→_):=Lib.hid (fun wa ha=>zP ha f HF.out);have CGN:Hid (∀w3 wa,St w3 wa c A top lst→_):=Lib.hid (fun w3 wa ha=>zU (w0:=w3) ha (gtF A c.m f 3) (i:Int) (ha.gw _ _) (I64.of (by omega)));have H1':=H1;have HBB:=HB
      have KE:Hid (∀w3 wb,St w1 w3 c A top lst→Fr c.own w3 wb→wb.cell? ⟨gx,2,none⟩=some (.int .i64 (u:Int))∧wb.cell? ⟨gx,3,none⟩=some (.int .i64 (i:Int))∧FnAt wb gx top label u i true):=Lib.hid (fun w3 wb h3 hF=>by
       have:=OW.out _ _ _ _ _ _ _ _ HG.out (OW.out _ _ _ _ _ _ _ _ HG.out HBB.out h3.fr) hF;exact⟨this.c2,this.c3,this⟩)
      clear HM HD hdn HG OW HB H1;go_wp2_with (first|(go_at_call 48;refine(CK.out _).mono ?_;rintro e w' ⟨rfl,rfl⟩)|(go_at_call 50;refine CDN.out.mono ?_;rintro e w2 ⟨rfl,h2⟩));clear x4 x2 k2 CDN HBB;go_wp2_with fail;refine(CHN.out _ h2).mono ?_;rintro e w3 ⟨rfl,h3⟩;have hz:=h3.base;have hzd:=h3.base.drew;obtain⟨z2,z3,_⟩:=KE.out w3 w3 h3 (Fr.refl _ _);have H3:=Lib.hid h3;have CG3:=Lib.hid (CGN.out w3);clear CHN h2 CGN;go_wp2;go_region_held3 (fun w_=>w_.cell? ⟨gx,2,none⟩=some (.int .i64 (u:Int))∧w_.cell? ⟨gx,3,none⟩=some (.int .i64 (i:Int))) (with_reducible first|exact⟨(KE.out _ _ h3 h9.fr).1,(KE.out _ _ h3 h9.fr).2.1⟩|exact⟨(KE.out _ _ h3 (Fr.refl _ _)).1,(KE.out _ _ h3 (Fr.refl _ _)).2.1⟩|exact⟨(KE.out _ _ h3 (Fr.refl _ _).drew).1,(KE.out _ _ h3 (Fr.refl _ _).drew).2.1⟩) (first|(go_at_call 52;refine Calls.mono (CG3.out _ (by first|exact hzd|exact hz)) ?_;rintro e w9 ⟨rfl,h9⟩))
      all_goals
       go_wp2;go_ret3;exact⟨rfl,_,(H1'.out.join H3.out).join h9,HE.out _ _ rfl⟩
end
end Go.Proofs.YtghkahcogphomaaGreat
