/- Fibers: a part of the walk. No condition. -/
import Derived.Test.YtghkahcogphomaaGreatQk14
set_option linter.all false
namespace Go.Proofs.YtghkahcogphomaaGreat
section
open Go.ChangeShapes Go.WideShapes Go.RowKit Go.Maps
variable{w w':World}{c:Tk}{m n:Nat}{cl:Int→Int}{wv:Value}{T:Tr}
def Tr.cells(T:Tr)(c:Tk)(wv:Value)(lf mv:Int):Array Value:= #[.pointer (some ⟨c.hb,0,none⟩),.map (some c.mb),.int .i64 T.least,.int .i64 lf,.slice (some ⟨c.sb,0,none⟩) T.seen.length T.seen.length,wv,.int .i64 T.live,.int .i64 mv,.int .i64 0]
def MvDone(c:Tk)(m n:Nat)(cl:Int→Int)(wv:Value)(w:World)(r:Tr×Int×Bool)(e:Ending)(w':World):Prop:=
 e=.returned (.tuple #[.int .u64 r.2.1,.bool r.2.2])∧TrAt w' c m n cl wv r.1∧Fr [c.b,c.wb,c.lb,c.tb] w w'
theorem TrAt.mvd(h:TrAt w c m n cl wv T){w1 w2 w3:World}{A':Ar}(hF1:Fr [] w w1)(hF2:Fr [c.b,c.wb,c.lb] w1 w2)(hH:HeAt w2 c.hb c.b c.wb c.lb A')(ok:A'.Ok m)(wd:A'.Wd)(hF3:Fr [c.tb] w2 w3)(lf mv:Int)
 (hl: -1000000≤lf∧lf≤1000000) (ht:blk w2 c.tb=some (.cells (T.cells c wv T.left T.moved) 134 (0,0))→blk w3 c.tb=some (.cells (T.cells c wv lf mv) 134 (0,0))):
 TrAt w3 c m n cl wv { T with A:=A',left:=lf,moved:=mv }∧Fr [c.b,c.wb,c.lb,c.tb] w w3:=by
 have ap:=h.ap;simp only[List.nodup_cons,List.mem_cons,List.not_mem_nil,or_false,not_or]at ap;obtain⟨⟨a1,a2,a3,a4,a5,a6⟩,⟨b2,b3,b4,b5,b6⟩,⟨d3,d4,d5,d6⟩,⟨e1,e2,e3⟩,⟨f1,f2⟩,g1,_⟩:=ap;have hF:Fr [c.b,c.wb,c.lb,c.tb] w w3:=((hF1.mono (T:=[c.b,c.wb,c.lb,c.tb]) (by simp)).trans hF2 (fun y hy=> .inl (by simp only[List.mem_cons,List.not_mem_nil,or_false]at hy⊢;rcases hy with rfl|rfl|rfl<;>simp))).trans hF3 (by simp);refine⟨?_,hF⟩;have t2:blk w2 c.tb=some (.cells (T.cells c wv T.left T.moved) 134 (0,0)):=hF2.at (hF1.at h.t (by simp)) (by simp;exact⟨a3,a4,a5⟩);exact h.moved A' lf T.live mv hF (hH.fr hF3 (by simp;exact Ne.symm a2) (by simp;exact Ne.symm a3) (by simp;exact Ne.symm a4) (by simp;exact Ne.symm a5)) ok wd (ht t2) hl
theorem TrAt.mv0(h:TrAt w c m n cl wv T){w1 w2:World}{A':Ar}(hF1:Fr [] w w1)(hF2:Fr [c.b,c.wb,c.lb] w1 w2)(hH:HeAt w2 c.hb c.b c.wb c.lb A')(ok:A'.Ok m)(wd:A'.Wd):
 TrAt w2 c m n cl wv { T with A:=A' }∧Fr [c.b,c.wb,c.lb,c.tb] w w2:=
 h.mvd hF1 hF2 hH ok wd (Fr.refl _ _) T.left T.moved h.lf (fun h=>h)
theorem TrAt.mv1(h:TrAt w c m n cl wv T){w1 w2:World}{A':Ar}(hF1:Fr [] w w1)(hF2:Fr [c.b,c.wb,c.lb] w1 w2)(hH:HeAt w2 c.hb c.b c.wb c.lb A')(ok:A'.Ok m)(wd:A'.Wd)(lf mv:Int)(hl: -1000000≤lf∧lf≤1000000):
 TrAt ((w2.setCell ⟨c.tb,3,none⟩ (.int .i64 lf)).setCell ⟨c.tb,7,none⟩ (.int .i64 mv)) c m n cl wv { T with A:=A',left:=lf,moved:=mv }∧Fr [c.b,c.wb,c.lb,c.tb] w ((w2.setCell ⟨c.tb,3,none⟩ (.int .i64 lf)).setCell ⟨c.tb,7,none⟩ (.int .i64 mv)):=
 h.mvd hF1 hF2 hH ok wd (((Fr.refl _ _).setCell (by simp) _).setCell (by simp) _) lf mv hl (fun h=>by rw[zD,if_pos rfl,zD,if_pos rfl,h];rfl)
theorem TrAt.mv2(h:TrAt w c m n cl wv T){w1 w2:World}{A':Ar}(hF1:Fr [] w w1)(hF2:Fr [c.b,c.wb,c.lb] w1 w2)(hH:HeAt w2 c.hb c.b c.wb c.lb A')(ok:A'.Ok m)(wd:A'.Wd)(l0 lf mv:Int)(hl: -1000000≤lf∧lf≤1000000):
 TrAt (((w2.setCell ⟨c.tb,3,none⟩ (.int .i64 l0)).setCell ⟨c.tb,3,none⟩ (.int .i64 lf)).setCell ⟨c.tb,7,none⟩ (.int .i64 mv)) c m n cl wv { T with A:=A',left:=lf,moved:=mv }∧Fr [c.b,c.wb,c.lb,c.tb] w (((w2.setCell ⟨c.tb,3,none⟩ (.int .i64 l0)).setCell ⟨c.tb,3,none⟩ (.int .i64 lf)).setCell ⟨c.tb,7,none⟩ (.int .i64 mv)):=
 h.mvd hF1 hF2 hH ok wd ((((Fr.refl _ _).setCell (by simp) _).setCell (by simp) _).setCell (by simp) _) lf mv hl (fun h=>by rw[zD,if_pos rfl,zD,if_pos rfl,zD,if_pos rfl,h];rfl)
theorem TrAt.kt(h:TrAt w c m n cl wv T){w1 w2:World}(hF1:Fr [] w w1)(hF2:Fr [c.b,c.wb,c.lb] w1 w2):w2.cell? ⟨c.tb,3,none⟩=some (.int .i64 T.left)∧w2.cell? ⟨c.tb,7,none⟩=some (.int .i64 T.moved)∧(∀i,w2.frozen? ⟨c.tb,i,none⟩=false):=by
 have ap:=h.ap;simp only[List.nodup_cons,List.mem_cons,List.not_mem_nil,or_false,not_or]at ap;obtain⟨⟨a1,a2,a3,a4,a5,a6⟩,_⟩:=ap;have t2:=hF2.at (hF1.at h.t (by simp)) (by simp;exact⟨a3,a4,a5⟩);exact⟨zA t2 rfl,zA t2 rfl,fun i=>zE t2⟩
theorem szI_mv{A:Ar}{m:Nat}{x y:Int}(h:(moveF A m x).2=some y):szI A m x≤240:=by
 unfold moveF at h;unfold szI;cases ho:hAt A m x with
 |none=>rw[ho]at h;simp at h
 |some o=>
  rw[ho]at h;simp only at h;split at h
  ·simp at h
  ·simp;omega
set_option maxRecDepth 10000 in
set_option maxHeartbeats 4000000 in
theorem move_b(h:TrAt w c m n cl wv T)(x:Int)(hx:x%8=1)(x0:0≤x)(x1:x<18446744073709551616)(hm:mvB cl T.A m x=true)(hl: ¬T.left<szI T.A m x+1)(hv:0≤T.moved∧T.moved<2000000):
 Calls Tryz.prog 111 #[.pointer (some ⟨c.tb,0,none⟩),.int .u64 x] w (MvDone c m n cl wv w (moveT cl m T x)):=by
 have hnr:T.noRoom m x=false:=by unfold Tr.noRoom;simp;omega
 have D0:Hid (∀w1 w2 A',(moveF T.A m x)=(A',none)→Fr [] w w1→HDone c.hb c.b c.wb c.lb w1 A' (zM none) (.returned (zM none)) w2→MvDone c m n cl wv w (moveT cl m T x) (.returned (.tuple #[.int .u64 x,.bool false])) w2):=Lib.hid (by
  intro w1 w2 A' hq hF1 hd;obtain⟨_,hH,hF2⟩:=hd;have ok':=moveF_ok h.ok (m:=m) x;have wd':=moveF_wd h.wd m x;rw[hq]at ok' wd';have:=h.mv0 hF1 hF2 hH ok' wd';unfold moveT;rw[if_neg (by rw[hm,hnr];simp),hq];exact⟨rfl,this.1,this.2⟩)
 have D1:Hid (∀w1 w2 A' y,(moveF T.A m x)=(A',some y)→Fr [] w w1→HDone c.hb c.b c.wb c.lb w1 A' (zM (some y)) (.returned (zM (some y))) w2→MvDone c m n cl wv w (moveT cl m T x) (.returned (.tuple #[.int .u64 y,.bool true])) ((w2.setCell ⟨c.tb,3,none⟩ (.int .i64 (T.left-(szI T.A m x+1)))).setCell ⟨c.tb,7,none⟩ (.int .i64 (T.moved+1)))):=Lib.hid (by
  intro w1 w2 A' y hq hF1 hd;obtain⟨_,hH,hF2⟩:=hd;have ok':=moveF_ok h.ok (m:=m) x;have wd':=moveF_wd h.wd m x;have hz2:=szI_b (m:=m) h.wd x0;have hlf:=h.lf;rw[hq]at ok' wd';have:=h.mv1 hF1 hF2 hH ok' wd' (T.left-(szI T.A m x+1)) (T.moved+1) (by omega);unfold moveT;rw[if_neg (by rw[hm,hnr];simp),hq];simp only[if_neg hl];exact⟨rfl,this.1,this.2⟩)
 have hzM:Hid (∀y,(moveF T.A m x).2=some y→szI T.A m x≤240):=Lib.hid (fun y hy=>szI_mv hy);have k0:=h.c0;have CS:=Lib.hid (osize_c w h.h h.ok h.wd x x0 x1);have CM:=Lib.hid (fun wa (hF:Fr [] w wa)=>movable_c (h.keep hF) x hx x0 x1);have KS:=Lib.hid (fun wa (hF:Fr [] w wa)=>(h.keep hF).ks);have CV:=Lib.hid (fun wa (hF:Fr [] w wa)=>omove_c wa (h.keep hF).h h.ok h.wd x x0 x1);have KT:=Lib.hid (fun w1 w2 (hF1:Fr [] w w1) (hF2:Fr [c.b,c.wb,c.lb] w1 w2)=>h.kt hF1 hF2);rw[hm]at CM;have hzb:=szI_b (m:=m) h.wd x0;have hlf:=h.lf;have hb:decide (T.left<szI T.A m x+1)=false:=by simpa using hl
 change Hid (Calls _ _ _ _ fun e w'=>e=.returned (.int .i64 (szI T.A m x))∧Fr [] w w')at CS
 generalize szI T.A m x=z at*;generalize moveT cl m T x=mt at*;rcases hq:moveF T.A m x with⟨A',o⟩
 rw[hq]at hzM;replace CV:Hid (∀wa,Fr [] w wa→Calls Tryz.prog 124 #[.pointer (some ⟨c.hb,0,none⟩),.int .u64 x] wa (HDone c.hb c.b c.wb c.lb wa A' (zM o))):=Lib.hid (fun wa hF=>by have:=CV.out wa hF;rw[hq]at this;exact this);have HQ:=Lib.hid hq;have HZ:=Lib.hid hnr;clear hm h hq hnr;go_enter Tryz.func111,Tryz.ntmps111;go_wp2_with fail;refine CS.out.mono ?_;rintro e w1 ⟨rfl,F1⟩;go_wp2_with fail;refine wp_region_held_drew (S:=(fun W=>W.cell? ⟨c.tb,0,none⟩=some (.pointer (some ⟨c.hb,0,none⟩))∧W.cell? ⟨c.tb,2,none⟩=some (.int .i64 T.least)∧W.cell? ⟨c.tb,3,none⟩=some (.int .i64 T.left))) (by kernel_rfl) ?_ (fun hHeld=> ?_)
 ·first|assumption|exact KS.out _ (F1.same (Fr.refl _ _).drew)
 refine' wpAnyH_take (i:=0) (v:=_) rfl (by kernel_rfl) (by kernel_rfl) (by kernel_rfl) (fun _ _ _ h=>h) (Or.inl ⟨by rfl, ?hy0⟩) ‹_› ?re0
 case hy0=>intro w hSw;(try dsimp only at hSw);go_simp;try with_reducible rfl
 try simp only[Act.put,List.getElem_toArray,List.getElem_cons_succ,List.getElem_cons_zero,List.setIfInBounds_toArray,List.set_cons_zero,List.set_cons_succ]
 refine' wpAnyH_take (i:=1) (v:=_) rfl (by kernel_rfl) (by kernel_rfl) (by kernel_rfl) (fun _ _ _ h=>h) (Or.inl ⟨by rfl, ?hy1⟩) ‹_› ?re1
 case hy1=>intro w hSw;(try dsimp only at hSw);go_simp;try with_reducible rfl
 try simp only[Act.put,List.getElem_toArray,List.getElem_cons_succ,List.getElem_cons_zero,List.setIfInBounds_toArray,List.set_cons_zero,List.set_cons_succ]
 refine wpAnyH_ready (rs:=[2]) (by kernel_rfl) (by simp) ?_;refine AllReadyH.cons rfl (fun K hK=> ?_) AllReadyH.nil
 go_simp
 (go_at_call 123;refine(CM.out _ (Fr.same F1 (by repeat (first|exact Fr.refl _ _|apply Fr.drew)))).mono ?_;rintro e w2 ⟨rfl,F2⟩;have F3:Fr [] w w2:=F1.same (Fr.same (by repeat (first|exact Fr.refl _ _|apply Fr.drew)) F2);have ks:=KS.out w2 F3)
 refine hK.out _ _ ?_ (fun hHeld2=> ?_)
 ·first|assumption|exact KS.out _ (F1.same (Fr.refl _ _).drew)
 clear hK K hHeld
 try simp only[Act.put,List.getElem_toArray,List.getElem_cons_succ,List.getElem_cons_zero,List.setIfInBounds_toArray,List.set_cons_zero,List.set_cons_succ]
 refine' wpAnyH_take (i:=3) (v:=_) rfl (by kernel_rfl) (by kernel_rfl) (by kernel_rfl) (fun _ _ _ h=>h) (Or.inl ⟨by rfl, ?hy3⟩) ‹_› ?re3
 case hy3=>intro w hSw;(try dsimp only at hSw);go_simp;try with_reducible rfl
 try simp only[Act.put,List.getElem_toArray,List.getElem_cons_succ,List.getElem_cons_zero,List.setIfInBounds_toArray,List.set_cons_zero,List.set_cons_succ]
 refine' wpAnyH_take (i:=4) (v:=_) rfl (by kernel_rfl) (by kernel_rfl) (by kernel_rfl) (fun _ _ _ h=>h) (Or.inl ⟨by rfl, ?hy4⟩) ‹_› ?re4
 case hy4=>intro w hSw;(try dsimp only at hSw);go_simp;try with_reducible rfl
 try simp only[Act.put,List.getElem_toArray,List.getElem_cons_succ,List.getElem_cons_zero,List.setIfInBounds_toArray,List.set_cons_zero,List.set_cons_succ]
 refine' wpAnyH_take (i:=5) (v:=_) rfl (by kernel_rfl) (by kernel_rfl) (by kernel_rfl) (fun _ _ _ h=>h) (Or.inl ⟨by rfl, ?hy5⟩) ‹_› ?re5
 case hy5=>intro w hSw;(try dsimp only at hSw);go_simp;try with_reducible rfl
 try simp only[Act.put,List.getElem_toArray,List.getElem_cons_succ,List.getElem_cons_zero,List.setIfInBounds_toArray,List.set_cons_zero,List.set_cons_succ]
 refine' wpAnyH_take (i:=6) (v:=_) rfl (by kernel_rfl) (by kernel_rfl) (by kernel_rfl) (fun _ _ _ h=>h) (Or.inl ⟨by rfl, ?hy6⟩) ‹_› ?re6
 case hy6=>intro w hSw;(try dsimp only at hSw);go_simp;try with_reducible rfl
 try simp only[Act.put,List.getElem_toArray,List.getElem_cons_succ,List.getElem_cons_zero,List.setIfInBounds_toArray,List.set_cons_zero,List.set_cons_succ]
 refine' wpAnyH_take (i:=7) (v:=_) rfl (by kernel_rfl) (by kernel_rfl) (by kernel_rfl) (fun _ _ _ h=>h) (Or.inl ⟨by rfl, ?hy7⟩) ‹_› ?re7
 case hy7=>intro w hSw;(try dsimp only at hSw);go_simp;try with_reducible rfl
 try simp only[Act.put,List.getElem_toArray,List.getElem_cons_succ,List.getElem_cons_zero,List.setIfInBounds_toArray,List.set_cons_zero,List.set_cons_succ]
 refine' wpAnyH_take (i:=8) (v:=_) rfl (by kernel_rfl) (by kernel_rfl) (by kernel_rfl) (fun _ _ _ h=>h) (Or.inl ⟨by rfl, ?hy8⟩) ‹_› ?re8
 case hy8=>intro w hSw;(try dsimp only at hSw);go_simp;try with_reducible rfl
 try simp only[Act.put,List.getElem_toArray,List.getElem_cons_succ,List.getElem_cons_zero,List.setIfInBounds_toArray,List.set_cons_zero,List.set_cons_succ]
 refine' wpAnyH_take (i:=9) (v:=_) rfl (by kernel_rfl) (by kernel_rfl) (by kernel_rfl) (fun _ _ _ h=>h) (Or.inl ⟨by rfl, ?hy9⟩) ‹_› ?re9
 case hy9=>intro w hSw;(try dsimp only at hSw);go_simp;try with_reducible rfl
 try simp only[Act.put,List.getElem_toArray,List.getElem_cons_succ,List.getElem_cons_zero,List.setIfInBounds_toArray,List.set_cons_zero,List.set_cons_succ]
 refine' wpAnyH_take (i:=10) (v:=_) rfl (by kernel_rfl) (by kernel_rfl) (by kernel_rfl) (fun _ _ _ h=>h) (Or.inl ⟨by rfl, ?hy10⟩) ‹_› ?re10
 case hy10=>intro w hSw;(try dsimp only at hSw);go_simp;try with_reducible rfl
 try simp only[Act.put,List.getElem_toArray,List.getElem_cons_succ,List.getElem_cons_zero,List.setIfInBounds_toArray,List.set_cons_zero,List.set_cons_succ]
 refine' wpAnyH_take (i:=11) (v:=_) rfl (by kernel_rfl) (by kernel_rfl) (by kernel_rfl) (fun _ _ _ h=>h) (Or.inl ⟨by rfl, ?hy11⟩) ‹_› ?re11
 case hy11=>intro w hSw;(try dsimp only at hSw);go_simp;try with_reducible rfl
 try simp only[Act.put,List.getElem_toArray,List.getElem_cons_succ,List.getElem_cons_zero,List.setIfInBounds_toArray,List.set_cons_zero,List.set_cons_succ]
 refine wpAnyH_take (i:=12) (v:=undef) rfl (by kernel_rfl) (by kernel_rfl) (by kernel_rfl) (fun _ _ _ h=>h) (Or.inr ⟨by rfl,rfl⟩) ‹_› ?_
 try simp only[Act.put,List.getElem_toArray,List.getElem_cons_succ,List.getElem_cons_zero,List.setIfInBounds_toArray,List.set_cons_zero,List.set_cons_succ]
 refine wpAnyH_take (i:=13) (v:=undef) rfl (by kernel_rfl) (by kernel_rfl) (by kernel_rfl) (fun _ _ _ h=>h) (Or.inr ⟨by rfl,rfl⟩) ‹_› ?_
 try simp only[Act.put,List.getElem_toArray,List.getElem_cons_succ,List.getElem_cons_zero,List.setIfInBounds_toArray,List.set_cons_zero,List.set_cons_succ]
 refine wpAnyH_take (i:=14) (v:=undef) rfl (by kernel_rfl) (by kernel_rfl) (by kernel_rfl) (fun _ _ _ h=>h) (Or.inr ⟨by rfl,rfl⟩) ‹_› ?_
 try simp only[Act.put,List.getElem_toArray,List.getElem_cons_succ,List.getElem_cons_zero,List.setIfInBounds_toArray,List.set_cons_zero,List.set_cons_succ]
 refine wpAnyH_take (i:=15) (v:=undef) rfl (by kernel_rfl) (by kernel_rfl) (by kernel_rfl) (fun _ _ _ h=>h) (Or.inr ⟨by rfl,rfl⟩) ‹_› ?_
 try simp only[Act.put,List.getElem_toArray,List.getElem_cons_succ,List.getElem_cons_zero,List.setIfInBounds_toArray,List.set_cons_zero,List.set_cons_succ]
 refine wpAnyH_take (i:=16) (v:=undef) rfl (by kernel_rfl) (by kernel_rfl) (by kernel_rfl) (fun _ _ _ h=>h) (Or.inr ⟨by rfl,rfl⟩) ‹_› ?_
 try simp only[Act.put,List.getElem_toArray,List.getElem_cons_succ,List.getElem_cons_zero,List.setIfInBounds_toArray,List.set_cons_zero,List.set_cons_succ]
 refine wpAnyH_take (i:=17) (v:=undef) rfl (by kernel_rfl) (by kernel_rfl) (by kernel_rfl) (fun _ _ _ h=>h) (Or.inr ⟨by rfl,rfl⟩) ‹_› ?_
 try simp only[Act.put,List.getElem_toArray,List.getElem_cons_succ,List.getElem_cons_zero,List.setIfInBounds_toArray,List.set_cons_zero,List.set_cons_succ]
 refine wpAnyH_take (i:=18) (v:=undef) rfl (by kernel_rfl) (by kernel_rfl) (by kernel_rfl) (fun _ _ _ h=>h) (Or.inr ⟨by rfl,rfl⟩) ‹_› ?_
 try simp only[Act.put,List.getElem_toArray,List.getElem_cons_succ,List.getElem_cons_zero,List.setIfInBounds_toArray,List.set_cons_zero,List.set_cons_succ]
 refine wpAnyH_take (i:=19) (v:=undef) rfl (by kernel_rfl) (by kernel_rfl) (by kernel_rfl) (fun _ _ _ h=>h) (Or.inr ⟨by rfl,rfl⟩) ‹_› ?_
 try simp only[Act.put,List.getElem_toArray,List.getElem_cons_succ,List.getElem_cons_zero,List.setIfInBounds_toArray,List.set_cons_zero,List.set_cons_succ]
 refine wpAnyH_take (i:=20) (v:=undef) rfl (by kernel_rfl) (by kernel_rfl) (by kernel_rfl) (fun _ _ _ h=>h) (Or.inr ⟨by rfl,rfl⟩) ‹_› ?_
 try simp only[Act.put,List.getElem_toArray,List.getElem_cons_succ,List.getElem_cons_zero,List.setIfInBounds_toArray,List.set_cons_zero,List.set_cons_succ]
 refine wpAnyH_take (i:=21) (v:=undef) rfl (by kernel_rfl) (by kernel_rfl) (by kernel_rfl) (fun _ _ _ h=>h) (Or.inr ⟨by rfl,rfl⟩) ‹_› ?_
 try simp only[Act.put,List.getElem_toArray,List.getElem_cons_succ,List.getElem_cons_zero,List.setIfInBounds_toArray,List.set_cons_zero,List.set_cons_succ]
 refine wpAnyH_take (i:=22) (v:=undef) rfl (by kernel_rfl) (by kernel_rfl) (by kernel_rfl) (fun _ _ _ h=>h) (Or.inr ⟨by rfl,rfl⟩) ‹_› ?_
 try simp only[Act.put,List.getElem_toArray,List.getElem_cons_succ,List.getElem_cons_zero,List.setIfInBounds_toArray,List.set_cons_zero,List.set_cons_succ]
 refine' wpAnyH_take (i:=23) (v:=_) rfl (by kernel_rfl) (by kernel_rfl) (by kernel_rfl) (fun _ _ _ h=>h) (Or.inl ⟨by rfl, ?hy23⟩) ‹_› ?re23
 case hy23=>intro w hSw;(try dsimp only at hSw);go_simp;try with_reducible rfl
 try simp only[Act.put,List.getElem_toArray,List.getElem_cons_succ,List.getElem_cons_zero,List.setIfInBounds_toArray,List.set_cons_zero,List.set_cons_succ]
 refine' wpAnyH_take (i:=24) (v:=_) rfl (by kernel_rfl) (by kernel_rfl) (by kernel_rfl) (fun _ _ _ h=>h) (Or.inl ⟨by rfl, ?hy24⟩) ‹_› ?re24
 case hy24=>intro w hSw;(try dsimp only at hSw);go_simp;try with_reducible rfl
 try simp only[Act.put,List.getElem_toArray,List.getElem_cons_succ,List.getElem_cons_zero,List.setIfInBounds_toArray,List.set_cons_zero,List.set_cons_succ]
 refine wpAnyH_done (by kernel_rfl) ?_ _;have F6:=Lib.hid F3;clear CS CM KS;go_wp2_with fail;refine(CV.out _ F6.out).mono ?_;rintro e w6 hd;have he:=hd.1;subst he;have HD:=Lib.hid hd;obtain⟨q3,q7,qf⟩:=KT.out _ _ F6.out hd.2.2;have qf3:=qf 3;have qf7:=qf 7;clear qf hd CV KT;cases o with
 |none=>
  have E:=Lib.hid (D0.out _ _ _ HQ.out F6.out HD.out);clear D0 D1 HQ HD;simp only[zM];go_wp2;go_ret2;exact E.out
 |some y=>
  have E:=Lib.hid (D1.out _ _ _ _ HQ.out F6.out HD.out);have hz3:=hzM.out y rfl;clear D0 D1 HQ HD hzM;simp only[zM];go_wp2;go_ret2;exact E.out
set_option maxRecDepth 10000 in
set_option maxHeartbeats 4000000 in
theorem move_r(h:TrAt w c m n cl wv T)(x:Int)(hx:x%8=1)(x0:0≤x)(x1:x<18446744073709551616)(hm:mvB cl T.A m x=true)(hl:T.left<szI T.A m x+1)(he: ¬(zW T.A.lines m:Int)≤T.least)(hv:0≤T.moved∧T.moved<2000000):
 Calls Tryz.prog 111 #[.pointer (some ⟨c.tb,0,none⟩),.int .u64 x] w (MvDone c m n cl wv w (moveT cl m T x)):=by
 have hnr:T.noRoom m x=false:=by unfold Tr.noRoom;simp;omega
 have D0:Hid (∀w1 w2 A',(moveF T.A m x)=(A',none)→Fr [] w w1→HDone c.hb c.b c.wb c.lb w1 A' (zM none) (.returned (zM none)) w2→MvDone c m n cl wv w (moveT cl m T x) (.returned (.tuple #[.int .u64 x,.bool false])) w2):=Lib.hid (by
  intro w1 w2 A' hq hF1 hd;obtain⟨_,hH,hF2⟩:=hd;have ok':=moveF_ok h.ok (m:=m) x;have wd':=moveF_wd h.wd m x;rw[hq]at ok' wd';have:=h.mv0 hF1 hF2 hH ok' wd';unfold moveT;rw[if_neg (by rw[hm,hnr];simp),hq];exact⟨rfl,this.1,this.2⟩)
 have D1:Hid (∀w1 w2 A' y,(moveF T.A m x)=(A',some y)→Fr [] w w1→HDone c.hb c.b c.wb c.lb w1 A' (zM (some y)) (.returned (zM (some y))) w2→MvDone c m n cl wv w (moveT cl m T x) (.returned (.tuple #[.int .u64 y,.bool true])) (((w2.setCell ⟨c.tb,3,none⟩ (.int .i64 256)).setCell ⟨c.tb,3,none⟩ (.int .i64 (256-(szI T.A m x+1)))).setCell ⟨c.tb,7,none⟩ (.int .i64 (T.moved+1)))):=Lib.hid (by
  intro w1 w2 A' y hq hF1 hd;obtain⟨_,hH,hF2⟩:=hd;have ok':=moveF_ok h.ok (m:=m) x;have wd':=moveF_wd h.wd m x;have hz:=szI_mv (A:=T.A) (m:=m) (x:=x) (y:=y) (by rw[hq]);have hz2:=szI_b (m:=m) h.wd x0;rw[hq]at ok' wd';have:=h.mv2 hF1 hF2 hH ok' wd' 256 (256-(szI T.A m x+1)) (T.moved+1) (by omega);unfold moveT;rw[if_neg (by rw[hm,hnr];simp),hq];simp only[if_pos hl];exact⟨rfl,this.1,this.2⟩)
 have hzM:Hid (∀y,(moveF T.A m x).2=some y→szI T.A m x≤240):=Lib.hid (fun y hy=>szI_mv hy);have k0:=h.c0;have CS:=Lib.hid (osize_c w h.h h.ok h.wd x x0 x1);have CM:=Lib.hid (fun wa (hF:Fr [] w wa)=>movable_c (h.keep hF) x hx x0 x1);have CA:=Lib.hid (fun wa (hF:Fr [] w wa)=>oarena_c wa (h.keep hF).h);have CE:=Lib.hid (fun wa (hF:Fr [] w wa)=>empty_c wa (h.keep hF).h.ar h.ok);have KS:=Lib.hid (fun wa (hF:Fr [] w wa)=>(h.keep hF).ks);have CV:=Lib.hid (fun wa (hF:Fr [] w wa)=>omove_c wa (h.keep hF).h h.ok h.wd x x0 x1);have KT:=Lib.hid (fun w1 w2 (hF1:Fr [] w w1) (hF2:Fr [c.b,c.wb,c.lb] w1 w2)=>h.kt hF1 hF2);rw[hm]at CM;have hzb:=szI_b (m:=m) h.wd x0;have hlf:=h.lf;have hb:decide (T.left<szI T.A m x+1)=true:=by simpa using hl
 have hb2:decide ((zW T.A.lines m:Int)≤T.least)=false:=by simpa using he
 change Hid (Calls _ _ _ _ fun e w'=>e=.returned (.int .i64 (szI T.A m x))∧Fr [] w w')at CS
 generalize szI T.A m x=z at*;generalize moveT cl m T x=mt at*;rcases hq:moveF T.A m x with⟨A',o⟩
 generalize zW T.A.lines m=em at*;rw[hq]at hzM;replace CV:Hid (∀wa,Fr [] w wa→Calls Tryz.prog 124 #[.pointer (some ⟨c.hb,0,none⟩),.int .u64 x] wa (HDone c.hb c.b c.wb c.lb wa A' (zM o))):=Lib.hid (fun wa hF=>by have:=CV.out wa hF;rw[hq]at this;exact this);have HQ:=Lib.hid hq;have HZ:=Lib.hid hnr;clear hm h hq hnr;go_enter Tryz.func111,Tryz.ntmps111;go_wp2_with fail;refine CS.out.mono ?_;rintro e w1 ⟨rfl,F1⟩;go_wp2_with fail;refine wp_region_held_drew (S:=(fun W=>W.cell? ⟨c.tb,0,none⟩=some (.pointer (some ⟨c.hb,0,none⟩))∧W.cell? ⟨c.tb,2,none⟩=some (.int .i64 T.least)∧W.cell? ⟨c.tb,3,none⟩=some (.int .i64 T.left))) (by kernel_rfl) ?_ (fun hHeld=> ?_)
 ·first|assumption|exact KS.out _ (F1.same (Fr.refl _ _).drew)
 refine' wpAnyH_take (i:=0) (v:=_) rfl (by kernel_rfl) (by kernel_rfl) (by kernel_rfl) (fun _ _ _ h=>h) (Or.inl ⟨by rfl, ?hy0⟩) ‹_› ?re0
 case hy0=>intro w hSw;(try dsimp only at hSw);go_simp;try with_reducible rfl
 try simp only[Act.put,List.getElem_toArray,List.getElem_cons_succ,List.getElem_cons_zero,List.setIfInBounds_toArray,List.set_cons_zero,List.set_cons_succ]
 refine' wpAnyH_take (i:=1) (v:=_) rfl (by kernel_rfl) (by kernel_rfl) (by kernel_rfl) (fun _ _ _ h=>h) (Or.inl ⟨by rfl, ?hy1⟩) ‹_› ?re1
 case hy1=>intro w hSw;(try dsimp only at hSw);go_simp;try with_reducible rfl
 try simp only[Act.put,List.getElem_toArray,List.getElem_cons_succ,List.getElem_cons_zero,List.setIfInBounds_toArray,List.set_cons_zero,List.set_cons_succ]
 refine wpAnyH_ready (rs:=[2]) (by kernel_rfl) (by simp) ?_;refine AllReadyH.cons rfl (fun K hK=> ?_) AllReadyH.nil
 go_simp
 (go_at_call 123;refine(CM.out _ (Fr.same F1 (by repeat (first|exact Fr.refl _ _|apply Fr.drew)))).mono ?_;rintro e w2 ⟨rfl,F2⟩;have F3:Fr [] w w2:=F1.same (Fr.same (by repeat (first|exact Fr.refl _ _|apply Fr.drew)) F2);have ks:=KS.out w2 F3)
 refine hK.out _ _ ?_ (fun hHeld2=> ?_)
 ·first|assumption|exact KS.out _ (F1.same (Fr.refl _ _).drew)
 clear hK K hHeld
 try simp only[Act.put,List.getElem_toArray,List.getElem_cons_succ,List.getElem_cons_zero,List.setIfInBounds_toArray,List.set_cons_zero,List.set_cons_succ]
 refine' wpAnyH_take (i:=3) (v:=_) rfl (by kernel_rfl) (by kernel_rfl) (by kernel_rfl) (fun _ _ _ h=>h) (Or.inl ⟨by rfl, ?hy3⟩) ‹_› ?re3
 case hy3=>intro w hSw;(try dsimp only at hSw);go_simp;try with_reducible rfl
 try simp only[Act.put,List.getElem_toArray,List.getElem_cons_succ,List.getElem_cons_zero,List.setIfInBounds_toArray,List.set_cons_zero,List.set_cons_succ]
 refine' wpAnyH_take (i:=4) (v:=_) rfl (by kernel_rfl) (by kernel_rfl) (by kernel_rfl) (fun _ _ _ h=>h) (Or.inl ⟨by rfl, ?hy4⟩) ‹_› ?re4
 case hy4=>intro w hSw;(try dsimp only at hSw);go_simp;try with_reducible rfl
 try simp only[Act.put,List.getElem_toArray,List.getElem_cons_succ,List.getElem_cons_zero,List.setIfInBounds_toArray,List.set_cons_zero,List.set_cons_succ]
 refine' wpAnyH_take (i:=5) (v:=_) rfl (by kernel_rfl) (by kernel_rfl) (by kernel_rfl) (fun _ _ _ h=>h) (Or.inl ⟨by rfl, ?hy5⟩) ‹_› ?re5
 case hy5=>intro w hSw;(try dsimp only at hSw);go_simp;try with_reducible rfl
 try simp only[Act.put,List.getElem_toArray,List.getElem_cons_succ,List.getElem_cons_zero,List.setIfInBounds_toArray,List.set_cons_zero,List.set_cons_succ]
 refine' wpAnyH_take (i:=6) (v:=_) rfl (by kernel_rfl) (by kernel_rfl) (by kernel_rfl) (fun _ _ _ h=>h) (Or.inl ⟨by rfl, ?hy6⟩) ‹_› ?re6
 case hy6=>intro w hSw;(try dsimp only at hSw);go_simp;try with_reducible rfl
 try simp only[Act.put,List.getElem_toArray,List.getElem_cons_succ,List.getElem_cons_zero,List.setIfInBounds_toArray,List.set_cons_zero,List.set_cons_succ]
 refine' wpAnyH_take (i:=7) (v:=_) rfl (by kernel_rfl) (by kernel_rfl) (by kernel_rfl) (fun _ _ _ h=>h) (Or.inl ⟨by rfl, ?hy7⟩) ‹_› ?re7
 case hy7=>intro w hSw;(try dsimp only at hSw);go_simp;try with_reducible rfl
 try simp only[Act.put,List.getElem_toArray,List.getElem_cons_succ,List.getElem_cons_zero,List.setIfInBounds_toArray,List.set_cons_zero,List.set_cons_succ]
 refine' wpAnyH_take (i:=8) (v:=_) rfl (by kernel_rfl) (by kernel_rfl) (by kernel_rfl) (fun _ _ _ h=>h) (Or.inl ⟨by rfl, ?hy8⟩) ‹_› ?re8
 case hy8=>intro w hSw;(try dsimp only at hSw);go_simp;try with_reducible rfl
 try simp only[Act.put,List.getElem_toArray,List.getElem_cons_succ,List.getElem_cons_zero,List.setIfInBounds_toArray,List.set_cons_zero,List.set_cons_succ]
 refine' wpAnyH_take (i:=9) (v:=_) rfl (by kernel_rfl) (by kernel_rfl) (by kernel_rfl) (fun _ _ _ h=>h) (Or.inl ⟨by rfl, ?hy9⟩) ‹_› ?re9
 case hy9=>intro w hSw;(try dsimp only at hSw);go_simp;try with_reducible rfl
 try simp only[Act.put,List.getElem_toArray,List.getElem_cons_succ,List.getElem_cons_zero,List.setIfInBounds_toArray,List.set_cons_zero,List.set_cons_succ]
 refine' wpAnyH_take (i:=10) (v:=_) rfl (by kernel_rfl) (by kernel_rfl) (by kernel_rfl) (fun _ _ _ h=>h) (Or.inl ⟨by rfl, ?hy10⟩) ‹_› ?re10
 case hy10=>intro w hSw;(try dsimp only at hSw);go_simp;try with_reducible rfl
 try simp only[Act.put,List.getElem_toArray,List.getElem_cons_succ,List.getElem_cons_zero,List.setIfInBounds_toArray,List.set_cons_zero,List.set_cons_succ]
 refine' wpAnyH_take (i:=11) (v:=_) rfl (by kernel_rfl) (by kernel_rfl) (by kernel_rfl) (fun _ _ _ h=>h) (Or.inl ⟨by rfl, ?hy11⟩) ‹_› ?re11
 case hy11=>intro w hSw;(try dsimp only at hSw);go_simp;try with_reducible rfl
 try simp only[Act.put,List.getElem_toArray,List.getElem_cons_succ,List.getElem_cons_zero,List.setIfInBounds_toArray,List.set_cons_zero,List.set_cons_succ]
 refine' wpAnyH_take (i:=12) (v:=_) rfl (by kernel_rfl) (by kernel_rfl) (by kernel_rfl) (fun _ _ _ h=>h) (Or.inl ⟨by rfl, ?hy12⟩) ‹_› ?re12
 case hy12=>intro w hSw;(try dsimp only at hSw);go_simp;try with_reducible rfl
 try simp only[Act.put,List.getElem_toArray,List.getElem_cons_succ,List.getElem_cons_zero,List.setIfInBounds_toArray,List.set_cons_zero,List.set_cons_succ]
 refine' wpAnyH_take (i:=13) (v:=_) rfl (by kernel_rfl) (by kernel_rfl) (by kernel_rfl) (fun _ _ _ h=>h) (Or.inl ⟨by rfl, ?hy13⟩) ‹_› ?re13
 case hy13=>intro w hSw;(try dsimp only at hSw);go_simp;try with_reducible rfl
 try simp only[Act.put,List.getElem_toArray,List.getElem_cons_succ,List.getElem_cons_zero,List.setIfInBounds_toArray,List.set_cons_zero,List.set_cons_succ]
 refine' wpAnyH_take (i:=14) (v:=_) rfl (by kernel_rfl) (by kernel_rfl) (by kernel_rfl) (fun _ _ _ h=>h) (Or.inl ⟨by rfl, ?hy14⟩) ‹_› ?re14
 case hy14=>intro w hSw;(try dsimp only at hSw);go_simp;try with_reducible rfl
 try simp only[Act.put,List.getElem_toArray,List.getElem_cons_succ,List.getElem_cons_zero,List.setIfInBounds_toArray,List.set_cons_zero,List.set_cons_succ]
 refine' wpAnyH_take (i:=15) (v:=_) rfl (by kernel_rfl) (by kernel_rfl) (by kernel_rfl) (fun _ _ _ h=>h) (Or.inl ⟨by rfl, ?hy15⟩) ‹_› ?re15
 case hy15=>intro w hSw;(try dsimp only at hSw);go_simp;try with_reducible rfl
 try simp only[Act.put,List.getElem_toArray,List.getElem_cons_succ,List.getElem_cons_zero,List.setIfInBounds_toArray,List.set_cons_zero,List.set_cons_succ]
 refine' wpAnyH_take (i:=18) (v:=_) rfl (by kernel_rfl) (by kernel_rfl) (by kernel_rfl) (fun _ _ _ h=>h) (Or.inl ⟨by rfl, ?hy18⟩) ‹_› ?re18
 case hy18=>intro w hSw;(try dsimp only at hSw);go_simp;try with_reducible rfl
 try simp only[Act.put,List.getElem_toArray,List.getElem_cons_succ,List.getElem_cons_zero,List.setIfInBounds_toArray,List.set_cons_zero,List.set_cons_succ]
 refine' wpAnyH_take (i:=19) (v:=_) rfl (by kernel_rfl) (by kernel_rfl) (by kernel_rfl) (fun _ _ _ h=>h) (Or.inl ⟨by rfl, ?hy19⟩) ‹_› ?re19
 case hy19=>intro w hSw;(try dsimp only at hSw);go_simp;try with_reducible rfl
 try simp only[Act.put,List.getElem_toArray,List.getElem_cons_succ,List.getElem_cons_zero,List.setIfInBounds_toArray,List.set_cons_zero,List.set_cons_succ]
 refine' wpAnyH_take (i:=20) (v:=_) rfl (by kernel_rfl) (by kernel_rfl) (by kernel_rfl) (fun _ _ _ h=>h) (Or.inl ⟨by rfl, ?hy20⟩) ‹_› ?re20
 case hy20=>intro w hSw;(try dsimp only at hSw);go_simp;try with_reducible rfl
 try simp only[Act.put,List.getElem_toArray,List.getElem_cons_succ,List.getElem_cons_zero,List.setIfInBounds_toArray,List.set_cons_zero,List.set_cons_succ]
 refine' wpAnyH_take (i:=21) (v:=_) rfl (by kernel_rfl) (by kernel_rfl) (by kernel_rfl) (fun _ _ _ h=>h) (Or.inl ⟨by rfl, ?hy21⟩) ‹_› ?re21
 case hy21=>intro w hSw;(try dsimp only at hSw);go_simp;try with_reducible rfl
 try simp only[Act.put,List.getElem_toArray,List.getElem_cons_succ,List.getElem_cons_zero,List.setIfInBounds_toArray,List.set_cons_zero,List.set_cons_succ]
 refine wpAnyH_ready (rs:=[16]) (by kernel_rfl) (by simp) ?_;refine AllReadyH.cons rfl (fun K hK=> ?_) AllReadyH.nil
 go_simp
 (go_at_call 82;refine(CA.out _ F3).mono ?_;rintro e w3 ⟨rfl,rfl⟩)
 refine hK.out _ _ ?_ (fun hHeld3=> ?_)
 ·first|assumption|exact KS.out _ (F1.same (Fr.refl _ _).drew)
 clear hK K hHeld2
 try simp only[Act.put,List.getElem_toArray,List.getElem_cons_succ,List.getElem_cons_zero,List.setIfInBounds_toArray,List.set_cons_zero,List.set_cons_succ]
 refine wpAnyH_ready (rs:=[17]) (by kernel_rfl) (by simp) ?_;refine AllReadyH.cons rfl (fun K hK=> ?_) AllReadyH.nil
 go_simp
 (go_at_call 85;refine(CE.out _ F3).mono ?_;rintro e w4 ⟨rfl,F4⟩;have F5:Fr [] w w4:=F3.same F4;have ks4:=KS.out w4 F5)
 refine hK.out _ _ ?_ (fun hHeld4=> ?_)
 ·first|assumption|exact KS.out _ (F1.same (Fr.refl _ _).drew)
 clear hK K hHeld3
 try simp only[Act.put,List.getElem_toArray,List.getElem_cons_succ,List.getElem_cons_zero,List.setIfInBounds_toArray,List.set_cons_zero,List.set_cons_succ]
 refine' wpAnyH_take (i:=22) (v:=_) rfl (by kernel_rfl) (by kernel_rfl) (by kernel_rfl) (fun _ _ _ h=>h) (Or.inl ⟨by rfl, ?hy22⟩) ‹_› ?re22
 case hy22=>intro w hSw;(try dsimp only at hSw);go_simp;try with_reducible rfl
 try simp only[Act.put,List.getElem_toArray,List.getElem_cons_succ,List.getElem_cons_zero,List.setIfInBounds_toArray,List.set_cons_zero,List.set_cons_succ]
 refine' wpAnyH_take (i:=23) (v:=_) rfl (by kernel_rfl) (by kernel_rfl) (by kernel_rfl) (fun _ _ _ h=>h) (Or.inl ⟨by rfl, ?hy23⟩) ‹_› ?re23
 case hy23=>intro w hSw;(try dsimp only at hSw);go_simp;try with_reducible rfl
 try simp only[Act.put,List.getElem_toArray,List.getElem_cons_succ,List.getElem_cons_zero,List.setIfInBounds_toArray,List.set_cons_zero,List.set_cons_succ]
 refine' wpAnyH_take (i:=24) (v:=_) rfl (by kernel_rfl) (by kernel_rfl) (by kernel_rfl) (fun _ _ _ h=>h) (Or.inl ⟨by rfl, ?hy24⟩) ‹_› ?re24
 case hy24=>intro w hSw;(try dsimp only at hSw);go_simp;try with_reducible rfl
 try simp only[Act.put,List.getElem_toArray,List.getElem_cons_succ,List.getElem_cons_zero,List.setIfInBounds_toArray,List.set_cons_zero,List.set_cons_succ]
 refine wpAnyH_done (by kernel_rfl) ?_ _;have F6:=Lib.hid F5;clear CS CM KS;go_wp2_with fail;refine(CV.out _ F6.out).mono ?_;rintro e w6 hd;have he:=hd.1;subst he;have HD:=Lib.hid hd;obtain⟨q3,q7,qf⟩:=KT.out _ _ F6.out hd.2.2;have qf3:=qf 3;have qf7:=qf 7;clear qf hd CV KT;cases o with
 |none=>
  have E:=Lib.hid (D0.out _ _ _ HQ.out F6.out HD.out);clear D0 D1 HQ HD;simp only[zM];go_wp2;go_ret2;exact E.out
 |some y=>
  have E:=Lib.hid (D1.out _ _ _ _ HQ.out F6.out HD.out);have hz3:=hzM.out y rfl;clear D0 D1 HQ HD hzM;simp only[zM];go_wp2;go_ret2;exact E.out
theorem move_c(h:TrAt w c m n cl wv T)(x:Int)(hx:x%8=1)(x0:0≤x)(x1:x<18446744073709551616)(hv:0≤T.moved∧T.moved<2000000):
 Calls Tryz.prog 111 #[.pointer (some ⟨c.tb,0,none⟩),.int .u64 x] w (MvDone c m n cl wv w (moveT cl m T x)):=by
 have same: ∀w',(mvB cl T.A m x=false∨T.noRoom m x=true)→Fr [] w w'→MvDone c m n cl wv w (moveT cl m T x) (.returned (.tuple #[.int .u64 x,.bool false])) w':=by
  intro w' hc hF;unfold moveT;rw[if_pos (by rcases hc with h|h<;>simp[h])];exact⟨rfl,h.keep hF,hF.mono (by simp)⟩
 by_cases hm:mvB cl T.A m x=true
 ·by_cases hl:T.left<szI T.A m x+1
  ·by_cases he:(zW T.A.lines m:Int)≤T.least
   ·refine(move_full h x hx x0 x1 hm hl he).mono ?_;rintro e w' ⟨rfl,hF⟩;exact same w' (.inr (by unfold Tr.noRoom;simp;omega)) hF
   ·exact move_r h x hx x0 x1 hm hl he hv
  ·exact move_b h x hx x0 x1 hm hl hv
 ·refine(move_no h x hx x0 x1 (by simpa using hm)).mono ?_;rintro e w' ⟨rfl,hF⟩;exact same w' (.inl (by simpa using hm)) hF
end
end Go.Proofs.YtghkahcogphomaaGreat
