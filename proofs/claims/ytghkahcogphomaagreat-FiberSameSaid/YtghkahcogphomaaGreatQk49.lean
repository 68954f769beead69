/- Fibers: a part of the walk. No condition. -/
import Derived.Test.YtghkahcogphomaaGreatQk48
import Derived.Lib.SmallJoins
set_option linter.all false
namespace Go.Proofs.YtghkahcogphomaaGreat
section
open Go.ChangeShapes Go.WideShapes Go.RowKit
variable{w w':World}
def SameCut(w:World)(kb:Nat)(cs:Array Value)(s3 s4:Value)(wx:World):Prop:= ∃fb,s3=.pointer (some ⟨kb,0,none⟩)∧s4=.pointer (some ⟨fb,0,none⟩)∧w.heap.size≤fb∧Fr [] w wx∧blk wx fb=some (.cells cs 100 (0,0))
set_option maxRecDepth 100000 in
set_option maxHeartbeats 8000000 in
theorem same_w(w:World)(xb kb:Nat)(v0 tv:Value)(fa ta:Option Addr)(fn fc tn tc:Nat)(full:Bool)(hb:Hid (blk w xb=some (.cells #[v0,.pointer (some ⟨kb,0,none⟩),tv,.slice fa fn fc,.slice ta tn tc,.bool full] 42 (0,0)))){KX:World→Prop}(B:List Nat)(HB:Hid (xb∉B∧∀x,x∈B→x<w.heap.size))(K0:Hid (∀W,Fr [] w W→KX W))(KXm:Hid (∀W W',KX W→Fr [] W W'→KX W'))(nf cl pc rm:Int)(sa qa:Option Addr)(sn sc wn qc:Nat)(slots:List Int)(hsl:slots.length=sn)(hsn:sn≤100000)(hsc:sn≤sc)
 (CU:Hid (∀W,Fr [] w W→Calls Tryz.prog 53 #[.agg #[.slice fa fn fc,.slice ta tn tc]] W fun e w'=>e=.returned (.agg #[.int .u64 cl,.int .i64 pc,.int .i64 rm,.slice sa sn sc,.slice qa wn qc])∧Hid (Fr [] W w')))
 (CF:Hid (∀W,KX W→Calls Tryz.prog 54 #[.pointer (some ⟨kb,0,none⟩)] W fun e w'=>e=.returned (.int .i64 nf)∧KX w'∧Fr B W w')) (CM:Hid (∀W,KX W→Calls Tryz.prog 55 #[.agg #[.slice fa fn fc,.slice ta tn tc]] W fun e w'=>e=.returned (.int .i64 nf)∧KX w'∧Fr B W w')) (CB:Hid (∀W,KX W→Calls Tryz.prog 10 #[.pointer (some ⟨kb,0,none⟩)] W fun e w'=>e=.returned (.int .i64 (fn:Int))∧KX w'∧Fr B W w')) (CC:Hid (∀W,KX W→Calls Tryz.prog 56 #[.pointer (some ⟨kb,0,none⟩)] W fun e w'=>e=.returned (.int .u64 cl)∧KX w'∧Fr B W w')) (CP:Hid (∀W,KX W→Calls Tryz.prog 57 #[.pointer (some ⟨kb,0,none⟩)] W fun e w'=>e=.returned (.int .i64 pc)∧KX w'∧Fr B W w')) (CW:Hid (∀W,KX W→Calls Tryz.prog 58 #[.pointer (some ⟨kb,0,none⟩)] W fun e w'=>e=.returned (.int .i64 (wn:Int))∧KX w'∧Fr B W w'))
 (CS:Hid (∀W (i:Nat) (v:Int),KX W→slots[i]? =some v→Calls Tryz.prog 59 #[.pointer (some ⟨kb,0,none⟩),.int .i64 (i:Int)] W fun e w'=>e=.returned (.int .u64 v)∧KX w'∧Fr B W w')) (CSn:Hid (∀W,KX W→Calls Tryz.prog 59 #[.pointer (some ⟨kb,0,none⟩),.int .i64 (sn:Int)] W fun e w'=>e=.returned (.int .u64 45)∧KX w'∧Fr B W w')) (CSm:Hid (∀W,KX W→Calls Tryz.prog 59 #[.pointer (some ⟨kb,0,none⟩),.int .i64 (-1)] W fun e w'=>e=.returned (.int .u64 45)∧KX w'∧Fr B W w'))
 (FB:Hid (∀W,KX W→Fr B w W))
 (RD:Hid (∀W,KX W→sn=0∨∃g o,sa=some ⟨g,o,none⟩∧∀i v,slots[i]? =some v→g<W.heap.size∧W.cell? ⟨g,o+i,none⟩=some (.int .u64 v))):
 Calls Tryz.prog 11 #[.pointer (some ⟨xb,0,none⟩)] w fun e w'=>e=.returned (.bool true)∧KX w':=by
 have x1:=zA hb.out (i:=1) rfl;have x3:=zA hb.out (i:=3) rfl;have x4:=zA hb.out (i:=4) rfl;have hxl:=zF hb.out;have HSL:=Lib.hid hsl;clear hsl;go_enter Tryz.func11,Tryz.ntmps11;go_upto_region 1 with fail
 go_cut [3,4] (fun s3 s4 wx=>SameCut w kb #[.int .u64 cl,.int .i64 pc,.int .i64 rm,.slice sa sn sc,.slice qa wn qc] s3 s4 wx)
 case first=>
  have K1:Hid (∀W,Fr [] w W→W.cell? ⟨xb,1,none⟩=some (.pointer (some ⟨kb,0,none⟩))∧W.cell? ⟨xb,3,none⟩=some (.slice fa fn fc)∧W.cell? ⟨xb,4,none⟩=some (.slice ta tn tc)):=Lib.hid (fun W hF=>by
   have q:=hF.at hb.out (by simp);exact⟨zA q (i:=1) rfl,zA q (i:=3) rfl,zA q (i:=4) rfl⟩)
  have ST:=K1.out _ (Fr.refl _ _);clear hb x1 x3 x4;go_region_held3 (fun W=>W.cell? ⟨xb,1,none⟩=some (.pointer (some ⟨kb,0,none⟩))∧W.cell? ⟨xb,3,none⟩=some (.slice fa fn fc)∧W.cell? ⟨xb,4,none⟩=some (.slice ta tn tc)) (first|(with_reducible first|assumption|exact K1.out _ ((Fr.refl _ _).drew)|exact K1.out _ (((Fr.refl _ _).alloc _).drew)|exact K1.out _ G4.out|exact K1.out _ (G4.out.alloc _)|exact K1.out _ (((((G4.out.setCell (.inr (Nat.le_refl _)) _).setCell (.inr (Nat.le_refl _)) _).setCell (.inr (Nat.le_refl _)) _).setCell (.inr (Nat.le_refl _)) _).setCell (.inr (Nat.le_refl _)) _))) (first|(go_at_call 53;have Q1:Fr [] w w.drew:=(Fr.refl _ _).drew;refine(CU.out w.drew Q1).mono ?_;rintro e w4 ⟨rfl,hF4⟩;have G4:Hid (Fr [] w w4):=Lib.hid (Q1.trans hF4.out (by simp));clear Q1)|(go_at_call 53;have Q1:Fr [] w ((w.alloc (.cells #[.int .u64 0,.int .i64 0,.int .i64 0,.slice none 0 0,.slice none 0 0] 100)).drew):=((Fr.refl _ _).alloc _).drew;refine(CU.out ((w.alloc (.cells #[.int .u64 0,.int .i64 0,.int .i64 0,.slice none 0 0,.slice none 0 0] 100)).drew) Q1).mono ?_;rintro e w4 ⟨rfl,hF4⟩;have G4:Hid (Fr [] w w4):=Lib.hid (Q1.trans hF4.out (by simp));have qb:blk w4 w.heap.size=some (.cells #[.int .u64 0,.int .i64 0,.int .i64 0,.slice none 0 0,.slice none 0 0] 100 (0,0)):=(hF4.out.at (show blk (World.alloc w _) w.heap.size=_ from by rw[zB,if_pos rfl]) (by simp));have z0:=zA qb (i:=0) rfl;have zf0:=zE qb (i:=0);have z1:=zA qb (i:=1) rfl;have zf1:=zE qb (i:=1);have z2:=zA qb (i:=2) rfl;have zf2:=zE qb (i:=2);have z3:=zA qb (i:=3) rfl;have zf3:=zE qb (i:=3);have z4:=zA qb (i:=4) rfl;have zf4:=zE qb (i:=4);have QB:=Lib.hid qb;clear Q1 qb))
  all_goals
   go_wp2_with fail;go_meet
   first
   |exact⟨w4.heap.size,rfl,rfl,G4.out.size,G4.out.alloc _,by rw[zB,if_pos rfl]⟩
   |exact⟨w.heap.size,rfl,rfl,Nat.le_refl _,(((((G4.out.setCell (.inr (Nat.le_refl _)) _).setCell (.inr (Nat.le_refl _)) _).setCell (.inr (Nat.le_refl _)) _).setCell (.inr (Nat.le_refl _)) _).setCell (.inr (Nat.le_refl _)) _),by rw[zD,if_pos rfl,zD,if_pos rfl,zD,if_pos rfl,zD,if_pos rfl,zD,if_pos rfl,QB.out];rfl⟩
 case rest=>
  obtain⟨fb,rfl,rfl,hfb,hF,hP⟩:=hcut;have HFB:=Lib.hid hfb;have FC:=Lib.hid hF;have PF:=Lib.hid hP;have PX:=Lib.hid (FC.out.at hb.out (by simp))
  obtain⟨KY,KY0,KYm,KEEP,CF2,CM2,CB2,CC2,CP2,CW2,CS2,CN2,CO2,RD2,KYX⟩: ∃KY:World→Prop,KY wc∧Hid (∀W W',KY W→Fr [] W W'→KY W')∧Hid (∀W,KY W→(W.cell? ⟨xb,3,none⟩=some (.slice fa fn fc)∧W.cell? ⟨xb,4,none⟩=some (.slice ta tn tc)∧W.cell? ⟨fb,0,none⟩=some (.int .u64 cl)∧W.cell? ⟨fb,1,none⟩=some (.int .i64 pc)∧W.cell? ⟨fb,4,none⟩=some (.slice qa wn qc))∧blk W fb=blk wc fb)∧
   Hid (∀W,KY W→Calls Tryz.prog 54 #[.pointer (some ⟨kb,0,none⟩)] W fun e w'=>e=.returned (.int .i64 nf)∧KY w')∧
   Hid (∀W,KY W→Calls Tryz.prog 55 #[.agg #[.slice fa fn fc,.slice ta tn tc]] W fun e w'=>e=.returned (.int .i64 nf)∧KY w')∧
   Hid (∀W,KY W→Calls Tryz.prog 10 #[.pointer (some ⟨kb,0,none⟩)] W fun e w'=>e=.returned (.int .i64 (fn:Int))∧KY w')∧
   Hid (∀W,KY W→Calls Tryz.prog 56 #[.pointer (some ⟨kb,0,none⟩)] W fun e w'=>e=.returned (.int .u64 cl)∧KY w')∧
   Hid (∀W,KY W→Calls Tryz.prog 57 #[.pointer (some ⟨kb,0,none⟩)] W fun e w'=>e=.returned (.int .i64 pc)∧KY w')∧
   Hid (∀W,KY W→Calls Tryz.prog 58 #[.pointer (some ⟨kb,0,none⟩)] W fun e w'=>e=.returned (.int .i64 (wn:Int))∧KY w')∧
   Hid (∀W (i:Nat) (v:Int),KY W→slots[i]? =some v→Calls Tryz.prog 59 #[.pointer (some ⟨kb,0,none⟩),.int .i64 (i:Int)] W fun e w'=>e=.returned (.int .u64 v)∧KY w')∧
   Hid (∀W,KY W→Calls Tryz.prog 59 #[.pointer (some ⟨kb,0,none⟩),.int .i64 (sn:Int)] W fun e w'=>e=.returned (.int .u64 45)∧KY w')∧
   Hid (∀W,KY W→Calls Tryz.prog 59 #[.pointer (some ⟨kb,0,none⟩),.int .i64 (-1)] W fun e w'=>e=.returned (.int .u64 45)∧KY w')∧
   Hid (∀W,KY W→sn=0∨∃g o,sa=some ⟨g,o,none⟩∧∀i v,slots[i]? =some v→g<W.heap.size∧W.cell? ⟨g,o+i,none⟩=some (.int .u64 v))∧
   Hid (∀W,KY W→KX W):=by
   refine⟨fun W=>KX W∧Fr B wc W,⟨K0.out _ FC.out,Fr.refl _ _⟩,Lib.hid fun W W' h hF=>⟨KXm.out _ _ h.1 hF,h.2.trans hF (by simp)⟩,Lib.hid fun W h=> ?_,Lib.hid fun W h=>(CF.out W h.1).mono (by rintro e w' ⟨q1,q2,q3⟩;exact⟨q1,q2,h.2.same q3⟩),Lib.hid fun W h=>(CM.out W h.1).mono (by rintro e w' ⟨q1,q2,q3⟩;exact⟨q1,q2,h.2.same q3⟩),Lib.hid fun W h=>(CB.out W h.1).mono (by rintro e w' ⟨q1,q2,q3⟩;exact⟨q1,q2,h.2.same q3⟩),Lib.hid fun W h=>(CC.out W h.1).mono (by rintro e w' ⟨q1,q2,q3⟩;exact⟨q1,q2,h.2.same q3⟩),Lib.hid fun W h=>(CP.out W h.1).mono (by rintro e w' ⟨q1,q2,q3⟩;exact⟨q1,q2,h.2.same q3⟩),Lib.hid fun W h=>(CW.out W h.1).mono (by rintro e w' ⟨q1,q2,q3⟩;exact⟨q1,q2,h.2.same q3⟩),Lib.hid fun W i v h hi=>(CS.out W i v h.1 hi).mono (by rintro e w' ⟨q1,q2,q3⟩;exact⟨q1,q2,h.2.same q3⟩),Lib.hid fun W h=>(CSn.out W h.1).mono (by rintro e w' ⟨q1,q2,q3⟩;exact⟨q1,q2,h.2.same q3⟩),Lib.hid fun W h=>(CSm.out W h.1).mono (by rintro e w' ⟨q1,q2,q3⟩;exact⟨q1,q2,h.2.same q3⟩),Lib.hid fun W h=>RD.out W h.1,Lib.hid fun W h=>h.1⟩
   ·have q1:=h.2.at PX.out HB.out.1;have hnf:fb∉B:=fun hc=>by have:=HB.out.2 _ hc;have:=HFB.out;omega
    have q2:=h.2.at PF.out hnf;exact⟨⟨zA q1 (i:=3) rfl,zA q1 (i:=4) rfl,zA q2 (i:=0) rfl,zA q2 (i:=1) rfl,zA q2 (i:=4) rfl⟩,by rw[q2,PF.out]⟩
  have KYd:=KYm.out _ _ KY0 (Fr.refl _ _).drew;have ST:=(KEEP.out _ KY0).1;have bn:(nf !=nf)=false:=by simp
  have bf:((fn:Int) !=(fn:Int))=false:=by simp
  have bc:(cl !=cl)=false:=by simp
  have bp:(pc !=pc)=false:=by simp
  have bw:((wn:Int) !=(wn:Int))=false:=by simp
  have KYM:Hid (∀W,KY W→KY W.drew):=Lib.hid fun W h=>KYm.out _ _ h (Fr.refl _ _).drew
  clear hb PX FC hfb hF hP CF CM CB CC CP CW CS CSn CSm CU K0 KXm;go_wp2_with fail;go_region_held3 (fun W=>W.cell? ⟨xb,3,none⟩=some (.slice fa fn fc)∧W.cell? ⟨xb,4,none⟩=some (.slice ta tn tc)∧W.cell? ⟨fb,0,none⟩=some (.int .u64 cl)∧W.cell? ⟨fb,1,none⟩=some (.int .i64 pc)∧W.cell? ⟨fb,4,none⟩=some (.slice qa wn qc)) (first|with_reducible assumption|exact(KEEP.out _ ‹_›).1) (first|(go_at_call 54;refine(CF2.out _ ‹_›).mono ?_;rintro e wa ⟨rfl,KYa⟩)|(go_at_call 55;refine(CM2.out _ ‹_›).mono ?_;rintro e wb ⟨rfl,KYb⟩)|(go_at_call 10;refine(CB2.out _ ‹_›).mono ?_;rintro e we ⟨rfl,KYe⟩)|(go_at_call 56;refine(CC2.out _ ‹_›).mono ?_;rintro e wf ⟨rfl,KYf⟩)|(go_at_call 57;refine(CP2.out _ ‹_›).mono ?_;rintro e wg ⟨rfl,KYg⟩)|(go_at_call 58;refine(CW2.out _ ‹_›).mono ?_;rintro e wh ⟨rfl,KYh⟩))
  all_goals
   have HK:=Lib.hid KYh;have F3:Hid (∀W,KY W→W.cell? ⟨fb,3,none⟩=some (.slice sa sn sc)):=Lib.hid (fun W h=>zA (((KEEP.out W h).2).trans PF.out) (i:=3) rfl);have f3:=F3.out _ KYh;clear bn bf bc bp bw ST KYd KYa KYb KYe KYf KYg KYh KY0;go_upto_region 5 with fail
   clear f3;go_loopw [60] (fun i wr=> ∃j:Nat,j≤sn∧i=.int .i64 (j:Int)∧Hid (KY wr)) (fun y _=>sn-(intOf y).toNat)
   case atStart=>exact⟨0,Nat.zero_le _,rfl,HK⟩
   case round=>
    obtain⟨j,hj,rfl,hK⟩:=hrel;clear HK;by_cases hlt:j<sn
    ·obtain⟨v,hv⟩: ∃v,slots[j]? =some v:=⟨slots[j]'(by rw[HSL.out];exact hlt),by simp⟩;rcases RD2.out _ hK.out with h0|⟨g,o,hsa,hcell⟩
     ·omega
     ·obtain⟨hgl,d0⟩:=hcell j v hv;have HV:=Lib.hid hv;have bv:(v !=v)=false:=by simp
      rw[hsa];clear hcell hv hsa;go_wp2_with (go_at_call 59;refine(CS2.out _ j v hK.out HV.out).mono ?_;rintro e wq ⟨rfl,hq⟩;have HQ:=Lib.hid hq;clear hq);go_roundw
      case rel=>exact⟨j+1,by omega,by rw[Int.natCast_add];rfl,HQ⟩
      case measure=>show sn-((j:Int)+1).toNat<sn-(j:Int).toNat;omega
    ·obtain rfl:j=sn:=by omega
     have f3:=F3.out _ hK.out;have tok:Hid True:=Lib.hid trivial;go_wp2_with (first|(go_at_call 38;refine(none20_c _).mono ?_;rintro e w' ⟨rfl,rfl⟩)|(clear tok;go_at_call 59;refine(CN2.out _ hK.out).mono ?_;rintro e wq ⟨rfl,hq⟩;have HQ:=Lib.hid hq;clear hq)|(go_at_call 59;refine(CO2.out _ HQ.out).mono ?_;rintro e ws ⟨rfl,hq⟩;have HR:=Lib.hid hq;clear hq));go_ret;exact⟨rfl,KYX.out _ HR.out⟩
end
section
open Go.ChangeShapes Go.WideShapes Go.RowKit
variable{w w1 w2 w5 w':World}{Y Y':List Nat}{xb:Nat}{c:Sk}{k k':PK}{rs rs':List Int}{tv tv':Value}{s t s' t':SV}{full full':Bool}{p:PF}{l:List PF}
theorem doc_frames(w:World)(h:MdR Y w s t k)(hX: ∀z,z∈Y→z<w.heap.size)(hf:Fit k)(hk:k.fs=p::l):
 Calls Tryz.prog 55 #[.agg #[.slice s.a s.n s.cap,.slice t.a t.n t.cap]] w fun e w'=>e=.returned (.int .i64 (p.fr.length:Int))∧Fr [] w w':=by
 obtain⟨L,x,hL,hp,hb,hll⟩:=md_top h hk;have hm:L.length≤1000000:=by have:=hf.1;rw[hk]at this;simp at this;omega
 have hxl:x.F.length=p.fr.length:=by have:=congrArg List.length (hb.2 x (by simp)).e;rw[hp]at this;simpa using this
 have:=(cf_at (t:=t) hb hX hm).out w (Fr.refl _ _);rw[hxl]at this;exact this
theorem doc_current_no(w:World)(h:MdR Y w s t k)(hf:Fit k)(hk:k.fs=p::l)(hfr:p.fr=[]):
 Calls Tryz.prog 53 #[.agg #[.slice s.a s.n s.cap,.slice t.a t.n t.cap]] w fun e w'=>e=.returned (.agg #[.int .u64 45,.int .i64 0,.int .i64 0,.slice none 0 0,.slice none 0 0])∧Fr [] w w':=by
 obtain⟨L,x,hL,hp,hb,hll⟩:=md_top h hk;have hm:L.length≤1000000:=by have:=hf.1;rw[hk]at this;simp at this;omega
 exact(cu_none (t:=t) hb hm (no_fr (hb.2 x (by simp)) (by rw[hp];exact hfr))).out w (Fr.refl _ _)
theorem doc_current_yes(h:MdR Y w s t k)(hf:Fit k)(hk:k.fs=p::l){f:Frm}{r:List Frm}(hfr:p.fr=f::r):
 ∃sv qv:SV,WsR Y w sv f.slots∧WsR Y w qv f.words∧∀W,Fr [] w W→Calls Tryz.prog 53 #[.agg #[.slice s.a s.n s.cap,.slice t.a t.n t.cap]] W fun e w'=>e=.returned (.agg #[.int .u64 f.cl,.int .i64 f.pc,.int .i64 (f.room:Int),.slice sv.a sv.n sv.cap,.slice qv.a qv.n qv.cap])∧Fr [] W w':=by
 obtain⟨L,x,hL,hp,hb,hll⟩:=md_top h hk;have hm:L.length≤1000000:=by have:=hf.1;rw[hk]at this;simp at this;omega
 have hx:=hb.2 x (by simp);obtain⟨Z,z,hz,hzf,hzo⟩:=top_fr hx (by rw[hp];exact hfr);have hs:=fit_sz hf hk hx hp;have hj:Z.length≤100000000:=by have:=hs.1;rw[hz]at this;simp at this;omega
 refine⟨z.s,z.q,by rw[←hzf];exact hzo.1,by rw[←hzf];exact hzo.2,fun W hW=> ?_⟩;rw[←hzf];exact(cu_at (t:=t) hb hm hz hj).out W hW
theorem same_c(h:RunAt Y w xb c k rs tv s t full):Calls Tryz.prog 11 #[.pointer (some ⟨xb,0,none⟩)] w fun e w'=>e=.returned (.bool true)∧RunAt Y w' xb c k rs tv s t full∧Fr c.own w w':=by
 obtain⟨p,l,htop⟩:=h.top;have hsz:=h.szs;have hfn:=md_fs h.hm;have mdw: ∀W,Fr c.own w W→MdR Y W s t k:=fun W hF=>h.hm.fr hF h.ownY
 have ltw: ∀W,Fr c.own w W→∀y,y∈Y→y<W.heap.size:=fun W hF y hy=>Nat.lt_of_lt_of_le (h.lt y hy) hF.size
 have fin: ∀W,Fr c.own w W∧Ks W W c Y k rs→RunAt Y W xb c k rs tv s t full∧Fr c.own w W:=fun W hW=>
  ⟨h.go hW.1.size (hW.1.at h.hx (fun hc=>h.xc (zm hc))) hW.2 (mdw W hW.1) (h.tkf hW.1 (fun x hx=> .inl (zm hx))),hW.1⟩
 have k0:Hid (∀W,Fr [] w W→Fr c.own w W∧Ks W W c Y k rs):=Lib.hid fun W hF=>⟨hF.mono (by simp),h.ks hF⟩
 have km:Hid (∀W W',(Fr c.own w W∧Ks W W c Y k rs)→Fr [] W W'→Fr c.own w W'∧Ks W' W' c Y k rs):=Lib.hid fun W W' hW hF=>⟨hW.1.trans hF (by simp),(hW.2.keep hF).base⟩
 have cf:Hid (∀W,(Fr c.own w W∧Ks W W c Y k rs)→Calls Tryz.prog 54 #[.pointer (some ⟨c.kb,0,none⟩)] W fun e w'=>e=.returned (.int .i64 (p.fr.length:Int))∧(Fr c.own w w'∧Ks w' w' c Y k rs)∧Fr c.own W w'):=Lib.hid fun W hW=>(ks_frames hW.2 h.cm).mono (by
  rintro e w' ⟨rfl,hk⟩;exact⟨by rw[htop];rfl,⟨hW.1.same hk.frw,hk.base⟩,hk.frw⟩)
 have cm:Hid (∀W,(Fr c.own w W∧Ks W W c Y k rs)→Calls Tryz.prog 55 #[.agg #[.slice s.a s.n s.cap,.slice t.a t.n t.cap]] W fun e w'=>e=.returned (.int .i64 (p.fr.length:Int))∧(Fr c.own w w'∧Ks w' w' c Y k rs)∧Fr c.own W w'):=Lib.hid fun W hW=>(doc_frames W (mdw W hW.1) (ltw W hW.1) hsz.fit htop).mono (by
  rintro e w' ⟨rfl,hF⟩;exact⟨rfl,⟨hW.1.trans hF (by simp),(hW.2.keep hF).base⟩,hF.mono (by simp)⟩)
 have cb:Hid (∀W,(Fr c.own w W∧Ks W W c Y k rs)→Calls Tryz.prog 10 #[.pointer (some ⟨c.kb,0,none⟩)] W fun e w'=>e=.returned (.int .i64 (s.n:Int))∧(Fr c.own w w'∧Ks w' w' c Y k rs)∧Fr c.own W w'):=Lib.hid fun W hW=>(ks_fibers hW.2 h.cm).mono (by
  rintro e w' ⟨rfl,hk⟩;exact⟨by rw[hfn],⟨hW.1.same hk.frw,hk.base⟩,hk.frw⟩)
 have cc:Hid (∀W,(Fr c.own w W∧Ks W W c Y k rs)→Calls Tryz.prog 56 #[.pointer (some ⟨c.kb,0,none⟩)] W fun e w'=>e=.returned (.int .u64 (((curP k).map Frm.cl).getD 45))∧(Fr c.own w w'∧Ks w' w' c Y k rs)∧Fr c.own W w'):=Lib.hid fun W hW=>(ks_closure hW.2).mono (by
  rintro e w' ⟨rfl,hk⟩;exact⟨rfl,⟨hW.1.same hk.frw,hk.base⟩,hk.frw⟩)
 have cp:Hid (∀W,(Fr c.own w W∧Ks W W c Y k rs)→Calls Tryz.prog 57 #[.pointer (some ⟨c.kb,0,none⟩)] W fun e w'=>e=.returned (.int .i64 (((curP k).map Frm.pc).getD 0))∧(Fr c.own w w'∧Ks w' w' c Y k rs)∧Fr c.own W w'):=Lib.hid fun W hW=>(ks_pc hW.2).mono (by
  rintro e w' ⟨rfl,hk⟩;exact⟨rfl,⟨hW.1.same hk.frw,hk.base⟩,hk.frw⟩)
 have cw:Hid (∀W,(Fr c.own w W∧Ks W W c Y k rs)→Calls Tryz.prog 58 #[.pointer (some ⟨c.kb,0,none⟩)] W fun e w'=>e=.returned (.int .i64 (((curP k).map fun f=>(f.words.length:Int)).getD 0))∧(Fr c.own w w'∧Ks w' w' c Y k rs)∧Fr c.own W w'):=Lib.hid fun W hW=>(ks_words hW.2).mono (by
  rintro e w' ⟨rfl,hk⟩;exact⟨rfl,⟨hW.1.same hk.frw,hk.base⟩,hk.frw⟩)
 have cs: ∀(i:Int), -1000000≤i→i≤1000000→∀W,(Fr c.own w W∧Ks W W c Y k rs)→Calls Tryz.prog 59 #[.pointer (some ⟨c.kb,0,none⟩),.int .i64 i] W fun e w'=>e=.returned (.int .u64 (match curP k with|none=>45|some f=>if i<0∨(f.slots.length:Int)≤i then 45 else f.slots[i.toNat]?.getD 0))∧(Fr c.own w w'∧Ks w' w' c Y k rs)∧Fr c.own W w':=fun i i0 i1 W hW=>(ks_slot hW.2 i i0 i1).mono (by
  rintro e w' ⟨rfl,hk⟩;exact⟨rfl,⟨hW.1.same hk.frw,hk.base⟩,hk.frw⟩)
 cases hfr:p.fr with
 |nil=>
  have hcur:curP k=none:=by unfold curP;rw[htop];simp[hfr]
  rw[hcur]at cc cp cw cs;refine(same_w w xb c.kb _ tv s.a t.a s.n s.cap t.n t.cap full h.hb (KX:=fun W=>Fr c.own w W∧Ks W W c Y k rs) c.own h.own k0 km (p.fr.length:Int) 45 0 0 none none 0 0 0 0 [] rfl (by omega) (by omega) (Lib.hid fun W hF=> ?_) cf cm cb cc cp cw (Lib.hid fun W i v hW hi=>by simp at hi) (Lib.hid (cs 0 (by omega) (by omega))) (Lib.hid (cs (-1) (by omega) (by omega))) (Lib.hid fun W hW=>hW.1) (Lib.hid fun W hW=> .inl rfl)).mono ?_
  ·refine(doc_current_no W (h.md hF) hsz.fit htop hfr).mono ?_;rintro e w' ⟨rfl,hF'⟩;exact⟨rfl,Lib.hid hF'⟩
  ·rintro e w' ⟨rfl,hW⟩;exact⟨rfl,fin _ hW⟩
 |cons f r=>
  have hcur:curP k=some f:=by unfold curP;rw[htop];simp[hfr]
  rw[hcur]at cc cp cw cs;obtain⟨sv,qv,wsl,wwl,hcall⟩:=doc_current_yes h.hm hsz.fit htop hfr;have hsn:sv.n=f.slots.length:=wsl.ne;have hqn:qv.n=f.words.length:=wwl.ne
  have hfs:f.slots.length≤240:=by
   have h1:=hsz.fit.2 p (by rw[htop];simp);exact(h1.2 f (by rw[hfr];simp)).1
  have hcp:sv.n≤sv.cap:=wsl.cp.1;have cw':=cw;rw[show((Option.map (fun f:Frm=>(f.words.length:Int)) (some f)).getD 0)=(qv.n:Int) by rw[hqn];rfl]at cw';refine(same_w w xb c.kb _ tv s.a t.a s.n s.cap t.n t.cap full h.hb (KX:=fun W=>Fr c.own w W∧Ks W W c Y k rs) c.own h.own k0 km (p.fr.length:Int) f.cl f.pc (f.room:Int) sv.a qv.a sv.n sv.cap qv.n qv.cap f.slots hsn.symm (by omega) hcp (Lib.hid fun W hF=> ?_) cf cm cb cc cp cw' (Lib.hid fun W i v hW hi=> ?_) (Lib.hid fun W hW=> ?_) (Lib.hid (cs (-1) (by omega) (by omega))) (Lib.hid fun W hW=>hW.1) (Lib.hid fun W hW=> ?_)).mono ?_
  ·refine(hcall W hF).mono ?_;rintro e w' ⟨rfl,hF'⟩;exact⟨rfl,Lib.hid hF'⟩
  ·have hil:i<f.slots.length:=by
    rcases Nat.lt_or_ge i f.slots.length with h1|h1
    ·exact h1
    ·rw[List.getElem?_eq_none h1]at hi;cases hi
   have:=cs (i:Int) (by omega) (by omega) W hW;simp only at this;rw[if_neg (by omega),Int.toNat_natCast,hi]at this;exact this
  ·have:=cs (sv.n:Int) (by omega) (by omega) W hW;simp only at this;rw[if_pos (by omega)]at this;exact this
  ·rcases Nat.eq_zero_or_pos sv.n with h0|h0
   ·exact .inl h0
   ·right;have wslW:WsR Y W sv f.slots:=Rd.fr wsl hW.1 h.ownY;rcases wslW.at_ with h1|⟨g,o,q1,q2,q3,q4⟩
    ·omega
    ·refine⟨g,o,q1,fun i v hi=>⟨q2,q4 i _ ?_⟩⟩;unfold zZ;rw[List.getElem?_map,hi];rfl
  ·rintro e w' ⟨rfl,hW⟩;exact⟨rfl,fin _ hW⟩
end
section
open Go.ChangeShapes Go.WideShapes Go.RowKit
variable{w w':World}
theorem fld_f4(v0 v1 v2 v3 v4:Value)(w:World):(Instr.field 100 (.agg #[v0,v1,v2,v3,v4]) 4).run Tryz.prog w=.ok v4 w:=by kernel_rfl
def ERound(EI:World→Prop)(xb:Nat)(w1:World):Prop:=
 ∃(v0 v1 tv:Value) (fa ta sa qa:Option Addr) (fn fc tn tc sn sc wn qc nf:Nat) (full:Bool) (cl pc rm:Int),
  Hid (blk w1 xb=some (.cells #[v0,v1,tv,.slice fa fn fc,.slice ta tn tc,.bool full] 42 (0,0)))∧
  Hid (∀W,Fr [] w1 W→Calls Tryz.prog 53 #[.agg #[.slice fa fn fc,.slice ta tn tc]] W fun e w'=>e=.returned (.agg #[.int .u64 cl,.int .i64 pc,.int .i64 rm,.slice sa sn sc,.slice qa wn qc])∧Hid (Fr [] W w'))∧
  Hid (∀W,Fr [] w1 W→Calls Tryz.prog 55 #[.agg #[.slice fa fn fc,.slice ta tn tc]] W fun e w'=>e=.returned (.int .i64 (nf:Int))∧Hid (Fr [] W w'))∧
  Hid (∀W (kd:Int),Fr [] w1 W→(kd=5∨kd=1∨kd=7)→Calls Tryz.prog 8 #[.pointer (some ⟨xb,0,none⟩),.agg #[.int .i64 kd,.int .i64 0,.int .i64 0,.int .u64 0,.bool false,.slice none 0 0,.slice none 0 0,.int .i64 0,.int .i64 0]] W fun e w'=>e=.returned (.bool true)∧Hid (EI w'))∧
  Hid (∀W,Fr [] w1 W→EI W)
set_option maxRecDepth 100000 in
set_option maxHeartbeats 4000000 in
theorem empties_w(w:World)(xb:Nat){EI:World→Prop}(E0:Hid (EI w))(ES:Hid (∀W,EI W→Calls Tryz.prog 11 #[.pointer (some ⟨xb,0,none⟩)] W fun e w1=>e=.returned (.bool true)∧Hid (ERound EI xb w1))):
 Calls Tryz.prog 12 #[.pointer (some ⟨xb,0,none⟩)] w fun e w'=>e=.returned (.bool true)∧EI w':=by
 have hfl:=fld_f4;go_enter Tryz.func12,Tryz.ntmps12;go_upto_region 2 with fail
 go_loopw [3] (fun n wr=> ∃j:Nat,j≤5000∧n=.int .i64 (j:Int)∧Hid (EI wr)) (fun y _=>5000-(intOf y).toNat)
 case atStart=>exact⟨0,by omega,rfl,E0⟩
 case round=>
  obtain⟨j,hj,rfl,hE⟩:=hrel;clear E0;by_cases hlt:j<5000
  ·go_upto_region 6 with(go_at_call 11;refine(ES.out _ hE.out).mono ?_;rintro e w1 ⟨rfl,hR⟩)
   obtain⟨v0,v1,tv,fa,ta,sa,qa,fn,fc,tn,tc,sn,sc,wn,qc,nf,full,cl,pc,rm,hb,CU,CM,CT,CE⟩:=hR.out;clear hR hE;have x3:=zA hb.out (i:=3) rfl;have x4:=zA hb.out (i:=4) rfl;go_upto_region 8 with(go_at_call 53;refine(CU.out _ (Fr.refl _ _)).mono ?_;rintro e w2 ⟨rfl,hF2⟩)
   have PX2:=Lib.hid (hF2.out.at hb.out (by simp));have CT2:=Lib.hid (CT.out w2 5 hF2.out (.inl rfl));have CM2:=Lib.hid (CM.out w2 hF2.out);clear x3 x4;by_cases hw:0<wn
   ·have bw:decide (0<(wn:Int))=true:=by simp;omega
    go_wp2_with (go_at_call 8;refine CT2.out.mono ?_;rintro e w3 ⟨rfl,hE3⟩);go_roundw
    case rel=>exact⟨j+1,by omega,by rw[Int.natCast_add];rfl,hE3⟩
    case measure=>show 5000-((j:Int)+1).toNat<5000-(j:Int).toNat;omega
   ·have bw:decide (0<(wn:Int))=false:=by simp;omega
    have y3:=zA PX2.out (i:=3) rfl;have y4:=zA PX2.out (i:=4) rfl;by_cases hn:0<nf
    ·have bn:decide (0<(nf:Int))=true:=by simp;omega
     go_wp2_with (first|(go_at_call 55;refine CM2.out.mono ?_;rintro e w3 ⟨rfl,hF3⟩)|(go_at_call 8;refine(CT.out w3 1 (hF2.out.trans hF3.out (by simp)) (.inr (.inl rfl))).mono ?_;rintro e w4 ⟨rfl,hE3⟩));go_roundw
     case rel=>exact⟨j+1,by omega,by rw[Int.natCast_add];rfl,hE3⟩
     case measure=>show 5000-((j:Int)+1).toNat<5000-(j:Int).toNat;omega
    ·have bn:decide (0<(nf:Int))=false:=by simp;omega
     by_cases h1:fn=1
     ·have b1:((fn:Int)==1)=true:=by simp;omega
      clear h1;go_wp2_with (go_at_call 55;refine CM2.out.mono ?_;rintro e w3 ⟨rfl,hF3⟩;have PX3:=Lib.hid (hF3.out.at PX2.out (by simp));have z3:=zA PX3.out (i:=3) rfl);go_ret;exact⟨rfl,CE.out _ (hF2.out.trans hF3.out (by simp))⟩
     ·have b1:((fn:Int)==1)=false:=by simp;omega
      go_wp2_with (first|(go_at_call 55;refine CM2.out.mono ?_;rintro e w3 ⟨rfl,hF3⟩;have PX3:=Lib.hid (hF3.out.at PX2.out (by simp));have z3:=zA PX3.out (i:=3) rfl)|(go_at_call 8;refine(CT.out w3 7 (hF2.out.trans hF3.out (by simp)) (.inr (.inr rfl))).mono ?_;rintro e w4 ⟨rfl,hE3⟩));go_roundw
      case rel=>exact⟨j+1,by omega,by rw[Int.natCast_add];rfl,hE3⟩
      case measure=>show 5000-((j:Int)+1).toNat<5000-(j:Int).toNat;omega
  ·obtain rfl:j=5000:=by omega
   go_wp2;go_ret;exact⟨rfl,hE.out⟩
end
section
open Go.ChangeShapes Go.WideShapes Go.RowKit
structure AV.In(w:World)(a:AV):Prop where
 l:WsR [] w a.sl a.ls
 q:WsR [] w a.sq a.ps
 wd:W64 a.word
 wl: ∀x,x∈a.ls→W64 x
 wq: ∀x,x∈a.ps→W64 x
 ik:I64 a.kind
 i_n:I64 a.n
 im:I64 a.m
def AV.nil:AV:=⟨0,0,0,0,false,[],[],SV.none,SV.none,0,0⟩
def IsActs20(w:World)(a:Option Addr)(len cap:Nat)(N:Nat→AV):Prop:=
 (len=0∨∃b o,a=some ⟨b,o,none⟩∧b<w.heap.size∧∀i,i<len→∀(j:Nat) (u:Value),(N i).cells[j]? =some u→w.cell? ⟨b,o+(i*9+j),none⟩=some u)∧(∀i,i<len→(N i).In w)∧len≤cap∧cap≤maxLen
theorem list9{α:Type}{l:List α}(h:l.length=9): ∃a b c d e f g i j,l=[a,b,c,d,e,f,g,i,j]:=by
 match l,h with
 |[a,b,c,d,e,f,g,i,j],_=>exact⟨a,b,c,d,e,f,g,i,j,rfl⟩
theorem slice20{H:Type}{enc:TypeId×Value→H}{w:World}{spare:Nat→Bool}{held:Bool}{n:Nat}{v:Value}{y:DataW H×List MemPlace}
 (h:DataW.trod enc Tryz.prog w 0 spare held n 29 [v]=some y): ∃(s:SV) (l:List Int),v=.slice s.a s.n s.cap∧WsR [] w s l∧∀x,x∈l→W64 x:=by
 obtain⟨a,l,c,e3⟩:=Go.Joins.slice_form Tryz.underlying29 h;injection e3 with e3
 subst e3;obtain⟨zs,g1,g2,g3,g4,g5⟩:=open_int_slice (a:=a) (len:=l) (cap:=c) Tryz.underlying29 Tryz.underlying28 (by kernel_rfl) ⟨n,h⟩;refine⟨⟨a,l,c⟩,zs,rfl,⟨g1.symm,⟨g3,g4⟩,by simp[zZ],zz _, ?_⟩,fun x hx=> ?_⟩
 ·rcases g5 with g5|⟨b,o,r1,r2,r3⟩
  ·left;omega
  ·right;refine⟨b,o,r1,r2,by simp,fun i u hu=> ?_⟩;unfold zZ at hu;rw[List.getElem?_map]at hu;cases hz:zs[i]? with
   |none=>rw[hz]at hu;cases hu
   |some z=>
    rw[hz]at hu
    have hi:i<l:=by
     rcases Nat.lt_or_ge i l with h1|h1
     ·exact h1
     ·rw[List.getElem?_eq_none (by omega)]at hz;cases hz
    rw[r3 i hi,hz];exact hu
 ·have:=bounds_u64 (g2 x hx);unfold W64;omega
theorem act20_open{H:Type}{enc:TypeId×Value→H}{w:World}{spare:Nat→Bool}{held:Bool}{fuel:Nat}{cs:List Value}{x:DataW H×List MemPlace}
 (h:DataW.trod enc Tryz.prog w 0 spare held fuel 33 cs=some x): ∃z:AV,cs=z.cells.toList∧z.In w:=by
 obtain⟨ys,n,_,_,hl,hys,hg⟩:=DataW.trod_struct Tryz.underlying33 h;have hC:Tryz.prog.cellsOf 33=9:=by kernel_rfl
 have hI:Tryz.prog.cellsOf 3=1:=by kernel_rfl
 have hW:Tryz.prog.cellsOf 28=1:=by kernel_rfl
 have hB:Tryz.prog.cellsOf 4=1:=by kernel_rfl
 have hS:Tryz.prog.cellsOf 29=1:=by kernel_rfl
 have hP:Tryz.prog.cellsOf 31=2:=by kernel_rfl
 have hys8:ys.length=8:=hys;rw[hC]at hl;obtain⟨c0,c1,c2,c3,c4,c5,c6,c7,c8,rfl⟩:=list9 hl;have some_at: ∀i,i<8→∃y,ys[i]? =some y:=fun i hi=>⟨ys[i]'(by omega),by simp⟩
 obtain⟨y0,e0⟩:=some_at 0 (by omega);obtain⟨y1,e1⟩:=some_at 1 (by omega);obtain⟨y2,e2⟩:=some_at 2 (by omega);obtain⟨y3,e3⟩:=some_at 3 (by omega);obtain⟨y4,e4⟩:=some_at 4 (by omega);obtain⟨y5,e5⟩:=some_at 5 (by omega);obtain⟨y6,e6⟩:=some_at 6 (by omega);obtain⟨y7,e7⟩:=some_at 7 (by omega);have g0:DataW.trod enc Tryz.prog w 0 spare held n 3 (([c0,c1,c2,c3,c4,c5,c6,c7,c8].drop 0).take (Tryz.prog.cellsOf 3))=some y0:=(hg 0 _ rfl).trans e0;have g1:DataW.trod enc Tryz.prog w 0 spare held n 3 (([c0,c1,c2,c3,c4,c5,c6,c7,c8].drop 1).take (Tryz.prog.cellsOf 3))=some y1:=(hg 1 _ rfl).trans e1;have g2:DataW.trod enc Tryz.prog w 0 spare held n 3 (([c0,c1,c2,c3,c4,c5,c6,c7,c8].drop 2).take (Tryz.prog.cellsOf 3))=some y2:=(hg 2 _ rfl).trans e2;have g3:DataW.trod enc Tryz.prog w 0 spare held n 28 (([c0,c1,c2,c3,c4,c5,c6,c7,c8].drop 3).take (Tryz.prog.cellsOf 28))=some y3:=(hg 3 _ rfl).trans e3;have g4:DataW.trod enc Tryz.prog w 0 spare held n 4 (([c0,c1,c2,c3,c4,c5,c6,c7,c8].drop 4).take (Tryz.prog.cellsOf 4))=some y4:=(hg 4 _ rfl).trans e4;have g5:DataW.trod enc Tryz.prog w 0 spare held n 29 (([c0,c1,c2,c3,c4,c5,c6,c7,c8].drop 5).take (Tryz.prog.cellsOf 29))=some y5:=(hg 5 _ rfl).trans e5;have g6:DataW.trod enc Tryz.prog w 0 spare held n 29 (([c0,c1,c2,c3,c4,c5,c6,c7,c8].drop 6).take (Tryz.prog.cellsOf 29))=some y6:=(hg 6 _ rfl).trans e6;have g7:DataW.trod enc Tryz.prog w 0 spare held n 31 (([c0,c1,c2,c3,c4,c5,c6,c7,c8].drop 7).take (Tryz.prog.cellsOf 31))=some y7:=(hg 7 _ rfl).trans e7;simp only[hI]at g0 g1 g2;simp only[hW]at g3
 try simp only[hB]at g4
 simp only[hS]at g5 g6;simp only[hP]at g7;replace g7:DataW.trod enc Tryz.prog w 0 spare held n 31 ([c7,c8]:List Value)=some y7:=g7;obtain⟨k,q0,_,w0⟩:=DataW.trod_int Tryz.underlying3 g0;obtain⟨n1,q1,_,w1⟩:=DataW.trod_int Tryz.underlying3 g1;obtain⟨n2,q2,_,w2⟩:=DataW.trod_int Tryz.underlying3 g2;obtain⟨v,q3,_,w3⟩:=DataW.trod_int Tryz.underlying28 g3;obtain⟨b,q4,_⟩:=DataW.trod_bool Tryz.underlying4 g4;simp only[List.drop_zero,List.drop_succ_cons,List.take_succ_cons,List.take_zero,List.cons.injEq,and_true]at q0 q1 q2 q3 q4;obtain⟨sl,ls,q5,r5,t5⟩:=slice20 (v:=c5) g5;obtain⟨sq,ps,q6,r6,t6⟩:=slice20 (v:=c6) g6;obtain⟨zs,m,_,_,hl2,hzs,hg2⟩:=DataW.trod_struct Tryz.underlying31 g7;have hzs2:zs.length=2:=hzs;obtain⟨z0,f0⟩: ∃y,zs[0]? =some y:=⟨zs[0]'(by omega),by simp⟩;obtain⟨z1,f1⟩: ∃y,zs[1]? =some y:=⟨zs[1]'(by omega),by simp⟩;have k0:DataW.trod enc Tryz.prog w 0 spare held m 3 ((([c7,c8]:List Value).drop 0).take (Tryz.prog.cellsOf 3))=some z0:=(hg2 0 _ rfl).trans f0;have k1:DataW.trod enc Tryz.prog w 0 spare held m 3 ((([c7,c8]:List Value).drop 1).take (Tryz.prog.cellsOf 3))=some z1:=(hg2 1 _ rfl).trans f1;simp only[hI]at k0 k1;obtain⟨p0,q7,_,_⟩:=DataW.trod_int Tryz.underlying3 k0;obtain⟨p1,q8,_,_⟩:=DataW.trod_int Tryz.underlying3 k1;simp only[List.drop_zero,List.drop_succ_cons,List.take_succ_cons,List.take_zero,List.cons.injEq,and_true]at q7 q8;subst q0 q1 q2 q3 q4 q5 q6 q7 q8;have i64: ∀{z:Int},(Lit.int .i64 z).wf=true→I64 z:=fun hz=>by have:=bounds_i64 hz;unfold I64;omega
 have u64: ∀{z:Int},(Lit.int .u64 z).wf=true→W64 z:=fun hz=>by have:=bounds_u64 hz;unfold W64;omega
 exact⟨⟨k,n1,n2,v,b,ls,ps,sl,sq,p0,p1⟩,rfl,⟨r5,r6,u64 w3,t5,t6,i64 w0,i64 w1,i64 w2⟩⟩
theorem opener20{H:Type}{enc:TypeId×Value→H}{w:World}{spare:Nat→Bool}{held:Bool}{a:Option Addr}{len cap:Nat}{d:DataW H}{p:List MemPlace}
 (h:DataW.Trod enc Tryz.prog w 0 spare held 22 (.slice a len cap) d p): ∃N,IsActs20 w a len cap N:=by
 obtain⟨fuel,h⟩:=h;rcases Go.Deep.open_slice Tryz.underlying22 h with⟨hcs,_⟩|⟨a0,l0,c0,m,n,D,Pl,hcs,_,hl,hm,hmm,_,hi⟩
 ·simp[Value.cells]at hcs;obtain⟨rfl,rfl,rfl⟩:=hcs;exact⟨fun _=>AV.nil,.inl rfl,fun i hi=>by omega,Nat.le_refl _,by simp[maxLen]⟩
 ·simp[Value.cells]at hcs;obtain⟨rfl,rfl,rfl⟩:=hcs;have hlm:len≤m:=by rw[hmm];split<;>omega
  have hC:Tryz.prog.cellsOf 33=9:=by kernel_rfl
  have key: ∀i,∃z:AV,i<len→(∀(j:Nat) (u:Value),z.cells[j]? =some u→w.cell? (a0.add (i*9+j))=some u)∧z.In w:=by
   intro i;by_cases hil:i<len
   ·obtain⟨cs',hc,ht'⟩:=hi i (by omega);rw[hC]at hc;obtain⟨_,hcl,hat⟩:=World.cells?_some hc;obtain⟨z,hz,hw⟩:=act20_open ht';refine⟨z,fun _=>⟨fun j u hu=> ?_,hw⟩⟩
    have hj:j<9:=by
     rcases Nat.lt_or_ge j 9 with hj|hj
     ·exact hj
     ·rw[Array.getElem?_eq_none (by exact hj)]at hu;simp at hu
    rw[←Go.Deep.add_add,hat j hj,hz,Array.getElem?_toList];exact hu
   ·exact⟨AV.nil,fun h=>absurd h hil⟩
  refine⟨fun i=>Classical.choose (key i), ?_,fun i h1=>(Classical.choose_spec (key i) h1).2,hl,hm⟩;by_cases h0:len=0
  ·exact .inl h0
  ·right;have hc:=(Classical.choose_spec (key 0) (by omega)).1 0 _ rfl
   have hs:a0.spot=none∧a0.block<w.heap.size:=by
    have:=addr_none hc;simp[Addr.add]at this;exact this
   refine⟨a0.block,a0.off,by cases a0;simp_all,hs.2,fun i h1 j u hu=> ?_⟩;exact add_cell hs.1 ((Classical.choose_spec (key i) h1).1 j u hu)
end
end Go.Proofs.YtghkahcogphomaaGreat
