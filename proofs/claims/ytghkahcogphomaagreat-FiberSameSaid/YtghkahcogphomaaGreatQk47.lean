/- Fibers: a part of the walk. No condition. -/
import Derived.Test.YtghkahcogphomaaGreatQk43
set_option linter.all false
namespace Go.Proofs.YtghkahcogphomaaGreat
section
open Go.ChangeShapes Go.WideShapes Go.RowKit
variable{w w':World}
def FrX(w w':World):Prop:=Fr [] w w'
theorem FrX.refl(w:World):FrX w w:=Fr.refl _ _
theorem FrX.alloc{w w':World}(h:FrX w w')(o:Obj):FrX w (w'.alloc o):=Fr.alloc h o
theorem FrX.drew{w w':World}(h:FrX w w'):FrX w w'.drew:=Fr.drew h
theorem FrX.trans{a b c:World}(h:FrX a b)(h2:FrX b c):FrX a c:=Fr.trans h h2 (by simp)
def NewR(H:Nat)(W:World)(oa:Option Addr)(n:Nat)(cs:List Value):Prop:=n=0∨∃g,oa=some ⟨g,0,none⟩∧H≤g∧g<W.heap.size∧∀j u,cs[j]? =some u→W.cell? ⟨g,j,none⟩=some u
theorem NewR.fr{H n:Nat}{oa:Option Addr}{cs:List Value}(h:NewR H w oa n cs)(hF:FrX w w'):NewR H w' oa n cs:=by
 rcases h with h|⟨g,h1,h2,h3,h4⟩
 ·exact .inl h
 ·exact .inr ⟨g,h1,h2,Nat.lt_of_lt_of_le h3 (Fr.size hF),fun j u hu=>zd (h4 j u hu) hF (by simp)⟩
theorem NewR.lo{B n:Nat}{oa:Option Addr}{cs:List Value}{W W5 wc:World}(h:NewR wc.heap.size W oa n cs)(h5:B≤W5.heap.size)(hF:FrX W5 wc):NewR B W oa n cs:=by
 rcases h with h|⟨g,h1,h2,h3,h4⟩
 ·exact .inl h
 ·exact .inr ⟨g,h1,Nat.le_trans h5 (Nat.le_trans (Fr.size hF) h2),h3,h4⟩
theorem run_app_empty(w:World)(t ty:TypeId)(e:TypeId)(i:TypeInfo)(bytes:Nat)(g m c:Nat)(oa:Option Addr)(ht:Tryz.prog.underlying t=some (.slice e))(hi:Tryz.prog.info? e=some i)(hby:i.bytes=bytes)(hm:0<m)(hbytes:m*bytes≤140737488355328):
 (Builtin.append_ #[t,t] ty #[.slice (some ⟨g,0,none⟩) 0 0,.slice oa m c]).run Tryz.prog w=(Builtin.append_ #[t,t] ty #[.slice none 0 0,.slice oa m c]).run Tryz.prog w:=by
 have h48: ¬(281474976710656<Builtin.nextslicecap m 0*i.bytes):=by rw[nextslicecap_zero (by omega),hby];omega
 have h00: ¬m=0:=by omega
 simp[Builtin.append_,run_underlying ht,sizeOf,typeInfo,hi,Builtin.lenOf,Builtin.firstCells,loadCells,loadCellsFrom,h48,h00]
theorem step_app0{ops:Array Oper}{o:Oper}{a:Act}{K:Act→World→Prop}{Q:Exit→Act→World→Prop}{E:Prop}(w:World)(hgd:o.guard=none)(s x:Operand)(t:TypeId)
 (ho:o.op=.call { callee:=.builtin .append,args:= #[s,x],argTypes:= #[t,t]})
 (e:TypeId) (i:TypeInfo) (z:Value) (bytes:Nat) (ht:Tryz.prog.underlying t=some (.slice e)) (hi:Tryz.prog.info? e=some i) (hz:i.zero=some z)
 (hsize:i.size=1) (hby:i.bytes=bytes) (hzs:z.cells.size=1)
 (g0:Nat) (hs:a.eval s=.slice (some ⟨g0,0,none⟩) 0 0)
 (oa:Option Addr) (m c:Nat) (news:List Value) (hx:a.eval x=.slice oa m c) (hl:news.length=m) (hnews:m=0∨∃ad,oa=some ad∧∀j u,news[j]? =some u→w.cell? (ad.add j)=some u) (h1: ∀u∈news,u.oneCell'=true)
 (h63:m≤maxLen) (hbytes:m*bytes≤140737488355328)
 (h: ∀oa' cap' w',FrX w w'→NewR w.heap.size w' oa' m news→K (a.put o.dst (.slice oa' m cap')) w'):
 if Region.wanted o (yielded ops a.tmps)=true then Oper.wp Tryz.prog o a w K Q else E:=by
 have hw:Region.wanted o (yielded ops a.tmps)=true:=by simp[Region.wanted,hgd]
 by_cases hm:m=0
 ·subst hm;rw[if_pos hw]
  have hr:(Builtin.append_ #[t,t] o.type #[.slice (some ⟨g0,0,none⟩) 0 0,.slice oa 0 c]).run Tryz.prog w=.ok (.slice (some ⟨g0,0,none⟩) 0 0) w:=by
   cases oa with
   |some ad=>
    simp[Builtin.append_,run_underlying ht,sizeOf,typeInfo,hi,Builtin.lenOf,Builtin.firstCells,loadCells,loadCellsFrom];rw[storeCells];rfl
   |none=>
    simp[Builtin.append_,run_underlying ht,sizeOf,typeInfo,hi,Builtin.lenOf,Builtin.firstCells,loadCells,loadCellsFrom];rw[storeCells];rfl
  unfold Oper.wp execOp;simp only[ho,resolve,invoke,builtin,Sem.run_bind,Sem.run_pure,Result.andThen_ok,List.map_toArray,List.map_cons,List.map_nil,hs,hx,hr];exact h _ _ w (FrX.refl _) (.inl rfl)
 ·rcases hnews with h0|⟨ad,rfl,hc⟩
  ·exact absurd h0 hm
  ·rw[if_pos hw];have hown:w.ownsRow 0 e 1 (.slice none 0 0) 0 []:=⟨by simp,.inl ⟨rfl,rfl⟩⟩;obtain⟨v',w',hrun,h2,h3,h4,h5⟩:=run_append_own_at (P:=Tryz.prog) w 0 t o.type e i z 1 bytes ht hi hz hsize hby hzs (by omega) _ 0 [] hown ad m c news (by simpa using hl) hc h1 (by omega) (by simpa using hbytes) (Nat.zero_le _);rw[←run_app_empty w t o.type e i bytes g0 m c (some ad) ht hi hby (by omega) hbytes]at hrun;unfold Oper.wp execOp;simp only[ho,resolve,invoke,builtin,Sem.run_bind,Sem.run_pure,Result.andThen_ok,List.map_toArray,List.map_cons,List.map_nil,hs,hx,hrun];rw[Nat.zero_add,List.nil_append]at h2;have h2':=h2;obtain⟨_,h2'⟩:=h2';rcases h2' with⟨_,h0⟩|⟨g,cap,cur,rfl,_⟩
   ·exact absurd h0 hm
   ·have hg:g=w.heap.size:=by
     rcases h5 with h5|h5
     ·cases h5
     ·have:some g=some w.heap.size:=h5;injection this
    exact h _ cap w' (grown_fr h3) (.inr ⟨g,rfl,by omega,own_lt h2,fun j u hu=>zX h2 hu⟩)
set_option maxRecDepth 100000 in
set_option maxHeartbeats 8000000 in
theorem step_6(w:World)(xb kb:Nat)(v0 tv:Value)(fa ta:Option Addr)(fn fc tn tc:Nat)(full:Bool)(n m word:Int)(deep:Bool)(la qa:Option Addr)(ln lc qn qc:Nat)(p0 p1:Int)(hb:Hid (blk w xb=some (.cells #[v0,.pointer (some ⟨kb,0,none⟩),tv,.slice fa fn fc,.slice ta tn tc,.bool full] 42 (0,0)))){D:Option Addr→Nat→Nat→Option Addr→Nat→Nat→World→Prop}{KK:Bool→World→Prop}(yes:Bool)(B:List Nat)(HB:Hid (xb∉B∧∀x,x∈B→x<w.heap.size))(lw qw:List Value)(hlw:lw.length=ln)(hqw:qw.length=qn)(ONL:Hid ((∀u,u∈lw→u.oneCell'=true)∧∀u,u∈qw→u.oneCell'=true))(hln:ln≤1000000)(hqn:qn≤1000000)(NWL:Hid (∀W,Fr [] w W→ln=0∨∃ad,la=some ad∧∀j u,lw[j]? =some u→W.cell? (ad.add j)=some u))(NWQ:Hid (∀W,Fr [] w W→qn=0∨∃ad,qa=some ad∧∀j u,qw[j]? =some u→W.cell? (ad.add j)=some u))(CD:Hid (∀W,Fr [] w W→Calls Tryz.prog 33 #[.agg #[.slice fa fn fc,.slice ta tn tc],.agg #[.bool deep,.int .u64 word,.slice la ln lc,.slice qa qn qc]] W fun e w'=> ∃(na ma:Option Addr) (nn nc mn mc:Nat),e=.returned (.tuple #[.agg #[.slice na nn nc,.slice ma mn mc],.bool yes])∧Hid (D na nn nc ma mn mc w')∧Hid (Fr [] W w')))(CK:Hid (∀(W:World) (oa ob:Option Addr) (ca cb:Nat),Fr [] w W→NewR w.heap.size W oa ln lw→NewR w.heap.size W ob qn qw→Calls Tryz.prog 15 #[.pointer (some ⟨kb,0,none⟩),.bool deep,.int .u64 word,.slice oa ln ca,.slice ob qn cb] W fun e w'=> ∃ok:Bool,e=.returned (.bool ok)∧Hid (KK ok w'∧((ok=true∧yes=true)∨(ok=false∧yes=false)∨(ok=false∧yes=true)))∧Hid (Fr B W w'))){R:World→Prop}(RR:Hid (∀(ok:Bool) (na ma:Option Addr) (nn nc mn mc:Nat) (w1 w5 w':World),Fr [] w w1→D na nn nc ma mn mc w1→Fr B w1 w5→KK ok w5→Fr [xb] w5 w'→blk w' xb=some (.cells #[v0,.pointer (some ⟨kb,0,none⟩),tv,if ok=true then .slice na nn nc else .slice fa fn fc,if ok=true then .slice ma mn mc else .slice ta tn tc,.bool (if ok=false∧yes=true then true else full)] 42 (0,0))→R w')):
 Calls Tryz.prog 8 #[.pointer (some ⟨xb,0,none⟩),.agg #[.int .i64 6,.int .i64 n,.int .i64 m,.int .u64 word,.bool deep,.slice la ln lc,.slice qa qn qc,.int .i64 p0,.int .i64 p1]] w fun e w'=>e=.returned (.bool true)∧R w':=by
 obtain⟨i1,hii1,hz01,hz11,hz21⟩:=info_parts info_wd;have IW:=Lib.hid hii1;have Y0:=Lib.hid hz01;have Y1:=Lib.hid hz11;have Y2:=Lib.hid hz21;have HLW:=Lib.hid hlw;have HQW:=Lib.hid hqw;clear hii1 hz01 hz11 hz21 hlw hqw;obtain⟨W2,hW2⟩: ∃W,W=w.alloc (.cells #[.int .i64 6,.int .i64 n,.int .i64 m,.int .u64 word,.bool deep,.slice la ln lc,.slice qa qn qc,.int .i64 p0,.int .i64 p1] 33):=⟨_,rfl⟩;obtain⟨ab,hab⟩: ∃ab,ab=w.heap.size:=⟨_,rfl⟩;have FW2:Hid (Fr [] w W2):=Lib.hid (by rw[hW2];exact(Fr.refl _ _).alloc _);have PA2:Hid (blk W2 ab=some (.cells #[.int .i64 6,.int .i64 n,.int .i64 m,.int .u64 word,.bool deep,.slice la ln lc,.slice qa qn qc,.int .i64 p0,.int .i64 p1] 33 (0,0))):=Lib.hid (by rw[hW2,hab,zB,if_pos rfl]);have PX2:=Lib.hid (FW2.out.at hb.out (by simp));have HAB:Hid (w.heap.size≤ab):=Lib.hid (by omega);go_enter Tryz.func8,Tryz.ntmps8;go_upto_region 1 with fail
 rw[←hW2]
 try rw[←hab]
 clear hW2 hab;have x1:=zA PX2.out (i:=1) rfl;have x3:=zA PX2.out (i:=3) rfl;have x4:=zA PX2.out (i:=4) rfl;have hxl:=zF PX2.out;have hxn:xb≠W2.heap.size:=by omega
 go_region
 obtain⟨W3,hW3⟩: ∃W,W=(W2.alloc (.cells #[.slice fa fn fc,.slice ta tn tc] 40)).drew:=⟨_,rfl⟩;obtain⟨mb,hmb⟩: ∃k,k=W2.heap.size:=⟨_,rfl⟩;have F3:Hid (Fr [] W2 W3):=Lib.hid (by rw[hW3];exact((Fr.refl _ _).alloc _).drew);have PM3:Hid (blk W3 mb=some (.cells #[.slice fa fn fc,.slice ta tn tc] 40 (0,0))):=Lib.hid (by rw[hW3,hmb];show blk (W2.alloc _) _=_;rw[zB,if_pos rfl]);have PA3:=Lib.hid (F3.out.at PA2.out (by simp));have PX3:=Lib.hid (F3.out.at PX2.out (by simp));have H3:Hid (Fr [] w W3):=Lib.hid (FW2.out.trans F3.out (by simp));have HMB:Hid (w.heap.size≤mb):=Lib.hid (by rw[hmb];exact FW2.out.size);rw[←hW3]
 try rw[←hmb]
 clear hW3 hmb x1 x3 x4 hxl hxn FW2 F3 PA2 PX2;have a0:=zA PA3.out (i:=0) rfl;have a1:=zA PA3.out (i:=1) rfl;have a2:=zA PA3.out (i:=2) rfl;have a3:=zA PA3.out (i:=3) rfl;have a4:=zA PA3.out (i:=4) rfl;have a5:=zA PA3.out (i:=5) rfl;have a6:=zA PA3.out (i:=6) rfl;have m0:=zA PM3.out (i:=0) rfl;have m1:=zA PM3.out (i:=1) rfl;go_upto_region 25 with(go_at_call 33;refine(CD.out _ H3.out).mono ?_;rintro e w4 ⟨na,ma,nn,nc,mn,mc,rfl,hD,hF4⟩)
 obtain⟨W5,hW5⟩: ∃W,W=w4.alloc (.cells #[.slice na nn nc,.slice ma mn mc] 40):=⟨_,rfl⟩;obtain⟨nb,hnb⟩: ∃k,k=w4.heap.size:=⟨_,rfl⟩;have F5:Hid (Fr [] w4 W5):=Lib.hid (by rw[hW5];exact(Fr.refl _ _).alloc _);have PN5:Hid (blk W5 nb=some (.cells #[.slice na nn nc,.slice ma mn mc] 40 (0,0))):=Lib.hid (by rw[hW5,hnb,zB,if_pos rfl]);have G5:Hid (Fr [] W3 W5):=Lib.hid (hF4.out.trans F5.out (by simp));have H5:Hid (Fr [] w W5):=Lib.hid (H3.out.trans G5.out (by simp));have HNB:Hid (w.heap.size≤nb):=Lib.hid (by rw[hnb];exact Nat.le_trans H3.out.size hF4.out.size);rw[←hW5]
 try rw[←hnb]
 clear hW5 hnb;have hxw:xb<w.heap.size:=zF hb.out
 have KEEP:Hid (∀W,Fr (xb::B) W5 W→W.cell? ⟨nb,0,none⟩=some (.slice na nn nc)∧W.cell? ⟨nb,1,none⟩=some (.slice ma mn mc)∧W.cell? ⟨ab,3,none⟩=some (.int .u64 word)∧W.cell? ⟨ab,4,none⟩=some (.bool deep)∧W.cell? ⟨ab,5,none⟩=some (.slice la ln lc)∧W.cell? ⟨ab,6,none⟩=some (.slice qa qn qc)):=Lib.hid (fun W hF=>by
  have hB: ∀x,x∈xb::B→x<w.heap.size:=fun x hx=>by
   rcases List.mem_cons.1 hx with rfl|hx
   ·exact hxw
   ·exact HB.out.2 x hx
  have qa:=hF.at (G5.out.at PA3.out (by simp)) (fun hc=>by have:=hB _ hc;have:=HAB.out;omega);have qn:=hF.at PN5.out (fun hc=>by have:=hB _ hc;have:=HNB.out;omega);exact⟨zA qn (i:=0) rfl,zA qn (i:=1) rfl,zA qa (i:=3) rfl,zA qa (i:=4) rfl,zA qa (i:=5) rfl,zA qa (i:=6) rfl⟩)
 have KEEX:Hid (∀W,FrX W5 W→W.cell? ⟨nb,0,none⟩=some (.slice na nn nc)∧W.cell? ⟨nb,1,none⟩=some (.slice ma mn mc)∧W.cell? ⟨ab,3,none⟩=some (.int .u64 word)∧W.cell? ⟨ab,4,none⟩=some (.bool deep)∧W.cell? ⟨ab,5,none⟩=some (.slice la ln lc)∧W.cell? ⟨ab,6,none⟩=some (.slice qa qn qc)):=Lib.hid (fun W hF=>KEEP.out W (Fr.mono hF (by simp)));have PXK:Hid (∀W,Fr B W5 W→blk W xb=some (.cells #[v0,.pointer (some ⟨kb,0,none⟩),tv,.slice fa fn fc,.slice ta tn tc,.bool full] 42 (0,0))):=Lib.hid (fun W hF=>hF.at (G5.out.at PX3.out (by simp)) HB.out.1);have ST:=KEEP.out _ (Fr.refl _ _);have NL:Hid (∀W,FrX W5 W→ln=0∨∃ad,la=some ad∧∀j u,lw[j]? =some u→W.cell? (ad.add j)=some u):=Lib.hid (fun W hF=>NWL.out W (H5.out.trans hF (by simp)));have NQ:Hid (∀W,FrX W5 W→qn=0∨∃ad,qa=some ad∧∀j u,qw[j]? =some u→W.cell? (ad.add j)=some u):=Lib.hid (fun W hF=>NWQ.out W (H5.out.trans hF (by simp)))
 have CK5:Hid (∀(W:World) (oa ob:Option Addr) (ca cb:Nat),FrX W5 W→NewR w.heap.size W oa ln lw→NewR w.heap.size W ob qn qw→Calls Tryz.prog 15 #[.pointer (some ⟨kb,0,none⟩),.bool deep,.int .u64 word,.slice oa ln ca,.slice ob qn cb] W fun e w'=> ∃ok:Bool,e=.returned (.bool ok)∧Hid (KK ok w'∧((ok=true∧yes=true)∨(ok=false∧yes=false)∨(ok=false∧yes=true)))∧Hid (Fr B W5 w')):=Lib.hid (fun W oa ob ca cb hF h1 h2=>(CK.out W oa ob ca cb (H5.out.trans hF (by simp)) h1 h2).mono (by
  rintro e w' ⟨ok,q1,q2,q3⟩;exact⟨ok,q1,q2,Lib.hid ((Fr.mono hF (by simp)).same q3.out)⟩))
 have HS5:Hid (w.heap.size≤W5.heap.size):=Lib.hid H5.out.size;clear a0 a1 a2 a3 a4 a5 a6 m0 m1 PM3 PA3 hb CK NWL NWQ;go_region_held3 (fun W=>W.cell? ⟨nb,0,none⟩=some (.slice na nn nc)∧W.cell? ⟨nb,1,none⟩=some (.slice ma mn mc)∧W.cell? ⟨ab,3,none⟩=some (.int .u64 word)∧W.cell? ⟨ab,4,none⟩=some (.bool deep)∧W.cell? ⟨ab,5,none⟩=some (.slice la ln lc)∧W.cell? ⟨ab,6,none⟩=some (.slice qa qn qc)) (first|(with_reducible first|assumption|exact KEEP.out _ K6b.out|exact KEEP.out _ K7b.out)|(refine KEEX.out _ ?_;with_reducible (repeat (first|exact FrX.refl _|apply FrX.drew|apply FrX.alloc|(refine FrX.trans ?_ ‹_›)));done)) (first|(refine step_app0 _ rfl (.tmp 179) (.tmp 181) 29 rfl 28 i1 (.int .u64 0) 8 Tryz.underlying29 IW.out Y0.out Y1.out Y2.out rfl _ rfl la ln lc lw rfl HLW.out (NL.out _ (by repeat (first|exact FrX.refl _|apply FrX.drew|apply FrX.alloc|(refine FrX.trans ?_ ‹_›)))) ONL.out.1 (by unfold maxLen;omega) (by omega) ?_;intro oa1 ca1 w1 E1 N1;have M1:Hid (NewR w.heap.size w1 oa1 ln lw):=Lib.hid (NewR.lo N1 HS5.out (by repeat (first|exact FrX.refl _|apply FrX.drew|apply FrX.alloc|(refine FrX.trans ?_ ‹_›))));clear N1)|(refine step_app0 _ rfl (.tmp 183) (.tmp 185) 29 rfl 28 i1 (.int .u64 0) 8 Tryz.underlying29 IW.out Y0.out Y1.out Y2.out rfl _ rfl qa qn qc qw rfl HQW.out (NQ.out _ (by repeat (first|exact FrX.refl _|apply FrX.drew|apply FrX.alloc|(refine FrX.trans ?_ ‹_›)))) ONL.out.2 (by unfold maxLen;omega) (by omega) ?_;intro oa2 ca2 w2 E2 N2;have M2:Hid (NewR w.heap.size w2 oa2 qn qw):=Lib.hid (NewR.lo N2 HS5.out (by repeat (first|exact FrX.refl _|apply FrX.drew|apply FrX.alloc|(refine FrX.trans ?_ ‹_›))));clear N2)|(go_at_call 15;refine(CK5.out _ oa1 oa2 ca1 ca2 (by repeat (first|exact FrX.refl _|apply FrX.drew|apply FrX.alloc|(refine FrX.trans ?_ ‹_›))) (NewR.fr M1.out (by repeat (first|exact FrX.refl _|apply FrX.drew|apply FrX.alloc|(refine FrX.trans ?_ ‹_›)))) (NewR.fr M2.out (by repeat (first|exact FrX.refl _|apply FrX.drew|apply FrX.alloc|(refine FrX.trans ?_ ‹_›))))).mono ?_;rintro e w6 ⟨ok,rfl,hK,hF6⟩;have K6b:Hid (Fr (xb::B) W5 w6):=Lib.hid (hF6.out.mono (fun x hx=> .inl (List.mem_cons_of_mem _ hx))))|(go_at_call 22;refine(end_c _ xb v0 _ tv fa ta na ma fn fc tn tc nn nc mn mc full ok yes true (Lib.hid (PXK.out _ hF6.out)) (by simpa using hK.out.2)).mono ?_;rintro e w7 ⟨rfl,hR,hF7⟩;have R7:=Lib.hid hR;have K7:=Lib.hid hF7;have K7b:Hid (Fr (xb::B) W5 w7):=Lib.hid (K6b.out.same (hF7.mono (fun x hx=> .inl (by simp at hx;simp[hx]))));clear hR hF7))
 all_goals
  go_wp2;go_ret;exact⟨rfl,RR.out ok na ma nn nc mn mc w4 w6 _ (H3.out.trans hF4.out (by simp)) hD.out ((F5.out.mono (by simp)).same hF6.out) hK.out.1 K7.out R7.out⟩
end
section
open Go.ChangeShapes Go.WideShapes Go.RowKit
variable{w0 w w':World}{c:Sk}{A:Ar}{top:Int}{last:Value}
theorem kroots_c(h:St w0 w c A top last):Calls Tryz.prog 45 #[.pointer (some ⟨c.kb,0,none⟩)] w fun e w'=>e=.returned (.slice (some ⟨c.rb,0,none⟩) 1 1)∧w=w':=by
 have k1:=zA h.a.k (i:=1) rfl;clear h;go_enter Tryz.func45,Tryz.ntmps45;go_wp2;go_ret;exact⟨rfl,rfl⟩
set_option maxRecDepth 100000 in
set_option maxHeartbeats 4000000 in
theorem step_12(w:World)(xb kb:Nat)(v0:Value)(ra:Option Addr)(rn rc rb:Nat)(fa ta:Option Addr)(fn fc tn tc:Nat)(full:Bool)(n m word:Int)(deep:Bool)(la qa:Option Addr)(ln lc qn qc:Nat)(p0 p1:Int)(hb:Hid (blk w xb=some (.cells #[v0,.pointer (some ⟨kb,0,none⟩),(.slice ra rn rc),.slice fa fn fc,.slice ta tn tc,.bool full] 42 (0,0)))){KK:World→Prop}(B:List Nat)(HB:Hid (xb∉B∧∀x,x∈B→x<w.heap.size))(hv:Value)(CH:Hid (∀W,Fr [] w W→Calls Tryz.prog 44 #[v0] W fun e w'=>e=.returned hv∧W=w'))(CR:Hid (∀W,Fr [] w W→Calls Tryz.prog 45 #[.pointer (some ⟨kb,0,none⟩)] W fun e w'=>e=.returned (.slice (some ⟨rb,0,none⟩) 1 1)∧W=w'))(CX:Hid (∀(W:World) (g:Nat),Fr [] w W→w.heap.size≤g→blk W g=some (.cells #[(.slice (some ⟨rb,0,none⟩) 1 1),(.slice ra rn rc)] 29 (0,0))→Calls Tryz.prog 43 #[hv,.slice (some ⟨g,0,none⟩) 2 2,.agg #[.int .i64 p0,.int .i64 p1]] W fun e w'=> ∃v,e=.returned v∧Hid (KK w')∧Hid (Fr B W w'))):
 Calls Tryz.prog 8 #[.pointer (some ⟨xb,0,none⟩),.agg #[.int .i64 12,.int .i64 n,.int .i64 m,.int .u64 word,.bool deep,.slice la ln lc,.slice qa qn qc,.int .i64 p0,.int .i64 p1]] w fun e w'=>e=.returned (.bool true)∧∃w5,Fr [] w w5∧KK w'∧Fr B w5 w':=by
 obtain⟨W2,hW2⟩: ∃W,W=w.alloc (.cells #[.int .i64 12,.int .i64 n,.int .i64 m,.int .u64 word,.bool deep,.slice la ln lc,.slice qa qn qc,.int .i64 p0,.int .i64 p1] 33):=⟨_,rfl⟩;obtain⟨ab,hab⟩: ∃ab,ab=w.heap.size:=⟨_,rfl⟩;have FW2:Hid (Fr [] w W2):=Lib.hid (by rw[hW2];exact(Fr.refl _ _).alloc _);have PA2:Hid (blk W2 ab=some (.cells #[.int .i64 12,.int .i64 n,.int .i64 m,.int .u64 word,.bool deep,.slice la ln lc,.slice qa qn qc,.int .i64 p0,.int .i64 p1] 33 (0,0))):=Lib.hid (by rw[hW2,hab,zB,if_pos rfl]);have PX2:=Lib.hid (FW2.out.at hb.out (by simp));have HAB:Hid (w.heap.size≤ab):=Lib.hid (by omega);go_enter Tryz.func8,Tryz.ntmps8;go_upto_region 1 with fail
 rw[←hW2]
 try rw[←hab]
 clear hW2 hab;have x1:=zA PX2.out (i:=1) rfl;have x3:=zA PX2.out (i:=3) rfl;have x4:=zA PX2.out (i:=4) rfl;have hxl:=zF PX2.out;have hxn:xb≠W2.heap.size:=by omega
 go_region
 obtain⟨W3,hW3⟩: ∃W,W=(W2.alloc (.cells #[.slice fa fn fc,.slice ta tn tc] 40)).drew:=⟨_,rfl⟩;obtain⟨mb,hmb⟩: ∃k,k=W2.heap.size:=⟨_,rfl⟩;have F3:Hid (Fr [] W2 W3):=Lib.hid (by rw[hW3];exact((Fr.refl _ _).alloc _).drew);have PM3:Hid (blk W3 mb=some (.cells #[.slice fa fn fc,.slice ta tn tc] 40 (0,0))):=Lib.hid (by rw[hW3,hmb];show blk (W2.alloc _) _=_;rw[zB,if_pos rfl]);have PA3:=Lib.hid (F3.out.at PA2.out (by simp));have PX3:=Lib.hid (F3.out.at PX2.out (by simp));have H3:Hid (Fr [] w W3):=Lib.hid (FW2.out.trans F3.out (by simp));have HMB:Hid (w.heap.size≤mb):=Lib.hid (by rw[hmb];exact FW2.out.size);rw[←hW3]
 try rw[←hmb]
 clear hW3 hmb x1 x3 x4 hxl hxn FW2 F3 PA2 PX2;have a0:=zA PA3.out (i:=0) rfl
 have KEEP:Hid (∀W,Fr B W3 W→W.cell? ⟨xb,0,none⟩=some v0∧W.cell? ⟨xb,2,none⟩=some (.slice ra rn rc)∧W.cell? ⟨ab,7,none⟩=some (.int .i64 p0)∧W.cell? ⟨ab,8,none⟩=some (.int .i64 p1)):=Lib.hid (fun W hF=>by
  have qx:=hF.at PX3.out HB.out.1;have qa:=hF.at PA3.out (fun hc=>by have:=HB.out.2 _ hc;have:=HAB.out;omega);exact⟨zA qx (i:=0) rfl,zA qx (i:=2) rfl,zA qa (i:=7) rfl,zA qa (i:=8) rfl⟩)
 have CH3:Hid (∀W,Fr [] W3 W→Calls Tryz.prog 44 #[v0] W fun e w'=>e=.returned hv∧W=w'):=Lib.hid (fun W hF=>CH.out W (H3.out.trans hF (by simp)));have CR3:Hid (∀W,Fr [] W3 W→Calls Tryz.prog 45 #[.pointer (some ⟨kb,0,none⟩)] W fun e w'=>e=.returned (.slice (some ⟨rb,0,none⟩) 1 1)∧W=w'):=Lib.hid (fun W hF=>CR.out W (H3.out.trans hF (by simp)));have HS3:Hid (w.heap.size≤W3.heap.size):=Lib.hid H3.out.size;go_upto_region 51 with fail
 clear hb PM3;have ST:=KEEP.out _ (Fr.refl _ _);go_region_held3 (fun W=>W.cell? ⟨xb,0,none⟩=some v0∧W.cell? ⟨xb,2,none⟩=some (.slice ra rn rc)∧W.cell? ⟨ab,7,none⟩=some (.int .i64 p0)∧W.cell? ⟨ab,8,none⟩=some (.int .i64 p1)) (with_reducible first|assumption|exact KEEP.out _ K6.out|exact KEEP.out _ ((Fr.refl _ _).drew)|exact KEEP.out _ (((Fr.refl _ _).alloc _).drew)) (first|(go_at_call 44;refine(CH3.out _ (by first|exact(Fr.refl _ _).drew|exact((Fr.refl _ _).alloc _).drew)).mono ?_;rintro e w' ⟨rfl,rfl⟩)|(go_at_call 45;refine(CR3.out _ (by first|exact(Fr.refl _ _).drew|exact((Fr.refl _ _).alloc _).drew)).mono ?_;rintro e w' ⟨rfl,rfl⟩)|(go_at_call 43;have Q1:Fr [] W3 ((W3.alloc (.cells #[(.slice (some ⟨rb,0,none⟩) 1 1),(.slice ra rn rc)] 29)).drew):=((Fr.refl _ _).alloc _).drew;have Q2:blk ((W3.alloc (.cells #[(.slice (some ⟨rb,0,none⟩) 1 1),(.slice ra rn rc)] 29)).drew) W3.heap.size=some (.cells #[(.slice (some ⟨rb,0,none⟩) 1 1),(.slice ra rn rc)] 29 (0,0)):=(by show blk (World.alloc W3 _) _=_;rw[zB,if_pos rfl]);refine(CX.out _ _ (H3.out.trans Q1 (by simp)) HS3.out Q2).mono ?_;rintro e w6 ⟨v,rfl,hK,hF6⟩;have K6:Hid (Fr B W3 w6):=Lib.hid ((Q1.mono (by simp)).same hF6.out);clear Q1 Q2))
 all_goals
  go_wp2;go_ret;exact⟨rfl,W3,H3.out,hK.out,K6.out⟩
end
end Go.Proofs.YtghkahcogphomaaGreat
