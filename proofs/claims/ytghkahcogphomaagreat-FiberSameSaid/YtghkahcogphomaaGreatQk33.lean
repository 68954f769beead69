/- Fibers: a part of the walk. No condition. -/
import Derived.Test.YtghkahcogphomaaGreatQk32
set_option linter.all false
namespace Go.Proofs.YtghkahcogphomaaGreat
section
open Go.ChangeShapes Go.WideShapes Go.RowKit
variable{w w':World}{X X':List Nat}{s t:SV}{L:List BV}{x y:BV}{k:PK}
theorem zO:((Tryz.prog).info? 40).map (·.size)=some 2:=by kernel_rfl
theorem zR:(match(Tryz.prog).underlying 40 with|some (.struct _)|some (.array _ _)=>true|_=>false)=true:=by kernel_rfl
theorem size_t20b:((Tryz.prog).info? 117).map (·.size)=some 6:=by kernel_rfl
theorem und_t20b:(match(Tryz.prog).underlying 117 with|some (.struct _)|some (.array _ _)=>true|_=>false)=true:=by kernel_rfl
theorem size_t20f:((Tryz.prog).info? 100).map (·.size)=some 5:=by kernel_rfl
theorem und_t20f:(match(Tryz.prog).underlying 100 with|some (.struct _)|some (.array _ _)=>true|_=>false)=true:=by kernel_rfl
theorem info_t20b:(Tryz.prog.info? 117).map (fun i=>(i.zero,i.size,i.bytes))=some (some (.agg #[.slice none 0 0,.bool false,.bool false,.int .u64 0,.slice none 0 0,.slice none 0 0]),6,96):=by kernel_rfl
theorem info_t20f:(Tryz.prog.info? 100).map (fun i=>(i.zero,i.size,i.bytes))=some (some (.agg #[.int .u64 0,.int .i64 0,.int .i64 0,.slice none 0 0,.slice none 0 0]),5,72):=by kernel_rfl
theorem fld_b0(v0 v1 v2 v3 v4 v5:Value)(w:World):(Instr.field 117 (.agg #[v0,v1,v2,v3,v4,v5]) 0).run Tryz.prog w=.ok v0 w:=by kernel_rfl
theorem none20_c(w:World):Calls Tryz.prog 38 #[] w fun e w'=>e=.returned (.int .u64 45)∧w=w':=by
 go_enter Tryz.func38,Tryz.ntmps38;go_wp2_with (go_at_call 74;refine(wmade_r _ _ _ (by omega) (by omega)).mono ?_;rintro e w' ⟨rfl,rfl⟩);go_ret;exact⟨rfl,rfl⟩
structure El6(w:World)(a:Option Addr)(m:Nat)(v0 v1 v2 v3 v4 v5:Value):Prop where
 ex: ∃g o,a=some ⟨g,o,none⟩∧g<w.heap.size∧w.cell? ⟨g,o+m*6,none⟩=some v0∧w.cell? ⟨g,o+m*6+1,none⟩=some v1∧w.cell? ⟨g,o+m*6+2,none⟩=some v2∧w.cell? ⟨g,o+m*6+3,none⟩=some v3∧w.cell? ⟨g,o+m*6+4,none⟩=some v4∧w.cell? ⟨g,o+m*6+5,none⟩=some v5
structure El5(w:World)(a:Option Addr)(m:Nat)(v0 v1 v2 v3 v4:Value):Prop where
 ex: ∃g o,a=some ⟨g,o,none⟩∧g<w.heap.size∧w.cell? ⟨g,o+m*5,none⟩=some v0∧w.cell? ⟨g,o+m*5+1,none⟩=some v1∧w.cell? ⟨g,o+m*5+2,none⟩=some v2∧w.cell? ⟨g,o+m*5+3,none⟩=some v3∧w.cell? ⟨g,o+m*5+4,none⟩=some v4
set_option maxRecDepth 100000 in
theorem top_letters(w:World)(a ta fa la qa:Option Addr)(m cap tn tc fn fc ln lc qn qc:Nat)(hd dp:Bool)(ret:Int)(hm:m≤1000000)(h:El6 w a m (.slice fa fn fc) (.bool hd) (.bool dp) (.int .u64 ret) (.slice la ln lc) (.slice qa qn qc)):
 Calls Tryz.prog 76 #[.agg #[.slice a (m+1) cap,.slice ta tn tc]] w fun e w'=>e=.returned (.agg #[.slice fa fn fc,.bool hd,.bool dp,.int .u64 ret,.slice la ln lc,.slice qa qn qc])∧Fr [] w w':=by
 obtain⟨g,o,rfl,h2,c0,c1,c2,c3,c4,c5⟩:=h.ex;clear h;go_enter Tryz.func76,Tryz.ntmps76;go_wp2;refine bodyPost_ret (ret_st rfl _ _ (w.heap.size+1) _ rfl (by simp only[zB,zC];rw[if_pos trivial]) rfl size_t20b und_t20b) rfl ?_;exact⟨rfl,((Fr.refl _ _).alloc _).alloc _⟩
def BV.val(x:BV):Value:=.agg #[.slice x.fr.a x.fr.n x.fr.cap,.bool x.p.h.isSome,.bool x.deep,.int .u64 x.ret,.slice x.l.a x.l.n x.l.cap,.slice x.q.a x.q.n x.q.cap]
theorem r20top_c(w:World)(t:SV)(h:BsR X w s (L++[x]))(hm:L.length≤1000000):Calls Tryz.prog 76 #[.agg #[.slice s.a s.n s.cap,.slice t.a t.n t.cap]] w fun e w'=>e=.returned x.val∧Fr [] w w':=by
 have he:=h.el (i:=L.length) (x:=x) (by simp);have hn:=h.1.ne;simp only[List.length_append,List.length_singleton]at hn;rw[hn];exact top_letters w _ _ _ _ _ _ _ _ _ _ _ _ _ _ _ _ _ _ hm ⟨he⟩
set_option maxRecDepth 100000 in
theorem r20Frames_c(w:World)(t:SV)(h:BsR X w s (L++[x]))(hX: ∀g,g∈X→g<w.heap.size)(hm:L.length≤1000000):Calls Tryz.prog 55 #[.agg #[.slice s.a s.n s.cap,.slice t.a t.n t.cap]] w fun e w'=>e=.returned (.int .i64 (x.fr.n:Int))∧Fr [] w w':=by
 have CT:=Lib.hid (fun(W:World) (hF:Fr [] w W)=>r20top_c W t (h.fr hF (by simp)) hm);have F1:=Lib.hid ((Fr.refl [] w).alloc (.cells #[.slice s.a s.n s.cap,.slice t.a t.n t.cap] 40));have hfl:=fld_b0;unfold BV.val at CT;clear h hX;go_enter Tryz.func55,Tryz.ntmps55;go_wp2_with fail;refine(CT.out _ F1.out).mono ?_;rintro e w2 ⟨rfl,F2⟩;have G:=Lib.hid (F1.out.trans F2 (by simp));go_wp2;go_ret;exact⟨rfl,G.out⟩
def FV.val(x:FV):Value:=.agg #[.int .u64 x.f.cl,.int .i64 x.f.pc,.int .i64 (x.f.room:Int),.slice x.s.a x.s.n x.s.cap,.slice x.q.a x.q.n x.q.cap]
def noFrV:Value:=.agg #[.int .u64 45,.int .i64 0,.int .i64 0,.slice none 0 0,.slice none 0 0]
set_option maxRecDepth 100000 in
theorem r20Current_no(w:World)(t:SV)(h:BsR X w s (L++[x]))(hn:x.fr.n=0)(hm:L.length≤1000000):Calls Tryz.prog 53 #[.agg #[.slice s.a s.n s.cap,.slice t.a t.n t.cap]] w fun e w'=>e=.returned noFrV∧Fr [] w w':=by
 have CT:=Lib.hid (fun(W:World) (hF:Fr [] w W)=>r20top_c W t (h.fr hF (by simp)) hm);have hfl:=fld_b0;unfold BV.val at CT;rw[hn]at CT;obtain⟨W1,hW1⟩: ∃W,W=((w.alloc (.cells #[.slice s.a s.n s.cap,.slice t.a t.n t.cap] 40)).alloc (.cells #[.int .u64 0,.int .i64 0,.int .i64 0,.slice none 0 0,.slice none 0 0] 100)):=⟨_,rfl⟩;have FW1:Hid (Fr [] w W1):=Lib.hid (by rw[hW1];exact(((Fr.refl _ _).alloc _).alloc _));have PW10:Hid (blk W1 (w.heap.size)=some (.cells #[.slice s.a s.n s.cap,.slice t.a t.n t.cap] 40 (0,0))):=Lib.hid (by rw[hW1];simp only[zB,zC];rw[if_neg (by omega),if_pos trivial]);have PW11:Hid (blk W1 (w.heap.size+1)=some (.cells #[.int .u64 0,.int .i64 0,.int .i64 0,.slice none 0 0,.slice none 0 0] 100 (0,0))):=Lib.hid (by rw[hW1];simp only[zB,zC];rw[if_pos trivial]);clear h hn;go_enter Tryz.func53,Tryz.ntmps53;go_wp2_with fail;rw[←hW1];refine(CT.out _ FW1.out).mono ?_;rintro e w2 ⟨rfl,F2⟩;have G:=Lib.hid (FW1.out.trans F2 (by simp));have R:=Lib.hid (F2.at PW11.out (by simp));clear hW1 CT PW10 PW11 FW1 F2;have r0:=zA R.out (i:=0) rfl;have r1:=zA R.out (i:=1) rfl;have r2:=zA R.out (i:=2) rfl;have r3:=zA R.out (i:=3) rfl;have r4:=zA R.out (i:=4) rfl;have rf0:=zE R.out (i:=0);have rf1:=zE R.out (i:=1);have rf2:=zE R.out (i:=2);have rf3:=zE R.out (i:=3);have rf4:=zE R.out (i:=4);go_wp2_with (go_at_call 38;refine(none20_c _).mono ?_;rintro e w' ⟨rfl,rfl⟩);refine bodyPost_ret (ret_st rfl _ _ (w.heap.size+1) _ rfl (by simp only[zD,if_true,R.out];rfl) rfl size_t20f und_t20f) rfl ?_;exact⟨rfl,(((((G.out.setCell (.inr (by omega)) _).setCell (.inr (by omega)) _).setCell (.inr (by omega)) _).setCell (.inr (by omega)) _).setCell (.inr (by omega)) _)⟩
set_option maxRecDepth 100000 in
theorem current_letters(w:World)(a ta fa la qqa sa qa:Option Addr)(m tn tc cap fc ln lc qqn qqc j sn sc qn qc:Nat)(hd dp:Bool)(ret cl pc room:Int)(hj:j≤100000000)
 (CT:Hid (∀W,Fr [] w W→Calls Tryz.prog 76 #[.agg #[.slice a m cap,.slice ta tn tc]] W fun e w'=>e=.returned (.agg #[.slice fa (j+1) fc,.bool hd,.bool dp,.int .u64 ret,.slice la ln lc,.slice qqa qqn qqc])∧Fr [] W w'))
 (h:Hid (El5 w fa j (.int .u64 cl) (.int .i64 pc) (.int .i64 room) (.slice sa sn sc) (.slice qa qn qc))):
 Calls Tryz.prog 53 #[.agg #[.slice a m cap,.slice ta tn tc]] w fun e w'=>e=.returned (.agg #[.int .u64 cl,.int .i64 pc,.int .i64 room,.slice sa sn sc,.slice qa qn qc])∧Fr [] w w':=by
 obtain⟨g,o,rfl,h2,c0,c1,c2,c3,c4⟩:=h.out.ex;have hfl:=fld_b0;have K:Hid (∀W,Fr [] w W→W.cell? ⟨g,o+j*5,none⟩=some (.int .u64 cl)∧W.cell? ⟨g,o+j*5+1,none⟩=some (.int .i64 pc)∧W.cell? ⟨g,o+j*5+2,none⟩=some (.int .i64 room)∧W.cell? ⟨g,o+j*5+3,none⟩=some (.slice sa sn sc)∧W.cell? ⟨g,o+j*5+4,none⟩=some (.slice qa qn qc)):=Lib.hid (fun W hF=>⟨zd c0 hF (by simp),zd c1 hF (by simp),zd c2 hF (by simp),zd c3 hF (by simp),zd c4 hF (by simp)⟩);obtain⟨W1,hW1⟩: ∃W,W=((w.alloc (.cells #[.slice a m cap,.slice ta tn tc] 40)).alloc (.cells #[.int .u64 0,.int .i64 0,.int .i64 0,.slice none 0 0,.slice none 0 0] 100)):=⟨_,rfl⟩;have FW1:Hid (Fr [] w W1):=Lib.hid (by rw[hW1];exact(((Fr.refl _ _).alloc _).alloc _));have PW10:Hid (blk W1 (w.heap.size)=some (.cells #[.slice a m cap,.slice ta tn tc] 40 (0,0))):=Lib.hid (by rw[hW1];simp only[zB,zC];rw[if_neg (by omega),if_pos trivial]);have PW11:Hid (blk W1 (w.heap.size+1)=some (.cells #[.int .u64 0,.int .i64 0,.int .i64 0,.slice none 0 0,.slice none 0 0] 100 (0,0))):=Lib.hid (by rw[hW1];simp only[zB,zC];rw[if_pos trivial]);clear h c0 c1 c2 c3 c4;go_enter Tryz.func53,Tryz.ntmps53;go_wp2_with fail;rw[←hW1];refine(CT.out _ FW1.out).mono ?_;rintro e w2 ⟨rfl,F2⟩;have G:=Lib.hid (FW1.out.trans F2 (by simp));have R:=Lib.hid (F2.at PW11.out (by simp));obtain⟨c0,c1,c2,c3,c4⟩:=K.out _ G.out;clear hW1 CT PW10 PW11 FW1 F2 K;have r0:=zA R.out (i:=0) rfl;have r1:=zA R.out (i:=1) rfl;have r2:=zA R.out (i:=2) rfl;have r3:=zA R.out (i:=3) rfl;have r4:=zA R.out (i:=4) rfl;have rf0:=zE R.out (i:=0);have rf1:=zE R.out (i:=1);have rf2:=zE R.out (i:=2);have rf3:=zE R.out (i:=3);have rf4:=zE R.out (i:=4);have hne: ¬((j:Int)+1=0):=by omega
 go_wp2;refine bodyPost_ret (ret_st rfl _ _ (w.heap.size+1) _ rfl (by simp only[zD,if_true,R.out];rfl) rfl size_t20f und_t20f) rfl ?_;exact⟨rfl,(((((G.out.setCell (.inr (by omega)) _).setCell (.inr (by omega)) _).setCell (.inr (by omega)) _).setCell (.inr (by omega)) _).setCell (.inr (by omega)) _)⟩
theorem r20Current_yes(w:World)(t:SV)(h:BsR X w s (L++[x])){z:FV}{Z:List FV}(hz:x.F=Z++[z])(hm:L.length≤1000000)(hj:Z.length≤100000000):Calls Tryz.prog 53 #[.agg #[.slice s.a s.n s.cap,.slice t.a t.n t.cap]] w fun e w'=>e=.returned z.val∧Fr [] w w':=by
 have hf:=(h.2 x (by simp)).f;rw[hz]at hf;have hn:=hf.1.ne;simp only[List.length_append,List.length_singleton]at hn;have CT:=Lib.hid (fun(W:World) (hF:Fr [] w W)=>r20top_c W t (h.fr hF (by simp)) hm);unfold BV.val at CT;rw[hn]at CT;exact current_letters w _ _ _ _ _ _ _ _ _ _ _ _ _ _ _ _ _ _ _ _ _ _ _ _ _ _ _ hj CT (Lib.hid ⟨hf.el (by simp)⟩)
theorem set6(pre:List Value)(y0 y1 y2 y3 y4 y5 v0 v1 v2 v3 v4 v5:Value){n:Nat}(hn:pre.length=n):(((((((pre++[y0,y1,y2,y3,y4,y5]).set n v0).set (n+1) v1).set (n+2) v2).set (n+3) v3).set (n+4) v4).set (n+5) v5)=pre++[v0,v1,v2,v3,v4,v5]:=by
 subst hn;rw[List.set_append_right _ _ (by omega),List.set_append_right _ _ (by omega),List.set_append_right _ _ (by omega),List.set_append_right _ _ (by omega),List.set_append_right _ _ (by omega),List.set_append_right _ _ (by omega)]
 simp
theorem set5(pre:List Value)(y0 y1 y2 y3 y4 v0 v1 v2 v3 v4:Value){n:Nat}(hn:pre.length=n):((((((pre++[y0,y1,y2,y3,y4]).set n v0).set (n+1) v1).set (n+2) v2).set (n+3) v3).set (n+4) v4)=pre++[v0,v1,v2,v3,v4]:=by
 subst hn;rw[List.set_append_right _ _ (by omega),List.set_append_right _ _ (by omega),List.set_append_right _ _ (by omega),List.set_append_right _ _ (by omega),List.set_append_right _ _ (by omega)]
 simp
theorem zr{base base':Nat}{e:TypeId}{size:Nat}{v:Value}{n:Nat}{xs:List Value}(h:w.ownsRow base e size v n xs)(hb:base'≤base):w.ownsRow base' e size v n xs:=by
 obtain⟨h1,h2⟩:=h;refine⟨h1, ?_⟩;rcases h2 with h2|⟨g,cap,cur,q1,q2,q3⟩
 ·exact .inl h2
 ·exact .inr ⟨g,cap,cur,q1,Nat.le_trans hb q2,q3⟩
theorem at_pre(pre tl:List Value){n:Nat}(hn:pre.length=n)(k:Nat):(pre++tl)[n+k]? =tl[k]? :=by
 subst hn;rw[List.getElem?_append_right (by omega)]
 congr 1;omega
set_option maxRecDepth 100000 in
set_option maxHeartbeats 1000000 in
theorem with_letters(w:World)(a ta ga ma ra fa la qa:Option Addr)(m cap tn tc gn gc mn mc rn rc fn fc ln lc qn qc:Nat)(hd2 dp2 hd dp:Bool)(ret2 ret:Int)(pre:List Value)(hpre:pre.length=m*6)(hm:m≤1000000)
 (NEWS:Hid (∃ad,a=some ad∧∀W,Fr [] w W→∀j u,(pre++[.slice ga gn gc,.bool hd2,.bool dp2,.int .u64 ret2,.slice ma mn mc,.slice ra rn rc])[j]? =some u→W.cell? (ad.add j)=some u)) (ONE:Hid (∀u,u∈pre++[.slice ga gn gc,.bool hd2,.bool dp2,.int .u64 ret2,.slice ma mn mc,.slice ra rn rc]→u.oneCell'=true)):
 Calls Tryz.prog 77 #[.agg #[.slice a (m+1) cap,.slice ta tn tc],.agg #[.slice fa fn fc,.bool hd,.bool dp,.int .u64 ret,.slice la ln lc,.slice qa qn qc]] w fun e w'=> ∃g c,e=.returned (.agg #[.slice (some ⟨g,0,none⟩) (m+1) c,.slice ta tn tc])∧w'.ownsRow w.heap.size 117 6 (.slice (some ⟨g,0,none⟩) (m+1) c) (m+1) (pre++[.slice fa fn fc,.bool hd,.bool dp,.int .u64 ret,.slice la ln lc,.slice qa qn qc])∧Fr [] w w':=by
 obtain⟨ad,rfl,news⟩:=NEWS.out;have NW:=Lib.hid news;have NL:Hid ((pre++([.slice ga gn gc,.bool hd2,.bool dp2,.int .u64 ret2,.slice ma mn mc,.slice ra rn rc]:List Value)).length=(m+1)*6):=Lib.hid (by rw[List.length_append,hpre];simp;omega);obtain⟨W3,hW3⟩: ∃W,W=(((w.alloc (.cells #[.slice (some ad) (m+1) cap,.slice ta tn tc] 40)).alloc (.cells #[.slice fa fn fc,.bool hd,.bool dp,.int .u64 ret,.slice la ln lc,.slice qa qn qc] 117)).alloc (.cells #[.slice none 0 0,.slice none 0 0] 40)):=⟨_,rfl⟩;have FW3:Hid (Fr [] w W3):=Lib.hid (by rw[hW3];exact((((Fr.refl _ _).alloc _).alloc _).alloc _));have PW30:Hid (blk W3 (w.heap.size)=some (.cells #[.slice (some ad) (m+1) cap,.slice ta tn tc] 40 (0,0))):=Lib.hid (by rw[hW3];simp only[zB,zC];rw[if_neg (by omega),if_neg (by omega),if_pos trivial]);have PW31:Hid (blk W3 (w.heap.size+1)=some (.cells #[.slice fa fn fc,.bool hd,.bool dp,.int .u64 ret,.slice la ln lc,.slice qa qn qc] 117 (0,0))):=Lib.hid (by rw[hW3];simp only[zB,zC];rw[if_neg (by omega),if_pos trivial]);have PW32:Hid (blk W3 (w.heap.size+1+1)=some (.cells #[.slice none 0 0,.slice none 0 0] 40 (0,0))):=Lib.hid (by rw[hW3];simp only[zB,zC];rw[if_pos trivial]);obtain⟨pb,hpb⟩: ∃pb,pb=w.heap.size:=⟨_,rfl⟩;rw[←hpb]at PW30 PW31 PW32;have hl3:pb+1+1<W3.heap.size:=zF PW32.out;have hl30:pb<W3.heap.size:=by omega
 have hl31:pb+1<W3.heap.size:=by omega
 have hne:pb≠W3.heap.size:=by omega
 have hne1:pb+1≠W3.heap.size:=by omega
 have hne2:pb+1+1≠W3.heap.size:=by omega
 have OW:Hid ((W3.alloc (.cells #[] 117)).ownsRow W3.heap.size 117 6 (.slice (some ⟨W3.heap.size,0,none⟩) 0 0) 0 []):=Lib.hid (own_mk (cur:= #[]) (by rw[zB,if_pos rfl]) (Nat.le_refl _) (Nat.le_refl _) (Nat.zero_le _) rfl rfl);have F4:=Lib.hid ((Fr.refl [] W3).alloc (.cells #[] 117));obtain⟨i0,hii,hz0,hz1,hz2⟩:=info_parts info_t20b;have II:=Lib.hid hii;have Z0:=Lib.hid hz0;have Z1:=Lib.hid hz1;have Z2:=Lib.hid hz2;have HPB:=Lib.hid hpb;clear hii hz0 hz1 hz2 news NEWS;go_enter Tryz.func77,Tryz.ntmps77;go_upto_region 1 with fail
 rw[←hW3,←hpb];clear hW3 hpb;have p10:=zA PW30.out (i:=0) rfl;go_upto_region 2 with(at_builtin;refine zj _ rfl _ _ _ rfl W3.heap.size 117 i0 (.agg #[.slice none 0 0,.bool false,.bool false,.int .u64 0,.slice none 0 0,.slice none 0 0]) 6 96 Tryz.underlying37 II.out Z0.out Z1.out Z2.out rfl (by decide) W3.heap.size 0 0 [] rfl OW.out ad (m+1) cap _ rfl NL.out (NW.out _ (FW3.out.same F4.out)) ONE.out (by unfold maxLen;omega) (by omega) F4.out.size ?_;intro g1 c1 w5 own5 fr5 at5;rw[Nat.zero_add,List.nil_append]at own5;rw[Nat.zero_add];have OW5:=Lib.hid own5;have F5:=Lib.hid (F4.out.trans fr5 (fun x hx=> .inr (by simp only[List.mem_singleton]at hx;omega)));clear own5 fr5 at5 OW F4)
 have hgb:=zN OW5.out;have hgl:=own_lt OW5.out;have hc1:=(ZC OW5.out).1;have d0:=zX OW5.out (at_pre pre ([.slice ga gn gc,.bool hd2,.bool dp2,.int .u64 ret2,.slice ma mn mc,.slice ra rn rc]:List Value) hpre 0);have d1:=zX OW5.out (at_pre pre ([.slice ga gn gc,.bool hd2,.bool dp2,.int .u64 ret2,.slice ma mn mc,.slice ra rn rc]:List Value) hpre 1);have d2:=zX OW5.out (at_pre pre ([.slice ga gn gc,.bool hd2,.bool dp2,.int .u64 ret2,.slice ma mn mc,.slice ra rn rc]:List Value) hpre 2);have d3:=zX OW5.out (at_pre pre ([.slice ga gn gc,.bool hd2,.bool dp2,.int .u64 ret2,.slice ma mn mc,.slice ra rn rc]:List Value) hpre 3);have d4:=zX OW5.out (at_pre pre ([.slice ga gn gc,.bool hd2,.bool dp2,.int .u64 ret2,.slice ma mn mc,.slice ra rn rc]:List Value) hpre 4);have d5:=zX OW5.out (at_pre pre ([.slice ga gn gc,.bool hd2,.bool dp2,.int .u64 ret2,.slice ma mn mc,.slice ra rn rc]:List Value) hpre 5);rw[Nat.add_zero]at d0;have df0:=zf OW5.out (m*6);have df1:=zf OW5.out (m*6+1);have df2:=zf OW5.out (m*6+2);have df3:=zf OW5.out (m*6+3);have df4:=zf OW5.out (m*6+4);have df5:=zf OW5.out (m*6+5);have PO5:=Lib.hid (F5.out.at PW31.out (by simp));have o0:=zA PO5.out (i:=0) rfl;have o1:=zA PO5.out (i:=1) rfl;have o2:=zA PO5.out (i:=2) rfl;have o3:=zA PO5.out (i:=3) rfl;have o4:=zA PO5.out (i:=4) rfl;have o5:=zA PO5.out (i:=5) rfl;have hg0:g1≠pb:=by omega
 have hg1:g1≠pb+1:=by omega
 have hg2:g1≠pb+1+1:=by omega
 clear p10 PO5;go_upto_region 3 with fail
 obtain⟨W6,hW6⟩: ∃W6,W6=((((((w5.setCell ⟨g1,m*6,none⟩ (.slice fa fn fc)).setCell ⟨g1,m*6+1,none⟩ (.bool hd)).setCell ⟨g1,m*6+2,none⟩ (.bool dp)).setCell ⟨g1,m*6+3,none⟩ (.int .u64 ret)).setCell ⟨g1,m*6+4,none⟩ (.slice la ln lc)).setCell ⟨g1,m*6+5,none⟩ (.slice qa qn qc)):=⟨_,rfl⟩;rw[←hW6]
 have O6:Hid (W6.ownsRow W3.heap.size 117 6 (.slice (some ⟨g1,0,none⟩) (m+1) c1) (m+1) (pre++([.slice fa fn fc,.bool hd,.bool dp,.int .u64 ret,.slice la ln lc,.slice qa qn qc]:List Value))):=Lib.hid (by
  rw[hW6,←set6 pre (.slice ga gn gc) (.bool hd2) (.bool dp2) (.int .u64 ret2) (.slice ma mn mc) (.slice ra rn rc) (.slice fa fn fc) (.bool hd) (.bool dp) (.int .u64 ret) (.slice la ln lc) (.slice qa qn qc) hpre];exact zg (zg (zg (zg (zg (zg OW5.out _ _) _ _) _ _) _ _) _ _) _ _)
 have F6:Hid (Fr [] W3 W6):=Lib.hid (by rw[hW6];exact((((((F5.out.setCell (.inr hgb) _).setCell (.inr hgb) _).setCell (.inr hgb) _).setCell (.inr hgb) _).setCell (.inr hgb) _).setCell (.inr hgb) _));clear hW6 OW5 F5 d0 d1 d2 d3 d4 d5 df0 df1 df2 df3 df4 df5 o0 o1 o2 o3 o4 o5 NW NL II Z0 Z1 Z2 ONE;have PH6:=Lib.hid (F6.out.at PW30.out (by simp));have PR6:=Lib.hid (F6.out.at PW32.out (by simp));have p0:=zA PH6.out (i:=0) rfl;have p1:=zA PH6.out (i:=1) rfl;have pf0:=zE PH6.out (i:=0);have pf1:=zE PH6.out (i:=1);have q0:=zA PR6.out (i:=0) rfl;have q1:=zA PR6.out (i:=1) rfl;have qf0:=zE PR6.out (i:=0);have qf1:=zE PR6.out (i:=1);clear PW30 PW31 PW32 hc1 hgl hg0 hg1 hg2
 have hfin:Hid (∀W7,Fr [pb,pb+1+1] W6 W7→W7.ownsRow w.heap.size 117 6 (.slice (some ⟨g1,0,none⟩) (m+1) c1) (m+1) (pre++([.slice fa fn fc,.bool hd,.bool dp,.int .u64 ret,.slice la ln lc,.slice qa qn qc]:List Value))∧Fr [] w W7):=Lib.hid (fun W7 hF=>by
  have hs:=FW3.out.size;have hp:=HPB.out;refine⟨zr (zL O6.out hF ?_) hs,(FW3.out.trans F6.out (by simp)).trans hF ?_⟩
  ·intro x hx;have:g1=x:=by simpa[Value.ownBlock]using hx
   subst this
   simp;omega
  ·intro x hx;simp at hx;rcases hx with rfl|rfl
   ·right;omega
   ·right;omega)
 clear O6 FW3 HPB F6 hgb;go_wp2;refine bodyPost_ret (ret_st rfl _ _ (pb+1+1) _ rfl (by rw[zD,if_pos rfl,zD,if_pos rfl,zD,if_neg (by omega),PR6.out];rfl) rfl zO zR) rfl ?_;exact⟨g1,c1,rfl,hfin.out _ ((((Fr.refl [pb,pb+1+1] W6).setCell (.inl (by simp)) _).setCell (.inl (by simp)) _).setCell (.inl (by simp)) _)⟩
theorem BsR.cells_last(h:BsR X w s (L++[y])): ∃ad,s.a=some ad∧∀W,Fr [] w W→∀j u,(L.flatMap BV.cells++y.cells)[j]? =some u→W.cell? (ad.add j)=some u:=by
 have e:(L++[y]).flatMap BV.cells=L.flatMap BV.cells++y.cells:=by simp
 rcases h.1.at_ with h0|⟨g,o,h1,h2,h3,h4⟩
 ·simp at h0
 ·refine⟨_,h1,fun W hF j u hu=> ?_⟩;rw[Addr.add_lit];rw[←e]at hu;exact zd (h4 j u hu) hF (by simp)
theorem BsR.put_last{B:Nat}{g c:Nat}{W:World}(h:BsR X w s (L++[y]))(hF:Fr [] w W)(hx:x.Ok X W)(ho:W.ownsRow B 117 6 (.slice (some ⟨g,0,none⟩) (L.length+1) c) (L.length+1) (L.flatMap BV.cells++x.cells))(hX: ∀z,z∈X→z<B):BsR X W ⟨some ⟨g,0,none⟩,L.length+1,c⟩ (L++[x]):=by
 have e:(L++[x]).flatMap BV.cells=L.flatMap BV.cells++x.cells:=by simp
 refine⟨?_, ?_⟩
 ·rw[e,show(L++[x]).length=L.length+1 by simp];exact Rd.of_own ho (by rw[←e];exact zl _ BV.one _) hX
 ·intro z hz;rcases List.mem_append.1 hz with hz|hz
  ·exact(h.2 z (by simp[hz])).fr hF (by simp)
  ·simp at hz;subst hz;exact hx
theorem r20with_c(w:World)(t:SV)(h:BsR X w s (L++[y]))(hx:x.Ok X w)(hX: ∀z,z∈X→z<w.heap.size)(hm:L.length≤1000000):
 Calls Tryz.prog 77 #[.agg #[.slice s.a s.n s.cap,.slice t.a t.n t.cap],x.val] w fun e w'=> ∃s':SV,e=.returned (.agg #[.slice s'.a s'.n s'.cap,.slice t.a t.n t.cap])∧BsR X w' s' (L++[x])∧Fr [] w w':=by
 have hn:=h.1.ne;simp only[List.length_append,List.length_singleton]at hn;have e:(L++[y]).flatMap BV.cells=L.flatMap BV.cells++y.cells:=by simp
 have hone: ∀u,u∈L.flatMap BV.cells++y.cells→u.oneCell'=true:=by rw[←e];exact h.1.one
 rw[hn];refine(with_letters w s.a t.a y.fr.a y.l.a y.q.a x.fr.a x.l.a x.q.a L.length s.cap t.n t.cap y.fr.n y.fr.cap y.l.n y.l.cap y.q.n y.q.cap x.fr.n x.fr.cap x.l.n x.l.cap x.q.n x.q.cap y.p.h.isSome y.deep x.p.h.isSome x.deep y.ret x.ret (L.flatMap BV.cells) (flat_len _ 6 BV.len L) hm (Lib.hid h.cells_last) (Lib.hid hone)).mono ?_;rintro e w' ⟨g,c,rfl,ho,hF⟩;exact⟨⟨some ⟨g,0,none⟩,L.length+1,c⟩,rfl,h.put_last hF (hx.fr hF (by simp)) ho hX,hF⟩
end
end Go.Proofs.YtghkahcogphomaaGreat
