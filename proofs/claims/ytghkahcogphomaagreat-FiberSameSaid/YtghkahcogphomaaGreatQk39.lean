/- Fibers: a part of the walk. No condition. -/
import Derived.Test.YtghkahcogphomaaGreatQk38
set_option linter.all false
namespace Go.Proofs.YtghkahcogphomaaGreat
section
open Go.ChangeShapes Go.WideShapes Go.RowKit
variable{w w':World}{X X':List Nat}{s t:SV}{L:List BV}{x y:BV}{k:PK}
set_option maxRecDepth 100000 in
set_option maxHeartbeats 1000000 in
theorem mcap_no(w:World)(n:Int)(ka:Option Addr)(kn kc:Nat)(ta:Option Addr)(tn tc:Nat)(hi:n<0∨(kn:Int)-1≤n)(hk:kn≤1000000):
 Calls Tryz.prog 37 #[.agg #[.slice ka kn kc,.slice ta tn tc],.int .i64 n] w fun e w'=>e=.returned (.tuple #[.agg #[.slice ka kn kc,.slice ta tn tc],.bool false])∧Fr [] w w':=by
 obtain⟨W3,hW3⟩: ∃W,W=((w.alloc (.cells #[.slice ka kn kc,.slice ta tn tc] 40)).alloc (.cells #[.slice none 0 0,.slice none 0 0] 40)):=⟨_,rfl⟩;have FW3:Hid (Fr [] w W3):=Lib.hid (by rw[hW3];exact(((Fr.refl _ _).alloc _).alloc _));have PW30:Hid (blk W3 (w.heap.size)=some (.cells #[.slice ka kn kc,.slice ta tn tc] 40 (0,0))):=Lib.hid (by rw[hW3];simp only[zB,zC];rw[if_neg (by omega),if_pos trivial]);have PW31:Hid (blk W3 (w.heap.size+1)=some (.cells #[.slice none 0 0,.slice none 0 0] 40 (0,0))):=Lib.hid (by rw[hW3];simp only[zB,zC];rw[if_pos trivial]);obtain⟨pb,hpb⟩: ∃pb,pb=w.heap.size:=⟨_,rfl⟩;have HPB:=Lib.hid hpb;rw[←hpb]at PW30;rw[←hpb]at PW31;go_enter Tryz.func37,Tryz.ntmps37;go_upto_region 1 with fail
 rw[←hW3]
 try rw[←hpb]
 clear hW3 hpb;have p0:=zA PW30.out (i:=0) rfl;have p1:=zA PW30.out (i:=1) rfl;have r0:=zA PW31.out (i:=0) rfl;have r1:=zA PW31.out (i:=1) rfl;have rf0:=zE PW31.out (i:=0);have rf1:=zE PW31.out (i:=1);by_cases h0:n<0
 ·have b0:decide (n<0)=true:=by simpa using h0
  go_wp2;refine bodyPost_ret (ze rfl _ _ (pb+1) _ rfl (by rw[zD,if_pos rfl,zD,if_pos rfl,PW31.out];rfl) rfl zO zR) rfl ?_;exact⟨rfl,((FW3.out.setCell (.inr (by have:=HPB.out;omega)) _).setCell (.inr (by have:=HPB.out;omega)) _)⟩
 ·have h1:(kn:Int)-1≤n:=by omega
  have b0:decide (n<0)=false:=by simpa using h0
  have b1:decide ((kn:Int)-1≤n)=true:=by simpa using h1
  go_wp2;refine bodyPost_ret (ze rfl _ _ (pb+1) _ rfl (by rw[zD,if_pos rfl,zD,if_pos rfl,PW31.out];rfl) rfl zO zR) rfl ?_;exact⟨rfl,((FW3.out.setCell (.inr (by have:=HPB.out;omega)) _).setCell (.inr (by have:=HPB.out;omega)) _)⟩
set_option maxRecDepth 100000 in
set_option maxHeartbeats 1000000 in
theorem mres_no(w:World)(n:Int)(ka:Option Addr)(kn kc:Nat)(ta:Option Addr)(tn tc:Nat)(hi:n<0∨(tn:Int)≤n):
 Calls Tryz.prog 39 #[.agg #[.slice ka kn kc,.slice ta tn tc],.int .i64 n] w fun e w'=>e=.returned (.tuple #[.agg #[.slice ka kn kc,.slice ta tn tc],.int .i64 202])∧Fr [] w w':=by
 obtain⟨W3,hW3⟩: ∃W,W=((w.alloc (.cells #[.slice ka kn kc,.slice ta tn tc] 40)).alloc (.cells #[.slice none 0 0,.slice none 0 0] 40)):=⟨_,rfl⟩;have FW3:Hid (Fr [] w W3):=Lib.hid (by rw[hW3];exact(((Fr.refl _ _).alloc _).alloc _));have PW30:Hid (blk W3 (w.heap.size)=some (.cells #[.slice ka kn kc,.slice ta tn tc] 40 (0,0))):=Lib.hid (by rw[hW3];simp only[zB,zC];rw[if_neg (by omega),if_pos trivial]);have PW31:Hid (blk W3 (w.heap.size+1)=some (.cells #[.slice none 0 0,.slice none 0 0] 40 (0,0))):=Lib.hid (by rw[hW3];simp only[zB,zC];rw[if_pos trivial]);obtain⟨pb,hpb⟩: ∃pb,pb=w.heap.size:=⟨_,rfl⟩;have HPB:=Lib.hid hpb;rw[←hpb]at PW30;rw[←hpb]at PW31;go_enter Tryz.func39,Tryz.ntmps39;go_upto_region 1 with fail
 rw[←hW3]
 try rw[←hpb]
 clear hW3 hpb;have p0:=zA PW30.out (i:=0) rfl;have p1:=zA PW30.out (i:=1) rfl;have r0:=zA PW31.out (i:=0) rfl;have r1:=zA PW31.out (i:=1) rfl;have rf0:=zE PW31.out (i:=0);have rf1:=zE PW31.out (i:=1);by_cases h0:n<0
 ·have b0:decide (n<0)=true:=by simpa using h0
  go_wp2;refine bodyPost_ret (ze rfl _ _ (pb+1) _ rfl (by rw[zD,if_pos rfl,zD,if_pos rfl,PW31.out];rfl) rfl zO zR) rfl ?_;exact⟨rfl,((FW3.out.setCell (.inr (by have:=HPB.out;omega)) _).setCell (.inr (by have:=HPB.out;omega)) _)⟩
 ·have h1:(tn:Int)≤n:=by omega
  have b0:decide (n<0)=false:=by simpa using h0
  have b1:decide ((tn:Int)≤n)=true:=by simpa using h1
  go_wp2;refine bodyPost_ret (ze rfl _ _ (pb+1) _ rfl (by rw[zD,if_pos rfl,zD,if_pos rfl,PW31.out];rfl) rfl zO zR) rfl ?_;exact⟨rfl,((FW3.out.setCell (.inr (by have:=HPB.out;omega)) _).setCell (.inr (by have:=HPB.out;omega)) _)⟩
set_option maxRecDepth 100000 in
set_option maxHeartbeats 1000000 in
theorem mcln_no(w:World)(n:Int)(ka:Option Addr)(kn kc:Nat)(ta:Option Addr)(tn tc:Nat)(hi:n<0∨(tn:Int)≤n):
 Calls Tryz.prog 41 #[.agg #[.slice ka kn kc,.slice ta tn tc],.int .i64 n] w fun e w'=>e=.returned (.tuple #[.agg #[.slice ka kn kc,.slice ta tn tc],.int .i64 202])∧Fr [] w w':=by
 obtain⟨W3,hW3⟩: ∃W,W=((w.alloc (.cells #[.slice ka kn kc,.slice ta tn tc] 40)).alloc (.cells #[.slice none 0 0,.slice none 0 0] 40)):=⟨_,rfl⟩;have FW3:Hid (Fr [] w W3):=Lib.hid (by rw[hW3];exact(((Fr.refl _ _).alloc _).alloc _));have PW30:Hid (blk W3 (w.heap.size)=some (.cells #[.slice ka kn kc,.slice ta tn tc] 40 (0,0))):=Lib.hid (by rw[hW3];simp only[zB,zC];rw[if_neg (by omega),if_pos trivial]);have PW31:Hid (blk W3 (w.heap.size+1)=some (.cells #[.slice none 0 0,.slice none 0 0] 40 (0,0))):=Lib.hid (by rw[hW3];simp only[zB,zC];rw[if_pos trivial]);obtain⟨pb,hpb⟩: ∃pb,pb=w.heap.size:=⟨_,rfl⟩;have HPB:=Lib.hid hpb;rw[←hpb]at PW30;rw[←hpb]at PW31;go_enter Tryz.func41,Tryz.ntmps41;go_upto_region 1 with fail
 rw[←hW3]
 try rw[←hpb]
 clear hW3 hpb;have p0:=zA PW30.out (i:=0) rfl;have p1:=zA PW30.out (i:=1) rfl;have r0:=zA PW31.out (i:=0) rfl;have r1:=zA PW31.out (i:=1) rfl;have rf0:=zE PW31.out (i:=0);have rf1:=zE PW31.out (i:=1);by_cases h0:n<0
 ·have b0:decide (n<0)=true:=by simpa using h0
  go_wp2;refine bodyPost_ret (ze rfl _ _ (pb+1) _ rfl (by rw[zD,if_pos rfl,zD,if_pos rfl,PW31.out];rfl) rfl zO zR) rfl ?_;exact⟨rfl,((FW3.out.setCell (.inr (by have:=HPB.out;omega)) _).setCell (.inr (by have:=HPB.out;omega)) _)⟩
 ·have h1:(tn:Int)≤n:=by omega
  have b0:decide (n<0)=false:=by simpa using h0
  have b1:decide ((tn:Int)≤n)=true:=by simpa using h1
  go_wp2;refine bodyPost_ret (ze rfl _ _ (pb+1) _ rfl (by rw[zD,if_pos rfl,zD,if_pos rfl,PW31.out];rfl) rfl zO zR) rfl ?_;exact⟨rfl,((FW3.out.setCell (.inr (by have:=HPB.out;omega)) _).setCell (.inr (by have:=HPB.out;omega)) _)⟩
set_option maxRecDepth 100000 in
set_option maxHeartbeats 1000000 in
theorem mres_used(w:World)(i g o:Nat)(ka:Option Addr)(kn kc:Nat)(tn tc:Nat)(hi:i<tn)(hc:tn≤tc)(htc:tn≤1000000)(hg:g<w.heap.size)(RD:Hid (∀W,Fr [] w W→W.cell? ⟨g,o+i*2,none⟩=some (.bool true))):
 Calls Tryz.prog 39 #[.agg #[.slice ka kn kc,.slice (some ⟨g,o,none⟩) tn tc],.int .i64 (i:Int)] w fun e w'=>e=.returned (.tuple #[.agg #[.slice ka kn kc,.slice (some ⟨g,o,none⟩) tn tc],.int .i64 201])∧Fr [] w w':=by
 obtain⟨W3,hW3⟩: ∃W,W=((w.alloc (.cells #[.slice ka kn kc,.slice (some ⟨g,o,none⟩) tn tc] 40)).alloc (.cells #[.slice none 0 0,.slice none 0 0] 40)):=⟨_,rfl⟩;have FW3:Hid (Fr [] w W3):=Lib.hid (by rw[hW3];exact(((Fr.refl _ _).alloc _).alloc _));have PW30:Hid (blk W3 (w.heap.size)=some (.cells #[.slice ka kn kc,.slice (some ⟨g,o,none⟩) tn tc] 40 (0,0))):=Lib.hid (by rw[hW3];simp only[zB,zC];rw[if_neg (by omega),if_pos trivial]);have PW31:Hid (blk W3 (w.heap.size+1)=some (.cells #[.slice none 0 0,.slice none 0 0] 40 (0,0))):=Lib.hid (by rw[hW3];simp only[zB,zC];rw[if_pos trivial]);obtain⟨pb,hpb⟩: ∃pb,pb=w.heap.size:=⟨_,rfl⟩;have HPB:=Lib.hid hpb;rw[←hpb]at PW30;rw[←hpb]at PW31;go_enter Tryz.func39,Tryz.ntmps39;go_upto_region 1 with fail
 rw[←hW3]
 try rw[←hpb]
 clear hW3 hpb;have p0:=zA PW30.out (i:=0) rfl;have p1:=zA PW30.out (i:=1) rfl;have r0:=zA PW31.out (i:=0) rfl;have r1:=zA PW31.out (i:=1) rfl;have rf0:=zE PW31.out (i:=0);have rf1:=zE PW31.out (i:=1);have b0:decide ((i:Int)<0)=false:=by simp
 have b1:decide ((tn:Int)≤(i:Int))=false:=by simp;omega
 have rd:=RD.out _ FW3.out;go_wp2;refine bodyPost_ret (ze rfl _ _ (pb+1) _ rfl (by rw[zD,if_pos rfl,zD,if_pos rfl,PW31.out];rfl) rfl zO zR) rfl ?_;exact⟨rfl,((FW3.out.setCell (.inr (by have:=HPB.out;omega)) _).setCell (.inr (by have:=HPB.out;omega)) _)⟩
set_option maxRecDepth 100000 in
set_option maxHeartbeats 1000000 in
theorem mcln_used(w:World)(i g o:Nat)(ka:Option Addr)(kn kc:Nat)(tn tc:Nat)(hi:i<tn)(hc:tn≤tc)(htc:tn≤1000000)(hg:g<w.heap.size)(RD:Hid (∀W,Fr [] w W→W.cell? ⟨g,o+i*2,none⟩=some (.bool true))):
 Calls Tryz.prog 41 #[.agg #[.slice ka kn kc,.slice (some ⟨g,o,none⟩) tn tc],.int .i64 (i:Int)] w fun e w'=>e=.returned (.tuple #[.agg #[.slice ka kn kc,.slice (some ⟨g,o,none⟩) tn tc],.int .i64 201])∧Fr [] w w':=by
 obtain⟨W3,hW3⟩: ∃W,W=((w.alloc (.cells #[.slice ka kn kc,.slice (some ⟨g,o,none⟩) tn tc] 40)).alloc (.cells #[.slice none 0 0,.slice none 0 0] 40)):=⟨_,rfl⟩;have FW3:Hid (Fr [] w W3):=Lib.hid (by rw[hW3];exact(((Fr.refl _ _).alloc _).alloc _));have PW30:Hid (blk W3 (w.heap.size)=some (.cells #[.slice ka kn kc,.slice (some ⟨g,o,none⟩) tn tc] 40 (0,0))):=Lib.hid (by rw[hW3];simp only[zB,zC];rw[if_neg (by omega),if_pos trivial]);have PW31:Hid (blk W3 (w.heap.size+1)=some (.cells #[.slice none 0 0,.slice none 0 0] 40 (0,0))):=Lib.hid (by rw[hW3];simp only[zB,zC];rw[if_pos trivial]);obtain⟨pb,hpb⟩: ∃pb,pb=w.heap.size:=⟨_,rfl⟩;have HPB:=Lib.hid hpb;rw[←hpb]at PW30;rw[←hpb]at PW31;go_enter Tryz.func41,Tryz.ntmps41;go_upto_region 1 with fail
 rw[←hW3]
 try rw[←hpb]
 clear hW3 hpb;have p0:=zA PW30.out (i:=0) rfl;have p1:=zA PW30.out (i:=1) rfl;have r0:=zA PW31.out (i:=0) rfl;have r1:=zA PW31.out (i:=1) rfl;have rf0:=zE PW31.out (i:=0);have rf1:=zE PW31.out (i:=1);have b0:decide ((i:Int)<0)=false:=by simp
 have b1:decide ((tn:Int)≤(i:Int))=false:=by simp;omega
 have rd:=RD.out _ FW3.out;go_wp2;refine bodyPost_ret (ze rfl _ _ (pb+1) _ rfl (by rw[zD,if_pos rfl,zD,if_pos rfl,PW31.out];rfl) rfl zO zR) rfl ?_;exact⟨rfl,((FW3.out.setCell (.inr (by have:=HPB.out;omega)) _).setCell (.inr (by have:=HPB.out;omega)) _)⟩
theorem own_cut{B:Nat}{T:TypeId}{size n c g:Nat}{xs:List Value}(h:w.ownsRow B T size (.slice (some ⟨g,0,none⟩) n c) n xs)(m:Nat)(hm:m≤n):w.ownsRow B T size (.slice (some ⟨g,0,none⟩) m c) m (xs.take (m*size)):=by
 have hmn:m*size≤n*size:=Nat.mul_le_mul_right _ hm;obtain⟨h1,h2⟩:=h;rcases h2 with⟨hv,_⟩|⟨g',cap,cur,hv,hb,hp,hc,hx,hz,ht⟩
 ·cases hv
 ·injection hv with q1 q2 q3
  injection q1 with q1
  injection q1 with q1
  subst q1 q3;refine⟨by rw[List.length_take];omega,.inr ⟨g,c,cur,rfl,hb,hp,by omega,hx,hz, ?_⟩⟩;rw[←ht,List.take_take,Nat.min_eq_left hmn]
theorem md_tk(h:MdR X w s t k):t.n=k.tk.length:=by
 obtain⟨Q,h1,h2⟩:=h.t;rw[h2.1.ne,←h1,List.length_map]
theorem md_fs(h:MdR X w s t k):s.n=k.fs.length:=by
 obtain⟨L,h1,h2⟩:=h.f;have:=congrArg List.length h1;rw[h2.1.ne];simpa using this
theorem md_used(h:MdR X w s t k){i:Nat}{q:Option (List PF)}(hq:k.tk[i]? =some q): ∃g o,t.a=some ⟨g,o,none⟩∧g<w.heap.size∧w.cell? ⟨g,o+i*2,none⟩=some (.bool q.isNone):=by
 obtain⟨Q,h1,h2⟩:=h.t;rw[←h1,List.getElem?_map]at hq;cases hz:Q[i]? with
 |none=>rw[hz]at hq;cases hq
 |some z=>
  rw[hz]at hq;injection hq with hq
  subst hq;obtain⟨g,o,e1,e2,e3,_⟩:=h2.el hz;exact⟨g,o,e1,e2,e3⟩
theorem info_t20r:(Tryz.prog.info? 127).map (fun i=>(i.zero,i.size,i.bytes))=some (some (.agg #[.bool false,.slice none 0 0]),2,32):=by kernel_rfl
def BpAt(X:List Nat)(w0 w:World)(L:List BV)(j:Nat)(g c:Nat)(Z:List BV):Prop:=Z.length=j∧Z.map BV.p=(L.take j).map BV.p∧w.ownsRow w0.heap.size 117 6 (.slice (some ⟨g,0,none⟩) j c) j (Z.flatMap BV.cells)∧(∀z,z∈Z→z.Ok (g::X) w)∧Fr [] w0 w
theorem BpAt.start(w0:World){w:World}(L:List BV)(hF:Fr [] w0 w):BpAt X w0 (w.alloc (.cells #[] 117)) L 0 w.heap.size 0 []:=
 ⟨rfl,by simp,own_mk (cur:= #[]) (by rw[zB,if_pos rfl]) hF.size (Nat.le_refl _) (Nat.zero_le _) rfl rfl,by simp,hF.alloc _⟩
theorem BpAt.next{w0 w wb w':World}{Z:List BV}{j g c g' c':Nat}{z z':BV}{cs:List Value}(h:BpAt X w0 w L j g c Z)(hz:L[j]? =some z)(e:z'.p=z.p)(hcs:z'.cells=cs)(hb:Fr [] w wb)(hok:z'.Ok (g::X) wb)(ho:w'.ownsRow w0.heap.size 117 6 (.slice (some ⟨g',0,none⟩) (j+1) c') (j+1) (Z.flatMap BV.cells++cs))(hF:Fr [g] wb w')(hg':g'=g∨wb.heap.size≤g'):BpAt X w0 w' L (j+1) g' c' (Z++[z']):=by
 obtain⟨h1,h2,h3,h4,h5⟩:=h;have hg:=zN h3
 have all: ∀q,q∈Z++[z']→q.Ok (g'::X) w':=by
  intro q hq
  have hqb:q.Ok (g::X) wb:=by
   rcases List.mem_append.1 hq with hq|hq
   ·exact(h4 q hq).fr hb (by simp)
   ·simp at hq;subst hq;exact hok
  have h1:q.Ok (g'::g::X) wb:=hqb.blocks (fun x hx=>by
   rcases List.mem_cons.1 hx with rfl|hx
   ·rcases hg' with h|h
    ·left;rw[h];simp
    ·exact .inr h
   ·exact .inl hx)
  exact(h1.fr hF (by simp)).blocks (fun x hx=> .inl (by
   rcases List.mem_cons.1 hx with rfl|hx
   ·simp
   ·simp[hx]))
 refine⟨by simp[h1], ?_, ?_,all,(h5.trans hb (by simp)).trans hF (fun x hx=> .inr (by simp at hx;omega))⟩
 ·rw[List.take_add_one,hz];simp[h2,e]
 ·subst hcs;simpa using ho
theorem Rd.of_own'{B:Nat}{t:TypeId}{size n g cap:Nat}{cs:List Value}(h:w.ownsRow B t size (.slice (some ⟨g,0,none⟩) n cap) n cs)(h1: ∀u,u∈cs→u.oneCell'=true)(hX:g∉X):Rd X w ⟨some ⟨g,0,none⟩,n,cap⟩ n size cs:=by
 refine⟨rfl,ZC h,own_len h,h1,.inr ⟨g,0,rfl,own_lt h,hX,fun i u hu=> ?_⟩⟩;rw[Nat.zero_add];exact zX h hu
theorem BpAt.bs{w0:World}{Z:List BV}{g c n:Nat}(h:BpAt X w0 w L n g c Z)(hn:L.length=n)(hX:g∉X):BsR X w ⟨some ⟨g,0,none⟩,n,c⟩ Z∧Z.map BV.p=L.map BV.p:=by
 obtain⟨h1,h2,h3,h4,h5⟩:=h;refine⟨⟨?_,fun z hz=>(h4 z hz).blocks (fun y hy=> .inl (by simp[hy]))⟩,by rw[h2,←hn,List.take_length]⟩;rw[h1];exact Rd.of_own' h3 (zl _ BV.one _) hX
theorem el_copy{wr:World}{j:Nat}(h:BsR X w s L)(hx:L[j]? =some x)(hF:Fr [] w wr)(hs:SzF x)(Y:List Nat)(hY: ∀z,z∈Y→z∈X∨w.heap.size≤z)(hYb: ∀z,z∈Y→z<wr.heap.size):
 ∃(gm om:Nat) (fa la qa:Option Addr) (n fc ln lc qn qc:Nat) (hd dp:Bool) (ret:Int),s.a=some ⟨gm,om,none⟩∧gm<wr.heap.size∧
  wr.cell? ⟨gm,om+j*6,none⟩=some (.slice fa n fc)∧wr.cell? ⟨gm,om+j*6+1,none⟩=some (.bool hd)∧wr.cell? ⟨gm,om+j*6+2,none⟩=some (.bool dp)∧wr.cell? ⟨gm,om+j*6+3,none⟩=some (.int .u64 ret)∧wr.cell? ⟨gm,om+j*6+4,none⟩=some (.slice la ln lc)∧wr.cell? ⟨gm,om+j*6+5,none⟩=some (.slice qa qn qc)∧
  Hid (∀W,Fr [] wr W→Calls Tryz.prog 75 #[.agg #[.slice fa n fc,.bool hd,.bool dp,.int .u64 ret,.slice la ln lc,.slice qa qn qc]] W fun e w'=> ∃(g1 c1:Nat),e=.returned (.agg #[.slice (some ⟨g1,0,none⟩) n c1,.bool hd,.bool dp,.int .u64 ret,.slice la ln lc,.slice qa qn qc])∧Hid (∃z':BV,z'.p=x.p∧z'.cells=[.slice (some ⟨g1,0,none⟩) n c1,.bool hd,.bool dp,.int .u64 ret,.slice la ln lc,.slice qa qn qc]∧z'.Ok Y w')∧Hid (Fr [] W w')):=by
 obtain⟨gm,om,h1,h2,a0,a1,a2,a3,a4,a5⟩:=h.el hx;have hok:=h.2 x (List.mem_of_getElem? hx);refine⟨gm,om,x.fr.a,x.l.a,x.q.a,x.fr.n,x.fr.cap,x.l.n,x.l.cap,x.q.n,x.q.cap,x.p.h.isSome,x.deep,x.ret,h1,Nat.lt_of_lt_of_le h2 hF.size,zd a0 hF (by simp),zd a1 hF (by simp),zd a2 hF (by simp),zd a3 hF (by simp),zd a4 hF (by simp),zd a5 hF (by simp),Lib.hid fun W hW=> ?_⟩;have hY2: ∀z,z∈Y→z<W.heap.size:=fun z hz=>Nat.lt_of_lt_of_le (hYb z hz) hW.size
 have hokW:x.Ok Y W:=((hok.blocks hY).fr (hF.trans hW (by simp)) (by simp));refine(r20Copy_c (X:=Y) W x hokW hY2 hs.1 hs.2).mono ?_;rintro e w' ⟨g1,c1,Z,rfl,hC⟩;have hn:=hok.f.1.ne;refine⟨g1,c1,by unfold BV.val;rw[hn];rfl,Lib.hid ⟨⟨x.p,Z,⟨some ⟨g1,0,none⟩,x.F.length,c1⟩,x.l,x.q⟩,rfl,by rw[hn];rfl,⟨?_, ?_,hokW.h.fr hC.2.2.2.2 (by simp)⟩⟩,Lib.hid hC.2.2.2.2⟩
 ·show Z.map FV.f=_
  rw[hC.2.1,List.take_length];exact hok.e
 ·have:=hC.fs hY2;show FsR Y w' _ Z;exact this
theorem Rd.drop{n size:Nat}{cs:List Value}(h:Rd X w s n size cs)(m:Nat)(hm:m<n): ∃g o,s.a=some ⟨g,o,none⟩∧Rd X w ⟨some ⟨g,o+m*size,none⟩,n-m,s.cap-m⟩ (n-m) size (cs.drop (m*size)):=by
 have hne:=h.ne;have hcp:=h.cp;rcases h.at_ with h0|⟨g,o,h1,h2,h3,h4⟩
 ·omega
 ·refine⟨g,o,h1,rfl,⟨by simp only;omega,by simp only;omega⟩,by rw[List.length_drop,h.len,Nat.sub_mul],fun u hu=>h.one u (List.mem_of_mem_drop hu),.inr ⟨g,_,rfl,h2,h3,fun i u hu=> ?_⟩⟩;rw[List.getElem?_drop]at hu;have:=h4 _ u hu;rw[show o+m*size+i=o+(m*size+i) by omega];exact this
end
end Go.Proofs.YtghkahcogphomaaGreat
