/- Fibers: a part of the walk. No condition. -/
import Derived.Test.YtghkahcogphomaaGreatQk19
set_option linter.all false
namespace Go.Proofs.YtghkahcogphomaaGreat
section
variable{A A':Ar}{m r:Nat}{M M' M'':Mem}{x s prev below hand l0:Int}{cap:Nat}{f:Frm}{fs r0:List Frm}
def Mem.wr(M:Mem)(s p:Int)(g:Nat→Int):Nat→Mem
 |0=>M
 |k+1=>(M.wr s p g k).put s (p+k) (g k)
theorem Mem.wr_lit{k n:Int}{f:Int→Int}(p:Int)(g:Nat→Int)(hx:M s=some ⟨k,n,f⟩)(N:Nat):M.wr s p g N s=some ⟨k,n,fun j=>if p≤j∧j<p+N then g (j-p).toNat else f j⟩:=by
 induction N with
 |zero=>
  rw[Mem.wr,hx]
  congr 2
  funext j
  rw[if_neg (by omega)]
 |succ N ih=>
  rw[Mem.wr,Mem.put_lit _ _ ih]
  congr 2
  funext j
  by_cases h1:j=p+N
  ·rw[if_pos h1,if_pos (by omega)]
   congr 1;omega
  ·rw[if_neg h1];by_cases h2:p≤j∧j<p+N
   ·rw[if_pos h2,if_pos (by omega)]
   ·rw[if_neg h2,if_neg (by omega)]
theorem Off.wr(M:Mem)(s p:Int)(g:Nat→Int)(N:Nat):Off [s] M (M.wr s p g N):=by
 induction N with
 |zero=>exact Off.refl _ _
 |succ N ih=>exact ih.trans (Off.put _ _ _ _)
theorem Hq.wr(h:Hq A m M){k n:Int}{f:Int→Int}(hx:M s=some ⟨k,n,f⟩){p:Int}(g:Nat→Int)(B:Nat→Ar)(h0:B 0=A)(N:Nat)
 (hs: ∀k,k<N→Hq (B k) m (M.wr s p g k)→B (k+1)=stF (B k) m s (p+k) (g k)) (p0:0≤p) (pN:p+N≤n) (hg: ∀k,k<N→W64 (g k)): ∀K,K≤N→Hq (B K) m (M.wr s p g K):=by
 intro K
 induction K with
 |zero=>intro _;rw[h0];exact h
 |succ K ih=>
  intro hK;have hk:=ih (by omega);rw[hs K (by omega) hk];exact hk.st (Mem.wr_lit p g hx K) (by omega) (by simp only;omega) (hg K (by omega))
theorem Hq.obj(h:Hq A m M)(kind:Int)(ws:List Int)(hw: ∀x,x∈ws→W64 x):
 ((objF A m kind ws).2=none∧Hq (objF A m kind ws).1 m M)∨∃x,(objF A m kind ws).2=some x∧M x=none∧x%8=1∧W64 x∧ws.length≤240∧∃M',Hq (objF A m kind ws).1 m M'∧Off [] M M'∧∃f,M' x=some ⟨kind,ws.length,f⟩∧∀i:Nat,i<ws.length→f i=ws[i]?.getD 0:=by
 rcases h.make kind ws.length with⟨h1,h2⟩|⟨x,h1,h2,h3,h4,n0,n1,h5⟩
 ·left;unfold objF;rw[h1];exact⟨rfl,h2⟩
 right;have hx:=Mem.new_eq M x kind ws.length;have hB:=h5.wr hx (p:=0) (fun i=>ws[i]?.getD 0) (fun k=>setN (makeF A m kind ws.length).1 m x ws k) rfl ws.length (fun k _ _=>by simp only[setN,Int.zero_add]) (by omega) (by omega) (fun k _=>w64_nth hw k) ws.length (Nat.le_refl _);have hl:=Mem.wr_lit 0 (fun i=>ws[i]?.getD 0) hx ws.length;unfold objF;rw[h1];refine⟨x,rfl,h2,h3,h4,by omega,_,hB, ?_,_,hl,fun i hi=> ?_⟩
 ·intro y o _ ho;have hyx:y≠x:=by rintro rfl;rw[h2]at ho;cases ho
  exact Off.wr _ _ _ _ _ y o (by simpa using hyx) (by rw[Mem.new_ne _ _ _ hyx];exact ho)
 ·rw[if_pos (by omega)];simp
theorem Hq.fiber(h:Hq A m M)(hb:W64 below)(hh:W64 hand):
 ((fibF A m below hand).2=none∧Hq (fibF A m below hand).1 m M)∨∃x,(fibF A m below hand).2=some x∧M x=none∧x%8=1∧W64 x∧∃M',Hq (fibF A m below hand).1 m M'∧Off [] M M'∧Fib M' x below 45 (-1) hand:=by
 have hw: ∀y,y∈[below,45,smW (-1),hand]→W64 y:=by
  intro y hy;simp at hy;rcases hy with rfl|rfl|rfl|rfl
  ·exact hb
  ·exact zG
  ·exact zH _
  ·exact hh
 rcases h.obj 7 [below,45,smW (-1),hand] hw with⟨h1,h2⟩|⟨x,h1,h2,h3,h4,_,M',h5,h6,f,h7,h8⟩
 ·exact .inl ⟨h1,h2⟩
 ·exact .inr ⟨x,h1,h2,h3,h4,M',h5,h6,f,h7,h8 0 (by simp),h8 1 (by simp),h8 2 (by simp),h8 3 (by simp)⟩
theorem Hq.segment(h:Hq A m M)(hp:W64 prev)(room:Nat):
 ((segF A m prev room).2=none∧Hq (segF A m prev room).1 m M)∨∃x,(segF A m prev room).2=some x∧M x=none∧x%8=1∧W64 x∧∃M',Hq (segF A m prev room).1 m M'∧Off [] M M'∧Seg M' x prev room []:=by
 rcases h.make 15 (2+room)with⟨h1,h2⟩|⟨x,h1,h2,h3,h4,n0,n1,h5⟩
 ·left;unfold segF;rw[h1];exact⟨rfl,h2⟩
 right;have hx:=Mem.new_eq M x 15 (2+room);have hp1:=h5.st hx (i:=0) (v:=prev) (by omega) (by simp only;omega) hp;have hp2:=hp1.st (Mem.put_lit _ _ hx) (i:=1) (by omega) (by simp only;omega) (zH 0);unfold segF;rw[h1];refine⟨x,rfl,h2,h3,h4,_,hp2, ?_,⟨_,Mem.put_lit _ _ (Mem.put_lit _ _ hx), ?_, ?_,fun i hi=>(by simp at hi)⟩,by simp⟩
 ·intro y o _ ho;have hyx:y≠x:=by rintro rfl;rw[h2]at ho;cases ho
  rw[Mem.put_ne _ _ _ hyx,Mem.put_ne _ _ _ hyx,Mem.new_ne _ _ _ hyx];exact ho
 ·rw[if_neg (by omega),if_pos rfl]
 ·rw[if_pos rfl];rfl
theorem Hq.refill(h:Hq A m M){ws:List Int}{p0 p1 to:Int}{room:Nat}(hs:Seg M s p0 cap ws)(ht:Seg M to p1 room [])(hne:s≠to)(hr:ws.length≤room):
 ∃M',Hq (stF (growN A m to s (nmF A m s 1).toNat) m to 1 (smW (nmF A m s 1))) m M'∧Off [to] M M'∧Seg M' to p1 room ws:=by
 have hcp:=hs.cp h;have hcr:=ht.cp h;have hu:=hs.used h;have hww:=hs.wsw h;obtain⟨g,q1,q2,q3,q4⟩:=ht.ex
 have hB:=h.wr q1 (p:=2) (fun k=>ws[k]?.getD 0) (fun k=>growN A m to s k) rfl ws.length (fun k hk hpk=>by
  have hS:=hs.off (Off.wr M to 2 (fun k=>ws[k]?.getD 0) k) (by simpa using hne);simp only[growN];rw[hS.at hpk hk]) (by omega) (by omega) (fun k hk=>hww k hk) ws.length (Nat.le_refl _)
 have hl:=Mem.wr_lit 2 (fun k=>ws[k]?.getD 0) q1 ws.length;have p2:=hB.st hl (i:=1) (by omega) (by simp only;omega) (zH ws.length);rw[hu,Int.toNat_natCast];refine⟨_,p2,(Off.wr _ _ _ _ _).trans (Off.put _ _ _ _), ?_⟩;have:=ht.grow ws _ (Mem.put_lit 1 (smW ws.length) hl) (by simp;omega) ?_ ?_ ?_ ?_
 ·simpa using this
 ·rw[if_neg (by omega),if_neg (by omega)];exact q2
 ·rw[if_pos rfl];simp
 ·intro i hi;simp at hi
 ·intro i hi;rw[if_neg (by omega),if_pos (by simp only[List.length_nil];omega)]
  congr 2
  simp only[List.length_nil];omega
theorem off_drop{M1:Mem}{fp:List Int}(h1:Off [] M M1)(h2:Off (s::fp) M1 M')(hs:M s=none):Off fp M M':=by
 intro y o hy ho;refine h2 y o ?_ (h1 y o (by simp) ho);simp only[List.mem_cons,not_or];refine⟨?_,hy⟩;rintro rfl;rw[hs]at ho;cases ho
theorem Hq.copy(h:Hq A m M){ws:List Int}{p0:Int}(hs:Seg M s p0 cap ws)(hp:W64 prev):
 ((segStep A m s prev).2=none∧Hq (segStep A m s prev).1 m M)∨∃to,(segStep A m s prev).2=some to∧M to=none∧W64 to∧∃M',Hq (segStep A m s prev).1 m M'∧Off [] M M'∧Seg M' to prev (max cap 1) ws:=by
 have hrm:=hs.rm h;have hle:=hs.le;have e0:max (rmF A m s) 1=(max cap 1:Nat):=by rw[hrm];omega
 rcases h.segment hp (max cap 1)with⟨e1,e2⟩|⟨to,e1,e2,e3,e4,M1,p1,O1,S1⟩
 ·left;unfold segStep;rw[e0,e1];exact⟨rfl,e2⟩
 right
 have hne:s≠to:=by
  rintro rfl;obtain⟨o,ho,_⟩:=hs.obj;rw[e2]at ho;cases ho
 have S0:=hs.off O1 (by simp);obtain⟨M2,p2,O2,S2⟩:=p1.refill S0 S1 hne (by omega);have hu:nmF (segF A m prev (max cap 1:Nat)).1 m s 1=nmF A m s 1:=by rw[S0.used p1,hs.used h]
 rw[hu]at p2;refine⟨to, ?_,e2,e4,M2, ?_,off_drop O1 O2 e2,S2⟩
 ·unfold segStep;rw[e0,e1]
 ·unfold segStep;rw[e0,e1];exact p2
def Frm.fresh(cl:Int)(sl wd:Nat):Frm:=⟨cl,0,List.replicate sl (mkW 5 3),[],wd⟩
theorem Hq.pushed(h:Hq A m M){ws:List Int}{seg0 base cl:Int}(hf:Fib M x below seg0 base hand)(hs:Seg M s prev cap ws)(sl wd:Nat)(hc:ws.length+5+sl+wd≤cap)(hcl:W64 cl):
 ∃M',Hq (pushS A m x cl sl wd s) m M'∧Fib M' x below s ws.length hand∧Seg M' s prev cap (ws++(Frm.fresh cl sl wd).enc base)∧Off [s,x] M M':=by
 have hne:=fib_seg_ne hf hs;have hu:=hs.used h;have hcp:=hs.cp h;have hsw:=hs.w h;obtain⟨g,e1,e2,e3,e4⟩:=hs.ex;have hg2:=(hf.g h).2.2.1;have hL:headL A m x cl sl wd=[cl,smW 0,smW base,smW sl,smW wd]:=by unfold headL;rw[hg2]
 have hLw: ∀y,y∈headL A m x cl sl wd→W64 y:=by
  rw[hL];intro y hy;simp at hy;rcases hy with rfl|rfl|rfl|rfl|rfl
  ·exact hcl
  all_goals exact zH _
 have p1:=h.wr e1 (p:=2+(ws.length:Int)) (fun i=>(headL A m x cl sl wd)[i]?.getD 0) (fun k=>headN A m s ws.length (headL A m x cl sl wd) k) rfl 5 (fun k _ _=>by simp only[headN]) (by omega) (by omega) (fun k _=>w64_nth hLw k) 5 (Nat.le_refl _);have q1:=Mem.wr_lit (2+(ws.length:Int)) (fun i=>(headL A m x cl sl wd)[i]?.getD 0) e1 5;have p2:=p1.wr q1 (p:=2+(ws.length:Int)+5) (fun _=>mkW 5 3) (fun k=>voidN (headN A m s ws.length (headL A m x cl sl wd) 5) m s ws.length k) rfl sl (fun k _ _=>by simp only[voidN]) (by omega) (by omega) (fun k _=>mkW_bd 5 3 (by omega) (by omega)) sl (Nat.le_refl _);have q2:=Mem.wr_lit (2+(ws.length:Int)+5) (fun _=>mkW 5 3) q1 sl;have p3:=p2.st q2 (i:=1) (by omega) (by simp only;omega) (zH (ws.length+5+sl));have O3:Off [s] M (((M.wr s (2+(ws.length:Int)) (fun i=>(headL A m x cl sl wd)[i]?.getD 0) 5).wr s (2+(ws.length:Int)+5) (fun _=>mkW 5 3) sl).put s 1 (smW (ws.length+5+sl))):=((Off.wr _ _ _ _ _).trans (Off.wr _ _ _ _ _)).trans (Off.put _ _ _ _);have F3:=hf.off O3 (by simpa using hne);have q3:=Mem.put_lit 1 (smW (ws.length+5+sl)) q2;obtain⟨o,ho,hn,_⟩:=F3.obj;have p4:=p3.st ho (i:=1) (by omega) (by omega) hsw;have F4:=F3.seg' s;obtain⟨o4,ho4,hn4,_⟩:=F4.obj;have p5:=p4.st ho4 (i:=2) (by omega) (by omega) (zH ws.length);have F5:=F4.base' ws.length
 have S3:Seg (((M.wr s (2+(ws.length:Int)) (fun i=>(headL A m x cl sl wd)[i]?.getD 0) 5).wr s (2+(ws.length:Int)+5) (fun _=>mkW 5 3) sl).put s 1 (smW (ws.length+5+sl))) s prev cap (ws++(Frm.fresh cl sl wd).enc base):=by
  have hlen:((Frm.fresh cl sl wd).enc base).length=5+sl:=by rw[Frm.len_enc];simp[Frm.len,Frm.fresh]
  refine hs.grow _ _ q3 (by rw[hlen];omega) ?_ ?_ ?_ ?_
  ·rw[if_neg (by omega),if_neg (by omega),if_neg (by omega)];exact e2
  ·rw[if_pos rfl,hlen]
   congr 1
   omega
  ·intro i hi f2 hf2;rw[e1]at hf2;injection hf2 with hf2
   injection hf2 with _ _ hf2
   subst hf2;rw[if_neg (by omega),if_neg (by omega),if_neg (by omega)]
  ·intro i hi;rw[hlen]at hi;rw[if_neg (by omega)];by_cases h5:i<5
   ·rw[if_neg (by omega),if_pos (by omega),hL];rw[show((2:Int)+((ws.length+i:Nat):Int)-(2+(ws.length:Int))).toNat=i by omega];unfold Frm.enc Frm.fresh;rw[List.getElem?_append_left (by simp;omega),List.getElem?_append_left (by simp;omega)]
    simp
   ·rw[if_pos (by omega)];obtain⟨j,rfl⟩: ∃j,i=5+j:=⟨i-5,by omega⟩;rw[Frm.at5 _ _ j (by simp[Frm.fresh];omega)];simp only[Frm.fresh];rw[List.getElem?_replicate,if_pos (by omega)];rfl
 have E:pushS A m x cl sl wd s=stF (stF (stF (voidN (headN A m s ws.length (headL A m x cl sl wd) 5) m s ws.length sl) m s 1 (smW (ws.length+5+sl))) m x 1 s) m x 2 (smW ws.length):=by
  unfold pushS;rw[hu,Int.toNat_natCast]
 rw[E];refine⟨_,p5,F5, ?_, ?_⟩
 ·refine(S3.off (Off.put _ x 1 s) ?_).off (Off.put _ x 2 _) ?_
  ·simpa using Ne.symm hne
  ·simpa using Ne.symm hne
 ·exact((O3.mono (by simp)).trans ((Off.put _ x 1 s).mono (by simp))).trans ((Off.put _ x 2 _).mono (by simp))
theorem gtF_45{A:Ar}{m:Nat}(i:Int):gtF A m 45 i=45∧szF A m 45= -1:=by
 have:hAt A m 45=none:=by unfold hAt;rw[if_neg];omega
 constructor
 ·unfold gtF getF;rw[this];simp
 ·unfold szF;rw[this];rfl
theorem fits_mono{cap':Nat}(h:cap≤cap'):fits cap fs→fits cap' fs:=by
 induction fs with
 |nil=>exact fun _=>trivial
 |cons f r ih=>exact fun hf=>⟨by have:=hf.1;omega,hf.2.1,hf.2.2.1,hf.2.2.2.1,ih hf.2.2.2.2⟩
end
section
open Go.ChangeShapes Go.WideShapes Go.RowKit
variable{w0 w w1 w':World}{c:Sk}{A A':Ar}{top:Int}{last:Value}
theorem info_wd:(Tryz.prog.info? 28).map (fun i=>(i.zero,i.size,i.bytes))=some (some (.int .u64 0),1,8):=by kernel_rfl
def zipL(ls ps:List Int):Nat→List Int
 |0=>[]
 |k+1=>zipL ls ps k++[ls[k]?.getD 0,ps[k]?.getD 0]
theorem len_zipL(ls ps:List Int)(k:Nat):(zipL ls ps k).length=2*k:=by
 induction k with
 |zero=>rfl
 |succ k ih=>simp[zipL,ih];omega
def entL(deep:Bool)(ret:Int)(ls ps:List Int)(k:Nat):List Int:=[smW (if deep=true then 1 else 0),ret]++zipL ls ps k
theorem len_entL(deep:Bool)(ret:Int)(ls ps:List Int)(k:Nat):(entL deep ret ls ps k).length=2+2*k:=by simp[entL,len_zipL];omega
theorem w64_zipL{ls ps:List Int}(h1: ∀x,x∈ls→W64 x)(h2: ∀x,x∈ps→W64 x)(k:Nat): ∀x,x∈zipL ls ps k→W64 x:=by
 induction k with
 |zero=>intro x hx;simp[zipL]at hx
 |succ k ih=>
  intro x hx;simp only[zipL,List.mem_append,List.mem_cons,List.not_mem_nil,or_false]at hx;rcases hx with hx|rfl|rfl
  ·exact ih x hx
  ·exact w64_nth h1 k
  ·exact w64_nth h2 k
def wc(l:List Int):List Value:=l.map (Value.int .u64)
theorem truth_c(b:Bool)(w:World):Calls Tryz.prog 63 #[.bool b] w fun e w'=>e=.returned (.int .i64 (if b=true then 1 else 0))∧w=w':=by
 cases b
 ·go_enter Tryz.func63,Tryz.ntmps63;go_wp2;go_ret;exact⟨rfl,rfl⟩
 ·go_enter Tryz.func63,Tryz.ntmps63;go_wp2;go_ret;exact⟨rfl,rfl⟩
theorem cells_add{w:World}{g:Nat}{l:List Value}(h: ∀j u,l[j]? =some u→w.cell? ⟨g,j,none⟩=some u): ∀j u,l[j]? =some u→w.cell? ((⟨g,0,none⟩:Addr).add j)=some u:=by
 intro j u hu;rw[←h j u hu];unfold Addr.add;split
 ·subst j;rfl
 ·rw[Nat.zero_add]
def EntAt(w wr:World)(g cap N:Nat)(l:List Int):Prop:=wr.ownsRow w.heap.size 28 1 (.slice (some ⟨g,0,none⟩) N cap) N (wc l)∧Fr [] w wr
theorem EntAt.start(w wr:World)(hF:Fr [] w wr)(a b:Int):EntAt w (wr.alloc (.cells #[.int .u64 a,.int .u64 b] 28)) wr.heap.size 2 2 [a,b]:=
 ⟨own_mk (cur:= #[.int .u64 a,.int .u64 b]) (by rw[zB,if_pos rfl]) hF.size (Nat.le_refl _) (by decide) rfl rfl,hF.alloc _⟩
theorem EntAt.fd(h:St w0 w c A top last){wr:World}{g cap N:Nat}{l:List Int}(hE:EntAt w wr g cap N l)(hN:l.length=N):FdAt wr c (some ⟨g,0,none⟩) l:=by
 right;refine⟨g,0,rfl,own_lt hE.1,fun hm=> ?_,fun i hi=> ?_⟩
 ·have h1:=zN hE.1;unfold Sk.own at hm;simp only[List.mem_cons,List.not_mem_nil,or_false]at hm;rcases hm with rfl|rfl|rfl|rfl|rfl
  ·have:=zF h.a.k;omega
  ·have:=zF h.a.r;omega
  ·have:=zF h.a.h.ar.hb;omega
  ·have:=zF h.a.h.ar.hw;omega
  ·have:=zF h.a.h.ar.hl;omega
 ·rw[Nat.zero_add];exact zX hE.1 (by unfold wc;rw[List.getElem?_map,List.getElem?_eq_getElem hi];rfl)
set_option maxRecDepth 100000 in
set_option maxHeartbeats 2000000 in
theorem kenter_c(h:St w0 w c A top last)(deep:Bool)(ret:Int)(hret:W64 ret)(ls ps:List Int)(h1: ∀x,x∈ls→W64 x)(h2: ∀x,x∈ps→W64 x)(n:Nat)(hn1:ls.length=n)(hn2:ps.length=n)(hn:n≤20)(a1 a2:Option Addr)(cap1 cap2:Nat)(f1:FdAt w c a1 ls)(f2:FdAt w c a2 ps)
 (hd f:Int) (ho:(objF A c.m 8 (entL deep ret ls ps n)).2=some hd) (hhd:W64 hd) (hf:(fibF (objF A c.m 8 (entL deep ret ls ps n)).1 c.m top hd).2=some f) (hfw:W64 f):
 Calls Tryz.prog 15 #[.pointer (some ⟨c.kb,0,none⟩),.bool deep,.int .u64 ret,.slice a1 n cap1,.slice a2 n cap2] w fun e w'=>e=.returned (.bool true)∧St w0 w' c (fibF (objF A c.m 8 (entL deep ret ls ps n)).1 c.m top hd).1 f (.pointer none):=by
 have H:=Lib.hid h;have HF1:=Lib.hid f1;have HF2:=Lib.hid f2;have HN1:=Lib.hid hn1;have HN2:=Lib.hid hn2;obtain⟨i0,hi,hz0,hz1,hz2⟩:=info_parts info_wd;have HI:=Lib.hid hi;have Z0:=Lib.hid hz0;have Z1:=Lib.hid hz1;have Z2:=Lib.hid hz2
 have CO:Hid (∀wr g cap N,EntAt w wr g cap N (entL deep ret ls ps n)→N=2+2*n→Calls Tryz.prog 64 #[.pointer (some ⟨c.sb,0,none⟩),.int .i64 8,.slice (some ⟨g,0,none⟩) N cap] wr fun e w'=>e=.returned (.tuple #[.int .u64 hd,.bool true])∧St w0 w' c (objF A c.m 8 (entL deep ret ls ps n)).1 top last):=Lib.hid (fun wr g cap N hE hN=>by
  have:=vobject_c (h.keep hE.2) 8 (by omega) (entL deep ret ls ps n) (by
   intro x hx;unfold entL at hx;simp only[List.cons_append,List.nil_append,List.mem_cons]at hx;rcases hx with rfl|rfl|hx
   ·exact zH _
   ·exact hret
   ·exact w64_zipL h1 h2 n x hx) (some ⟨g,0,none⟩) N cap (EntAt.fd h hE (by rw[len_entL,hN])) (by rw[len_entL,hN]) (by omega)
  rw[ho]at this;exact this)
 have CFB:Hid (∀w1,St w0 w1 c (objF A c.m 8 (entL deep ret ls ps n)).1 top last→Calls Tryz.prog 61 #[.pointer (some ⟨c.kb,0,none⟩),.int .u64 top,.int .u64 hd] w1 fun e w'=>e=.returned (.tuple #[.int .u64 f,.bool true])∧St w0 w' c (fibF (objF A c.m 8 (entL deep ret ls ps n)).1 c.m top hd).1 top last):=Lib.hid (fun w1 h1=>by
  have:=kfiber_c h1 top hd h1.tw hhd;rw[hf]at this;exact this)
 have CTU:Hid (∀w1,St w0 w1 c (fibF (objF A c.m 8 (entL deep ret ls ps n)).1 c.m top hd).1 top last→_):=Lib.hid (fun w1 h1=>kturn_c h1 f hfw);generalize (fibF (objF A c.m 8 (entL deep ret ls ps n)).1 c.m top hd).1=A2 at*;generalize (objF A c.m 8 (entL deep ret ls ps n)).1=A1 at*;obtain⟨d,hdd⟩: ∃d,d=smW (if deep=true then 1 else 0):=⟨_,rfl⟩;have SM:Hid (∀w,Calls Tryz.prog 62 #[.int .i64 (if deep=true then 1 else 0)] w fun e w'=>e=.returned (.int .u64 d)∧w=w'):=Lib.hid (fun w=>by rw[hdd];exact zb _ w (by cases deep<;>simp) (by cases deep<;>simp));have TR:=Lib.hid (truth_c deep);have EL:Hid (∀k,entL deep ret ls ps k=[d,ret]++zipL ls ps k):=Lib.hid (fun k=>by rw[hdd];rfl);have E0:Hid (EntAt w (w.alloc (.cells #[.int .u64 d,.int .u64 ret] 28)) w.heap.size 2 2 (entL deep ret ls ps 0)):=Lib.hid (by rw[EL.out];exact EntAt.start w w (Fr.refl _ _) d ret);generalize (if deep=true then(1:Int)else 0)=dn at*;have hnI:(n:Int)≤20:=by omega
 clear h f1 f2 hn1 hn2 hi hz0 hz1 hz2 ho hf hdd h1 h2;go_enter Tryz.func15,Tryz.ntmps15;go_wp2_with fail;refine(TR.out _).mono ?_;rintro e w' ⟨rfl,rfl⟩;go_wp2_with fail;refine(SM.out _).mono ?_;rintro e w' ⟨rfl,rfl⟩;clear TR SM;go_wp2;go_loopw [11,34] (fun v y wr=> ∃(k g cap N:Nat),k≤n∧y=.int .i64 (k:Int)∧v=.slice (some ⟨g,0,none⟩) N cap∧Hid (N=2+2*k)∧Hid (EntAt w wr g cap N (entL deep ret ls ps k))) (fun _ y _=>n-(intOf y).toNat)
 case atStart=>exact⟨0,w.heap.size,2,2,Nat.zero_le _,rfl,rfl,Lib.hid rfl,E0⟩
 case round=>
  obtain⟨k,g,cap,N,hk,rfl,rfl,hN,hE⟩:=hrel;clear E0;by_cases hlt:k<n
  ·have r1:=HF1.out.keep ((hE.out.2).mono (T:=c.own) (by simp));have r2:=HF2.out.keep ((hE.out.2).mono (T:=c.own) (by simp));rcases r1 with r1|⟨b1,o1,rfl,p1,_,q1⟩
   ·have:=HN1.out;rw[r1]at this;simp at this;omega
   rcases r2 with r2|⟨b2,o2,rfl,p2,_,q2⟩
   ·have:=HN2.out;rw[r2]at this;simp at this;omega
   have d1:=q1 k (by rw[HN1.out];exact hlt);have d2:=q2 k (by rw[HN2.out];exact hlt);have EK:=EL.out (k+1);obtain⟨x,hx⟩: ∃x,x=ls[k]?.getD 0:=⟨_,rfl⟩;obtain⟨y,hy⟩: ∃y,y=ps[k]?.getD 0:=⟨_,rfl⟩
   have NX:Hid (wc (entL deep ret ls ps k)++[.int .u64 x,.int .u64 y]=wc (entL deep ret ls ps (k+1))):=Lib.hid (by
    rw[EK,EL.out k,hx,hy];simp[wc,zipL])
   rw[←hx]at d1;rw[←hy]at d2;clear hx hy EK q1 q2;have OW:Hid ((wr.alloc (.cells #[.int .u64 x,.int .u64 y] 28)).ownsRow w.heap.size 28 1 (.slice (some ⟨g,0,none⟩) N cap) N (wc (entL deep ret ls ps k))):=Lib.hid (zL hE.out.1 ((Fr.refl [] _).alloc _) (by simp))
   have CE:Hid (∀j u,[Value.int .u64 x,.int .u64 y][j]? =some u→(wr.alloc (.cells #[.int .u64 x,.int .u64 y] 28)).cell? ((⟨wr.heap.size,0,none⟩:Addr).add j)=some u):=Lib.hid (cells_add (fun j u hu=>by
    refine zA (c:= #[.int .u64 x,.int .u64 y]) (t:=28) (by rw[zB,if_pos rfl]) ?_;rw[←hu];simp))
   have hBs:w.heap.size≤(wr.alloc (.cells #[.int .u64 x,.int .u64 y] 28)).heap.size:=by have:=hE.out.2.size;rw[zC];omega
   have hNs:N≤100:=by have:=hN.out;omega
   have FR:Hid (Fr [] w (wr.alloc (.cells #[.int .u64 x,.int .u64 y] 28))∧w.heap.size≤g):=Lib.hid ⟨hE.out.2.alloc _,zN hE.out.1⟩;clear hE;go_wp2_with (at_builtin;refine wpList_append_own _ rfl _ _ 29 rfl w.heap.size 28 i0 (.int .u64 0) 1 8 Tryz.underlying29 HI.out Z0.out Z1.out Z2.out rfl (by decide) (.slice (some ⟨g,0,none⟩) N cap) N (wc (entL deep ret ls ps k)) rfl OW.out ⟨wr.heap.size,0,none⟩ 2 2 [.int .u64 x,.int .u64 y] rfl rfl CE.out (by simp[Value.oneCell']) (by unfold maxLen;omega) (by omega) hBs ?_;intro v' w5 hown hgrow hnil);have G5:Fr [] w w5:=FR.out.1.trans (grown_fr hgrow) (by intro q hq;simp[Value.ownBlock]at hq;subst hq;right;exact FR.out.2);obtain⟨g5,cap5,rfl,_,_⟩:=hown.form (by omega);have E5:Hid (EntAt w w5 g5 cap5 (N+2) (entL deep ret ls ps (k+1))):=Lib.hid ⟨by rw[←NX.out];exact hown,G5⟩;have N5:Hid (N+2=2+2*(k+1)):=Lib.hid (by have:=hN.out;omega);clear hown hgrow hnil CE OW FR NX G5;go_wp2;go_roundw
   case rel=>exact⟨k+1,g5,cap5,N+2,by omega,by go_num,rfl,N5,E5⟩
   case measure=>simp[intOf];omega
  ·have hkn:k=n:=by omega
   have CX:=Lib.hid (CO.out wr g cap N (by rw[←hkn];exact hE.out) (by rw[←hkn];exact hN.out));have k0:=(H.out.keep hE.out.2).k0;clear hkn CO hE;go_wp2_with fail;refine CX.out.mono ?_;rintro e w5 ⟨rfl,h5⟩;have h5:=Lib.hid h5;clear CX k0;go_wp2_with (go_at_call 46;refine(zh h5.out).mono ?_;rintro e w' ⟨rfl,rfl⟩);refine(CFB.out _ h5.out).mono ?_;rintro e w6 ⟨rfl,h6⟩;have h6:=Lib.hid h6;clear h5 CFB;go_wp2_with fail;refine(CTU.out _ h6.out).mono ?_;rintro e w7 ⟨rfl,h7⟩;go_wp2;go_ret;exact⟨rfl,h7⟩
end
end Go.Proofs.YtghkahcogphomaaGreat
