/- The contracts of slices.Delete, slices.Insert and Pool.chunk; no condition. -/
import Derived.Test.YtgcnddnmhllahaaGreatJSrt
import Derived.Test.YtgcnddnmhllahaaGreatIc
import Derived.Test.YtgcnddnmhllahaaGreatProg
import Derived.Shelf.RegionOpenPlain
import Derived.WalkKit
import Derived.Deep.LoopGhost
import Derived.Deep.RegionLaw
import Derived.Lib.Walk
import Derived.Lib.SliceRun
import Derived.Lib.AppendZeros
import Derived.Lib.Overlaps
import Derived.Lib.AppendZerosOnto
import Derived.Laws.Externs
set_option linter.all false
namespace Go.Proofs.YtgcnddnmhllahaaGreat
open Go.Eng Go.RowKit Go.Lib
theorem S9{w:World}{b o:Nat}{vs:List Value}{arr:Array Value}{T:TypeId}(hh:w.heap[b]? =some (.cells arr T (0,0)))(hf:o+vs.length<=arr.size)(h1: ∀v∈vs,v.oneCell'=true):w.setCells b o vs=w.setRow b (An arr o vs):=by
 have a1:=run_storeCells_cells (P:=Tryz.prog) b o vs 0 w (fun j hj=>by rw[Cb hh,Array.getElem?_eq_getElem (by omega)];rfl) (fun j hj=>by simp[World.frozen?,hh]) h1;have a2:=run_storeCells_at Tryz.prog b o T vs 0 arr w hh (by omega) h1;simp only[Nat.add_zero]at a1 a2;rw[a1]at a2;injection a2
theorem Aiz{P:Program}(w:World)(t e ty:TypeId)(z:Value)(ht:P.underlying t=some (.slice e))(hv: ∀w,(zeroValue e).run P w= .ok z w)(b o c:Nat){arr:Array Value}{T:TypeId}(hh:w.heap[b]? =some (.cells arr T (0,0)))(hf:o+z.cells.size<=arr.size)(h1: ∀v∈z.cells.toList,v.oneCell'=true):
  (Builtin.clear_ #[t] ty #[.slice (some ⟨b,o,none⟩) 1 c]).run P w= .ok (.tuple #[]) (w.setCells b o z.cells.toList):=by
 have hzc:(Builtin.zeroCells z.cells 1).toList=z.cells.toList:=by
  unfold Builtin.zeroCells;apply List.ext_getElem?;intro i;rw[Nat.one_mul,Array.toList_map,Array.toList_range,As];by_cases hi:i<z.cells.size
  ·rw[List.getElem?_range hi,Array.getElem?_toList,Array.getElem?_eq_getElem hi];simp only[Du,Z7];rw[Nat.mod_eq_of_lt hi,getElem!_pos z.cells i hi]
  ·rw[Pw (by simp;omega),Pw (by simp;omega)];rfl
 have hst:=run_storeCells_cells (P:=P) b o z.cells.toList 0 w (fun j hj=>by rw[Cb hh,Array.getElem?_eq_getElem (by simp at hj;omega)];rfl) (fun j hj=>by simp[World.frozen?,hh]) h1;simp only[Nat.add_zero]at hst;simp[Builtin.clear_,run_underlying ht,hv,hzc,hst]
theorem Ai0{w:World}{b o n es:Nat}{arr:Array Value}{T:TypeId}{zc:List Value}(hh:w.heap[b]? =some (.cells arr T (0,0)))(h0:0<n)(hf:o+n*es<=arr.size)(hz:zc.length=es)(h1: ∀v∈zc,v.oneCell'=true){news:List Value}(hn:news.length=(n - 1)*es)(hnv: ∀(j:Nat) u,news[j]? =some u->arr[o+es+j]? =some u)(hn1: ∀v∈news,v.oneCell'=true):
  ∃d arr',(w.drew.setCells b (o+0*es) news).setCells b (o+(n - 1)*es) zc=({w with drawn:=d}:World).setRow b arr'/\arr'.size=arr.size/\ ∀j,j<(n - 1)*es->arr'[o+j]? =arr[o+es+j]? :=by
 have e0:(n - 1)*es+es=n*es:=by obtain⟨m,rfl⟩: ∃m,n=m+1:=⟨n - 1,by omega⟩;rw[Nat.succ_mul];rfl
 have hh1:w.drew.heap[b]? =some (.cells arr T (0,0)):=hh;have a1:=S9 (o:=o+0*es) hh1 (by omega) hn1;rw[a1];have hh2:=setRow_heap w.drew b arr (An arr (o+0*es) news) T (0,0) hh1;have hs1:(An arr (o+0*es) news).size=arr.size:=Dx (by omega);rw[S9 hh2 (by omega) h1,setRow_setRow];refine⟨w.drawn+1,_,rfl,(Dx (by omega)).trans hs1,fun j hj=> ?_⟩;rw[Eh (by omega),if_neg (by omega),Eh (by omega),if_pos (by omega)];have hj2:o+j - (o+0*es)=j:=by omega
 rw[hj2,A3 (by omega)];exact(hnv j _ (A3 (by omega))).symm
theorem Ai1{arr:Array Value}{o es m:Nat}(hf:o+es+m<=arr.size): ∃news:List Value,news.length=m/\ ∀(j:Nat) u,news[j]? =some u->arr[o+es+j]? =some u:=
 ⟨(arr.toList.drop (o+es)).take m,by simp;omega,fun j u h=>by
  rw[Jf]at h;split at h
  ·rw[Mu,Array.getElem?_toList]at h;exact h
  ·cases h⟩
set_option maxHeartbeats 4000000 in
set_option maxRecDepth 1000000 in
theorem Ayn:Pa Tryz.prog 266 1:=by
 refine⟨⟨_,Tryz.func266,by kernel_rfl,by kernel_rfl⟩,fun b o n cap w arr T hh hfit h0 hn hm0 hone=> ?_⟩;have hm:cap<=9223372036854775807:=by unfold maxLen at hm0;omega
 have e0:(n - 1)*1+1=n*1:=by omega
 have hle:n*1<=cap*1:=Bx _ hn;obtain⟨news,hnl,hnv⟩:=Ai1 (arr:=arr) (o:=o) (es:=1) (m:=(n - 1)*1) (by omega);obtain⟨A,hA,hsrc⟩: ∃A:Addr,(if cap=1 then some (⟨b,o,none⟩:Addr)else some ⟨b,o+1,none⟩)=some A/\Hid (∀(j:Nat) u,news[j]? =some u->w.drew.cell? (A.add j)=some u):=by
  by_cases h:cap=1
  ·refine⟨⟨b,o,none⟩,by simp[h],fun j u hu=> ?_⟩;have:=(Z3.1 hu).1;omega
  ·refine⟨⟨b,o+1,none⟩,by simp[h],fun j u hu=> ?_⟩;rw[Addr.add_lit];exact(Cb hh).trans (hnv j u hu)
 have hn1: ∀u∈news,u.oneCell'=true:=fun u hu=>by
  obtain⟨j,hj⟩:=C6.1 hu;have hjl:=(Z3.1 hj).1;refine hone (1+j) u (by omega) ?_;rw[<-Gi];exact hnv j u hj
 have s1:Hid (news.length=(n - 1)*1):=hnl;have s2:Hid (∀u∈news,u.oneCell'=true):=hn1;have s3:Hid (∀j,j<news.length->(w.drew.cell? ⟨b,o+0*1+j,none⟩).isSome=true/\w.drew.frozen? ⟨b,o+0*1+j,none⟩=false):=fun j hj=>by
  refine⟨?_,?_⟩
  ·show(w.cell? _).isSome=true;rw[Cb hh,Array.getElem?_eq_getElem (by omega)];rfl
  ·show w.frozen? _=false;simp[World.frozen?,hh]
 obtain⟨i0,hi0,hz0,hz1,hz2⟩:=info_parts (show(Tryz.prog.info? 3).map (fun i=>(i.zero,i.size,i.bytes))=some (some (Value.int .i64 0),1,8) from by kernel_rfl);have hzc: ∀v∈(Value.int .i64 0).cells.toList,v.oneCell'=true:=by
  intro v hv;simp[Value.cells]at hv;rcases hv with rfl|rfl|rfl<;>rfl
 obtain⟨d,arr',e1,e2,e3⟩:=Ai0 (es:=1) (zc:=(Value.int .i64 0).cells.toList) hh h0 (by omega) rfl hzc hnl hnv hn1;have F:Aside ((w.drew.setCells b (o+0*1) news).setCells b (o+(n - 1)*1) (Value.int .i64 0).cells.toList=({w with drawn:=d}:World).setRow b arr'):=e1;obtain⟨W1,hW1⟩: ∃W1,W1=w.drew.setCells b (o+0*1) news:=⟨_,rfl⟩;have hcl: ∀ty,(Builtin.clear_ #[25] ty #[.slice (some ⟨b,(o+(n - 1)),none⟩) (n - (n - 1)) (cap - (n - 1))]).run Tryz.prog W1= .ok (.tuple #[]) (W1.setCells b (o+(n - 1)*1) (Value.int .i64 0).cells.toList):=fun ty=>by
  have hh1:w.drew.heap[b]? =some (.cells arr T (0,0)):=hh;have:=Aiz (P:=Tryz.prog) W1 25 3 ty (Value.int .i64 0) Tryz.underlying25 Tryz.zeroValue3 b (o+(n - 1)*1) (cap - (n - 1)) (arr:=An arr (o+0*1) news) (T:=T) (by rw[hW1,S9 hh1 (by omega) hn1];exact setRow_heap _ _ _ _ _ _ hh1) (by rw[Dx (by omega)];show _+1<=_;omega) hzc;rw[show n - (n - 1)=1 by omega,show(o+(n - 1))=o+(n - 1)*1 by omega];exact this
 have hW:Hid (W1=w.drew.setCells b (o+0*1) news):=hW1;have X:Aside (W1=w.drew.setCells b (o+0*1) news):=hW1;have hic:1<=cap:=by omega
 have hn0:1<=n:=h0;have hn1i:(1:Int)<=(n:Int):=by omega
 have mixed:Tryz.prog.follows .mixedOrders=true:=by kernel_rfl
 clear hW1 hone e1 hm0 hn1 hnv hnl hh hfit hle
 go_enter Tryz.func266,Tryz.ntmps266
 go_wp2_with fail
 go_region_law_o (refine step_append_room rfl (.tmp 22) (.tmp 25) 25 rfl 3 i0 1 Tryz.underlying25 hi0 hz1 b o 0 cap (by simp[Act.eval,Act.put]) A (n - 1) (cap - 1) news (by simp[Act.eval,Act.put]) s1.out hsrc.out s2.out (by omega) s3.out ?_;rw[<-hW.out])
 go_wp2
 go_ret
 refine⟨?_,d,arr',?_,e2,e3⟩
 ·simp
 ·rw[<-F.out,<-X.out]
  first|done|rfl|(simp[Value.cells];done)|(congr 1;omega)
set_option maxHeartbeats 4000000 in
set_option maxRecDepth 1000000 in
theorem Ayo:Pa Tryz.prog 269 5:=by
 refine⟨⟨_,Tryz.func269,by kernel_rfl,by kernel_rfl⟩,fun b o n cap w arr T hh hfit h0 hn hm0 hone=> ?_⟩;have hm:cap<=9223372036854775807:=by unfold maxLen at hm0;omega
 have e0:(n - 1)*5+5=n*5:=by omega
 have hle:n*5<=cap*5:=Bx _ hn;obtain⟨news,hnl,hnv⟩:=Ai1 (arr:=arr) (o:=o) (es:=5) (m:=(n - 1)*5) (by omega);obtain⟨A,hA,hsrc⟩: ∃A:Addr,(if cap=1 then some (⟨b,o,none⟩:Addr)else some ⟨b,o+5,none⟩)=some A/\Hid (∀(j:Nat) u,news[j]? =some u->w.drew.cell? (A.add j)=some u):=by
  by_cases h:cap=1
  ·refine⟨⟨b,o,none⟩,by simp[h],fun j u hu=> ?_⟩;have:=(Z3.1 hu).1;omega
  ·refine⟨⟨b,o+5,none⟩,by simp[h],fun j u hu=> ?_⟩;rw[Addr.add_lit];exact(Cb hh).trans (hnv j u hu)
 have hn1: ∀u∈news,u.oneCell'=true:=fun u hu=>by
  obtain⟨j,hj⟩:=C6.1 hu;have hjl:=(Z3.1 hj).1;refine hone (5+j) u (by omega) ?_;rw[<-Gi];exact hnv j u hj
 have s1:Hid (news.length=(n - 1)*5):=hnl;have s2:Hid (∀u∈news,u.oneCell'=true):=hn1;have s3:Hid (∀j,j<news.length->(w.drew.cell? ⟨b,o+0*5+j,none⟩).isSome=true/\w.drew.frozen? ⟨b,o+0*5+j,none⟩=false):=fun j hj=>by
  refine⟨?_,?_⟩
  ·show(w.cell? _).isSome=true;rw[Cb hh,Array.getElem?_eq_getElem (by omega)];rfl
  ·show w.frozen? _=false;simp[World.frozen?,hh]
 obtain⟨i0,hi0,hz0,hz1,hz2⟩:=info_parts (show(Tryz.prog.info? 79).map (fun i=>(i.zero,i.size,i.bytes))=some (some (Value.agg #[.int .i64 0,.int .i64 0,.slice none 0 0,.slice none 0 0,.int .i64 0]),5,72) from by kernel_rfl);have hzc: ∀v∈(Value.agg #[.int .i64 0,.int .i64 0,.slice none 0 0,.slice none 0 0,.int .i64 0]).cells.toList,v.oneCell'=true:=by
  intro v hv;simp[Value.cells]at hv;rcases hv with rfl|rfl|rfl<;>rfl
 obtain⟨d,arr',e1,e2,e3⟩:=Ai0 (es:=5) (zc:=(Value.agg #[.int .i64 0,.int .i64 0,.slice none 0 0,.slice none 0 0,.int .i64 0]).cells.toList) hh h0 (by omega) rfl hzc hnl hnv hn1;have F:Aside ((w.drew.setCells b (o+0*5) news).setCells b (o+(n - 1)*5) (Value.agg #[.int .i64 0,.int .i64 0,.slice none 0 0,.slice none 0 0,.int .i64 0]).cells.toList=({w with drawn:=d}:World).setRow b arr'):=e1;obtain⟨W1,hW1⟩: ∃W1,W1=w.drew.setCells b (o+0*5) news:=⟨_,rfl⟩;have hcl: ∀ty,(Builtin.clear_ #[36] ty #[.slice (some ⟨b,(o+(n - 1)*5),none⟩) (n - (n - 1)) (cap - (n - 1))]).run Tryz.prog W1= .ok (.tuple #[]) (W1.setCells b (o+(n - 1)*5) (Value.agg #[.int .i64 0,.int .i64 0,.slice none 0 0,.slice none 0 0,.int .i64 0]).cells.toList):=fun ty=>by
  have hh1:w.drew.heap[b]? =some (.cells arr T (0,0)):=hh;have:=Aiz (P:=Tryz.prog) W1 36 79 ty (Value.agg #[.int .i64 0,.int .i64 0,.slice none 0 0,.slice none 0 0,.int .i64 0]) Tryz.underlying36 Tryz.zeroValue79 b (o+(n - 1)*5) (cap - (n - 1)) (arr:=An arr (o+0*5) news) (T:=T) (by rw[hW1,S9 hh1 (by omega) hn1];exact setRow_heap _ _ _ _ _ _ hh1) (by rw[Dx (by omega)];show _+5<=_;omega) hzc;rw[show n - (n - 1)=1 by omega,show(o+(n - 1)*5)=o+(n - 1)*5 by omega];exact this
 have hW:Hid (W1=w.drew.setCells b (o+0*5) news):=hW1;have X:Aside (W1=w.drew.setCells b (o+0*5) news):=hW1;have hic:1<=cap:=by omega
 have hn0:1<=n:=h0;have hn1i:(1:Int)<=(n:Int):=by omega
 have mixed:Tryz.prog.follows .mixedOrders=true:=by kernel_rfl
 clear hW1 hone e1 hm0 hn1 hnv hnl hh hfit hle
 go_enter Tryz.func269,Tryz.ntmps269
 go_wp2_with fail
 go_region_law_o (refine step_append_room rfl (.tmp 22) (.tmp 25) 36 rfl 79 i0 5 Tryz.underlying36 hi0 hz1 b o 0 cap (by simp[Act.eval,Act.put]) A (n - 1) (cap - 1) news (by simp[Act.eval,Act.put]) s1.out hsrc.out s2.out (by omega) s3.out ?_;rw[<-hW.out])
 go_wp2
 go_ret
 refine⟨?_,d,arr',?_,e2,e3⟩
 ·simp
 ·rw[<-F.out,<-X.out]
  first|done|rfl|(simp[Value.cells];done)|(congr 1;omega)
section
variable {w:World} {vb vo vc:Nat} {news:List Value} {va:Array Value} {vT:TypeId}
theorem Aed:(∃ti,tg tab 36=some ti/\ti.k= .slice 79)/\ ∃te,tg tab 79=some te/\te.size=5/\te.bytes=72/\te.zero.length=5:=⟨⟨_,rfl,rfl⟩,_,rfl,rfl,rfl,rfl⟩
theorem Axq (ty:Nat){b o cap:Nat}{arr:Array Value}{T:TypeId}(hh:w.heap[b]? =some (.cells arr T (0,0)))(hf:o+cap*5<=arr.size)(hc:1<=cap)(hnl:news.length=5)(hv:w.heap[vb]? =some (.cells va vT (0,0)))(hvc: ∀(j:Nat) u,news[j]? =some u->va[vo+j]? =some u)(h1: ∀u∈news,u.oneCell'=true):
  (Builtin.append_ #[36,36] ty #[.slice (some ⟨b,o,none⟩) 0 cap,.slice (some ⟨vb,vo,none⟩) 1 vc]).run Tryz.prog w= .ok (.slice (some ⟨b,o,none⟩) 1 cap) (w.setRow b (An arr o news)):=by
 obtain⟨⟨ti,ht,hk⟩,te,he,hs,hb,hz⟩:=Aed;have hrun:=M3 (ty:=ty) Abj ht hk he w (some ⟨b,o,none⟩) 0 cap (some ⟨vb,vo,none⟩) 1 vc news (by rw[hs];omega) (fun _=>⟨_,rfl,fun j u hj=>by rw[Addr.add_lit];exact(Cb hv).trans (hvc j u hj)⟩) (by omega);have hst:=run_storeCells_at Tryz.prog b (o+0*te.size) T news 0 arr w hh (by omega) h1;simp only[Nat.add_zero]at hst;rw[hrun];simp only;rw[Addr.add_lit];simp only[Sem.run_bind,hst,Result.andThen_ok,Sem.run_pure];rw[show o+0*te.size=o by omega];rfl
theorem Ta (ty:Nat){b o n cap m mc:Nat}{sb so:Nat}{arr sa:Array Value}{T sT:TypeId}{l:List Value}(hh:w.heap[b]? =some (.cells arr T (0,0)))(hf:o+l.length<=arr.size)(hl:l.length=Nat.min m n*5)(hs:w.heap[sb]? =some (.cells sa sT (0,0)))(hsc: ∀(j:Nat) u,l[j]? =some u->sa[so+j]? =some u)(h1: ∀u∈l,u.oneCell'=true):
  (Builtin.copy_ #[36,36] ty #[.slice (some ⟨b,o,none⟩) n cap,.slice (some ⟨sb,so,none⟩) m mc]).run Tryz.prog w= .ok (goInt (Nat.min m n)) (w.setRow b (An arr o l)):=by
 obtain⟨⟨ti,ht,hk⟩,te,he,hs0,hb,hz⟩:=Aed;have hrun:=Afu (ty:=ty) (t':=36) Abj ht hk he w (some ⟨b,o,none⟩) n cap (some ⟨sb,so,none⟩) m mc l (by rw[hs0];exact hl) (fun _=>⟨_,rfl,fun j u hj=>by rw[Addr.add_lit];exact(Cb hs).trans (hsc j u hj)⟩);have hst:=run_storeCells_at Tryz.prog b o T l 0 arr w hh (by omega) h1;simp only[Nat.add_zero]at hst;rw[hrun];simp only[Sem.run_bind,hst,Result.andThen_ok,Sem.run_pure];rfl
set_option maxHeartbeats 4000000 in
set_option maxRecDepth 1000000 in
theorem Axr{b o cap:Nat}{arr:Array Value}{T:TypeId}(hh:w.heap[b]? =some (.cells arr T (0,0)))(hf:o+cap*5<=arr.size)(hc:1<=cap)(hm:cap<=9223372036854775807)(hnl:news.length=5)(hv:w.heap[vb]? =some (.cells va vT (0,0)))(hvc: ∀(j:Nat) u,news[j]? =some u->va[vo+j]? =some u)(h1: ∀u∈news,u.oneCell'=true):
  Calls Tryz.prog 267 #[.slice (some ⟨b,o,none⟩) 0 cap,.int .i64 0,.slice (some ⟨vb,vo,none⟩) 1 vc] w fun e w'=>e= .returned (.slice (some ⟨b,o,none⟩) 1 cap)/\w'=w.setRow b (An arr o news):=by
 have hrun:=fun ty=>Axq (w:=w) ty hh hf hc hnl hv hvc h1 (vc:=vc);clear hh hf hnl hv hvc h1
 go_enter Tryz.func267,Tryz.ntmps267
 go_wp2_with (go_loud (at_builtin;refine Lib.wpList_append_run _ rfl _ _ _ _ rfl _ _ rfl rfl _ _ (hrun _) ?_))
 go_ret
 exact⟨rfl,rfl⟩
set_option maxHeartbeats 4000000 in
set_option maxRecDepth 1000000 in
theorem Axs (A:Option Addr)(hnl:news.length=5)(hv:w.heap[vb]? =some (.cells va vT (0,0)))(hvc: ∀(j:Nat) u,news[j]? =some u->va[vo+j]? =some u):
  Calls Tryz.prog 267 #[.slice A 0 0,.int .i64 0,.slice (some ⟨vb,vo,none⟩) 1 vc] w fun e w'=> ∃arr' g,e= .returned (.slice (some ⟨w.heap.size,0,none⟩) 1 g)/\w'=World.push w.drew arr' 79/\1<=g/\g<=maxLen/\g*5<=arr'.size/\ ∀(j:Nat) u,news[j]? =some u->arr'[j]? =some u:=by
 obtain⟨⟨ti,ht,hk⟩,te,he,hs,hb,hz⟩:=Aed;have key: ∀ty,∃arr,(Builtin.append_ #[36,36] ty #[.slice A 0 0,.slice (some ⟨vb,vo,none⟩) 1 vc]).run Tryz.prog w= .ok (.slice (some ⟨w.heap.size,0,none⟩) (0+1) (grownCap w (0+1) 0 79)) (w.drew.alloc (.cells arr 79))/\arr.size=grownCap w (0+1) 0 79*te.size/\(∀(j:Nat) u,([]++news)[j]? =some u->arr[j]? =some u)/\0+1<=grownCap w (0+1) 0 79/\grownCap w (0+1) 0 79<=maxLen:=fun ty=>
  M4 (ty:=ty) Abj ht hk he (by rw[hz,hs]) w A 0 0 (some ⟨vb,vo,none⟩) 1 vc [] news (by simp) (fun h=>by omega) (by rw[hs];omega) (fun _=>⟨_,rfl,fun j u hj=>by rw[Addr.add_lit];exact(Cb hv).trans (hvc j u hj)⟩) (by omega) (by unfold maxLen;omega) (by rw[hb];omega)
 obtain⟨arr,hrun,k1,k2,k3,k4⟩:=key 36;have fin: ∃arr' g,Go.Ending.returned (.slice (some ⟨w.heap.size,0,none⟩) 1 (grownCap w 1 0 79))= .returned (.slice (some ⟨w.heap.size,0,none⟩) 1 g)/\w.drew.alloc (.cells arr 79)=World.push w.drew arr' 79/\1<=g/\g<=maxLen/\g*5<=arr'.size/\ ∀(j:Nat) u,news[j]? =some u->arr'[j]? =some u:=⟨arr,_,rfl,rfl,k3,k4,by rw[k1,hs];exact Z9 _,k2⟩;clear k1 k2 k3 k4 hv hvc key;cases A with
 |none=>
  go_enter Tryz.func267,Tryz.ntmps267
  go_wp2_with (at_builtin;refine Lib.wpList_append_run _ rfl _ _ _ _ rfl _ _ rfl rfl _ _ hrun ?_)
  go_ret
  exact fin
 |some a=>
  obtain⟨ab,ao,asp⟩:=a
  go_enter Tryz.func267,Tryz.ntmps267
  go_wp2_with (at_builtin;refine Lib.wpList_append_run _ rfl _ _ _ _ rfl _ _ rfl rfl _ _ hrun ?_)
  all_goals (go_ret;exact fin)
theorem Ai2 (w:World){o:Oper}{a:Act}{K:Act->World->Prop}{Q:Exit->Act->World->Prop}(d s:Operand)(t t':TypeId)(ho:o.op= .call {callee:= .builtin .copy,args:= #[d,s],argTypes:= #[t,t']})(v u:Value)(hd:a.eval d=v)(hs:a.eval s=u){v':Value}{w':World}
  (hr:(Builtin.copy_ #[t,t'] o.type #[v,u]).run Tryz.prog w= .ok v' w') (h:K (a.put o.dst v') w'):o.wp Tryz.prog a w K Q:=by
 unfold Oper.wp execOp;simp only[ho,resolve,invoke,builtin,Sem.run_bind,Sem.run_pure,Result.andThen_ok,List.map_toArray,Z8,De,hd,hs,hr];exact h
theorem Axt (w:World){ops:Array Oper}{rest:List Oper}{o:Oper}{a:Act}{Q:Exit->Act->World->Prop}(hgd:o.guard=none)(d s:Operand)(t t':TypeId)(ho:o.op= .call {callee:= .builtin .copy,args:= #[d,s],argTypes:= #[t,t']})(v u:Value)(hd:a.eval d=v)(hs:a.eval s=u){v':Value}{w':World}
  (hr:(Builtin.copy_ #[t,t'] o.type #[v,u]).run Tryz.prog w= .ok v' w') (h:wpList Tryz.prog ops Q rest (a.put o.dst v') w'):wpList Tryz.prog ops Q (o::rest) a w:=
 wpList_plain hgd fun _ hK=>Ai2 w d s t t' ho v u hd hs hr (hK _ _ h)
theorem Ai3{ops:Array Oper}{o:Oper}{a:Act}{w:World}{K:Act->World->Prop}{Q:Exit->Act->World->Prop}{E:Prop}(hg:o.guard=none)(d x:Operand)(t t':TypeId)(hop:o.op=Op.call {callee:=Callee.builtin Builtin.copy,args:= #[d,x],argTypes:= #[t,t']})
  (v u:Value) (hd:a.eval d=v) (hx:a.eval x=u) {v':Value} {w':World} (hr:(Builtin.copy_ #[t,t'] o.type #[v,u]).run Tryz.prog w= .ok v' w') (hK:K (a.put o.dst v') w'):if Region.wanted o (yielded ops a.tmps)=true then Oper.wp Tryz.prog o a w K Q else E:=by
 rw[if_pos (by simp[Region.wanted,hg])];exact Ai2 w d x t t' hop v u hd hx hr hK
set_option maxHeartbeats 4000000 in
set_option maxRecDepth 1000000 in
theorem Axu{b o n cap:Nat}{arr:Array Value}{T:TypeId}{olds:List Value}(hh:w.heap[b]? =some (.cells arr T (0,0)))(hf:o+cap*5<=arr.size)(hn:0<n)(hc:n+1<=cap)(hm:cap<=9223372036854775807)(hne:b≠vb)(hol:olds.length=n*5)(hoc: ∀(j:Nat) u,olds[j]? =some u->arr[o+j]? =some u)(h1o: ∀u∈olds,u.oneCell'=true)
  (hnl:news.length=5) (hv:w.heap[vb]? =some (.cells va vT (0,0))) (hvc: ∀(j:Nat) u,news[j]? =some u->va[vo+j]? =some u) (h1: ∀u∈news,u.oneCell'=true):
  Calls Tryz.prog 267 #[.slice (some ⟨b,o,none⟩) n cap,.int .i64 0,.slice (some ⟨vb,vo,none⟩) 1 vc] w fun e w'=>e= .returned (.slice (some ⟨b,o,none⟩) (n+1) cap)/\w'=w.drew.setRow b (An (An arr (o+5) olds) o news):=by
 have hb1:(An arr (o+5) olds).size=arr.size:=Dx (by omega);have hhd:w.drew.heap[b]? =some (.cells arr T (0,0)):=hh;have hh1:=setRow_heap w.drew b arr (An arr (o+5) olds) T (0,0) hhd;have hcp1: ∀ty dc sc,(Builtin.copy_ #[36,36] ty #[.slice (some ⟨b,o+5,none⟩) n dc,.slice (some ⟨b,o,none⟩) (n+1) sc]).run Tryz.prog w.drew= .ok (goInt n) (w.drew.setRow b (An arr (o+5) olds)):=fun ty dc sc=>by
  have:=Ta (w:=w.drew) ty (n:=n) (cap:=dc) (m:=n+1) (mc:=sc) (sb:=b) (so:=o) (o:=o+5) (l:=olds) hhd (by omega) (by rw[show Nat.min (n+1) n=n from Nat.min_eq_right (by omega)];exact hol) hhd hoc h1o;rwa[show Nat.min (n+1) n=n from Nat.min_eq_right (by omega)]at this
 have hvb:(w.drew.setRow b (An arr (o+5) olds)).heap[vb]? =some (.cells va vT (0,0)):=by rw[setRow_other _ _ _ _ (fun e=>hne e.symm)];exact hv
 have hcp2: ∀ty dc,(Builtin.copy_ #[36,36] ty #[.slice (some ⟨b,o,none⟩) (n+1) dc,.slice (some ⟨vb,vo,none⟩) 1 vc]).run Tryz.prog (w.drew.setRow b (An arr (o+5) olds))= .ok (goInt 1) (w.drew.setRow b (An (An arr (o+5) olds) o news)):=fun ty dc=>by
  have:=Ta (w:=w.drew.setRow b (An arr (o+5) olds)) ty (n:=n+1) (cap:=dc) (m:=1) (mc:=vc) (sb:=vb) (so:=vo) (o:=o) (l:=news) hh1 (by omega) (by rw[show Nat.min 1 (n+1)=1 from Nat.min_eq_left (by omega)];exact hnl) hvb hvc h1;rwa[show Nat.min 1 (n+1)=1 from Nat.min_eq_left (by omega),setRow_setRow]at this
 have hov: ∀lb cb,(callFunc 316 #[.slice (some ⟨vb,vo,none⟩) 1 vc,.slice (some ⟨b,o+5,none⟩) lb cb]).run Tryz.prog w= .ok (.value (.bool false)) w:=fun lb cb=>by
  rw[run_callFunc_extern Tryz.func316 (by kernel_rfl) (by kernel_rfl) (by kernel_rfl) (e:=Extern.SlicesOverlaps.overlaps #[36,36] #[4]) (by kernel_rfl),
   Lib.run_overlaps_apart w 36 4 79 Tryz.underlying36 5 Tryz.sizeOf79 ⟨vb,vo,none⟩ ⟨b,o+5,none⟩ 1 vc lb cb (fun e=>hne e.symm) vT T va.size arr.size (by simp[World.shape?,hv]) (by simp[World.shape?,hh]) (by omega) (by simp[World.frozen?,hv]) (by simp[World.frozen?,hv])]
  rfl
 have mixed:Tryz.prog.follows .mixedOrders=true:=by kernel_rfl
 obtain⟨W1,hW1⟩: ∃W1,W1=w.drew.setRow b (An arr (o+5) olds):=⟨_,rfl⟩;rw[<-hW1]at hcp1 hcp2;have hz2: ¬((0:Int)=(n:Int)):=by omega
 have hz3: ¬((cap:Int)<(n:Int)+1):=by omega
 have hz4:(0:Int)<=(n:Int)+1:=by omega
 have hz5:(n:Int)+1<=(cap:Int):=by omega
 have hz6:((n:Int)+1).toNat=n+1:=by omega
 have hz7: ¬(cap=1):=by omega
 have hz8:(1:Int)<=(n:Int)+1:=by omega
 have hz9: ¬(cap=0):=by omega
 have hw1:IntKind.i64.wrap ((n:Int)+1)=(n:Int)+1:=by rw[IntKind.wrap_i64];omega
 have hw0:IntKind.i64.wrap 1=1:=by decide
 have hw2:n+1 - 1=n:=by omega
 clear hh hf hol hoc h1o hnl hv hvc h1 hvb hh1 hhd hb1 hW1
 go_enter Tryz.func267,Tryz.ntmps267
 go_wp2_with (simp only[hov])
 go_region_law_o (refine Ai3 rfl _ _ 36 36 rfl _ _ (by simp[Act.eval,Act.put]) (by simp[Act.eval,Act.put]) (hcp1 _ _ _) ?_)
 go_wp2_with (at_builtin;refine Axt _ rfl _ _ 36 36 rfl _ _ rfl rfl (hcp2 _ _) ?_)
 go_ret
 exact⟨rfl,rfl⟩
theorem Aee{W:World}{h:Array Obj}{a x:Array Value}{T:TypeId}(e:W.heap=h.push (.cells a T)):(W.setRow h.size x).heap=h.push (.cells x T):=by
 simp only[World.setRow];rw[e];apply Array.ext_getElem?;intro i;rw[Array.getElem?_modify,Array.getElem?_push,Array.getElem?_push];by_cases hi:i=h.size
 ·subst hi;simp
 ·rw[if_neg (fun e=>hi e.symm),if_neg hi,if_neg hi]
theorem Axv{w w':World}{arr:Array Value}{T:TypeId}(h:w'.heap=w.heap.push (.cells arr T))(h1:w'.os=w.os)(h2:w'.tape=w.tape)(h3:w'.output=w.output):w'=World.push ({w with drawn:=w'.drawn}:World) arr T:=by
 cases w';simp_all[World.push]
set_option maxHeartbeats 4000000 in
set_option maxRecDepth 1000000 in
theorem Axw{b o n cap:Nat}{arr:Array Value}{T:TypeId}{olds:List Value}(hh:w.heap[b]? =some (.cells arr T (0,0)))(hn:0<n)(hnc:n<=cap)(hc:cap<n+1)(hm:cap<=maxLen)(hbig:(n+1)*72<=140737488355328)(hol:olds.length=n*5)(hoc: ∀(j:Nat) u,olds[j]? =some u->arr[o+j]? =some u)(h1o: ∀u∈olds,u.oneCell'=true)
  (hnl:news.length=5) (hv:w.heap[vb]? =some (.cells va vT (0,0))) (hvc: ∀(j:Nat) u,news[j]? =some u->va[vo+j]? =some u) (h1: ∀u∈news,u.oneCell'=true):
  Calls Tryz.prog 267 #[.slice (some ⟨b,o,none⟩) n cap,.int .i64 0,.slice (some ⟨vb,vo,none⟩) 1 vc] w fun e w'=> ∃d arr' g T,e= .returned (.slice (some ⟨w.heap.size,0,none⟩) (n+1) g)/\w'=World.push ({w with drawn:=d}:World) arr' T/\n+1<=g/\g<=maxLen/\g*5<=arr'.size/\ ∀(j:Nat) u,(news++olds)[j]? =some u->arr'[j]? =some u:=by
 obtain⟨i0,hi0,hz0,hzs,hzb⟩:=info_parts (show(Tryz.prog.info? 79).map (fun i=>(i.zero,i.size,i.bytes))=some (some (Value.agg #[.int .i64 0,.int .i64 0,.slice none 0 0,.slice none 0 0,.int .i64 0]),5,72) from by kernel_rfl);have hbs:b<w.heap.size:=Kl hh;have hvs:vb<w.heap.size:=Kl hv;have hold:(Builtin.firstCells i0.size 0 (.slice (some ⟨b,o,none⟩) 0 cap)).run Tryz.prog w.drew= .ok ([]:List Value).toArray w.drew:=run_firstCells_some w.drew i0.size 0 ⟨b,o,none⟩ 0 cap [] (by simp) (fun j v hj=>by simp at hj);obtain⟨G,hG⟩: ∃G,G=grownCap w (n+1) cap 79:=⟨_,rfl⟩;have hGn:n+1<=G:=by rw[hG];exact grownCap_ge w _ _ _
 have hGm:G<=maxLen:=by rw[hG];exact grownCap_le_maxLen w (n+1) cap 79 (by unfold maxLen;omega)
 have hrz: ∀ty,(Builtin.append_ #[36,3] ty #[.slice (some ⟨b,o,none⟩) 0 cap,.int .i64 ((n:Int)+1)]).run Tryz.prog w= .ok (.slice (some ⟨w.heap.size,0,none⟩) (n+1) G) (w.drew.alloc (.cells (([]:List Value).toArray++Builtin.zeroCells (Value.agg #[.int .i64 0,.int .i64 0,.slice none 0 0,.slice none 0 0,.int .i64 0]).cells (n+1)++Builtin.zeroCells (Value.agg #[.int .i64 0,.int .i64 0,.slice none 0 0,.slice none 0 0,.int .i64 0]).cells (G - (n+1))) 79)):=fun ty=>by
  have h:=Lib.run_append_grow_zeros w 36 3 ty 79 i0 _ .i64 .i64 Tryz.underlying36 Tryz.underlying3 hi0 hz0 (some ⟨b,o,none⟩) 0 cap [] hold (n+1) (by omega) (by omega) (by omega) (by omega) (by rw[hzb];omega) (by rw[hzb,Nat.zero_add];exact growslice_fits hc hbig);rw[Nat.zero_add,<-hG]at h;exact h
 obtain⟨ROW,hROW⟩: ∃ROW:Array Value,ROW=([]:List Value).toArray++Builtin.zeroCells (Value.agg #[.int .i64 0,.int .i64 0,.slice none 0 0,.slice none 0 0,.int .i64 0]).cells (n+1)++Builtin.zeroCells (Value.agg #[.int .i64 0,.int .i64 0,.slice none 0 0,.slice none 0 0,.int .i64 0]).cells (G - (n+1)):=⟨_,rfl⟩;rw[<-hROW]at hrz;have hRl:ROW.size=G*5:=by
  rw[hROW];simp[Builtin.zeroCells,Value.cells];omega
 have hcpA: ∀(W:World),W.heap=w.heap.push (.cells ROW 79)-> ∀ty dc,(Builtin.copy_ #[36,36] ty #[.slice (some ⟨w.heap.size,0,none⟩) (n+1) dc,.slice (some ⟨vb,vo,none⟩) 1 vc]).run Tryz.prog W= .ok (goInt 1) (W.setRow w.heap.size (An ROW 0 news)):=fun W hW ty dc=>by
  have:=Ta (w:=W) ty (n:=n+1) (cap:=dc) (m:=1) (mc:=vc) (sb:=vb) (so:=vo) (b:=w.heap.size) (o:=0) (l:=news) (arr:=ROW) (T:=79) (by rw[hW];simp) (by omega) (by rw[show Nat.min 1 (n+1)=1 from Nat.min_eq_left (by omega)];exact hnl) (sa:=va) (sT:=vT) (by rw[hW,Array.getElem?_push,if_neg (by omega)];exact hv) hvc h1;rwa[show Nat.min 1 (n+1)=1 from Nat.min_eq_left (by omega)]at this
 have hs1:(An ROW 0 news).size=ROW.size:=Dx (by omega);have hcpB: ∀(W:World),W.heap=w.heap.push (.cells (An ROW 0 news) 79)-> ∀ty dc sc,(Builtin.copy_ #[36,36] ty #[.slice (some ⟨w.heap.size,5,none⟩) n dc,.slice (some ⟨b,o,none⟩) n sc]).run Tryz.prog W= .ok (goInt n) (W.setRow w.heap.size (An (An ROW 0 news) 5 olds)):=fun W hW ty dc sc=>by
  have:=Ta (w:=W) ty (n:=n) (cap:=dc) (m:=n) (mc:=sc) (sb:=b) (so:=o) (b:=w.heap.size) (o:=5) (l:=olds) (arr:=An ROW 0 news) (T:=79) (by rw[hW];simp) (by omega) (by rw[show Nat.min n n=n from Nat.min_self n];exact hol) (sa:=arr) (sT:=T) (by rw[hW,Array.getElem?_push,if_neg (by omega)];exact hh) hoc h1o;rwa[show Nat.min n n=n from Nat.min_self n]at this
 have fin: ∀w':World,w'.heap=w.heap.push (.cells (An (An ROW 0 news) 5 olds) 79)->w'.os=w.os->w'.tape=w.tape->w'.output=w.output-> ∃d arr' g T,Go.Ending.returned (.slice (some ⟨w.heap.size,0,none⟩) (n+1) G)= .returned (.slice (some ⟨w.heap.size,0,none⟩) (n+1) g)/\w'=World.push ({w with drawn:=d}:World) arr' T/\n+1<=g/\g<=maxLen/\g*5<=arr'.size/\ ∀(j:Nat) u,(news++olds)[j]? =some u->arr'[j]? =some u:=fun w' e1 e2 e3 e4=>by
  refine⟨_,_,G,79,rfl,Axv e1 e2 e3 e4,hGn,hGm,by rw[Dx (by omega),hs1,hRl];exact Z9 _,fun j u hj=> ?_⟩;rw[Eh (by omega)];rcases Bj j 5 with q|q
  ·rw[if_neg (by omega),Eh (by omega),if_pos (by omega)];rw[D5 (by omega)]at hj;exact hj
  ·rw[C4 (by omega),hnl]at hj;have hjl:=(Z3.1 hj).1;rw[if_pos (by omega)];exact hj
 have mixed:Tryz.prog.follows .mixedOrders=true:=by kernel_rfl
 have hz2: ¬((0:Int)=(n:Int)):=by omega
 have hz3:(cap:Int)<(n:Int)+1:=by omega
 have hz4:(0:Int)<=(n:Int)+1:=by omega
 have hz6:((n:Int)+1).toNat=n+1:=by omega
 have hz7: ¬(G=1):=by omega
 have hz8:(1:Int)<=(n:Int)+1:=by omega
 have hz9: ¬(G=0):=by omega
 have hza: ¬(cap=0):=by omega
 have hzb1:(0:Int)<=(n:Int):=by omega
 have hn63:n+1<=9223372036854775807:=by omega
 have hw1:IntKind.i64.wrap ((n:Int)+1)=(n:Int)+1:=by rw[IntKind.wrap_i64];omega
 have hw0:IntKind.i64.wrap 1=1:=by decide
 have hw2:n+1 - 1=n:=by omega
 have hA: ∀ty dc,(Builtin.copy_ #[36,36] ty #[.slice (some ⟨w.heap.size,0,none⟩) (n+1) dc,.slice (some ⟨vb,vo,none⟩) 1 vc]).run Tryz.prog (w.alloc (.cells ROW 79)).drew= .ok (goInt 1) ((w.alloc (.cells ROW 79)).drew.setRow w.heap.size (An ROW 0 news)):=fun ty dc=>hcpA _ rfl ty dc
 have hB: ∀ty dc sc,(Builtin.copy_ #[36,36] ty #[.slice (some ⟨w.heap.size,5,none⟩) n dc,.slice (some ⟨b,o,none⟩) n sc]).run Tryz.prog ((w.alloc (.cells ROW 79)).drew.setRow w.heap.size (An ROW 0 news)).drew= .ok (goInt n) (((w.alloc (.cells ROW 79)).drew.setRow w.heap.size (An ROW 0 news)).drew.setRow w.heap.size (An (An ROW 0 news) 5 olds)):=fun ty dc sc=>hcpB ((w.alloc (.cells ROW 79)).drew.setRow w.heap.size (An ROW 0 news)).drew (Aee (W:=(w.alloc (.cells ROW 79)).drew) rfl) ty dc sc
 clear hROW hG hRl hs1 hh hol hoc h1o hnl hv hvc h1 hold hcpA hcpB
 go_enter Tryz.func267,Tryz.ntmps267
 go_wp2_with (at_builtin;refine Lib.wpList_append_run _ rfl _ _ _ _ rfl _ _ rfl rfl _ _ (hrz _) ?_)
 go_region_law_o (refine Ai3 rfl _ _ 36 36 rfl _ _ (by simp[Act.eval,Act.put]) (by simp[Act.eval,Act.put]) (hB _ _ _) ?_)
 go_wp2
 go_ret
 exact fin _ (Aee (W:=((w.alloc (.cells ROW 79)).drew.setRow w.heap.size (An ROW 0 news)).drew) (Aee (W:=(w.alloc (.cells ROW 79)).drew) rfl)) rfl rfl rfl
end
theorem Ayp:Sq Tryz.prog 267 5 72:=by
 refine⟨⟨_,Tryz.func267,by kernel_rfl,by kernel_rfl⟩,fun A n cap vb vo vc w olds news va vT hn hm hA hol hnl hv hvf hvc h1o h1 hbig hml=> ?_⟩;rcases Cz cap with h0|h0
 ·subst h0;have hn0:n=0:=by omega
  subst hn0;have ho:olds=[]:=Ec.1 (by omega);subst ho;refine(Axs A hnl hv hvc (w:=w) (vc:=vc)).mono ?_;rintro e w' ⟨arr',g,rfl,rfl,g1,g2,g3,g4⟩;exact .inr ⟨_,arr',g,_,rfl,rfl,g1,g2,g3,fun j u hj=>g4 j u (by simpa using hj)⟩
 obtain⟨b,o,arr,T,rfl,hne,hh,hf,hoc⟩:=hA h0;have hm2:cap<=9223372036854775807:=by unfold maxLen at hm;omega
 rcases Cz n with hn0|hn0
 ·subst hn0;have ho:olds=[]:=Ec.1 (by omega);subst ho;refine(Axr hh hf (by omega) hm2 hnl hv hvc h1 (vc:=vc)).mono ?_
  rintro e w' ⟨rfl,rfl⟩;refine .inl ⟨b,o,arr,T,w.drawn,_,rfl,hh,by omega,rfl,rfl,Dx (by omega),fun j u hj=> ?_⟩
  have hj:news[j]? =some u:=by simpa using hj
  have:=(Z3.1 hj).1;rw[Eh (by omega),if_pos (by omega),show o+j - o=j by omega];exact hj
 rcases Bj cap (n+1)with hr|hr
 ·refine(Axw hh hn0 hn hr hm hbig hol hoc h1o hnl hv hvc h1 (vc:=vc)).mono ?_;rintro e w' ⟨d,arr',g,T',rfl,rfl,g1,g2,g3,g4⟩;exact .inr ⟨d,arr',g,T',rfl,rfl,g1,g2,g3,g4⟩
 ·refine(Axu hh hf hn0 hr hm2 hne hol hoc h1o hnl hv hvc h1 (vc:=vc)).mono ?_;rintro e w' ⟨rfl,rfl⟩;have hs1:(An arr (o+5) olds).size=arr.size:=Dx (by omega);refine .inl ⟨b,o,arr,T,w.drawn+1,_,rfl,hh,hr,rfl,rfl,(Dx (by omega)).trans hs1,fun j u hj=> ?_⟩;rw[Eh (by omega)];rcases Bj j 5 with q|q
  ·rw[if_pos (by omega),show o+j - o=j by omega];rw[D5 (by omega)]at hj;exact hj
  ·rw[if_neg (by omega),Eh (by omega)];rw[C4 (by omega),hnl]at hj;have hjl:=(Z3.1 hj).1;rw[if_pos (by omega),show o+j - (o+5)=j - 5 by omega];exact hj
set_option maxHeartbeats 4000000 in
set_option maxRecDepth 1000000 in
theorem Ayq:Abh Tryz.prog 209:=by
 refine⟨⟨_,Tryz.func209,by kernel_rfl,by kernel_rfl⟩,fun b o n cap x y c0 c2 c3 c4 c5 s k w h1 h2 h3 hn hm0=> ?_⟩;have hm:cap<=9223372036854775807:=by unfold maxLen at hm0;omega
 obtain⟨lo,hlo⟩: ∃lo:Nat,IntKind.i64.wrap (k*s)=lo:=⟨_,(Int.toNat_of_nonneg h1).symm⟩;obtain⟨t,ht⟩: ∃t,IntKind.i64.wrap (k+1)=t:=⟨_,rfl⟩;obtain⟨hi,hhi⟩: ∃hi:Nat,IntKind.i64.wrap (t*s)=hi:=⟨_,by rw[<-ht];exact(Int.toNat_of_nonneg (Int.le_trans h1 (Int.le_of_lt h2))).symm⟩;have e1:Ci .i64 k s=(lo:Int):=hlo;have e2:Ci .i64 (Fp .i64 k 1) s=(hi:Int):=by show IntKind.i64.wrap (IntKind.i64.wrap (k+1)*s)=_;rw[ht];exact hhi
 rw[e1,e2]at h2;rw[e2]at h3;rw[e1,e2];have q1:lo<hi:=by omega
 have q2:hi<=n:=by omega
 have q3: ¬(cap=lo):=by omega
 have q4:(lo:Int)<=(hi:Int):=by omega
 have q5:(hi:Int)<=(cap:Int):=by omega
 have q6:lo<=hi:=by omega
 have q7:hi<=cap:=by omega
 clear e1 e2 h1 hm0
 go_enter Tryz.func209,Tryz.ntmps209
 go_wp2
 go_ret
 refine⟨by simp,rfl,rfl,rfl,?_,fun b hb=> ?_⟩
 ·show w.heap.size<=((w.heap.push _).push _).size;simp only[Array.size_push];omega
 ·show((w.heap.push _).push _)[b]? =_;simp only[Array.getElem?_push,Array.size_push];rw[if_neg (by omega),if_neg (by omega)]
end Go.Proofs.YtgcnddnmhllahaaGreat
